import Derived.Test.YtkbaddopgdfafaaRows
import Derived.Test.YtkbaddopgdfafaaL3
namespace Go.Proofs.Ytkbaddopgdfafaa
open Go.ChangeShapes Go.WideShapes Go.ChangeAt Go.RowKit Go.Proofs.Besom

theorem Try.own : ownKnob Try.prog.godebug = none := by kernel_rfl
theorem Try.laidOut : laidOutB Try.prog = true := by kernel_rfl
theorem Try.cells24 : Try.prog.cellsOf 24 = 1 := by kernel_rfl
theorem Try.bytes24 : Try.prog.bytesOf 24 = 8 := by kernel_rfl
theorem Try.cells26 : Try.prog.cellsOf 26 = 4 := by kernel_rfl
theorem Try.bytes26 : Try.prog.bytesOf 26 = 32 := by kernel_rfl
abbrev opKinds : List IntKind := [.i64, .i64, .u64, .u64]

theorem length_bulk {H : Type} (l : List (DataW H)) : l.length ≤ Rows.uptoBulkAll l := by
  induction l with
  | nil => simp
  | cons x r ih =>
    have h1 : 1 ≤ Rows.uptoBulk x := by
      cases x with
      | lit l => cases l <;> simp [Rows.uptoBulk]
      | _ => simp [Rows.uptoBulk]
    simp only [Rows.uptoBulkAll, List.length_cons]; omega

theorem slice_bulk {H : Type} {el sp : List (DataW H)} {ds : List (DataW H)} (h : DataW.slice el sp ∈ ds) : el.length ≤ Rows.uptoBulkAll ds := by
  induction ds with
  | nil => cases h
  | cons x r ih =>
    simp only [Rows.uptoBulkAll]
    rcases List.mem_cons.1 h with e | e
    · subst e
      have := length_bulk el
      simp only [Rows.uptoBulk]; omega
    · have := ih e; omega

theorem deeds_of {rs : List (List Int)} (h : ∀ r ∈ rs, r.length = 4) : ∃ l : List (Int × Int × Int × Int), l.length = rs.length ∧ rs.flatMap (intCells opKinds) = l.flatMap (fun o => [.int .i64 o.1, .int .i64 o.2.1, .int .u64 o.2.2.1, .int .u64 o.2.2.2]) := by
  induction rs with
  | nil => exact ⟨[], rfl, rfl⟩
  | cons r rs ih =>
    obtain ⟨l, hl, he⟩ := ih (fun r hr => h r (by simp [hr]))
    obtain ⟨a, b, c, d, rfl⟩ := list4 (h r (by simp))
    exact ⟨(a, b, c, d) :: l, by simp [hl], by simp only [List.flatMap_cons, he]; rfl⟩

theorem u64_bounds {x : Int} (h : (Lit.int .u64 x).wf = true) : 0 ≤ x ∧ x ≤ 18446744073709551615 := by
  have hmin : IntKind.u64.min = 0 := rfl
  have hmax : IntKind.u64.max = 18446744073709551615 := rfl
  simp only [Lit.wf, Bool.and_eq_true, decide_eq_true_eq] at h
  omega
theorem u8_bounds {x : Int} (h : (Lit.int .u8 x).wf = true) : 0 ≤ x ∧ x ≤ 255 := by
  have hmin : IntKind.u8.min = 0 := rfl
  have hmax : IntKind.u8.max = 255 := rfl
  simp only [Lit.wf, Bool.and_eq_true, decide_eq_true_eq] at h
  omega
end Go.Proofs.Ytkbaddopgdfafaa
