import Derived.Test.YtkbaddopgdfafaaP0
import Derived.Test.YtkbaddopgdfafaaL4
import Derived.Test.YtkbaddopgdfafaaG8
namespace Go.Proofs.Ytkbaddopgdfafaa
open Go.ChangeShapes Go.WideShapes Go.ChangeAt Go.RowKit Go.Proofs.Besom

theorem Try.cells2 : Try.prog.cellsOf 2 = 1 := by kernel_rfl
theorem Try.bytes2 : Try.prog.bytesOf 2 = 8 := by kernel_rfl
theorem Try.cells50 : Try.prog.cellsOf 50 = 4 := by kernel_rfl
theorem Try.cells76 : Try.prog.cellsOf 76 = 4 := by kernel_rfl
theorem Try.bytes76 : Try.prog.bytesOf 76 = 4 := by kernel_rfl
abbrev ddKinds : List IntKind := [.u8, .u8, .u8, .u8]

theorem dd_ok {a b c e : Int} (h : ∀ (j : Nat) (k : IntKind) (z : Int), ddKinds[j]? = some k → [a, b, c, e][j]? = some z → (Lit.int k z).wf = true) : (⟨a, b, c, e⟩ : Dd).ok :=
  ⟨u8_bounds (h 0 .u8 a rfl rfl), u8_bounds (h 1 .u8 b rfl rfl), u8_bounds (h 2 .u8 c rfl rfl), u8_bounds (h 3 .u8 e rfl rfl)⟩

abbrev ddCells (d : Dd) : List Value := [.int .u8 d.kind, .int .u8 d.who, .int .u8 d.n, .int .u8 d.lim]

theorem dds_of {rs : List (List Int)} (h : ∀ r ∈ rs, r.length = 4 ∧ ∀ (j : Nat) (k : IntKind) (z : Int), ddKinds[j]? = some k → r[j]? = some z → (Lit.int k z).wf = true) :
    ∃ l : List Dd, l.length = rs.length ∧ rs.flatMap (intCells ddKinds) = l.flatMap ddCells ∧ ∀ d ∈ l, d.ok := by
  induction rs with
  | nil => exact ⟨[], rfl, rfl, by simp⟩
  | cons r rs ih =>
    obtain ⟨l, hl, he, ho⟩ := ih (fun r hr => h r (by simp [hr]))
    obtain ⟨hr4, hw⟩ := h r (by simp)
    obtain ⟨a, b, c, d, rfl⟩ := list4 hr4
    refine ⟨⟨a, b, c, d⟩ :: l, by simp [hl], by simp only [List.flatMap_cons, he]; rfl, fun x hx => ?_⟩
    rcases List.mem_cons.1 hx with rfl | hx
    · exact dd_ok hw
    · exact ho x hx

theorem i64_bounds {x : Int} (h : (Lit.int .i64 x).wf = true) : -9223372036854775808 ≤ x ∧ x ≤ 9223372036854775807 := by
  have hmin : IntKind.i64.min = -9223372036854775808 := rfl
  have hmax : IntKind.i64.max = 9223372036854775807 := rfl
  simp only [Lit.wf, Bool.and_eq_true, decide_eq_true_eq] at h
  omega
theorem u16_bounds {x : Int} (h : (Lit.int .u16 x).wf = true) : 0 ≤ x ∧ x ≤ 65535 := by
  have hmin : IntKind.u16.min = 0 := rfl
  have hmax : IntKind.u16.max = 65535 := rfl
  simp only [Lit.wf, Bool.and_eq_true, decide_eq_true_eq] at h
  omega
end Go.Proofs.Ytkbaddopgdfafaa
