import Derived.Test.YtkbaddopgdfafabRows
import Derived.Test.YtkbaddopgdfafabL3
import Derived.Test.YtkbaddopgdfafabK10
namespace Go.Proofs.Ytkbaddopgdfafab
open Go.ChangeShapes Go.WideShapes Go.ChangeAt Go.RowKit Go.Proofs.Besom

theorem Try.own : ownKnob Try.prog.godebug = none := by kernel_rfl
theorem Try.laidOut : laidOutB Try.prog = true := by kernel_rfl
theorem Try.bytes32 : Try.prog.bytesOf 32 = 16 := by kernel_rfl
theorem Try.cells5 : Try.prog.cellsOf 5 = 1 := by kernel_rfl
theorem Try.bytes5 : Try.prog.bytesOf 5 = 1 := by kernel_rfl
abbrev pickKinds : List IntKind := [.i64, .i64]

theorem fields2 {P : Program} {f0 f1 : Field} {k0 k1 : IntKind} (h0 : P.underlying f0.type = some (.int k0)) (h1 : P.underlying f1.type = some (.int k1)) :
    ∀ (j : Nat) (f : Field), #[f0, f1][j]? = some f → P.underlying f.type = ([k0, k1][j]?).map TypeDesc.int := by
  intro j f hj
  match j, hj with
  | 0, hj => simp at hj; subst hj; simpa using h0
  | 1, hj => simp at hj; subst hj; simpa using h1
  | j + 2, hj => simp at hj

theorem list2 {α : Type} {r : List α} (h : r.length = 2) : ∃ a b, r = [a, b] := by
  match r, h with
  | [a, b], _ => exact ⟨a, b, rfl⟩

theorem picks_of {rs : List (List Int)} (h : ∀ r ∈ rs, r.length = pickKinds.length ∧ ∀ (j : Nat) (k : IntKind) (z : Int), pickKinds[j]? = some k → r[j]? = some z → (Lit.int k z).wf = true) :
    ∃ l : List (Int × Int), l.length = rs.length ∧ (∀ p ∈ l, wfP p) ∧ rs.flatMap (intCells pickKinds) = picksV l := by
  induction rs with
  | nil => exact ⟨[], rfl, by simp, rfl⟩
  | cons r rs ih =>
    obtain ⟨l, hl, hw, he⟩ := ih (fun r hr => h r (by simp [hr]))
    obtain ⟨h1, h2⟩ := h r (by simp)
    obtain ⟨a, b, rfl⟩ := list2 h1
    refine ⟨(a, b) :: l, by simp [hl], ?_, ?_⟩
    · intro p hp
      rcases List.mem_cons.1 hp with rfl | hp
      · exact ⟨h2 0 .i64 a rfl rfl, h2 1 .i64 b rfl rfl⟩
      · exact hw p hp
    · simp only [List.flatMap_cons, he, picksV]; rfl

section
variable {H : Type} {enc : TypeId × Value → H}
theorem slice_cap {P : Program} {W : World} {t e : TypeId} {A : Option Addr} {n c : Nat} {d : DataW H} {ps : List MemPlace} (ht : P.underlying t = some (.slice e))
    (h : DataW.Trod enc P W 0 (fun _ => true) true t (.slice A n c) d ps) : n ≤ c := by
  obtain ⟨fuel, hf⟩ := h
  rcases Go.Deep.open_slice ht hf with ⟨hcs, _⟩ | ⟨a, l, c, m, n, D, Pl, hcs, _, hl, hm, hmm, hx, hi⟩
  · simp [Value.cells] at hcs
    omega
  · simp [Value.cells] at hcs
    obtain ⟨rfl, rfl, rfl⟩ := hcs
    exact hl
end

theorem length_bulk {H : Type} (l : List (DataW H)) : l.length ≤ Rows.uptoBulkAll l := by
  induction l with
  | nil => simp
  | cons x r ih =>
    have h1 : 1 ≤ Rows.uptoBulk x := by
      cases x with
      | lit l => cases l <;> simp [Rows.uptoBulk]
      | _ => simp [Rows.uptoBulk]
    simp only [Rows.uptoBulkAll, List.length_cons]; omega

theorem slice_bulk {H : Type} {el sp : List (DataW H)} {ds : List (DataW H)} (h : DataW.slice el sp ∈ ds) : el.length ≤ Rows.uptoBulkAll ds := by
  induction ds with
  | nil => cases h
  | cons x r ih =>
    simp only [Rows.uptoBulkAll]
    rcases List.mem_cons.1 h with e | e
    · subst e
      have := length_bulk el
      simp only [Rows.uptoBulk]; omega
    · have := ih e; omega
theorem u8_bounds {x : Int} (h : (Lit.int .u8 x).wf = true) : 0 ≤ x ∧ x ≤ 255 := by
  have hmin : IntKind.u8.min = 0 := rfl
  have hmax : IntKind.u8.max = 255 := rfl
  simp only [Lit.wf, Bool.and_eq_true, decide_eq_true_eq] at h
  omega
end Go.Proofs.Ytkbaddopgdfafab
