/- For every two lists of bytes the law PickApart returns true, and what was there reads as before. No condition. -/
import Derived.Test.YtkbaddopgdfafabK27
import Derived.Test.YtkbaddopgdfafabPK0
namespace Go.Proofs.Ytkbaddopgdfafab
open Go.ChangeShapes Go.WideShapes Go.ChangeAt Go.RowKit Go.Proofs.Besom

set_option maxRecDepth 100000 in
theorem pickApart_lifted (os : Os) (started : os.Started) (H : Type) (enc : TypeId × Value → H) :
    ReturnsInHanded {} Try.checked os 9 .any (Rows.pickApartSpec.pre6 enc Try.prog Try.f9 Rows.pickApartRow.domain false) (Rows.pickApartSpec.post enc Try.prog Try.f9 false true false false) := by
  refine law_lift (C := Try.checked) Try.own started (by kernel_rfl) Try.func9 Try.laidOut (by kernel_rfl) rfl Try.underlying4 rfl
    (fun ds h => by match ds, h with | [a, b], _ => rfl)
    (ChangeSpec.witness6 (enc := enc) (C := Try.checked) false ⟨#[], #[.slice none 0 0, .slice none 0 0], []⟩ 8 (by kernel_rfl) (by kernel_rfl) (by kernel_rfl) (by kernel_rfl)) ?_
  intro W base args ds ps hval0 hA0 hsz0
  have hval : ∀ (j : Nat) t v, Try.f9.params[j]? = some t → args[j]? = some v → Value.okWide Try.prog W .any base t v := hval0
  have hA : DataW.TrodAll enc Try.prog W 0 (fun _ => true) true Try.f9.params.toList args.toList ds ps := hA0
  have hsz : (DataW.weightsEach Try.prog Try.f9.params.toList ds).all (· ≤ reachBytes) = true := hsz0
  clear hval0 hA0 hsz0
  rw [Try.params9] at hA hval hsz
  obtain ⟨v0, vs0, d0, ds0, p0, q0, hargs, rfl, rfl, h0, r0_⟩ := trodAll_cons hA
  obtain ⟨v1, vs1, d1, ds1, p1, q1, rfl, rfl, rfl, h1, r1_⟩ := trodAll_cons r0_
  obtain ⟨rfl, rfl, rfl⟩ := trodAll_nil r1_
  obtain rfl : args = #[v0, v1] := by cases args; simp_all
  have hcap0 := h0
  obtain ⟨A0, n0, c0, xs0, rfl, hr0, hw0, hn0⟩ := open_row hsz (j := 0) rfl rfl Try.underlying46 Try.underlying5 Try.cells5 Try.bytes5 (hval 0 46 v0 rfl rfl) h0
  replace hcap0 := slice_cap Try.underlying46 hcap0
  have hcap1 := h1
  obtain ⟨A1, n1, c1, xs1, rfl, hr1, hw1, hn1⟩ := open_row hsz (j := 1) rfl rfl Try.underlying46 Try.underlying5 Try.cells5 Try.bytes5 (hval 1 46 v1 rfl rfl) h1
  replace hcap1 := slice_cap Try.underlying46 hcap1
  exact papart9 A0 A1 n0 n1 c0 c1 (min n0 500) (min n1 500) xs0 xs1 W hr0 hr1 (by omega) (by omega) hcap0 hcap1 (fun x hx => u8_bounds (hw0 x hx)) (fun x hx => u8_bounds (hw1 x hx)) (by omega) (by omega)

theorem pickApart_holds : Rows.PickApartSaid :=
  OpenClaim.holds_of_wide 9 Try.f9 rfl rfl rfl rfl rfl rfl rfl ⟨rfl, rfl, rfl, rfl, rfl⟩ rfl rfl rfl rfl rfl (by kernel_rfl) Try.func9 (by kernel_rfl)
    (of_decide_eq_true (by kernel_rfl)) (by unfold Func.isWrapper; first | (rw [if_pos (by decide +kernel)]; kernel_rfl) | (rw [if_neg (by decide +kernel)]; exact ⟨rfl, rfl⟩))
    (fun os started H enc _ => pickApart_lifted os started H enc)
end Go.Proofs.Ytkbaddopgdfafab
