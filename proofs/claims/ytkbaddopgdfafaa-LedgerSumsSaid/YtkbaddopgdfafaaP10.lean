/- For every number of mutators and every list of deeds the law LedgerSums returns true, and what was there reads as before. No condition. -/
import Derived.Test.YtkbaddopgdfafaaG13
import Derived.Test.YtkbaddopgdfafaaPL0
import Derived.Test.YtkbaddopgdfafaaP0
namespace Go.Proofs.Ytkbaddopgdfafaa
open Go.ChangeShapes Go.WideShapes Go.ChangeAt Go.RowKit Go.Proofs.Besom

set_option maxRecDepth 100000 in
theorem ledgerSums_lifted (os : Os) (started : os.Started) (H : Type) (enc : TypeId × Value → H) :
    ReturnsInHanded {} Try.checked os 10 .any (Rows.ledgerSumsSpec.pre6 enc Try.prog Try.f10 Rows.ledgerSumsRow.domain false) (Rows.ledgerSumsSpec.post enc Try.prog Try.f10 false true false false) := by
  refine law_lift (C := Try.checked) Try.own started (by kernel_rfl) Try.func10 Try.laidOut (by kernel_rfl) rfl Try.underlying4 rfl
    (fun ds h => by match ds, h with | [a, b], _ => rfl)
    (ChangeSpec.witness6 (enc := enc) (C := Try.checked) false ⟨#[], #[.int .u8 0, .slice none 0 0], []⟩ 8 (by kernel_rfl) (by kernel_rfl) (by kernel_rfl) (by kernel_rfl)) ?_
  intro W base args ds ps hval0 hA0 hsz0
  have hval : ∀ (j : Nat) t v, Try.f10.params[j]? = some t → args[j]? = some v → Value.okWide Try.prog W .any base t v := hval0
  have hA : DataW.TrodAll enc Try.prog W 0 (fun _ => true) true Try.f10.params.toList args.toList ds ps := hA0
  have hsz : (DataW.weightsEach Try.prog Try.f10.params.toList ds).all (· ≤ reachBytes) = true := hsz0
  clear hval0 hA0 hsz0
  rw [Try.params10] at hA hval hsz
  obtain ⟨v0, vs0, d0, ds0, p0, q0, hargs, rfl, rfl, h0, r0_⟩ := trodAll_cons hA
  obtain ⟨v1, vs1, d1, ds1, p1, q1, rfl, rfl, rfl, h1, r1_⟩ := trodAll_cons r0_
  obtain ⟨rfl, rfl, rfl⟩ := trodAll_nil r1_
  obtain rfl : args = #[v0, v1] := by cases args; simp_all
  obtain ⟨x0, rfl, rfl, rfl, wx0⟩ := open_int Try.underlying5 (hval 0 5 v0 rfl rfl) h0
  obtain ⟨g0, l0⟩ := u8_bounds wx0
  obtain ⟨A1, n1, c1, rs1, rfl, hr1, hw1, hn1, hl1⟩ := open_rows hsz (j := 1) (ks := ddKinds) rfl rfl Try.underlying74 Try.underlying76 (by kernel_rfl) Try.cells76 rfl (by decide) (fields4 Try.underlying5 Try.underlying5 Try.underlying5 Try.underlying5) Try.bytes76 (hval 1 74 v1 rfl rfl) h1
  obtain ⟨o1, hol1, hoe1, hok1⟩ := dds_of hw1
  rw [hoe1] at hr1
  exact sums10 o1 x0 A1 n1 c1 W hr1 hok1 hn1 ⟨g0, l0⟩

theorem ledgerSums_holds : Rows.LedgerSumsSaid :=
  OpenClaim.holds_of_wide 10 Try.f10 rfl rfl rfl rfl rfl rfl rfl ⟨rfl, rfl, rfl, rfl, rfl⟩ rfl rfl rfl rfl rfl (by kernel_rfl) Try.func10 (by kernel_rfl)
    (of_decide_eq_true (by kernel_rfl)) (by unfold Func.isWrapper; first | (rw [if_pos (by decide +kernel)]; kernel_rfl) | (rw [if_neg (by decide +kernel)]; exact ⟨rfl, rfl⟩))
    (fun os started H enc _ => ledgerSums_lifted os started H enc)
end Go.Proofs.Ytkbaddopgdfafaa
