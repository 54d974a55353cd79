/- For every list of deeds, whoever asks, every price and limit the law LedgerLacks returns true, and what was there reads as before. No condition. -/
import Derived.Test.YtkbaddopgdfafaaG14
import Derived.Test.YtkbaddopgdfafaaPL0
import Derived.Test.YtkbaddopgdfafaaP0
namespace Go.Proofs.Ytkbaddopgdfafaa
open Go.ChangeShapes Go.WideShapes Go.ChangeAt Go.RowKit Go.Proofs.Besom

set_option maxRecDepth 100000 in
theorem ledgerLacks_lifted (os : Os) (started : os.Started) (H : Type) (enc : TypeId × Value → H) :
    ReturnsInHanded {} Try.checked os 12 .any (Rows.ledgerLacksSpec.pre6 enc Try.prog Try.f12 Rows.ledgerLacksRow.domain false) (Rows.ledgerLacksSpec.post enc Try.prog Try.f12 false true false false) := by
  refine law_lift (C := Try.checked) Try.own started (by kernel_rfl) Try.func12 Try.laidOut (by kernel_rfl) rfl Try.underlying4 rfl
    (fun ds h => by match ds, h with | [a, b, c, d], _ => rfl)
    (ChangeSpec.witness6 (enc := enc) (C := Try.checked) false ⟨#[], #[.slice none 0 0, .int .u8 0, .int .u16 0, .int .u16 0], []⟩ 8 (by kernel_rfl) (by kernel_rfl) (by kernel_rfl) (by kernel_rfl)) ?_
  intro W base args ds ps hval0 hA0 hsz0
  have hval : ∀ (j : Nat) t v, Try.f12.params[j]? = some t → args[j]? = some v → Value.okWide Try.prog W .any base t v := hval0
  have hA : DataW.TrodAll enc Try.prog W 0 (fun _ => true) true Try.f12.params.toList args.toList ds ps := hA0
  have hsz : (DataW.weightsEach Try.prog Try.f12.params.toList ds).all (· ≤ reachBytes) = true := hsz0
  clear hval0 hA0 hsz0
  rw [Try.params12] at hA hval hsz
  obtain ⟨v0, vs0, d0, ds0, p0, q0, hargs, rfl, rfl, h0, r0_⟩ := trodAll_cons hA
  obtain ⟨v1, vs1, d1, ds1, p1, q1, rfl, rfl, rfl, h1, r1_⟩ := trodAll_cons r0_
  obtain ⟨v2, vs2, d2, ds2, p2, q2, rfl, rfl, rfl, h2, r2_⟩ := trodAll_cons r1_
  obtain ⟨v3, vs3, d3, ds3, p3, q3, rfl, rfl, rfl, h3, r3_⟩ := trodAll_cons r2_
  obtain ⟨rfl, rfl, rfl⟩ := trodAll_nil r3_
  obtain rfl : args = #[v0, v1, v2, v3] := by cases args; simp_all
  obtain ⟨A0, n0, c0, rs0, rfl, hr0, hw0, hn0, hl0⟩ := open_rows hsz (j := 0) (ks := ddKinds) rfl rfl Try.underlying74 Try.underlying76 (by kernel_rfl) Try.cells76 rfl (by decide) (fields4 Try.underlying5 Try.underlying5 Try.underlying5 Try.underlying5) Try.bytes76 (hval 0 74 v0 rfl rfl) h0
  obtain ⟨o0, hol0, hoe0, hok0⟩ := dds_of hw0
  rw [hoe0] at hr0
  obtain ⟨x1, rfl, rfl, rfl, wx1⟩ := open_int Try.underlying5 (hval 1 5 v1 rfl rfl) h1
  obtain ⟨g1, l1⟩ := u8_bounds wx1
  obtain ⟨x2, rfl, rfl, rfl, wx2⟩ := open_int Try.underlying80 (hval 2 80 v2 rfl rfl) h2
  obtain ⟨g2, l2⟩ := u16_bounds wx2
  obtain ⟨x3, rfl, rfl, rfl, wx3⟩ := open_int Try.underlying80 (hval 3 80 v3 rfl rfl) h3
  obtain ⟨g3, l3⟩ := u16_bounds wx3
  exact lacks12 o0 x1 x2 x3 A0 n0 c0 W hr0 hok0 hn0 ⟨g1, l1⟩ ⟨g2, l2⟩ ⟨g3, l3⟩

theorem ledgerLacks_holds : Rows.LedgerLacksSaid :=
  OpenClaim.holds_of_wide 12 Try.f12 rfl rfl rfl rfl rfl rfl rfl ⟨rfl, rfl, rfl, rfl, rfl⟩ rfl rfl rfl rfl rfl (by kernel_rfl) Try.func12 (by kernel_rfl)
    (of_decide_eq_true (by kernel_rfl)) (by unfold Func.isWrapper; first | (rw [if_pos (by decide +kernel)]; kernel_rfl) | (rw [if_neg (by decide +kernel)]; exact ⟨rfl, rfl⟩))
    (fun os started H enc _ => ledgerLacks_lifted os started H enc)
end Go.Proofs.Ytkbaddopgdfafaa
