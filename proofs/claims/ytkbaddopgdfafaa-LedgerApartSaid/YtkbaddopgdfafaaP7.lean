/- For every ledger and every deed the law LedgerApart returns true, and what was there reads as before. No condition. -/
import Derived.Test.YtkbaddopgdfafaaG9
import Derived.Test.YtkbaddopgdfafaaPL0
import Derived.Test.YtkbaddopgdfafaaP0
namespace Go.Proofs.Ytkbaddopgdfafaa
open Go.ChangeShapes Go.WideShapes Go.ChangeAt Go.RowKit Go.Proofs.Besom

set_option maxRecDepth 100000 in
theorem ledgerApart_lifted (os : Os) (started : os.Started) (H : Type) (enc : TypeId × Value → H) :
    ReturnsInHanded {} Try.checked os 14 .any (Rows.ledgerApartSpec.pre6 enc Try.prog Try.f14 Rows.ledgerApartRow.domain false) (Rows.ledgerApartSpec.post enc Try.prog Try.f14 false true false false) := by
  refine law_lift (C := Try.checked) Try.own started (by kernel_rfl) Try.func14 Try.laidOut (by kernel_rfl) rfl Try.underlying4 rfl
    (fun ds h => by match ds, h with | [a, b], _ => rfl)
    (ChangeSpec.witness6 (enc := enc) (C := Try.checked) false ⟨#[], #[.agg #[.int .i64 0, .int .i64 0, .int .i64 0, .slice none 0 0], .agg #[.int .u8 0, .int .u8 0, .int .u8 0, .int .u8 0]], []⟩ 8 (by kernel_rfl) (by kernel_rfl) (by kernel_rfl) (by kernel_rfl)) ?_
  intro W base args ds ps hval0 hA0 hsz0
  have hval : ∀ (j : Nat) t v, Try.f14.params[j]? = some t → args[j]? = some v → Value.okWide Try.prog W .any base t v := hval0
  have hA : DataW.TrodAll enc Try.prog W 0 (fun _ => true) true Try.f14.params.toList args.toList ds ps := hA0
  have hsz : (DataW.weightsEach Try.prog Try.f14.params.toList ds).all (· ≤ reachBytes) = true := hsz0
  clear hval0 hA0 hsz0
  rw [Try.params14] at hA hval hsz
  obtain ⟨v0, vs0, d0, ds0, p0, q0, hargs, rfl, rfl, h0, r0_⟩ := trodAll_cons hA
  obtain ⟨v1, vs1, d1, ds1, p1, q1, rfl, rfl, rfl, h1, r1_⟩ := trodAll_cons r0_
  obtain ⟨rfl, rfl, rfl⟩ := trodAll_nil r1_
  obtain rfl : args = #[v0, v1] := by cases args; simp_all
  obtain ⟨sc0, sp0, po0, A0, n0, c0, xs0, rfl, hr0, hw0, hv0, hn0⟩ := open_agg3row hsz (j := 0) rfl rfl Try.underlying50 (by kernel_rfl) Try.cells50 Try.underlying2 Try.underlying2 Try.underlying2 Try.underlying48 Try.underlying2 Try.cells2 (hval 0 50 v0 rfl rfl) h0
  rw [Try.bytes2] at hn0
  obtain ⟨r1, hrl1, rfl, hw1⟩ := open_struct (ks := ddKinds) Try.underlying76 (by kernel_rfl) Try.cells76 rfl (fields4 Try.underlying5 Try.underlying5 Try.underlying5 Try.underlying5) (hval 1 76 v1 rfl rfl) h1
  obtain ⟨k1, i1, a1, b1, rfl⟩ := list4 hrl1
  exact apart14 ⟨sc0, sp0, po0, xs0⟩ ⟨k1, i1, a1, b1⟩ A0 n0 c0 W (dd_ok hw1) hr0 hn0

theorem ledgerApart_holds : Rows.LedgerApartSaid :=
  OpenClaim.holds_of_wide 14 Try.f14 rfl rfl rfl rfl rfl rfl rfl ⟨rfl, rfl, rfl, rfl, rfl⟩ rfl rfl rfl rfl rfl (by kernel_rfl) Try.func14 (by kernel_rfl)
    (of_decide_eq_true (by kernel_rfl)) (by unfold Func.isWrapper; first | (rw [if_pos (by decide +kernel)]; kernel_rfl) | (rw [if_neg (by decide +kernel)]; exact ⟨rfl, rfl⟩))
    (fun os started H enc _ => ledgerApart_lifted os started H enc)
end Go.Proofs.Ytkbaddopgdfafaa
