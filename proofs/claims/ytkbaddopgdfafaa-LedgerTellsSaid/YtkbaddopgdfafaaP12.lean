/- For any two ledgers and any numbers the law LedgerTells returns true: the program answers as the reference does; what was there reads as before. No condition. -/
import Derived.Test.YtkbaddopgdfafaaH5
import Derived.Test.YtkbaddopgdfafaaPL0
import Derived.Test.YtkbaddopgdfafaaP0
namespace Go.Proofs.Ytkbaddopgdfafaa
open Go.ChangeShapes Go.WideShapes Go.ChangeAt Go.RowKit Go.Proofs.Besom

set_option maxRecDepth 100000 in
theorem ledgerTells_lifted (os : Os) (started : os.Started) (H : Type) (enc : TypeId × Value → H) :
    ReturnsInHanded {} Try.checked os 9 .any (Rows.ledgerTellsSpec.pre6 enc Try.prog Try.f9 Rows.ledgerTellsRow.domain false) (Rows.ledgerTellsSpec.post enc Try.prog Try.f9 false true false false) := by
  refine law_lift (C := Try.checked) Try.own started (by kernel_rfl) Try.func9 Try.laidOut (by kernel_rfl) rfl Try.underlying4 rfl
    (fun ds h => by match ds, h with | [a, b, c, d, e, f], _ => rfl)
    (ChangeSpec.witness6 (enc := enc) (C := Try.checked) false ⟨#[], #[.agg #[.int .i64 0, .int .i64 0, .int .i64 0, .slice none 0 0], .agg #[.int .i64 0, .int .i64 0, .int .i64 0, .slice none 0 0], .int .i64 0, .int .i64 0, .int .i64 0, .int .i64 0], []⟩ 8 (by kernel_rfl) (by kernel_rfl) (by kernel_rfl) (by kernel_rfl)) ?_
  intro W base args ds ps hval0 hA0 hsz0
  have hval : ∀ (j : Nat) t v, Try.f9.params[j]? = some t → args[j]? = some v → Value.okWide Try.prog W .any base t v := hval0
  have hA : DataW.TrodAll enc Try.prog W 0 (fun _ => true) true Try.f9.params.toList args.toList ds ps := hA0
  have hsz : (DataW.weightsEach Try.prog Try.f9.params.toList ds).all (· ≤ reachBytes) = true := hsz0
  clear hval0 hA0 hsz0
  rw [Try.params9] at hA hval hsz
  obtain ⟨v0, vs0, d0, ds0, p0, q0, hargs, rfl, rfl, h0, r0_⟩ := trodAll_cons hA
  obtain ⟨v1, vs1, d1, ds1, p1, q1, rfl, rfl, rfl, h1, r1_⟩ := trodAll_cons r0_
  obtain ⟨v2, vs2, d2, ds2, p2, q2, rfl, rfl, rfl, h2, r2_⟩ := trodAll_cons r1_
  obtain ⟨v3, vs3, d3, ds3, p3, q3, rfl, rfl, rfl, h3, r3_⟩ := trodAll_cons r2_
  obtain ⟨v4, vs4, d4, ds4, p4, q4, rfl, rfl, rfl, h4, r4_⟩ := trodAll_cons r3_
  obtain ⟨v5, vs5, d5, ds5, p5, q5, rfl, rfl, rfl, h5, r5_⟩ := trodAll_cons r4_
  obtain ⟨rfl, rfl, rfl⟩ := trodAll_nil r5_
  obtain rfl : args = #[v0, v1, v2, v3, v4, v5] := by cases args; simp_all
  obtain ⟨sc0, sp0, po0, A0, n0, c0, xs0, rfl, hr0, hw0, hv0, hn0⟩ := open_agg3row hsz (j := 0) rfl rfl Try.underlying50 (by kernel_rfl) Try.cells50 Try.underlying2 Try.underlying2 Try.underlying2 Try.underlying48 Try.underlying2 Try.cells2 (hval 0 50 v0 rfl rfl) h0
  rw [Try.bytes2] at hn0
  obtain ⟨sc1, sp1, po1, A1, n1, c1, xs1, rfl, hr1, hw1, hv1, hn1⟩ := open_agg3row hsz (j := 1) rfl rfl Try.underlying50 (by kernel_rfl) Try.cells50 Try.underlying2 Try.underlying2 Try.underlying2 Try.underlying48 Try.underlying2 Try.cells2 (hval 1 50 v1 rfl rfl) h1
  rw [Try.bytes2] at hn1
  obtain ⟨x2, rfl, rfl, rfl, wx2⟩ := open_int Try.underlying3 (hval 2 3 v2 rfl rfl) h2
  obtain ⟨g2, l2⟩ := i64_bounds wx2
  obtain ⟨x3, rfl, rfl, rfl, wx3⟩ := open_int Try.underlying2 (hval 3 2 v3 rfl rfl) h3
  obtain ⟨g3, l3⟩ := i64_bounds wx3
  obtain ⟨x4, rfl, rfl, rfl, wx4⟩ := open_int Try.underlying2 (hval 4 2 v4 rfl rfl) h4
  obtain ⟨g4, l4⟩ := i64_bounds wx4
  obtain ⟨x5, rfl, rfl, rfl, wx5⟩ := open_int Try.underlying2 (hval 5 2 v5 rfl rfl) h5
  obtain ⟨g5, l5⟩ := i64_bounds wx5
  exact tells9 ⟨sc0, sp0, po0, xs0⟩ ⟨sc1, sp1, po1, xs1⟩ A0 A1 n0 n1 c0 c1 x2 x3 x4 x5 W hr0 hr1 hn0 hn1 (i64_bounds hw0.2.2)

theorem ledgerTells_holds : Rows.LedgerTellsSaid :=
  OpenClaim.holds_of_wide 9 Try.f9 rfl rfl rfl rfl rfl rfl rfl ⟨rfl, rfl, rfl, rfl, rfl⟩ rfl rfl rfl rfl rfl (by kernel_rfl) Try.func9 (by kernel_rfl)
    (of_decide_eq_true (by kernel_rfl)) (by unfold Func.isWrapper; first | (rw [if_pos (by decide +kernel)]; kernel_rfl) | (rw [if_neg (by decide +kernel)]; exact ⟨rfl, rfl⟩))
    (fun os started H enc _ => ledgerTells_lifted os started H enc)
end Go.Proofs.Ytkbaddopgdfafaa
