/- For every two lists of picks and every two numbers the law PickKnown returns true, and what was there reads as before, where the arguments hold together at most 1048576 values. -/
import Derived.Test.YtkbaddopgdfafabK19
import Derived.Test.YtkbaddopgdfafabPK0
namespace Go.Proofs.Ytkbaddopgdfafab
open Go.ChangeShapes Go.WideShapes Go.ChangeAt Go.RowKit Go.Proofs.Besom

set_option maxRecDepth 100000 in
theorem pickKnown_lifted (os : Os) (started : os.Started) (H : Type) (enc : TypeId × Value → H) (F : Stop.Interp) :
    ReturnsInHanded {} Try.checked os 8 .any ((Rows.OpenSpec.upto Rows.pickKnownSpec).pre6 enc Try.prog Try.f8 Rows.pickKnownUptoRow.domain false) (((Rows.OpenSpec.upto Rows.pickKnownSpec).at F).post enc Try.prog Try.f8 false true false false) := by
  refine law_lift_cond (C := Try.checked) (s := Rows.OpenSpec.upto Rows.pickKnownSpec) (k := Rows.uptoSmall) rfl Try.own started (by kernel_rfl) Try.func8 Try.laidOut (by kernel_rfl) rfl Try.underlying4 rfl rfl
    (fun ds h => by match ds, h with | [a, b, c, d], _ => rfl)
    (OpenSpec.witness (enc := enc) (C := Try.checked) (s := Rows.OpenSpec.upto Rows.pickKnownSpec) (k := Rows.uptoSmall) rfl false ⟨#[], #[.slice none 0 0, .slice none 0 0, .int .u8 0, .int .u8 0], []⟩ 8 (by kernel_rfl) (by kernel_rfl) (by kernel_rfl)
      (x := ([.nil, .nil, .lit (.int .u8 0), .lit (.int .u8 0)], [], [])) (by kernel_rfl) rfl (by kernel_rfl)) ?_
  intro W base args ds ps hval0 hA0 hbulk hsz0
  have hval : ∀ (j : Nat) t v, Try.f8.params[j]? = some t → args[j]? = some v → Value.okWide Try.prog W .any base t v := hval0
  have hA : DataW.TrodAll enc Try.prog W 0 (fun _ => true) true Try.f8.params.toList args.toList ds ps := hA0
  have hsz : (DataW.weightsEach Try.prog Try.f8.params.toList ds).all (· ≤ reachBytes) = true := hsz0
  clear hval0 hA0 hsz0
  rw [Try.params8] at hA hval hsz
  obtain ⟨v0, vs0, d0, ds0, p0, q0, hargs, rfl, rfl, h0, r0_⟩ := trodAll_cons hA
  obtain ⟨v1, vs1, d1, ds1, p1, q1, rfl, rfl, rfl, h1, r1_⟩ := trodAll_cons r0_
  obtain ⟨v2, vs2, d2, ds2, p2, q2, rfl, rfl, rfl, h2, r2_⟩ := trodAll_cons r1_
  obtain ⟨v3, vs3, d3, ds3, p3, q3, rfl, rfl, rfl, h3, r3_⟩ := trodAll_cons r2_
  obtain ⟨rfl, rfl, rfl⟩ := trodAll_nil r3_
  obtain rfl : args = #[v0, v1, v2, v3] := by cases args; simp_all
  have hcap0 := h0
  have hh0 := h0
  obtain ⟨A0, n0, c0, rs0, rfl, hr0, hw0, hn0, hl0⟩ := open_rows hsz (j := 0) (ks := pickKinds) rfl rfl Try.underlying22 Try.underlying32 (by kernel_rfl) co32 rfl (by decide) (fields2 Try.underlying3 Try.underlying3) Try.bytes32 (hval 0 22 v0 rfl rfl) h0
  replace hcap0 := slice_cap Try.underlying22 hcap0
  obtain ⟨ps0, hol0, hwp0, hoe0⟩ := picks_of hw0
  rw [hoe0] at hr0
  have hcap1 := h1
  have hh1 := h1
  obtain ⟨A1, n1, c1, rs1, rfl, hr1, hw1, hn1, hl1⟩ := open_rows hsz (j := 1) (ks := pickKinds) rfl rfl Try.underlying22 Try.underlying32 (by kernel_rfl) co32 rfl (by decide) (fields2 Try.underlying3 Try.underlying3) Try.bytes32 (hval 1 22 v1 rfl rfl) h1
  replace hcap1 := slice_cap Try.underlying22 hcap1
  obtain ⟨ps1, hol1, hwp1, hoe1⟩ := picks_of hw1
  rw [hoe1] at hr1
  obtain ⟨x2, rfl, rfl, rfl, wx2⟩ := open_int Try.underlying5 (hval 2 5 v2 rfl rfl) h2
  obtain ⟨g2, l2⟩ := u8_bounds wx2
  obtain ⟨x3, rfl, rfl, rfl, wx3⟩ := open_int Try.underlying5 (hval 3 5 v3 rfl rfl) h3
  obtain ⟨g3, l3⟩ := u8_bounds wx3
  have hb : Rows.uptoBulkAll [d0, d1, .lit (.int .u8 x2), .lit (.int .u8 x3)] ≤ 1048576 := of_decide_eq_true hbulk
  have hb0n : n0 ≤ 1048576 := by
    rcases slice_datum Try.underlying22 hh0 with e | ⟨el, sp, e, hel⟩
    · omega
    · have := slice_bulk (ds := [d0, d1, .lit (.int .u8 x2), .lit (.int .u8 x3)]) (el := el) (sp := sp) (by simp [e])
      omega
  have hb1n : n1 ≤ 1048576 := by
    rcases slice_datum Try.underlying22 hh1 with e | ⟨el, sp, e, hel⟩
    · omega
    · have := slice_bulk (ds := [d0, d1, .lit (.int .u8 x2), .lit (.int .u8 x3)]) (el := el) (sp := sp) (by simp [e])
      omega
  exact pknown8 A0 A1 n0 n1 c0 c1 ps0 ps1 x2 x3 W hr0 hr1 (by omega) g2 l2 g3 l3

theorem pickKnownUpto_holds : Rows.PickKnownUptoSaid :=
  OpenClaim.holds_of_cond 8 Try.f8 rfl rfl rfl rfl rfl rfl rfl ⟨rfl, rfl, rfl, rfl, rfl⟩ rfl rfl rfl rfl rfl (by kernel_rfl) Try.func8 (by kernel_rfl)
    (of_decide_eq_true (by kernel_rfl)) (by unfold Func.isWrapper; first | (rw [if_pos (by decide +kernel)]; kernel_rfl) | (rw [if_neg (by decide +kernel)]; exact ⟨rfl, rfl⟩))
    (fun os started H enc _ F => pickKnown_lifted os started H enc F)
end Go.Proofs.Ytkbaddopgdfafab
