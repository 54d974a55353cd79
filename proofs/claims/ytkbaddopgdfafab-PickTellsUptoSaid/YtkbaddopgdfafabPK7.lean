/- For all picks, any text and every three numbers the law PickTells returns true: the program answers as the reference does; what was there reads as before; the arguments hold together at most 1048576 values and letters. -/
import Derived.Test.YtkbaddopgdfafabKR9
import Derived.Test.YtkbaddopgdfafabPK0
namespace Go.Proofs.Ytkbaddopgdfafab
open Go.ChangeShapes Go.WideShapes Go.ChangeAt Go.RowKit Go.Proofs.Besom
theorem i64_bounds {x : Int} (h : (Lit.int .i64 x).wf = true) : -9223372036854775808 ≤ x ∧ x ≤ 9223372036854775807 := by
  have hmin : IntKind.i64.min = -9223372036854775808 := rfl
  have hmax : IntKind.i64.max = 9223372036854775807 := rfl
  simp only [Lit.wf, Bool.and_eq_true, decide_eq_true_eq] at h
  omega

set_option maxRecDepth 100000 in
theorem pickTells_lifted (os : Os) (started : os.Started) (H : Type) (enc : TypeId × Value → H) (F : Stop.Interp) :
    ReturnsInHanded {} Try.checked os 3 .any ((Rows.OpenSpec.upto Rows.pickTellsSpec).pre6 enc Try.prog Try.f3 Rows.pickTellsUptoRow.domain false) (((Rows.OpenSpec.upto Rows.pickTellsSpec).at F).post enc Try.prog Try.f3 false true false false) := by
  refine law_lift_cond (C := Try.checked) (s := Rows.OpenSpec.upto Rows.pickTellsSpec) (k := Rows.uptoSmall) rfl Try.own started (by kernel_rfl) Try.func3 Try.laidOut (by kernel_rfl) rfl Try.underlying4 rfl rfl
    (fun ds h => by match ds, h with | [a, b, c, d, e], _ => rfl)
    (OpenSpec.witness (enc := enc) (C := Try.checked) (s := Rows.OpenSpec.upto Rows.pickTellsSpec) (k := Rows.uptoSmall) rfl false ⟨#[], #[.slice none 0 0, .string ⟨#[]⟩, .int .i64 0, .int .i64 0, .int .i64 0], []⟩ 8 (by kernel_rfl) (by kernel_rfl) (by kernel_rfl)
      (x := ([.nil, .lit (.string []), .lit (.int .i64 0), .lit (.int .i64 0), .lit (.int .i64 0)], [], [])) (by kernel_rfl) rfl (by kernel_rfl)) ?_
  intro W base args ds ps hval0 hA0 hbulk hsz0
  have hval : ∀ (j : Nat) t v, Try.f3.params[j]? = some t → args[j]? = some v → Value.okWide Try.prog W .any base t v := hval0
  have hA : DataW.TrodAll enc Try.prog W 0 (fun _ => true) true Try.f3.params.toList args.toList ds ps := hA0
  have hsz : (DataW.weightsEach Try.prog Try.f3.params.toList ds).all (· ≤ reachBytes) = true := hsz0
  clear hval0 hA0 hsz0
  rw [Try.params3] at hA hval hsz
  obtain ⟨v0, vs0, d0, ds0, p0, q0, hargs, rfl, rfl, h0, r0_⟩ := trodAll_cons hA
  obtain ⟨v1, vs1, d1, ds1, p1, q1, rfl, rfl, rfl, h1, r1_⟩ := trodAll_cons r0_
  obtain ⟨v2, vs2, d2, ds2, p2, q2, rfl, rfl, rfl, h2, r2_⟩ := trodAll_cons r1_
  obtain ⟨v3, vs3, d3, ds3, p3, q3, rfl, rfl, rfl, h3, r3_⟩ := trodAll_cons r2_
  obtain ⟨v4, vs4, d4, ds4, p4, q4, rfl, rfl, rfl, h4, r4_⟩ := trodAll_cons r3_
  obtain ⟨rfl, rfl, rfl⟩ := trodAll_nil r4_
  obtain rfl : args = #[v0, v1, v2, v3, v4] := by cases args; simp_all
  have hcap0 := h0
  have hh0 := h0
  obtain ⟨A0, n0, c0, rs0, rfl, hr0, hw0, hn0, hl0⟩ := open_rows hsz (j := 0) (ks := pickKinds) rfl rfl Try.underlying22 Try.underlying32 (by kernel_rfl) co32 rfl (by decide) (fields2 Try.underlying3 Try.underlying3) Try.bytes32 (hval 0 22 v0 rfl rfl) h0
  replace hcap0 := slice_cap Try.underlying22 hcap0
  obtain ⟨ps0, hol0, hwp0, hoe0⟩ := picks_of hw0
  rw [hoe0] at hr0
  obtain ⟨s1, rfl, rfl, rfl, hs1⟩ := Go.ChangeMaps.open_string Try.underlying9 (hval 1 9 v1 rfl rfl) h1
  obtain ⟨x2, rfl, rfl, rfl, wx2⟩ := open_int Try.underlying3 (hval 2 3 v2 rfl rfl) h2
  obtain ⟨x3, rfl, rfl, rfl, wx3⟩ := open_int Try.underlying3 (hval 3 3 v3 rfl rfl) h3
  obtain ⟨x4, rfl, rfl, rfl, wx4⟩ := open_int Try.underlying3 (hval 4 3 v4 rfl rfl) h4
  have hb : Rows.uptoBulkAll [d0, .lit (.string s1.data.toList), .lit (.int .i64 x2), .lit (.int .i64 x3), .lit (.int .i64 x4)] ≤ 1048576 := of_decide_eq_true hbulk
  have hsz1 : s1.size ≤ 1048576 := by
    rw [size_len]; simp only [Rows.uptoBulkAll, Rows.uptoBulk] at hb; omega
  have hb4 := i64_bounds wx4
  exact ptells3 A0 n0 c0 ps0 s1 x2 x3 x4 W hr0 hn0 hwp0 (by omega) hb4.1 hb4.2

theorem pickTellsUpto_holds : Rows.PickTellsUptoSaid :=
  OpenClaim.holds_of_cond 3 Try.f3 rfl rfl rfl rfl rfl rfl rfl ⟨rfl, rfl, rfl, rfl, rfl⟩ rfl rfl rfl rfl rfl (by kernel_rfl) Try.func3 (by kernel_rfl)
    (of_decide_eq_true (by kernel_rfl)) (by unfold Func.isWrapper; first | (rw [if_pos (by decide +kernel)]; kernel_rfl) | (rw [if_neg (by decide +kernel)]; exact ⟨rfl, rfl⟩))
    (fun os started H enc _ F => pickTells_lifted os started H enc F)
end Go.Proofs.Ytkbaddopgdfafab
