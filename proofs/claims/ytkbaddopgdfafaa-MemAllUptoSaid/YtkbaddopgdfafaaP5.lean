/- For every list of cells and every two lists of deeds the law MemAll returns true, and what was there reads as before, where the arguments hold together at most 1048576 values. -/
import Derived.Test.YtkbaddopgdfafaaM4
import Derived.Test.YtkbaddopgdfafaaP0
namespace Go.Proofs.Ytkbaddopgdfafaa
open Go.ChangeShapes Go.WideShapes Go.ChangeAt Go.RowKit Go.Proofs.Besom

set_option maxRecDepth 100000 in
theorem memAll_lifted (os : Os) (started : os.Started) (H : Type) (enc : TypeId × Value → H) (F : Stop.Interp) :
    ReturnsInHanded {} Try.checked os 7 .any ((Rows.OpenSpec.upto Rows.memAllSpec).pre6 enc Try.prog Try.f7 Rows.memAllUptoRow.domain false) (((Rows.OpenSpec.upto Rows.memAllSpec).at F).post enc Try.prog Try.f7 false true false false) := by
  refine law_lift_cond (C := Try.checked) (s := Rows.OpenSpec.upto Rows.memAllSpec) (k := Rows.uptoSmall) rfl Try.own started (by kernel_rfl) Try.func7 Try.laidOut (by kernel_rfl) rfl Try.underlying4 rfl rfl
    (fun ds h => by match ds, h with | [a, b, c], _ => rfl)
    (OpenSpec.witness (enc := enc) (C := Try.checked) (s := Rows.OpenSpec.upto Rows.memAllSpec) (k := Rows.uptoSmall) rfl false ⟨#[], #[.slice none 0 0, .slice none 0 0, .slice none 0 0], []⟩ 8 (by kernel_rfl) (by kernel_rfl) (by kernel_rfl)
      (x := ([.nil, .nil, .nil], [], [])) (by kernel_rfl) rfl (by kernel_rfl)) ?_
  intro W base args ds ps hval0 hA0 hbulk hsz0
  have hval : ∀ (j : Nat) t v, Try.f7.params[j]? = some t → args[j]? = some v → Value.okWide Try.prog W .any base t v := hval0
  have hA : DataW.TrodAll enc Try.prog W 0 (fun _ => true) true Try.f7.params.toList args.toList ds ps := hA0
  have hsz : (DataW.weightsEach Try.prog Try.f7.params.toList ds).all (· ≤ reachBytes) = true := hsz0
  clear hval0 hA0 hsz0
  rw [Try.params7] at hA hval hsz
  obtain ⟨v0, vs0, d0, ds0, p0, q0, hargs, rfl, rfl, h0, r0_⟩ := trodAll_cons hA
  obtain ⟨v1, vs1, d1, ds1, p1, q1, rfl, rfl, rfl, h1, r1_⟩ := trodAll_cons r0_
  obtain ⟨v2, vs2, d2, ds2, p2, q2, rfl, rfl, rfl, h2, r2_⟩ := trodAll_cons r1_
  obtain ⟨rfl, rfl, rfl⟩ := trodAll_nil r2_
  obtain rfl : args = #[v0, v1, v2] := by cases args; simp_all
  obtain ⟨A0, n0, c0, xs0, rfl, hr0, hw0, hn0⟩ := open_row hsz (j := 0) rfl rfl Try.underlying23 Try.underlying24 Try.cells24 Try.bytes24 (hval 0 23 v0 rfl rfl) h0
  have hh1 := h1
  obtain ⟨A1, n1, c1, rs1, rfl, hr1, hw1, hn1, hl1⟩ := open_rows hsz (j := 1) (ks := opKinds) rfl rfl Try.underlying27 Try.underlying26 (by kernel_rfl) Try.cells26 rfl (by decide) (fields4 Try.underlying3 Try.underlying3 Try.underlying24 Try.underlying24) Try.bytes26 (hval 1 27 v1 rfl rfl) h1
  obtain ⟨o1, hol1, hoe1⟩ := deeds_of (fun r hr => (hw1 r hr).1)
  rw [hoe1] at hr1
  have hh2 := h2
  obtain ⟨A2, n2, c2, rs2, rfl, hr2, hw2, hn2, hl2⟩ := open_rows hsz (j := 2) (ks := opKinds) rfl rfl Try.underlying27 Try.underlying26 (by kernel_rfl) Try.cells26 rfl (by decide) (fields4 Try.underlying3 Try.underlying3 Try.underlying24 Try.underlying24) Try.bytes26 (hval 2 27 v2 rfl rfl) h2
  obtain ⟨o2, hol2, hoe2⟩ := deeds_of (fun r hr => (hw2 r hr).1)
  rw [hoe2] at hr2
  have hb : Rows.uptoBulkAll [d0, d1, d2] ≤ 1048576 := of_decide_eq_true hbulk
  have h1n : n1 ≤ 1048576 := by
    rcases slice_datum Try.underlying27 hh1 with e | ⟨el, sp, e, hel⟩
    · omega
    · have := slice_bulk (ds := [d0, d1, d2]) (el := el) (sp := sp) (by simp [e])
      omega
  have h2n : n2 ≤ 1048576 := by
    rcases slice_datum Try.underlying27 hh2 with e | ⟨el, sp, e, hel⟩
    · omega
    · have := slice_bulk (ds := [d0, d1, d2]) (el := el) (sp := sp) (by simp [e])
      omega
  exact mall_any A0 A1 A2 n0 n1 n2 c0 c1 c2 xs0 o1 o2 W hr0 hn0 hr1 hr2 (by omega)

theorem memAllUpto_holds : Rows.MemAllUptoSaid :=
  OpenClaim.holds_of_cond 7 Try.f7 rfl rfl rfl rfl rfl rfl rfl ⟨rfl, rfl, rfl, rfl, rfl⟩ rfl rfl rfl rfl rfl (by kernel_rfl) Try.func7 (by kernel_rfl)
    (of_decide_eq_true (by kernel_rfl)) (by unfold Func.isWrapper; first | (rw [if_pos (by decide +kernel)]; kernel_rfl) | (rw [if_neg (by decide +kernel)]; exact ⟨rfl, rfl⟩))
    (fun os started H enc _ F => memAll_lifted os started H enc F)
end Go.Proofs.Ytkbaddopgdfafaa
