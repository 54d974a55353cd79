/- For every text the law PickRight returns true, where the text holds at most 1048576 bytes. -/
import Derived.Test.YtkbaddopgdfafabK29
import Derived.Test.YtkbaddopgdfafabPK0
namespace Go.Proofs.Ytkbaddopgdfafab
open Go.ChangeShapes Go.WideShapes Go.ChangeAt Go.RowKit Go.Proofs.Besom

set_option maxRecDepth 100000 in
theorem pickRight_lifted (os : Os) (started : os.Started) (H : Type) (enc : TypeId × Value → H) (F : Stop.Interp) :
    ReturnsInHanded {} Try.checked os 5 .any ((Rows.OpenSpec.upto Rows.pickRightSpec).pre6 enc Try.prog Try.f5 Rows.pickRightUptoRow.domain false) (((Rows.OpenSpec.upto Rows.pickRightSpec).at F).post enc Try.prog Try.f5 false true false false) := by
  refine law_lift_cond (C := Try.checked) (s := Rows.OpenSpec.upto Rows.pickRightSpec) (k := Rows.uptoSmall) rfl Try.own started (by kernel_rfl) Try.func5 Try.laidOut (by kernel_rfl) rfl Try.underlying4 rfl rfl
    (fun ds h => by match ds, h with | [a], _ => rfl)
    (OpenSpec.witness (enc := enc) (C := Try.checked) (s := Rows.OpenSpec.upto Rows.pickRightSpec) (k := Rows.uptoSmall) rfl false ⟨#[], #[.string ⟨#[]⟩], []⟩ 8 (by kernel_rfl) (by kernel_rfl) (by kernel_rfl)
      (x := ([.lit (.string [])], [], [])) (by kernel_rfl) rfl (by kernel_rfl)) ?_
  intro W base args ds ps hval0 hA0 hbulk hsz0
  have hval : ∀ (j : Nat) t v, Try.f5.params[j]? = some t → args[j]? = some v → Value.okWide Try.prog W .any base t v := hval0
  have hA : DataW.TrodAll enc Try.prog W 0 (fun _ => true) true Try.f5.params.toList args.toList ds ps := hA0
  have hsz : (DataW.weightsEach Try.prog Try.f5.params.toList ds).all (· ≤ reachBytes) = true := hsz0
  clear hval0 hA0 hsz0
  rw [Try.params5] at hA hval hsz
  obtain ⟨v0, vs0, d0, ds0, p0, q0, hargs, rfl, rfl, h0, r0_⟩ := trodAll_cons hA
  obtain ⟨rfl, rfl, rfl⟩ := trodAll_nil r0_
  obtain rfl : args = #[v0] := by cases args; simp_all
  obtain ⟨s0, rfl, rfl, rfl, hs0⟩ := Go.ChangeMaps.open_string Try.underlying9 (hval 0 9 v0 rfl rfl) h0
  have hb : Rows.uptoBulkAll [.lit (.string s0.data.toList)] ≤ 1048576 := of_decide_eq_true hbulk
  have hsz0 : s0.size ≤ 1048576 := by
    rw [size_len]; simp only [Rows.uptoBulkAll, Rows.uptoBulk] at hb; omega
  exact pright5 s0 W (by omega)

theorem pickRightUpto_holds : Rows.PickRightUptoSaid :=
  OpenClaim.holds_of_cond 5 Try.f5 rfl rfl rfl rfl rfl rfl rfl ⟨rfl, rfl, rfl, rfl, rfl⟩ rfl rfl rfl rfl rfl (by kernel_rfl) Try.func5 (by kernel_rfl)
    (of_decide_eq_true (by kernel_rfl)) (by unfold Func.isWrapper; first | (rw [if_pos (by decide +kernel)]; kernel_rfl) | (rw [if_neg (by decide +kernel)]; exact ⟨rfl, rfl⟩))
    (fun os started H enc _ F => pickRight_lifted os started H enc F)
end Go.Proofs.Ytkbaddopgdfafab
