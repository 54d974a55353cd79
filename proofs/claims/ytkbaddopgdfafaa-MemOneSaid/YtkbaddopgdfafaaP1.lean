/- For every list of cells and every deed the law MemOne returns true. No condition. -/
import Derived.Test.YtkbaddopgdfafaaT8
import Derived.Test.YtkbaddopgdfafaaL2
namespace Go.Proofs.Ytkbaddopgdfafaa
open Go.ChangeShapes Go.WideShapes Go.ChangeAt Go.RowKit Go.Proofs.Besom

theorem Try.own : ownKnob Try.prog.godebug = none := by kernel_rfl
theorem Try.laidOut : laidOutB Try.prog = true := by kernel_rfl
theorem Try.cells24 : Try.prog.cellsOf 24 = 1 := by kernel_rfl
theorem Try.bytes24 : Try.prog.bytesOf 24 = 8 := by kernel_rfl
theorem Try.cells26 : Try.prog.cellsOf 26 = 4 := by kernel_rfl
theorem Try.bytes26 : Try.prog.bytesOf 26 = 32 := by kernel_rfl
abbrev opKinds : List IntKind := [.i64, .i64, .u64, .u64]

set_option maxRecDepth 100000 in
theorem memOne_lifted (os : Os) (started : os.Started) (H : Type) (enc : TypeId × Value → H) :
    ReturnsInHanded {} Try.checked os 4 .any (Rows.memOneSpec.pre6 enc Try.prog Try.f4 Rows.memOneRow.domain false) (Rows.memOneSpec.post enc Try.prog Try.f4 false true false false) := by
  refine law_lift (C := Try.checked) Try.own started (by kernel_rfl) Try.func4 Try.laidOut (by kernel_rfl) rfl Try.underlying4 rfl
    (fun ds h => by match ds, h with | [a, b], _ => rfl)
    (ChangeSpec.witness6 (enc := enc) (C := Try.checked) false ⟨#[], #[.slice none 0 0, .agg #[.int .i64 0, .int .i64 0, .int .u64 0, .int .u64 0]], []⟩ 8 (by kernel_rfl) (by kernel_rfl) (by kernel_rfl) (by kernel_rfl)) ?_
  intro W base args ds ps hval0 hA0 hsz0
  have hval : ∀ (j : Nat) t v, Try.f4.params[j]? = some t → args[j]? = some v → Value.okWide Try.prog W .any base t v := hval0
  have hA : DataW.TrodAll enc Try.prog W 0 (fun _ => true) true Try.f4.params.toList args.toList ds ps := hA0
  have hsz : (DataW.weightsEach Try.prog Try.f4.params.toList ds).all (· ≤ reachBytes) = true := hsz0
  clear hval0 hA0 hsz0
  rw [Try.params4] at hA hval hsz
  obtain ⟨v0, vs0, d0, ds0, p0, q0, hargs, rfl, rfl, h0, r0⟩ := trodAll_cons hA
  obtain ⟨v1, vs1, d1, ds1, p1, q1, rfl, rfl, rfl, h1, r1⟩ := trodAll_cons r0
  obtain ⟨rfl, rfl, rfl⟩ := trodAll_nil r1
  obtain rfl : args = #[v0, v1] := by cases args; simp_all
  obtain ⟨A, n, c, xs, rfl, hr, hw, hn⟩ := open_row hsz (j := 0) rfl rfl Try.underlying23 Try.underlying24 Try.cells24 Try.bytes24 (hval 0 23 v0 rfl rfl) h0
  obtain ⟨r, hrl, rfl, _⟩ := open_struct (ks := opKinds) Try.underlying26 (by kernel_rfl) Try.cells26 rfl (fields4 Try.underlying3 Try.underlying3 Try.underlying24 Try.underlying24) (hval 1 26 v1 rfl rfl) h1
  obtain ⟨k, i, a, b, rfl⟩ := list4 hrl
  exact one_any A n c k i a b xs W hr hn

theorem memOne_holds : Rows.MemOneSaid :=
  OpenClaim.holds_of_wide 4 Try.f4 rfl rfl rfl rfl rfl rfl rfl ⟨rfl, rfl, rfl, rfl, rfl⟩ rfl rfl rfl rfl rfl (by kernel_rfl) Try.func4 (by kernel_rfl)
    (of_decide_eq_true (by kernel_rfl)) (by unfold Func.isWrapper; first | (rw [if_pos (by decide +kernel)]; kernel_rfl) | (rw [if_neg (by decide +kernel)]; exact ⟨rfl, rfl⟩))
    (fun os started H enc _ => memOne_lifted os started H enc)
end Go.Proofs.Ytkbaddopgdfafaa
