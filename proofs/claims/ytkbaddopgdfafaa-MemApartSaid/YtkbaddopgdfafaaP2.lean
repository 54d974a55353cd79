/- For every list of cells and every two deeds the law MemApart returns true, and what was there reads as before. No condition. -/
import Derived.Test.YtkbaddopgdfafaaM1
import Derived.Test.YtkbaddopgdfafaaP0
namespace Go.Proofs.Ytkbaddopgdfafaa
open Go.ChangeShapes Go.WideShapes Go.ChangeAt Go.RowKit Go.Proofs.Besom

set_option maxRecDepth 100000 in
theorem memApart_lifted (os : Os) (started : os.Started) (H : Type) (enc : TypeId × Value → H) :
    ReturnsInHanded {} Try.checked os 8 .any (Rows.memApartSpec.pre6 enc Try.prog Try.f8 Rows.memApartRow.domain false) (Rows.memApartSpec.post enc Try.prog Try.f8 false true false false) := by
  refine law_lift (C := Try.checked) Try.own started (by kernel_rfl) Try.func8 Try.laidOut (by kernel_rfl) rfl Try.underlying4 rfl
    (fun ds h => by match ds, h with | [a, b, c], _ => rfl)
    (ChangeSpec.witness6 (enc := enc) (C := Try.checked) false ⟨#[], #[.slice none 0 0, .agg #[.int .i64 0, .int .i64 0, .int .u64 0, .int .u64 0], .agg #[.int .i64 0, .int .i64 0, .int .u64 0, .int .u64 0]], []⟩ 8 (by kernel_rfl) (by kernel_rfl) (by kernel_rfl) (by kernel_rfl)) ?_
  intro W base args ds ps hval0 hA0 hsz0
  have hval : ∀ (j : Nat) t v, Try.f8.params[j]? = some t → args[j]? = some v → Value.okWide Try.prog W .any base t v := hval0
  have hA : DataW.TrodAll enc Try.prog W 0 (fun _ => true) true Try.f8.params.toList args.toList ds ps := hA0
  have hsz : (DataW.weightsEach Try.prog Try.f8.params.toList ds).all (· ≤ reachBytes) = true := hsz0
  clear hval0 hA0 hsz0
  rw [Try.params8] at hA hval hsz
  obtain ⟨v0, vs0, d0, ds0, p0, q0, hargs, rfl, rfl, h0, r0_⟩ := trodAll_cons hA
  obtain ⟨v1, vs1, d1, ds1, p1, q1, rfl, rfl, rfl, h1, r1_⟩ := trodAll_cons r0_
  obtain ⟨v2, vs2, d2, ds2, p2, q2, rfl, rfl, rfl, h2, r2_⟩ := trodAll_cons r1_
  obtain ⟨rfl, rfl, rfl⟩ := trodAll_nil r2_
  obtain rfl : args = #[v0, v1, v2] := by cases args; simp_all
  obtain ⟨A0, n0, c0, xs0, rfl, hr0, hw0, hn0⟩ := open_row hsz (j := 0) rfl rfl Try.underlying23 Try.underlying24 Try.cells24 Try.bytes24 (hval 0 23 v0 rfl rfl) h0
  obtain ⟨r1, hrl1, rfl, hw1⟩ := open_struct (ks := opKinds) Try.underlying26 (by kernel_rfl) Try.cells26 rfl (fields4 Try.underlying3 Try.underlying3 Try.underlying24 Try.underlying24) (hval 1 26 v1 rfl rfl) h1
  obtain ⟨k1, i1, a1, b1, rfl⟩ := list4 hrl1
  obtain ⟨r2, hrl2, rfl, hw2⟩ := open_struct (ks := opKinds) Try.underlying26 (by kernel_rfl) Try.cells26 rfl (fields4 Try.underlying3 Try.underlying3 Try.underlying24 Try.underlying24) (hval 2 26 v2 rfl rfl) h2
  obtain ⟨k2, i2, a2, b2, rfl⟩ := list4 hrl2
  exact apart_any A0 n0 c0 k1 i1 a1 b1 k2 i2 a2 b2 xs0 W hr0 hn0

theorem memApart_holds : Rows.MemApartSaid :=
  OpenClaim.holds_of_wide 8 Try.f8 rfl rfl rfl rfl rfl rfl rfl ⟨rfl, rfl, rfl, rfl, rfl⟩ rfl rfl rfl rfl rfl (by kernel_rfl) Try.func8 (by kernel_rfl)
    (of_decide_eq_true (by kernel_rfl)) (by unfold Func.isWrapper; first | (rw [if_pos (by decide +kernel)]; kernel_rfl) | (rw [if_neg (by decide +kernel)]; exact ⟨rfl, rfl⟩))
    (fun os started H enc _ => memApart_lifted os started H enc)
end Go.Proofs.Ytkbaddopgdfafaa
