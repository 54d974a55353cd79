import Derived.Test.YtkbaddopgdfafabK20
import Derived.Outline
namespace Go.Proofs.Ytkbaddopgdfafab
open Go.RowKit Go.Proofs.Besom

theorem own_row_cap {w : World} {base : Nat} {e : TypeId} {size n : Nat} {v : Value} {xs : List Value} (h : w.ownsRow base e size v n xs) : ∃ A c, v = .slice A n c ∧ n ≤ c ∧ Row w size A n xs := by
  have h' := h
  rcases h'.2 with ⟨rfl, rfl⟩ | ⟨g, cap, cur, rfl, _, _, hn, _⟩
  · have h1 := h.1
    refine ⟨_, _, rfl, ?_, Row.of_own h⟩
    omega
  · exact ⟨_, _, rfl, hn, Row.of_own h⟩

set_option maxRecDepth 100000 in
set_option maxHeartbeats 3200000 in
theorem prounds6 (n m k : Int) (w : World) (g1 : 0 ≤ n) (l1 : n ≤ 255) (g2 : 0 ≤ m) (l2 : m ≤ 255) (g3 : 0 ≤ k) (l3 : k ≤ 255) :
    Calls Try.prog 6 #[.int .u8 n, .int .u8 m, .int .u8 k] w fun e w' => e = .returned (.bool true) ∧ Below w.heap.size w w' := by
  obtain ⟨i0, hi, hz0, hz1, hz2⟩ := info_parts Try.info32
  have a0 : 0 ≤ n % 17 := by omega
  have a1 : n % 17 ≤ 16 := by omega
  have b0 : 0 ≤ m % 17 := by omega
  have b1 : m % 17 ≤ 16 := by omega
  have HK := Lib.hid (known_round a1 b1)
  have hM := roundL_many a0 a1 b0 b1
  have hM33 := roundL_len (n % 17) (m % 17)
  have hM0 : 0 < (roundL (n % 17) (m % 17)).length := by omega
  have hlo : k % ((roundL (n % 17) (m % 17)).length : Int) = ((k.toNat % (roundL (n % 17) (m % 17)).length : Nat) : Int) := by
    rw [Int.natCast_emod, Int.toNat_of_nonneg g3]
  have hlt : k.toNat % (roundL (n % 17) (m % 17)).length < (roundL (n % 17) (m % 17)).length := Nat.mod_lt _ hM0
  have HF1 := Lib.hid (rounds_fair a1 b1 (k.toNat % (roundL (n % 17) (m % 17)).length) (k := 1 + n % 17 + m % 17) (by omega))
  have HF2 := Lib.hid (rounds_fair a1 b1 (k.toNat % (roundL (n % 17) (m % 17)).length) (k := 1 + n % 17 + m % 17 + 1) (by omega))
  have HF3 := Lib.hid (fun h => rounds_unfair (k.toNat % (roundL (n % 17) (m % 17)).length) hlt h)
  have HR := Lib.hid (fun w => round23 (n % 17) (m % 17) w)
  have HWR := Lib.hid (roundL_wf (n % 17) (m % 17))
  have HWW := Lib.hid (rrr_wf (n % 17) (m % 17))
  rw [hM] at HF3
  generalize k.toNat % (roundL (n % 17) (m % 17)).length = t at *
  generalize roundL (n % 17) (m % 17) = r at *
  have hmb : ((r.length : Int) == 1 + n % 17 + m % 17) = true := by rw [hM]; simp
  have HM := Lib.hid hM
  have hM0' : 0 < (r.length : Int) := by omega
  clear hM
  go_enter Try.func6, Try.ntmps6
  go_wp2_with fail
  refine (examples10 _).mono ?_
  rintro e w1 ⟨rfl, bb⟩
  have HB1 := Lib.hid bb
  clear bb
  go_wp2_with fail
  refine (HR.out w1).mono ?_
  rintro e w2 ⟨v, rfl, o2, bb⟩
  have HB2 := Lib.hid (HB1.out.trans (bb.mono HB1.out.size))
  obtain ⟨A, c, rfl, hA⟩ := own_row o2
  have HA := Lib.hid hA
  clear bb o2 hA
  go_wp2_with (first
    | (at_builtin; refine wpList_append_row _ rfl (.const (.slice none 0 0)) (.tmp 21) 22 rfl w2.heap.size 32 i0 _ 2 16 Try.underlying22 hi hz0 hz1 hz2 rfl (by decide) (.slice none 0 0) 0 [] rfl (World.ownsRow_nil _ _ _ _) A r.length c (picksV r) rfl HA.out (picks_one r) (by unfold maxLen; omega) (by omega) (Nat.le_refl _) ?_; intro v3 w3 o3 g3_ at3; have HB3 := Lib.hid (below_of_nil g3_); have O3 := Lib.hid o3; clear o3 g3_ at3)
    | (at_builtin; refine wpList_append_row _ rfl (.tmp 22) (.tmp 23) 22 rfl w2.heap.size 32 i0 _ 2 16 Try.underlying22 hi hz0 hz1 hz2 rfl (by decide) v3 (0 + r.length) ([] ++ picksV r) rfl O3.out A r.length c (picksV r) rfl (HA.out.below HB3.out) (picks_one r) (by unfold maxLen; omega) (by omega) HB3.out.size ?_; intro v4 w4 o4 g4 at4; have HB4 := Lib.hid (HB3.out.grown g4 HB3.out.size (fun g hg => (O3.out.lt g hg).1)); have O4 := Lib.hid o4; clear o4 g4 at4)
    | (at_builtin; refine wpList_append_row _ rfl (.tmp 24) (.tmp 25) 22 rfl w2.heap.size 32 i0 _ 2 16 Try.underlying22 hi hz0 hz1 hz2 rfl (by decide) v4 (0 + r.length + r.length) ([] ++ picksV r ++ picksV r) rfl O4.out A r.length c (picksV r) rfl (HA.out.below HB4.out) (picks_one r) (by unfold maxLen; omega) (by omega) HB4.out.size ?_; intro v5 w5 o5 g5 at5; have HB5 := Lib.hid (HB4.out.grown g5 HB4.out.size (fun g hg => (O4.out.lt g hg).1)); obtain ⟨B5, c5, rfl, hc5, ho5⟩ := own_row_cap o5; obtain ⟨A', c', hsl, hrow⟩ := slice_from (P := Try.prog) (t := 22) (e := 32) (size := 2) (lo := t) (n := r.length + r.length + r.length) (c := c5) B5 Try.underlying22 (by kernel_rfl) (by omega) (by omega); have O5 : Hid (Row w5 2 A' (r.length + r.length + r.length - t) (picksV ((rrr r).drop t))) := Lib.hid (by rw [← picks_drop]; refine hrow w5 _ ?_; rw [rrr, picksV_app, picksV_app]; simpa using ho5); have HA5 := Lib.hid ((HA.out.below HB5.out)); have HB6 := Lib.hid (HB2.out.trans (HB5.out.mono HB2.out.size)); clear o5 g5 at5 ho5 hrow hc5 O3 O4 HB3 HB4 HB5))
  refine (known_is HK.out _ HA5.out (by omega)).mono ?_
  rintro e w6 ⟨rfl, bb⟩
  have HB7 := Lib.hid (HB6.out.trans (bb.mono HB6.out.size))
  have O6 := Lib.hid (O5.out.below bb)
  clear bb
  go_wp2_with fail
  refine (fair_is HF1.out _ O6.out (by omega) (fun p hp => HWW.out p (List.mem_of_mem_drop hp))).mono ?_
  rintro e w7 ⟨rfl, bb⟩
  have HB8 := Lib.hid (HB7.out.trans (bb.mono HB7.out.size))
  have O7 := Lib.hid (O6.out.below bb)
  clear bb
  by_cases h1 : r.length = 1
  · have hone : ((1 + n % 17 + m % 17 : Int) == 1) = true := by have := HM.out; simp; omega
    clear h1
    go_wp2_with fail
    refine (fair_is HF2.out _ O7.out (by omega) (fun p hp => HWW.out p (List.mem_of_mem_drop hp))).mono ?_
    rintro e w8 ⟨rfl, bb⟩
    have HB9 := Lib.hid (HB8.out.trans (bb.mono HB8.out.size))
    clear bb
    go_wp2_with fail
    go_ret
    exact ⟨rfl, HB9.out⟩
  · have hone : ((1 + n % 17 + m % 17 : Int) == 1) = false := by have := HM.out; simp; omega
    have HF4 := Lib.hid (HF3.out (by omega))
    clear h1
    go_wp2_with fail
    refine (fair_is HF4.out _ O7.out (by omega) (fun p hp => HWW.out p (List.mem_of_mem_drop hp))).mono ?_
    rintro e w8 ⟨rfl, bb⟩
    have HB9 := Lib.hid (HB8.out.trans (bb.mono HB8.out.size))
    have O8 := Lib.hid (O7.out.below bb)
    clear bb
    go_wp2_with fail
    refine (fair_is HF2.out _ O8.out (by omega) (fun p hp => HWW.out p (List.mem_of_mem_drop hp))).mono ?_
    rintro e w9 ⟨rfl, bb⟩
    have HBa := Lib.hid (HB9.out.trans (bb.mono HB9.out.size))
    clear bb
    go_wp2_with fail
    go_ret
    exact ⟨rfl, HBa.out⟩
end Go.Proofs.Ytkbaddopgdfafab
