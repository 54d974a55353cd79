import Derived.Test.YtkbaddopgdfafaaT8
namespace Go.Proofs.Ytkbaddopgdfafaa
open Go.RowKit Go.Proofs.Besom

set_option maxHeartbeats 400000 in
theorem refOp_any (k i a b : Int) (w : World) : Calls Try.prog 18 #[.agg #[.int .i64 k, .int .i64 i, .int .u64 a, .int .u64 b]] w fun e w' => e = .returned (.agg #[.int .i64 k, .int .i64 i, .int .u64 a, .int .u64 b]) ∧ Below w.heap.size w w' := by
  go_enter Try.func18, Try.ntmps18
  go_wp2_with fail
  go_returns
  exact ⟨rfl, by go_grown⟩

set_option maxHeartbeats 400000 in
theorem refSame_any (A B : Option Addr) (n m c d : Nat) (xs ys : List Int) (w : World) (hn : n ≤ 9223372036854775807) (hm : m ≤ 9223372036854775807) (ha : Row w 1 A n (xs.map (.int .u64))) (hb : Row w 1 B m (ys.map (.int .u64))) :
    Calls Try.prog 22 #[.slice A n c, .slice B m d] w fun e w' => e = .returned (.bool (decide (xs = ys))) ∧ ∃ q, w' = w.drewN q := by
  have hxl : xs.length = n := by simpa using ha.1
  have hyl : ys.length = m := by simpa using hb.1
  have HX := Lib.hid hxl
  have HY := Lib.hid hyl
  have HA := Lib.hid ha
  have HB := Lib.hid hb
  clear hxl hyl ha hb
  by_cases hnm : n = m
  · subst hnm
    go_enter Try.func22, Try.ntmps22
    go_wp2
    go_loopw [5] (fun i wr => ∃ k : Nat, k ≤ n ∧ i = .int .i64 k ∧ Hid (xs.take k = ys.take k) ∧ ∃ q, wr = w.drewN q) (fun i _ => n - (intOf i).toNat)
    case atStart => exact ⟨0, Nat.zero_le _, rfl, Lib.hid rfl, 0, rfl⟩
    case round =>
      obtain ⟨k, hk, rfl, hE, q, rfl⟩ := hrel
      by_cases hlt : k < n
      · obtain ⟨b1, o1, rfl, h1, _⟩ := HA.out.int_at hlt
        obtain ⟨b2, o2, rfl, h2, _⟩ := HB.out.int_at hlt
        have hlt1 : (k : Int) < (n : Int) := by omega
        go_wp2
        go_quiet (fail)
        go_wp2
        · have hd : (xs[k] != ys[k]) = true := by assumption
          go_ret
          exact ⟨ret_bool (decide_eq_false (ne_of_get (by assumption) (by assumption) (by simpa using hd))).symm, drew_more _ _ _⟩
        · have hd : (xs[k] != ys[k]) = false := by assumption
          go_roundw
          case rel => exact ⟨k + 1, by omega, by go_num, Lib.hid (take_succ_eq (by assumption) (by assumption) hE.out (by simpa using hd)), _, rfl⟩
          case measure => simp [intOf]; omega
      · go_wp2
        go_ret
        exact ⟨ret_bool (decide_eq_true (eq_of_take HX.out HY.out (by omega) hE.out)).symm, _, rfl⟩
  · go_enter Try.func22, Try.ntmps22
    go_wp2
    go_ret
    exact ⟨ret_bool (decide_eq_false (fun e => hnm (by rw [← HX.out, ← HY.out, e]))).symm, 0, rfl⟩

set_option maxHeartbeats 400000 in
theorem lawSame_any (A B : Option Addr) (n m c d : Nat) (xs ys : List Int) (w : World) (hn : n ≤ 9223372036854775807) (hm : m ≤ 9223372036854775807) (ha : Row w 1 A n (xs.map (.int .u64))) (hb : Row w 1 B m (ys.map (.int .u64))) :
    Calls Try.prog 21 #[.slice A n c, .slice B m d] w fun e w' => e = .returned (.bool (decide (xs = ys))) ∧ ∃ q, w' = w.drewN q := by
  have HA := Lib.hid ha
  have HB := Lib.hid hb
  clear ha hb
  go_enter Try.func21, Try.ntmps21
  go_wp2_with fail
  refine (refSame_any A B n m c d xs ys _ hn hm HA.out HB.out).mono ?_
  rintro e w' ⟨rfl, q, rfl⟩
  go_wp2_with fail
  go_ret
  exact ⟨rfl, q, rfl⟩

abbrev opBlk33 (k at_ a b : Int) : Obj := .cells #[.int .i64 k, .int .i64 at_, .int .u64 a, .int .u64 b] 33

set_option maxRecDepth 100000 in
set_option maxHeartbeats 400000 in
theorem refDo_none (A : Option Addr) (n c : Nat) (k i a b : Int) (xs : List Int) (w : World) (hr : Row w 1 A n (xs.map (.int .u64))) (hno : ¬ (0 ≤ i ∧ i < n ∧ 1 ≤ k ∧ k ≤ 4)) :
    Calls Try.prog 17 #[.slice A n c, .agg #[.int .i64 k, .int .i64 i, .int .u64 a, .int .u64 b]] w (DoPost w A n (memDo xs k i a b)) := by
  have HB := Lib.hid (show Below w.heap.size w (w.alloc (opBlk33 k i a b)) from (Below.refl _ _).alloc (Nat.le_refl _) _)
  have HR := Lib.hid hr
  have HO := Lib.hid hno
  have hcs : i < 0 ∨ (0 ≤ i ∧ (n : Int) ≤ i) ∨ (0 ≤ i ∧ i < n ∧ k < 1) ∨ (0 ≤ i ∧ i < n ∧ 1 ≤ k ∧ 4 < k) := by omega
  clear hr hno
  rcases hcs with g1 | ⟨g1, g2⟩ | ⟨g1, g2, g3⟩ | ⟨g1, g2, g3, g4⟩
  all_goals
    go_enter Try.func17, Try.ntmps17
    go_wp2_with fail
    go_ret3
    exact post_none HR.out HO.out HB.out

set_option maxRecDepth 100000 in
set_option maxHeartbeats 400000 in
theorem refDo_load (A : Option Addr) (n c : Nat) (j : Nat) (a b : Int) (xs : List Int) (w : World) (hr : Row w 1 A n (xs.map (.int .u64))) (hj : j < n) :
    Calls Try.prog 17 #[.slice A n c, .agg #[.int .i64 1, .int .i64 j, .int .u64 a, .int .u64 b]] w (DoPost w A n (memDo xs 1 j a b)) := by
  have HB := Lib.hid (show Below w.heap.size w (w.alloc (opBlk33 1 j a b)) from (Below.refl _ _).alloc (Nat.le_refl _) _)
  obtain ⟨b1, o1, rfl, hc1, hl⟩ := (hr.below HB.out).int_at hj
  have HR := Lib.hid hr
  clear hr
  go_enter Try.func17, Try.ntmps17
  go_wp2_with fail
  go_ret3
  exact post_same HR.out hl (by decide) (by decide) rfl (fun _ => rfl) HB.out

set_option maxRecDepth 100000 in
set_option maxHeartbeats 400000 in
theorem refDo_miss (A : Option Addr) (n c : Nat) (j : Nat) (a b : Int) (xs : List Int) (w : World) (hr : Row w 1 A n (xs.map (.int .u64))) (hj : j < n) (hl : j < xs.length) (hne : xs[j] ≠ a) :
    Calls Try.prog 17 #[.slice A n c, .agg #[.int .i64 3, .int .i64 j, .int .u64 a, .int .u64 b]] w (DoPost w A n (memDo xs 3 j a b)) := by
  have HB := Lib.hid (show Below w.heap.size w (w.alloc (opBlk33 3 j a b)) from (Below.refl _ _).alloc (Nat.le_refl _) _)
  obtain ⟨b1, o1, rfl, hc1, -⟩ := (hr.below HB.out).int_at hj
  have hd : (xs[j] != a) = true := by simpa using hne
  have hnx : memNext xs[j] 3 a b = (b, false) := by simp [memNext, hne]
  have HR := Lib.hid hr
  have HN := Lib.hid hnx
  clear hr hne hnx
  go_enter Try.func17, Try.ntmps17
  go_wp2_with fail
  go_ret3
  exact post_same HR.out hl (by decide) (by decide) HN.out (fun h => by cases h) HB.out
end Go.Proofs.Ytkbaddopgdfafaa
