import Derived.Test.YtkbaddopgdfafaaT2
namespace Go.Proofs.Ytkbaddopgdfafaa
open Go.RowKit Go.Proofs.Besom

set_option maxHeartbeats 400000 in
theorem equal_any (A B : Option Addr) (n m c d : Nat) (xs ys : List Int) (w : World) (hn : n ≤ 9223372036854775807) (hm : m ≤ 9223372036854775807) (ha : Row w 1 A n (xs.map (.int .u64))) (hb : Row w 1 B m (ys.map (.int .u64))) :
    Calls Try.prog 48 #[.slice A n c, .slice B m d] w fun e w' => e = .returned (.bool (decide (xs = ys))) ∧ ∃ q, w' = w.drewN q := by
  have hxl : xs.length = n := by simpa using ha.1
  have hyl : ys.length = m := by simpa using hb.1
  have HX := Lib.hid hxl
  have HY := Lib.hid hyl
  have HA := Lib.hid ha
  have HB := Lib.hid hb
  clear hxl hyl ha hb
  by_cases hnm : n = m
  · subst hnm
    go_enter Try.func48, Try.ntmps48
    go_wp2
    go_loopw [13] (fun i wr => ∃ k : Nat, k ≤ n ∧ i = .int .i64 k ∧ Hid (xs.take k = ys.take k) ∧ ∃ q, wr = w.drewN q) (fun i _ => n - (intOf i).toNat)
    case atStart => exact ⟨0, Nat.zero_le _, rfl, Lib.hid rfl, 0, rfl⟩
    case round =>
      obtain ⟨k, hk, rfl, hE, q, rfl⟩ := hrel
      by_cases hlt : k < n
      · obtain ⟨b1, o1, rfl, h1, _⟩ := HA.out.int_at hlt
        obtain ⟨b2, o2, rfl, h2, _⟩ := HB.out.int_at hlt
        have hlt1 : (k : Int) < (n : Int) := by omega
        go_wp2
        go_quiet (fail)
        go_wp2
        · have hd : (xs[k] != ys[k]) = true := by assumption
          go_ret
          exact ⟨ret_bool (decide_eq_false (ne_of_get (by assumption) (by assumption) (by simpa using hd))).symm, drew_more _ _ _⟩
        · have hd : (xs[k] != ys[k]) = false := by assumption
          go_roundw
          case rel => exact ⟨k + 1, by omega, by go_num, Lib.hid (take_succ_eq (by assumption) (by assumption) hE.out (by simpa using hd)), _, rfl⟩
          case measure => simp [intOf]; omega
      · go_wp2
        go_ret
        exact ⟨ret_bool (decide_eq_true (eq_of_take HX.out HY.out (by omega) hE.out)).symm, _, rfl⟩
  · go_enter Try.func48, Try.ntmps48
    go_wp2
    go_ret
    exact ⟨ret_bool (decide_eq_false (fun e => hnm (by rw [← HX.out, ← HY.out, e]))).symm, 0, rfl⟩
end Go.Proofs.Ytkbaddopgdfafaa
