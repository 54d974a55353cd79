import Derived.Test.YtkbaddopgdfafabK21
namespace Go.Proofs.Ytkbaddopgdfafab
open Go.RowKit Go.Proofs.Besom

def SamePost (w : World) (r : Bool) (e : Ending) (w' : World) : Prop := e = .returned (.bool r) ∧ Below w.heap.size w w'

theorem takeP_succ {xs ys : List (Int × Int)} {k : Nat} (h1 : k < xs.length) (h2 : k < ys.length) (h : xs.take k = ys.take k) (he : xs[k] = ys[k]) : xs.take (k + 1) = ys.take (k + 1) := by
  rw [List.take_succ_eq_append_getElem h1, List.take_succ_eq_append_getElem h2, h, he]
theorem eqP_of_take {xs ys : List (Int × Int)} {n k : Nat} (h1 : xs.length = n) (h2 : ys.length = n) (hk : n ≤ k) (h : xs.take k = ys.take k) : xs = ys := by
  rwa [List.take_of_length_le (by omega), List.take_of_length_le (by omega)] at h

theorem pick_ne {p q : Int × Int} : (p = q) ↔ ((p.1 == q.1 && p.2 == q.2) = true) := by
  obtain ⟨a, b⟩ := p; obtain ⟨c, d⟩ := q; simp

set_option maxHeartbeats 1600000 in
theorem same26 (A B : Option Addr) (n m c d : Nat) (xs ys : List (Int × Int)) (w : World) (hn : n ≤ 9223372036854775807) (hm : m ≤ 9223372036854775807) (ha : Row w 2 A n (picksV xs)) (hb : Row w 2 B m (picksV ys)) :
    Calls Try.prog 26 #[.slice A n c, .slice B m d] w (SamePost w (decide (xs = ys))) := by
  have hxl : xs.length = n := by have := ha.1; rw [picksV_len] at this; omega
  have hyl : ys.length = m := by have := hb.1; rw [picksV_len] at this; omega
  have HX := Lib.hid hxl
  have HY := Lib.hid hyl
  have HA := Lib.hid ha
  have HB := Lib.hid hb
  clear hxl hyl ha hb
  by_cases hnm : n = m
  · subst hnm
    go_enter Try.func26, Try.ntmps26
    go_wp2_with fail
    go_loopw [5] (fun i wr => ∃ k : Nat, k ≤ n ∧ i = .int .i64 k ∧ Hid (xs.take k = ys.take k) ∧ ∃ q, wr = w.drewN q) (fun i _ => n - (intOf i).toNat)
    case atStart => exact ⟨0, Nat.zero_le _, rfl, Lib.hid rfl, 0, rfl⟩
    case round =>
      obtain ⟨k, hk, rfl, hE, q, rfl⟩ := hrel
      by_cases hlt : k < n
      · obtain ⟨b1, o1, hk1, rfl, c0, c1⟩ := picks_at HA.out hlt
        obtain ⟨b2, o2, hk2, rfl, d0, d1⟩ := picks_at HB.out hlt
        have hlt1 : (k : Int) < (n : Int) := by omega
        by_cases he : xs[k] = ys[k]
        · have HT := Lib.hid (takeP_succ hk1 hk2 hE.out he)
          rw [← he] at d0 d1
          clear he
          generalize xs[k] = p at *
          clear hk1 hk2
          go_wp2
          go_quiet (fail)
          go_wp2
          go_roundw
          case rel => exact ⟨k + 1, by omega, by go_num, HT, _, rfl⟩
          case measure => simp [intOf]; omega
        · have HT := Lib.hid (show false = decide (xs = ys) from (decide_eq_false (fun e => he (by subst e; rfl))).symm)
          generalize xs[k] = p at *
          generalize ys[k] = p' at *
          obtain ⟨p1, p2⟩ := p
          obtain ⟨r1, r2⟩ := p'
          dsimp only at c0 c1 d0 d1
          clear hk1 hk2
          by_cases h1 : p1 = r1
          · subst h1
            have h2 : (p2 == r2) = false := by simpa using he
            clear he
            go_wp2
            go_quiet (fail)
            go_wp2
            go_ret
            exact ⟨ret_bool HT.out, ⟨rfl, rfl, rfl, Nat.le_refl _, fun _ _ => rfl⟩⟩
          · have h2 : (p1 == r1) = false := by simpa using h1
            clear he h1
            go_wp2
            go_quiet (fail)
            go_wp2
            go_ret
            exact ⟨ret_bool HT.out, ⟨rfl, rfl, rfl, Nat.le_refl _, fun _ _ => rfl⟩⟩
      · go_wp2
        go_ret
        exact ⟨ret_bool (decide_eq_true (eqP_of_take HX.out HY.out (by omega) hE.out)).symm, ⟨rfl, rfl, rfl, Nat.le_refl _, fun _ _ => rfl⟩⟩
  · go_enter Try.func26, Try.ntmps26
    go_wp2_with fail
    go_ret
    exact ⟨ret_bool (decide_eq_false (fun e => hnm (by rw [← HX.out, ← HY.out, e]))).symm, Below.refl _ _⟩
end Go.Proofs.Ytkbaddopgdfafab
