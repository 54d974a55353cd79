import Derived.Test.YtkbaddopgdfafabKR6
namespace Go.Proofs.Ytkbaddopgdfafab
open Go.RowKit Go.Proofs.Besom

theorem drewBelow (W : World) (q : Nat) : Below W.heap.size W (W.drewN q) := ⟨rfl, rfl, rfl, Nat.le_refl _, fun _ _ => rfl⟩

set_option maxRecDepth 100000 in
set_option maxHeartbeats 3200000 in
theorem samePicks16 (A B : Option Addr) (n m c d : Nat) (xs ys : List (Int × Int)) (w : World) (hn : n * 16 ≤ 140737488351232) (hm : m * 16 ≤ 140737488351232) (ha : Row w 2 A n (picksV xs)) (hb : Row w 2 B m (picksV ys)) :
    Calls Try.prog 16 #[.slice A n c, .slice B m d] w (SamePost w (decide (xs = ys))) := by
  have hxl : xs.length = n := by have := ha.1; rw [picksV_len] at this; omega
  have hyl : ys.length = m := by have := hb.1; rw [picksV_len] at this; omega
  have HX := Lib.hid hxl
  have HY := Lib.hid hyl
  have HR := Lib.hid (rpicks15 xs A n c w ha hn)
  have HB0 := Lib.hid hb
  clear hxl hyl ha hb
  by_cases hnm : n = m
  · subst hnm
    go_enter Try.func16, Try.ntmps16
    go_wp2_with fail
    ((with_reducible refine HR.out.mono ?_))
    rintro e W ⟨v, rfl, o, b1⟩
    obtain ⟨A1, c1, rfl, r1⟩ := own_row o
    have HA := Lib.hid r1
    have HB := Lib.hid (HB0.out.below b1)
    have HW := Lib.hid b1
    clear o r1 b1
    go_wp2_with fail
    go_loopw [6] (fun i wr => ∃ k : Nat, k ≤ n ∧ i = .int .i64 k ∧ Hid (xs.take k = ys.take k) ∧ ∃ q, wr = W.drewN q) (fun i _ => n - (intOf i).toNat)
    case atStart => exact ⟨0, Nat.zero_le _, rfl, Lib.hid rfl, 0, rfl⟩
    case round =>
      obtain ⟨k, hk, rfl, hE, q, rfl⟩ := hrel
      by_cases hlt : k < n
      · obtain ⟨b1, o1, hk1, rfl, c0, c1⟩ := picks_at HA.out hlt
        obtain ⟨b2, o2, hk2, rfl, d0, d1⟩ := picks_at HB.out hlt
        have hlt1 : (k : Int) < (n : Int) := by omega
        by_cases he : xs[k] = ys[k]
        · have HT := Lib.hid (takeP_succ hk1 hk2 hE.out he)
          rw [← he] at d0 d1
          clear he
          generalize xs[k] = p at *
          clear hk1 hk2
          go_wp2_with fail
          go_quiet (fail)
          go_wp2_with fail
          go_roundw
          case rel => exact ⟨k + 1, by omega, by go_num, HT, _, rfl⟩
          case measure => simp [intOf]; omega
        · have HT := Lib.hid (show false = decide (xs = ys) from (decide_eq_false (fun e => he (by subst e; rfl))).symm)
          generalize xs[k] = p at *
          generalize ys[k] = p' at *
          obtain ⟨p1, p2⟩ := p
          obtain ⟨r1, r2⟩ := p'
          dsimp only at c0 c1 d0 d1
          clear hk1 hk2
          by_cases h1 : p1 = r1
          · subst h1
            have h2 : (p2 == r2) = false := by simpa using he
            clear he
            go_wp2_with fail
            go_quiet (fail)
            go_wp2_with fail
            go_ret
            exact ⟨ret_bool HT.out, ⟨HW.out.os, HW.out.tape, HW.out.output, HW.out.size, HW.out.block⟩⟩
          · have h2 : (p1 == r1) = false := by simpa using h1
            clear he h1
            go_wp2_with fail
            go_quiet (fail)
            go_wp2_with fail
            go_ret
            exact ⟨ret_bool HT.out, ⟨HW.out.os, HW.out.tape, HW.out.output, HW.out.size, HW.out.block⟩⟩
      · go_wp2_with fail
        go_ret
        exact ⟨ret_bool (decide_eq_true (eqP_of_take HX.out HY.out (by omega) hE.out)).symm, ⟨HW.out.os, HW.out.tape, HW.out.output, HW.out.size, HW.out.block⟩⟩
  · have hnm' : ((n : Int) == (m : Int)) = false := by simp; omega
    go_enter Try.func16, Try.ntmps16
    go_wp2_with fail
    ((with_reducible refine HR.out.mono ?_))
    rintro e W ⟨v, rfl, o, b1⟩
    obtain ⟨A1, c1, rfl, r1⟩ := own_row o
    have HW := Lib.hid b1
    clear o r1 b1
    go_wp2_with fail
    go_ret
    exact ⟨ret_bool (decide_eq_false (fun e => hnm (by rw [← HX.out, ← HY.out, e]))).symm, HW.out⟩
end Go.Proofs.Ytkbaddopgdfafab
