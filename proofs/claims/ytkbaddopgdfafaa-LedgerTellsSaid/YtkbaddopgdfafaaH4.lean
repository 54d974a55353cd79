import Derived.Test.YtkbaddopgdfafaaH3
namespace Go.Proofs.Ytkbaddopgdfafaa
open Go.RowKit Go.Proofs.Besom

set_option maxRecDepth 100000 in
set_option maxHeartbeats 800000 in
theorem refLed_any (l : Led) (A : Option Addr) (n c : Nat) (w : World) :
    Calls Try.prog 25 #[ledV l A n c] w fun e w' => e = .returned (ledV l A n c) ∧ Below w.heap.size w w' := by
  have hb0 := below2' w (.cells #[.int .i64 l.sc, .int .i64 l.sp, .int .i64 l.pool, .slice A n c] 50) (.cells #[.int .i64 0, .int .i64 0, .int .i64 0, .slice none 0 0] 51)
  have hy0 : ((w.alloc (.cells #[.int .i64 l.sc, .int .i64 l.sp, .int .i64 l.pool, .slice A n c] 50)).alloc (.cells #[.int .i64 0, .int .i64 0, .int .i64 0, .slice none 0 0] 51)).heap[w.heap.size + 1]? = some (.cells #[.int .i64 0, .int .i64 0, .int .i64 0, .slice none 0 0] 51 (0, 0)) := heap_alloc_at (by simp)
  have HB := Lib.hid hb0
  have HY := Lib.hid hy0
  clear hb0 hy0
  go_enter Try.func25, Try.ntmps25
  go_wp2_with fail
  have hy1 : ((w.alloc (.cells #[.int .i64 l.sc, .int .i64 l.sp, .int .i64 l.pool, .slice A n c] 50)).alloc (.cells #[.int .i64 l.sc, .int .i64 l.sp, .int .i64 l.pool, .slice A n c] 51)).heap[w.heap.size + 1]? = some (.cells #[.int .i64 l.sc, .int .i64 l.sp, .int .i64 l.pool, .slice A n c] 51 (0, 0)) := heap_alloc_at (by simp)
  exact bodyPost_row (ty' := 51) (g := w.heap.size + 1) rfl rfl hy1 Try.underlying51 rfl (by kernel_rfl) rfl ⟨rfl, below2' w _ _⟩

set_option maxRecDepth 100000 in
set_option maxHeartbeats 3200000 in
theorem ledSame_anyR (a b : Led) (A B : Option Addr) (n m c d : Nat) (w : World) (ha : Row w 1 A n (a.bal.map (.int .i64))) (hb : Row w 1 B m (b.bal.map (.int .i64))) (hn : n * 8 ≤ 140737488351232) (hm : m * 8 ≤ 140737488351232) :
    Calls Try.prog 30 #[ledV a A n c, ledV b B m d] w fun e w' => e = .returned (.bool (decide (a = b))) ∧ Below w.heap.size w w' := by
  have HB := Lib.hid (below2' w (.cells #[.int .i64 a.sc, .int .i64 a.sp, .int .i64 a.pool, .slice A n c] 51) (.cells #[.int .i64 b.sc, .int .i64 b.sp, .int .i64 b.pool, .slice B m d] 51))
  have hxl : a.bal.length = n := by simpa using ha.1
  have hyl : b.bal.length = m := by simpa using hb.1
  have HX := Lib.hid hxl
  have HY := Lib.hid hyl
  have HA := Lib.hid (ha.below HB.out)
  have HD := Lib.hid (hb.below HB.out)
  by_cases h1 : a.sc = b.sc
  · by_cases h2 : a.sp = b.sp
    · by_cases h3 : a.pool = b.pool
      · have g1 : (a.sc != b.sc) = false := by simpa using h1
        have g2 : (a.sp != b.sp) = false := by simpa using h2
        have g3 : (a.pool != b.pool) = false := by simpa using h3
        have HT := Lib.hid (show decide (a.bal = b.bal) = decide (a = b) by
          rw [Bool.eq_iff_iff]; simp only [decide_eq_true_eq]
          exact ⟨fun h => led_ext h1 h2 h3 h, fun h => by rw [h]⟩)
        clear h1 h2 h3 hxl hyl ha hb
        by_cases hnm : n = m
        · subst hnm
          go_enter Try.func30, Try.ntmps30
          go_wp2_with fail
          generalize hW : ((w.alloc (.cells #[.int .i64 a.sc, .int .i64 a.sp, .int .i64 a.pool, .slice A n c] 51)).alloc (.cells #[.int .i64 b.sc, .int .i64 b.sp, .int .i64 b.pool, .slice B n d] 51)) = W at *
          have hx : W.heap[w.heap.size]? = some (.cells #[.int .i64 a.sc, .int .i64 a.sp, .int .i64 a.pool, .slice A n c] 51 (0, 0)) := by rw [← hW]; exact (Below.heap_alloc _ _ _ (by simp)).trans (heap_alloc_at rfl)
          have hy : W.heap[w.heap.size + 1]? = some (.cells #[.int .i64 b.sc, .int .i64 b.sp, .int .i64 b.pool, .slice B n d] 51 (0, 0)) := by rw [← hW]; exact heap_alloc_at (by simp)
          obtain ⟨x0, x1, x2, x3⟩ := cells4 hx
          obtain ⟨y0, y1, y2, y3⟩ := cells4 hy
          clear hx hy hW
          go_loopw [5] (fun i wr => ∃ k : Nat, k ≤ n ∧ i = .int .i64 k ∧ Hid (a.bal.take k = b.bal.take k) ∧ ∃ q, wr = W.drewN q) (fun i _ => n - (intOf i).toNat)
          case atStart => exact ⟨0, Nat.zero_le _, rfl, Lib.hid rfl, 0, rfl⟩
          case round =>
            obtain ⟨k, hk, rfl, hE, q, rfl⟩ := hrel
            by_cases hlt : k < n
            · obtain ⟨b1, o1, rfl, h1, _⟩ := HA.out.int_at hlt
              obtain ⟨b2, o2, rfl, h2, _⟩ := HD.out.int_at hlt
              have hlt1 : (k : Int) < (n : Int) := by omega
              go_wp2_with fail
              go_quiet (fail)
              go_wp2_with fail
              · have hd : (a.bal[k] != b.bal[k]) = true := by assumption
                go_ret
                exact ⟨ret_bool ((decide_eq_false (ne_of_get (by assumption) (by assumption) (by simpa using hd))).symm.trans HT.out), below_drewN (below_drewN HB.out _) _⟩
              · have hd : (a.bal[k] != b.bal[k]) = false := by assumption
                go_roundw
                case rel => exact ⟨k + 1, by omega, by go_num, Lib.hid (take_succ_eq (by assumption) (by assumption) hE.out (by simpa using hd)), _, rfl⟩
                case measure => simp [intOf]; omega
            · go_wp2_with fail
              go_ret
              exact ⟨ret_bool ((decide_eq_true (eq_of_take HX.out HY.out (by omega) hE.out)).symm.trans HT.out), below_drewN HB.out _⟩
        · go_enter Try.func30, Try.ntmps30
          go_wp2_with fail
          go_ret
          exact ⟨ret_bool ((decide_eq_false (fun e => hnm (by rw [← HX.out, ← HY.out, e]))).symm.trans HT.out), HB.out⟩
      · have g1 : (a.sc != b.sc) = false := by simpa using h1
        have g2 : (a.sp != b.sp) = false := by simpa using h2
        have g3 : (a.pool != b.pool) = true := by simpa using h3
        have HT := Lib.hid (show false = decide (a = b) from (decide_eq_false (fun h => h3 (by rw [h]))).symm)
        clear h1 h2 h3 hxl hyl ha hb
        go_enter Try.func30, Try.ntmps30
        go_wp2_with fail
        go_ret
        exact ⟨ret_bool HT.out, HB.out⟩
    · have g1 : (a.sc != b.sc) = false := by simpa using h1
      have g2 : (a.sp != b.sp) = true := by simpa using h2
      have HT := Lib.hid (show false = decide (a = b) from (decide_eq_false (fun h => h2 (by rw [h]))).symm)
      clear h1 h2 hxl hyl ha hb
      go_enter Try.func30, Try.ntmps30
      go_wp2_with fail
      go_ret
      exact ⟨ret_bool HT.out, HB.out⟩
  · have g1 : (a.sc != b.sc) = true := by simpa using h1
    have HT := Lib.hid (show false = decide (a = b) from (decide_eq_false (fun h => h1 (by rw [h]))).symm)
    clear h1 hxl hyl ha hb
    go_enter Try.func30, Try.ntmps30
    go_wp2_with fail
    go_ret
    exact ⟨ret_bool HT.out, HB.out⟩

set_option maxRecDepth 100000 in
set_option maxHeartbeats 1600000 in
theorem right_headR (l : Led) (A : Option Addr) (n c : Nat) (w : World) (hr : Row w 1 A n (l.bal.map (.int .i64))) (hh : ¬ headOk l) :
    Calls Try.prog 34 #[ledV l A n c] w fun e w' => e = .returned (.bool (rightB l)) ∧ Below w.heap.size w w' := by
  have HB := Lib.hid (ledBoxR l A n c w)
  have hll : l.bal.length = n := by simpa using hr.1
  have HT := Lib.hid (show false = rightB l from (decide_eq_false (fun h => hh h.1)).symm)
  unfold headOk at hh
  rw [hll] at hh
  clear hll hr
  go_enter Try.func34, Try.ntmps34
  go_wp2_with fail
  all_goals
    go_ret
    exact ⟨ret_bool HT.out, HB.out⟩

set_option maxRecDepth 100000 in
set_option maxHeartbeats 3200000 in
theorem right_bodyR (l : Led) (A : Option Addr) (n c : Nat) (w : World) (hr : Row w 1 A n (l.bal.map (.int .i64))) (hh : headOk l) :
    Calls Try.prog 34 #[ledV l A n c] w fun e w' => e = .returned (.bool (rightB l)) ∧ Below w.heap.size w w' := by
  have HB := Lib.hid (ledBoxR l A n c w)
  have hll : l.bal.length = n := by simpa using hr.1
  have HL := Lib.hid hll
  have HH := Lib.hid hh
  have HR := Lib.hid hr
  obtain ⟨h1, h2, h3, h4, h5, h6, h7⟩ := hh
  rw [hll] at h1
  have HS0 := Lib.hid (show sumTo l 0 = l.sp + l.pool from IntWalk.wrap64_in _ ⟨by omega, by omega⟩)
  clear hll hr
  go_enter Try.func34, Try.ntmps34
  go_wp2_with fail
  all_goals
    go_loopw [4, 5] (fun s i wr => ∃ k : Nat, k ≤ n ∧ i = .int .i64 k ∧ s = .int .i64 (sumTo l k) ∧ Hid (∀ b ∈ l.bal.take k, okBal b) ∧ wr = w.alloc (.cells #[.int .i64 l.sc, .int .i64 l.sp, .int .i64 l.pool, .slice A n c] 51)) (fun _ i _ => n - (intOf i).toNat)
    case atStart => exact ⟨0, Nat.zero_le _, rfl, by rw [HS0.out], Lib.hid (by simp), rfl⟩
    case round =>
      obtain ⟨k, hk, rfl, rfl, hb, rfl⟩ := hrel
      by_cases hlt : k < n
      · obtain ⟨b1, o1, rfl, p1, hl1⟩ := (HR.out.below HB.out).int_at hlt
        have hbad : ¬ okBal l.bal[k] → false = rightB l := fun h => (decide_eq_false (fun hr => h (hr.2.1 _ (List.getElem_mem hl1)))).symm
        have HBAD := Lib.hid hbad
        clear hbad
        go_wp2_with fail
        · go_ret
          exact ⟨ret_bool (HBAD.out (by unfold okBal; omega)), HB.out⟩
        · go_roundw
          case rel => exact ⟨k + 1, by omega, by go_num, by rw [sum_succ l k hl1], Lib.hid (take_ok hb.out (by unfold okBal; omega)), by trivial⟩
          case measure => simp [intOf]; omega
        · go_ret
          exact ⟨ret_bool (HBAD.out (by unfold okBal; omega)), HB.out⟩
      · have hkn : k = l.bal.length := by have := HL.out; omega
        have hfin : (sumTo l k == l.sc) = rightB l := by
          subst hkn
          have hb' := hb.out
          rw [List.take_length] at hb'
          rw [Bool.eq_iff_iff, beq_iff_eq]
          unfold rightB
          rw [decide_eq_true_eq]
          exact ⟨fun h => ⟨HH.out, hb', h⟩, fun h => h.2.2⟩
        have HF := Lib.hid hfin
        clear hkn hfin
        go_wp2_with fail
        go_ret
        exact ⟨ret_bool HF.out, HB.out⟩

theorem right_anyR (l : Led) (A : Option Addr) (n c : Nat) (w : World) (hr : Row w 1 A n (l.bal.map (.int .i64))) :
    Calls Try.prog 34 #[ledV l A n c] w fun e w' => e = .returned (.bool (rightB l)) ∧ Below w.heap.size w w' := by
  by_cases h : headOk l
  · exact right_bodyR l A n c w hr h
  · exact right_headR l A n c w hr h
end Go.Proofs.Ytkbaddopgdfafaa
