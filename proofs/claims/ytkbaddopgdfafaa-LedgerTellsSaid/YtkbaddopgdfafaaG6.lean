import Derived.Test.YtkbaddopgdfafaaG5
namespace Go.Proofs.Ytkbaddopgdfafaa
open Go.RowKit Go.Proofs.Besom

theorem led_ext {a b : Led} (h1 : a.sc = b.sc) (h2 : a.sp = b.sp) (h3 : a.pool = b.pool) (h4 : a.bal = b.bal) : a = b := by
  cases a; cases b; simp_all

set_option maxRecDepth 100000 in
set_option maxHeartbeats 800000 in
theorem ledSame_any (a b : Led) (A B : Option Addr) (n m c d : Nat) (w : World) (ha : Row w 1 A n (a.bal.map (.int .i64))) (hb : Row w 1 B m (b.bal.map (.int .i64))) (hn : n * 8 ≤ 140737488351232) (hm : m * 8 ≤ 140737488351232) :
    Calls Try.prog 39 #[ledV a A n c, ledV b B m d] w fun e w' => e = .returned (.bool (decide (a = b))) ∧ Below w.heap.size w w' := by
  have HB := Lib.hid (below2' w (.cells #[.int .i64 a.sc, .int .i64 a.sp, .int .i64 a.pool, .slice A n c] 50) (.cells #[.int .i64 b.sc, .int .i64 b.sp, .int .i64 b.pool, .slice B m d] 50))
  have hc := equal58_any A B n m c d a.bal b.bal _ (by omega) (by omega) (ha.below HB.out) (hb.below HB.out)
  have HC := Lib.hid hc
  clear hc ha hb
  by_cases h1 : a.sc = b.sc
  · by_cases h2 : a.sp = b.sp
    · by_cases h3 : a.pool = b.pool
      · have g1 : (a.sc == b.sc) = true := by simpa using h1
        have g2 : (a.sp == b.sp) = true := by simpa using h2
        have g3 : (a.pool == b.pool) = true := by simpa using h3
        have HT := Lib.hid (show decide (a.bal = b.bal) = decide (a = b) by
          rw [Bool.eq_iff_iff]; simp only [decide_eq_true_eq]
          exact ⟨fun h => led_ext h1 h2 h3 h, fun h => by rw [h]⟩)
        clear h1 h2 h3
        go_enter Try.func39, Try.ntmps39
        go_wp2_with fail
        refine HC.out.mono ?_
        rintro e w1 ⟨rfl, q, rfl⟩
        go_wp2_with fail
        go_ret
        exact ⟨ret_bool HT.out, below_drewN HB.out _⟩
      · have g1 : (a.sc == b.sc) = true := by simpa using h1
        have g2 : (a.sp == b.sp) = true := by simpa using h2
        have g3 : (a.pool == b.pool) = false := by simpa using h3
        have HT := Lib.hid (show false = decide (a = b) from (decide_eq_false (fun h => h3 (by rw [h]))).symm)
        clear h1 h2 h3
        go_enter Try.func39, Try.ntmps39
        go_wp2_with fail
        go_ret
        exact ⟨ret_bool HT.out, HB.out⟩
    · have g1 : (a.sc == b.sc) = true := by simpa using h1
      have g2 : (a.sp == b.sp) = false := by simpa using h2
      have HT := Lib.hid (show false = decide (a = b) from (decide_eq_false (fun h => h2 (by rw [h]))).symm)
      clear h1 h2
      go_enter Try.func39, Try.ntmps39
      go_wp2_with fail
      go_ret
      exact ⟨ret_bool HT.out, HB.out⟩
  · have g1 : (a.sc == b.sc) = false := by simpa using h1
    have HT := Lib.hid (show false = decide (a = b) from (decide_eq_false (fun h => h1 (by rw [h]))).symm)
    clear h1
    go_enter Try.func39, Try.ntmps39
    go_wp2_with fail
    go_ret
    exact ⟨ret_bool HT.out, HB.out⟩

def sumTo (l : Led) (k : Nat) : Int := (l.bal.take k).foldl (fun s b => wrap64 (s + b)) (wrap64 (l.sp + l.pool))
def okBal (b : Int) : Prop := -1099511627776 ≤ b ∧ b ≤ 1099511627776
def headOk (l : Led) : Prop := l.bal.length ≤ 16 ∧ 0 ≤ l.sc ∧ 0 ≤ l.sp ∧ 0 ≤ l.pool ∧ l.sc ≤ 1099511627776 ∧ l.sp ≤ 1099511627776 ∧ l.pool ≤ 1099511627776
instance (l : Led) : Decidable (headOk l) := by unfold headOk; infer_instance
instance (b : Int) : Decidable (okBal b) := by unfold okBal; infer_instance
def rightB (l : Led) : Bool := decide (headOk l ∧ (∀ b ∈ l.bal, okBal b) ∧ sumTo l l.bal.length = l.sc)

theorem sum_succ (l : Led) (k : Nat) (h : k < l.bal.length) : sumTo l (k + 1) = wrap64 (sumTo l k + l.bal[k]) := by
  unfold sumTo
  rw [List.take_succ_eq_append_getElem h, List.foldl_append]
  rfl

theorem take_ok {l : List Int} {k : Nat} {hk : k < l.length} (h : ∀ b ∈ l.take k, okBal b) (hb : okBal l[k]) : ∀ b ∈ l.take (k + 1), okBal b := by
  intro b hm
  rw [List.take_succ_eq_append_getElem hk] at hm
  rcases List.mem_append.1 hm with h1 | h1
  · exact h b h1
  · simp at h1; subst h1; exact hb

set_option maxRecDepth 100000 in
set_option maxHeartbeats 1600000 in
theorem right_head (l : Led) (A : Option Addr) (n c : Nat) (w : World) (hr : Row w 1 A n (l.bal.map (.int .i64))) (hh : ¬ headOk l) :
    Calls Try.prog 33 #[ledV l A n c] w fun e w' => e = .returned (.bool (rightB l)) ∧ Below w.heap.size w w' := by
  have HB := Lib.hid (ledBox l A n c w)
  have hll : l.bal.length = n := by simpa using hr.1
  have HT := Lib.hid (show false = rightB l from (decide_eq_false (fun h => hh h.1)).symm)
  unfold headOk at hh
  rw [hll] at hh
  clear hll hr
  go_enter Try.func33, Try.ntmps33
  go_wp2_with fail
  all_goals
    go_ret
    exact ⟨ret_bool HT.out, HB.out⟩

set_option maxRecDepth 100000 in
set_option maxHeartbeats 3200000 in
theorem right_body (l : Led) (A : Option Addr) (n c : Nat) (w : World) (hr : Row w 1 A n (l.bal.map (.int .i64))) (hh : headOk l) :
    Calls Try.prog 33 #[ledV l A n c] w fun e w' => e = .returned (.bool (rightB l)) ∧ Below w.heap.size w w' := by
  have HB := Lib.hid (ledBox l A n c w)
  have hll : l.bal.length = n := by simpa using hr.1
  have HL := Lib.hid hll
  have HH := Lib.hid hh
  have HR := Lib.hid hr
  obtain ⟨h1, h2, h3, h4, h5, h6, h7⟩ := hh
  rw [hll] at h1
  have HS0 := Lib.hid (show sumTo l 0 = l.sp + l.pool from IntWalk.wrap64_in _ ⟨by omega, by omega⟩)
  clear hll hr
  go_enter Try.func33, Try.ntmps33
  go_wp2_with fail
  all_goals
    go_loopw [3, 38] (fun s i wr => ∃ k : Nat, k ≤ n ∧ i = .int .i64 k ∧ s = .int .i64 (sumTo l k) ∧ Hid (∀ b ∈ l.bal.take k, okBal b) ∧ wr = w.alloc (.cells #[.int .i64 l.sc, .int .i64 l.sp, .int .i64 l.pool, .slice A n c] 50)) (fun _ i _ => n - (intOf i).toNat)
    case atStart => exact ⟨0, Nat.zero_le _, rfl, by rw [HS0.out], Lib.hid (by simp), rfl⟩
    case round =>
      obtain ⟨k, hk, rfl, rfl, hb, rfl⟩ := hrel
      by_cases hlt : k < n
      · obtain ⟨b1, o1, rfl, p1, hl1⟩ := (HR.out.below HB.out).int_at hlt
        have hbad : ¬ okBal l.bal[k] → false = rightB l := fun h => (decide_eq_false (fun hr => h (hr.2.1 _ (List.getElem_mem hl1)))).symm
        have HBAD := Lib.hid hbad
        clear hbad
        go_wp2_with fail
        · go_ret
          exact ⟨ret_bool (HBAD.out (by unfold okBal; omega)), HB.out⟩
        · go_roundw
          case rel => exact ⟨k + 1, by omega, by go_num, by rw [sum_succ l k hl1], Lib.hid (take_ok hb.out (by unfold okBal; omega)), by trivial⟩
          case measure => simp [intOf]; omega
        · go_ret
          exact ⟨ret_bool (HBAD.out (by unfold okBal; omega)), HB.out⟩
      · have hkn : k = l.bal.length := by have := HL.out; omega
        have hfin : (sumTo l k == l.sc) = rightB l := by
          subst hkn
          have hb' := hb.out
          rw [List.take_length] at hb'
          rw [Bool.eq_iff_iff, beq_iff_eq]
          unfold rightB
          rw [decide_eq_true_eq]
          exact ⟨fun h => ⟨HH.out, hb', h⟩, fun h => h.2.2⟩
        have HF := Lib.hid hfin
        clear hkn hfin
        go_wp2_with fail
        go_ret
        exact ⟨ret_bool HF.out, HB.out⟩

theorem right_any (l : Led) (A : Option Addr) (n c : Nat) (w : World) (hr : Row w 1 A n (l.bal.map (.int .i64))) :
    Calls Try.prog 33 #[ledV l A n c] w fun e w' => e = .returned (.bool (rightB l)) ∧ Below w.heap.size w w' := by
  by_cases h : headOk l
  · exact right_body l A n c w hr h
  · exact right_head l A n c w hr h
end Go.Proofs.Ytkbaddopgdfafaa
