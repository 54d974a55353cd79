import Derived.Test.YtkbaddopgdfafaaG3
import Derived.Deep.RegionHeld3
namespace Go.Proofs.Ytkbaddopgdfafaa
open Go.RowKit Go.Proofs.Besom

def earnL (l : Led) (who : Int) : Led :=
  if thereB who l.bal.length then turn { l with sc := wrap64 (l.sc + 1) } who 1 else { l with sc := wrap64 (l.sc + 1), pool := wrap64 (l.pool + 1) }

set_option maxRecDepth 100000 in
set_option maxHeartbeats 800000 in
theorem earn_any (l : Led) (A : Option Addr) (n c : Nat) (who : Int) (w : World) (hr : Row w 1 A n (l.bal.map (.int .i64))) (hn : n * 8 ≤ 140737488351232) :
    Calls Try.prog 31 #[ledV l A n c, .int .i64 who] w (LedPost1 w A n (earnL l who)) := by
  have hll : l.bal.length = n := by simpa using hr.1
  have HB := Lib.hid (below2' w (.cells #[.int .i64 (wrap64 (l.sc + 1)), .int .i64 l.sp, .int .i64 l.pool, .slice A n c] 50) (.cells #[.int .i64 0, .int .i64 0, .int .i64 0, .slice none 0 0] 50))
  have HR := Lib.hid hr
  have hc := fun w' => there_any { l with sc := wrap64 (l.sc + 1) } A n c who w'
  cases ht : thereB who n
  · have HT := Lib.hid (show earnL l who = { l with sc := wrap64 (l.sc + 1), pool := wrap64 (l.pool + 1) } by simp [earnL, hll, ht])
    rw [ht] at hc
    have HC := Lib.hid hc
    clear hc ht hr hll
    go_enter Try.func31, Try.ntmps31
    go_wp2_with fail
    refine (HC.out _).mono ?_
    rintro e w1 ⟨rfl, b1⟩
    have HB1 := Lib.hid (HB.out.trans (b1.mono HB.out.size))
    obtain ⟨hx, hy⟩ := blocks2 b1
    obtain ⟨q0, q1, q2, q3⟩ := cells4 hx
    obtain ⟨z0, z1, z2, z3⟩ := cells4 hy
    obtain ⟨f0, f1, f2, f3⟩ := free4 hx
    obtain ⟨t0, t1, t2, t3⟩ := free4 hy
    have HY := Lib.hid hy
    clear b1 hx hy
    go_wp2_with fail
    rw [HT.out]
    have hbf := below_set4 (p := .int .i64 (wrap64 (l.sc + 1))) (q := .int .i64 l.sp) (r := .int .i64 (wrap64 (l.pool + 1))) (s := .slice A n c) (g := w.heap.size + 1) (HB1.out.setCell (p := ⟨w.heap.size, 2, none⟩) (Nat.le_refl _) (.int .i64 (wrap64 (l.pool + 1)))) (by omega)
    exact bodyPost_row (ty' := 50) (g := w.heap.size + 1) rfl rfl (blk_set4 (blk_other HY.out (by omega))) Try.underlying50 rfl (by kernel_rfl) rfl ⟨A, c, rfl, HR.out.below hbf, hbf, .inl rfl⟩
  · obtain ⟨hw1, hw2⟩ := there_yes ht
    obtain ⟨k, hk⟩ : ∃ k : Nat, who = (k : Int) + 1 := ⟨(who - 1).toNat, by omega⟩
    subst hk
    have hkn : k < n := by omega
    have HT := Lib.hid (show earnL l ((k : Int) + 1) = turn { l with sc := wrap64 (l.sc + 1) } ((k : Int) + 1) 1 by simp [earnL, hll, ht])
    rw [ht] at hc
    have HC := Lib.hid hc
    have HD := Lib.hid (fun w' hr' => turned55 { l with sc := wrap64 (l.sc + 1) } A n c k w' hr' hn hkn)
    clear hc ht hr hll
    go_enter Try.func31, Try.ntmps31
    go_wp2_with fail
    refine (HC.out _).mono ?_
    rintro e w1 ⟨rfl, b1⟩
    have HB1 := Lib.hid (HB.out.trans (b1.mono HB.out.size))
    obtain ⟨hx, hy⟩ := blocks2 b1
    obtain ⟨q0, q1, q2, q3⟩ := cells4 hx
    have HY := Lib.hid hy
    clear b1 hx hy
    go_wp2_with fail
    refine (HD.out _ (HR.out.below HB1.out)).mono ?_
    rintro e w2 ⟨g, c2, rfl, hr2, b2, hg2⟩
    have HB2 := Lib.hid (HB1.out.trans (b2.mono HB1.out.size))
    have hs1 := lt_of_block HY.out
    have hy2 := (b2.block (w.heap.size + 1) hs1).trans HY.out
    obtain ⟨z0, z1, z2, z3⟩ := cells4 hy2
    obtain ⟨t0, t1, t2, t3⟩ := free4 hy2
    have HY2 := Lib.hid hy2
    have HR2 := Lib.hid hr2
    have hgs : w.heap.size + 1 < g := by omega
    clear hy2 hr2 b2 hg2 q0 q1 q2 q3
    go_wp2_with fail
    rw [HT.out]
    have hbf := below_set4 (p := .int .i64 (wrap64 (l.sc + 1))) (q := .int .i64 l.sp) (r := .int .i64 l.pool) (s := .slice (some ⟨g, 0, none⟩) n c2) (g := w.heap.size + 1) HB2.out (by omega)
    refine bodyPost_row (ty' := 50) (g := w.heap.size + 1) rfl rfl (blk_set4 HY2.out) Try.underlying50 rfl (by kernel_rfl) rfl ⟨some ⟨g, 0, none⟩, c2, rfl, ?_, hbf, .inr ⟨g, rfl, by omega⟩⟩
    exact HR2.out.set4 (fun ad h => by injection h with h; subst h; show g ≠ _; omega)

def takeL (l : Led) (who want : Int) : Led × Int :=
  if thereB who l.bal.length = true ∧ 0 < min want l.pool then (turn { l with pool := wrap64 (l.pool - min want l.pool) } who (min want l.pool), min want l.pool) else (l, 0)


set_option maxRecDepth 100000 in
set_option maxHeartbeats 1600000 in
theorem take_le (l : Led) (A : Option Addr) (n c : Nat) (who want : Int) (w : World) (hr : Row w 1 A n (l.bal.map (.int .i64))) (hn : n * 8 ≤ 140737488351232) (hle : want ≤ l.pool) :
    Calls Try.prog 26 #[ledV l A n c, .int .i64 who, .int .i64 want] w (LedPost2 w A n (takeL l who want).1 (.int .i64 (takeL l who want).2)) := by
  have hmin : min want l.pool = want := by omega
  have hll : l.bal.length = n := by simpa using hr.1
  have HB := Lib.hid (below3 w (.cells #[.int .i64 l.sc, .int .i64 l.sp, .int .i64 l.pool, .slice A n c] 50) (.cells #[.int .i64 0, .int .i64 0, .int .i64 0, .slice none 0 0] 50) (.cells #[.int .i64 want] 2))
  have HR := Lib.hid hr
  have hc := fun w' => there_any l A n c who w'
  by_cases hy : thereB who n = true ∧ 0 < want
  · obtain ⟨ht, hpos⟩ := hy
    obtain ⟨hw1, hw2⟩ := there_yes ht
    obtain ⟨k, hk⟩ : ∃ k : Nat, who = (k : Int) + 1 := ⟨(who - 1).toNat, by omega⟩
    subst hk
    have hkn : k < n := by omega
    have hpd : decide (want ≤ 0) = false := by simpa using hpos
    have HT := Lib.hid (show takeL l ((k : Int) + 1) want = (turn { l with pool := wrap64 (l.pool - want) } ((k : Int) + 1) want, want) by
      simp only [takeL, hll, hmin]; rw [if_pos ⟨ht, hpos⟩])
    rw [ht] at hc
    have HC := Lib.hid hc
    have HD := Lib.hid (fun w' gc hr' hx' => turned51 { l with pool := wrap64 (l.pool - want) } A n c k want gc w' hr' hn hkn hx')
    have hmf : ∀ (fn : Fn) (first cap : Array Value) (w : World), (Instr.makeFunc fn first cap).run Try.prog w = .ok (.func fn first cap) w := fun _ _ _ _ => rfl
    clear hc ht hr hll hmin
    go_enter Try.func26, Try.ntmps26
    go_wp2_with fail
    refine (HC.out _).mono ?_
    rintro e w1 ⟨rfl, b1⟩
    have HB1 := Lib.hid (HB.out.trans (b1.mono HB.out.size))
    obtain ⟨hx, hy, hv⟩ := blocks3 b1
    obtain ⟨q0, q1, q2, q3⟩ := cells4 hx
    obtain ⟨v0, g0⟩ := cells1 hv
    obtain ⟨f0, f1, f2, f3⟩ := free4 hx
    have HX := Lib.hid hx
    have HV := Lib.hid hv
    have HY := Lib.hid hy
    clear b1 hx hy hv
    go_wp2_with fail
    have hbs := HB1.out.setCell (p := ⟨w.heap.size, 2, none⟩) (Nat.le_refl _) (.int .i64 (wrap64 (l.pool - want)))
    have HBS := Lib.hid hbs
    generalize hws : w1.setCell ⟨w.heap.size, 2, none⟩ (.int .i64 (wrap64 (l.pool - want))) = ws at *
    have HXS := Lib.hid (show ws.heap[w.heap.size]? = some (.cells #[.int .i64 l.sc, .int .i64 l.sp, .int .i64 (wrap64 (l.pool - want)), .slice A n c] 50) by rw [← hws]; exact blk_set HX.out)
    have HYS := Lib.hid (show ws.heap[w.heap.size + 1]? = some (.cells #[.int .i64 0, .int .i64 0, .int .i64 0, .slice none 0 0] 50) by rw [← hws]; exact blk_other HY.out (by omega))
    have HVS := Lib.hid (show ws.heap[w.heap.size + 2]? = some (.cells #[.int .i64 want] 2) by rw [← hws]; exact blk_other HV.out (by omega))
    clear hws hbs q0 q1 q2 q3 v0 g0 f0 f1 f2 f3
    obtain ⟨q0, q1, q2, q3⟩ := cells4 HXS.out
    obtain ⟨v0, g0⟩ := cells1 HVS.out
    go_region_held3 (fun w' => w'.cell? ⟨w.heap.size, 0, none⟩ = some (.int .i64 l.sc) ∧ w'.cell? ⟨w.heap.size, 1, none⟩ = some (.int .i64 l.sp) ∧ w'.cell? ⟨w.heap.size, 2, none⟩ = some (.int .i64 (wrap64 (l.pool - want))) ∧ w'.cell? ⟨w.heap.size, 3, none⟩ = some (.slice A n c) ∧ w'.cell? ⟨w.heap.size + 1 + 1, 0, none⟩ = some (.int .i64 want))
      (first | go_keep | exact ⟨y0, y1, y2, y3, y4⟩)
      (first | (go_at_call 50; refine (HD.out _ (w.heap.size + 2) ((HR.out.below HBS.out).below (below_drewN (Below.refl _ _) 1)) v0).mono ?_; rintro e w2 ⟨g, c2, rfl, hr2, b2, hg2⟩; have b12 : Below ws.heap.size ws w2 := (Below.refl _ _).drew.trans b2; obtain ⟨y0, y1, y2, y3⟩ := cells4 ((b12.block _ (lt_of_block HXS.out)).trans HXS.out); obtain ⟨y4, -⟩ := cells1 ((b12.block _ (lt_of_block HVS.out)).trans HVS.out); have hy2 := (b12.block _ (lt_of_block HYS.out)).trans HYS.out; obtain ⟨z0, z1, z2, z3⟩ := cells4 hy2; obtain ⟨t0, t1, t2, t3⟩ := free4 hy2; have HY2 := Lib.hid hy2; have HR2 := Lib.hid hr2; have HB2 := Lib.hid (HBS.out.trans (b12.mono HBS.out.size)); have hgs : w.heap.size + 2 < g := Nat.lt_of_lt_of_le (lt_of_block HVS.out) hg2; clear hr2 b2 hy2 b12))
    go_wp2_with fail
    rw [HT.out]
    have hbf := below_set4 (p := .int .i64 l.sc) (q := .int .i64 l.sp) (r := .int .i64 (wrap64 (l.pool - want))) (s := .slice (some ⟨g, 0, none⟩) n c2) (g := w.heap.size + 1) HB2.out (by omega)
    refine bodyPost_row_tmp (ty' := 50) (g := w.heap.size + 1) rfl rfl (blk_set4 HY2.out) Try.underlying50 rfl (by kernel_rfl) rfl ⟨some ⟨g, 0, none⟩, c2, rfl, ?_, hbf, .inr ⟨g, rfl, by omega⟩⟩
    exact HR2.out.set4 (fun ad h => by injection h with h; subst h; show g ≠ _; omega)
  · have HT := Lib.hid (show takeL l who want = (l, 0) by simp only [takeL, hll, hmin]; rw [if_neg hy])
    have hcs : (thereB who n = false) ∨ (thereB who n = true ∧ decide (want ≤ 0) = true) := by
      cases ht : thereB who n
      · exact .inl rfl
      · exact .inr ⟨rfl, by simp only [decide_eq_true_eq]; rcases Int.lt_or_le 0 want with h | h; exact absurd ⟨ht, h⟩ hy; exact h⟩
    rcases hcs with ht | ⟨ht, hz⟩
    all_goals
      rw [ht] at hc
      have HC := Lib.hid hc
      clear hc ht hr hll hy hmin
      go_enter Try.func26, Try.ntmps26
      go_wp2_with fail
      refine (HC.out _).mono ?_
      rintro e w1 ⟨rfl, b1⟩
      have HB1 := Lib.hid (HB.out.trans (b1.mono HB.out.size))
      obtain ⟨hx, hy, hv⟩ := blocks3 b1
      obtain ⟨q0, q1, q2, q3⟩ := cells4 hx
      obtain ⟨z0, z1, z2, z3⟩ := cells4 hy
      obtain ⟨f0, f1, f2, f3⟩ := free4 hy
      obtain ⟨v0, g0⟩ := cells1 hv
      have HY := Lib.hid hy
      clear b1 hx hy hv
      go_wp2_with fail
      rw [HT.out]
      have hbf := below_set4 (p := .int .i64 l.sc) (q := .int .i64 l.sp) (r := .int .i64 l.pool) (s := .slice A n c) (g := w.heap.size + 1) HB1.out (by omega)
      exact bodyPost_row_tmp (ty' := 50) (g := w.heap.size + 1) rfl rfl (blk_set4 HY.out) Try.underlying50 rfl (by kernel_rfl) rfl ⟨A, c, rfl, HR.out.below hbf, hbf, .inl rfl⟩

set_option maxRecDepth 100000 in
set_option maxHeartbeats 1600000 in
theorem take_gt (l : Led) (A : Option Addr) (n c : Nat) (who want : Int) (w : World) (hr : Row w 1 A n (l.bal.map (.int .i64))) (hn : n * 8 ≤ 140737488351232) (hle : l.pool < want) :
    Calls Try.prog 26 #[ledV l A n c, .int .i64 who, .int .i64 want] w (LedPost2 w A n (takeL l who want).1 (.int .i64 (takeL l who want).2)) := by
  have hmin : min want l.pool = l.pool := by omega
  have hll : l.bal.length = n := by simpa using hr.1
  have HB := Lib.hid (below3 w (.cells #[.int .i64 l.sc, .int .i64 l.sp, .int .i64 l.pool, .slice A n c] 50) (.cells #[.int .i64 0, .int .i64 0, .int .i64 0, .slice none 0 0] 50) (.cells #[.int .i64 l.pool] 2))
  have HR := Lib.hid hr
  have hc := fun w' => there_any l A n c who w'
  by_cases hy : thereB who n = true ∧ 0 < l.pool
  · obtain ⟨ht, hpos⟩ := hy
    obtain ⟨hw1, hw2⟩ := there_yes ht
    obtain ⟨k, hk⟩ : ∃ k : Nat, who = (k : Int) + 1 := ⟨(who - 1).toNat, by omega⟩
    subst hk
    have hkn : k < n := by omega
    have hpd : decide (l.pool ≤ 0) = false := by simpa using hpos
    have HT := Lib.hid (show takeL l ((k : Int) + 1) want = (turn { l with pool := 0 } ((k : Int) + 1) l.pool, l.pool) by
      simp only [takeL, hll, hmin, Int.sub_self]; rw [if_pos ⟨ht, hpos⟩, IntWalk.wrap64_in 0 ⟨by omega, by omega⟩])
    rw [ht] at hc
    have HC := Lib.hid hc
    have HD := Lib.hid (fun w' gc hr' hx' => turned51 { l with pool := 0 } A n c k l.pool gc w' hr' hn hkn hx')
    have hmf : ∀ (fn : Fn) (first cap : Array Value) (w : World), (Instr.makeFunc fn first cap).run Try.prog w = .ok (.func fn first cap) w := fun _ _ _ _ => rfl
    clear hc ht hr hll hmin
    go_enter Try.func26, Try.ntmps26
    go_wp2_with fail
    refine (HC.out _).mono ?_
    rintro e w1 ⟨rfl, b1⟩
    have HB1 := Lib.hid (HB.out.trans (b1.mono HB.out.size))
    obtain ⟨hx, hy, hv⟩ := blocks3 b1
    obtain ⟨q0, q1, q2, q3⟩ := cells4 hx
    obtain ⟨v0, g0⟩ := cells1 hv
    obtain ⟨f0, f1, f2, f3⟩ := free4 hx
    have HX := Lib.hid hx
    have HV := Lib.hid hv
    have HY := Lib.hid hy
    clear b1 hx hy hv
    go_wp2_with fail
    have hbs := HB1.out.setCell (p := ⟨w.heap.size, 2, none⟩) (Nat.le_refl _) (.int .i64 (0))
    have HBS := Lib.hid hbs
    generalize hws : w1.setCell ⟨w.heap.size, 2, none⟩ (.int .i64 (0)) = ws at *
    have HXS := Lib.hid (show ws.heap[w.heap.size]? = some (.cells #[.int .i64 l.sc, .int .i64 l.sp, .int .i64 (0), .slice A n c] 50) by rw [← hws]; exact blk_set HX.out)
    have HYS := Lib.hid (show ws.heap[w.heap.size + 1]? = some (.cells #[.int .i64 0, .int .i64 0, .int .i64 0, .slice none 0 0] 50) by rw [← hws]; exact blk_other HY.out (by omega))
    have HVS := Lib.hid (show ws.heap[w.heap.size + 2]? = some (.cells #[.int .i64 l.pool] 2) by rw [← hws]; exact blk_other HV.out (by omega))
    clear hws hbs q0 q1 q2 q3 v0 g0 f0 f1 f2 f3
    obtain ⟨q0, q1, q2, q3⟩ := cells4 HXS.out
    obtain ⟨v0, g0⟩ := cells1 HVS.out
    go_region_held3 (fun w' => w'.cell? ⟨w.heap.size, 0, none⟩ = some (.int .i64 l.sc) ∧ w'.cell? ⟨w.heap.size, 1, none⟩ = some (.int .i64 l.sp) ∧ w'.cell? ⟨w.heap.size, 2, none⟩ = some (.int .i64 0) ∧ w'.cell? ⟨w.heap.size, 3, none⟩ = some (.slice A n c) ∧ w'.cell? ⟨w.heap.size + 1 + 1, 0, none⟩ = some (.int .i64 l.pool))
      (first | go_keep | exact ⟨y0, y1, y2, y3, y4⟩)
      (first | (go_at_call 50; refine (HD.out _ (w.heap.size + 2) ((HR.out.below HBS.out).below (below_drewN (Below.refl _ _) 1)) v0).mono ?_; rintro e w2 ⟨g, c2, rfl, hr2, b2, hg2⟩; have b12 : Below ws.heap.size ws w2 := (Below.refl _ _).drew.trans b2; obtain ⟨y0, y1, y2, y3⟩ := cells4 ((b12.block _ (lt_of_block HXS.out)).trans HXS.out); obtain ⟨y4, -⟩ := cells1 ((b12.block _ (lt_of_block HVS.out)).trans HVS.out); have hy2 := (b12.block _ (lt_of_block HYS.out)).trans HYS.out; obtain ⟨z0, z1, z2, z3⟩ := cells4 hy2; obtain ⟨t0, t1, t2, t3⟩ := free4 hy2; have HY2 := Lib.hid hy2; have HR2 := Lib.hid hr2; have HB2 := Lib.hid (HBS.out.trans (b12.mono HBS.out.size)); have hgs : w.heap.size + 2 < g := Nat.lt_of_lt_of_le (lt_of_block HVS.out) hg2; clear hr2 b2 hy2 b12))
    go_wp2_with fail
    rw [HT.out]
    have hbf := below_set4 (p := .int .i64 l.sc) (q := .int .i64 l.sp) (r := .int .i64 0) (s := .slice (some ⟨g, 0, none⟩) n c2) (g := w.heap.size + 1) HB2.out (by omega)
    refine bodyPost_row_tmp (ty' := 50) (g := w.heap.size + 1) rfl rfl (blk_set4 HY2.out) Try.underlying50 rfl (by kernel_rfl) rfl ⟨some ⟨g, 0, none⟩, c2, rfl, ?_, hbf, .inr ⟨g, rfl, by omega⟩⟩
    exact HR2.out.set4 (fun ad h => by injection h with h; subst h; show g ≠ _; omega)
  · have HT := Lib.hid (show takeL l who want = (l, 0) by simp only [takeL, hll, hmin]; rw [if_neg hy])
    have hcs : (thereB who n = false) ∨ (thereB who n = true ∧ decide (l.pool ≤ 0) = true) := by
      cases ht : thereB who n
      · exact .inl rfl
      · exact .inr ⟨rfl, by simp only [decide_eq_true_eq]; rcases Int.lt_or_le 0 l.pool with h | h; exact absurd ⟨ht, h⟩ hy; exact h⟩
    rcases hcs with ht | ⟨ht, hz⟩
    all_goals
      rw [ht] at hc
      have HC := Lib.hid hc
      clear hc ht hr hll hy hmin
      go_enter Try.func26, Try.ntmps26
      go_wp2_with fail
      refine (HC.out _).mono ?_
      rintro e w1 ⟨rfl, b1⟩
      have HB1 := Lib.hid (HB.out.trans (b1.mono HB.out.size))
      obtain ⟨hx, hy, hv⟩ := blocks3 b1
      obtain ⟨q0, q1, q2, q3⟩ := cells4 hx
      obtain ⟨z0, z1, z2, z3⟩ := cells4 hy
      obtain ⟨f0, f1, f2, f3⟩ := free4 hy
      obtain ⟨v0, g0⟩ := cells1 hv
      have HY := Lib.hid hy
      clear b1 hx hy hv
      go_wp2_with fail
      rw [HT.out]
      have hbf := below_set4 (p := .int .i64 l.sc) (q := .int .i64 l.sp) (r := .int .i64 l.pool) (s := .slice A n c) (g := w.heap.size + 1) HB1.out (by omega)
      exact bodyPost_row_tmp (ty' := 50) (g := w.heap.size + 1) rfl rfl (blk_set4 HY.out) Try.underlying50 rfl (by kernel_rfl) rfl ⟨A, c, rfl, HR.out.below hbf, hbf, .inl rfl⟩

theorem take_any (l : Led) (A : Option Addr) (n c : Nat) (who want : Int) (w : World) (hr : Row w 1 A n (l.bal.map (.int .i64))) (hn : n * 8 ≤ 140737488351232) :
    Calls Try.prog 26 #[ledV l A n c, .int .i64 who, .int .i64 want] w (LedPost2 w A n (takeL l who want).1 (.int .i64 (takeL l who want).2)) := by
  by_cases h : want ≤ l.pool
  · exact take_le l A n c who want w hr hn h
  · exact take_gt l A n c who want w hr hn (by omega)
end Go.Proofs.Ytkbaddopgdfafaa
