import Derived.Test.YtkbaddopgdfafaaH2
namespace Go.Proofs.Ytkbaddopgdfafaa
open Go.RowKit Go.Proofs.Besom

set_option maxRecDepth 100000 in
set_option maxHeartbeats 800000 in
theorem earn_anyR (l : Led) (A : Option Addr) (n c : Nat) (who : Int) (w : World) (hr : Row w 1 A n (l.bal.map (.int .i64))) (hn : n * 8 ≤ 140737488351232) :
    Calls Try.prog 32 #[ledV l A n c, .int .i64 who] w (LedPost1 w A n (earnL l who)) := by
  have hll : l.bal.length = n := by simpa using hr.1
  have HB := Lib.hid (below2' w (.cells #[.int .i64 (wrap64 (l.sc + 1)), .int .i64 l.sp, .int .i64 l.pool, .slice A n c] 51) (.cells #[.int .i64 0, .int .i64 0, .int .i64 0, .slice none 0 0] 51))
  have HR := Lib.hid hr
  have hc := fun w' => there_anyR { l with sc := wrap64 (l.sc + 1) } A n c who w'
  cases ht : thereB who n
  · have HT := Lib.hid (show earnL l who = { l with sc := wrap64 (l.sc + 1), pool := wrap64 (l.pool + 1) } by simp [earnL, hll, ht])
    rw [ht] at hc
    have HC := Lib.hid hc
    clear hc ht hr hll
    go_enter Try.func32, Try.ntmps32
    go_wp2_with fail
    refine (HC.out _).mono ?_
    rintro e w1 ⟨rfl, b1⟩
    have HB1 := Lib.hid (HB.out.trans (b1.mono HB.out.size))
    obtain ⟨hx, hy⟩ := blocks2 b1
    obtain ⟨q0, q1, q2, q3⟩ := cells4 hx
    obtain ⟨z0, z1, z2, z3⟩ := cells4 hy
    obtain ⟨f0, f1, f2, f3⟩ := free4 hx
    obtain ⟨t0, t1, t2, t3⟩ := free4 hy
    have HY := Lib.hid hy
    clear b1 hx hy
    go_wp2_with fail
    rw [HT.out]
    have hbf := below_set4 (p := .int .i64 (wrap64 (l.sc + 1))) (q := .int .i64 l.sp) (r := .int .i64 (wrap64 (l.pool + 1))) (s := .slice A n c) (g := w.heap.size + 1) (HB1.out.setCell (p := ⟨w.heap.size, 2, none⟩) (Nat.le_refl _) (.int .i64 (wrap64 (l.pool + 1)))) (by omega)
    exact bodyPost_row (ty' := 51) (g := w.heap.size + 1) rfl rfl (blk_set4 (blk_other HY.out (by omega))) Try.underlying51 rfl (by kernel_rfl) rfl ⟨A, c, rfl, HR.out.below hbf, hbf, .inl rfl⟩
  · obtain ⟨hw1, hw2⟩ := there_yes ht
    obtain ⟨k, hk⟩ : ∃ k : Nat, who = (k : Int) + 1 := ⟨(who - 1).toNat, by omega⟩
    subst hk
    have hkn : k < n := by omega
    have HT := Lib.hid (show earnL l ((k : Int) + 1) = turn { l with sc := wrap64 (l.sc + 1) } ((k : Int) + 1) 1 by simp [earnL, hll, ht])
    rw [ht] at hc
    have HC := Lib.hid hc
    have HD := Lib.hid (fun w' hr' => more_any { l with sc := wrap64 (l.sc + 1) } A n c k 1 w' hr' hn hkn)
    clear hc ht hr hll
    go_enter Try.func32, Try.ntmps32
    go_wp2_with fail
    refine (HC.out _).mono ?_
    rintro e w1 ⟨rfl, b1⟩
    have HB1 := Lib.hid (HB.out.trans (b1.mono HB.out.size))
    obtain ⟨hx, hy⟩ := blocks2 b1
    obtain ⟨q0, q1, q2, q3⟩ := cells4 hx
    have HY := Lib.hid hy
    clear b1 hx hy
    go_wp2_with fail
    refine (HD.out _ (HR.out.below HB1.out)).mono ?_
    rintro e w2 ⟨g, c2, rfl, hr2, b2, hg2⟩
    have HB2 := Lib.hid (HB1.out.trans (b2.mono HB1.out.size))
    have hs1 := lt_of_block HY.out
    have hy2 := (b2.block (w.heap.size + 1) hs1).trans HY.out
    obtain ⟨z0, z1, z2, z3⟩ := cells4 hy2
    obtain ⟨t0, t1, t2, t3⟩ := free4 hy2
    have HY2 := Lib.hid hy2
    have HR2 := Lib.hid hr2
    have hgs : w.heap.size + 1 < g := by omega
    clear hy2 hr2 b2 hg2 q0 q1 q2 q3
    go_wp2_with fail
    rw [HT.out]
    have hbf := below_set4 (p := .int .i64 (wrap64 (l.sc + 1))) (q := .int .i64 l.sp) (r := .int .i64 l.pool) (s := .slice (some ⟨g, 0, none⟩) n c2) (g := w.heap.size + 1) HB2.out (by omega)
    refine bodyPost_row (ty' := 51) (g := w.heap.size + 1) rfl rfl (blk_set4 HY2.out) Try.underlying51 rfl (by kernel_rfl) rfl ⟨some ⟨g, 0, none⟩, c2, rfl, ?_, hbf, .inr ⟨g, rfl, by omega⟩⟩
    exact HR2.out.set4 (fun ad h => by injection h with h; subst h; show g ≠ _; omega)

set_option maxRecDepth 100000 in
set_option maxHeartbeats 800000 in
theorem spend_anyR (l : Led) (A : Option Addr) (n c : Nat) (who price limit : Int) (w : World) (hr : Row w 1 A n (l.bal.map (.int .i64))) (hn : n * 8 ≤ 140737488351232) :
    Calls Try.prog 29 #[ledV l A n c, .int .i64 who, .int .i64 price, .int .i64 limit] w (LedPost2 w A n (spendL l who price limit).1 (.bool (spendL l who price limit).2)) := by
  have hll : l.bal.length = n := by simpa using hr.1
  have HB := Lib.hid (below2' w (.cells #[.int .i64 l.sc, .int .i64 l.sp, .int .i64 l.pool, .slice A n c] 51) (.cells #[.int .i64 0, .int .i64 0, .int .i64 0, .slice none 0 0] 51))
  have HR := Lib.hid hr
  have hm := fun w' hr' => may_anyR l A n c who price limit w' hr' hn
  cases hy : mayB l who price limit
  · have HT := Lib.hid (show spendL l who price limit = (l, false) by simp [spendL, hy])
    rw [hy] at hm
    have HM := Lib.hid hm
    clear hm hy hr hll
    go_enter Try.func29, Try.ntmps29
    go_wp2_with fail
    refine (HM.out _ (HR.out.below HB.out)).mono ?_
    rintro e w1 ⟨rfl, b1⟩
    have HB1 := Lib.hid (HB.out.trans (b1.mono HB.out.size))
    obtain ⟨hx, hy⟩ := blocks2 b1
    obtain ⟨q0, q1, q2, q3⟩ := cells4 hx
    obtain ⟨z0, z1, z2, z3⟩ := cells4 hy
    obtain ⟨f0, f1, f2, f3⟩ := free4 hy
    have HY := Lib.hid hy
    clear b1 hx hy
    go_wp2_with fail
    rw [HT.out]
    have hbf := below_set4 (p := .int .i64 l.sc) (q := .int .i64 l.sp) (r := .int .i64 l.pool) (s := .slice A n c) (g := w.heap.size + 1) HB1.out (by omega)
    exact bodyPost_row_tmp (ty' := 51) (g := w.heap.size + 1) rfl rfl (blk_set4 HY.out) Try.underlying51 rfl (by kernel_rfl) rfl ⟨A, c, rfl, HR.out.below hbf, hbf, .inl rfl⟩
  · have hp := priced_may hy
    rw [hll] at hp
    simp only [pricedB, Bool.and_eq_true, decide_eq_true_eq] at hp
    obtain ⟨ht, hp0, hp1, hl0, hl1⟩ := hp
    obtain ⟨hw1, hw2⟩ := there_yes ht
    obtain ⟨k, hk⟩ : ∃ k : Nat, who = (k : Int) + 1 := ⟨(who - 1).toNat, by omega⟩
    subst hk
    have hkn : k < n := by omega
    have HT := Lib.hid (show spendL l ((k : Int) + 1) price limit = (turn { l with sp := wrap64 (l.sp + price) } ((k : Int) + 1) (-price), true) by simp [spendL, hy])
    rw [hy] at hm
    have HM := Lib.hid hm
    have HD := Lib.hid (fun w' hr' => more_any { l with sp := wrap64 (l.sp + price) } A n c k (-price) w' hr' hn hkn)
    clear hm hy hr hll ht
    go_enter Try.func29, Try.ntmps29
    go_wp2_with fail
    refine (HM.out _ (HR.out.below HB.out)).mono ?_
    rintro e w1 ⟨rfl, b1⟩
    have HB1 := Lib.hid (HB.out.trans (b1.mono HB.out.size))
    obtain ⟨hx, hy⟩ := blocks2 b1
    obtain ⟨q0, q1, q2, q3⟩ := cells4 hx
    obtain ⟨f0, f1, f2, f3⟩ := free4 hx
    have HX := Lib.hid hx
    have HY := Lib.hid hy
    clear b1 hx hy
    have hmf : ∀ (fn : Fn) (first cap : Array Value) (w : World), (Instr.makeFunc fn first cap).run Try.prog w = .ok (.func fn first cap) w := fun _ _ _ _ => rfl
    go_wp2_with fail
    have hbs := HB1.out.setCell (p := ⟨w.heap.size, 1, none⟩) (Nat.le_refl _) (.int .i64 (wrap64 (l.sp + price)))
    have HBS := Lib.hid hbs
    refine (HD.out _ (HR.out.below hbs)).mono ?_
    rintro e w2 ⟨g, c2, rfl, hr2, b2, hg2⟩
    have HB2 := Lib.hid (HBS.out.trans (b2.mono HBS.out.size))
    have hs1 := lt_of_block HY.out
    have hy2 := (b2.block (w.heap.size + 1) (by simpa using hs1)).trans (blk_other HY.out (by omega))
    obtain ⟨z0, z1, z2, z3⟩ := cells4 hy2
    obtain ⟨t0, t1, t2, t3⟩ := free4 hy2
    have HY2 := Lib.hid hy2
    have HR2 := Lib.hid hr2
    have hgs : w.heap.size + 1 < g := by simp at hg2; omega
    clear hbs hy2 hr2 b2 hg2 q0 q1 q2 q3 f0 f1 f2 f3
    go_wp2_with fail
    rw [HT.out]
    have hbf := below_set4 (p := .int .i64 l.sc) (q := .int .i64 (wrap64 (l.sp + price))) (r := .int .i64 l.pool) (s := .slice (some ⟨g, 0, none⟩) n c2) (g := w.heap.size + 1) HB2.out (by omega)
    refine bodyPost_row_tmp (ty' := 51) (g := w.heap.size + 1) rfl rfl (blk_set4 HY2.out) Try.underlying51 rfl (by kernel_rfl) rfl ⟨some ⟨g, 0, none⟩, c2, rfl, ?_, hbf, .inr ⟨g, rfl, by omega⟩⟩
    exact HR2.out.set4 (fun ad h => by injection h with h; subst h; show g ≠ _; omega)
set_option maxRecDepth 100000 in
set_option maxHeartbeats 3200000 in
theorem take_anyR (l : Led) (A : Option Addr) (n c : Nat) (who want : Int) (w : World) (hr : Row w 1 A n (l.bal.map (.int .i64))) (hn : n * 8 ≤ 140737488351232) (hl : -9223372036854775808 ≤ l.pool ∧ l.pool ≤ 9223372036854775807) :
    Calls Try.prog 27 #[ledV l A n c, .int .i64 who, .int .i64 want] w (LedPost2 w A n (takeL l who want).1 (.int .i64 (takeL l who want).2)) := by
  have hll : l.bal.length = n := by simpa using hr.1
  obtain ⟨hl0, hl1⟩ := hl
  have HB := Lib.hid (below2' w (.cells #[.int .i64 l.sc, .int .i64 l.sp, .int .i64 l.pool, .slice A n c] 51) (.cells #[.int .i64 0, .int .i64 0, .int .i64 0, .slice none 0 0] 51))
  have HR := Lib.hid hr
  have hc := fun w' => there_anyR l A n c who w'
  by_cases hy : thereB who n = true ∧ 0 < min want l.pool
  · obtain ⟨ht, hpos⟩ := hy
    obtain ⟨hw1, hw2⟩ := there_yes ht
    obtain ⟨k, hk⟩ : ∃ k : Nat, who = (k : Int) + 1 := ⟨(who - 1).toNat, by omega⟩
    subst hk
    have hkn : k < n := by omega
    have hp1 : 0 < want := by omega
    have hp2 : 0 < l.pool := by omega
    rcases Int.lt_or_le l.pool want with hle | hle
    · have hmin : min want l.pool = l.pool := by omega
      have HT := Lib.hid (show takeL l ((k : Int) + 1) want = (turn { l with pool := 0 } ((k : Int) + 1) l.pool, l.pool) by
        simp only [takeL, hll, hmin]
        rw [if_pos ⟨ht, by omega⟩, show wrap64 (l.pool - l.pool) = 0 by rw [show l.pool - l.pool = 0 by omega]; exact w64 (by omega) (by omega)])
      rw [ht] at hc
      have HC := Lib.hid hc
      have HD := Lib.hid (fun w' hr' => more_any { l with pool := 0 } A n c k l.pool w' hr' hn hkn)
      clear hc ht hr hll hmin hpos
      go_enter Try.func27, Try.ntmps27
      go_wp2_with fail
      refine (HC.out _).mono ?_
      rintro e w1 ⟨rfl, b1⟩
      have HB1 := Lib.hid (HB.out.trans (b1.mono HB.out.size))
      obtain ⟨hx, hy⟩ := blocks2 b1
      obtain ⟨q0, q1, q2, q3⟩ := cells4 hx
      obtain ⟨f0, f1, f2, f3⟩ := free4 hx
      have HX := Lib.hid hx
      have HY := Lib.hid hy
      clear b1 hx hy
      go_wp2_with fail
      have hbs := HB1.out.setCell (p := ⟨w.heap.size, 2, none⟩) (Nat.le_refl _) (.int .i64 (0))
      have HBS := Lib.hid hbs
      refine (HD.out _ (HR.out.below hbs)).mono ?_
      rintro e w2 ⟨g, c2, rfl, hr2, b2, hg2⟩
      have HB2 := Lib.hid (HBS.out.trans (b2.mono HBS.out.size))
      have hs1 := lt_of_block HY.out
      have hy2 := (b2.block (w.heap.size + 1) (by simpa using hs1)).trans (blk_other HY.out (by omega))
      obtain ⟨z0, z1, z2, z3⟩ := cells4 hy2
      obtain ⟨t0, t1, t2, t3⟩ := free4 hy2
      have HY2 := Lib.hid hy2
      have HR2 := Lib.hid hr2
      have hgs : w.heap.size + 1 < g := by simp at hg2; omega
      clear hbs hy2 hr2 b2 hg2 q0 q1 q2 q3 f0 f1 f2 f3
      go_wp2_with fail
      rw [HT.out]
      have hbf := below_set4 (p := .int .i64 l.sc) (q := .int .i64 l.sp) (r := .int .i64 (0)) (s := .slice (some ⟨g, 0, none⟩) n c2) (g := w.heap.size + 1) HB2.out (by omega)
      refine bodyPost_row_tmp (ty' := 51) (g := w.heap.size + 1) rfl rfl (blk_set4 HY2.out) Try.underlying51 rfl (by kernel_rfl) rfl ⟨some ⟨g, 0, none⟩, c2, rfl, ?_, hbf, .inr ⟨g, rfl, by omega⟩⟩
      exact HR2.out.set4 (fun ad h => by injection h with h; subst h; show g ≠ _; omega)
    · have hmin : min want l.pool = want := by omega
      have HT := Lib.hid (show takeL l ((k : Int) + 1) want = (turn { l with pool := l.pool - want } ((k : Int) + 1) want, want) by
        simp only [takeL, hll, hmin]
        rw [if_pos ⟨ht, by omega⟩, show wrap64 (l.pool - want) = l.pool - want by rw [show l.pool - want = l.pool - want by omega]; exact w64 (by omega) (by omega)])
      rw [ht] at hc
      have HC := Lib.hid hc
      have HD := Lib.hid (fun w' hr' => more_any { l with pool := l.pool - want } A n c k want w' hr' hn hkn)
      clear hc ht hr hll hmin hpos
      go_enter Try.func27, Try.ntmps27
      go_wp2_with fail
      refine (HC.out _).mono ?_
      rintro e w1 ⟨rfl, b1⟩
      have HB1 := Lib.hid (HB.out.trans (b1.mono HB.out.size))
      obtain ⟨hx, hy⟩ := blocks2 b1
      obtain ⟨q0, q1, q2, q3⟩ := cells4 hx
      obtain ⟨f0, f1, f2, f3⟩ := free4 hx
      have HX := Lib.hid hx
      have HY := Lib.hid hy
      clear b1 hx hy
      go_wp2_with fail
      have hbs := HB1.out.setCell (p := ⟨w.heap.size, 2, none⟩) (Nat.le_refl _) (.int .i64 (l.pool - want))
      have HBS := Lib.hid hbs
      refine (HD.out _ (HR.out.below hbs)).mono ?_
      rintro e w2 ⟨g, c2, rfl, hr2, b2, hg2⟩
      have HB2 := Lib.hid (HBS.out.trans (b2.mono HBS.out.size))
      have hs1 := lt_of_block HY.out
      have hy2 := (b2.block (w.heap.size + 1) (by simpa using hs1)).trans (blk_other HY.out (by omega))
      obtain ⟨z0, z1, z2, z3⟩ := cells4 hy2
      obtain ⟨t0, t1, t2, t3⟩ := free4 hy2
      have HY2 := Lib.hid hy2
      have HR2 := Lib.hid hr2
      have hgs : w.heap.size + 1 < g := by simp at hg2; omega
      clear hbs hy2 hr2 b2 hg2 q0 q1 q2 q3 f0 f1 f2 f3
      go_wp2_with fail
      rw [HT.out]
      have hbf := below_set4 (p := .int .i64 l.sc) (q := .int .i64 l.sp) (r := .int .i64 (l.pool - want)) (s := .slice (some ⟨g, 0, none⟩) n c2) (g := w.heap.size + 1) HB2.out (by omega)
      refine bodyPost_row_tmp (ty' := 51) (g := w.heap.size + 1) rfl rfl (blk_set4 HY2.out) Try.underlying51 rfl (by kernel_rfl) rfl ⟨some ⟨g, 0, none⟩, c2, rfl, ?_, hbf, .inr ⟨g, rfl, by omega⟩⟩
      exact HR2.out.set4 (fun ad h => by injection h with h; subst h; show g ≠ _; omega)
  · have HT := Lib.hid (show takeL l who want = (l, 0) by simp only [takeL, hll]; rw [if_neg hy])
    have hcs : (thereB who n = false) ∨ (thereB who n = true ∧ want ≤ 0) ∨ (thereB who n = true ∧ 0 < want ∧ l.pool ≤ 0) := by
      cases ht : thereB who n
      · exact .inl rfl
      · refine .inr ?_
        rcases Int.lt_or_le 0 want with h | h
        · exact .inr ⟨rfl, h, by rcases Int.lt_or_le 0 l.pool with h' | h'; exact absurd ⟨ht, by omega⟩ hy; exact h'⟩
        · exact .inl ⟨rfl, h⟩
    rcases hcs with ht | ⟨ht, hz⟩ | ⟨ht, hz, hz'⟩
    all_goals
      rw [ht] at hc
      have HC := Lib.hid hc
      clear hc ht hr hll hy
      go_enter Try.func27, Try.ntmps27
      go_wp2_with fail
      refine (HC.out _).mono ?_
      rintro e w1 ⟨rfl, b1⟩
      have HB1 := Lib.hid (HB.out.trans (b1.mono HB.out.size))
      obtain ⟨hx, hy⟩ := blocks2 b1
      obtain ⟨q0, q1, q2, q3⟩ := cells4 hx
      obtain ⟨z0, z1, z2, z3⟩ := cells4 hy
      obtain ⟨f0, f1, f2, f3⟩ := free4 hy
      have HY := Lib.hid hy
      clear b1 hx hy
      go_wp2_with fail
      rw [HT.out]
      have hbf := below_set4 (p := .int .i64 l.sc) (q := .int .i64 l.sp) (r := .int .i64 l.pool) (s := .slice A n c) (g := w.heap.size + 1) HB1.out (by omega)
      exact bodyPost_row_tmp (ty' := 51) (g := w.heap.size + 1) rfl rfl (blk_set4 HY.out) Try.underlying51 rfl (by kernel_rfl) rfl ⟨A, c, rfl, HR.out.below hbf, hbf, .inl rfl⟩
end Go.Proofs.Ytkbaddopgdfafaa
