import Derived.Test.YtkbaddopgdfafaaG7
namespace Go.Proofs.Ytkbaddopgdfafaa
open Go.RowKit Go.Proofs.Besom

set_option maxHeartbeats 400000 in
theorem there_anyR (l : Led) (A : Option Addr) (n c : Nat) (who : Int) (w : World) :
    Calls Try.prog 52 #[ledV l A n c, .int .i64 who] w fun e w' => e = .returned (.bool (thereB who n)) ∧ Below w.heap.size w w' := by
  have hb : Below w.heap.size w (w.alloc (.cells #[.int .i64 l.sc, .int .i64 l.sp, .int .i64 l.pool, .slice A n c] 51)) := (Below.refl _ _).alloc (Nat.le_refl _) _
  have HB := Lib.hid hb
  clear hb
  by_cases h1 : 1 ≤ who
  · by_cases h2 : who ≤ n
    · have hd : decide (who ≤ (n : Int)) = true := by simpa using h2
      have HT := Lib.hid (show true = thereB who n from (decide_eq_true ⟨h1, h2⟩).symm)
      go_enter Try.func52, Try.ntmps52
      go_wp2_with fail
      go_ret
      exact ⟨ret_bool HT.out, HB.out⟩
    · have hd : decide (who ≤ (n : Int)) = false := by simpa using h2
      have HT := Lib.hid (show false = thereB who n from (decide_eq_false (fun h => h2 h.2)).symm)
      go_enter Try.func52, Try.ntmps52
      go_wp2_with fail
      go_ret
      exact ⟨ret_bool HT.out, HB.out⟩
  · have hd : decide (1 ≤ who) = false := by simpa using h1
    have HT := Lib.hid (show false = thereB who n from (decide_eq_false (fun h => h1 h.1)).symm)
    go_enter Try.func52, Try.ntmps52
    go_wp2_with fail
    go_ret
    exact ⟨ret_bool HT.out, HB.out⟩

theorem ledBoxR (l : Led) (A : Option Addr) (n c : Nat) (w : World) : Below w.heap.size w (w.alloc (.cells #[.int .i64 l.sc, .int .i64 l.sp, .int .i64 l.pool, .slice A n c] 51)) := (Below.refl _ _).alloc (Nat.le_refl _) _

set_option maxRecDepth 100000 in
set_option maxHeartbeats 400000 in
theorem priced_anyR (l : Led) (A : Option Addr) (n c : Nat) (who price limit : Int) (w : World) :
    Calls Try.prog 57 #[ledV l A n c, .int .i64 who, .int .i64 price, .int .i64 limit] w fun e w' => e = .returned (.bool (pricedB n who price limit)) ∧ Below w.heap.size w w' := by
  have HB := Lib.hid (ledBoxR l A n c w)
  cases ht : thereB who n
  · have HT := Lib.hid (show false = pricedB n who price limit by simp [pricedB, ht])
    have hc := fun w' => there_anyR l A n c who w'
    rw [ht] at hc
    have HC := Lib.hid hc
    clear hc ht
    go_enter Try.func57, Try.ntmps57
    go_wp2_with fail
    refine (HC.out _).mono ?_
    rintro e w1 ⟨rfl, b1⟩
    go_wp2_with fail
    go_ret
    exact ⟨ret_bool HT.out, HB.out.trans (b1.mono HB.out.size)⟩
  · have hc := fun w' => there_anyR l A n c who w'
    rw [ht] at hc
    have HC := Lib.hid hc
    have HT := Lib.hid ht
    clear hc ht
    go_enter Try.func57, Try.ntmps57
    go_wp2_with fail
    refine (HC.out _).mono ?_
    rintro e w1 ⟨rfl, b1⟩
    go_wp2_with fail
    all_goals
      go_ret
      refine ⟨ret_bool ?_, HB.out.trans (b1.mono HB.out.size)⟩
      unfold pricedB
      rw [HT.out, Bool.eq_iff_iff]
      simp
      try omega
set_option maxRecDepth 100000 in
set_option maxHeartbeats 400000 in
theorem may_anyR (l : Led) (A : Option Addr) (n c : Nat) (who price limit : Int) (w : World) (hr : Row w 1 A n (l.bal.map (.int .i64))) (hn : n * 8 ≤ 140737488351232) :
    Calls Try.prog 36 #[ledV l A n c, .int .i64 who, .int .i64 price, .int .i64 limit] w fun e w' => e = .returned (.bool (mayB l who price limit)) ∧ Below w.heap.size w w' := by
  have HB := Lib.hid (ledBoxR l A n c w)
  have hll : l.bal.length = n := by simpa using hr.1
  have HR := Lib.hid hr
  have hc := fun w' => priced_anyR l A n c who price limit w'
  cases hp : pricedB n who price limit
  · have HT := Lib.hid (show false = mayB l who price limit by simp [mayB, hll, hp])
    rw [hp] at hc
    have HC := Lib.hid hc
    clear hc hp hr hll
    go_enter Try.func36, Try.ntmps36
    go_wp2_with fail
    refine (HC.out _).mono ?_
    rintro e w1 ⟨rfl, b1⟩
    go_wp2_with fail
    go_ret
    exact ⟨ret_bool HT.out, HB.out.trans (b1.mono HB.out.size)⟩
  · rw [hp] at hc
    have HC := Lib.hid hc
    have hp' := hp
    simp only [pricedB, Bool.and_eq_true, decide_eq_true_eq] at hp'
    obtain ⟨ht, hp0, hp1, hl0, hl1⟩ := hp'
    obtain ⟨hw1, hw2⟩ := there_yes ht
    obtain ⟨k, hk⟩ : ∃ k : Nat, who = (k : Int) + 1 := ⟨(who - 1).toNat, by omega⟩
    subst hk
    have hkn : k < n := by omega
    obtain ⟨b, o, rfl, hcell, hkl⟩ := hr.int_at hkn
    have HT := Lib.hid (show mayB l ((k : Int) + 1) price limit = decide (wrap64 (-limit) ≤ wrap64 (l.bal[k] - price)) by
      have e1 : ((k : Int) + 1 - 1).toNat = k := by omega
      simp only [mayB, hll, hp, e1, List.getD_eq_getElem?_getD, List.getElem?_eq_getElem hkl]
      rfl)
    have hbb := World.block_lt_of_cell? w _ hcell
    clear hc hp hr ht hll
    go_enter Try.func36, Try.ntmps36
    go_wp2_with fail
    refine (HC.out _).mono ?_
    rintro e w1 ⟨rfl, b1⟩
    have hb1 := HB.out.trans (b1.mono HB.out.size)
    have hc1 : w1.cell? ⟨b, o + k, none⟩ = some (.int .i64 (l.bal.getD k 0)) := (hb1.cell hbb).trans hcell
    obtain ⟨q0, q1, q2, q3⟩ := cells4 ((b1.block w.heap.size (by simp)).trans (heap_alloc_at rfl))
    have HB1 := Lib.hid hb1
    clear b1 hb1
    go_wp2_with fail
    go_ret
    refine ⟨ret_bool ?_, HB1.out⟩
    rw [HT.out]
    rw [IntWalk.wrap64_in (-limit) ⟨by omega, by omega⟩]
set_option maxRecDepth 100000 in
set_option maxHeartbeats 400000 in
theorem lacks_anyR (l : Led) (A : Option Addr) (n c : Nat) (who price limit : Int) (w : World) (hr : Row w 1 A n (l.bal.map (.int .i64))) (hn : n * 8 ≤ 140737488351232) :
    Calls Try.prog 38 #[ledV l A n c, .int .i64 who, .int .i64 price, .int .i64 limit] w fun e w' => e = .returned (.int .i64 (lacksI l who price limit)) ∧ Below w.heap.size w w' := by
  have HB := Lib.hid (ledBoxR l A n c w)
  have hll : l.bal.length = n := by simpa using hr.1
  have HR := Lib.hid hr
  have hc := fun w' => priced_anyR l A n c who price limit w'
  have hm := fun w' hr' => may_anyR l A n c who price limit w' hr' hn
  cases hp : pricedB n who price limit
  · have HT := Lib.hid (show -1 = lacksI l who price limit by simp [lacksI, hll, hp])
    rw [hp] at hc
    have HC := Lib.hid hc
    clear hc hp hr hll hm
    go_enter Try.func38, Try.ntmps38
    go_wp2_with fail
    refine (HC.out _).mono ?_
    rintro e w1 ⟨rfl, b1⟩
    go_wp2_with fail
    go_ret
    exact ⟨ret_int HT.out, HB.out.trans (b1.mono HB.out.size)⟩
  · rw [hp] at hc
    have HC := Lib.hid hc
    cases hy : mayB l who price limit
    · rw [hy] at hm
      have HM := Lib.hid hm
      have hp' := hp
      simp only [pricedB, Bool.and_eq_true, decide_eq_true_eq] at hp'
      obtain ⟨ht, hp0, hp1, hl0, hl1⟩ := hp'
      obtain ⟨hw1, hw2⟩ := there_yes ht
      obtain ⟨k, hk⟩ : ∃ k : Nat, who = (k : Int) + 1 := ⟨(who - 1).toNat, by omega⟩
      subst hk
      have hkn : k < n := by omega
      obtain ⟨b, o, rfl, hcell, hkl⟩ := hr.int_at hkn
      have HT := Lib.hid (show lacksI l ((k : Int) + 1) price limit = wrap64 (wrap64 (price - limit) - l.bal[k]) by
        have e1 : ((k : Int) + 1 - 1).toNat = k := by omega
        simp only [lacksI, hll, hp, hy, e1, List.getD_eq_getElem?_getD, List.getElem?_eq_getElem hkl]
        rfl)
      have hbb := World.block_lt_of_cell? w _ hcell
      clear hc hp hr ht hll hm hy
      go_enter Try.func38, Try.ntmps38
      go_wp2_with fail
      refine (HC.out _).mono ?_
      rintro e w1 ⟨rfl, b1⟩
      have hb1 := HB.out.trans (b1.mono HB.out.size)
      have hblk1 := (b1.block w.heap.size (by simp)).trans (heap_alloc_at (w := w) rfl)
      obtain ⟨q0, q1, q2, q3⟩ := cells4 hblk1
      have HB1 := Lib.hid hb1
      have HK1 := Lib.hid hblk1
      clear b1 hb1 hblk1
      go_wp2_with fail
      refine (HM.out _ (HR.out.below HB1.out)).mono ?_
      rintro e w2 ⟨rfl, b2⟩
      have hb2 := HB1.out.trans (b2.mono HB1.out.size)
      have hc2 : w2.cell? ⟨b, o + k, none⟩ = some (.int .i64 (l.bal.getD k 0)) := (hb2.cell hbb).trans hcell
      obtain ⟨z0, z1, z2, z3⟩ := cells4 ((b2.block w.heap.size (lt_of_block HK1.out)).trans HK1.out)
      have HB2 := Lib.hid hb2
      clear b2 hb2 q0 q1 q2 q3
      go_wp2_with fail
      go_ret
      refine ⟨ret_int ?_, HB2.out⟩
      rw [HT.out]
      first | rfl | rw [IntWalk.wrap64_in (price - limit) ⟨by omega, by omega⟩]
    · rw [hy] at hm
      have HM := Lib.hid hm
      have HT := Lib.hid (show 0 = lacksI l who price limit by simp [lacksI, hll, hp, hy])
      clear hc hp hr hll hm hy
      go_enter Try.func38, Try.ntmps38
      go_wp2_with fail
      refine (HC.out _).mono ?_
      rintro e w1 ⟨rfl, b1⟩
      have hb1 := HB.out.trans (b1.mono HB.out.size)
      have hblk1 := (b1.block w.heap.size (by simp)).trans (heap_alloc_at (w := w) rfl)
      obtain ⟨q0, q1, q2, q3⟩ := cells4 hblk1
      have HB1 := Lib.hid hb1
      clear b1 hb1 hblk1
      go_wp2_with fail
      refine (HM.out _ (HR.out.below HB1.out)).mono ?_
      rintro e w2 ⟨rfl, b2⟩
      go_wp2_with fail
      go_ret
      exact ⟨ret_int HT.out, HB1.out.trans (b2.mono HB1.out.size)⟩

set_option maxRecDepth 100000 in
set_option maxHeartbeats 800000 in
theorem new_negR (m : Int) (w : World) (hm : m < 0) : Calls Try.prog 41 #[.int .i64 m] w (NewPost w (newL m)) := by
  obtain ⟨i0, hi, hz0, hz1, hz2⟩ := info_parts Try.info2
  have hN : (min m 16).toNat = 0 := by omega
  have HB := Lib.hid (show Below w.heap.size w (w.alloc (.cells #[.int .i64 0, .int .i64 0, .int .i64 0, .slice none 0 0] 51)) from (Below.refl _ _).alloc (Nat.le_refl _) _)
  have HN := Lib.hid hN
  clear hN
  skip
  go_enter Try.func41, Try.ntmps41
  go_wp2_with (at_make; refine wpList_make_full _ rfl (.tmp 5) (.tmp 5) 48 rfl (w.heap.size + 1) 2 i0 (.int .i64 0) 1 Try.underlying48 hi hz0 hz1 .i64 .i64 (0 : Int) (0 : Int) 0 rfl rfl (by omega) (by omega) (by rw [hz2]; omega) (by unfold maxLen; omega) (by simp) ?_; intro w1 o1 g1; simp only [World.size_alloc] at o1; have hb1 := below_of_grown_none g1; have hy := (hb1.block w.heap.size (by simp)).trans (heap_alloc_at (w := w) rfl); obtain ⟨z0, z1, z2, z3⟩ := cells4 hy; obtain ⟨t0, t1, t2, t3⟩ := free4 hy; have HY := Lib.hid hy; have O1 := Lib.hid o1; have HB1 := Lib.hid (HB.out.trans (hb1.mono HB.out.size)); clear o1 g1 hb1 hy)
  rw [made_zero] at O1
  have hrow := Row.of_own O1.out
  have hlen : (newL m).bal.length = 0 := by simp [newL, HN.out]
  have hbal : (newL m).bal = List.replicate (0) 0 := by simp only [newL, HN.out]
  have hbf := below_set4 (p := .int .i64 0) (q := .int .i64 0) (r := .int .i64 0) (s := .slice (some ⟨w.heap.size + 1, 0, none⟩) (0) (0)) (g := w.heap.size) HB1.out (Nat.le_refl _)
  refine bodyPost_row (ty' := 51) (g := w.heap.size) rfl rfl (blk_set4 HY.out) Try.underlying51 rfl (by kernel_rfl) rfl ⟨w.heap.size + 1, ?_, ?_, hbf⟩
  · rw [hlen]; rfl
  · rw [hlen, hbal]
    exact hrow.set4 (fun ad h => by injection h with h; subst h; show w.heap.size + 1 ≠ _; omega)

set_option maxRecDepth 100000 in
set_option maxHeartbeats 800000 in
theorem new_midR (m : Int) (w : World) (hm : 0 ≤ m ∧ m ≤ 16) : Calls Try.prog 41 #[.int .i64 m] w (NewPost w (newL m)) := by
  obtain ⟨i0, hi, hz0, hz1, hz2⟩ := info_parts Try.info2
  have hN : (min m 16).toNat = m.toNat := by omega
  have HB := Lib.hid (show Below w.heap.size w (w.alloc (.cells #[.int .i64 0, .int .i64 0, .int .i64 0, .slice none 0 0] 51)) from (Below.refl _ _).alloc (Nat.le_refl _) _)
  have HN := Lib.hid hN
  clear hN
  obtain ⟨hm1, hm2⟩ := hm
  go_enter Try.func41, Try.ntmps41
  go_wp2_with (at_make; refine wpList_make_full _ rfl (.tmp 5) (.tmp 5) 48 rfl (w.heap.size + 1) 2 i0 (.int .i64 0) 1 Try.underlying48 hi hz0 hz1 .i64 .i64 (m : Int) (m : Int) m.toNat rfl rfl (by omega) (by omega) (by rw [hz2]; omega) (by unfold maxLen; omega) (by simp) ?_; intro w1 o1 g1; simp only [World.size_alloc] at o1; have hb1 := below_of_grown_none g1; have hy := (hb1.block w.heap.size (by simp)).trans (heap_alloc_at (w := w) rfl); obtain ⟨z0, z1, z2, z3⟩ := cells4 hy; obtain ⟨t0, t1, t2, t3⟩ := free4 hy; have HY := Lib.hid hy; have O1 := Lib.hid o1; have HB1 := Lib.hid (HB.out.trans (hb1.mono HB.out.size)); clear o1 g1 hb1 hy)
  rw [made_zero] at O1
  have hrow := Row.of_own O1.out
  have hlen : (newL m).bal.length = m.toNat := by simp [newL, HN.out]
  have hbal : (newL m).bal = List.replicate (m.toNat) 0 := by simp only [newL, HN.out]
  have hbf := below_set4 (p := .int .i64 0) (q := .int .i64 0) (r := .int .i64 0) (s := .slice (some ⟨w.heap.size + 1, 0, none⟩) (m.toNat) (m.toNat)) (g := w.heap.size) HB1.out (Nat.le_refl _)
  refine bodyPost_row (ty' := 51) (g := w.heap.size) rfl rfl (blk_set4 HY.out) Try.underlying51 rfl (by kernel_rfl) rfl ⟨w.heap.size + 1, ?_, ?_, hbf⟩
  · rw [hlen]; rfl
  · rw [hlen, hbal]
    exact hrow.set4 (fun ad h => by injection h with h; subst h; show w.heap.size + 1 ≠ _; omega)

set_option maxRecDepth 100000 in
set_option maxHeartbeats 800000 in
theorem new_bigR (m : Int) (w : World) (hm : 16 < m) : Calls Try.prog 41 #[.int .i64 m] w (NewPost w (newL m)) := by
  obtain ⟨i0, hi, hz0, hz1, hz2⟩ := info_parts Try.info2
  have hN : (min m 16).toNat = 16 := by omega
  have HB := Lib.hid (show Below w.heap.size w (w.alloc (.cells #[.int .i64 0, .int .i64 0, .int .i64 0, .slice none 0 0] 51)) from (Below.refl _ _).alloc (Nat.le_refl _) _)
  have HN := Lib.hid hN
  clear hN
  skip
  go_enter Try.func41, Try.ntmps41
  go_wp2_with (at_make; refine wpList_make_full _ rfl (.tmp 5) (.tmp 5) 48 rfl (w.heap.size + 1) 2 i0 (.int .i64 0) 1 Try.underlying48 hi hz0 hz1 .i64 .i64 (16 : Int) (16 : Int) 16 rfl rfl (by omega) (by omega) (by rw [hz2]; omega) (by unfold maxLen; omega) (by simp) ?_; intro w1 o1 g1; simp only [World.size_alloc] at o1; have hb1 := below_of_grown_none g1; have hy := (hb1.block w.heap.size (by simp)).trans (heap_alloc_at (w := w) rfl); obtain ⟨z0, z1, z2, z3⟩ := cells4 hy; obtain ⟨t0, t1, t2, t3⟩ := free4 hy; have HY := Lib.hid hy; have O1 := Lib.hid o1; have HB1 := Lib.hid (HB.out.trans (hb1.mono HB.out.size)); clear o1 g1 hb1 hy)
  rw [made_zero] at O1
  have hrow := Row.of_own O1.out
  have hlen : (newL m).bal.length = 16 := by simp [newL, HN.out]
  have hbal : (newL m).bal = List.replicate (16) 0 := by simp only [newL, HN.out]
  have hbf := below_set4 (p := .int .i64 0) (q := .int .i64 0) (r := .int .i64 0) (s := .slice (some ⟨w.heap.size + 1, 0, none⟩) (16) (16)) (g := w.heap.size) HB1.out (Nat.le_refl _)
  refine bodyPost_row (ty' := 51) (g := w.heap.size) rfl rfl (blk_set4 HY.out) Try.underlying51 rfl (by kernel_rfl) rfl ⟨w.heap.size + 1, ?_, ?_, hbf⟩
  · rw [hlen]; rfl
  · rw [hlen, hbal]
    exact hrow.set4 (fun ad h => by injection h with h; subst h; show w.heap.size + 1 ≠ _; omega)

theorem new_anyR (m : Int) (w : World) : Calls Try.prog 41 #[.int .i64 m] w (NewPost w (newL m)) := by
  rcases Int.lt_or_le 16 m with h | h
  · exact new_bigR m w h
  · rcases Int.lt_or_le m 0 with h0 | h0
    · exact new_negR m w h0
    · exact new_midR m w ⟨h0, h⟩
end Go.Proofs.Ytkbaddopgdfafaa
