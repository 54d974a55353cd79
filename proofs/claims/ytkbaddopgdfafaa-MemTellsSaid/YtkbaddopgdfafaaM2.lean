import Derived.Test.YtkbaddopgdfafaaM1
import Derived.Deep.RegionHeld3
namespace Go.Proofs.Ytkbaddopgdfafaa
open Go.RowKit Go.Proofs.Besom

theorem swap_yes {l : List Int} {j : Nat} (hj : j < l.length) (b : Int) : memDo l 3 j l[j] b = (l.set j b, l[j], true) := by
  rw [memDo_in hj (by decide) (by decide)]
  simp [memNext]
theorem swap_no {l : List Int} {j : Nat} (hj : j < l.length) {a : Int} (b : Int) (h : l[j] ≠ a) : memDo l 3 j a b = (l, l[j], false) := by
  rw [memDo_in hj (by decide) (by decide)]
  simp [memNext, h]

theorem swap_set {l : List Int} {j : Nat} (hj : j < l.length) (b a c : Int) : ∃ r, memDo (l.set j b) 3 j a c = (r, b, b == a) := by
  have h := memDo_in (l := l.set j b) (k := 3) (i := j) (a := a) (b := c) (by simpa using hj) (by decide) (by decide)
  simp [memNext] at h
  exact ⟨_, by simpa using h⟩

theorem swap_back {l : List Int} {j : Nat} (hj : j < l.length) (b : Int) : memDo (l.set j b) 3 j b l[j] = (l, b, true) := by
  have h := memDo_in (l := l.set j b) (k := 3) (i := j) (a := b) (b := l[j]) (by simpa using hj) (by decide) (by decide)
  simp [memNext] at h
  exact h

set_option maxRecDepth 100000 in
set_option maxHeartbeats 1600000 in
theorem swaps_zero (A : Option Addr) (c : Nat) (t a b : Int) (w : World) :
    Calls Try.prog 5 #[.slice A 0 c, .int .u8 t, .int .u64 a, .int .u64 b] w fun e w' => e = .returned (.bool true) ∧ Below w.heap.size w w' := by
  go_enter Try.func5, Try.ntmps5
  go_wp2_with fail
  refine (examples_any _).mono ?_
  rintro e w1 ⟨rfl, b1⟩
  have HB1 := Lib.hid b1
  clear b1
  go_wp2_with fail
  go_ret
  exact ⟨rfl, HB1.out⟩

set_option maxRecDepth 100000 in
set_option maxHeartbeats 1600000 in
theorem swaps_any (A : Option Addr) (n c : Nat) (t : Nat) (a b : Int) (xs : List Int) (w : World) (hr : Row w 1 A n (xs.map (.int .u64))) (hn : n * 8 ≤ 140737488351232) (hn0 : 0 < n) (ht : t ≤ 255) :
    Calls Try.prog 5 #[.slice A n c, .int .u8 t, .int .u64 a, .int .u64 b] w fun e w' => e = .returned (.bool true) ∧ Below w.heap.size w w' := by
  have hxl : xs.length = n := by simpa using hr.1
  have hj : t % n < n := Nat.mod_lt _ hn0
  have hjl : t % n < xs.length := by omega
  have hne : ((n : Int) == 0) = false := by simp; omega
  have hn1 : ¬ (n : Int) = 0 := by omega
  have hmod : ((t : Int) % (n : Int)) = ((t % n : Nat) : Int) := by omega
  obtain ⟨b1, o1, hA, hc1, -⟩ := hr.int_at hj
  subst hA
  have hd1 : ∀ (w' : World) (hr' : Row w' 1 (some ⟨b1, o1, none⟩) n (xs.map (.int .u64))), _ := fun w' hr' => do_any (some ⟨b1, o1, none⟩) n c 3 ((t % n : Nat) : Int) a b xs w' hr' hn
  generalize t % n = j at hj hjl hmod hc1 hd1
  have HR := Lib.hid hr
  have HM := Lib.hid hmod
  clear hxl hmod hr
  by_cases hxa : xs[j] = a
  · subst hxa
    rw [swap_yes hjl] at hd1
    have HD1 := Lib.hid hd1
    clear hd1
    go_enter Try.func5, Try.ntmps5
    go_wp2_with fail
    refine (examples_any _).mono ?_
    rintro e w1 ⟨rfl, b1⟩
    have HB1 := Lib.hid b1
    clear b1
    go_wp2_with fail
    rw [HM.out]
    refine (HD1.out _ (HR.out.below HB1.out)).mono ?_
    rintro e w2 ⟨A2, c2, rfl, h2, b2, -⟩
    have HB2 := Lib.hid (HB1.out.trans (b2.mono HB1.out.size))
    have H2 := Lib.hid h2
    obtain ⟨x2, y2, rfl, p2, hl2⟩ := h2.int_at hj
    obtain ⟨rr, hs2⟩ := swap_set hjl b xs[j] xs[j]
    have hd2 := fun w' hr' => do_any (some ⟨x2, y2, none⟩) n c2 3 (j : Int) xs[j] xs[j] (xs.set j b) w' hr' hn
    have hd3 := fun w' hr' => do_any (some ⟨x2, y2, none⟩) n c2 3 (j : Int) b xs[j] (xs.set j b) w' hr' hn
    rw [hs2] at hd2
    rw [swap_back hjl b] at hd3
    have HD2 := Lib.hid hd2
    have HD3 := Lib.hid hd3
    have hq1 : (b == xs[j]) = (xs[j] == b) := by
      rw [Bool.eq_iff_iff, beq_iff_eq, beq_iff_eq]; exact eq_comm
    have hq2 : ((b == xs[j]) == (xs[j] == b)) = true := by rw [hq1]; exact beq_self_eq_true _
    have hc2 : w2.cell? ⟨b1, o1 + j, none⟩ = some (.int .u64 (xs.getD j 0)) := by
      rw [HB2.out.cell (World.block_lt_of_cell? w _ hc1)]; exact hc1
    clear h2 b2 hs2 hd2 hd3 hq1
    go_wp2_with fail
    go_region_held3 (fun w' => w'.cell? ⟨b1, o1 + j, none⟩ = some (.int .u64 (xs.getD j 0))) (first | go_keep | exact hc3) (first | (go_at_call 16; refine (HD2.out _ (H2.out.below (Below.refl _ _).drew)).mono ?_; rintro e w3 ⟨A3, c3, rfl, -, b3, -⟩; have HB3 := Lib.hid (HB2.out.drew.trans (b3.mono HB2.out.size)); have hc3 : w3.cell? ⟨b1, o1 + j, none⟩ = some (.int .u64 (xs.getD j 0)) := by (rw [HB3.out.cell (World.block_lt_of_cell? w _ hc1)]; exact hc1)))
    have hc3 : w3.cell? ⟨b1, o1 + j, none⟩ = some (.int .u64 (xs.getD j 0)) := by
      rw [HB3.out.cell (World.block_lt_of_cell? w _ hc1)]; exact hc1
    have b23 : Below w2.heap.size w2 w3 := ((Below.refl _ w2).drew).trans b3
    have HN3 := Lib.hid (H2.out.below b23)
    clear hc2 b3 b23
    go_wp2_with fail
    refine (HD3.out _ HN3.out).mono ?_
    rintro e w4 ⟨A4, c4, rfl, h4, b4, -⟩
    have HB4 := Lib.hid (HB3.out.trans (b4.mono HB3.out.size))
    obtain ⟨_, _, e5, p5, hl5⟩ := (HN3.out.below b4).int_at hj
    cases e5
    have hc4 : w4.cell? ⟨b1, o1 + j, none⟩ = some (.int .u64 (xs.getD j 0)) := by
      rw [HB4.out.cell (World.block_lt_of_cell? w _ hc1)]; exact hc1
    have hb5 : (xs.set j b).getD j 0 = b := by simp [List.getD, hjl]
    rw [hb5] at p5
    have HS := Lib.hid (same_any A4 (some ⟨b1, o1, none⟩) n n c4 c xs xs w4 (by omega) (by omega) h4 (HR.out.below HB4.out))
    clear hc3 h4 b4 hb5 hl5 hl2 p2
    go_wp2_with fail
    refine HS.out.mono ?_
    rintro e w5 ⟨rfl, q, rfl⟩
    go_wp2_with fail
    go_ret
    exact ⟨rfl, below_drewN HB4.out _⟩
  · have hxa1 : (xs[j] == a) = false := by simpa using hxa
    rw [swap_no hjl b hxa] at hd1
    have HD1 := Lib.hid hd1
    clear hd1 hxa
    go_enter Try.func5, Try.ntmps5
    go_wp2_with fail
    refine (examples_any _).mono ?_
    rintro e w1 ⟨rfl, b1⟩
    have HB1 := Lib.hid b1
    clear b1
    go_wp2_with fail
    rw [HM.out]
    refine (HD1.out _ (HR.out.below HB1.out)).mono ?_
    rintro e w2 ⟨A2, c2, rfl, h2, b2, -⟩
    have HB2 := Lib.hid (HB1.out.trans (b2.mono HB1.out.size))
    have H2 := Lib.hid h2
    have hd2 := fun w' hr' => do_any A2 n c2 3 (j : Int) xs[j] xs[j] xs w' hr' hn
    have hd3 := fun w' hr' => do_any A2 n c2 3 (j : Int) b a xs w' hr' hn
    rw [swap_yes hjl] at hd2
    generalize memDo xs 3 (j : Int) b a = res at hd3
    obtain ⟨t1, t2, t3⟩ := res
    have HD2 := Lib.hid hd2
    have HD3 := Lib.hid hd3
    have hc2 : w2.cell? ⟨b1, o1 + j, none⟩ = some (.int .u64 (xs.getD j 0)) := by
      rw [HB2.out.cell (World.block_lt_of_cell? w _ hc1)]; exact hc1
    clear h2 b2 hd2 hd3
    go_wp2_with fail
    go_region_held3 (fun w' => w'.cell? ⟨b1, o1 + j, none⟩ = some (.int .u64 (xs.getD j 0))) (first | go_keep | exact hc3) (first | (go_at_call 16; refine (HD2.out _ (H2.out.below (Below.refl _ _).drew)).mono ?_; rintro e w3 ⟨A3, c3, rfl, -, b3, -⟩; have HB3 := Lib.hid (HB2.out.drew.trans (b3.mono HB2.out.size)); have hc3 : w3.cell? ⟨b1, o1 + j, none⟩ = some (.int .u64 (xs.getD j 0)) := by (rw [HB3.out.cell (World.block_lt_of_cell? w _ hc1)]; exact hc1)))
    have hc3 : w3.cell? ⟨b1, o1 + j, none⟩ = some (.int .u64 (xs.getD j 0)) := by
      rw [HB3.out.cell (World.block_lt_of_cell? w _ hc1)]; exact hc1
    have b23 : Below w2.heap.size w2 w3 := ((Below.refl _ w2).drew).trans b3
    have HN3 := Lib.hid (H2.out.below b23)
    clear hc2 b3 b23
    go_wp2_with fail
    refine (HD3.out _ HN3.out).mono ?_
    rintro e w4 ⟨A4, c4, rfl, -, b4, -⟩
    have HB4 := Lib.hid (HB3.out.trans (b4.mono HB3.out.size))
    have hc4 : w4.cell? ⟨b1, o1 + j, none⟩ = some (.int .u64 (xs.getD j 0)) := by
      rw [HB4.out.cell (World.block_lt_of_cell? w _ hc1)]; exact hc1
    have HS := Lib.hid (same_any A2 (some ⟨b1, o1, none⟩) n n c2 c xs xs w4 (by omega) (by omega) (HN3.out.below b4) (HR.out.below HB4.out))
    clear hc3 b4
    go_wp2_with fail
    refine HS.out.mono ?_
    rintro e w5 ⟨rfl, q, rfl⟩
    go_wp2_with fail
    go_ret
    exact ⟨rfl, below_drewN HB4.out _⟩
end Go.Proofs.Ytkbaddopgdfafaa
