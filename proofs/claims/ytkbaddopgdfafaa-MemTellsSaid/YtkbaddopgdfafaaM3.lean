import Derived.Test.YtkbaddopgdfafaaM2
namespace Go.Proofs.Ytkbaddopgdfafaa
open Go.RowKit Go.Proofs.Besom

theorem add_set {l : List Int} {j : Nat} (hj : j < l.length) (y a c : Int) : memDo (l.set j y) 4 j a c = (l.set j (IntKind.u64.wrap (y + a)), y, true) := by
  have h := memDo_in (l := l.set j y) (k := 4) (i := j) (a := a) (b := c) (by simpa using hj) (by decide) (by decide)
  simpa [memNext] using h
theorem load_set {l : List Int} {j : Nat} (hj : j < l.length) (y a c : Int) : memDo (l.set j y) 1 j a c = (l.set j y, y, true) := by
  have h := memDo_in (l := l.set j y) (k := 1) (i := j) (a := a) (b := c) (by simpa using hj) (by decide) (by decide)
  simpa [memNext] using h

theorem wrap_back {x a b : Int} (h0 : 0 ≤ x) (h1 : x ≤ 18446744073709551615) :
    IntKind.u64.wrap (IntKind.u64.wrap (IntKind.u64.wrap (x + a) + b) + IntKind.u64.wrap (-IntKind.u64.wrap (a + b))) = x := by
  simp only [IntKind.wrap_u64]
  omega

theorem adds_all {l : List Int} {j : Nat} (hj : j < l.length) (a b : Int) (h0 : 0 ≤ l[j]) (h1 : l[j] ≤ 18446744073709551615) :
    memAll l [(4, j, a, 0), (4, j, b, 0), (1, j, 0, 0), (4, j, IntKind.u64.wrap (-IntKind.u64.wrap (a + b)), 0)] =
      (l, [l[j], IntKind.u64.wrap (l[j] + a), IntKind.u64.wrap (IntKind.u64.wrap (l[j] + a) + b), IntKind.u64.wrap (IntKind.u64.wrap (l[j] + a) + b)], 4) := by
  have e1 : memDo l 4 j a 0 = (l.set j (IntKind.u64.wrap (l[j] + a)), l[j], true) := by
    have := add_set hj l[j] a 0
    rwa [set_same hj] at this
  simp only [memAll, memDoO, e1, add_set hj, load_set hj, wrap_back h0 h1, set_same hj, if_true]

set_option maxRecDepth 100000 in
set_option maxHeartbeats 1600000 in
theorem adds_zero (A : Option Addr) (c : Nat) (t a b : Int) (w : World) :
    Calls Try.prog 6 #[.slice A 0 c, .int .u8 t, .int .u64 a, .int .u64 b] w fun e w' => e = .returned (.bool true) ∧ Below w.heap.size w w' := by
  go_enter Try.func6, Try.ntmps6
  go_wp2_with fail
  refine (examples_any _).mono ?_
  rintro e w1 ⟨rfl, b1⟩
  have HB1 := Lib.hid b1
  clear b1
  go_wp2_with fail
  go_ret
  exact ⟨rfl, HB1.out⟩

set_option maxRecDepth 100000 in
set_option maxHeartbeats 1600000 in
theorem adds_any (A : Option Addr) (n c : Nat) (t : Nat) (a b : Int) (xs : List Int) (w : World) (hr : Row w 1 A n (xs.map (.int .u64))) (hn : n * 8 ≤ 140737488351232) (hn0 : 0 < n) (ht : t ≤ 255)
    (hw : ∀ x ∈ xs, 0 ≤ x ∧ x ≤ 18446744073709551615) :
    Calls Try.prog 6 #[.slice A n c, .int .u8 t, .int .u64 a, .int .u64 b] w fun e w' => e = .returned (.bool true) ∧ Below w.heap.size w w' := by
  have hxl : xs.length = n := by simpa using hr.1
  have hj : t % n < n := Nat.mod_lt _ hn0
  have hjl : t % n < xs.length := by omega
  have hne : ((n : Int) == 0) = false := by simp; omega
  have hn1 : ¬ (n : Int) = 0 := by omega
  have hmod : ((t : Int) % (n : Int)) = ((t % n : Nat) : Int) := by omega
  obtain ⟨b1, o1, hA, hc1, -⟩ := hr.int_at hj
  subst hA
  generalize t % n = j at hj hjl hmod hc1
  have hd : ∀ (w' : World) (B : Option Addr) (hr' : Row w' 1 (some ⟨b1, o1, none⟩) n (xs.map (.int .u64))) (hb : Row w' 4 B 4 ([(4, (j : Int), a, 0), (4, (j : Int), b, 0), (1, (j : Int), 0, 0), (4, (j : Int), IntKind.u64.wrap (-IntKind.u64.wrap (a + b)), 0)].flatMap opCells)), _ :=
    fun w' B hr' hb => all_any (some ⟨b1, o1, none⟩) B n 4 c 4 xs [(4, (j : Int), a, 0), (4, (j : Int), b, 0), (1, (j : Int), 0, 0), (4, (j : Int), IntKind.u64.wrap (-IntKind.u64.wrap (a + b)), 0)] w' hr' hn hb (by decide)
  obtain ⟨hx0, hx1⟩ := hw xs[j] (List.getElem_mem hjl)
  rw [adds_all hjl a b hx0 hx1] at hd
  have HR := Lib.hid hr
  have HM := Lib.hid hmod
  have HD := Lib.hid hd
  clear hxl hmod hr hd hx0 hx1 hw
  go_enter Try.func6, Try.ntmps6
  go_wp2_with fail
  refine (examples_any _).mono ?_
  rintro e w1 ⟨rfl, b1⟩
  have HB1 := Lib.hid b1
  clear b1
  go_wp2_with fail
  rw [HM.out]
  have bl : Below w1.heap.size w1 (w1.alloc (.cells #[.int .i64 4, .int .i64 j, .int .u64 a, .int .u64 0, .int .i64 4, .int .i64 j, .int .u64 b, .int .u64 0, .int .i64 1, .int .i64 j, .int .u64 0, .int .u64 0, .int .i64 4, .int .i64 j, .int .u64 (IntKind.u64.wrap (-IntKind.u64.wrap (a + b))), .int .u64 0] 26)) := (Below.refl _ _).alloc (Nat.le_refl _) _
  have BL := Lib.hid bl
  clear bl
  refine (HD.out _ _ ((HR.out.below HB1.out).below BL.out) (row_lit w1 _ 26 4 4 rfl rfl)).mono ?_
  rintro e w2 ⟨A2, c2, v2, rfl, h2, o2, b2⟩
  obtain ⟨g2, cap2, rfl, -, -⟩ := own_form o2 (by decide)
  have HB2 := Lib.hid (HB1.out.trans ((BL.out.trans (b2.mono BL.out.size)).mono HB1.out.size))
  obtain ⟨_, _, e4, p1, -⟩ := (Row.of_own o2).int_at (k := 0) (by decide)
  obtain ⟨_, _, e5, p2, -⟩ := (Row.of_own o2).int_at (k := 1) (by decide)
  obtain ⟨_, _, e6, p3, -⟩ := (Row.of_own o2).int_at (k := 2) (by decide)
  obtain ⟨_, _, e7, p4, -⟩ := (Row.of_own o2).int_at (k := 3) (by decide)
  cases e4; cases e5; cases e6; cases e7
  have hc2 : w2.cell? ⟨b1, o1 + j, none⟩ = some (.int .u64 (xs.getD j 0)) := by
    rw [HB2.out.cell (World.block_lt_of_cell? w _ hc1)]; exact hc1
  have hs := fun q => same_any A2 (some ⟨b1, o1, none⟩) n n c2 c xs xs (w2.drewN q) (by omega) (by omega) (h2.below (below_drewN (Below.refl _ _) q)) ((HR.out.below HB2.out).below (below_drewN (Below.refl _ _) q))
  have HS := Lib.hid hs
  clear hs h2 o2 b2
  simp at p1 p2 p3 p4
  go_wp2_with fail
  go_quiet ((go_at_call 23; exact Calls.quiet_of (HS.out _)))
  go_wp2_with fail
  go_ret
  exact ⟨rfl, below_drewN HB2.out _⟩
end Go.Proofs.Ytkbaddopgdfafaa
