import Derived.Test.YtkbaddopgdfafaaG6
namespace Go.Proofs.Ytkbaddopgdfafaa
open Go.RowKit Go.Proofs.Besom

abbrev ledC (l : Led) (A : Option Addr) (n c : Nat) : Array Value := #[.int .i64 l.sc, .int .i64 l.sp, .int .i64 l.pool, .slice A n c]

theorem new_2 (w : World) : Calls Try.prog 40 #[.int .i64 2] w fun e w' => ∃ g, e = .returned (ledV ⟨0, 0, 0, [0, 0]⟩ (some ⟨g, 0, none⟩) 2 2) ∧ Row w' 1 (some ⟨g, 0, none⟩) 2 ([(0 : Int), 0].map (.int .i64)) ∧ Below w.heap.size w w' := new_any 2 w

/-- What a block of a ledger and its row tell of a world. -/
structure At (w : World) (g : Nat) (l : Led) (A : Option Addr) (n c : Nat) : Prop where
  blk : w.heap[g]? = some (.cells (ledC l A n c) 50 (0, 0))
  row : Row w 1 A n (l.bal.map (.int .i64))

theorem At.below {w w' : World} {g : Nat} {l : Led} {A : Option Addr} {n c : Nat} (h : At w g l A n c) (hb : Below w.heap.size w w') : At w' g l A n c :=
  ⟨(hb.block _ (lt_of_block h.blk)).trans h.blk, h.row.below hb⟩

theorem At.new (w : World) (l : Led) (A : Option Addr) (n c : Nat) (hr : Row w 1 A n (l.bal.map (.int .i64))) : At (w.alloc (.cells (ledC l A n c) 50)) w.heap.size l A n c :=
  ⟨heap_alloc_at rfl, hr.below ((Below.refl _ _).alloc (Nat.le_refl _) _)⟩

theorem At.cells {w : World} {g : Nat} {l : Led} {A : Option Addr} {n c : Nat} (h : At w g l A n c) :
    w.cell? ⟨g, 0, none⟩ = some (.int .i64 l.sc) ∧ w.cell? ⟨g, 1, none⟩ = some (.int .i64 l.sp) ∧ w.cell? ⟨g, 2, none⟩ = some (.int .i64 l.pool) ∧ w.cell? ⟨g, 3, none⟩ = some (.slice A n c) := cells4 h.blk

theorem alloc_b (w : World) (o : Obj) : Below w.heap.size w (w.alloc o) := (Below.refl _ _).alloc (Nat.le_refl _) _

theorem At.cell {w : World} {g n c : Nat} {l : Led} {b o k : Nat} {kv : Int} (h : At w g l (some ⟨b, o, none⟩) n c) (hk : k < n) (hv : l.bal[k]? = some kv) : w.cell? ⟨b, o + k, none⟩ = some (.int .i64 kv) := by
  obtain ⟨b', o', e, hc, hl⟩ := h.row.int_at hk
  injection e with e
  injection e with e1 e2
  subst e1; subst e2
  rw [hc, List.getD_eq_getElem?_getD, hv]; rfl

theorem run_field50 (w : World) (p q r s : Value) : (Instr.field 50 (.agg #[p, q, r, s]) 3).run Try.prog w = .ok s w := by
  have hu := Try.underlying50
  simp [Instr.field, run_underlying hu, asAgg, go_sem]
theorem ex_e0 (w : World) (A : Option Addr) (c : Nat) (hr : Row w 1 A 2 ([(0 : Int), 0].map (.int .i64))) : Calls Try.prog 31 #[ledV (⟨0, 0, 0, [0, 0]⟩ : Led) A 2 c, .int .i64 0] w (LedPost1 w A 2 (⟨1, 0, 1, [0, 0]⟩ : Led)) := by
  exact (show earnL (⟨0, 0, 0, [0, 0]⟩ : Led) 0 = (⟨1, 0, 1, [0, 0]⟩ : Led) from by decide +kernel) ▸ earn_any (⟨0, 0, 0, [0, 0]⟩ : Led) A 2 c 0 w hr (by decide)
theorem ex_e1 (w : World) (A : Option Addr) (c : Nat) (hr : Row w 1 A 2 ([(0 : Int), 0].map (.int .i64))) : Calls Try.prog 31 #[ledV (⟨1, 0, 1, [0, 0]⟩ : Led) A 2 c, .int .i64 1] w (LedPost1 w A 2 (⟨2, 0, 1, [1, 0]⟩ : Led)) := by
  exact (show earnL (⟨1, 0, 1, [0, 0]⟩ : Led) 1 = (⟨2, 0, 1, [1, 0]⟩ : Led) from by decide +kernel) ▸ earn_any (⟨1, 0, 1, [0, 0]⟩ : Led) A 2 c 1 w hr (by decide)
theorem ex_s1 (w : World) (A : Option Addr) (c : Nat) (hr : Row w 1 A 2 ([(0 : Int), 0].map (.int .i64))) : Calls Try.prog 28 #[ledV (⟨0, 0, 0, [0, 0]⟩ : Led) A 2 c, .int .i64 1, .int .i64 3, .int .i64 3] w (LedPost2 w A 2 (⟨0, 3, 0, [-3, 0]⟩ : Led) (.bool true)) := by
  have h := spend_any (⟨0, 0, 0, [0, 0]⟩ : Led) A 2 c 1 3 3 w hr (by decide)
  rw [show spendL (⟨0, 0, 0, [0, 0]⟩ : Led) 1 3 3 = ((⟨0, 3, 0, [-3, 0]⟩ : Led), true) from by decide +kernel] at h
  exact h
theorem ex_s2 (w : World) (A : Option Addr) (c : Nat) (hr : Row w 1 A 2 ([(0 : Int), 0].map (.int .i64))) : Calls Try.prog 28 #[ledV (⟨0, 0, 0, [0, 0]⟩ : Led) A 2 c, .int .i64 1, .int .i64 5, .int .i64 3] w (LedPost2 w A 2 (⟨0, 0, 0, [0, 0]⟩ : Led) (.bool false)) := by
  have h := spend_any (⟨0, 0, 0, [0, 0]⟩ : Led) A 2 c 1 5 3 w hr (by decide)
  rw [show spendL (⟨0, 0, 0, [0, 0]⟩ : Led) 1 5 3 = ((⟨0, 0, 0, [0, 0]⟩ : Led), false) from by decide +kernel] at h
  exact h
theorem ex_t1 (w : World) (A : Option Addr) (c : Nat) (hr : Row w 1 A 2 ([(1 : Int), 0].map (.int .i64))) : Calls Try.prog 26 #[ledV (⟨2, 0, 1, [1, 0]⟩ : Led) A 2 c, .int .i64 2, .int .i64 5] w (LedPost2 w A 2 (⟨2, 0, 0, [1, 1]⟩ : Led) (.int .i64 1)) := by
  have h := take_any (⟨2, 0, 1, [1, 0]⟩ : Led) A 2 c 2 5 w hr (by decide)
  rw [show takeL (⟨2, 0, 1, [1, 0]⟩ : Led) 2 5 = ((⟨2, 0, 0, [1, 1]⟩ : Led), 1) from by decide +kernel] at h
  exact h
theorem ex_t2 (w : World) (A : Option Addr) (c : Nat) (hr : Row w 1 A 2 ([(0 : Int), 0].map (.int .i64))) : Calls Try.prog 26 #[ledV (⟨0, 0, 0, [0, 0]⟩ : Led) A 2 c, .int .i64 2, .int .i64 5] w (LedPost2 w A 2 (⟨0, 0, 0, [0, 0]⟩ : Led) (.int .i64 0)) := by
  have h := take_any (⟨0, 0, 0, [0, 0]⟩ : Led) A 2 c 2 5 w hr (by decide)
  rw [show takeL (⟨0, 0, 0, [0, 0]⟩ : Led) 2 5 = ((⟨0, 0, 0, [0, 0]⟩ : Led), 0) from by decide +kernel] at h
  exact h
theorem ex_l1 (w : World) (A : Option Addr) (c : Nat) (hr : Row w 1 A 2 ([(0 : Int), 0].map (.int .i64))) : Calls Try.prog 37 #[ledV (⟨0, 0, 0, [0, 0]⟩ : Led) A 2 c, .int .i64 1, .int .i64 5, .int .i64 3] w fun e w' => e = .returned (.int .i64 2) ∧ Below w.heap.size w w' := by
  have h := lacks_any (⟨0, 0, 0, [0, 0]⟩ : Led) A 2 c 1 5 3 w hr (by decide)
  rw [show lacksI (⟨0, 0, 0, [0, 0]⟩ : Led) 1 5 3 = 2 from by decide +kernel] at h
  exact h
theorem ex_l2 (w : World) (A : Option Addr) (c : Nat) (hr : Row w 1 A 2 ([(0 : Int), 0].map (.int .i64))) : Calls Try.prog 37 #[ledV (⟨0, 0, 0, [0, 0]⟩ : Led) A 2 c, .int .i64 1, .int .i64 3, .int .i64 3] w fun e w' => e = .returned (.int .i64 0) ∧ Below w.heap.size w w' := by
  have h := lacks_any (⟨0, 0, 0, [0, 0]⟩ : Led) A 2 c 1 3 3 w hr (by decide)
  rw [show lacksI (⟨0, 0, 0, [0, 0]⟩ : Led) 1 3 3 = 0 from by decide +kernel] at h
  exact h
theorem ex_l3 (w : World) (A : Option Addr) (c : Nat) (hr : Row w 1 A 2 ([(0 : Int), 0].map (.int .i64))) : Calls Try.prog 37 #[ledV (⟨0, 0, 0, [0, 0]⟩ : Led) A 2 c, .int .i64 3, .int .i64 1, .int .i64 1] w fun e w' => e = .returned (.int .i64 (-1)) ∧ Below w.heap.size w w' := by
  have h := lacks_any (⟨0, 0, 0, [0, 0]⟩ : Led) A 2 c 3 1 1 w hr (by decide)
  rw [show lacksI (⟨0, 0, 0, [0, 0]⟩ : Led) 3 1 1 = (-1) from by decide +kernel] at h
  exact h
theorem ex_m1 (w : World) (A : Option Addr) (c : Nat) (hr : Row w 1 A 2 ([(0 : Int), 0].map (.int .i64))) : Calls Try.prog 35 #[ledV (⟨0, 0, 0, [0, 0]⟩ : Led) A 2 c, .int .i64 1, .int .i64 3, .int .i64 3] w fun e w' => e = .returned (.bool true) ∧ Below w.heap.size w w' := by
  have h := may_any (⟨0, 0, 0, [0, 0]⟩ : Led) A 2 c 1 3 3 w hr (by decide)
  rw [show mayB (⟨0, 0, 0, [0, 0]⟩ : Led) 1 3 3 = true from by decide +kernel] at h
  exact h
theorem ex_m2 (w : World) (A : Option Addr) (c : Nat) (hr : Row w 1 A 2 ([(0 : Int), 0].map (.int .i64))) : Calls Try.prog 35 #[ledV (⟨0, 0, 0, [0, 0]⟩ : Led) A 2 c, .int .i64 0, .int .i64 0, .int .i64 0] w fun e w' => e = .returned (.bool false) ∧ Below w.heap.size w w' := by
  have h := may_any (⟨0, 0, 0, [0, 0]⟩ : Led) A 2 c 0 0 0 w hr (by decide)
  rw [show mayB (⟨0, 0, 0, [0, 0]⟩ : Led) 0 0 0 = false from by decide +kernel] at h
  exact h
theorem ex_q1 (w : World) (A : Option Addr) (c : Nat) (hr : Row w 1 A 2 ([(1 : Int), 1].map (.int .i64))) : Calls Try.prog 33 #[ledV (⟨2, 0, 0, [1, 1]⟩ : Led) A 2 c] w fun e w' => e = .returned (.bool true) ∧ Below w.heap.size w w' := by
  have h := right_any (⟨2, 0, 0, [1, 1]⟩ : Led) A 2 c w hr
  rw [show rightB (⟨2, 0, 0, [1, 1]⟩ : Led) = true from by decide +kernel] at h
  exact h
theorem ex_q2 (w : World)  : Calls Try.prog 33 #[ledV (⟨0, 0, 1, []⟩ : Led) none 0 0] w fun e w' => e = .returned (.bool false) ∧ Below w.heap.size w w' := by
  have h := right_any (⟨0, 0, 1, []⟩ : Led) none 0 0 w (Row.nil _ _ _)
  rw [show rightB (⟨0, 0, 1, []⟩ : Led) = false from by decide +kernel] at h
  exact h
theorem ex_u1 (w : World) (A : Option Addr) (c : Nat) (hr : Row w 1 A 2 ([(0 : Int), 0].map (.int .i64))) : Calls Try.prog 39 #[ledV (⟨0, 0, 0, [0, 0]⟩ : Led) A 2 c, ledV (⟨0, 0, 0, [0, 0]⟩ : Led) A 2 c] w fun e w' => e = .returned (.bool true) ∧ Below w.heap.size w w' := by
  have h := ledSame_any (⟨0, 0, 0, [0, 0]⟩ : Led) (⟨0, 0, 0, [0, 0]⟩ : Led) A A 2 2 c c w hr hr (by decide) (by decide)
  rw [show decide ((⟨0, 0, 0, [0, 0]⟩ : Led) = (⟨0, 0, 0, [0, 0]⟩ : Led)) = true from by decide +kernel] at h
  exact h
theorem ex_u2 (w : World) (A : Option Addr) (c : Nat) (hr : Row w 1 A 2 ([(0 : Int), 0].map (.int .i64))) (B : Option Addr) (d : Nat) (hs : Row w 1 B 2 ([(-3 : Int), 0].map (.int .i64))) : Calls Try.prog 39 #[ledV (⟨0, 0, 0, [0, 0]⟩ : Led) A 2 c, ledV (⟨0, 3, 0, [-3, 0]⟩ : Led) B 2 d] w fun e w' => e = .returned (.bool false) ∧ Below w.heap.size w w' := by
  have h := ledSame_any (⟨0, 0, 0, [0, 0]⟩ : Led) (⟨0, 3, 0, [-3, 0]⟩ : Led) A B 2 2 c d w hr hs (by decide) (by decide)
  rw [show decide ((⟨0, 0, 0, [0, 0]⟩ : Led) = (⟨0, 3, 0, [-3, 0]⟩ : Led)) = false from by decide +kernel] at h
  exact h
theorem ex_n1 (w : World)  : Calls Try.prog 40 #[.int .i64 99] w fun e w' => ∃ A c, e = .returned (.agg #[.int .i64 0, .int .i64 0, .int .i64 0, .slice A 16 c]) ∧ Below w.heap.size w w' := by
  refine (new_any 99 w).mono ?_
  rintro e w' ⟨g, rfl, -, b⟩
  exact ⟨_, _, rfl, b⟩
theorem ex_n2 (w : World)  : Calls Try.prog 40 #[.int .i64 (-1)] w fun e w' => ∃ A c, e = .returned (.agg #[.int .i64 0, .int .i64 0, .int .i64 0, .slice A 0 c]) ∧ Below w.heap.size w w' := by
  refine (new_any (-1) w).mono ?_
  rintro e w' ⟨g, rfl, -, b⟩
  exact ⟨_, _, rfl, b⟩
set_option maxRecDepth 100000 in
set_option maxHeartbeats 6400000 in
theorem examples10 (w : World) : Calls Try.prog 24 #[] w fun e w' => e = .returned (.bool true) ∧ Below w.heap.size w w' := by
  have HB0 := Lib.hid (Below.refl w.heap.size w)
  go_enter Try.func24, Try.ntmps24
  go_wp2_with fail
  refine (new_2 _).mono ?_
  rintro e w1 ⟨g1, rfl, r1, b1⟩
  have HB1 := Lib.hid (HB0.out.trans (b1.mono HB0.out.size))
  clear b1
  have HB1a := Lib.hid (HB1.out.alloc HB1.out.size (.cells (ledC (⟨0, 0, 0, [0, 0]⟩ : Led) (some ⟨g1, 0, none⟩) 2 2) 50))
  have Kl1a := Lib.hid (At.new w1 (⟨0, 0, 0, [0, 0]⟩ : Led) (some ⟨g1, 0, none⟩) 2 2 r1)
  go_wp2_with fail
  refine (ex_e0 _ _ _ Kl1a.out.row).mono ?_
  rintro e w2 ⟨A2, c2, rfl, r2, b2, -⟩
  have HB2 := Lib.hid (HB1a.out.trans (b2.mono HB1a.out.size))
  have Kl2 := Lib.hid (Kl1a.out.below b2)
  clear b2
  go_wp2_with fail
  refine (ex_e1 _ _ _ r2).mono ?_
  rintro e w3 ⟨A3, c3, rfl, r3, b3, -⟩
  obtain ⟨ba, oa, rfl, -, -⟩ := r3.int_at (k := 0) (by decide)
  have HB3 := Lib.hid (HB2.out.trans (b3.mono HB2.out.size))
  have Kl3 := Lib.hid (Kl2.out.below b3)
  clear b3
  have HB3a := Lib.hid (HB3.out.alloc HB3.out.size (.cells (ledC (⟨2, 0, 1, [1, 0]⟩ : Led) (some ⟨ba, oa, none⟩) 2 c3) 50))
  have Kl3a := Lib.hid (Kl3.out.below (alloc_b _ (.cells (ledC (⟨2, 0, 1, [1, 0]⟩ : Led) (some ⟨ba, oa, none⟩) 2 c3) 50)))
  have Ka3a := Lib.hid (At.new w3 (⟨2, 0, 1, [1, 0]⟩ : Led) (some ⟨ba, oa, none⟩) 2 c3 r3)
  have dl3a0 : World.cell? (w3.alloc (.cells #[.int .i64 2, .int .i64 0, .int .i64 1, .slice (some ⟨ba, oa, none⟩) 2 c3] 50)) ⟨w1.heap.size, 0, none⟩ = some (.int .i64 0) := Kl3a.out.cells.1
  have dl3a1 : World.cell? (w3.alloc (.cells #[.int .i64 2, .int .i64 0, .int .i64 1, .slice (some ⟨ba, oa, none⟩) 2 c3] 50)) ⟨w1.heap.size, 1, none⟩ = some (.int .i64 0) := Kl3a.out.cells.2.1
  have dl3a2 : World.cell? (w3.alloc (.cells #[.int .i64 2, .int .i64 0, .int .i64 1, .slice (some ⟨ba, oa, none⟩) 2 c3] 50)) ⟨w1.heap.size, 2, none⟩ = some (.int .i64 0) := Kl3a.out.cells.2.2.1
  have dl3a3 : World.cell? (w3.alloc (.cells #[.int .i64 2, .int .i64 0, .int .i64 1, .slice (some ⟨ba, oa, none⟩) 2 c3] 50)) ⟨w1.heap.size, 3, none⟩ = some (.slice (some ⟨g1, 0, none⟩) 2 2) := Kl3a.out.cells.2.2.2
  go_wp2_with fail
  refine (ex_s1 _ _ _ Kl3a.out.row).mono ?_
  rintro e w4 ⟨A4, c4, rfl, r4, b4, -⟩
  obtain ⟨bb, ob, rfl, -, -⟩ := r4.int_at (k := 0) (by decide)
  have HB4 := Lib.hid (HB3a.out.trans (b4.mono HB3a.out.size))
  have Kl4 := Lib.hid (Kl3a.out.below b4)
  have Ka4 := Lib.hid (Ka3a.out.below b4)
  clear b4
  have HB4a := Lib.hid (HB4.out.alloc HB4.out.size (.cells (ledC (⟨0, 3, 0, [-3, 0]⟩ : Led) (some ⟨bb, ob, none⟩) 2 c4) 50))
  have Kl4a := Lib.hid (Kl4.out.below (alloc_b _ (.cells (ledC (⟨0, 3, 0, [-3, 0]⟩ : Led) (some ⟨bb, ob, none⟩) 2 c4) 50)))
  have Ka4a := Lib.hid (Ka4.out.below (alloc_b _ (.cells (ledC (⟨0, 3, 0, [-3, 0]⟩ : Led) (some ⟨bb, ob, none⟩) 2 c4) 50)))
  have Kb4a := Lib.hid (At.new w4 (⟨0, 3, 0, [-3, 0]⟩ : Led) (some ⟨bb, ob, none⟩) 2 c4 r4)
  have dl4a0 : World.cell? (w4.alloc (.cells #[.int .i64 0, .int .i64 3, .int .i64 0, .slice (some ⟨bb, ob, none⟩) 2 c4] 50)) ⟨w1.heap.size, 0, none⟩ = some (.int .i64 0) := Kl4a.out.cells.1
  have dl4a1 : World.cell? (w4.alloc (.cells #[.int .i64 0, .int .i64 3, .int .i64 0, .slice (some ⟨bb, ob, none⟩) 2 c4] 50)) ⟨w1.heap.size, 1, none⟩ = some (.int .i64 0) := Kl4a.out.cells.2.1
  have dl4a2 : World.cell? (w4.alloc (.cells #[.int .i64 0, .int .i64 3, .int .i64 0, .slice (some ⟨bb, ob, none⟩) 2 c4] 50)) ⟨w1.heap.size, 2, none⟩ = some (.int .i64 0) := Kl4a.out.cells.2.2.1
  have dl4a3 : World.cell? (w4.alloc (.cells #[.int .i64 0, .int .i64 3, .int .i64 0, .slice (some ⟨bb, ob, none⟩) 2 c4] 50)) ⟨w1.heap.size, 3, none⟩ = some (.slice (some ⟨g1, 0, none⟩) 2 2) := Kl4a.out.cells.2.2.2
  go_wp2_with fail
  refine (ex_s2 _ _ _ Kl4a.out.row).mono ?_
  rintro e w5 ⟨A5, c5, rfl, r5, b5, -⟩
  have HB5 := Lib.hid (HB4a.out.trans (b5.mono HB4a.out.size))
  have Kl5 := Lib.hid (Kl4a.out.below b5)
  have Ka5 := Lib.hid (Ka4a.out.below b5)
  have Kb5 := Lib.hid (Kb4a.out.below b5)
  clear b5
  have HB5a := Lib.hid (HB5.out.alloc HB5.out.size (.cells (ledC (⟨0, 0, 0, [0, 0]⟩ : Led) A5 2 c5) 50))
  have Kl5a := Lib.hid (Kl5.out.below (alloc_b _ (.cells (ledC (⟨0, 0, 0, [0, 0]⟩ : Led) A5 2 c5) 50)))
  have Ka5a := Lib.hid (Ka5.out.below (alloc_b _ (.cells (ledC (⟨0, 0, 0, [0, 0]⟩ : Led) A5 2 c5) 50)))
  have Kb5a := Lib.hid (Kb5.out.below (alloc_b _ (.cells (ledC (⟨0, 0, 0, [0, 0]⟩ : Led) A5 2 c5) 50)))
  have Kx5a := Lib.hid (At.new w5 (⟨0, 0, 0, [0, 0]⟩ : Led) A5 2 c5 r5)
  have da5a0 : World.cell? (w5.alloc (.cells #[.int .i64 0, .int .i64 0, .int .i64 0, .slice A5 2 c5] 50)) ⟨w3.heap.size, 0, none⟩ = some (.int .i64 2) := Ka5a.out.cells.1
  have da5a1 : World.cell? (w5.alloc (.cells #[.int .i64 0, .int .i64 0, .int .i64 0, .slice A5 2 c5] 50)) ⟨w3.heap.size, 1, none⟩ = some (.int .i64 0) := Ka5a.out.cells.2.1
  have da5a2 : World.cell? (w5.alloc (.cells #[.int .i64 0, .int .i64 0, .int .i64 0, .slice A5 2 c5] 50)) ⟨w3.heap.size, 2, none⟩ = some (.int .i64 1) := Ka5a.out.cells.2.2.1
  have da5a3 : World.cell? (w5.alloc (.cells #[.int .i64 0, .int .i64 0, .int .i64 0, .slice A5 2 c5] 50)) ⟨w3.heap.size, 3, none⟩ = some (.slice (some ⟨ba, oa, none⟩) 2 c3) := Ka5a.out.cells.2.2.2
  go_wp2_with fail
  refine (ex_t1 _ _ _ Ka5a.out.row).mono ?_
  rintro e w6 ⟨A6, c6, rfl, r6, b6, -⟩
  obtain ⟨bc, oc, rfl, -, -⟩ := r6.int_at (k := 0) (by decide)
  have HB6 := Lib.hid (HB5a.out.trans (b6.mono HB5a.out.size))
  have Kl6 := Lib.hid (Kl5a.out.below b6)
  have Ka6 := Lib.hid (Ka5a.out.below b6)
  have Kb6 := Lib.hid (Kb5a.out.below b6)
  clear b6
  have HB6a := Lib.hid (HB6.out.alloc HB6.out.size (.cells (ledC (⟨2, 0, 0, [1, 1]⟩ : Led) (some ⟨bc, oc, none⟩) 2 c6) 50))
  have Kl6a := Lib.hid (Kl6.out.below (alloc_b _ (.cells (ledC (⟨2, 0, 0, [1, 1]⟩ : Led) (some ⟨bc, oc, none⟩) 2 c6) 50)))
  have Ka6a := Lib.hid (Ka6.out.below (alloc_b _ (.cells (ledC (⟨2, 0, 0, [1, 1]⟩ : Led) (some ⟨bc, oc, none⟩) 2 c6) 50)))
  have Kb6a := Lib.hid (Kb6.out.below (alloc_b _ (.cells (ledC (⟨2, 0, 0, [1, 1]⟩ : Led) (some ⟨bc, oc, none⟩) 2 c6) 50)))
  have Kc6a := Lib.hid (At.new w6 (⟨2, 0, 0, [1, 1]⟩ : Led) (some ⟨bc, oc, none⟩) 2 c6 r6)
  have dl6a0 : World.cell? (w6.alloc (.cells #[.int .i64 2, .int .i64 0, .int .i64 0, .slice (some ⟨bc, oc, none⟩) 2 c6] 50)) ⟨w1.heap.size, 0, none⟩ = some (.int .i64 0) := Kl6a.out.cells.1
  have dl6a1 : World.cell? (w6.alloc (.cells #[.int .i64 2, .int .i64 0, .int .i64 0, .slice (some ⟨bc, oc, none⟩) 2 c6] 50)) ⟨w1.heap.size, 1, none⟩ = some (.int .i64 0) := Kl6a.out.cells.2.1
  have dl6a2 : World.cell? (w6.alloc (.cells #[.int .i64 2, .int .i64 0, .int .i64 0, .slice (some ⟨bc, oc, none⟩) 2 c6] 50)) ⟨w1.heap.size, 2, none⟩ = some (.int .i64 0) := Kl6a.out.cells.2.2.1
  have dl6a3 : World.cell? (w6.alloc (.cells #[.int .i64 2, .int .i64 0, .int .i64 0, .slice (some ⟨bc, oc, none⟩) 2 c6] 50)) ⟨w1.heap.size, 3, none⟩ = some (.slice (some ⟨g1, 0, none⟩) 2 2) := Kl6a.out.cells.2.2.2
  go_wp2_with fail
  refine (ex_t2 _ _ _ Kl6a.out.row).mono ?_
  rintro e w7 ⟨A7, c7, rfl, r7, b7, -⟩
  have HB7 := Lib.hid (HB6a.out.trans (b7.mono HB6a.out.size))
  have Kl7 := Lib.hid (Kl6a.out.below b7)
  have Ka7 := Lib.hid (Ka6a.out.below b7)
  have Kb7 := Lib.hid (Kb6a.out.below b7)
  have Kc7 := Lib.hid (Kc6a.out.below b7)
  clear b7
  have HB7a := Lib.hid (HB7.out.alloc HB7.out.size (.cells (ledC (⟨0, 0, 0, [0, 0]⟩ : Led) A7 2 c7) 50))
  have Kl7a := Lib.hid (Kl7.out.below (alloc_b _ (.cells (ledC (⟨0, 0, 0, [0, 0]⟩ : Led) A7 2 c7) 50)))
  have Ka7a := Lib.hid (Ka7.out.below (alloc_b _ (.cells (ledC (⟨0, 0, 0, [0, 0]⟩ : Led) A7 2 c7) 50)))
  have Kb7a := Lib.hid (Kb7.out.below (alloc_b _ (.cells (ledC (⟨0, 0, 0, [0, 0]⟩ : Led) A7 2 c7) 50)))
  have Kc7a := Lib.hid (Kc7.out.below (alloc_b _ (.cells (ledC (⟨0, 0, 0, [0, 0]⟩ : Led) A7 2 c7) 50)))
  have Ky7a := Lib.hid (At.new w7 (⟨0, 0, 0, [0, 0]⟩ : Led) A7 2 c7 r7)
  have dl7a0 : World.cell? (w7.alloc (.cells #[.int .i64 0, .int .i64 0, .int .i64 0, .slice A7 2 c7] 50)) ⟨w1.heap.size, 0, none⟩ = some (.int .i64 0) := Kl7a.out.cells.1
  have dl7a1 : World.cell? (w7.alloc (.cells #[.int .i64 0, .int .i64 0, .int .i64 0, .slice A7 2 c7] 50)) ⟨w1.heap.size, 1, none⟩ = some (.int .i64 0) := Kl7a.out.cells.2.1
  have dl7a2 : World.cell? (w7.alloc (.cells #[.int .i64 0, .int .i64 0, .int .i64 0, .slice A7 2 c7] 50)) ⟨w1.heap.size, 2, none⟩ = some (.int .i64 0) := Kl7a.out.cells.2.2.1
  have dl7a3 : World.cell? (w7.alloc (.cells #[.int .i64 0, .int .i64 0, .int .i64 0, .slice A7 2 c7] 50)) ⟨w1.heap.size, 3, none⟩ = some (.slice (some ⟨g1, 0, none⟩) 2 2) := Kl7a.out.cells.2.2.2
  have rl7a0 : World.cell? (w7.alloc (.cells #[.int .i64 0, .int .i64 0, .int .i64 0, .slice A7 2 c7] 50)) ⟨g1, 0, none⟩ = some (.int .i64 0) := Kl7a.out.cell (k := 0) (by decide) rfl
  have da7a0 : World.cell? (w7.alloc (.cells #[.int .i64 0, .int .i64 0, .int .i64 0, .slice A7 2 c7] 50)) ⟨w3.heap.size, 0, none⟩ = some (.int .i64 2) := Ka7a.out.cells.1
  have da7a1 : World.cell? (w7.alloc (.cells #[.int .i64 0, .int .i64 0, .int .i64 0, .slice A7 2 c7] 50)) ⟨w3.heap.size, 1, none⟩ = some (.int .i64 0) := Ka7a.out.cells.2.1
  have da7a2 : World.cell? (w7.alloc (.cells #[.int .i64 0, .int .i64 0, .int .i64 0, .slice A7 2 c7] 50)) ⟨w3.heap.size, 2, none⟩ = some (.int .i64 1) := Ka7a.out.cells.2.2.1
  have da7a3 : World.cell? (w7.alloc (.cells #[.int .i64 0, .int .i64 0, .int .i64 0, .slice A7 2 c7] 50)) ⟨w3.heap.size, 3, none⟩ = some (.slice (some ⟨ba, oa, none⟩) 2 c3) := Ka7a.out.cells.2.2.2
  have ra7a0 : World.cell? (w7.alloc (.cells #[.int .i64 0, .int .i64 0, .int .i64 0, .slice A7 2 c7] 50)) ⟨ba, oa, none⟩ = some (.int .i64 1) := Ka7a.out.cell (k := 0) (by decide) rfl
  have db7a0 : World.cell? (w7.alloc (.cells #[.int .i64 0, .int .i64 0, .int .i64 0, .slice A7 2 c7] 50)) ⟨w4.heap.size, 0, none⟩ = some (.int .i64 0) := Kb7a.out.cells.1
  have db7a1 : World.cell? (w7.alloc (.cells #[.int .i64 0, .int .i64 0, .int .i64 0, .slice A7 2 c7] 50)) ⟨w4.heap.size, 1, none⟩ = some (.int .i64 3) := Kb7a.out.cells.2.1
  have db7a2 : World.cell? (w7.alloc (.cells #[.int .i64 0, .int .i64 0, .int .i64 0, .slice A7 2 c7] 50)) ⟨w4.heap.size, 2, none⟩ = some (.int .i64 0) := Kb7a.out.cells.2.2.1
  have db7a3 : World.cell? (w7.alloc (.cells #[.int .i64 0, .int .i64 0, .int .i64 0, .slice A7 2 c7] 50)) ⟨w4.heap.size, 3, none⟩ = some (.slice (some ⟨bb, ob, none⟩) 2 c4) := Kb7a.out.cells.2.2.2
  have rb7a0 : World.cell? (w7.alloc (.cells #[.int .i64 0, .int .i64 0, .int .i64 0, .slice A7 2 c7] 50)) ⟨bb, ob, none⟩ = some (.int .i64 (-3)) := Kb7a.out.cell (k := 0) (by decide) rfl
  have dc7a0 : World.cell? (w7.alloc (.cells #[.int .i64 0, .int .i64 0, .int .i64 0, .slice A7 2 c7] 50)) ⟨w6.heap.size, 0, none⟩ = some (.int .i64 2) := Kc7a.out.cells.1
  have dc7a1 : World.cell? (w7.alloc (.cells #[.int .i64 0, .int .i64 0, .int .i64 0, .slice A7 2 c7] 50)) ⟨w6.heap.size, 1, none⟩ = some (.int .i64 0) := Kc7a.out.cells.2.1
  have dc7a2 : World.cell? (w7.alloc (.cells #[.int .i64 0, .int .i64 0, .int .i64 0, .slice A7 2 c7] 50)) ⟨w6.heap.size, 2, none⟩ = some (.int .i64 0) := Kc7a.out.cells.2.2.1
  have dc7a3 : World.cell? (w7.alloc (.cells #[.int .i64 0, .int .i64 0, .int .i64 0, .slice A7 2 c7] 50)) ⟨w6.heap.size, 3, none⟩ = some (.slice (some ⟨bc, oc, none⟩) 2 c6) := Kc7a.out.cells.2.2.2
  go_wp2_with fail
  refine (ex_l1 _ _ _ Kl7a.out.row).mono ?_
  rintro e w8 ⟨rfl, b8⟩
  have HB8 := Lib.hid (HB7a.out.trans (b8.mono HB7a.out.size))
  have Kl8 := Lib.hid (Kl7a.out.below b8)
  have Ka8 := Lib.hid (Ka7a.out.below b8)
  have Kb8 := Lib.hid (Kb7a.out.below b8)
  have Kc8 := Lib.hid (Kc7a.out.below b8)
  clear b8
  have dl80 : World.cell? (w8) ⟨w1.heap.size, 0, none⟩ = some (.int .i64 0) := Kl8.out.cells.1
  have dl81 : World.cell? (w8) ⟨w1.heap.size, 1, none⟩ = some (.int .i64 0) := Kl8.out.cells.2.1
  have dl82 : World.cell? (w8) ⟨w1.heap.size, 2, none⟩ = some (.int .i64 0) := Kl8.out.cells.2.2.1
  have dl83 : World.cell? (w8) ⟨w1.heap.size, 3, none⟩ = some (.slice (some ⟨g1, 0, none⟩) 2 2) := Kl8.out.cells.2.2.2
  go_wp2_with fail
  refine (ex_l2 _ _ _ Kl8.out.row).mono ?_
  rintro e w9 ⟨rfl, b9⟩
  have HB9 := Lib.hid (HB8.out.trans (b9.mono HB8.out.size))
  have Kl9 := Lib.hid (Kl8.out.below b9)
  have Ka9 := Lib.hid (Ka8.out.below b9)
  have Kb9 := Lib.hid (Kb8.out.below b9)
  have Kc9 := Lib.hid (Kc8.out.below b9)
  clear b9
  have dl90 : World.cell? (w9) ⟨w1.heap.size, 0, none⟩ = some (.int .i64 0) := Kl9.out.cells.1
  have dl91 : World.cell? (w9) ⟨w1.heap.size, 1, none⟩ = some (.int .i64 0) := Kl9.out.cells.2.1
  have dl92 : World.cell? (w9) ⟨w1.heap.size, 2, none⟩ = some (.int .i64 0) := Kl9.out.cells.2.2.1
  have dl93 : World.cell? (w9) ⟨w1.heap.size, 3, none⟩ = some (.slice (some ⟨g1, 0, none⟩) 2 2) := Kl9.out.cells.2.2.2
  go_wp2_with fail
  refine (ex_l3 _ _ _ Kl9.out.row).mono ?_
  rintro e w10 ⟨rfl, b10⟩
  have HB10 := Lib.hid (HB9.out.trans (b10.mono HB9.out.size))
  have Kl10 := Lib.hid (Kl9.out.below b10)
  have Ka10 := Lib.hid (Ka9.out.below b10)
  have Kb10 := Lib.hid (Kb9.out.below b10)
  have Kc10 := Lib.hid (Kc9.out.below b10)
  clear b10
  have dl100 : World.cell? (w10) ⟨w1.heap.size, 0, none⟩ = some (.int .i64 0) := Kl10.out.cells.1
  have dl101 : World.cell? (w10) ⟨w1.heap.size, 1, none⟩ = some (.int .i64 0) := Kl10.out.cells.2.1
  have dl102 : World.cell? (w10) ⟨w1.heap.size, 2, none⟩ = some (.int .i64 0) := Kl10.out.cells.2.2.1
  have dl103 : World.cell? (w10) ⟨w1.heap.size, 3, none⟩ = some (.slice (some ⟨g1, 0, none⟩) 2 2) := Kl10.out.cells.2.2.2
  have dc100 : World.cell? (w10) ⟨w6.heap.size, 0, none⟩ = some (.int .i64 2) := Kc10.out.cells.1
  have dc101 : World.cell? (w10) ⟨w6.heap.size, 1, none⟩ = some (.int .i64 0) := Kc10.out.cells.2.1
  have dc102 : World.cell? (w10) ⟨w6.heap.size, 2, none⟩ = some (.int .i64 0) := Kc10.out.cells.2.2.1
  have dc103 : World.cell? (w10) ⟨w6.heap.size, 3, none⟩ = some (.slice (some ⟨bc, oc, none⟩) 2 c6) := Kc10.out.cells.2.2.2
  have rc101 : World.cell? (w10) ⟨bc, oc + 1, none⟩ = some (.int .i64 1) := Kc10.out.cell (k := 1) (by decide) rfl
  go_wp2_with fail
  refine (ex_q1 _ _ _ Kc10.out.row).mono ?_
  rintro e w11 ⟨rfl, b11⟩
  have HB11 := Lib.hid (HB10.out.trans (b11.mono HB10.out.size))
  have Kl11 := Lib.hid (Kl10.out.below b11)
  have Ka11 := Lib.hid (Ka10.out.below b11)
  have Kb11 := Lib.hid (Kb10.out.below b11)
  have Kc11 := Lib.hid (Kc10.out.below b11)
  clear b11
  go_wp2_with fail
  refine (ex_q2 _).mono ?_
  rintro e w12 ⟨rfl, b12⟩
  have HB12 := Lib.hid (HB11.out.trans (b12.mono HB11.out.size))
  have Kl12 := Lib.hid (Kl11.out.below b12)
  have Ka12 := Lib.hid (Ka11.out.below b12)
  have Kb12 := Lib.hid (Kb11.out.below b12)
  have Kc12 := Lib.hid (Kc11.out.below b12)
  clear b12
  have dl120 : World.cell? (w12) ⟨w1.heap.size, 0, none⟩ = some (.int .i64 0) := Kl12.out.cells.1
  have dl121 : World.cell? (w12) ⟨w1.heap.size, 1, none⟩ = some (.int .i64 0) := Kl12.out.cells.2.1
  have dl122 : World.cell? (w12) ⟨w1.heap.size, 2, none⟩ = some (.int .i64 0) := Kl12.out.cells.2.2.1
  have dl123 : World.cell? (w12) ⟨w1.heap.size, 3, none⟩ = some (.slice (some ⟨g1, 0, none⟩) 2 2) := Kl12.out.cells.2.2.2
  go_wp2_with fail
  refine (ex_m1 _ _ _ Kl12.out.row).mono ?_
  rintro e w13 ⟨rfl, b13⟩
  have HB13 := Lib.hid (HB12.out.trans (b13.mono HB12.out.size))
  have Kl13 := Lib.hid (Kl12.out.below b13)
  have Ka13 := Lib.hid (Ka12.out.below b13)
  have Kb13 := Lib.hid (Kb12.out.below b13)
  have Kc13 := Lib.hid (Kc12.out.below b13)
  clear b13
  have dl130 : World.cell? (w13) ⟨w1.heap.size, 0, none⟩ = some (.int .i64 0) := Kl13.out.cells.1
  have dl131 : World.cell? (w13) ⟨w1.heap.size, 1, none⟩ = some (.int .i64 0) := Kl13.out.cells.2.1
  have dl132 : World.cell? (w13) ⟨w1.heap.size, 2, none⟩ = some (.int .i64 0) := Kl13.out.cells.2.2.1
  have dl133 : World.cell? (w13) ⟨w1.heap.size, 3, none⟩ = some (.slice (some ⟨g1, 0, none⟩) 2 2) := Kl13.out.cells.2.2.2
  go_wp2_with fail
  refine (ex_m2 _ _ _ Kl13.out.row).mono ?_
  rintro e w14 ⟨rfl, b14⟩
  have HB14 := Lib.hid (HB13.out.trans (b14.mono HB13.out.size))
  have Kl14 := Lib.hid (Kl13.out.below b14)
  have Ka14 := Lib.hid (Ka13.out.below b14)
  have Kb14 := Lib.hid (Kb13.out.below b14)
  have Kc14 := Lib.hid (Kc13.out.below b14)
  clear b14
  have dl140 : World.cell? (w14) ⟨w1.heap.size, 0, none⟩ = some (.int .i64 0) := Kl14.out.cells.1
  have dl141 : World.cell? (w14) ⟨w1.heap.size, 1, none⟩ = some (.int .i64 0) := Kl14.out.cells.2.1
  have dl142 : World.cell? (w14) ⟨w1.heap.size, 2, none⟩ = some (.int .i64 0) := Kl14.out.cells.2.2.1
  have dl143 : World.cell? (w14) ⟨w1.heap.size, 3, none⟩ = some (.slice (some ⟨g1, 0, none⟩) 2 2) := Kl14.out.cells.2.2.2
  go_wp2_with fail
  refine (ex_u1 _ _ _ Kl14.out.row).mono ?_
  rintro e w15 ⟨rfl, b15⟩
  have HB15 := Lib.hid (HB14.out.trans (b15.mono HB14.out.size))
  have Kl15 := Lib.hid (Kl14.out.below b15)
  have Ka15 := Lib.hid (Ka14.out.below b15)
  have Kb15 := Lib.hid (Kb14.out.below b15)
  have Kc15 := Lib.hid (Kc14.out.below b15)
  clear b15
  have dl150 : World.cell? (w15) ⟨w1.heap.size, 0, none⟩ = some (.int .i64 0) := Kl15.out.cells.1
  have dl151 : World.cell? (w15) ⟨w1.heap.size, 1, none⟩ = some (.int .i64 0) := Kl15.out.cells.2.1
  have dl152 : World.cell? (w15) ⟨w1.heap.size, 2, none⟩ = some (.int .i64 0) := Kl15.out.cells.2.2.1
  have dl153 : World.cell? (w15) ⟨w1.heap.size, 3, none⟩ = some (.slice (some ⟨g1, 0, none⟩) 2 2) := Kl15.out.cells.2.2.2
  have db150 : World.cell? (w15) ⟨w4.heap.size, 0, none⟩ = some (.int .i64 0) := Kb15.out.cells.1
  have db151 : World.cell? (w15) ⟨w4.heap.size, 1, none⟩ = some (.int .i64 3) := Kb15.out.cells.2.1
  have db152 : World.cell? (w15) ⟨w4.heap.size, 2, none⟩ = some (.int .i64 0) := Kb15.out.cells.2.2.1
  have db153 : World.cell? (w15) ⟨w4.heap.size, 3, none⟩ = some (.slice (some ⟨bb, ob, none⟩) 2 c4) := Kb15.out.cells.2.2.2
  go_wp2_with fail
  refine (ex_u2 _ _ _ Kl15.out.row _ _ Kb15.out.row).mono ?_
  rintro e w16 ⟨rfl, b16⟩
  have HB16 := Lib.hid (HB15.out.trans (b16.mono HB15.out.size))
  have Kl16 := Lib.hid (Kl15.out.below b16)
  have Ka16 := Lib.hid (Ka15.out.below b16)
  have Kb16 := Lib.hid (Kb15.out.below b16)
  have Kc16 := Lib.hid (Kc15.out.below b16)
  clear b16
  go_wp2_with fail
  refine (ex_n1 _).mono ?_
  rintro e w17 ⟨A17, c17, rfl, b17⟩
  have hfd := run_field50 w17 (.int .i64 0) (.int .i64 0) (.int .i64 0) (.slice A17 16 c17)
  have HB17 := Lib.hid (HB16.out.trans (b17.mono HB16.out.size))
  have Kl17 := Lib.hid (Kl16.out.below b17)
  have Ka17 := Lib.hid (Ka16.out.below b17)
  have Kb17 := Lib.hid (Kb16.out.below b17)
  have Kc17 := Lib.hid (Kc16.out.below b17)
  clear b17
  go_wp2_with fail
  refine (ex_n2 _).mono ?_
  rintro e w18 ⟨A18, c18, rfl, b18⟩
  have hfe := run_field50 w18 (.int .i64 0) (.int .i64 0) (.int .i64 0) (.slice A18 0 c18)
  have HB18 := Lib.hid (HB17.out.trans (b18.mono HB17.out.size))
  have Kl18 := Lib.hid (Kl17.out.below b18)
  have Ka18 := Lib.hid (Ka17.out.below b18)
  have Kb18 := Lib.hid (Kb17.out.below b18)
  have Kc18 := Lib.hid (Kc17.out.below b18)
  clear b18
  go_wp2_with fail
  go_ret
  exact ⟨rfl, HB18.out⟩
end Go.Proofs.Ytkbaddopgdfafaa
