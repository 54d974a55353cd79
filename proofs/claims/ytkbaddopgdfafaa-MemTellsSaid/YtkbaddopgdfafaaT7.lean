import Derived.Test.YtkbaddopgdfafaaT6
namespace Go.Proofs.Ytkbaddopgdfafaa
open Go.RowKit Go.Proofs.Besom

set_option maxRecDepth 100000 in
set_option maxHeartbeats 800000 in
theorem examples_any (w : World) : Calls Try.prog 15 #[] w fun e w' => e = .returned (.bool true) ∧ Below w.heap.size w w' := by
  have hb0 : Below w.heap.size w (w.alloc (.cells #[.int .u64 5, .int .u64 6] 24)) := (Below.refl _ _).alloc (Nat.le_refl _) _
  have d1 : ∀ (w' : World) (hr : Row w' 1 (some ⟨w.heap.size, 0, none⟩) 2 ([5, 6].map (.int .u64))), _ := fun w' hr => do_any (some ⟨w.heap.size, 0, none⟩) 2 2 3 0 5 7 [5, 6] w' hr (by decide)
  have d2 : ∀ (w' : World) (hr : Row w' 1 (some ⟨w.heap.size, 0, none⟩) 2 ([5, 6].map (.int .u64))), _ := fun w' hr => do_any (some ⟨w.heap.size, 0, none⟩) 2 2 3 0 4 7 [5, 6] w' hr (by decide)
  have d3 : ∀ (w' : World) (hr : Row w' 1 (some ⟨w.heap.size, 0, none⟩) 2 ([5, 6].map (.int .u64))), _ := fun w' hr => do_any (some ⟨w.heap.size, 0, none⟩) 2 2 4 1 2 0 [5, 6] w' hr (by decide)
  have d4 : ∀ (w' : World) (hr : Row w' 1 (some ⟨w.heap.size, 0, none⟩) 2 ([5, 6].map (.int .u64))), _ := fun w' hr => do_any (some ⟨w.heap.size, 0, none⟩) 2 2 1 2 0 0 [5, 6] w' hr (by decide)
  rw [show memDo [5, 6] 3 0 5 7 = ([7, 6], 5, true) from by decide] at d1
  rw [show memDo [5, 6] 3 0 4 7 = ([5, 6], 5, false) from by decide] at d2
  rw [show memDo [5, 6] 4 1 2 0 = ([5, 8], 6, true) from by decide] at d3
  rw [show memDo [5, 6] 1 2 0 0 = ([5, 6], 0, false) from by decide] at d4
  have r0 : Row (w.alloc (.cells #[.int .u64 5, .int .u64 6] 24)) 1 (some ⟨w.heap.size, 0, none⟩) 2 ([5, 6].map (.int .u64)) := row_lit w #[.int .u64 5, .int .u64 6] 24 1 2 rfl rfl
  have d5 : ∀ (w' : World) (B : Option Addr) (hr : Row w' 1 (some ⟨w.heap.size, 0, none⟩) 2 ([5, 6].map (.int .u64))) (hb : Row w' 4 B 3 ([(2, 0, 1, 0), (1, 0, 0, 0), (9, 0, 0, 0)].flatMap opCells)), _ := fun w' B hr hb => all_any (some ⟨w.heap.size, 0, none⟩) B 2 3 2 3 [5, 6] [(2, 0, 1, 0), (1, 0, 0, 0), (9, 0, 0, 0)] w' hr (by decide) hb (by decide)
  rw [show memAll [5, 6] [(2, 0, 1, 0), (1, 0, 0, 0), (9, 0, 0, 0)] = ([1, 6], [5, 1, 0], 2) from by decide] at d5
  have D5 := Lib.hid d5
  clear d5
  have HB0 := Lib.hid hb0
  have R0 := Lib.hid r0
  have D1 := Lib.hid d1
  have D2 := Lib.hid d2
  have D3 := Lib.hid d3
  have D4 := Lib.hid d4
  clear hb0 r0 d1 d2 d3 d4
  go_enter Try.func15, Try.ntmps15
  go_wp2_with fail
  refine (D1.out _ R0.out).mono ?_
  rintro e w1 ⟨A1, c1, rfl, h1, b1, -⟩
  have R1 := Lib.hid (R0.out.below b1)
  have H1 := Lib.hid h1
  have B1 := Lib.hid b1
  clear h1 b1
  go_wp2_with fail
  refine (D2.out _ R1.out).mono ?_
  rintro e w2 ⟨A2, c2, rfl, h2, b2, -⟩
  have R2 := Lib.hid (R1.out.below b2)
  have H2 := Lib.hid h2
  have B2 := Lib.hid b2
  clear h2 b2
  go_wp2_with fail
  refine (D3.out _ R2.out).mono ?_
  rintro e w3 ⟨A3, c3, rfl, h3, b3, -⟩
  have R3 := Lib.hid (R2.out.below b3)
  have H3 := Lib.hid h3
  have B3 := Lib.hid b3
  clear h3 b3
  go_wp2_with fail
  refine (D4.out _ R3.out).mono ?_
  rintro e w4 ⟨A4, c4, rfl, -, b4, -⟩
  have R4 := Lib.hid (R3.out.below b4)
  have B4 := Lib.hid b4
  clear b4
  go_wp2_with fail
  have bl : Below w4.heap.size w4 (w4.alloc (.cells #[.int .i64 2, .int .i64 0, .int .u64 1, .int .u64 0, .int .i64 1, .int .i64 0, .int .u64 0, .int .u64 0, .int .i64 9, .int .i64 0, .int .u64 0, .int .u64 0] 26)) := (Below.refl _ _).alloc (Nat.le_refl _) _
  have BL := Lib.hid bl
  clear bl
  refine (D5.out _ _ (R4.out.below BL.out) (row_lit w4 _ 26 4 3 rfl rfl)).mono ?_
  rintro e w5 ⟨A5, c5, v5, rfl, h5, o5, b5⟩
  obtain ⟨g5, cap5, rfl, -, -⟩ := own_form o5 (by decide)
  have b45 : Below w4.heap.size w4 w5 := BL.out.trans (b5.mono BL.out.size)
  have b35 := B4.out.trans (b45.mono B4.out.size)
  have b25 := B3.out.trans (b35.mono B3.out.size)
  have b15 := B2.out.trans (b25.mono B2.out.size)
  have b05 := B1.out.trans (b15.mono B1.out.size)
  have bb5 := HB0.out.trans (b05.mono HB0.out.size)
  obtain ⟨x1, y1, rfl, p1, -⟩ := (H1.out.below b15).int_at (k := 0) (by decide)
  obtain ⟨x2, y2, rfl, p2, -⟩ := (H3.out.below b35).int_at (k := 1) (by decide)
  obtain ⟨x3, y3, rfl, p3, -⟩ := h5.int_at (k := 0) (by decide)
  obtain ⟨_, _, e4, p4, -⟩ := (R0.out.below b05).int_at (k := 0) (by decide)
  obtain ⟨_, _, e5, q0, -⟩ := (Row.of_own o5).int_at (k := 0) (by decide)
  obtain ⟨_, _, e6, q1, -⟩ := (Row.of_own o5).int_at (k := 1) (by decide)
  obtain ⟨_, _, e7, q2, -⟩ := (Row.of_own o5).int_at (k := 2) (by decide)
  cases e4; cases e5; cases e6; cases e7
  have hs := same_any A2 (some ⟨w.heap.size, 0, none⟩) 2 2 c2 2 [5, 6] [5, 6] w5 (by decide) (by decide) (H2.out.below b25) (R0.out.below b05)
  have HS := Lib.hid hs
  have HF := Lib.hid bb5
  clear hs bb5 b05 b15 b25 b35 b45 b5 h5 o5
  simp at p1 p2 p3 p4 q0 q1 q2
  go_wp2_with fail
  refine HS.out.mono ?_
  rintro e w6 ⟨rfl, q, rfl⟩
  go_wp2_with fail
  go_ret
  exact ⟨rfl, below_drewN HF.out _⟩
end Go.Proofs.Ytkbaddopgdfafaa
