import Derived.Test.YtkbaddopgdfafaaR1
namespace Go.Proofs.Ytkbaddopgdfafaa
open Go.RowKit Go.Proofs.Besom

set_option maxRecDepth 100000 in
set_option maxHeartbeats 800000 in
theorem refDo_2 (A : Option Addr) (n c : Nat) (j : Nat) (a b : Int) (xs : List Int) (w : World) (hr : Row w 1 A n (xs.map (.int .u64))) (hn : n * 8 ≤ 140737488351232) (hj : j < n) (hl : j < xs.length) :
    Calls Try.prog 17 #[.slice A n c, .agg #[.int .i64 2, .int .i64 j, .int .u64 a, .int .u64 b]] w (DoPost w A n (memDo xs 2 j a b)) := by
  obtain ⟨i0, hi, hz0, hz1, hz2⟩ := info_parts Try.info24
  have HB := Lib.hid (show Below w.heap.size w (w.alloc (opBlk33 2 j a b)) from (Below.refl _ _).alloc (Nat.le_refl _) _)
  obtain ⟨b1, o1, rfl, hc1, -⟩ := (hr.below HB.out).int_at hj
  have HR := Lib.hid hr
  have HX := Lib.hid (ints_oneCell .u64 xs)
  clear hr
  go_enter Try.func17, Try.ntmps17
  go_wp2_with (at_builtin; refine wpList_append_row _ rfl (.const (.slice none 0 0)) (.tmp 51) 22 rfl w.heap.size 24 i0 (.int .u64 0) 1 8 Try.underlying22 hi hz0 hz1 hz2 rfl (by decide) (.slice none 0 0) 0 [] rfl (World.ownsRow_nil _ _ _ _) _ n c (xs.map (.int .u64)) rfl (HR.out.below HB.out) HX.out (by unfold maxLen; omega) (by omega) (by simp) ?_; intro vw w2 hown hg hat; have hb2 := below_of_nil hg; obtain ⟨q0, q1, q2, q3⟩ := cells4 ((hb2.block w.heap.size (by simp)).trans (heap_alloc_at rfl)); obtain ⟨g, cap, rfl, -, -⟩ := own_form hown (by omega); have hc3 : w2.cell? ⟨g, j, none⟩ = some (.int .u64 xs[j]) := (hown.cellAt j (by omega)).trans (by simp [List.getElem?_eq_getElem hl]); have hf3 := hown.frozenAt j; have HW := Lib.hid hown; have HB2 := Lib.hid (HB.out.trans (hb2.mono HB.out.size)); clear hown hg hat hb2)
  go_ret3
  exact post_set (by simpa using HW.out) hl (by decide) (by decide) rfl HB2.out

set_option maxRecDepth 100000 in
set_option maxHeartbeats 800000 in
theorem refDo_3 (A : Option Addr) (n c : Nat) (j : Nat) (a b : Int) (xs : List Int) (w : World) (hr : Row w 1 A n (xs.map (.int .u64))) (hn : n * 8 ≤ 140737488351232) (hj : j < n) (hl : j < xs.length) (heq : xs[j] = a) :
    Calls Try.prog 17 #[.slice A n c, .agg #[.int .i64 3, .int .i64 j, .int .u64 a, .int .u64 b]] w (DoPost w A n (memDo xs 3 j a b)) := by
  obtain ⟨i0, hi, hz0, hz1, hz2⟩ := info_parts Try.info24
  have HB := Lib.hid (show Below w.heap.size w (w.alloc (opBlk33 3 j a b)) from (Below.refl _ _).alloc (Nat.le_refl _) _)
  obtain ⟨b1, o1, rfl, hc1, -⟩ := (hr.below HB.out).int_at hj
  have hd : (xs[j] != a) = false := by simpa using heq
  have hnx : memNext xs[j] 3 a b = (b, true) := by simp [memNext, heq]
  have HR := Lib.hid hr
  have HX := Lib.hid (ints_oneCell .u64 xs)
  have HN := Lib.hid hnx
  clear hnx heq
  clear hr
  go_enter Try.func17, Try.ntmps17
  go_wp2_with (at_builtin; refine wpList_append_row _ rfl (.const (.slice none 0 0)) (.tmp 51) 22 rfl w.heap.size 24 i0 (.int .u64 0) 1 8 Try.underlying22 hi hz0 hz1 hz2 rfl (by decide) (.slice none 0 0) 0 [] rfl (World.ownsRow_nil _ _ _ _) _ n c (xs.map (.int .u64)) rfl (HR.out.below HB.out) HX.out (by unfold maxLen; omega) (by omega) (by simp) ?_; intro vw w2 hown hg hat; have hb2 := below_of_nil hg; obtain ⟨q0, q1, q2, q3⟩ := cells4 ((hb2.block w.heap.size (by simp)).trans (heap_alloc_at rfl)); obtain ⟨g, cap, rfl, -, -⟩ := own_form hown (by omega); have hc3 : w2.cell? ⟨g, j, none⟩ = some (.int .u64 xs[j]) := (hown.cellAt j (by omega)).trans (by simp [List.getElem?_eq_getElem hl]); have hf3 := hown.frozenAt j; have HW := Lib.hid hown; have HB2 := Lib.hid (HB.out.trans (hb2.mono HB.out.size)); clear hown hg hat hb2)
  go_ret3
  exact post_set (by simpa using HW.out) hl (by decide) (by decide) HN.out HB2.out

set_option maxRecDepth 100000 in
set_option maxHeartbeats 800000 in
theorem refDo_4 (A : Option Addr) (n c : Nat) (j : Nat) (a b : Int) (xs : List Int) (w : World) (hr : Row w 1 A n (xs.map (.int .u64))) (hn : n * 8 ≤ 140737488351232) (hj : j < n) (hl : j < xs.length) :
    Calls Try.prog 17 #[.slice A n c, .agg #[.int .i64 4, .int .i64 j, .int .u64 a, .int .u64 b]] w (DoPost w A n (memDo xs 4 j a b)) := by
  obtain ⟨i0, hi, hz0, hz1, hz2⟩ := info_parts Try.info24
  have HB := Lib.hid (show Below w.heap.size w (w.alloc (opBlk33 4 j a b)) from (Below.refl _ _).alloc (Nat.le_refl _) _)
  obtain ⟨b1, o1, rfl, hc1, -⟩ := (hr.below HB.out).int_at hj
  have HR := Lib.hid hr
  have HX := Lib.hid (ints_oneCell .u64 xs)
  clear hr
  go_enter Try.func17, Try.ntmps17
  go_wp2_with (at_builtin; refine wpList_append_row _ rfl (.const (.slice none 0 0)) (.tmp 51) 22 rfl w.heap.size 24 i0 (.int .u64 0) 1 8 Try.underlying22 hi hz0 hz1 hz2 rfl (by decide) (.slice none 0 0) 0 [] rfl (World.ownsRow_nil _ _ _ _) _ n c (xs.map (.int .u64)) rfl (HR.out.below HB.out) HX.out (by unfold maxLen; omega) (by omega) (by simp) ?_; intro vw w2 hown hg hat; have hb2 := below_of_nil hg; obtain ⟨q0, q1, q2, q3⟩ := cells4 ((hb2.block w.heap.size (by simp)).trans (heap_alloc_at rfl)); obtain ⟨g, cap, rfl, -, -⟩ := own_form hown (by omega); have hc3 : w2.cell? ⟨g, j, none⟩ = some (.int .u64 xs[j]) := (hown.cellAt j (by omega)).trans (by simp [List.getElem?_eq_getElem hl]); have hf3 := hown.frozenAt j; have HW := Lib.hid hown; have HB2 := Lib.hid (HB.out.trans (hb2.mono HB.out.size)); clear hown hg hat hb2)
  go_ret3
  exact post_set (by simpa using HW.out) hl (by decide) (by decide) rfl HB2.out

theorem refDo_any (A : Option Addr) (n c : Nat) (k i a b : Int) (xs : List Int) (w : World) (hr : Row w 1 A n (xs.map (.int .u64))) (hn : n * 8 ≤ 140737488351232) :
    Calls Try.prog 17 #[.slice A n c, .agg #[.int .i64 k, .int .i64 i, .int .u64 a, .int .u64 b]] w (DoPost w A n (memDo xs k i a b)) := by
  have hxl : xs.length = n := by simpa using hr.1
  by_cases h : 0 ≤ i ∧ i < n ∧ 1 ≤ k ∧ k ≤ 4
  · obtain ⟨h0, h1, h2, h3⟩ := h
    obtain ⟨j, rfl⟩ := Int.eq_ofNat_of_zero_le h0
    have hj : j < n := by omega
    have hl : j < xs.length := by omega
    have : k = 1 ∨ k = 2 ∨ k = 3 ∨ k = 4 := by omega
    rcases this with rfl | rfl | rfl | rfl
    · exact refDo_load A n c j a b xs w hr hj
    · exact refDo_2 A n c j a b xs w hr hn hj hl
    · by_cases he : xs[j] = a
      · exact refDo_3 A n c j a b xs w hr hn hj hl he
      · exact refDo_miss A n c j a b xs w hr hj hl he
    · exact refDo_4 A n c j a b xs w hr hn hj hl
  · exact refDo_none A n c k i a b xs w hr h
end Go.Proofs.Ytkbaddopgdfafaa
