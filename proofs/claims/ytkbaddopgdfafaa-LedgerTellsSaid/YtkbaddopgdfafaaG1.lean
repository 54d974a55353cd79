import Derived.Test.YtkbaddopgdfafaaRows
import Derived.Test.YtkbaddopgdfafaaB3
namespace Go.Proofs.Ytkbaddopgdfafaa
open Go.RowKit Go.Proofs.Besom

theorem Try.info2 : (Try.prog.info? 2).map (fun i => (i.zero, i.size, i.bytes)) = some (some (.int .i64 0), 1, 8) := by kernel_rfl
theorem Try.size2 : (Try.prog.info? 2).map (·.size) = some 1 := by kernel_rfl

/-- A ledger, as data. -/
structure Led where
  sc : Int
  sp : Int
  pool : Int
  bal : List Int
  deriving DecidableEq

abbrev ledV (l : Led) (A : Option Addr) (n c : Nat) : Value := .agg #[.int .i64 l.sc, .int .i64 l.sp, .int .i64 l.pool, .slice A n c]

def thereB (who : Int) (n : Nat) : Bool := decide (1 ≤ who ∧ who ≤ n)

theorem there_yes {who : Int} {n : Nat} (h : thereB who n = true) : 1 ≤ who ∧ who ≤ n := of_decide_eq_true h
theorem there_no {who : Int} {n : Nat} (h : thereB who n = false) : ¬ (1 ≤ who ∧ who ≤ n) := of_decide_eq_false h

set_option maxHeartbeats 400000 in
theorem there_any (l : Led) (A : Option Addr) (n c : Nat) (who : Int) (w : World) :
    Calls Try.prog 49 #[ledV l A n c, .int .i64 who] w fun e w' => e = .returned (.bool (thereB who n)) ∧ Below w.heap.size w w' := by
  have hb : Below w.heap.size w (w.alloc (.cells #[.int .i64 l.sc, .int .i64 l.sp, .int .i64 l.pool, .slice A n c] 50)) := (Below.refl _ _).alloc (Nat.le_refl _) _
  have HB := Lib.hid hb
  clear hb
  by_cases h1 : 1 ≤ who
  · by_cases h2 : who ≤ n
    · have hd : decide (who ≤ (n : Int)) = true := by simpa using h2
      have HT := Lib.hid (show true = thereB who n from (decide_eq_true ⟨h1, h2⟩).symm)
      go_enter Try.func49, Try.ntmps49
      go_wp2_with fail
      go_ret
      exact ⟨ret_bool HT.out, HB.out⟩
    · have hd : decide (who ≤ (n : Int)) = false := by simpa using h2
      have HT := Lib.hid (show false = thereB who n from (decide_eq_false (fun h => h2 h.2)).symm)
      go_enter Try.func49, Try.ntmps49
      go_wp2_with fail
      go_ret
      exact ⟨ret_bool HT.out, HB.out⟩
  · have hd : decide (1 ≤ who) = false := by simpa using h1
    have HT := Lib.hid (show false = thereB who n from (decide_eq_false (fun h => h1 h.1)).symm)
    go_enter Try.func49, Try.ntmps49
    go_wp2_with fail
    go_ret
    exact ⟨ret_bool HT.out, HB.out⟩

set_option maxHeartbeats 400000 in
theorem fn55 (v : Int) (w : World) : Calls Try.prog 55 #[.int .i64 v] w fun e w' => e = .returned (.int .i64 (wrap64 (v + 1))) ∧ w = w' := by
  go_enter Try.func55, Try.ntmps55
  go_wp2
  go_ret
  exact ⟨rfl, rfl⟩
set_option maxHeartbeats 400000 in
theorem fn51 (v n : Int) (g : Nat) (w : World) (h : w.cell? ⟨g, 0, none⟩ = some (.int .i64 n)) : Calls Try.prog 51 #[.int .i64 v, .pointer (some ⟨g, 0, none⟩)] w fun e w' => e = .returned (.int .i64 (wrap64 (v + n))) ∧ w = w' := by
  go_enter Try.func51, Try.ntmps51
  go_wp2
  go_ret
  exact ⟨rfl, rfl⟩
set_option maxHeartbeats 400000 in
theorem fn54 (v n : Int) (g : Nat) (w : World) (h : w.cell? ⟨g, 0, none⟩ = some (.int .i64 n)) : Calls Try.prog 54 #[.int .i64 v, .pointer (some ⟨g, 0, none⟩)] w fun e w' => e = .returned (.int .i64 (wrap64 (v - n))) ∧ w = w' := by
  go_enter Try.func54, Try.ntmps54
  go_wp2
  go_ret
  exact ⟨rfl, rfl⟩

def turn (l : Led) (who : Int) (x : Int) : Led := { l with bal := l.bal.set (who - 1).toNat (wrap64 (l.bal.getD (who - 1).toNat 0 + x)) }

/-- The post of a call that returns a ledger with a new row. -/
def LedPost (w : World) (n : Nat) (r : Led) (e : Ending) (w' : World) : Prop :=
  ∃ g c, e = .returned (ledV r (some ⟨g, 0, none⟩) n c) ∧ Row w' 1 (some ⟨g, 0, none⟩) n (r.bal.map (.int .i64)) ∧ Below w.heap.size w w' ∧ w.heap.size ≤ g

set_option maxRecDepth 100000 in
set_option maxHeartbeats 800000 in
theorem turned55 (l : Led) (A : Option Addr) (n c : Nat) (k : Nat) (w : World) (hr : Row w 1 A n (l.bal.map (.int .i64))) (hn : n * 8 ≤ 140737488351232) (hk : k < n) :
    Calls Try.prog 50 #[ledV l A n c, .int .i64 ((k : Int) + 1), .func (.func 55) #[] #[]] w (LedPost w n (turn l ((k : Int) + 1) 1)) := by
  obtain ⟨i0, hi, hz0, hz1, hz2⟩ := info_parts Try.info2
  have HB := Lib.hid (show Below w.heap.size w ((w.alloc (.cells #[.int .i64 l.sc, .int .i64 l.sp, .int .i64 l.pool, .slice A n c] 50)).alloc (.cells #[.int .i64 0, .int .i64 0, .int .i64 0, .slice none 0 0] 50)) from ((Below.refl _ _).alloc (Nat.le_refl _) _).alloc (by simp) _)
  have hll : l.bal.length = n := by simpa using hr.1
  have HL := Lib.hid (show k < l.bal.length by omega)
  have HR := Lib.hid hr
  clear hr hll
  go_enter Try.func50, Try.ntmps50
  go_wp2_with (first | (at_make; refine wpList_make_full _ rfl (.tmp 10) (.tmp 10) 48 rfl (w.heap.size + 2) 2 i0 (.int .i64 0) 1 Try.underlying48 hi hz0 hz1 .i64 .i64 (n : Int) (n : Int) n rfl rfl rfl rfl (by rw [hz2]; omega) (by unfold maxLen; omega) (by simp) ?_; intro w1 o1 g1; simp only [World.size_alloc] at o1; have hb1 := below_of_grown_none g1; have hx1 : w1.heap[w.heap.size]? = _ := (hb1.block w.heap.size (by simp; omega)).trans ((Below.heap_alloc _ _ _ (by simp)).trans (heap_alloc_at rfl)); have hy1 : w1.heap[w.heap.size + 1]? = _ := (hb1.block (w.heap.size + 1) (by simp)).trans (heap_alloc_at (by simp)); obtain ⟨q0, q1, q2, q3⟩ := cells4 hx1; have HX1 := Lib.hid hx1; have HY1 := Lib.hid hy1; have HB1 := Lib.hid (HB.out.trans (hb1.mono HB.out.size)); have O1 := Lib.hid o1; have R1 := Lib.hid ((HR.out.below HB.out).below hb1); clear o1 g1 hb1 hx1 hy1) | (with_reducible refine wpList_copy_full rfl (.tmp 12) (.tmp 14) 48 48 rfl 2 Try.underlying48 Try.size2 (w.heap.size + 2) (w.heap.size + 1 + 1) n n _ rfl O1.out A c (l.bal.map (.int .i64)) rfl R1.out (ints_oneCell .i64 l.bal) ?_; intro w2 o2 g2; have hsz1 := (O1.out.lt (w.heap.size + 1 + 1) rfl).2; have hb2 : Below (w.heap.size + 1 + 1) w1 w2 := below_of_grown g2 (Nat.le_refl _) (Nat.le_of_lt hsz1); have hx2 : w2.heap[w.heap.size]? = _ := (hb2.block w.heap.size (by omega)).trans HX1.out; have hy2 : w2.heap[w.heap.size + 1]? = _ := (hb2.block (w.heap.size + 1) (by omega)).trans HY1.out; obtain ⟨q0, q1, q2, q3⟩ := cells4 hx2; obtain ⟨z0, z1, z2, z3⟩ := cells4 hy2; have f0 := free_of_blk hx2 3; have t0 := free_of_blk hy2 0; have t1 := free_of_blk hy2 1; have t2 := free_of_blk hy2 2; have t3 := free_of_blk hy2 3; have hlk := HL.out; have c0 : w2.cell? ⟨w.heap.size + 1 + 1, k, none⟩ = some (.int .i64 l.bal[k]) := (o2.cellAt k (by omega)).trans (by simp [List.getElem?_eq_getElem hlk]); have f1 := o2.frozenAt k; have HB2 := Lib.hid (HB1.out.trans (hb2.mono (by omega))); have O2 := Lib.hid o2; have HY2 := Lib.hid hy2; clear o2 g2 hb2 hx2 hy2))
  refine (fn55 _ _).mono ?_
  rintro e w3 ⟨rfl, rfl⟩
  go_wp2_with fail
  refine bodyPost_row (ty' := 50) (g := w.heap.size + 1) rfl rfl (blk_set4 (blk_other (blk_other HY2.out (by omega)) (by omega))) Try.underlying50 rfl (by kernel_rfl) rfl ?_
  have h := (O2.out.stored k (.int .i64 (wrap64 (l.bal[k] + 1)))).1
  rw [map_set_int'] at h
  have h2 := own_set4 (p := .int .i64 l.sc) (q := .int .i64 l.sp) (r := .int .i64 l.pool) (s := .slice (some ⟨w.heap.size + 1 + 1, 0, none⟩) n n) (ownsRow_setCell_other h (a := ⟨w.heap.size, 3, none⟩) (by simp [Value.ownBlock]; omega) (.slice (some ⟨w.heap.size + 1 + 1, 0, none⟩) n n)) (g := w.heap.size + 1) (by simp [Value.ownBlock])
  refine ⟨_, _, rfl, ?_, below_set4 ((HB2.out.setCell (by simp; omega) _).setCell (by simp) _) (by omega), by omega⟩
  have e : (turn l ((k : Int) + 1) 1).bal = l.bal.set k (wrap64 (l.bal[k] + 1)) := by
    simp [turn, List.getD, HL.out]
  rw [e]
  exact Row.of_own h2

set_option maxRecDepth 100000 in
set_option maxHeartbeats 800000 in
theorem turned51 (l : Led) (A : Option Addr) (n c : Nat) (k : Nat) (x : Int) (gc : Nat) (w : World) (hr : Row w 1 A n (l.bal.map (.int .i64))) (hn : n * 8 ≤ 140737488351232) (hk : k < n) (hx : w.cell? ⟨gc, 0, none⟩ = some (.int .i64 x)) :
    Calls Try.prog 50 #[ledV l A n c, .int .i64 ((k : Int) + 1), .func (.func 51) #[] #[.pointer (some ⟨gc, 0, none⟩)]] w (LedPost w n (turn l ((k : Int) + 1) (x))) := by
  obtain ⟨i0, hi, hz0, hz1, hz2⟩ := info_parts Try.info2
  have HB := Lib.hid (show Below w.heap.size w ((w.alloc (.cells #[.int .i64 l.sc, .int .i64 l.sp, .int .i64 l.pool, .slice A n c] 50)).alloc (.cells #[.int .i64 0, .int .i64 0, .int .i64 0, .slice none 0 0] 50)) from ((Below.refl _ _).alloc (Nat.le_refl _) _).alloc (by simp) _)
  have hll : l.bal.length = n := by simpa using hr.1
  have HL := Lib.hid (show k < l.bal.length by omega)
  have HR := Lib.hid hr
  have HX0 := Lib.hid hx
  clear hr hll hx
  go_enter Try.func50, Try.ntmps50
  go_wp2_with (first | (at_make; refine wpList_make_full _ rfl (.tmp 10) (.tmp 10) 48 rfl (w.heap.size + 2) 2 i0 (.int .i64 0) 1 Try.underlying48 hi hz0 hz1 .i64 .i64 (n : Int) (n : Int) n rfl rfl rfl rfl (by rw [hz2]; omega) (by unfold maxLen; omega) (by simp) ?_; intro w1 o1 g1; simp only [World.size_alloc] at o1; have hb1 := below_of_grown_none g1; have hx1 : w1.heap[w.heap.size]? = _ := (hb1.block w.heap.size (by simp; omega)).trans ((Below.heap_alloc _ _ _ (by simp)).trans (heap_alloc_at rfl)); have hy1 : w1.heap[w.heap.size + 1]? = _ := (hb1.block (w.heap.size + 1) (by simp)).trans (heap_alloc_at (by simp)); obtain ⟨q0, q1, q2, q3⟩ := cells4 hx1; have HX1 := Lib.hid hx1; have HY1 := Lib.hid hy1; have HB1 := Lib.hid (HB.out.trans (hb1.mono HB.out.size)); have O1 := Lib.hid o1; have R1 := Lib.hid ((HR.out.below HB.out).below hb1); clear o1 g1 hb1 hx1 hy1) | (with_reducible refine wpList_copy_full rfl (.tmp 12) (.tmp 14) 48 48 rfl 2 Try.underlying48 Try.size2 (w.heap.size + 2) (w.heap.size + 1 + 1) n n _ rfl O1.out A c (l.bal.map (.int .i64)) rfl R1.out (ints_oneCell .i64 l.bal) ?_; intro w2 o2 g2; have hsz1 := (O1.out.lt (w.heap.size + 1 + 1) rfl).2; have hb2 : Below (w.heap.size + 1 + 1) w1 w2 := below_of_grown g2 (Nat.le_refl _) (Nat.le_of_lt hsz1); have hx2 : w2.heap[w.heap.size]? = _ := (hb2.block w.heap.size (by omega)).trans HX1.out; have hy2 : w2.heap[w.heap.size + 1]? = _ := (hb2.block (w.heap.size + 1) (by omega)).trans HY1.out; obtain ⟨q0, q1, q2, q3⟩ := cells4 hx2; obtain ⟨z0, z1, z2, z3⟩ := cells4 hy2; have f0 := free_of_blk hx2 3; have t0 := free_of_blk hy2 0; have t1 := free_of_blk hy2 1; have t2 := free_of_blk hy2 2; have t3 := free_of_blk hy2 3; have hlk := HL.out; have c0 : w2.cell? ⟨w.heap.size + 1 + 1, k, none⟩ = some (.int .i64 l.bal[k]) := (o2.cellAt k (by omega)).trans (by simp [List.getElem?_eq_getElem hlk]); have f1 := o2.frozenAt k; have HB2 := Lib.hid (HB1.out.trans (hb2.mono (by omega))); have O2 := Lib.hid o2; have HY2 := Lib.hid hy2; clear o2 g2 hb2 hx2 hy2))
  refine (fn51 _ x gc _ ((HB2.out.cell (World.block_lt_of_cell? w _ HX0.out)).trans HX0.out)).mono ?_
  rintro e w3 ⟨rfl, rfl⟩
  go_wp2_with fail
  refine bodyPost_row (ty' := 50) (g := w.heap.size + 1) rfl rfl (blk_set4 (blk_other (blk_other HY2.out (by omega)) (by omega))) Try.underlying50 rfl (by kernel_rfl) rfl ?_
  have h := (O2.out.stored k (.int .i64 (wrap64 (l.bal[k] + x)))).1
  rw [map_set_int'] at h
  have h2 := own_set4 (p := .int .i64 l.sc) (q := .int .i64 l.sp) (r := .int .i64 l.pool) (s := .slice (some ⟨w.heap.size + 1 + 1, 0, none⟩) n n) (ownsRow_setCell_other h (a := ⟨w.heap.size, 3, none⟩) (by simp [Value.ownBlock]; omega) (.slice (some ⟨w.heap.size + 1 + 1, 0, none⟩) n n)) (g := w.heap.size + 1) (by simp [Value.ownBlock])
  refine ⟨_, _, rfl, ?_, below_set4 ((HB2.out.setCell (by simp; omega) _).setCell (by simp) _) (by omega), by omega⟩
  have e : (turn l ((k : Int) + 1) (x)).bal = l.bal.set k (wrap64 (l.bal[k] + x)) := by
    simp [turn, List.getD, HL.out]
  rw [e]
  exact Row.of_own h2

set_option maxRecDepth 100000 in
set_option maxHeartbeats 800000 in
theorem turned54 (l : Led) (A : Option Addr) (n c : Nat) (k : Nat) (x : Int) (gc : Nat) (w : World) (hr : Row w 1 A n (l.bal.map (.int .i64))) (hn : n * 8 ≤ 140737488351232) (hk : k < n) (hx : w.cell? ⟨gc, 0, none⟩ = some (.int .i64 x)) :
    Calls Try.prog 50 #[ledV l A n c, .int .i64 ((k : Int) + 1), .func (.func 54) #[] #[.pointer (some ⟨gc, 0, none⟩)]] w (LedPost w n (turn l ((k : Int) + 1) (-x))) := by
  obtain ⟨i0, hi, hz0, hz1, hz2⟩ := info_parts Try.info2
  have HB := Lib.hid (show Below w.heap.size w ((w.alloc (.cells #[.int .i64 l.sc, .int .i64 l.sp, .int .i64 l.pool, .slice A n c] 50)).alloc (.cells #[.int .i64 0, .int .i64 0, .int .i64 0, .slice none 0 0] 50)) from ((Below.refl _ _).alloc (Nat.le_refl _) _).alloc (by simp) _)
  have hll : l.bal.length = n := by simpa using hr.1
  have HL := Lib.hid (show k < l.bal.length by omega)
  have HR := Lib.hid hr
  have HX0 := Lib.hid hx
  clear hr hll hx
  go_enter Try.func50, Try.ntmps50
  go_wp2_with (first | (at_make; refine wpList_make_full _ rfl (.tmp 10) (.tmp 10) 48 rfl (w.heap.size + 2) 2 i0 (.int .i64 0) 1 Try.underlying48 hi hz0 hz1 .i64 .i64 (n : Int) (n : Int) n rfl rfl rfl rfl (by rw [hz2]; omega) (by unfold maxLen; omega) (by simp) ?_; intro w1 o1 g1; simp only [World.size_alloc] at o1; have hb1 := below_of_grown_none g1; have hx1 : w1.heap[w.heap.size]? = _ := (hb1.block w.heap.size (by simp; omega)).trans ((Below.heap_alloc _ _ _ (by simp)).trans (heap_alloc_at rfl)); have hy1 : w1.heap[w.heap.size + 1]? = _ := (hb1.block (w.heap.size + 1) (by simp)).trans (heap_alloc_at (by simp)); obtain ⟨q0, q1, q2, q3⟩ := cells4 hx1; have HX1 := Lib.hid hx1; have HY1 := Lib.hid hy1; have HB1 := Lib.hid (HB.out.trans (hb1.mono HB.out.size)); have O1 := Lib.hid o1; have R1 := Lib.hid ((HR.out.below HB.out).below hb1); clear o1 g1 hb1 hx1 hy1) | (with_reducible refine wpList_copy_full rfl (.tmp 12) (.tmp 14) 48 48 rfl 2 Try.underlying48 Try.size2 (w.heap.size + 2) (w.heap.size + 1 + 1) n n _ rfl O1.out A c (l.bal.map (.int .i64)) rfl R1.out (ints_oneCell .i64 l.bal) ?_; intro w2 o2 g2; have hsz1 := (O1.out.lt (w.heap.size + 1 + 1) rfl).2; have hb2 : Below (w.heap.size + 1 + 1) w1 w2 := below_of_grown g2 (Nat.le_refl _) (Nat.le_of_lt hsz1); have hx2 : w2.heap[w.heap.size]? = _ := (hb2.block w.heap.size (by omega)).trans HX1.out; have hy2 : w2.heap[w.heap.size + 1]? = _ := (hb2.block (w.heap.size + 1) (by omega)).trans HY1.out; obtain ⟨q0, q1, q2, q3⟩ := cells4 hx2; obtain ⟨z0, z1, z2, z3⟩ := cells4 hy2; have f0 := free_of_blk hx2 3; have t0 := free_of_blk hy2 0; have t1 := free_of_blk hy2 1; have t2 := free_of_blk hy2 2; have t3 := free_of_blk hy2 3; have hlk := HL.out; have c0 : w2.cell? ⟨w.heap.size + 1 + 1, k, none⟩ = some (.int .i64 l.bal[k]) := (o2.cellAt k (by omega)).trans (by simp [List.getElem?_eq_getElem hlk]); have f1 := o2.frozenAt k; have HB2 := Lib.hid (HB1.out.trans (hb2.mono (by omega))); have O2 := Lib.hid o2; have HY2 := Lib.hid hy2; clear o2 g2 hb2 hx2 hy2))
  refine (fn54 _ x gc _ ((HB2.out.cell (World.block_lt_of_cell? w _ HX0.out)).trans HX0.out)).mono ?_
  rintro e w3 ⟨rfl, rfl⟩
  go_wp2_with fail
  refine bodyPost_row (ty' := 50) (g := w.heap.size + 1) rfl rfl (blk_set4 (blk_other (blk_other HY2.out (by omega)) (by omega))) Try.underlying50 rfl (by kernel_rfl) rfl ?_
  have h := (O2.out.stored k (.int .i64 (wrap64 (l.bal[k] - x)))).1
  rw [map_set_int'] at h
  have h2 := own_set4 (p := .int .i64 l.sc) (q := .int .i64 l.sp) (r := .int .i64 l.pool) (s := .slice (some ⟨w.heap.size + 1 + 1, 0, none⟩) n n) (ownsRow_setCell_other h (a := ⟨w.heap.size, 3, none⟩) (by simp [Value.ownBlock]; omega) (.slice (some ⟨w.heap.size + 1 + 1, 0, none⟩) n n)) (g := w.heap.size + 1) (by simp [Value.ownBlock])
  refine ⟨_, _, rfl, ?_, below_set4 ((HB2.out.setCell (by simp; omega) _).setCell (by simp) _) (by omega), by omega⟩
  have e : (turn l ((k : Int) + 1) (-x)).bal = l.bal.set k (wrap64 (l.bal[k] - x)) := by
    have e1 : ((k : Int) + 1 - 1).toNat = k := by omega
    show l.bal.set ((k : Int) + 1 - 1).toNat (wrap64 (l.bal.getD ((k : Int) + 1 - 1).toNat 0 + -x)) = _
    rw [e1, Int.sub_eq_add_neg]
    simp [List.getD, HL.out]
  rw [e]
  exact Row.of_own h2

end Go.Proofs.Ytkbaddopgdfafaa
