import Derived.Test.YtkbaddopgdfafaaG4
namespace Go.Proofs.Ytkbaddopgdfafaa
open Go.RowKit Go.Proofs.Besom

set_option maxHeartbeats 400000 in
theorem equal58_any (A B : Option Addr) (n m c d : Nat) (xs ys : List Int) (w : World) (hn : n ≤ 9223372036854775807) (hm : m ≤ 9223372036854775807) (ha : Row w 1 A n (xs.map (.int .i64))) (hb : Row w 1 B m (ys.map (.int .i64))) :
    Calls Try.prog 58 #[.slice A n c, .slice B m d] w fun e w' => e = .returned (.bool (decide (xs = ys))) ∧ ∃ q, w' = w.drewN q := by
  have hxl : xs.length = n := by simpa using ha.1
  have hyl : ys.length = m := by simpa using hb.1
  have HX := Lib.hid hxl
  have HY := Lib.hid hyl
  have HA := Lib.hid ha
  have HB := Lib.hid hb
  clear hxl hyl ha hb
  by_cases hnm : n = m
  · subst hnm
    go_enter Try.func58, Try.ntmps58
    go_wp2
    go_loopw [13] (fun i wr => ∃ k : Nat, k ≤ n ∧ i = .int .i64 k ∧ Hid (xs.take k = ys.take k) ∧ ∃ q, wr = w.drewN q) (fun i _ => n - (intOf i).toNat)
    case atStart => exact ⟨0, Nat.zero_le _, rfl, Lib.hid rfl, 0, rfl⟩
    case round =>
      obtain ⟨k, hk, rfl, hE, q, rfl⟩ := hrel
      by_cases hlt : k < n
      · obtain ⟨b1, o1, rfl, h1, _⟩ := HA.out.int_at hlt
        obtain ⟨b2, o2, rfl, h2, _⟩ := HB.out.int_at hlt
        have hlt1 : (k : Int) < (n : Int) := by omega
        go_wp2
        go_quiet (fail)
        go_wp2
        · have hd : (xs[k] != ys[k]) = true := by assumption
          go_ret
          exact ⟨ret_bool (decide_eq_false (ne_of_get (by assumption) (by assumption) (by simpa using hd))).symm, drew_more _ _ _⟩
        · have hd : (xs[k] != ys[k]) = false := by assumption
          go_roundw
          case rel => exact ⟨k + 1, by omega, by go_num, Lib.hid (take_succ_eq (by assumption) (by assumption) hE.out (by simpa using hd)), _, rfl⟩
          case measure => simp [intOf]; omega
      · go_wp2
        go_ret
        exact ⟨ret_bool (decide_eq_true (eq_of_take HX.out HY.out (by omega) hE.out)).symm, _, rfl⟩
  · go_enter Try.func58, Try.ntmps58
    go_wp2
    go_ret
    exact ⟨ret_bool (decide_eq_false (fun e => hnm (by rw [← HX.out, ← HY.out, e]))).symm, 0, rfl⟩

def newL (m : Int) : Led := { sc := 0, sp := 0, pool := 0, bal := List.replicate (min m 16).toNat 0 }

theorem made_zero (n : Nat) : (madeCells (Value.int .i64 0).cells (n * 1)).toList = (List.replicate n (0 : Int)).map (.int .i64) := by
  rw [Nat.mul_one, List.map_replicate]
  exact toList_madeCells_one _ _

/-- The post of New. -/
def NewPost (w : World) (r : Led) (e : Ending) (w' : World) : Prop :=
  ∃ g, e = .returned (ledV r (some ⟨g, 0, none⟩) r.bal.length r.bal.length) ∧ Row w' 1 (some ⟨g, 0, none⟩) r.bal.length (r.bal.map (.int .i64)) ∧ Below w.heap.size w w'

set_option maxRecDepth 100000 in
set_option maxHeartbeats 800000 in
theorem new_neg (m : Int) (w : World) (hm : m < 0) : Calls Try.prog 40 #[.int .i64 m] w (NewPost w (newL m)) := by
  obtain ⟨i0, hi, hz0, hz1, hz2⟩ := info_parts Try.info2
  have hN : (min m 16).toNat = 0 := by omega
  have HB := Lib.hid (show Below w.heap.size w (w.alloc (.cells #[.int .i64 0, .int .i64 0, .int .i64 0, .slice none 0 0] 50)) from (Below.refl _ _).alloc (Nat.le_refl _) _)
  have HN := Lib.hid hN
  clear hN
  skip
  go_enter Try.func40, Try.ntmps40
  go_wp2_with (at_make; refine wpList_make_full _ rfl (.tmp 5) (.tmp 5) 48 rfl (w.heap.size + 1) 2 i0 (.int .i64 0) 1 Try.underlying48 hi hz0 hz1 .i64 .i64 (0 : Int) (0 : Int) 0 rfl rfl (by omega) (by omega) (by rw [hz2]; omega) (by unfold maxLen; omega) (by simp) ?_; intro w1 o1 g1; simp only [World.size_alloc] at o1; have hb1 := below_of_grown_none g1; have hy := (hb1.block w.heap.size (by simp)).trans (heap_alloc_at (w := w) rfl); obtain ⟨z0, z1, z2, z3⟩ := cells4 hy; obtain ⟨t0, t1, t2, t3⟩ := free4 hy; have HY := Lib.hid hy; have O1 := Lib.hid o1; have HB1 := Lib.hid (HB.out.trans (hb1.mono HB.out.size)); clear o1 g1 hb1 hy)
  rw [made_zero] at O1
  have hrow := Row.of_own O1.out
  have hlen : (newL m).bal.length = 0 := by simp [newL, HN.out]
  have hbal : (newL m).bal = List.replicate (0) 0 := by simp only [newL, HN.out]
  have hbf := below_set4 (p := .int .i64 0) (q := .int .i64 0) (r := .int .i64 0) (s := .slice (some ⟨w.heap.size + 1, 0, none⟩) (0) (0)) (g := w.heap.size) HB1.out (Nat.le_refl _)
  refine bodyPost_row (ty' := 50) (g := w.heap.size) rfl rfl (blk_set4 HY.out) Try.underlying50 rfl (by kernel_rfl) rfl ⟨w.heap.size + 1, ?_, ?_, hbf⟩
  · rw [hlen]; rfl
  · rw [hlen, hbal]
    exact hrow.set4 (fun ad h => by injection h with h; subst h; show w.heap.size + 1 ≠ _; omega)

set_option maxRecDepth 100000 in
set_option maxHeartbeats 800000 in
theorem new_mid (m : Int) (w : World) (hm : 0 ≤ m ∧ m ≤ 16) : Calls Try.prog 40 #[.int .i64 m] w (NewPost w (newL m)) := by
  obtain ⟨i0, hi, hz0, hz1, hz2⟩ := info_parts Try.info2
  have hN : (min m 16).toNat = m.toNat := by omega
  have HB := Lib.hid (show Below w.heap.size w (w.alloc (.cells #[.int .i64 0, .int .i64 0, .int .i64 0, .slice none 0 0] 50)) from (Below.refl _ _).alloc (Nat.le_refl _) _)
  have HN := Lib.hid hN
  clear hN
  obtain ⟨hm1, hm2⟩ := hm
  go_enter Try.func40, Try.ntmps40
  go_wp2_with (at_make; refine wpList_make_full _ rfl (.tmp 5) (.tmp 5) 48 rfl (w.heap.size + 1) 2 i0 (.int .i64 0) 1 Try.underlying48 hi hz0 hz1 .i64 .i64 (m : Int) (m : Int) m.toNat rfl rfl (by omega) (by omega) (by rw [hz2]; omega) (by unfold maxLen; omega) (by simp) ?_; intro w1 o1 g1; simp only [World.size_alloc] at o1; have hb1 := below_of_grown_none g1; have hy := (hb1.block w.heap.size (by simp)).trans (heap_alloc_at (w := w) rfl); obtain ⟨z0, z1, z2, z3⟩ := cells4 hy; obtain ⟨t0, t1, t2, t3⟩ := free4 hy; have HY := Lib.hid hy; have O1 := Lib.hid o1; have HB1 := Lib.hid (HB.out.trans (hb1.mono HB.out.size)); clear o1 g1 hb1 hy)
  rw [made_zero] at O1
  have hrow := Row.of_own O1.out
  have hlen : (newL m).bal.length = m.toNat := by simp [newL, HN.out]
  have hbal : (newL m).bal = List.replicate (m.toNat) 0 := by simp only [newL, HN.out]
  have hbf := below_set4 (p := .int .i64 0) (q := .int .i64 0) (r := .int .i64 0) (s := .slice (some ⟨w.heap.size + 1, 0, none⟩) (m.toNat) (m.toNat)) (g := w.heap.size) HB1.out (Nat.le_refl _)
  refine bodyPost_row (ty' := 50) (g := w.heap.size) rfl rfl (blk_set4 HY.out) Try.underlying50 rfl (by kernel_rfl) rfl ⟨w.heap.size + 1, ?_, ?_, hbf⟩
  · rw [hlen]; rfl
  · rw [hlen, hbal]
    exact hrow.set4 (fun ad h => by injection h with h; subst h; show w.heap.size + 1 ≠ _; omega)

set_option maxRecDepth 100000 in
set_option maxHeartbeats 800000 in
theorem new_big (m : Int) (w : World) (hm : 16 < m) : Calls Try.prog 40 #[.int .i64 m] w (NewPost w (newL m)) := by
  obtain ⟨i0, hi, hz0, hz1, hz2⟩ := info_parts Try.info2
  have hN : (min m 16).toNat = 16 := by omega
  have HB := Lib.hid (show Below w.heap.size w (w.alloc (.cells #[.int .i64 0, .int .i64 0, .int .i64 0, .slice none 0 0] 50)) from (Below.refl _ _).alloc (Nat.le_refl _) _)
  have HN := Lib.hid hN
  clear hN
  skip
  go_enter Try.func40, Try.ntmps40
  go_wp2_with (at_make; refine wpList_make_full _ rfl (.tmp 5) (.tmp 5) 48 rfl (w.heap.size + 1) 2 i0 (.int .i64 0) 1 Try.underlying48 hi hz0 hz1 .i64 .i64 (16 : Int) (16 : Int) 16 rfl rfl (by omega) (by omega) (by rw [hz2]; omega) (by unfold maxLen; omega) (by simp) ?_; intro w1 o1 g1; simp only [World.size_alloc] at o1; have hb1 := below_of_grown_none g1; have hy := (hb1.block w.heap.size (by simp)).trans (heap_alloc_at (w := w) rfl); obtain ⟨z0, z1, z2, z3⟩ := cells4 hy; obtain ⟨t0, t1, t2, t3⟩ := free4 hy; have HY := Lib.hid hy; have O1 := Lib.hid o1; have HB1 := Lib.hid (HB.out.trans (hb1.mono HB.out.size)); clear o1 g1 hb1 hy)
  rw [made_zero] at O1
  have hrow := Row.of_own O1.out
  have hlen : (newL m).bal.length = 16 := by simp [newL, HN.out]
  have hbal : (newL m).bal = List.replicate (16) 0 := by simp only [newL, HN.out]
  have hbf := below_set4 (p := .int .i64 0) (q := .int .i64 0) (r := .int .i64 0) (s := .slice (some ⟨w.heap.size + 1, 0, none⟩) (16) (16)) (g := w.heap.size) HB1.out (Nat.le_refl _)
  refine bodyPost_row (ty' := 50) (g := w.heap.size) rfl rfl (blk_set4 HY.out) Try.underlying50 rfl (by kernel_rfl) rfl ⟨w.heap.size + 1, ?_, ?_, hbf⟩
  · rw [hlen]; rfl
  · rw [hlen, hbal]
    exact hrow.set4 (fun ad h => by injection h with h; subst h; show w.heap.size + 1 ≠ _; omega)

theorem new_any (m : Int) (w : World) : Calls Try.prog 40 #[.int .i64 m] w (NewPost w (newL m)) := by
  rcases Int.lt_or_le 16 m with h | h
  · exact new_big m w h
  · rcases Int.lt_or_le m 0 with h0 | h0
    · exact new_neg m w h0
    · exact new_mid m w ⟨h0, h⟩
end Go.Proofs.Ytkbaddopgdfafaa
