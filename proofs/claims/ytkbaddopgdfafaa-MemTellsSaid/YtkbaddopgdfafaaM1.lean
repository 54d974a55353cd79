import Derived.Test.YtkbaddopgdfafaaT8
namespace Go.Proofs.Ytkbaddopgdfafaa
open Go.RowKit Go.Proofs.Besom

theorem memDo_congr {l l' : List Int} {k i a b : Int} (hl : l.length = l'.length) (hi : l[i.toNat]? = l'[i.toNat]?) :
    (memDo l k i a b).2 = (memDo l' k i a b).2 ∧ (memDo l k i a b).1[i.toNat]? = (memDo l' k i a b).1[i.toNat]? := by
  have hd : l.getD i.toNat 0 = l'.getD i.toNat 0 := getD_of_get? hi
  unfold memDo
  rw [hl, hd]
  split
  · rename_i h
    refine ⟨rfl, ?_⟩
    dsimp only
    split
    · rw [List.getElem?_set_self (by omega), List.getElem?_set_self (by omega)]
    · exact hi
  · exact ⟨rfl, hi⟩

theorem memDo_neg {l : List Int} {k i a b : Int} (h : ¬ (0 ≤ i ∧ i < l.length ∧ 1 ≤ k ∧ k ≤ 4)) : memDo l k i a b = (l, 0, false) := by
  unfold memDo
  rw [if_neg h]

theorem memDo_swap {l : List Int} {k i a b k' i' a' b' : Int} (hne : i ≠ i') :
    (memDo (memDo l k i a b).1 k' i' a' b').2 = (memDo l k' i' a' b').2 := by
  by_cases h0 : 0 ≤ i'
  · exact (memDo_congr (memDo_length _ _ _ _ _) (memDo_other _ _ _ _ _ _ (by omega))).1
  · rw [memDo_neg (fun h => h0 h.1), memDo_neg (fun h => h0 h.1)]

theorem memDo_comm {l : List Int} {k i a b k' i' a' b' : Int} (hne : i ≠ i') :
    (memDo (memDo l k i a b).1 k' i' a' b').1 = (memDo (memDo l k' i' a' b').1 k i a b).1 := by
  apply List.ext_getElem?
  intro j
  by_cases h1 : (j : Int) = i
  · subst h1
    rw [memDo_other _ _ _ _ _ _ hne]
    have := (memDo_congr (k := k) (i := (j : Int)) (a := a) (b := b) (memDo_length l k' i' a' b') (by simpa using memDo_other l k' i' a' b' j hne)).2
    simpa using this.symm
  · by_cases h2 : (j : Int) = i'
    · subst h2
      rw [memDo_other _ _ _ _ _ _ h1]
      have := (memDo_congr (k := k') (i := (j : Int)) (a := a') (b := b') (memDo_length l k i a b) (by simpa using memDo_other l k i a b j h1)).2
      simpa using this
    · rw [memDo_other _ _ _ _ _ _ h1, memDo_other _ _ _ _ _ _ h2, memDo_other _ _ _ _ _ _ h2, memDo_other _ _ _ _ _ _ h1]

theorem all_two {l : List Int} {o p : Deed} (hne : o.2.1 ≠ p.2.1) : ∃ x u v c, memAll l [o, p] = (x, [u, v], c) ∧ memAll l [p, o] = (x, [v, u], c) := by
  have h1 := memDo_swap (l := l) (k := o.1) (a := o.2.2.1) (b := o.2.2.2) (k' := p.1) (a' := p.2.2.1) (b' := p.2.2.2) hne
  have h2 := memDo_swap (l := l) (k := p.1) (a := p.2.2.1) (b := p.2.2.2) (k' := o.1) (a' := o.2.2.1) (b' := o.2.2.2) hne.symm
  have h3 := memDo_comm (l := l) (k := o.1) (a := o.2.2.1) (b := o.2.2.2) (k' := p.1) (a' := p.2.2.1) (b' := p.2.2.2) hne
  have e1 : memAll l [o, p] = ((memDo (memDo l o.1 o.2.1 o.2.2.1 o.2.2.2).1 p.1 p.2.1 p.2.2.1 p.2.2.2).1, [(memDo l o.1 o.2.1 o.2.2.1 o.2.2.2).2.1, (memDo (memDo l o.1 o.2.1 o.2.2.1 o.2.2.2).1 p.1 p.2.1 p.2.2.1 p.2.2.2).2.1], (if (memDo l o.1 o.2.1 o.2.2.1 o.2.2.2).2.2 then 1 else 0) + ((if (memDo (memDo l o.1 o.2.1 o.2.2.1 o.2.2.2).1 p.1 p.2.1 p.2.2.1 p.2.2.2).2.2 then 1 else 0) + 0)) := rfl
  have e2 : memAll l [p, o] = ((memDo (memDo l p.1 p.2.1 p.2.2.1 p.2.2.2).1 o.1 o.2.1 o.2.2.1 o.2.2.2).1, [(memDo l p.1 p.2.1 p.2.2.1 p.2.2.2).2.1, (memDo (memDo l p.1 p.2.1 p.2.2.1 p.2.2.2).1 o.1 o.2.1 o.2.2.1 o.2.2.2).2.1], (if (memDo l p.1 p.2.1 p.2.2.1 p.2.2.2).2.2 then 1 else 0) + ((if (memDo (memDo l p.1 p.2.1 p.2.2.1 p.2.2.2).1 o.1 o.2.1 o.2.2.1 o.2.2.2).2.2 then 1 else 0) + 0)) := rfl
  rw [h1] at e1
  rw [h2, ← h3] at e2
  refine ⟨_, _, _, _, e1, e2.trans ?_⟩
  congr 2
  omega

set_option maxRecDepth 100000 in
set_option maxHeartbeats 800000 in
theorem apart_any (A : Option Addr) (n c : Nat) (k i a b k' i' a' b' : Int) (xs : List Int) (w : World) (hr : Row w 1 A n (xs.map (.int .u64))) (hn : n * 8 ≤ 140737488351232) :
    Calls Try.prog 8 #[.slice A n c, .agg #[.int .i64 k, .int .i64 i, .int .u64 a, .int .u64 b], .agg #[.int .i64 k', .int .i64 i', .int .u64 a', .int .u64 b']] w fun e w' => e = .returned (.bool true) ∧ Below w.heap.size w w' := by
  have hbx : Below w.heap.size w ((w.alloc (opBlk k i a b)).alloc (opBlk k' i' a' b')) := ((Below.refl _ _).alloc (Nat.le_refl _) _).alloc (by simp) _
  have HR := Lib.hid hr
  have HBX := Lib.hid hbx
  clear hr hbx
  by_cases hii : i = i'
  · subst hii
    go_enter Try.func8, Try.ntmps8
    go_wp2_with fail
    refine (examples_any _).mono ?_
    rintro e w1 ⟨rfl, b1⟩
    have HB1 := Lib.hid (HBX.out.trans (b1.mono HBX.out.size))
    have hc1 : w1.heap[w.heap.size]? = some (opBlk k i a b) := (b1.block _ (by simp; omega)).trans ((Below.heap_alloc _ _ _ (by simp)).trans (heap_alloc_at rfl))
    have hc2 : w1.heap[w.heap.size + 1]? = some (opBlk k' i a' b') := (b1.block _ (by simp)).trans (heap_alloc_at (by simp))
    obtain ⟨q0, q1, q2, q3⟩ := cells4 hc1
    obtain ⟨r0, r1, r2, r3⟩ := cells4 hc2
    clear b1 hc1 hc2
    go_wp2_with fail
    go_ret
    exact ⟨rfl, HB1.out⟩
  · have hi1 : (i == i') = false := by simpa using hii
    have d := fun (w' : World) (B : Option Addr) (o p : Deed) (hr : Row w' 1 A n (xs.map (.int .u64))) (hb : Row w' 4 B 2 ([o, p].flatMap opCells)) => all_any A B n 2 c 2 xs [o, p] w' hr hn hb (by decide)
    obtain ⟨x, u, v, cc, e1, e2⟩ := all_two (l := xs) (o := (k, i, a, b)) (p := (k', i', a', b')) hii
    have d1 := fun (w' : World) (B : Option Addr) => d w' B (k, i, a, b) (k', i', a', b')
    have d2 := fun (w' : World) (B : Option Addr) => d w' B (k', i', a', b') (k, i, a, b)
    rw [e1] at d1
    rw [e2] at d2
    have D1 := Lib.hid d1
    have D2 := Lib.hid d2
    clear d d1 d2 e1 e2 hii
    go_enter Try.func8, Try.ntmps8
    go_wp2_with fail
    refine (examples_any _).mono ?_
    rintro e w1 ⟨rfl, b1⟩
    have HB1 := Lib.hid (HBX.out.trans (b1.mono HBX.out.size))
    have hc1 : w1.heap[w.heap.size]? = some (opBlk k i a b) := (b1.block _ (by simp; omega)).trans ((Below.heap_alloc _ _ _ (by simp)).trans (heap_alloc_at rfl))
    have hc2 : w1.heap[w.heap.size + 1]? = some (opBlk k' i' a' b') := (b1.block _ (by simp)).trans (heap_alloc_at (by simp))
    obtain ⟨q0, q1, q2, q3⟩ := cells4 hc1
    obtain ⟨r0, r1, r2, r3⟩ := cells4 hc2
    have hs1 : w.heap.size + 1 < w1.heap.size := by have := b1.size; simp at this; omega
    have HC1 := Lib.hid hc1
    have HC2 := Lib.hid hc2
    clear b1 hc1 hc2
    go_wp2_with fail
    have bl : Below w1.heap.size w1 (w1.alloc (.cells #[.int .i64 k, .int .i64 i, .int .u64 a, .int .u64 b, .int .i64 k', .int .i64 i', .int .u64 a', .int .u64 b'] 26)) := (Below.refl _ _).alloc (Nat.le_refl _) _
    have BL := Lib.hid bl
    clear bl
    refine (D1.out _ _ ((HR.out.below HB1.out).below BL.out) (row_lit w1 _ 26 4 2 rfl rfl)).mono ?_
    rintro e w2 ⟨A2, c2, v2, rfl, h2, o2, b2⟩
    obtain ⟨g2, cap2, rfl, -, -⟩ := own_form o2 (by decide)
    have b12 : Below w1.heap.size w1 w2 := BL.out.trans (b2.mono BL.out.size)
    have HB2 := Lib.hid (HB1.out.trans (b12.mono HB1.out.size))
    have H2 := Lib.hid h2
    have O2 := Lib.hid (Row.of_own o2)
    obtain ⟨q0', q1', q2', q3'⟩ := cells4 ((b12.block _ (by omega)).trans HC1.out)
    obtain ⟨r0', r1', r2', r3'⟩ := cells4 ((b12.block _ hs1).trans HC2.out)
    clear q0 q1 q2 q3 r0 r1 r2 r3 h2 o2 b2 b12
    go_wp2_with fail
    have bl : Below w2.heap.size w2 (w2.alloc (.cells #[.int .i64 k', .int .i64 i', .int .u64 a', .int .u64 b', .int .i64 k, .int .i64 i, .int .u64 a, .int .u64 b] 26)) := (Below.refl _ _).alloc (Nat.le_refl _) _
    have BL2 := Lib.hid bl
    clear bl
    refine (D2.out _ _ ((HR.out.below HB2.out).below BL2.out) (row_lit w2 _ 26 4 2 rfl rfl)).mono ?_
    rintro e w3 ⟨A3, c3, v3, rfl, h3, o3, b3⟩
    obtain ⟨g3, cap3, rfl, -, -⟩ := own_form o3 (by decide)
    have b23 : Below w2.heap.size w2 w3 := BL2.out.trans (b3.mono BL2.out.size)
    have HB3 := Lib.hid (HB2.out.trans (b23.mono HB2.out.size))
    obtain ⟨_, _, e4, p1, -⟩ := (O2.out.below b23).int_at (k := 0) (by decide)
    obtain ⟨_, _, e5, p2, -⟩ := (O2.out.below b23).int_at (k := 1) (by decide)
    obtain ⟨_, _, e6, p3, -⟩ := (Row.of_own o3).int_at (k := 0) (by decide)
    obtain ⟨_, _, e7, p4, -⟩ := (Row.of_own o3).int_at (k := 1) (by decide)
    cases e4; cases e5; cases e6; cases e7
    have hs := fun q => same_any A2 A3 n n c2 c3 x x (w3.drewN q) (by omega) (by omega) ((H2.out.below b23).below (below_drewN (Below.refl _ _) q)) (h3.below (below_drewN (Below.refl _ _) q))
    have HS := Lib.hid hs
    clear hs h3 o3 b3 b23 q0' q1' q2' q3' r0' r1' r2' r3'
    simp at p1 p2 p3 p4
    go_wp2_with fail
    go_quiet ((go_at_call 23; exact Calls.quiet_of (HS.out _)))
    go_wp2_with fail
    go_ret
    exact ⟨rfl, below_drewN HB3.out _⟩
end Go.Proofs.Ytkbaddopgdfafaa
