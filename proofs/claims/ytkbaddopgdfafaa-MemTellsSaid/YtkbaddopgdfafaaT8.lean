import Derived.Test.YtkbaddopgdfafaaT7
namespace Go.Proofs.Ytkbaddopgdfafaa
open Go.RowKit Go.Proofs.Besom

theorem memDo_other (l : List Int) (k i a b : Int) (j : Nat) (hj : (j : Int) ≠ i) : (memDo l k i a b).1[j]? = l[j]? := by
  unfold memDo
  split
  · rename_i h
    dsimp only
    split
    · rw [List.getElem?_set_ne]; omega
    · rfl
  · rfl

theorem getD_of_get? {l l' : List Int} {j : Nat} (h : l[j]? = l'[j]?) : l.getD j 0 = l'.getD j 0 := by simp [List.getD_eq_getElem?_getD, h]

set_option maxRecDepth 100000 in
set_option maxHeartbeats 800000 in
theorem one_any (A : Option Addr) (n c : Nat) (k i a b : Int) (xs : List Int) (w : World) (hr : Row w 1 A n (xs.map (.int .u64))) (hn : n * 8 ≤ 140737488351232) :
    Calls Try.prog 4 #[.slice A n c, .agg #[.int .i64 k, .int .i64 i, .int .u64 a, .int .u64 b]] w fun e w' => e = .returned (.bool true) ∧ Below w.heap.size w w' := by
  obtain ⟨i0, hi, hz0, hz1, hz2⟩ := info_parts Try.info24
  have hxl : xs.length = n := by simpa using hr.1
  have hbx : Below w.heap.size w (w.alloc (opBlk k i a b)) := (Below.refl _ _).alloc (Nat.le_refl _) _
  have hd := fun w' hr' => do_any A n c k i a b xs w' hr' hn
  have hoth := memDo_other xs k i a b
  have hml := memDo_length xs k i a b
  generalize hres : memDo xs k i a b = res at hd hoth hml
  obtain ⟨r1, r2, r3⟩ := res
  have HX := Lib.hid hxl
  have HD := Lib.hid hd
  have HR := Lib.hid hr
  have HBX := Lib.hid hbx
  have HOT := Lib.hid hoth
  have HML := Lib.hid hml
  have HRES := Lib.hid hres
  clear hxl hd hr hbx hoth hml hres
  go_enter Try.func4, Try.ntmps4
  go_wp2_with fail
  refine (examples_any _).mono ?_
  rintro e w1 ⟨rfl, b1⟩
  have HB1 := Lib.hid (HBX.out.trans (b1.mono HBX.out.size))
  have hcell : w1.heap[w.heap.size]? = some (opBlk k i a b) := (b1.block _ (by simp)).trans (heap_alloc_at rfl)
  have HC := Lib.hid hcell
  clear b1 hcell
  go_wp2_with (at_builtin; refine wpList_append_row _ rfl (.const (.slice none 0 0)) (.tmp 15) 23 rfl w1.heap.size 24 i0 (.int .u64 0) 1 8 Try.underlying23 hi hz0 hz1 hz2 rfl (by decide) (.slice none 0 0) 0 [] rfl (World.ownsRow_nil _ _ _ _) A n c (xs.map (.int .u64)) rfl (HR.out.below HB1.out) (ints_oneCell .u64 xs) (by unfold maxLen; omega) (by omega) (Nat.le_refl _) ?_; intro vw w2 hown hg hat; have hb2 := below_of_nil hg; obtain ⟨q0, q1, q2, q3⟩ := cells4 ((hb2.block _ (lt_of_block HC.out)).trans HC.out); obtain ⟨Aw, cw, rfl, hrw⟩ := own_row hown; have HRW := Lib.hid hrw; have HB2 := Lib.hid hb2; clear hown hg hat hb2 hrw)
  refine (HD.out _ ((HR.out.below HB1.out).below HB2.out)).mono ?_
  rintro e w3 ⟨A3, c3, rfl, hr3, hb3, -⟩
  have HR3 := Lib.hid hr3
  have HB3 := Lib.hid hb3
  clear hr3 hb3
  have HBW := Lib.hid ((HB1.out.trans (HB2.out.mono HB1.out.size)).trans (HB3.out.mono (HB1.out.trans (HB2.out.mono HB1.out.size)).size))
  obtain ⟨p0, p1, p2, p3⟩ := cells4 ((HB3.out.block _ (by have := HB2.out.size; have := lt_of_block HC.out; omega)).trans ((HB2.out.block _ (lt_of_block HC.out)).trans HC.out))
  clear q0 q1 q2 q3
  have hrw3 : Row w3 1 Aw n (xs.map (.int .u64)) := by
    have := HRW.out.below HB3.out
    simpa using this
  have HRW3 := Lib.hid hrw3
  clear hrw3
  go_wp2_with fail
  refine (same_any A Aw n n c cw xs xs _ (by omega) (by omega) (((HR.out.below HB1.out).below HB2.out).below HB3.out) HRW3.out).mono ?_
  rintro e w' ⟨rfl, q, rfl⟩
  go_wp2_with fail
  go_loopw [10] (fun j wr => ∃ t : Nat, t ≤ n ∧ j = .int .i64 t ∧ ∃ q, wr = w3.drewN q) (fun j _ => n - (intOf j).toNat)
  case atStart => exact ⟨0, Nat.zero_le _, rfl, _, rfl⟩
  case round =>
    obtain ⟨t, ht, rfl, q', rfl⟩ := hrel
    have HB4 := Lib.hid (below_drewN HBW.out q')
    by_cases hlt : t < n
    · obtain ⟨b1, o1, rfl, h1, hl1⟩ := (((HR.out.below HB1.out).below HB2.out).below HB3.out).int_at hlt
      obtain ⟨b2, o2, rfl, h2, hl2⟩ := HR3.out.int_at hlt
      have hlt1 : (t : Int) < (n : Int) := by omega
      by_cases hti : (t : Int) = i
      · have hti1 : ((t : Int) != i) = false := by simpa using hti
        clear hti hl1 hl2 h1 h2
        go_wp2_with fail
        go_quiet (fail)
        go_wp2_with fail
        go_roundw
        case rel => exact ⟨t + 1, by omega, by go_num, _, rfl⟩
        case measure => simp [intOf]; omega
      · have hti1 : ((t : Int) != i) = true := by simpa using hti
        rw [getD_of_get? (HOT.out t hti)] at h2
        clear hti hl2
        go_wp2_with fail
        go_quiet (fail)
        go_wp2_with fail
        go_roundw
        case rel => exact ⟨t + 1, by omega, by go_num, _, rfl⟩
        case measure => simp [intOf]; omega
    · have HR4 := Lib.hid ((((HR.out.below HB1.out).below HB2.out).below HB3.out).below (below_drewN (Below.refl _ _) q'))
      have HR5 := Lib.hid (HR3.out.below (below_drewN (Below.refl _ _) q'))
      by_cases hth : 0 ≤ i ∧ i < n ∧ 1 ≤ k ∧ k ≤ 4
      · obtain ⟨hi0, hin, hk1, hk4⟩ := hth
        obtain ⟨j, rfl⟩ := Int.eq_ofNat_of_zero_le hi0
        have hjn : j < n := by omega
        have hjl : j < xs.length := by rw [HX.out]; omega
        have hm := HRES.out
        rw [memDo_in hjl hk1 hk4] at hm
        obtain ⟨b1, o1, rfl, h1, -⟩ := HR4.out.int_at hjn
        have hk : k = 1 ∨ k = 2 ∨ k = 3 ∨ k = 4 := by omega
        rcases hk with rfl | rfl | rfl | rfl
        · simp [memNext] at hm
          obtain ⟨rfl, rfl, rfl⟩ := hm
          go_wp2_with fail
          refine (same_any A3 _ n n c3 c xs xs _ (by omega) (by omega) HR5.out HR4.out).mono ?_
          rintro e w' ⟨rfl, q2, rfl⟩
          go_wp2_with fail
          go_ret
          exact ⟨rfl, below_drewN HBW.out _⟩
        · simp [memNext] at hm
          obtain ⟨-, rfl, rfl⟩ := hm
          go_wp2_with fail
          go_ret
          exact ⟨rfl, HB4.out⟩
        · simp [memNext] at hm
          obtain ⟨-, rfl, -⟩ := hm
          cases r3
          all_goals
            go_wp2_with fail
            go_ret
            exact ⟨rfl, HB4.out⟩
        · simp [memNext] at hm
          obtain ⟨-, rfl, rfl⟩ := hm
          go_wp2_with fail
          go_ret
          exact ⟨rfl, HB4.out⟩
      · have hm := HRES.out
        unfold memDo at hm
        rw [HX.out, if_neg hth] at hm
        simp only [Prod.mk.injEq] at hm
        obtain ⟨rfl, rfl, rfl⟩ := hm
        have hcs : i < 0 ∨ (0 ≤ i ∧ (n : Int) ≤ i) ∨ (0 ≤ i ∧ i < n ∧ k < 1) ∨ (0 ≤ i ∧ i < n ∧ 1 ≤ k ∧ decide (k ≤ 4) = false) := by
          simp only [decide_eq_false_iff_not]
          omega
        clear hth
        rcases hcs with g1 | ⟨g1, g2⟩ | ⟨g1, g2, g3⟩ | ⟨g1, g2, g3, g4⟩
        all_goals
          go_wp2_with fail
          refine (same_any A3 _ n n c3 c xs xs _ (by omega) (by omega) HR5.out HR4.out).mono ?_
          rintro e w' ⟨rfl, q2, rfl⟩
          go_wp2_with fail
          go_ret
          exact ⟨rfl, below_drewN HBW.out _⟩
end Go.Proofs.Ytkbaddopgdfafaa
