import Derived.Test.YtkbaddopgdfafabKR4
namespace Go.Proofs.Ytkbaddopgdfafab
open Go.RowKit Go.Proofs.Besom

set_option maxRecDepth 100000 in
set_option maxHeartbeats 6400000 in
theorem rround24 (n m : Int) (w : World) : Calls Try.prog 24 #[.int .i64 n, .int .i64 m] w fun e w' =>
    ∃ v, e = .returned v ∧ w'.ownsRow w.heap.size 34 2 v (roundL n m).length (picksV (roundL n m)) ∧ Below w.heap.size w w' := by
  obtain ⟨i0, hi, hz0, hz1, hz2⟩ := info_parts Try.info34
  have hfw : ∀ n : Int, few n ≤ 16 := fun n => by unfold few; omega
  have hfe : ∀ n : Int, (few n : Int) = max (min n 16) 0 := fun n => by unfold few; omega
  have HFW := Lib.hid hfw
  have HFE := Lib.hid hfe
  have HB := Lib.hid ((Below.refl w.heap.size w).alloc (Nat.le_refl _) (.cells #[.int .i64 0, .int .i64 0] 34))
  clear hfw hfe
  go_enter Try.func24, Try.ntmps24
  go_wp2_with fail
  go_loopw [5, 6] (fun v i wr => ∃ (k : Nat) (v0 : Value), k ≤ few n ∧ v0 = v ∧ i = .int .i64 ((k : Int) + 1) ∧ Hid (wr.ownsRow w.heap.size 34 2 v (1 + k) (picksV ((0, 0) :: workers k))) ∧ Hid (Below w.heap.size w wr)) (fun _ i _ => (17 - intOf i).toNat)
  case atStart => exact ⟨0, _, by omega, rfl, rfl, Lib.hid (own2_of_blk (heap_alloc_at rfl) (Nat.le_refl _)), HB⟩
  case round =>
    obtain ⟨k, v, hk, rfl, rfl, O, HBE⟩ := hrel
    have hn16 : few n ≤ 16 := HFW.out n
    have hne : (few n : Int) = max (min n 16) 0 := HFE.out n
    by_cases hlt : k < few n
    · have hlt1 : (k : Int) + 1 ≤ n := by omega
      have hlt2 : (k : Int) + 1 ≤ 16 := by omega
      clear hne
      go_wp2_with (at_builtin; refine wpList_append_row _ rfl (.tmp 19) (.tmp 22) 27 rfl w.heap.size 34 i0 _ 2 16 Try.underlying27 hi hz0 hz1 hz2 rfl (by decide) v (1 + k) _ rfl (O.out.alloc _) (some ⟨wr.heap.size, 0, none⟩) 1 1 [.int .i64 1, .int .i64 ((k : Int) + 1)] rfl (row_lit wr #[.int .i64 1, .int .i64 ((k : Int) + 1)] 34 2 1 rfl rfl) (by simp [Value.oneCell']) (by unfold maxLen; omega) (by omega) (by have := HBE.out.size; simp; omega) ?_; intro v6 w6 o6 g6 at6)
      have hbel6 := (HBE.out.alloc HBE.out.size (.cells #[.int .i64 1, .int .i64 ((k : Int) + 1)] 34)).grown g6 (by have := HBE.out.size; simp; omega) (fun g hg => (O.out.lt g hg).1)
      have e6 : picksV ((0, 0) :: workers (k + 1)) = picksV ((0, 0) :: workers k) ++ [.int .i64 1, .int .i64 ((k : Int) + 1)] := by
        rw [workers_succ]; simp [picksV]
      go_roundw
      case rel => exact ⟨k + 1, _, by omega, rfl, by go_num, Lib.hid (by rw [e6]; exact o6), Lib.hid hbel6⟩
      case measure => simp [intOf]; omega
    · have hke : k = few n := by omega
      have hcase : ¬ (k : Int) + 1 ≤ n ∨ ((k : Int) + 1 ≤ n ∧ ¬ (k : Int) + 1 ≤ 16) := by omega
      subst hke
      clear hne
      rcases hcase with hx | ⟨hx, hx'⟩
      all_goals
        go_wp2_with fail
        go_loopw [5, 7] (fun v i wr => ∃ (k : Nat) (v0 : Value), k ≤ few m ∧ v0 = v ∧ i = .int .i64 ((k : Int) + 1) ∧ Hid (wr.ownsRow w.heap.size 34 2 v (1 + few n + k) (picksV ((0, 0) :: (workers (few n) ++ mutators k)))) ∧ Hid (Below w.heap.size w wr)) (fun _ i _ => (17 - intOf i).toNat)
        case atStart => exact ⟨0, _, by omega, rfl, rfl, by simpa [mutators] using O, HBE⟩
        case round =>
          obtain ⟨k, v, hk, rfl, rfl, O, HBE⟩ := hrel
          have hm16 : few m ≤ 16 := HFW.out m
          have hme : (few m : Int) = max (min m 16) 0 := HFE.out m
          by_cases hlt : k < few m
          · have hlt1 : (k : Int) + 1 ≤ m := by omega
            have hlt2 : (k : Int) + 1 ≤ 16 := by omega
            clear hme
            go_wp2_with (at_builtin; refine wpList_append_row _ rfl (.tmp 33) (.tmp 36) 27 rfl w.heap.size 34 i0 _ 2 16 Try.underlying27 hi hz0 hz1 hz2 rfl (by decide) v (1 + few n + k) _ rfl (O.out.alloc _) (some ⟨wr.heap.size, 0, none⟩) 1 1 [.int .i64 2, .int .i64 ((k : Int) + 1)] rfl (row_lit wr #[.int .i64 2, .int .i64 ((k : Int) + 1)] 34 2 1 rfl rfl) (by simp [Value.oneCell']) (by unfold maxLen; omega) (by omega) (by have := HBE.out.size; simp; omega) ?_; intro v6 w6 o6 g6 at6)
            have hbel6 := (HBE.out.alloc HBE.out.size (.cells #[.int .i64 2, .int .i64 ((k : Int) + 1)] 34)).grown g6 (by have := HBE.out.size; simp; omega) (fun g hg => (O.out.lt g hg).1)
            have e6 : picksV ((0, 0) :: (workers (few n) ++ mutators (k + 1))) = picksV ((0, 0) :: (workers (few n) ++ mutators k)) ++ [.int .i64 2, .int .i64 ((k : Int) + 1)] := by
              rw [mutators_succ]; simp [picksV]
            go_roundw
            case rel => exact ⟨k + 1, _, by omega, rfl, by go_num, Lib.hid (by rw [e6]; exact o6), Lib.hid hbel6⟩
            case measure => simp [intOf]; omega
          · have hke : k = few m := by omega
            have hcase : ¬ (k : Int) + 1 ≤ m ∨ ((k : Int) + 1 ≤ m ∧ ¬ (k : Int) + 1 ≤ 16) := by omega
            subst hke
            clear hme
            rcases hcase with hy | ⟨hy, hy'⟩
            all_goals
              go_wp2_with fail
              go_ret
              exact ⟨_, rfl, by have h := O.out; rwa [show (roundL n m).length = 1 + few n + few m by simp [roundL, workers_len, mutators_len]; omega], HBE.out⟩

set_option maxRecDepth 100000 in
set_option maxHeartbeats 3200000 in
theorem rknown20 (n m : Int) (A : Option Addr) (len cap : Nat) (ps : List (Int × Int)) (w : World) (hr : Row w 2 A len (picksV ps)) (hn : len * 16 ≤ 140737488351232) :
    Calls Try.prog 20 #[.slice A len cap, .int .i64 n, .int .i64 m] w (SamePost w (knownL n m ps)) := by
  have hl : ps.length = len := by have := hr.1; rw [picksV_len] at this; omega
  have HR := Lib.hid hr
  have HL := Lib.hid hl
  clear hr hl
  go_enter Try.func20, Try.ntmps20
  go_wp2_with fail
  go_loopw [7] (fun i wr => ∃ k : Nat, k ≤ len ∧ i = .int .i64 k ∧ Hid ((ps.take k).any (strangeP n m) = false) ∧ Hid (Below w.heap.size w wr)) (fun i _ => len - (intOf i).toNat)
  case atStart => exact ⟨0, Nat.zero_le _, rfl, Lib.hid (by simp), Lib.hid (Below.refl _ _)⟩
  case round =>
    obtain ⟨k, hk, rfl, hno, HB⟩ := hrel
    by_cases hlt : k < len
    · have hlt' : (k : Int) < (len : Int) := by omega
      obtain ⟨b1, o1, hkl, rfl, c0, c1⟩ := picks_at (HR.out.below HB.out) hlt
      have HC := Lib.hid (And.intro c0 c1)
      have HK := Lib.hid (fun w' => right14 ps[k] w')
      have hstr : strangeP n m ps[k] = (!rightP ps[k] || (ps[k].1 == 1 && decide (n < ps[k].2)) || (ps[k].1 == 2 && decide (m < ps[k].2))) := rfl
      have HY := Lib.hid (fun h : strangeP n m ps[k] = true => show knownL n m ps = false by
        unfold knownL; rw [List.any_eq_true.2 ⟨ps[k], List.getElem_mem hkl, h⟩]; rfl)
      have HN := Lib.hid (fun h : strangeP n m ps[k] = false => any_take_succ hkl hno.out h)
      have hrc := @right_cases ps[k]
      generalize ps[k] = p at *
      clear hkl
      obtain ⟨p1, p2⟩ := p
      dsimp only at c0 c1 hstr hrc
      cases hrp : rightP (p1, p2)
      · have HT := Lib.hid (HY.out (by rw [hstr, hrp]; rfl))
        rw [hrp] at HK
        clear hrc hstr hrp
        go_wp2_with fail
        ((with_reducible refine (HK.out _).mono ?_))
        rintro e w1 ⟨rfl, b1⟩
        have HB1 := Lib.hid (HB.out.trans (b1.mono HB.out.size))
        clear b1
        go_wp2_with fail
        go_ret
        exact ⟨ret_bool HT.out.symm, HB1.out⟩
      · rw [hrp] at HK
        have hcs := hrc hrp
        rw [hrp] at hstr
        clear hrc hrp
        rcases (show (p1 = 0) ∨ (p1 = 1 ∧ n < p2) ∨ (p1 = 1 ∧ p2 ≤ n) ∨ (p1 = 2 ∧ m < p2) ∨ (p1 = 2 ∧ p2 ≤ m) by omega) with rfl | ⟨rfl, g⟩ | ⟨rfl, g⟩ | ⟨rfl, g⟩ | ⟨rfl, g⟩
        · have HS := Lib.hid (HN.out (by rw [hstr]; simp))
          clear hstr hcs
          go_wp2_with fail
          ((with_reducible refine (HK.out _).mono ?_))
          rintro e w1 ⟨rfl, b1⟩
          have HB1 := Lib.hid (HB.out.trans (b1.mono HB.out.size))
          obtain ⟨d0, d1⟩ := (⟨(b1.cell (World.block_lt_of_cell? wr _ HC.out.1)).trans HC.out.1, (b1.cell (World.block_lt_of_cell? wr _ HC.out.2)).trans HC.out.2⟩ : _ ∧ _)
          clear b1
          go_wp2_with fail
          go_roundw
          case rel => exact ⟨k + 1, by omega, by go_num, HS, HB1⟩
          case measure => simp [intOf]; omega
        · have HT := Lib.hid (HY.out (by rw [hstr]; simp; omega))
          clear hstr hcs
          go_wp2_with fail
          ((with_reducible refine (HK.out _).mono ?_))
          rintro e w1 ⟨rfl, b1⟩
          have HB1 := Lib.hid (HB.out.trans (b1.mono HB.out.size))
          obtain ⟨d0, d1⟩ := (⟨(b1.cell (World.block_lt_of_cell? wr _ HC.out.1)).trans HC.out.1, (b1.cell (World.block_lt_of_cell? wr _ HC.out.2)).trans HC.out.2⟩ : _ ∧ _)
          clear b1
          go_wp2_with fail
          go_ret
          exact ⟨ret_bool HT.out.symm, HB1.out⟩
        · have HS := Lib.hid (HN.out (by rw [hstr]; simp; omega))
          have g' : ¬ n < p2 := by omega
          clear hstr hcs
          go_wp2_with fail
          ((with_reducible refine (HK.out _).mono ?_))
          rintro e w1 ⟨rfl, b1⟩
          have HB1 := Lib.hid (HB.out.trans (b1.mono HB.out.size))
          obtain ⟨d0, d1⟩ := (⟨(b1.cell (World.block_lt_of_cell? wr _ HC.out.1)).trans HC.out.1, (b1.cell (World.block_lt_of_cell? wr _ HC.out.2)).trans HC.out.2⟩ : _ ∧ _)
          clear b1
          go_wp2_with fail
          go_roundw
          case rel => exact ⟨k + 1, by omega, by go_num, HS, HB1⟩
          case measure => simp [intOf]; omega
        · have HT := Lib.hid (HY.out (by rw [hstr]; simp; omega))
          clear hstr hcs
          go_wp2_with fail
          ((with_reducible refine (HK.out _).mono ?_))
          rintro e w1 ⟨rfl, b1⟩
          have HB1 := Lib.hid (HB.out.trans (b1.mono HB.out.size))
          obtain ⟨d0, d1⟩ := (⟨(b1.cell (World.block_lt_of_cell? wr _ HC.out.1)).trans HC.out.1, (b1.cell (World.block_lt_of_cell? wr _ HC.out.2)).trans HC.out.2⟩ : _ ∧ _)
          clear b1
          go_wp2_with fail
          go_ret
          exact ⟨ret_bool HT.out.symm, HB1.out⟩
        · have HS := Lib.hid (HN.out (by rw [hstr]; simp; omega))
          have g' : ¬ m < p2 := by omega
          clear hstr hcs
          go_wp2_with fail
          ((with_reducible refine (HK.out _).mono ?_))
          rintro e w1 ⟨rfl, b1⟩
          have HB1 := Lib.hid (HB.out.trans (b1.mono HB.out.size))
          obtain ⟨d0, d1⟩ := (⟨(b1.cell (World.block_lt_of_cell? wr _ HC.out.1)).trans HC.out.1, (b1.cell (World.block_lt_of_cell? wr _ HC.out.2)).trans HC.out.2⟩ : _ ∧ _)
          clear b1
          go_wp2_with fail
          go_roundw
          case rel => exact ⟨k + 1, by omega, by go_num, HS, HB1⟩
          case measure => simp [intOf]; omega
    · have hkn : k = len := by omega
      have HT := Lib.hid (show knownL n m ps = true by
        have h := hno.out
        rw [List.take_of_length_le (by have := HL.out; omega)] at h
        unfold knownL; rw [h]; rfl)
      subst hkn
      go_wp2_with fail
      go_ret
      exact ⟨ret_bool HT.out.symm, HB.out⟩
end Go.Proofs.Ytkbaddopgdfafab
