import Derived.Test.YtkbaddopgdfafabKR2
namespace Go.Proofs.Ytkbaddopgdfafab
open Go.RowKit Go.Proofs.Besom

def allB (n m : Int) (ps : List (Int × Int)) : Bool := decide (n ≤ 16 ∧ m ≤ 16 ∧ ∀ p ∈ roundL n m, p ∈ ps)
theorem has_is {q : Int × Int} {ps : List (Int × Int)} {b : Bool} (h : decide (q ∈ ps) = b) {A : Option Addr} {n : Nat} (c : Nat) {w : World} (hr : Row w 2 A n (picksV ps)) (hn : n * 16 ≤ 140737488351232) :
    Calls Try.prog 35 #[.slice A n c, pickV q] w fun e w' => e = .returned (.bool b) ∧ Below w.heap.size w w' := by
  have := has35 ps q A n c w hr hn
  unfold SamePost at this
  rwa [h] at this

theorem all_no {n m : Int} {ps : List (Int × Int)} {q : Int × Int} (h1 : q ∈ roundL n m) (h2 : q ∉ ps) : allB n m ps = false := by
  unfold allB
  exact decide_eq_false (fun h => h2 (h.2.2 q h1))
theorem all_yes {n m : Int} {ps : List (Int × Int)} (h0 : (0, 0) ∈ ps) (hn : n ≤ 16) (hm : m ≤ 16) (h1 : ∀ j : Nat, j < few n → ((1 : Int), (j : Int) + 1) ∈ ps) (h2 : ∀ j : Nat, j < few m → ((2 : Int), (j : Int) + 1) ∈ ps) : allB n m ps = true := by
  unfold allB
  refine decide_eq_true ⟨hn, hm, fun p hp => ?_⟩
  simp only [roundL, workers, mutators, List.mem_cons, List.mem_append, List.mem_map, List.mem_range] at hp
  rcases hp with rfl | ⟨j, hj, rfl⟩ | ⟨j, hj, rfl⟩
  · exact h0
  · exact h1 j hj
  · exact h2 j hj
theorem mem_w {n m : Int} {j : Nat} (h : j < few n) : ((1 : Int), (j : Int) + 1) ∈ roundL n m := by
  simp only [roundL, workers, List.mem_cons, List.mem_append, List.mem_map, List.mem_range]
  exact .inr (.inl ⟨j, h, rfl⟩)
theorem mem_m {n m : Int} {j : Nat} (h : j < few m) : ((2 : Int), (j : Int) + 1) ∈ roundL n m := by
  simp only [roundL, mutators, List.mem_cons, List.mem_append, List.mem_map, List.mem_range]
  exact .inr (.inr ⟨j, h, rfl⟩)

set_option maxRecDepth 100000 in
set_option maxHeartbeats 3200000 in
theorem all33 (n m : Int) (ps : List (Int × Int)) (A : Option Addr) (len c : Nat) (w : World) (hr : Row w 2 A len (picksV ps)) (hn : len * 16 ≤ 140737488351232) :
    Calls Try.prog 33 #[.slice A len c, .int .i64 n, .int .i64 m] w (SamePost w (allB n m ps)) := by
  have HR := Lib.hid hr
  clear hr
  by_cases h0 : (0, 0) ∈ ps
  · have H0 := Lib.hid (show decide ((0, 0) ∈ ps) = true from decide_eq_true h0)
    have HH := Lib.hid h0
    clear h0
    rcases (show 16 < n ∨ (n ≤ 16 ∧ 16 < m) ∨ (n ≤ 16 ∧ m ≤ 16) by omega) with h | ⟨h, h'⟩ | ⟨h, h'⟩
    · have HT := Lib.hid (show false = allB n m ps from (decide_eq_false (fun x => by have := x.1; omega)).symm)
      go_enter Try.func33, Try.ntmps33
      go_wp2_with fail
      ((with_reducible refine (has_is (q := (0, 0)) H0.out _ HR.out hn).mono ?_))
      rintro e w1 ⟨rfl, b1⟩
      have HB1 := Lib.hid b1
      clear b1
      go_wp2_with fail
      go_ret
      exact ⟨ret_bool HT.out, HB1.out⟩
    · have HT := Lib.hid (show false = allB n m ps from (decide_eq_false (fun x => by have := x.2.1; omega)).symm)
      go_enter Try.func33, Try.ntmps33
      go_wp2_with fail
      ((with_reducible refine (has_is (q := (0, 0)) H0.out _ HR.out hn).mono ?_))
      rintro e w1 ⟨rfl, b1⟩
      have HB1 := Lib.hid b1
      clear b1
      go_wp2_with fail
      go_ret
      exact ⟨ret_bool HT.out, HB1.out⟩
    · have HF := Lib.hid (fun j h2 h3 => @all_no n m ps j h2 h3)
      go_enter Try.func33, Try.ntmps33
      go_wp2_with fail
      ((with_reducible refine (has_is (q := (0, 0)) H0.out _ HR.out hn).mono ?_))
      rintro e w1 ⟨rfl, b1⟩
      have HB1 := Lib.hid b1
      clear b1
      go_wp2_with fail
      go_loopw [7] (fun i wr => ∃ k : Nat, k ≤ few n ∧ i = .int .i64 ((k : Int) + 1) ∧ Hid (∀ j : Nat, j < k → ((1 : Int), (j : Int) + 1) ∈ ps) ∧ Hid (Below w.heap.size w wr)) (fun i _ => (17 - intOf i).toNat)
      case atStart => exact ⟨0, Nat.zero_le _, rfl, Lib.hid (fun j hj => absurd hj (Nat.not_lt_zero j)), HB1⟩
      case round =>
        obtain ⟨k, hk, rfl, HW, HB⟩ := hrel
        have hfn : few n ≤ 16 := by unfold few; omega
        have hfe : (few n : Int) = max n 0 := by unfold few; omega
        by_cases hlt : k < few n
        · have hlt' : (k : Int) + 1 ≤ n := by omega
          clear hfe
          by_cases hm : ((1 : Int), (k : Int) + 1) ∈ ps
          · have HM := Lib.hid (show decide (((1 : Int), (k : Int) + 1) ∈ ps) = true from decide_eq_true hm)
            have HN := Lib.hid (show ∀ j : Nat, j < k + 1 → ((1 : Int), (j : Int) + 1) ∈ ps from fun j hj => by
              by_cases e : j = k
              · subst e; exact hm
              · exact HW.out j (by omega))
            clear hm
            go_wp2_with fail
            ((with_reducible refine (has_is (q := (1, (k : Int) + 1)) HM.out _ (HR.out.below HB.out) hn).mono ?_))
            rintro e w2 ⟨rfl, b2⟩
            have HB2 := Lib.hid (HB.out.trans (b2.mono HB.out.size))
            clear b2
            go_wp2_with fail
            go_roundw
            case rel => exact ⟨k + 1, by omega, by go_num, HN, HB2⟩
            case measure => simp [intOf]; omega
          · have HM := Lib.hid (show decide (((1 : Int), (k : Int) + 1) ∈ ps) = false from decide_eq_false hm)
            have HT := Lib.hid (HF.out _ (mem_w hlt) hm)
            clear hm
            go_wp2_with fail
            ((with_reducible refine (has_is (q := (1, (k : Int) + 1)) HM.out _ (HR.out.below HB.out) hn).mono ?_))
            rintro e w2 ⟨rfl, b2⟩
            have HB2 := Lib.hid (HB.out.trans (b2.mono HB.out.size))
            clear b2
            go_wp2_with fail
            go_ret
            exact ⟨ret_bool HT.out.symm, HB2.out⟩
        · have hlt' : ¬ (k : Int) + 1 ≤ n := by omega
          have hkf : k = few n := by omega
          subst hkf
          clear hfe hfn
          go_wp2_with fail
          go_loopw [8] (fun i wr => ∃ k : Nat, k ≤ few m ∧ i = .int .i64 ((k : Int) + 1) ∧ Hid (∀ j : Nat, j < k → ((2 : Int), (j : Int) + 1) ∈ ps) ∧ Hid (Below w.heap.size w wr)) (fun i _ => (17 - intOf i).toNat)
          case atStart => exact ⟨0, Nat.zero_le _, rfl, Lib.hid (fun j hj => absurd hj (Nat.not_lt_zero j)), HB⟩
          case round =>
            obtain ⟨k, hk, rfl, HW2, HB⟩ := hrel
            have hfn : few m ≤ 16 := by unfold few; omega
            have hfe : (few m : Int) = max m 0 := by unfold few; omega
            by_cases hlt : k < few m
            · have hlt' : (k : Int) + 1 ≤ m := by omega
              clear hfe
              by_cases hm : ((2 : Int), (k : Int) + 1) ∈ ps
              · have HM := Lib.hid (show decide (((2 : Int), (k : Int) + 1) ∈ ps) = true from decide_eq_true hm)
                have HN := Lib.hid (show ∀ j : Nat, j < k + 1 → ((2 : Int), (j : Int) + 1) ∈ ps from fun j hj => by
                  by_cases e : j = k
                  · subst e; exact hm
                  · exact HW2.out j (by omega))
                clear hm
                go_wp2_with fail
                ((with_reducible refine (has_is (q := (2, (k : Int) + 1)) HM.out _ (HR.out.below HB.out) hn).mono ?_))
                rintro e w2 ⟨rfl, b2⟩
                have HB2 := Lib.hid (HB.out.trans (b2.mono HB.out.size))
                clear b2
                go_wp2_with fail
                go_roundw
                case rel => exact ⟨k + 1, by omega, by go_num, HN, HB2⟩
                case measure => simp [intOf]; omega
              · have HM := Lib.hid (show decide (((2 : Int), (k : Int) + 1) ∈ ps) = false from decide_eq_false hm)
                have HT := Lib.hid (HF.out _ (mem_m hlt) hm)
                clear hm
                go_wp2_with fail
                ((with_reducible refine (has_is (q := (2, (k : Int) + 1)) HM.out _ (HR.out.below HB.out) hn).mono ?_))
                rintro e w2 ⟨rfl, b2⟩
                have HB2 := Lib.hid (HB.out.trans (b2.mono HB.out.size))
                clear b2
                go_wp2_with fail
                go_ret
                exact ⟨ret_bool HT.out.symm, HB2.out⟩
            · have hlt' : ¬ (k : Int) + 1 ≤ m := by omega
              have HT := Lib.hid (all_yes HH.out h h' HW.out (fun j hj => HW2.out j (by omega)))
              clear hfe hfn
              go_wp2_with fail
              go_ret
              exact ⟨ret_bool HT.out.symm, HB.out⟩
  · have H0 := Lib.hid (show decide ((0, 0) ∈ ps) = false from decide_eq_false h0)
    have HT := Lib.hid (show false = allB n m ps from (all_no (q := (0, 0)) (by simp [roundL]) h0).symm)
    clear h0
    go_enter Try.func33, Try.ntmps33
    go_wp2_with fail
    ((with_reducible refine (has_is (q := (0, 0)) H0.out _ HR.out hn).mono ?_))
    rintro e w1 ⟨rfl, b1⟩
    have HB1 := Lib.hid b1
    clear b1
    go_wp2_with fail
    go_ret
    exact ⟨ret_bool HT.out, HB1.out⟩
end Go.Proofs.Ytkbaddopgdfafab
