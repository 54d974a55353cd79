import Derived.Test.YtkbaddopgdfafabKR1
namespace Go.Proofs.Ytkbaddopgdfafab
open Go.RowKit Go.Proofs.Besom

theorem printB_size_take (ps : List (Int × Int)) (k : Nat) : (printB (ps.take k)).size ≤ 4 * k := by
  have h1 := printB_size (ps.take k)
  have h2 : (ps.take k).length ≤ k := List.length_take_le _ _
  omega

set_option maxHeartbeats 1600000 in
theorem rprint18 (ps : List (Int × Int)) (A : Option Addr) (n c : Nat) (w : World) (hr : Row w 2 A n (picksV ps)) (hn : n * 16 ≤ 140737488351232) :
    Calls Try.prog 18 #[.slice A n c] w fun e w' => e = .returned (.string (printB ps)) ∧ Below w.heap.size w w' := by
  have HR := Lib.hid hr
  have hl : ps.length = n := by have := hr.1; rw [picksV_len] at this; omega
  have HL := Lib.hid hl
  clear hr hl
  go_enter Try.func18, Try.ntmps18
  go_wp2_with fail
  go_loopw [3, 4] (fun v i wr => ∃ k : Nat, k ≤ n ∧ v = .string (printB (ps.take k)) ∧ i = .int .i64 k ∧ Hid (Below w.heap.size w wr)) (fun _ i _ => n - (intOf i).toNat)
  case atStart => exact ⟨0, Nat.zero_le _, rfl, rfl, Lib.hid (Below.refl _ _)⟩
  case round =>
    obtain ⟨k, hk, rfl, rfl, HB⟩ := hrel
    have hz := printB_size_take ps k
    by_cases hlt : k < n
    · have hlt' : (k : Int) < (n : Int) := by omega
      obtain ⟨b1, o1, hkl, rfl, c0, c1⟩ := picks_at (HR.out.below HB.out) hlt
      have HS := Lib.hid (show printB (ps.take (k + 1)) = printB (ps.take k) ++ textB ps[k] by
        rw [List.take_succ_eq_append_getElem hkl, printB_app, printB_one])
      have hz2 : (textB ps[k]).size ≤ 4 := by rw [← printB_one]; exact printB_size [ps[k]]
      generalize ps[k] = p at *
      clear hkl
      go_wp2_with fail
      ((with_reducible refine (text29 p _).mono ?_))
      rintro e w1 ⟨rfl, b1⟩
      have HB1 := Lib.hid (HB.out.trans (b1.mono HB.out.size))
      clear b1
      go_wp2_with fail
      go_roundw
      case rel => exact ⟨k + 1, by omega, by rw [HS.out], by go_num, HB1⟩
      case measure => simp [intOf]; omega
    · have hkn : k = n := by omega
      subst hkn
      have ht := Lib.hid (show ps.take k = ps from List.take_of_length_le (by have := HL.out; omega))
      go_wp2_with fail
      go_ret
      exact ⟨congrArg (fun l => Ending.returned (.string (printB l))) ht.out, HB.out⟩

set_option maxHeartbeats 1600000 in
theorem has35 (ps : List (Int × Int)) (q : Int × Int) (A : Option Addr) (n c : Nat) (w : World) (hr : Row w 2 A n (picksV ps)) (hn : n * 16 ≤ 140737488351232) :
    Calls Try.prog 35 #[.slice A n c, pickV q] w (SamePost w (decide (q ∈ ps))) := by
  have hB := pickBox34 q w
  have HR := Lib.hid (hr.below hB)
  have HQ := Lib.hid (heap_alloc_at (w := w) (o := .cells #[.int .i64 q.1, .int .i64 q.2] 34) rfl)
  have hl : ps.length = n := by have := hr.1; rw [picksV_len] at this; omega
  have HL := Lib.hid hl
  have HB := Lib.hid hB
  clear hr hl hB
  obtain ⟨q1, q2⟩ := q
  simp only at HR HQ HB
  go_enter Try.func35, Try.ntmps35
  go_wp2_with fail
  generalize hW : w.alloc (.cells #[.int .i64 q1, .int .i64 q2] 34) = W at *
  clear hW
  go_loopw [5] (fun i wr => ∃ k : Nat, k ≤ n ∧ i = .int .i64 k ∧ Hid (∀ j (hj : j < ps.length), j < k → ps[j] ≠ (q1, q2)) ∧ ∃ t, wr = W.drewN t) (fun i _ => n - (intOf i).toNat)
  case atStart => exact ⟨0, Nat.zero_le _, rfl, Lib.hid (by omega), 0, rfl⟩
  case round =>
    obtain ⟨k, hk, rfl, hE, t, rfl⟩ := hrel
    by_cases hlt : k < n
    · have hlt' : (k : Int) < (n : Int) := by omega
      obtain ⟨b1, o1, hkl, rfl, c0, c1⟩ := picks_at HR.out hlt
      obtain ⟨d0, d1⟩ := cells2 HQ.out
      by_cases he : ps[k] = (q1, q2)
      · have HT := Lib.hid (show true = decide ((q1, q2) ∈ ps) from (decide_eq_true (he ▸ List.getElem_mem hkl)).symm)
        rw [he] at c0 c1
        dsimp only at c0 c1
        clear he hkl
        go_wp2
        go_quiet (fail)
        go_wp2
        go_ret
        exact ⟨ret_bool HT.out, ⟨HB.out.os, HB.out.tape, HB.out.output, HB.out.size, HB.out.block⟩⟩
      · have HN := Lib.hid (show ∀ j (hj : j < ps.length), j < k + 1 → ps[j] ≠ (q1, q2) by
          intro j hj hjk
          by_cases e : j = k
          · subst e; exact he
          · exact hE.out j hj (by omega))
        generalize ps[k] = p at *
        obtain ⟨p1, p2⟩ := p
        dsimp only at c0 c1
        clear hkl
        by_cases h1 : p1 = q1
        · subst h1
          have h2 : (p2 == q2) = false := by simpa using he
          clear he
          go_wp2
          go_quiet (fail)
          go_wp2
          go_roundw
          case rel => exact ⟨k + 1, by omega, by go_num, HN, _, rfl⟩
          case measure => simp [intOf]; omega
        · have h2 : (p1 == q1) = false := by simpa using h1
          clear he h1
          go_wp2
          go_quiet (fail)
          go_wp2
          go_roundw
          case rel => exact ⟨k + 1, by omega, by go_num, HN, _, rfl⟩
          case measure => simp [intOf]; omega
    · have HT := Lib.hid (show false = decide ((q1, q2) ∈ ps) from (decide_eq_false (fun h => by
        obtain ⟨j, hj, e⟩ := List.getElem_of_mem h
        exact hE.out j hj (by have := HL.out; omega) e)).symm)
      go_wp2
      go_ret
      exact ⟨ret_bool HT.out, ⟨HB.out.os, HB.out.tape, HB.out.output, HB.out.size, HB.out.block⟩⟩
end Go.Proofs.Ytkbaddopgdfafab
