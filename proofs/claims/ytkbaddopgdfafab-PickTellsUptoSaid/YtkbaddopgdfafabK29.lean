import Derived.Test.YtkbaddopgdfafabK28
import Derived.Outline
namespace Go.Proofs.Ytkbaddopgdfafab
open Go.RowKit Go.Proofs.Besom

theorem nbT_zero (s : ByteArray) : nbT s 0 = ⟨#[]⟩ := rfl
theorem nbT_size (s : ByteArray) (k : Nat) : (nbT s k).size ≤ k := by
  rw [size_len]
  simp only [nbT]
  exact Nat.le_trans (List.length_filter_le _ _) (List.length_take_le _ _)
theorem nbT_skip {s : ByteArray} {k : Nat} (h : k < s.size) (hb : nb s[k] = false) : nbT s (k + 1) = nbT s k := by
  have hk : k < s.data.toList.length := by rw [← size_len]; exact h
  unfold nbT
  rw [List.take_succ_eq_append_getElem hk, List.filter_append]
  have e : s.data.toList[k] = s[k] := by simp; rfl
  rw [e]; simp [hb]
theorem nbT_keep {s : ByteArray} {k : Nat} (h : k < s.size) (hb : nb s[k] = true) : nbT s (k + 1) = nbT s k ++ s.extract k (k + 1) := by
  have hk : k < s.data.toList.length := by rw [← size_len]; exact h
  apply bytes_ext
  rw [ByteArray.data_append, Array.toList_append]
  simp only [nbT]
  rw [List.take_succ_eq_append_getElem hk, List.filter_append]
  have e : s.data.toList[k] = s[k] := by simp; rfl
  rw [e]
  simp only [hb, List.filter_cons_of_pos, List.filter_nil]
  congr 1
  rw [ByteArray.data_extract]
  simp
  rw [List.take_one]
  simp [h]
  rfl

theorem out_err {s : ByteArray} (h : errP s ≠ 0) : outP s = [] ∧ (errP s = 2 ∨ errP s = 3) := by
  unfold outP errP at *
  cases hp : parseO s with
  | none => exact ⟨rfl, .inl rfl⟩
  | some l =>
    rw [hp] at h
    by_cases hl : l.length > 100000
    · simp [outO, errO, hl]
    · simp [errO, hl] at h
theorem out_ok {s : ByteArray} (h : errP s = 0) : parseO s = some (outP s) := by
  unfold outP errP at *
  cases hp : parseO s with
  | none => rw [hp] at h; cases h
  | some l =>
    rw [hp] at h
    by_cases hl : l.length > 100000
    · simp [errO, hl] at h
    · simp [outO, hl]

set_option maxRecDepth 100000 in
set_option maxHeartbeats 3200000 in
theorem pright5 (s : ByteArray) (w : World) (hs : s.size * 16 ≤ 140737488351232) : Calls Try.prog 5 #[.string s] w fun e w' => e = .returned (.bool true) ∧ Below w.heap.size w w' := by
  by_cases he : errP s = 0
  · have hl := out_ok he
    obtain ⟨hr, hp⟩ := parse_right hl
    have HP := Lib.hid hp
    have HK := Lib.hid (known_right hr)
    obtain ⟨L, hL⟩ : ∃ L, outP s = L := ⟨_, rfl⟩
    rw [hL] at hl hr HP HK
    have HE := Lib.hid (And.intro hL he)
    have hlen : L.length ≤ 100000 := by
      rw [← hL]
      unfold outP
      cases parseO s with
      | none => simp [outO]
      | some l =>
        by_cases hh : l.length > 100000
        · simp [outO, hh]
        · simp [outO, hh]; omega
    clear hl hr hp he hL
    go_enter Try.func5, Try.ntmps5
    go_wp2_with fail
    refine (examples10 _).mono ?_
    rintro e w1 ⟨rfl, b1⟩
    have HB1 := Lib.hid b1
    clear b1
    go_wp2_with fail
    ((with_reducible refine (parse_is HE.out hs).mono ?_))
    rintro e w2 ⟨v, rfl, o2, b2⟩
    obtain ⟨A, c, rfl, r2⟩ := own_row o2
    have HB2 := Lib.hid (HB1.out.trans (b2.mono HB1.out.size))
    have R2 := Lib.hid r2
    clear o2 b2 r2
    go_wp2_with fail
    go_loop [6, 7] (fun t i => ∃ k : Nat, k ≤ s.size ∧ t = .string (nbT s k) ∧ i = .int .i64 k) (fun _ i => s.size - (intOf i).toNat)
    case atStart => exact ⟨0, Nat.zero_le _, rfl, rfl⟩
    case round =>
      obtain ⟨k, hk, rfl, rfl⟩ := hrel
      have hz := nbT_size s k
      by_cases hlt : k < s.size
      · have hlt' : (k : Int) < (s.size : Int) := by omega
        by_cases h32 : s[k] = 32
        · have HN := Lib.hid (nbT_skip hlt (by rw [h32]; rfl))
          have hc1 : ((s[k].toNat : Int) != 32) = false := by rw [h32]; rfl
          have hc2 : ((s[k].toNat : Int) == 32) = true := by rw [h32]; rfl
          clear h32
          go_wp2_with fail
          go_round
          case rel => exact ⟨k + 1, by omega, by rw [HN.out], by go_num⟩
          case measure => simp [intOf]; omega
        · have hc1 : ((s[k].toNat : Int) != 32) = true := by
            rw [bne_iff_ne]; intro e; exact h32 (u8_eq (by have : UInt8.toNat 32 = 32 := rfl; omega))
          have hc2 : ((s[k].toNat : Int) == 32) = false := by
            rw [beq_eq_false_iff_ne]; intro e; exact h32 (u8_eq (by have : UInt8.toNat 32 = 32 := rfl; omega))
          by_cases h10 : s[k] = 10
          · have HN := Lib.hid (nbT_skip hlt (by rw [h10]; rfl))
            have hc3 : ((s[k].toNat : Int) != 10) = false := by rw [h10]; rfl
            have hc4 : ((s[k].toNat : Int) == 10) = true := by rw [h10]; rfl
            clear h10 h32
            go_wp2_with fail
            go_round
            case rel => exact ⟨k + 1, by omega, by rw [HN.out], by go_num⟩
            case measure => simp [intOf]; omega
          · have hc3 : ((s[k].toNat : Int) != 10) = true := by
              rw [bne_iff_ne]; intro e; exact h10 (u8_eq (by have : UInt8.toNat 10 = 10 := rfl; omega))
            have hc4 : ((s[k].toNat : Int) == 10) = false := by
              rw [beq_eq_false_iff_ne]; intro e; exact h10 (u8_eq (by have : UInt8.toNat 10 = 10 := rfl; omega))
            have HN := Lib.hid (nbT_keep hlt (by simp [nb, h32, h10]))
            clear h10 h32
            go_wp2_with fail
            go_round
            case rel => exact ⟨k + 1, by omega, by rw [HN.out], by go_num⟩
            case measure => simp [intOf]; omega
      · have hlt' : ¬ (k : Int) < (s.size : Int) := by omega
        have hkn : k = s.size := by omega
        subst hkn
        go_wp2_with fail
        ((with_reducible refine (print_is HP.out _ R2.out (by omega)).mono ?_))
        rintro e w3 ⟨rfl, b3⟩
        have HB3 := Lib.hid (HB2.out.trans (b3.mono HB2.out.size))
        have R3 := Lib.hid (R2.out.below b3)
        clear b3
        go_wp2_with fail
        ((with_reducible refine (known_is HK.out _ R3.out (by omega)).mono ?_))
        rintro e w4 ⟨rfl, b4⟩
        have HB4 := Lib.hid (HB3.out.trans (b4.mono HB3.out.size))
        clear b4
        go_wp2_with fail
        go_ret
        exact ⟨rfl, HB4.out⟩
  · obtain ⟨ho, he2⟩ := out_err he
    rcases he2 with he2 | he2
    all_goals
      have HE := Lib.hid (And.intro ho he2)
      clear he ho he2
      go_enter Try.func5, Try.ntmps5
      go_wp2_with fail
      refine (examples10 _).mono ?_
      rintro e w1 ⟨rfl, b1⟩
      have HB1 := Lib.hid b1
      clear b1
      go_wp2_with fail
      ((with_reducible refine (parse_is HE.out hs).mono ?_))
      rintro e w2 ⟨v, rfl, o2, b2⟩
      obtain ⟨A, c, rfl, r2⟩ := own_row o2
      have HB2 := Lib.hid (HB1.out.trans (b2.mono HB1.out.size))
      clear o2 b2 r2
      go_wp2_with fail
      go_ret
      exact ⟨rfl, HB2.out⟩
end Go.Proofs.Ytkbaddopgdfafab
