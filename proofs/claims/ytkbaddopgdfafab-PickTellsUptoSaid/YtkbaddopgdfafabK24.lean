import Derived.Test.YtkbaddopgdfafabK23
namespace Go.Proofs.Ytkbaddopgdfafab
open Go.RowKit Go.Proofs.Besom

theorem ofR_iff (r : Int) : (ofR r).2 = true ↔ r = 46 ∨ (97 ≤ r ∧ r ≤ 112) ∨ (945 ≤ r ∧ r ≤ 960) := by
  unfold ofR hitR candR letterI rightP
  by_cases h0 : r = 46
  · subst h0; simp
  · by_cases h1 : 97 ≤ r ∧ r ≤ 112
    · have e : 1 ≤ r - 97 + 1 ∧ r - 97 + 1 ≤ 16 := by omega
      have e2 : 96 + (r - 97 + 1) = r := by omega
      have e4 : ¬ ((46 : Int) = r) := fun h => h0 h.symm
      simp [h0, h1, e, e2, e4]
    · by_cases h2 : 945 ≤ r ∧ r ≤ 960
      · have e : 1 ≤ r - 945 + 1 ∧ r - 945 + 1 ≤ 16 := by omega
        have e2 : 944 + (r - 945 + 1) = r := by omega
        have e3 : ¬ (1 ≤ r - 97 + 1 ∧ r - 97 + 1 ≤ 16) := by omega
        have e4 : ¬ ((46 : Int) = r) := fun h => h0 h.symm
        simp [h0, h1, h2, e, e2, e3, e4]
      · have e : ¬ (1 ≤ r - 97 + 1 ∧ r - 97 + 1 ≤ 16) := by omega
        have e3 : ¬ (1 ≤ r - 945 + 1 ∧ r - 945 + 1 ≤ 16) := by omega
        have e4 : ¬ ((46 : Int) = r) := fun h => h0 h.symm
        simp [h0, h1, h2, e, e3, e4]
theorem ofR_dot : ofR 46 = ((0, 0), true) := by decide +kernel
theorem ofR_low {r : Int} (h1 : 97 ≤ r) (h2 : r ≤ 112) : ofR r = ((1, r - 96), true) := by
  have e : 1 ≤ r - 97 + 1 ∧ r - 97 + 1 ≤ 16 := by omega
  have e2 : 96 + (r - 97 + 1) = r := by omega
  have e4 : ¬ ((46 : Int) = r) := by omega
  have e5 : r - 97 + 1 = r - 96 := by omega
  unfold ofR hitR candR letterI rightP
  simp [e4, e5]
  omega
theorem ofR_high {r : Int} (h1 : 945 ≤ r) (h2 : r ≤ 960) : ofR r = ((2, r - 944), true) := by
  have e : 1 ≤ r - 945 + 1 ∧ r - 945 + 1 ≤ 16 := by omega
  have e2 : 944 + (r - 945 + 1) = r := by omega
  have e3 : ¬ (1 ≤ r - 97 + 1 ∧ r - 97 + 1 ≤ 16) := by omega
  have e4 : ¬ ((46 : Int) = r) := by omega
  have e5 : r - 945 + 1 = r - 944 := by omega
  unfold ofR hitR candR letterI rightP
  simp [e3, e4, e5]
  omega

/-- The byte at a place (0: there is none). -/
def bt (s : ByteArray) (i : Nat) : Nat := (s.get! i).toNat
theorem bt_lt (s : ByteArray) (i : Nat) : bt s i < 256 := (s.get! i).toNat_lt

/-- What stands at a place: none: nothing that parses; some none: a blank. -/
def tokP (s : ByteArray) (i : Nat) : Option (Option (Int × Int)) :=
  if bt s i = 32 ∨ bt s i = 10 then some none
  else if bt s i = 46 then some (some (0, 0))
  else if 97 ≤ bt s i ∧ bt s i ≤ 112 then some (some (1, (bt s i : Int) - 97 + 1))
  else if i + 1 < s.size ∧ bt s i = 206 ∧ 177 ≤ bt s (i + 1) ∧ bt s (i + 1) ≤ 191 then some (some (2, (bt s (i + 1) : Int) - 176))
  else if i + 1 < s.size ∧ bt s i = 207 ∧ bt s (i + 1) = 128 then some (some (2, 16))
  else none
def tokW (s : ByteArray) (i : Nat) : Nat := if bt s i < 128 then 1 else 2

theorem decode_two (s : ByteArray) (i : Nat) (h : 128 ≤ bt s i) : (Utf8.decode s i).1 = 65533 ∨ (bt s i / 32 = 6 ∧ i + 1 < s.size ∧ bt s (i + 1) / 64 = 2 ∧ 128 ≤ bt s i % 32 * 64 + bt s (i + 1) % 64 ∧ Utf8.decode s i = (bt s i % 32 * 64 + bt s (i + 1) % 64, 2)) ∨ 2048 ≤ (Utf8.decode s i).1 := by
  have hd : ∀ k, (s.get! (i + k)).toNat = bt s (i + k) := fun k => rfl
  have hd0 : (s.get! i).toNat = bt s i := rfl
  have hn : ¬ bt s i < 128 := by omega
  simp only [Utf8.decode, hd, Nat.add_zero, hd0, hn, if_false]
  repeat' split
  all_goals simp_all [Utf8.runeError]
  all_goals omega
theorem decode_two_ok (s : ByteArray) (i : Nat) (h1 : bt s i / 32 = 6) (h2 : i + 1 < s.size) (h3 : bt s (i + 1) / 64 = 2) (h4 : 128 ≤ bt s i % 32 * 64 + bt s (i + 1) % 64) :
    Utf8.decode s i = (bt s i % 32 * 64 + bt s (i + 1) % 64, 2) := by
  have hd : ∀ k, (s.get! (i + k)).toNat = bt s (i + k) := fun k => rfl
  have hd0 : (s.get! i).toNat = bt s i := rfl
  have hn : ¬ bt s i < 128 := by omega
  simp only [Utf8.decode, hd, Nat.add_zero, hd0, hn, if_false]
  simp [h1, h2, h3, h4]

theorem decode_tok (s : ByteArray) (i : Nat) :
    (tokP s i = some none ∧ (Utf8.decode s i = (32, 1) ∨ Utf8.decode s i = (10, 1)) ∧ tokW s i = 1) ∨
    (∃ p, tokP s i = some (some p) ∧ Utf8.decode s i = ((Utf8.decode s i).1, tokW s i) ∧ ofR (Utf8.decode s i).1 = (p, true) ∧ (Utf8.decode s i).1 ≠ 32 ∧ (Utf8.decode s i).1 ≠ 10) ∨
    (tokP s i = none ∧ (ofR (Utf8.decode s i).1).2 = false ∧ (Utf8.decode s i).1 ≠ 32 ∧ (Utf8.decode s i).1 ≠ 10) := by
  have hb0 := bt_lt s i
  have hb1 := bt_lt s (i + 1)
  have hd : ∀ k, (s.get! (i + k)).toNat = bt s (i + k) := fun k => rfl
  by_cases h128 : bt s i < 128
  · have hdec : Utf8.decode s i = (bt s i, 1) := by
      simp only [Utf8.decode, hd]
      rw [if_pos (by simpa using h128)]; rfl
    have hw : tokW s i = 1 := by simp [tokW, h128]
    rw [hdec]
    by_cases h1 : bt s i = 32 ∨ bt s i = 10
    · left
      refine ⟨by rw [tokP, if_pos h1], ?_, hw⟩
      rcases h1 with h | h <;> simp [h]
    · by_cases h2 : bt s i = 46
      · right; left
        refine ⟨(0, 0), by rw [tokP, if_neg h1, if_pos h2], by rw [hw], ?_, by omega, by omega⟩
        rw [h2]; exact ofR_dot
      · by_cases h3 : 97 ≤ bt s i ∧ bt s i ≤ 112
        · right; left
          refine ⟨(1, (bt s i : Int) - 97 + 1), by rw [tokP, if_neg h1, if_neg h2, if_pos h3], by rw [hw], ?_, by omega, by omega⟩
          rw [ofR_low (by omega) (by omega)]
          simp; omega
        · right; right
          refine ⟨by rw [tokP, if_neg h1, if_neg h2, if_neg h3, if_neg (by omega), if_neg (by omega)], ?_, by omega, by omega⟩
          cases hx : (ofR ((bt s i : Nat) : Int)).2
          · rfl
          · have := (ofR_iff _).1 hx
            omega
  · have hw : tokW s i = 2 := by simp [tokW, h128]
    have hn1 : ¬ (bt s i = 32 ∨ bt s i = 10) := by omega
    have hn2 : ¬ bt s i = 46 := by omega
    have hn3 : ¬ (97 ≤ bt s i ∧ bt s i ≤ 112) := by omega
    by_cases h4 : i + 1 < s.size ∧ bt s i = 206 ∧ 177 ≤ bt s (i + 1) ∧ bt s (i + 1) ≤ 191
    · have hdec : Utf8.decode s i = (768 + bt s (i + 1), 2) := by
        obtain ⟨g1, g2, g3, g4⟩ := h4
        rw [decode_two_ok s i (by omega) g1 (by omega) (by omega), g2]
        congr 1; omega
      right; left
      refine ⟨_, by rw [tokP, if_neg hn1, if_neg hn2, if_neg hn3, if_pos h4], by rw [hdec, hw], ?_, by rw [hdec]; simp; omega, by rw [hdec]; simp; omega⟩
      rw [hdec, ofR_high (by omega) (by omega)]
      simp; omega
    · by_cases h5 : i + 1 < s.size ∧ bt s i = 207 ∧ bt s (i + 1) = 128
      · have hdec : Utf8.decode s i = (960, 2) := by
          obtain ⟨g1, g2, g3⟩ := h5
          rw [decode_two_ok s i (by omega) g1 (by omega) (by omega), g2, g3]
        right; left
        refine ⟨_, by rw [tokP, if_neg hn1, if_neg hn2, if_neg hn3, if_neg h4, if_pos h5], by rw [hdec, hw], ?_, by rw [hdec]; simp, by rw [hdec]; simp⟩
        rw [hdec, ofR_high (by omega) (by omega)]
        simp
      · right; right
        have hr : (Utf8.decode s i).1 ≠ 32 ∧ (Utf8.decode s i).1 ≠ 10 ∧ (Utf8.decode s i).1 ≠ 46 ∧ ¬ (97 ≤ (Utf8.decode s i).1 ∧ (Utf8.decode s i).1 ≤ 112) ∧ ¬ (945 ≤ (Utf8.decode s i).1 ∧ (Utf8.decode s i).1 ≤ 960) := by
          rcases decode_two s i (by omega) with h | ⟨g1, g2, g3, g4, h⟩ | h
          · rw [h]; omega
          · rw [h]; dsimp only
            refine ⟨by omega, by omega, by omega, by omega, ?_⟩
            intro hh
            have e14 : bt s i % 32 = 14 ∨ bt s i % 32 = 15 := by omega
            rcases e14 with e | e <;> omega
          · omega
        refine ⟨by rw [tokP, if_neg hn1, if_neg hn2, if_neg hn3, if_neg h4, if_neg h5], ?_, hr.1, hr.2.1⟩
        cases hx : (ofR ((Utf8.decode s i).1 : Int)).2
        · rfl
        · have := (ofR_iff _).1 hx
          omega

theorem parseGo_tok (s : ByteArray) (f i : Nat) (h : i < s.size) :
    parseGo s (f + 1) i = match tokP s i with | none => none | some none => parseGo s f (i + tokW s i) | some (some p) => (parseGo s f (i + tokW s i)).map (p :: ·) := by
  rw [parseGo, if_pos h]
  rcases decode_tok s i with ⟨h1, h2, h3⟩ | ⟨p, h1, h2, h3, h4, h5⟩ | ⟨h1, h2, h3, h4⟩
  · rw [h1, h3]
    rcases h2 with h2 | h2 <;> simp [h2]
  · have h6 : (Utf8.decode s i).2 = tokW s i := by rw [h2]
    rw [h1, h3, h6]
    simp [h4, h5]
  · rw [h1, h2]
    simp [h3, h4]
end Go.Proofs.Ytkbaddopgdfafab
