import Derived.Test.YtkbaddopgdfafabK27
import Derived.Outline
namespace Go.Proofs.Ytkbaddopgdfafab
open Go.RowKit Go.Proofs.Besom

def nb (b : UInt8) : Bool := b != 32 && b != 10

theorem drop_byte {s : ByteArray} {i : Nat} (h : i < s.size) : ∃ b : UInt8, s.data.toList.drop i = b :: s.data.toList.drop (i + 1) ∧ bt s i = b.toNat := by
  rw [size_len] at h
  refine ⟨s.data.toList[i], List.drop_eq_getElem_cons h, bt_at (List.getElem?_eq_getElem h)⟩
theorem u8_eq {a b : UInt8} (h : a.toNat = b.toNat) : a = b := UInt8.toNat_inj.1 h
theorem ofNat_toNat {k : Nat} (h : k < 256) : (UInt8.ofNat k).toNat = k := by simp [UInt8.toNat_ofNat']; omega

theorem tok_inv {s : ByteArray} {i : Nat} (h : i < s.size) :
    (tokP s i = some none → ∃ b, s.data.toList.drop i = b :: s.data.toList.drop (i + tokW s i) ∧ nb b = false) ∧
    (∀ p, tokP s i = some (some p) → rightP p = true ∧ s.data.toList.drop i = pickB p ++ s.data.toList.drop (i + tokW s i)) := by
  obtain ⟨b, hb, hbt⟩ := drop_byte h
  have hb0 := bt_lt s i
  by_cases h1 : bt s i = 32 ∨ bt s i = 10
  · have ht : tokP s i = some none := by rw [tokP, if_pos h1]
    have hw : tokW s i = 1 := by rw [tokW, if_pos (by omega)]
    refine ⟨fun _ => ⟨b, by rw [hw]; exact hb, ?_⟩, fun p hp => by rw [ht] at hp; cases hp⟩
    rcases h1 with h1 | h1
    · have : b = 32 := u8_eq (by rw [← hbt, h1]; rfl)
      subst this; rfl
    · have : b = 10 := u8_eq (by rw [← hbt, h1]; rfl)
      subst this; rfl
  · by_cases h2 : bt s i = 46
    · have ht : tokP s i = some (some (0, 0)) := by rw [tokP, if_neg h1, if_pos h2]
      have hw : tokW s i = 1 := by rw [tokW, if_pos (by omega)]
      refine ⟨fun hp => by rw [ht] at hp; simp at hp, fun p hp => ?_⟩
      rw [ht] at hp
      injection hp with hp; injection hp with hp; subst hp
      refine ⟨rfl, ?_⟩
      have e : pickB (0, 0) = [46] := by decide +kernel
      have : b = 46 := u8_eq (by rw [← hbt, h2]; rfl)
      rw [e, hw, hb, this]; rfl
    · by_cases h3 : 97 ≤ bt s i ∧ bt s i ≤ 112
      · have ht : tokP s i = some (some (1, (bt s i : Int) - 97 + 1)) := by rw [tokP, if_neg h1, if_neg h2, if_pos h3]
        have hw : tokW s i = 1 := by rw [tokW, if_pos (by omega)]
        refine ⟨fun hp => by rw [ht] at hp; simp at hp, fun p hp => ?_⟩
        rw [ht] at hp
        injection hp with hp; injection hp with hp; subst hp
        have hr : rightP (1, (bt s i : Int) - 97 + 1) = true := by simp [rightP]; omega
        refine ⟨hr, ?_⟩
        rcases pickB_right hr with ⟨g, _⟩ | ⟨_, _, _, g⟩ | ⟨g, _⟩ | ⟨g, _⟩
        · simp at g
        · rw [g, hw, hb]
          have : b = UInt8.ofNat (96 + ((bt s i : Int) - 97 + 1).toNat) := u8_eq (by rw [ofNat_toNat (by omega), ← hbt]; omega)
          rw [this]; rfl
        · simp at g
        · simp at g
      · by_cases h4 : i + 1 < s.size ∧ bt s i = 206 ∧ 177 ≤ bt s (i + 1) ∧ bt s (i + 1) ≤ 191
        · have ht : tokP s i = some (some (2, (bt s (i + 1) : Int) - 176)) := by rw [tokP, if_neg h1, if_neg h2, if_neg h3, if_pos h4]
          have hw : tokW s i = 2 := by rw [tokW, if_neg (by omega)]
          refine ⟨fun hp => by rw [ht] at hp; simp at hp, fun p hp => ?_⟩
          rw [ht] at hp
          injection hp with hp; injection hp with hp; subst hp
          have hr : rightP (2, (bt s (i + 1) : Int) - 176) = true := by simp [rightP]; omega
          refine ⟨hr, ?_⟩
          obtain ⟨b2, hb2, hbt2⟩ := drop_byte h4.1
          rcases pickB_right hr with ⟨g, _⟩ | ⟨g, _⟩ | ⟨_, _, _, g⟩ | ⟨g, _⟩
          · simp at g
          · simp at g
          · rw [g, hw, hb, hb2]
            have e1 : b = 206 := u8_eq (by rw [← hbt, h4.2.1]; rfl)
            have e2 : b2 = UInt8.ofNat (176 + ((bt s (i + 1) : Int) - 176).toNat) := u8_eq (by rw [ofNat_toNat (by omega), ← hbt2]; omega)
            rw [e1, e2]; rfl
          · simp at g; omega
        · by_cases h5 : i + 1 < s.size ∧ bt s i = 207 ∧ bt s (i + 1) = 128
          · have ht : tokP s i = some (some (2, 16)) := by rw [tokP, if_neg h1, if_neg h2, if_neg h3, if_neg h4, if_pos h5]
            have hw : tokW s i = 2 := by rw [tokW, if_neg (by omega)]
            refine ⟨fun hp => by rw [ht] at hp; simp at hp, fun p hp => ?_⟩
            rw [ht] at hp
            injection hp with hp; injection hp with hp; subst hp
            refine ⟨rfl, ?_⟩
            obtain ⟨b2, hb2, hbt2⟩ := drop_byte h5.1
            have e : pickB (2, 16) = [207, 128] := by decide +kernel
            have e1 : b = 207 := u8_eq (by rw [← hbt, h5.2.1]; rfl)
            have e2 : b2 = 128 := u8_eq (by rw [← hbt2, h5.2.2]; rfl)
            rw [e, hw, hb, hb2, e1, e2]; rfl
          · have ht : tokP s i = none := by rw [tokP, if_neg h1, if_neg h2, if_neg h3, if_neg h4, if_neg h5]
            exact ⟨fun hp => (by rw [ht] at hp; cases hp), fun p hp => (by rw [ht] at hp; cases hp)⟩

theorem pickB_nb {p : Int × Int} (h : rightP p = true) : (pickB p).filter nb = pickB p := by
  rw [List.filter_eq_self]
  intro b hb
  have hne : ∀ k : Nat, k < 256 → k ≠ 32 → k ≠ 10 → nb (UInt8.ofNat k) = true := fun k hk h1 h2 => by
    have e := ofNat_toNat hk
    simp only [nb, Bool.and_eq_true, bne_iff_ne, ne_eq]
    refine ⟨fun he => h1 ?_, fun he => h2 ?_⟩ <;> (rw [he] at e; rw [← e]; rfl)
  rcases pickB_right h with ⟨_, g⟩ | ⟨_, g1, g2, g⟩ | ⟨_, g1, g2, g⟩ | ⟨_, g⟩
  · rw [g] at hb; simp at hb; subst hb; rfl
  · rw [g] at hb
    rw [List.mem_singleton] at hb
    rw [hb]; exact hne _ (by omega) (by omega) (by omega)
  · rw [g] at hb
    rcases List.mem_cons.1 hb with hb | hb
    · rw [hb]; rfl
    · rw [List.mem_singleton] at hb
      rw [hb]; exact hne _ (by omega) (by omega) (by omega)
  · rw [g] at hb; simp at hb; rcases hb with rfl | rfl <;> rfl

theorem parse_inv (s : ByteArray) : ∀ (f i : Nat) (l : List (Int × Int)), parseGo s f i = some l → s.size ≤ i + f → (∀ p ∈ l, rightP p = true) ∧ l.flatMap pickB = (s.data.toList.drop i).filter nb := by
  intro f
  induction f with
  | zero =>
    intro i l h hs
    simp only [parseGo, Option.some.injEq] at h
    subst h
    rw [List.drop_eq_nil_of_le (by rw [← size_len]; omega)]
    exact ⟨by simp, rfl⟩
  | succ f ih =>
    intro i l h hs
    by_cases hi : i < s.size
    · rw [parseGo_tok s f i hi] at h
      obtain ⟨t1, t2⟩ := tok_inv hi
      have hw : 1 ≤ tokW s i := by unfold tokW; split <;> omega
      cases ht : tokP s i with
      | none => rw [ht] at h; cases h
      | some o =>
        rw [ht] at h
        cases o with
        | none =>
          obtain ⟨b, hb, hn⟩ := t1 ht
          obtain ⟨r1, r2⟩ := ih _ l h (by omega)
          refine ⟨r1, ?_⟩
          rw [r2, hb, List.filter_cons_of_neg (by rw [hn]; simp)]
        | some p =>
          obtain ⟨hr, hb⟩ := t2 p ht
          simp only [Option.map_eq_some_iff] at h
          obtain ⟨l', h', rfl⟩ := h
          obtain ⟨r1, r2⟩ := ih _ l' h' (by omega)
          refine ⟨fun q hq => ?_, ?_⟩
          · rcases List.mem_cons.1 hq with rfl | hq
            · exact hr
            · exact r1 q hq
          · rw [List.flatMap_cons, r2, hb, List.filter_append, pickB_nb hr]
    · rw [parseGo_end s _ i hi] at h
      injection h with h
      subst h
      rw [List.drop_eq_nil_of_le (by rw [← size_len]; omega)]
      exact ⟨by simp, rfl⟩

def nbT (s : ByteArray) (k : Nat) : ByteArray := ⟨((s.data.toList.take k).filter nb).toArray⟩
theorem parse_right {s : ByteArray} {l : List (Int × Int)} (h : parseO s = some l) : (∀ p ∈ l, rightP p = true) ∧ printB l = nbT s s.size := by
  obtain ⟨h1, h2⟩ := parse_inv s s.size 0 l h (by omega)
  refine ⟨h1, bytes_ext ?_⟩
  rw [printB_bytes, h2, List.drop_zero]
  simp only [nbT]
  rw [List.take_of_length_le (by rw [← size_len]; exact Nat.le_refl _)]
theorem known_right {l : List (Int × Int)} (h : ∀ p ∈ l, rightP p = true) : knownL 16 16 l = true := by
  unfold knownL
  rw [Bool.not_eq_true', List.any_eq_false]
  intro p hp
  have hr := h p hp
  simp only [strangeP, hr, Bool.not_true, Bool.false_or, Bool.or_eq_true, Bool.and_eq_true, decide_eq_true_eq, beq_iff_eq, not_or, not_and]
  rcases right_cases hr with ⟨g1, g2⟩ | ⟨g1, g2, g3⟩ <;> omega
end Go.Proofs.Ytkbaddopgdfafab
