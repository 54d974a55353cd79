import Derived.Test.YtkbaddopgdfafabK24
namespace Go.Proofs.Ytkbaddopgdfafab
open Go.RowKit Go.Proofs.Besom

def pickB (p : Int × Int) : List UInt8 := (Utf8.encode (letterI p)).data.toList

theorem foldl_bytes (l : List Int) (b : ByteArray) : (l.foldl (fun r n => r ++ Utf8.encode n) b).data.toList = b.data.toList ++ l.flatMap (fun n => (Utf8.encode n).data.toList) := by
  induction l generalizing b with
  | nil => simp
  | cons n l ih => rw [List.foldl_cons, ih, ByteArray.data_append, Array.toList_append]; simp
theorem printB_bytes (l : List (Int × Int)) : (printB l).data.toList = l.flatMap pickB := by
  unfold printB
  rw [foldl_bytes]
  simp [List.flatMap_map]
  rfl
theorem bytes_ext {a b : ByteArray} (h : a.data.toList = b.data.toList) : a = b := by
  obtain ⟨⟨x⟩⟩ := a; obtain ⟨⟨y⟩⟩ := b; simp at h; rw [h]
theorem printB_app (a b : List (Int × Int)) : printB (a ++ b) = printB a ++ printB b := by
  apply bytes_ext
  rw [ByteArray.data_append, Array.toList_append]
  simp only [printB_bytes, List.flatMap_append]

theorem enc_low {r : Int} (h0 : 0 ≤ r) (h1 : r < 128) : (Utf8.encode r).data.toList = [UInt8.ofNat r.toNat] := by
  have hv : Utf8.valid r = true := by simp [Utf8.valid]; omega
  simp only [Utf8.encode, hv, if_true]
  rw [if_pos (by omega)]
theorem enc_mid {r : Int} (h0 : 128 ≤ r) (h1 : r < 2048) : (Utf8.encode r).data.toList = [UInt8.ofNat (192 + r.toNat / 64), UInt8.ofNat (128 + r.toNat % 64)] := by
  have hv : Utf8.valid r = true := by simp [Utf8.valid]; omega
  simp only [Utf8.encode, hv, if_true]
  rw [if_neg (by omega), if_pos (by omega)]

theorem pickB_right {p : Int × Int} (h : rightP p = true) :
    (p = (0, 0) ∧ pickB p = [46]) ∨
    (p.1 = 1 ∧ 1 ≤ p.2 ∧ p.2 ≤ 16 ∧ pickB p = [UInt8.ofNat (96 + p.2.toNat)]) ∨
    (p.1 = 2 ∧ 1 ≤ p.2 ∧ p.2 ≤ 15 ∧ pickB p = [206, UInt8.ofNat (176 + p.2.toNat)]) ∨
    (p = (2, 16) ∧ pickB p = [207, 128]) := by
  have hl : letterI p = if p.1 = 1 then 96 + p.2 else if p.1 = 2 then 944 + p.2 else 46 := by rw [letterI, if_pos h]
  obtain ⟨k, n⟩ := p
  simp only at hl
  rcases right_cases h with ⟨h1, h2⟩ | ⟨h1 | h1, h2, h3⟩
  · simp only at h1 h2
    subst h1; subst h2
    exact .inl ⟨rfl, by decide +kernel⟩
  · simp only at h1 h2 h3
    subst h1
    refine .inr (.inl ⟨rfl, h2, h3, ?_⟩)
    rw [if_pos rfl] at hl
    rw [pickB, hl, enc_low (by omega) (by omega)]
    congr 2; omega
  · simp only at h1 h2 h3
    subst h1
    rw [if_neg (by omega), if_pos rfl] at hl
    by_cases h16 : n = 16
    · subst h16
      exact .inr (.inr (.inr ⟨rfl, by decide +kernel⟩))
    · refine .inr (.inr (.inl ⟨rfl, h2, by omega, ?_⟩))
      rw [pickB, hl, enc_mid (by omega) (by omega)]
      have e1 : 192 + (944 + n).toNat / 64 = 206 := by omega
      have e2 : 128 + (944 + n).toNat % 64 = 176 + n.toNat := by omega
      rw [e1, e2]; rfl

theorem bt_at {s : ByteArray} {i : Nat} {b : UInt8} (h : s.data.toList[i]? = some b) : bt s i = b.toNat := by
  have hi : i < s.size := by have := (List.getElem?_eq_some_iff.1 h).1; simpa using this
  have h2 : s[i] = b := by
    have := (List.getElem?_eq_some_iff.1 h).2
    have h3 : s.data[i] = b := by simpa using this
    exact h3
  unfold bt
  have := get_at s i hi
  rw [Nat.add_zero] at this
  rw [this, h2]
theorem size_len (s : ByteArray) : s.size = s.data.toList.length := by rw [Array.length_toList]; rfl

theorem tok_blank {s : ByteArray} {i : Nat} {b : UInt8} (h : s.data.toList[i]? = some b) (hb : b = 32 ∨ b = 10) : tokP s i = some none ∧ tokW s i = 1 := by
  have := bt_at h
  have e : bt s i = 32 ∨ bt s i = 10 := by
    rcases hb with rfl | rfl
    · exact .inl this
    · exact .inr this
  exact ⟨by rw [tokP, if_pos e], by rw [tokW, if_pos (by omega)]⟩

theorem tok_pick {s : ByteArray} {i : Nat} {p : Int × Int} {rest : List UInt8} (hp : rightP p = true) (h : s.data.toList.drop i = pickB p ++ rest) : tokP s i = some (some p) ∧ tokW s i = (pickB p).length := by
  have g : ∀ j, s.data.toList[i + j]? = (pickB p ++ rest)[j]? := fun j => by rw [← h, List.getElem?_drop]
  have hlen : s.data.toList.length - i = (pickB p ++ rest).length := by rw [← h, List.length_drop]
  have hn : ∀ k : Nat, k < 256 → (UInt8.ofNat k).toNat = k := fun k hk => by simp [UInt8.toNat_ofNat']; omega
  rcases pickB_right hp with ⟨h1, h2⟩ | ⟨h1, h3, h4, h2⟩ | ⟨h1, h3, h4, h2⟩ | ⟨h1, h2⟩
  · subst h1
    rw [h2] at g ⊢
    have e0 := bt_at (s := s) (i := i) (g 0)
    have e : bt s i = 46 := by rw [e0]; rfl
    exact ⟨by rw [tokP, if_neg (by omega), if_pos e], by rw [tokW, if_pos (by omega)]; rfl⟩
  · obtain ⟨k, n⟩ := p
    simp only at h1 h3 h4 h2 ⊢
    subst h1
    rw [h2] at g ⊢
    have e0 := bt_at (s := s) (i := i) (g 0)
    rw [hn _ (by omega)] at e0
    have a1 : ¬ (bt s i = 32 ∨ bt s i = 10) := by omega
    have a2 : ¬ bt s i = 46 := by omega
    refine ⟨?_, by rw [tokW, if_pos (by omega)]; rfl⟩
    rw [tokP, if_neg a1, if_neg a2, if_pos (by omega), e0]
    congr 3; omega
  · obtain ⟨k, n⟩ := p
    simp only at h1 h3 h4 h2 ⊢
    subst h1
    rw [h2] at g hlen ⊢
    have e0 := bt_at (s := s) (i := i) (g 0)
    have e1 := bt_at (s := s) (i := i + 1) (g 1)
    rw [hn _ (by omega)] at e1
    have e0' : bt s i = 206 := by rw [e0]; rfl
    have hs : i + 1 < s.size := by rw [size_len]; simp at hlen; simp; omega
    refine ⟨?_, by rw [tokW, if_neg (by omega)]; rfl⟩
    rw [tokP, if_neg (by omega), if_neg (by omega), if_neg (by omega), if_pos ⟨hs, e0', by omega, by omega⟩, e1]
    congr 3; omega
  · subst h1
    rw [h2] at g hlen ⊢
    have e0 := bt_at (s := s) (i := i) (g 0)
    have e1 := bt_at (s := s) (i := i + 1) (g 1)
    have e0' : bt s i = 207 := by rw [e0]; rfl
    have e1' : bt s (i + 1) = 128 := by rw [e1]; rfl
    have hs : i + 1 < s.size := by rw [size_len]; simp at hlen; simp; omega
    refine ⟨?_, by rw [tokW, if_neg (by omega)]; rfl⟩
    rw [tokP, if_neg (by omega), if_neg (by omega), if_neg (by omega), if_neg (by omega), if_pos ⟨hs, e0', e1'⟩]

/-- Blanks and picks. -/
abbrev Item := UInt8 ⊕ (Int × Int)
def itemB : Item → List UInt8
  | .inl b => [b]
  | .inr p => pickB p
def itemOk : Item → Prop
  | .inl b => b = 32 ∨ b = 10
  | .inr p => rightP p = true
def itemP : Item → List (Int × Int)
  | .inl _ => []
  | .inr p => [p]

theorem parse_items (its : List Item) : ∀ (s : ByteArray) (pos f : Nat), s.data.toList.drop pos = its.flatMap itemB → (∀ x ∈ its, itemOk x) → (its.flatMap itemB).length ≤ f → parseGo s f pos = some (its.flatMap itemP) := by
  induction its with
  | nil =>
    intro s pos f h _ _
    refine parseGo_end s f pos ?_
    have : (s.data.toList.drop pos).length = 0 := by rw [h]; rfl
    rw [List.length_drop] at this
    rw [size_len]; omega
  | cons x its ih =>
    intro s pos f h hok hf
    have hx := hok x (by simp)
    have hrest := fun y hy => hok y (List.mem_cons_of_mem x hy)
    rw [List.flatMap_cons] at h hf ⊢
    rw [List.length_append] at hf
    have hpl : ∀ p, 0 < (pickB p).length := fun p => by
      unfold pickB
      have : 0 < (Utf8.encode (letterI p)).data.toList.length := by
        unfold Utf8.encode
        simp only
        repeat' split
        all_goals simp
      exact this
    have hlen := congrArg List.length h
    rw [List.length_drop, List.length_append] at hlen
    have hdrop : s.data.toList.drop (pos + (itemB x).length) = its.flatMap itemB := by
      rw [← List.drop_drop, h, List.drop_left]
    cases x with
    | inl b =>
      simp only [itemB, List.length_singleton] at hf hlen hdrop h
      have hg : s.data.toList[pos]? = some b := by
        have : s.data.toList[pos]? = (s.data.toList.drop pos)[0]? := by rw [List.getElem?_drop]; rfl
        rw [this, h]; rfl
      obtain ⟨t1, t2⟩ := tok_blank hg hx
      obtain ⟨f, rfl⟩ : ∃ g, f = g + 1 := ⟨f - 1, by omega⟩
      rw [parseGo_tok s f pos (by rw [size_len]; omega), t1, t2]
      simp only [itemP, List.nil_append]
      exact ih s (pos + 1) f hdrop hrest (by omega)
    | inr p =>
      simp only [itemB] at hf hlen hdrop h
      obtain ⟨t1, t2⟩ := tok_pick hx h
      have := hpl p
      obtain ⟨f, rfl⟩ : ∃ g, f = g + 1 := ⟨f - 1, by omega⟩
      rw [parseGo_tok s f pos (by rw [size_len]; omega), t1, t2]
      simp only [itemP]
      rw [ih s _ f hdrop hrest (by omega)]
      rfl

theorem parse_print {l : List (Int × Int)} (h : ∀ p ∈ l, rightP p = true) : parseO (printB l) = some l := by
  have := parse_items (l.map Sum.inr) (printB l) 0 (printB l).size (by rw [List.drop_zero, printB_bytes, List.flatMap_map]; rfl) (by
    intro x hx
    obtain ⟨p, hp, rfl⟩ := List.mem_map.1 hx
    exact h p hp) (by rw [size_len, printB_bytes, List.flatMap_map]; exact Nat.le_refl _)
  rw [parseO, this, List.flatMap_map]
  simp [itemP]
theorem print_inj {a b : List (Int × Int)} (ha : ∀ p ∈ a, rightP p = true) (hb : ∀ p ∈ b, rightP p = true) (h : printB a = printB b) : a = b := by
  have h1 := parse_print ha
  rw [h, parse_print hb] at h1
  exact (Option.some.inj h1).symm
theorem someL_right {xs : List Int} (h : ∀ x ∈ xs, 0 ≤ x ∧ x ≤ 255) : ∀ p ∈ someL xs, rightP p = true := by
  intro p hp
  obtain ⟨x, hx, rfl⟩ := List.mem_map.1 hp
  have := h x hx
  unfold someP
  split
  · rfl
  · split
    · simp [rightP]; omega
    · simp [rightP]; omega
end Go.Proofs.Ytkbaddopgdfafab
