import Derived.Test.YtkbaddopgdfafabK26
import Derived.Outline
namespace Go.Proofs.Ytkbaddopgdfafab
open Go.RowKit Go.Proofs.Besom

def blanksI (L : List (Int × Int)) : List Item := L.flatMap fun p => [.inl 32, .inl 10, .inr p]
def txt (L : List (Int × Int)) : ByteArray := ⟨((blanksI L).flatMap itemB).toArray⟩
theorem txt_snoc (L : List (Int × Int)) (p : Int × Int) : txt (L ++ [p]) = txt L ++ ⟨#[32, 10]⟩ ++ printB [p] := by
  apply bytes_ext
  rw [ByteArray.data_append, Array.toList_append, ByteArray.data_append, Array.toList_append, printB_bytes]
  simp [txt, blanksI, itemB]
theorem txt_nil : txt [] = ⟨#[]⟩ := rfl
theorem txt_size (L : List (Int × Int)) : (txt L).size ≤ 6 * L.length := by
  rw [size_len]
  simp only [txt]
  induction L with
  | nil => simp [blanksI]
  | cons p r ih =>
    have := pickB_le p
    simp only [blanksI, List.flatMap_cons, List.flatMap_append, List.length_append, List.length_cons, itemB, List.flatMap_nil, List.length_nil, List.append_nil] at ih ⊢
    omega
theorem txt_parse {L : List (Int × Int)} (h : ∀ p ∈ L, rightP p = true) : parseO (txt L) = some L := by
  have := parse_items (blanksI L) (txt L) 0 (txt L).size (by simp [txt]) (by
    intro x hx
    obtain ⟨p, hp, hx⟩ := List.mem_flatMap.1 hx
    simp at hx
    rcases hx with rfl | rfl | rfl
    · exact .inl rfl
    · exact .inr rfl
    · exact h p hp) (by rw [size_len]; simp [txt])
  rw [parseO, this]
  congr 1
  clear this h
  induction L with
  | nil => rfl
  | cons p r ih => simp only [blanksI, List.flatMap_cons, List.flatMap_append] at ih ⊢; rw [ih]; rfl
theorem out_of {s : ByteArray} {L : List (Int × Int)} (h : parseO s = some L) (hl : L.length ≤ 100000) : outP s = L ∧ errP s = 0 := by
  have h' : ¬ 100000 < L.length := by omega
  simp [outP, errP, h, outO, errO, h']

theorem parse_is {s : ByteArray} {l : List (Int × Int)} {er : Int} (h : outP s = l ∧ errP s = er) (hs : s.size * 16 ≤ 140737488351232) {w : World} :
    Calls Try.prog 11 #[.string s] w fun e w' => ∃ v, e = .returned (.tuple #[v, .int .i64 er]) ∧ w'.ownsRow w.heap.size 32 2 v l.length (picksV l) ∧ Below w.heap.size w w' := parse_ex s l er h hs w

set_option maxRecDepth 100000 in
set_option maxHeartbeats 6400000 in
theorem pback4 (A : Option Addr) (n c q m : Nat) (xs : List Int) (w : World) (ha : Row w 1 A n (xs.map (.int .u8))) (hn : n ≤ 140737488351232)
    (hc : n ≤ c) (hx : ∀ x ∈ xs, 0 ≤ x ∧ x ≤ 255) (hq : n ≤ 3000 ∧ q = n ∨ 3000 < n ∧ q = 3000) (hm : q ≤ 300 ∧ m = q ∨ 300 < q ∧ m = 300) :
    Calls Try.prog 4 #[.slice A n c] w fun e w' => e = .returned (.bool true) ∧ Below w.heap.size w w' := by
  have hs1 := slice_upto (P := Try.prog) (t := 46) (e := 5) (size := 1) (hi := q) A Try.underlying46 (by kernel_rfl) (by omega) hc
  have HA : Hid (Row w 1 A q ((xs.take q).map (.int .u8))) := Lib.hid (by have h := ha.upto (hi := q) (by omega); rwa [Nat.mul_one, ← List.map_take] at h)
  have hx1 : ∀ x ∈ xs.take q, 0 ≤ x ∧ x ≤ 255 := fun x hx' => hx x (List.mem_of_mem_take hx')
  have hR := someL_right hx1
  have H1 := Lib.hid (fun w' hr => some25 A q c (xs.take q) w' hr (by omega) hx1)
  have hz := printB_size (someL (xs.take q))
  have hl : (someL (xs.take q)).length = q := by have h := HA.out.1; simp at h; simp [someL]; omega
  rw [hl] at hz
  have HP1 := Lib.hid (out_of (parse_print hR) (by rw [hl]; omega))
  have hml : ((someL (xs.take q)).take m).length = m := by rw [List.length_take, hl]; omega
  have HP2 := Lib.hid (out_of (txt_parse (L := (someL (xs.take q)).take m) (fun p hp => hR p (List.mem_of_mem_take hp))) (by rw [hml]; omega))
  have HTS := Lib.hid (fun k => txt_size ((someL (xs.take q)).take k))
  have HL := Lib.hid hl
  clear ha hx hx1 hR hl hml
  generalize someL (xs.take q) = X at *
  generalize xs.take q = xs at *
  have hq5 : q ≤ 3000 := by omega
  have hm5 : m ≤ 300 := by omega
  have hmq : m ≤ q := by omega
  have HE := Lib.hid (show m = q ∨ m = 300 by omega)
  have HS2 := Lib.hid (fun A2 c2 (hc2 : q ≤ c2) => slice_upto (P := Try.prog) (t := 22) (e := 32) (size := 2) (hi := m) A2 Try.underlying22 (by kernel_rfl) hmq hc2)
  have HQ1 : Hid (n ≤ 3000 → ∀ w, (Instr.slice 46 (.slice A n c) none (some (.int .i64 n)) none).run Try.prog w = .ok (.slice A q c) w) := Lib.hid (fun h => by
    have e : q = n := by omega
    rw [e] at hs1; rw [e]; exact hs1)
  have HQ2 : Hid (3000 < n → ∀ w, (Instr.slice 46 (.slice A n c) none (some (.int .i64 3000)) none).run Try.prog w = .ok (.slice A q c) w) := Lib.hid (fun h => by
    have e : q = 3000 := by omega
    rw [e] at hs1; rw [e]; exact hs1)
  have HM1 : Hid (q ≤ 300 → ∀ A2 c2, q ≤ c2 → ∀ w, (Instr.slice 22 (.slice A2 q c2) none (some (.int .i64 q)) none).run Try.prog w = .ok (.slice A2 m c2) w) := Lib.hid (fun h A2 c2 hc2 => by
    have e : m = q := by omega
    have := HS2.out A2 c2 hc2
    rw [e] at this; rw [e]; exact this)
  have HM2 : Hid (300 < q → ∀ A2 c2, q ≤ c2 → ∀ w, (Instr.slice 22 (.slice A2 q c2) none (some (.int .i64 300)) none).run Try.prog w = .ok (.slice A2 m c2) w) := Lib.hid (fun h A2 c2 hc2 => by
    have e : m = 300 := by omega
    have := HS2.out A2 c2 hc2
    rw [e] at this; rw [e]; exact this)
  have HQM := Lib.hid (And.intro hq hm)
  clear hs1 hm HS2
  have hqn : q ≤ n := by omega
  rcases (show (n ≤ 3000 ∧ q ≤ 300) ∨ (n ≤ 3000 ∧ 300 < q) ∨ (3000 < n ∧ 300 < q) by omega) with ⟨hn3, hq3⟩ | ⟨hn3, hq3⟩ | ⟨hn3, hq3⟩
  have hs1 := HQ1.out hn3
  have hs3 := Lib.hid (HM1.out hq3)
  have hmx : q ≤ m := by have := HQM.out.2; omega
  rotate_left
  have hs1 := HQ1.out hn3
  have hs3 := Lib.hid (HM2.out hq3)
  have hmx : 300 ≤ m := by have := HQM.out.2; omega
  rotate_left
  have hs1 := HQ2.out hn3
  have hs3 := Lib.hid (HM2.out hq3)
  have hmx : 300 ≤ m := by have := HQM.out.2; omega
  rotate_left
  all_goals
    clear hq HQ1 HQ2 HM1 HM2
    go_enter Try.func4, Try.ntmps4
    go_wp2_with fail
    refine (examples10 _).mono ?_
    rintro e w1 ⟨rfl, b1⟩
    have HB1 := Lib.hid b1
    clear b1
    go_wp2_with fail
    refine (H1.out w1 (HA.out.below HB1.out)).mono ?_
    rintro e w2 ⟨v1, rfl, o1, b2⟩
    obtain ⟨A2, c2, rfl, hc2, r1⟩ := own_row_cap o1
    have O1 := Lib.hid r1
    have HB2 := Lib.hid (HB1.out.trans (b2.mono HB1.out.size))
    have hs4 := hs3.out A2 c2 hc2
    clear b2 o1 r1
    go_wp2_with fail
    refine (print_is (ps := X) rfl _ O1.out (by omega)).mono ?_
    rintro e w3 ⟨rfl, b3⟩
    have HB3 := Lib.hid (HB2.out.trans (b3.mono HB2.out.size))
    have O2 := Lib.hid (O1.out.below b3)
    clear b3
    go_wp2_with fail
    refine (parse_is HP1.out (by omega)).mono ?_
    rintro e w4 ⟨v4, rfl, o4, b4⟩
    have HB4 := Lib.hid (HB3.out.trans (b4.mono HB3.out.size))
    have O3 := Lib.hid (O2.out.below b4)
    rw [HL.out] at o4
    obtain ⟨A4, c4, rfl, r4⟩ := own_row o4
    have O4 := Lib.hid r4
    clear b4 o4 r4
    go_wp2_with fail
    go_loopw [7, 8] (fun v i wr => ∃ k : Nat, k ≤ m ∧ v = .string (txt (X.take k)) ∧ i = .int .i64 k ∧ Hid (Below w4.heap.size w4 wr)) (fun _ i _ => m - (intOf i).toNat)
    case atStart => exact ⟨0, by omega, rfl, rfl, Lib.hid (Below.refl _ _)⟩
    case round =>
      obtain ⟨k, hk, rfl, rfl, HB⟩ := hrel
      have hts := HTS.out k
      have htk : (X.take k).length ≤ k := List.length_take_le _ _
      by_cases hlt : k < m
      · have hk1 : (k : Int) < (q : Int) := by omega
        have hk2 : (k : Int) < 300 := by omega
        have hkx : k < X.length := by have := HL.out; omega
        obtain ⟨A5, c5, hsl, hrow⟩ := slice_mid (P := Try.prog) (t := 22) (e := 32) (size := 2) (lo := k) (hi := k + 1) A2 Try.underlying22 (by kernel_rfl) (by omega) (show k + 1 ≤ q by omega) hc2
        have e1 : k + 1 - k = 1 := by omega
        rw [e1] at hsl hrow
        have hsl' : ∀ w, (Instr.slice 22 (.slice A2 q c2) (some (.int .i64 k)) (some (.int .i64 ((k : Int) + 1))) none).run Try.prog w = .ok (.slice A5 1 c5) w := fun w => by
          have h := hsl w
          have e : ((k + 1 : Nat) : Int) = (k : Int) + 1 := by omega
          rwa [e] at h
        clear hsl
        have R5 : Hid (Row wr 2 A5 1 (picksV [X[k]])) := Lib.hid (by
          have h := hrow wr _ (O3.out.below HB.out)
          rw [picks_drop, picks_take] at h
          have e2 : (X.drop k).take 1 = [X[k]] := by rw [List.drop_eq_getElem_cons hkx]; rfl
          rwa [e2] at h)
        have HT := Lib.hid (show txt (X.take (k + 1)) = txt (X.take k) ++ ⟨#[32, 10]⟩ ++ printB [X[k]] by rw [List.take_succ_eq_append_getElem hkx, txt_snoc])
        have hp4 := printB_size [X[k]]
        generalize X[k] = x at *
        clear hrow hkx e1
        go_wp2_with fail
        ((with_reducible refine (print_is (ps := [x]) rfl _ R5.out (by omega)).mono ?_))
        rintro e w5 ⟨rfl, b5⟩
        have HB5 := Lib.hid (HB.out.trans (b5.mono HB.out.size))
        clear b5
        have hp5 : (printB [x]).size ≤ 4 := hp4
        go_wp2_with fail
        go_roundw
        case rel => exact ⟨k + 1, by omega, by rw [HT.out], by go_num, HB5⟩
        case measure => simp [intOf]; omega
      · have hkm : k = m := by omega
        subst hkm
        have OM : Hid (Row wr 2 A2 k (picksV (X.take k))) := Lib.hid (by have h := (O3.out.below HB.out).upto (hi := k) hmq; rwa [picks_take] at h)
        have hml : (X.take k).length = k := by rw [List.length_take, HL.out]; omega
        have HML := Lib.hid hml
        have OX := Lib.hid (O3.out.below HB.out)
        have O4' := Lib.hid (O4.out.below HB.out)
        have HW := Lib.hid (HB4.out.trans (HB.out.mono HB4.out.size))
        clear hml
        go_wp2_with fail
        refine (parse_is HP2.out (by omega)).mono ?_
        rintro e w6 ⟨v6, rfl, o6, b6⟩
        rw [HML.out] at o6
        obtain ⟨A6, c6, rfl, r6⟩ := own_row o6
        have O6 := Lib.hid r6
        have HW6 := Lib.hid (HW.out.trans (b6.mono HW.out.size))
        have OX6 := Lib.hid (OX.out.below b6)
        have OM6 := Lib.hid (OM.out.below b6)
        have O46 := Lib.hid (O4'.out.below b6)
        clear b6 r6 o6
        go_wp2_with fail
        ((with_reducible refine (same_is (xs := X) (ys := X) (r := true) (by simp) _ _ (by omega) (by omega) O46.out OX6.out).mono ?_))
        rintro e w7 ⟨rfl, b7⟩
        have HW7 := Lib.hid (HW6.out.trans (b7.mono HW6.out.size))
        have OM7 := Lib.hid (OM6.out.below b7)
        have O67 := Lib.hid (O6.out.below b7)
        clear b7
        go_wp2_with fail
        ((with_reducible refine (same_is (xs := X.take k) (ys := X.take k) (r := true) (by simp) _ _ (by omega) (by omega) O67.out OM7.out).mono ?_))
        rintro e w8 ⟨rfl, b8⟩
        have HW8 := Lib.hid (HW7.out.trans (b8.mono HW7.out.size))
        clear b8
        go_wp2_with fail
        go_ret
        exact ⟨rfl, HW8.out⟩
end Go.Proofs.Ytkbaddopgdfafab
