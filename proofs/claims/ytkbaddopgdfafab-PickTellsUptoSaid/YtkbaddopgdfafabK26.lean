import Derived.Test.YtkbaddopgdfafabK25
import Derived.Outline
namespace Go.Proofs.Ytkbaddopgdfafab
open Go.RowKit Go.Proofs.Besom

theorem print_is {ps : List (Int × Int)} {b : ByteArray} (h : printB ps = b) {A : Option Addr} {n : Nat} (c : Nat) {w : World} (hr : Row w 2 A n (picksV ps)) (hn : n * 16 ≤ 140737488351232) :
    Calls Try.prog 17 #[.slice A n c] w fun e w' => e = .returned (.string b) ∧ Below w.heap.size w w' := print_ex ps b h A n c w hr hn
theorem same_is {xs ys : List (Int × Int)} {r : Bool} (h : decide (xs = ys) = r) {A B : Option Addr} {n m : Nat} (c d : Nat) {w : World} (hn : n ≤ 9223372036854775807) (hm : m ≤ 9223372036854775807) (ha : Row w 2 A n (picksV xs)) (hb : Row w 2 B m (picksV ys)) :
    Calls Try.prog 26 #[.slice A n c, .slice B m d] w fun e w' => e = .returned (.bool r) ∧ Below w.heap.size w w' := by
  have := same26 A B n m c d xs ys w hn hm ha hb
  rwa [h] at this
theorem pickB_le (p : Int × Int) : (pickB p).length ≤ 4 := by
  unfold pickB Utf8.encode
  simp only
  repeat' split
  all_goals simp
theorem printB_size (l : List (Int × Int)) : (printB l).size ≤ 4 * l.length := by
  rw [size_len, printB_bytes]
  induction l with
  | nil => simp
  | cons p r ih => have := pickB_le p; simp only [List.flatMap_cons, List.length_append, List.length_cons]; omega

set_option maxRecDepth 100000 in
set_option maxHeartbeats 6400000 in
theorem papart9 (A B : Option Addr) (na nb ca cb p q : Nat) (xs ys : List Int) (w : World) (ha : Row w 1 A na (xs.map (.int .u8))) (hb : Row w 1 B nb (ys.map (.int .u8))) (hna : na ≤ 140737488351232) (hnb : nb ≤ 140737488351232)
    (hca : na ≤ ca) (hcb : nb ≤ cb) (hxa : ∀ x ∈ xs, 0 ≤ x ∧ x ≤ 255) (hxb : ∀ x ∈ ys, 0 ≤ x ∧ x ≤ 255) (hp : na ≤ 500 ∧ p = na ∨ 500 < na ∧ p = 500) (hq : nb ≤ 500 ∧ q = nb ∨ 500 < nb ∧ q = 500) :
    Calls Try.prog 9 #[.slice A na ca, .slice B nb cb] w fun e w' => e = .returned (.bool true) ∧ Below w.heap.size w w' := by
  obtain ⟨i0, hi, hz0, hz1, hz2⟩ := info_parts Try.info32
  have hs1 := slice_upto (P := Try.prog) (t := 46) (e := 5) (size := 1) (hi := p) A Try.underlying46 (by kernel_rfl) (by omega) hca
  have hs2 := slice_upto (P := Try.prog) (t := 46) (e := 5) (size := 1) (hi := q) B Try.underlying46 (by kernel_rfl) (by omega) hcb
  have HA : Hid (Row w 1 A p ((xs.take p).map (.int .u8))) := Lib.hid (by have h := ha.upto (hi := p) (by omega); rwa [Nat.mul_one, ← List.map_take] at h)
  have HB : Hid (Row w 1 B q ((ys.take q).map (.int .u8))) := Lib.hid (by have h := hb.upto (hi := q) (by omega); rwa [Nat.mul_one, ← List.map_take] at h)
  have hx1 : ∀ x ∈ xs.take p, 0 ≤ x ∧ x ≤ 255 := fun x hx => hxa x (List.mem_of_mem_take hx)
  have hx2 : ∀ x ∈ ys.take q, 0 ≤ x ∧ x ≤ 255 := fun x hx => hxb x (List.mem_of_mem_take hx)
  have hR1 := someL_right hx1
  have hR2 := someL_right hx2
  have H1 := Lib.hid (fun w' hr => some25 A p ca (xs.take p) w' hr (by omega) hx1)
  have H2 := Lib.hid (fun w' hr => some25 B q cb (ys.take q) w' hr (by omega) hx2)
  have hinj := @print_inj _ _ hR1 hR2
  have hz1' := printB_size (someL (xs.take p))
  have hz2' := printB_size (someL (ys.take q))
  have hl1 : (someL (xs.take p)).length = p := by have h := HA.out.1; simp at h; simp [someL]; omega
  have hl2 : (someL (ys.take q)).length = q := by have h := HB.out.1; simp at h; simp [someL]; omega
  rw [hl1] at hz1'
  rw [hl2] at hz2'
  have happ := printB_app (someL (xs.take p)) (someL (ys.take q))
  clear ha hb hxa hxb hx1 hx2 hR1 hR2 hl1 hl2
  generalize someL (xs.take p) = X at *
  generalize someL (ys.take q) = Y at *
  generalize xs.take p = xs at *
  generalize ys.take q = ys at *
  obtain ⟨r, hr1, hr2⟩ : ∃ r : Bool, decide (X = Y) = r ∧ ((printB X).toList == (printB Y).toList) = r := by
    by_cases h : X = Y
    · exact ⟨true, by simp [h], by simp [h]⟩
    · refine ⟨false, by simp [h], ?_⟩
      rw [beq_eq_false_iff_ne]
      intro e
      rw [ByteArray.toList_eq, ByteArray.toList_eq] at e
      exact h (hinj (bytes_ext e))
  have hp5 : p ≤ 500 := by omega
  have hq5 : q ≤ 500 := by omega
  have HS := Lib.hid hr1
  have HX : Hid (printB X = printB X) := Lib.hid rfl
  have HP3 := Lib.hid happ
  clear hinj hr1 happ
  rcases hp with ⟨hp, rfl⟩ | ⟨hp, rfl⟩
  all_goals rcases hq with ⟨hq, rfl⟩ | ⟨hq, rfl⟩
  all_goals
    go_enter Try.func9, Try.ntmps9
    go_wp2_with fail
    refine (examples10 _).mono ?_
    rintro e w1 ⟨rfl, b1⟩
    have HB1 := Lib.hid b1
    clear b1
    go_wp2_with fail
    refine (H1.out w1 (HA.out.below HB1.out)).mono ?_
    rintro e w2 ⟨v1, rfl, o1, b2⟩
    obtain ⟨A2, c2, rfl, r1⟩ := own_row o1
    have O1 := Lib.hid r1
    have HB2 := Lib.hid (HB1.out.trans (b2.mono HB1.out.size))
    clear b2 o1 r1
    go_wp2_with fail
    refine (H2.out w2 (HB.out.below HB2.out)).mono ?_
    rintro e w3 ⟨v2, rfl, o2, b3⟩
    obtain ⟨B2, d2, rfl, r2⟩ := own_row o2
    have O2 := Lib.hid r2
    have O1' := Lib.hid (O1.out.below b3)
    have HB3 := Lib.hid (HB2.out.trans (b3.mono HB2.out.size))
    clear b3 o2 r2
    have hX1 := Lib.hid (picks_one X)
    have hY1 := Lib.hid (picks_one Y)
    go_wp2_with (first
      | (at_builtin; refine wpList_append_row _ rfl (.const (.slice none 0 0)) (.tmp 24) 22 rfl w3.heap.size 32 i0 _ 2 16 Try.underlying22 hi hz0 hz1 hz2 rfl (by decide) (.slice none 0 0) 0 [] rfl (World.ownsRow_nil _ _ _ _) A2 _ c2 (picksV X) rfl O1'.out hX1.out (by unfold maxLen; omega) (by omega) (Nat.le_refl _) ?_; intro v4 w4 o4 g4 at4; have HB4 := Lib.hid (below_of_nil g4); have O4 := Lib.hid o4; clear o4 g4 at4)
      | (at_builtin; refine wpList_append_row _ rfl (.tmp 25) (.tmp 26) 22 rfl w3.heap.size 32 i0 _ 2 16 Try.underlying22 hi hz0 hz1 hz2 rfl (by decide) v4 _ _ rfl O4.out B2 _ d2 (picksV Y) rfl (O2.out.below HB4.out) hY1.out (by unfold maxLen; omega) (by omega) HB4.out.size ?_; intro v5 w5 o5 g5 at5; have HB5 := Lib.hid (HB4.out.grown g5 HB4.out.size (fun g hg => (O4.out.lt g hg).1)); obtain ⟨B5, c5, rfl, r5⟩ := own_row o5; have O5 : Hid (Row w5 2 B5 _ (picksV (X ++ Y))) := Lib.hid (by rw [picksV_app]; simpa using r5); have OX := Lib.hid (O1'.out.below HB5.out); have OY := Lib.hid (O2.out.below HB5.out); have HW5 := Lib.hid (HB3.out.trans (HB5.out.mono HB3.out.size)); clear o5 r5 g5 at5 O4 HB4 HB5))
    refine (print_is (ps := X) rfl _ OX.out (by omega)).mono ?_
    rintro e w6 ⟨rfl, b6⟩
    have HW6 := Lib.hid (HW5.out.trans (b6.mono HW5.out.size))
    have OX6 := Lib.hid (OX.out.below b6)
    have OY6 := Lib.hid (OY.out.below b6)
    have O6 := Lib.hid (O5.out.below b6)
    clear b6
    go_wp2_with fail
    refine (print_is (ps := Y) rfl _ OY6.out (by omega)).mono ?_
    rintro e w7 ⟨rfl, b7⟩
    have HW7 := Lib.hid (HW6.out.trans (b7.mono HW6.out.size))
    have OX7 := Lib.hid (OX6.out.below b7)
    have OY7 := Lib.hid (OY6.out.below b7)
    have O7 := Lib.hid (O6.out.below b7)
    clear b7
    go_wp2_with fail
    refine (same_is HS.out _ _ (by omega) (by omega) OX7.out OY7.out).mono ?_
    rintro e w8 ⟨rfl, b8⟩
    have HW8 := Lib.hid (HW7.out.trans (b8.mono HW7.out.size))
    have OX8 := Lib.hid (OX7.out.below b8)
    have OY8 := Lib.hid (OY7.out.below b8)
    have O8 := Lib.hid (O7.out.below b8)
    clear b8
    go_wp2_with fail
    refine (print_is (ps := X ++ Y) HP3.out _ O8.out (by omega)).mono ?_
    rintro e w9 ⟨rfl, b9⟩
    have HW9 := Lib.hid (HW8.out.trans (b9.mono HW8.out.size))
    have OX9 := Lib.hid (OX8.out.below b9)
    have OY9 := Lib.hid (OY8.out.below b9)
    clear b9
    go_wp2_with fail
    refine (print_is (ps := X) rfl _ OX9.out (by omega)).mono ?_
    rintro e wa ⟨rfl, ba⟩
    have HWa := Lib.hid (HW9.out.trans (ba.mono HW9.out.size))
    have OYa := Lib.hid (OY9.out.below ba)
    clear ba
    go_wp2_with fail
    refine (print_is (ps := Y) rfl _ OYa.out (by omega)).mono ?_
    rintro e wb ⟨rfl, bb⟩
    have HWb := Lib.hid (HWa.out.trans (bb.mono HWa.out.size))
    clear bb
    go_wp2_with fail
    go_ret
    exact ⟨rfl, HWb.out⟩
end Go.Proofs.Ytkbaddopgdfafab
