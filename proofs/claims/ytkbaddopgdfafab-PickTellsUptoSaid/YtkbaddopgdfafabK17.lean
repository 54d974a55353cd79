import Derived.Test.YtkbaddopgdfafabK16
namespace Go.Proofs.Ytkbaddopgdfafab
open Go.RowKit Go.Proofs.Besom

theorem picks_one (l : List (Int × Int)) : ∀ u ∈ picksV l, u.oneCell' = true := by
  intro u hu
  obtain ⟨o, _, ho⟩ := List.mem_flatMap.1 hu
  simp [pickC] at ho
  rcases ho with rfl | rfl <;> rfl
theorem known_app (n m : Int) (a b : List (Int × Int)) : knownL n m (a ++ b) = (knownL n m a && knownL n m b) := by simp [knownL]
theorem strange_mono {n m n' m' : Int} (h1 : n ≤ n') (h2 : m ≤ m') (p : Int × Int) (h : strangeP n' m' p = true) : strangeP n m p = true := by
  simp only [strangeP, Bool.or_eq_true, Bool.and_eq_true, decide_eq_true_eq] at h ⊢
  rcases h with (h | ⟨h, h'⟩) | ⟨h, h'⟩
  · exact .inl (.inl h)
  · exact .inl (.inr ⟨h, by omega⟩)
  · exact .inr ⟨h, by omega⟩
theorem known_mono {n m n' m' : Int} (h1 : n ≤ n') (h2 : m ≤ m') {l : List (Int × Int)} (h : knownL n m l = true) : knownL n' m' l = true := by
  unfold knownL at h ⊢
  cases hx : l.any (strangeP n' m')
  · rfl
  · obtain ⟨p, hp, hs⟩ := List.any_eq_true.1 hx
    rw [List.any_eq_true.2 ⟨p, hp, strange_mono h1 h2 p hs⟩] at h
    cases h

theorem known_is {n m : Int} {ps : List (Int × Int)} {b : Bool} (h : knownL n m ps = b) {A : Option Addr} {len : Nat} (cap : Nat) {w : World} (hr : Row w 2 A len (picksV ps)) (hn : len * 16 ≤ 140737488351232) :
    Calls Try.prog 19 #[.slice A len cap, .int .i64 n, .int .i64 m] w fun e w' => e = .returned (.bool b) ∧ Below w.heap.size w w' := known_ex n m ps b h A len cap w hr hn

set_option maxRecDepth 100000 in
set_option maxHeartbeats 3200000 in
theorem pknown8 (A B : Option Addr) (na nb ca cb : Nat) (a b : List (Int × Int)) (n m : Int) (w : World) (ha : Row w 2 A na (picksV a)) (hb : Row w 2 B nb (picksV b)) (hs : (na + nb) * 16 ≤ 140737488351232) (g1 : 0 ≤ n) (l1 : n ≤ 255) (g2 : 0 ≤ m) (l2 : m ≤ 255) :
    Calls Try.prog 8 #[.slice A na ca, .slice B nb cb, .int .u8 n, .int .u8 m] w fun e w' => e = .returned (.bool true) ∧ Below w.heap.size w w' := by
  obtain ⟨i0, hi, hz0, hz1, hz2⟩ := info_parts Try.info32
  have HA := Lib.hid ha
  have HB := Lib.hid hb
  have hab := known_app (n % 20) (m % 20) a b
  have HAB := Lib.hid hab
  clear ha hb hab
  go_enter Try.func8, Try.ntmps8
  go_wp2_with fail
  refine (examples10 _).mono ?_
  rintro e w1 ⟨rfl, b1⟩
  have HB1 := Lib.hid b1
  clear b1
  go_wp2_with (first
    | (at_builtin; refine wpList_append_row _ rfl (.const (.slice none 0 0)) (.tmp 17) 22 rfl w1.heap.size 32 i0 _ 2 16 Try.underlying22 hi hz0 hz1 hz2 rfl (by decide) (.slice none 0 0) 0 [] rfl (World.ownsRow_nil _ _ _ _) A na ca (picksV a) rfl (HA.out.below HB1.out) (picks_one a) (by unfold maxLen; omega) (by omega) (Nat.le_refl _) ?_; intro v4 w4 o4 g4 at4; have HB4 := Lib.hid (below_of_nil g4); have O4 := Lib.hid o4; clear o4 g4 at4)
    | (at_builtin; refine wpList_append_row _ rfl (.tmp 18) (.tmp 19) 22 rfl w1.heap.size 32 i0 _ 2 16 Try.underlying22 hi hz0 hz1 hz2 rfl (by decide) v4 (0 + na) ([] ++ picksV a) rfl O4.out B nb cb (picksV b) rfl ((HB.out.below HB1.out).below HB4.out) (picks_one b) (by unfold maxLen; omega) (by omega) HB4.out.size ?_; intro v5 w5 o5 g5 at5; have HB5 := Lib.hid (HB4.out.grown g5 HB4.out.size (fun g hg => (O4.out.lt g hg).1)); obtain ⟨B5, e5, rfl, ho5⟩ := own_row o5; have O5 := Lib.hid ho5; clear o5 g5 at5 ho5))
  have Hw5 := Lib.hid (HB1.out.trans (HB5.out.mono HB1.out.size))
  have O6 : Hid (Row w5 2 B5 (na + nb) (picksV (a ++ b))) := Lib.hid (by have h := O5.out; rw [List.nil_append, ← picksV_app, Nat.zero_add] at h; exact h)
  have HAw := Lib.hid (HA.out.below Hw5.out)
  have HBw := Lib.hid (HB.out.below Hw5.out)
  clear O5 O4 HB4 HB5 HB1
  cases hka : knownL (n % 20) (m % 20) a
  · have hkk : knownL (n % 20) (m % 20) (a ++ b) = false := by rw [HAB.out, hka]; rfl
    have KA := Lib.hid hka
    have KK := Lib.hid hkk
    clear hka hkk
    refine (known_is (n := n % 20) (m := m % 20) (ps := a ++ b) KK.out _ O6.out (by omega)).mono ?_
    rintro e w6 ⟨rfl, bb⟩
    have Hw6 := Lib.hid (Hw5.out.trans (bb.mono Hw5.out.size))
    have HA6 := Lib.hid (HAw.out.below bb)
    clear bb
    go_wp2_with fail
    refine (known_is (n := n % 20) (m := m % 20) (ps := a) KA.out _ HA6.out (by omega)).mono ?_
    rintro e w7 ⟨rfl, bb⟩
    have Hw7 := Lib.hid (Hw6.out.trans (bb.mono Hw6.out.size))
    clear bb
    go_wp2_with fail
    go_ret
    exact ⟨rfl, Hw7.out⟩
  · cases hkb : knownL (n % 20) (m % 20) b
    · have hkk : knownL (n % 20) (m % 20) (a ++ b) = false := by rw [HAB.out, hka, hkb]; rfl
      have KA := Lib.hid hka
      have KB := Lib.hid hkb
      have KK := Lib.hid hkk
      clear hka hkb hkk
      refine (known_is (n := n % 20) (m := m % 20) (ps := a ++ b) KK.out _ O6.out (by omega)).mono ?_
      rintro e w6 ⟨rfl, bb⟩
      have Hw6 := Lib.hid (Hw5.out.trans (bb.mono Hw5.out.size))
      have HA6 := Lib.hid (HAw.out.below bb)
      have HB6 := Lib.hid (HBw.out.below bb)
      clear bb
      go_wp2_with fail
      refine (known_is (n := n % 20) (m := m % 20) (ps := a) KA.out _ HA6.out (by omega)).mono ?_
      rintro e w7 ⟨rfl, bb⟩
      have Hw7 := Lib.hid (Hw6.out.trans (bb.mono Hw6.out.size))
      have HB7 := Lib.hid (HB6.out.below bb)
      clear bb
      go_wp2_with fail
      refine (known_is (n := n % 20) (m := m % 20) (ps := b) KB.out _ HB7.out (by omega)).mono ?_
      rintro e w8 ⟨rfl, bb⟩
      have Hw8 := Lib.hid (Hw7.out.trans (bb.mono Hw7.out.size))
      clear bb
      go_wp2_with fail
      go_ret
      exact ⟨rfl, Hw8.out⟩
    · have hkk : knownL (n % 20) (m % 20) (a ++ b) = true := by rw [HAB.out, hka, hkb]; rfl
      have KA := Lib.hid hka
      have KB := Lib.hid hkb
      have KK := Lib.hid hkk
      have K1 := Lib.hid (known_mono (n' := n % 20 + 1) (m' := m % 20) (by omega) (by omega) hkk)
      have K2 := Lib.hid (known_mono (n' := n % 20) (m' := m % 20 + 1) (by omega) (by omega) hkk)
      clear hka hkb hkk
      refine (known_is (n := n % 20) (m := m % 20) (ps := a ++ b) KK.out _ O6.out (by omega)).mono ?_
      rintro e w6 ⟨rfl, bb⟩
      have Hw6 := Lib.hid (Hw5.out.trans (bb.mono Hw5.out.size))
      have HA6 := Lib.hid (HAw.out.below bb)
      have HB6 := Lib.hid (HBw.out.below bb)
      have HO6 := Lib.hid (O6.out.below bb)
      clear bb
      go_wp2_with fail
      refine (known_is (n := n % 20) (m := m % 20) (ps := a) KA.out _ HA6.out (by omega)).mono ?_
      rintro e w7 ⟨rfl, bb⟩
      have Hw7 := Lib.hid (Hw6.out.trans (bb.mono Hw6.out.size))
      have HB7 := Lib.hid (HB6.out.below bb)
      have HO7 := Lib.hid (HO6.out.below bb)
      clear bb
      go_wp2_with fail
      refine (known_is (n := n % 20) (m := m % 20) (ps := b) KB.out _ HB7.out (by omega)).mono ?_
      rintro e w8 ⟨rfl, bb⟩
      have Hw8 := Lib.hid (Hw7.out.trans (bb.mono Hw7.out.size))
      have HO8 := Lib.hid (HO7.out.below bb)
      clear bb
      go_wp2_with fail
      refine (known_is (n := n % 20 + 1) (m := m % 20) (ps := a ++ b) K1.out _ HO8.out (by omega)).mono ?_
      rintro e w9 ⟨rfl, bb⟩
      have Hw9 := Lib.hid (Hw8.out.trans (bb.mono Hw8.out.size))
      have HO9 := Lib.hid (HO8.out.below bb)
      clear bb
      go_wp2_with fail
      refine (known_is (n := n % 20) (m := m % 20 + 1) (ps := a ++ b) K2.out _ HO9.out (by omega)).mono ?_
      rintro e wa ⟨rfl, bb⟩
      have Hwa := Lib.hid (Hw9.out.trans (bb.mono Hw9.out.size))
      clear bb
      go_wp2_with fail
      go_ret
      exact ⟨rfl, Hwa.out⟩
end Go.Proofs.Ytkbaddopgdfafab
