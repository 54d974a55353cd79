import Derived.Test.YtkbaddopgdfafabKR3
namespace Go.Proofs.Ytkbaddopgdfafab
open Go.RowKit Go.Proofs.Besom

theorem fair_no {n m : Int} {K : Nat} {ps : List (Int × Int)} {i : Nat} (h2 : i + K ≤ ps.length) (h : allB n m ((ps.drop i).take K) = false) : fairL n m K ps = false := by
  cases hf : fairL n m K ps
  · rfl
  · rw [fair_iff] at hf
    obtain ⟨h3, h4⟩ := hf
    rcases h4 with h4 | ⟨h4, h5, h6⟩
    · omega
    · have := h6 i (by simpa using h2)
      rw [Int.toNat_natCast] at this
      rw [allB, decide_eq_true ⟨h4, h5, this⟩] at h
      cases h
theorem fair_yes {n m : Int} {K : Nat} {ps : List (Int × Int)} (h1 : 1 ≤ K) (h2 : K ≤ ps.length) (h : ∀ i, i + K ≤ ps.length → allB n m ((ps.drop i).take K) = true) : fairL n m K ps = true := by
  rw [fair_iff]
  have h0 := of_decide_eq_true (h 0 (by omega))
  refine ⟨by omega, .inr ⟨h0.1, h0.2.1, fun s hs p hp => ?_⟩⟩
  rw [Int.toNat_natCast] at hs ⊢
  exact (of_decide_eq_true (h s hs)).2.2 p hp

theorem all_is {n m : Int} {ps : List (Int × Int)} {b : Bool} (h : allB n m ps = b) {A : Option Addr} {len : Nat} (c : Nat) {w : World} (hr : Row w 2 A len (picksV ps)) (hn : len * 16 ≤ 140737488351232) :
    Calls Try.prog 33 #[.slice A len c, .int .i64 n, .int .i64 m] w fun e w' => e = .returned (.bool b) ∧ Below w.heap.size w w' := by
  have := all33 n m ps A len c w hr hn
  unfold SamePost at this
  rwa [h] at this

set_option maxRecDepth 100000 in
set_option maxHeartbeats 3200000 in
theorem rfair22 (n m k : Int) (ps : List (Int × Int)) (A : Option Addr) (len c : Nat) (w : World) (hr : Row w 2 A len (picksV ps)) (hn : len * 16 ≤ 140737488351232) (hc : len ≤ c) (hk0 : -9223372036854775808 ≤ k) (hk1 : k ≤ 9223372036854775807) :
    Calls Try.prog 22 #[.slice A len c, .int .i64 n, .int .i64 m, .int .i64 k] w (SamePost w (fairL n m k ps)) := by
  have hl : ps.length = len := by have := hr.1; rw [picksV_len] at this; omega
  by_cases h1 : k < 1
  · have HT := Lib.hid (show false = fairL n m k ps by rw [fairL, if_pos (.inl h1)]; symm; simp; omega)
    clear hr hl
    go_enter Try.func22, Try.ntmps22
    go_wp2_with fail
    go_ret
    exact ⟨ret_bool HT.out, Below.refl _ _⟩
  · by_cases h2 : (len : Int) < k
    · have HT := Lib.hid (show true = fairL n m k ps by rw [fairL, if_pos (by rw [hl]; omega)]; symm; simp; omega)
      clear hr hl
      go_enter Try.func22, Try.ntmps22
      go_wp2_with fail
      go_loop [9] (fun i => i = .int .i64 0) (fun _ => 0)
      case atStart => exact rfl
      case round =>
        obtain rfl := hrel
        go_wp2_with fail
        go_ret
        exact ⟨ret_bool HT.out, Below.refl _ _⟩
    · obtain ⟨K, rfl⟩ := Int.eq_ofNat_of_zero_le (show 0 ≤ k by omega)
      have hK1 : 1 ≤ K := by omega
      have hK2 : K ≤ len := by omega
      have HR := Lib.hid hr
      have HN := Lib.hid (fun i h => @fair_no n m K ps i h)
      have HY := Lib.hid (fun h => @fair_yes n m K ps hK1 (by omega) h)
      have HL := Lib.hid hl
      clear hr hl
      go_enter Try.func22, Try.ntmps22
      go_wp2_with fail
      go_loopw [9] (fun i wr => ∃ t : Nat, t + K ≤ len + 1 ∧ i = .int .i64 t ∧ Hid (∀ i, i < t → allB n m ((ps.drop i).take K) = true) ∧ Hid (Below w.heap.size w wr)) (fun i _ => len + 1 - (intOf i).toNat)
      case atStart => exact ⟨0, by omega, rfl, Lib.hid (fun i hi => absurd hi (Nat.not_lt_zero i)), Lib.hid (Below.refl _ _)⟩
      case round =>
        obtain ⟨t, ht, rfl, HA, HB⟩ := hrel
        by_cases hlt : t + K ≤ len
        · have hlt' : (t : Int) ≤ (len : Int) - (K : Int) := by omega
          obtain ⟨A5, c5, hsl, hrow⟩ := slice_mid (P := Try.prog) (t := 27) (e := 34) (size := 2) (lo := t) (hi := t + K) A Try.underlying27 (by kernel_rfl) (by omega) hlt hc
          have e1 : t + K - t = K := by omega
          rw [e1] at hsl hrow
          have hsl' : ∀ w, (Instr.slice 27 (.slice A len c) (some (.int .i64 t)) (some (.int .i64 ((t : Int) + (K : Int)))) none).run Try.prog w = .ok (.slice A5 K c5) w := fun w => by
            have h := hsl w
            have e : ((t + K : Nat) : Int) = (t : Int) + (K : Int) := by omega
            rwa [e] at h
          have R5 : Hid (Row wr 2 A5 K (picksV ((ps.drop t).take K))) := Lib.hid (by
            have h := hrow wr _ (HR.out.below HB.out)
            rwa [picks_drop, picks_take] at h)
          clear hsl hrow e1
          cases hall : allB n m ((ps.drop t).take K)
          · have HT := Lib.hid (HN.out t (by rw [HL.out]; omega) hall)
            have HC := Lib.hid hall
            clear hall
            go_wp2_with fail
            ((with_reducible refine (all_is HC.out _ R5.out (by omega)).mono ?_))
            rintro e w2 ⟨rfl, b2⟩
            have HB2 := Lib.hid (HB.out.trans (b2.mono HB.out.size))
            clear b2
            go_wp2_with fail
            go_ret
            exact ⟨ret_bool HT.out.symm, HB2.out⟩
          · have HC := Lib.hid hall
            have HA2 := Lib.hid (show ∀ i, i < t + 1 → allB n m ((ps.drop i).take K) = true from fun i hi => by
              by_cases e : i = t
              · subst e; exact hall
              · exact HA.out i (by omega))
            clear hall
            go_wp2_with fail
            ((with_reducible refine (all_is HC.out _ R5.out (by omega)).mono ?_))
            rintro e w2 ⟨rfl, b2⟩
            have HB2 := Lib.hid (HB.out.trans (b2.mono HB.out.size))
            clear b2
            go_wp2_with fail
            go_roundw
            case rel => exact ⟨t + 1, by omega, by go_num, HA2, HB2⟩
            case measure => simp [intOf]; omega
        · have hlt' : ¬ (t : Int) ≤ (len : Int) - (K : Int) := by omega
          have HT := Lib.hid (HY.out (fun i hi => HA.out i (by have := HL.out; omega)))
          go_wp2_with fail
          go_ret
          exact ⟨ret_bool HT.out.symm, HB.out⟩
end Go.Proofs.Ytkbaddopgdfafab
