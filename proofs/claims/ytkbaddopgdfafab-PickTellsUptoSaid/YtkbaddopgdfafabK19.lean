import Derived.Test.YtkbaddopgdfafabK18
namespace Go.Proofs.Ytkbaddopgdfafab
open Go.RowKit Go.Proofs.Besom

theorem cntA_window (ps : List (Int × Int)) (s K : Nat) (p : Int × Int) : cntA ps K (s + K) p = (((ps.drop s).take K).count p : Int) := by
  have e : s + K - K = s := by omega
  have h : ps.take (s + K) = ps.take s ++ (ps.drop s).take K := by rw [List.take_add]
  unfold cntA
  rw [e, h, List.count_append]
  omega

def FairOk (n m : Int) (K : Nat) (ps : List (Int × Int)) : Prop := ∀ s, s + K ≤ ps.length → ∀ p ∈ roundL n m, p ∈ (ps.drop s).take K

theorem fair_iff (n m k : Int) (ps : List (Int × Int)) : fairL n m k ps = true ↔ 1 ≤ k ∧ ((ps.length : Int) < k ∨ (n ≤ 16 ∧ m ≤ 16 ∧ FairOk n m k.toNat ps)) := by
  unfold fairL
  by_cases h1 : k < 1 ∨ k > ps.length
  · rw [if_pos h1, decide_eq_true_eq]
    constructor
    · intro h; exact ⟨by omega, .inl (by omega)⟩
    · intro h; omega
  · rw [if_neg h1]
    by_cases h2 : n > 16 ∨ m > 16
    · rw [if_pos h2]
      constructor
      · intro h; cases h
      · rintro ⟨_, h | h⟩ <;> omega
    · rw [if_neg h2]
      rw [Bool.not_eq_true', List.any_eq_false]
      constructor
      · intro h
        refine ⟨by omega, .inr ⟨by omega, by omega, fun s hs p hp => ?_⟩⟩
        have := h (s + k.toNat - 1) (List.mem_range.2 (by omega))
        have e : s + k.toNat - 1 + 1 = s + k.toNat := by omega
        simp only [gapB, e, Bool.and_eq_true, decide_eq_true_eq, not_and] at this
        have h3 := this (by omega)
        rw [List.any_eq_true] at h3
        have h4 : ¬ zeroAt (cntA ps k.toNat (s + k.toNat)) p = true := fun hz => h3 ⟨p, hp, hz⟩
        rw [zeroAt, cntA_window] at h4
        refine List.count_pos_iff.1 ?_
        simp only [beq_iff_eq] at h4
        omega
      · rintro ⟨_, h | ⟨_, _, h⟩⟩
        · omega
        · intro i hi
          rw [List.mem_range] at hi
          simp only [gapB, Bool.and_eq_true, decide_eq_true_eq, not_and]
          intro hk ha
          obtain ⟨p, hp, hz⟩ := List.any_eq_true.1 ha
          have e : i + 1 = (i + 1 - k.toNat) + k.toNat := by omega
          have hm := h (i + 1 - k.toNat) (by omega) p hp
          rw [zeroAt, e, cntA_window] at hz
          have := List.count_pos_iff.2 hm
          simp only [beq_iff_eq] at hz
          omega

theorem few_mono {n n' : Int} (h : n ≤ n') : few n ≤ few n' := by unfold few; omega
theorem roundL_mono {n m n' m' : Int} (h1 : n ≤ n') (h2 : m ≤ m') {p : Int × Int} (h : p ∈ roundL n m) : p ∈ roundL n' m' := by
  have := few_mono h1
  have := few_mono h2
  simp only [roundL, workers, mutators, List.mem_cons, List.mem_append, List.mem_map, List.mem_range] at h ⊢
  rcases h with h | ⟨j, hj, h⟩ | ⟨j, hj, h⟩
  · exact .inl h
  · exact .inr (.inl ⟨j, by omega, h⟩)
  · exact .inr (.inr ⟨j, by omega, h⟩)

theorem mem_take_mono {α : Type} {p : α} {K K' : Nat} (h : K ≤ K') {l : List α} (hp : p ∈ l.take K) : p ∈ l.take K' := by
  rw [show l.take K = (l.take K').take K by rw [List.take_take, Nat.min_eq_left h]] at hp
  exact List.mem_of_mem_take hp

theorem fair_more {n m k : Int} {ps : List (Int × Int)} (h : fairL n m k ps = true) : fairL n m (k + 1) ps = true := by
  rw [fair_iff] at h ⊢
  obtain ⟨h1, h2⟩ := h
  refine ⟨by omega, ?_⟩
  rcases h2 with h2 | ⟨h2, h3, h4⟩
  · exact .inl (by omega)
  · refine .inr ⟨h2, h3, fun s hs p hp => mem_take_mono (K := k.toNat) (by omega) (h4 s (by omega) p hp)⟩
theorem fair_less {n m n' m' k : Int} {ps : List (Int × Int)} (h1 : n' ≤ n) (h2 : m' ≤ m) (h : fairL n m k ps = true) : fairL n' m' k ps = true := by
  rw [fair_iff] at h ⊢
  obtain ⟨h3, h4⟩ := h
  refine ⟨by omega, ?_⟩
  rcases h4 with h4 | ⟨h4, h5, h6⟩
  · exact .inl (by omega)
  · exact .inr ⟨by omega, by omega, fun s hs p hp => h6 s hs p (roundL_mono h1 h2 hp)⟩
theorem fair_part {n m k : Int} {ps : List (Int × Int)} (a : Nat) (h : fairL n m k ps = true) : fairL n m k (ps.drop a) = true := by
  rw [fair_iff] at h ⊢
  obtain ⟨h3, h4⟩ := h
  refine ⟨by omega, ?_⟩
  rcases h4 with h4 | ⟨h4, h5, h6⟩
  · exact .inl (by rw [List.length_drop]; omega)
  · by_cases hl : ((ps.drop a).length : Int) < k
    · exact .inl hl
    · refine .inr ⟨h4, h5, fun s hs p hp => ?_⟩
      rw [List.length_drop] at hs hl
      have := h6 (a + s) (by omega) p hp
      rwa [List.drop_drop]

theorem fair_is {n m k : Int} {ps : List (Int × Int)} {b : Bool} (h : fairL n m k ps = b) {A : Option Addr} {len : Nat} (cap : Nat) {w : World} (hr : Row w 2 A len (picksV ps)) (hn : len * 16 ≤ 140737488351232) (hw : ∀ p ∈ ps, wfP p) :
    Calls Try.prog 21 #[.slice A len cap, .int .i64 n, .int .i64 m, .int .i64 k] w fun e w' => e = .returned (.bool b) ∧ Below w.heap.size w w' := fair_ex n m k ps b h A len cap w hr hn hw

set_option maxRecDepth 100000 in
set_option maxHeartbeats 3200000 in
theorem pfair7 (A : Option Addr) (len cap : Nat) (ps : List (Int × Int)) (n m k t : Int) (w : World) (hr : Row w 2 A len (picksV ps)) (hn : len * 16 ≤ 140737488351232) (hc : len ≤ cap) (hw : ∀ p ∈ ps, wfP p)
    (g1 : 0 ≤ n) (l1 : n ≤ 255) (g2 : 0 ≤ m) (l2 : m ≤ 255) (g3 : 0 ≤ k) (l3 : k ≤ 255) (g4 : 0 ≤ t) (l4 : t ≤ 255) :
    Calls Try.prog 7 #[.slice A len cap, .int .u8 n, .int .u8 m, .int .u8 k, .int .u8 t] w fun e w' => e = .returned (.bool true) ∧ Below w.heap.size w w' := by
  have HR := Lib.hid hr
  have HW := Lib.hid hw
  have hlo : t % ((len : Int) + 1) = ((t.toNat % (len + 1) : Nat) : Int) := by
    rw [Int.natCast_emod, Int.toNat_of_nonneg g4]; rfl
  have hle : t.toNat % (len + 1) ≤ len := by have := Nat.mod_lt t.toNat (show 0 < len + 1 by omega); omega
  obtain ⟨A', c', hsl, hrow⟩ := slice_from (P := Try.prog) (t := 22) (e := 32) (size := 2) A Try.underlying22 (by kernel_rfl) hle hc
  have HRow := Lib.hid hrow
  have hlen : ps.length = len := by have := hr.1; rw [picksV_len] at this; omega
  generalize t.toNat % (len + 1) = lo at *
  clear hr hw hrow
  cases hf : fairL (n % 5) (m % 5) (k % 40) ps
  · have HF := Lib.hid hf
    clear hf hlen
    go_enter Try.func7, Try.ntmps7
    go_wp2_with fail
    refine (examples10 _).mono ?_
    rintro e w1 ⟨rfl, b1⟩
    have HB1 := Lib.hid b1
    clear b1
    go_wp2_with fail
    refine (fair_is HF.out _ (HR.out.below HB1.out) hn HW.out).mono ?_
    rintro e w2 ⟨rfl, b2⟩
    have HB2 := Lib.hid (HB1.out.trans (b2.mono HB1.out.size))
    clear b2
    go_wp2_with fail
    go_ret
    exact ⟨rfl, HB2.out⟩
  · have HF := Lib.hid hf
    have HF1 := Lib.hid (fair_more hf)
    have HF2 := Lib.hid (fair_less (n' := n % 5 - 1) (m' := m % 5) (by omega) (by omega) hf)
    have HF3 := Lib.hid (fair_less (n' := n % 5) (m' := m % 5 - 1) (by omega) (by omega) hf)
    have HF4 := Lib.hid (fair_part lo hf)
    clear hf hlen
    go_enter Try.func7, Try.ntmps7
    go_wp2_with fail
    refine (examples10 _).mono ?_
    rintro e w1 ⟨rfl, b1⟩
    have HB1 := Lib.hid b1
    clear b1
    go_wp2_with fail
    refine (fair_is HF.out _ (HR.out.below HB1.out) hn HW.out).mono ?_
    rintro e w2 ⟨rfl, b2⟩
    have HB2 := Lib.hid (HB1.out.trans (b2.mono HB1.out.size))
    clear b2
    go_wp2_with fail
    refine (fair_is HF1.out _ (HR.out.below HB2.out) hn HW.out).mono ?_
    rintro e w3 ⟨rfl, b3⟩
    have HB3 := Lib.hid (HB2.out.trans (b3.mono HB2.out.size))
    clear b3
    go_wp2_with fail
    refine (fair_is HF2.out _ (HR.out.below HB3.out) hn HW.out).mono ?_
    rintro e w4 ⟨rfl, b4⟩
    have HB4 := Lib.hid (HB3.out.trans (b4.mono HB3.out.size))
    clear b4
    go_wp2_with fail
    refine (fair_is HF3.out _ (HR.out.below HB4.out) hn HW.out).mono ?_
    rintro e w5 ⟨rfl, b5⟩
    have HB5 := Lib.hid (HB4.out.trans (b5.mono HB4.out.size))
    clear b5
    go_wp2_with fail
    refine (fair_is HF4.out _ (by have h := HRow.out _ _ (HR.out.below HB5.out); rwa [picks_drop] at h) (by omega) (fun p hp => HW.out p (List.mem_of_mem_drop hp))).mono ?_
    rintro e w6 ⟨rfl, b6⟩
    have HB6 := Lib.hid (HB5.out.trans (b6.mono HB5.out.size))
    clear b6
    go_wp2_with fail
    go_ret
    exact ⟨rfl, HB6.out⟩
end Go.Proofs.Ytkbaddopgdfafab
