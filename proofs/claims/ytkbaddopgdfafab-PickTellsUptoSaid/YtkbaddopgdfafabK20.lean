import Derived.Test.YtkbaddopgdfafabK19
namespace Go.Proofs.Ytkbaddopgdfafab
open Go.RowKit Go.Proofs.Besom

def rrr (r : List (Int × Int)) : List (Int × Int) := r ++ r ++ r
theorem rrr_len (r : List (Int × Int)) : (rrr r).length = 3 * r.length := by simp [rrr]; omega
theorem rrr_at (r : List (Int × Int)) (j c : Nat) (hj : j < r.length) (hc : c ≤ 2) : (rrr r)[j + c * r.length]? = r[j]? := by
  unfold rrr
  rcases (show c = 0 ∨ c = 1 ∨ c = 2 by omega) with rfl | rfl | rfl
  · rw [List.getElem?_append_left (by simp; omega), List.getElem?_append_left (by omega)]; congr 1; omega
  · rw [List.getElem?_append_left (by simp; omega), List.getElem?_append_right (by omega)]; congr 1; omega
  · rw [List.getElem?_append_right (by simp; omega)]; congr 1; simp; omega
theorem mem_win {l : List (Int × Int)} {u K i : Nat} {p : Int × Int} (h1 : u ≤ i) (h2 : i < u + K) (h : l[i]? = some p) : p ∈ (l.drop u).take K := by
  refine List.mem_iff_getElem?.2 ⟨i - u, ?_⟩
  rw [List.getElem?_take, if_pos (by omega), List.getElem?_drop, show u + (i - u) = i by omega, h]
theorem win_mem {l : List (Int × Int)} {u K : Nat} {p : Int × Int} (h : p ∈ (l.drop u).take K) : ∃ i, u ≤ i ∧ i < u + K ∧ l[i]? = some p := by
  obtain ⟨i, hi⟩ := List.mem_iff_getElem?.1 h
  rw [List.getElem?_take] at hi
  split at hi
  · rw [List.getElem?_drop] at hi
    exact ⟨u + i, by omega, by omega, hi⟩
  · cases hi

theorem rounds_fair {n m : Int} (hn : n ≤ 16) (hm : m ≤ 16) (t : Nat) {k : Int} (hk : ((roundL n m).length : Int) ≤ k) : fairL n m k ((rrr (roundL n m)).drop t) = true := by
  have hM : 0 < (roundL n m).length := by simp [roundL]
  rw [fair_iff]
  refine ⟨by omega, ?_⟩
  by_cases hl : (((rrr (roundL n m)).drop t).length : Int) < k
  · exact .inl hl
  refine .inr ⟨hn, hm, fun s hs p hp => ?_⟩
  generalize roundL n m = r at *
  rw [List.length_drop, rrr_len] at hs
  rw [List.drop_drop]
  obtain ⟨j, hj, rfl⟩ := List.getElem_of_mem hp
  refine mem_take_mono (K := r.length) (by omega) ?_
  have g := List.getElem?_eq_getElem hj
  by_cases h1 : t + s ≤ j
  · exact mem_win h1 (by omega) (i := j) (by have := rrr_at r j 0 hj (by omega); rw [Nat.zero_mul, Nat.add_zero] at this; rw [this, g])
  · by_cases h2 : t + s ≤ j + 1 * r.length
    · exact mem_win h2 (by omega) (by rw [rrr_at r j 1 hj (by omega), g])
    · exact mem_win (i := j + 2 * r.length) (by omega) (by omega) (by rw [rrr_at r j 2 hj (by omega), g])

theorem roundL_nodup (n m : Int) : (roundL n m).Nodup := by
  unfold roundL
  rw [List.nodup_cons, List.nodup_append]
  refine ⟨?_, ?_, ?_, ?_⟩
  · simp [workers, mutators]
  · unfold workers List.Nodup
    rw [List.pairwise_map]
    exact List.Pairwise.imp (fun {a b} h he => h (by simp at he; omega)) List.nodup_range
  · unfold mutators List.Nodup
    rw [List.pairwise_map]
    exact List.Pairwise.imp (fun {a b} h he => h (by simp at he; omega)) List.nodup_range
  · intro a ha b hb he
    subst he
    simp only [workers, mutators, List.mem_map] at ha hb
    obtain ⟨i, _, rfl⟩ := ha
    obtain ⟨j, _, h⟩ := hb
    simp at h

theorem rounds_unfair {n m : Int} (t : Nat) (ht : t < (roundL n m).length) (h2 : 2 ≤ (roundL n m).length) : fairL n m (((roundL n m).length : Int) - 1) ((rrr (roundL n m)).drop t) = false := by
  cases hf : fairL n m (((roundL n m).length : Int) - 1) ((rrr (roundL n m)).drop t)
  · rfl
  exfalso
  rw [fair_iff] at hf
  obtain ⟨h3, h4⟩ := hf
  have hnd := roundL_nodup n m
  rcases h4 with h4 | ⟨h4, h5, h6⟩
  · rw [List.length_drop, rrr_len] at h4; omega
  have hall := h6 0 (by rw [List.length_drop, rrr_len]; omega)
  clear h6
  have e : (((roundL n m).length : Int) - 1).toNat = (roundL n m).length - 1 := by omega
  rw [e] at hall
  generalize roundL n m = r at *
  have hg : (if t = 0 then r.length - 1 else t - 1) < r.length := by split <;> omega
  have hm := hall _ (List.getElem_mem hg)
  rw [List.drop_drop, Nat.add_zero] at hm
  obtain ⟨i, h7, h8, h9⟩ := win_mem hm
  have hat : ∃ j, ∃ hj : j < r.length, (rrr r)[i]? = some r[j] ∧ (j = i ∧ i < r.length ∨ j + r.length = i) := by
    by_cases hi : i < r.length
    · refine ⟨i, hi, ?_, .inl ⟨rfl, hi⟩⟩
      have := rrr_at r i 0 hi (by omega)
      rw [Nat.zero_mul, Nat.add_zero] at this
      rw [this, List.getElem?_eq_getElem hi]
    · have hj : i - r.length < r.length := by omega
      refine ⟨i - r.length, hj, ?_, .inr (by omega)⟩
      have := rrr_at r (i - r.length) 1 hj (by omega)
      rw [show i - r.length + 1 * r.length = i by omega] at this
      rw [this, List.getElem?_eq_getElem hj]
  obtain ⟨j, hj, h10, h11⟩ := hat
  rw [h10] at h9
  have h12 := (List.getElem_inj hnd).1 (Option.some.inj h9)
  split at h12 <;> omega

theorem known_round {n m : Int} (hn : n ≤ 16) (hm : m ≤ 16) : knownL n m (roundL n m) = true := by
  unfold knownL
  rw [Bool.not_eq_true', List.any_eq_false]
  intro p hp
  simp only [roundL, workers, mutators, List.mem_cons, List.mem_append, List.mem_map, List.mem_range] at hp
  rcases hp with rfl | ⟨j, hj, rfl⟩ | ⟨j, hj, rfl⟩
  · simp [strangeP, rightP]
  · have : (j : Int) + 1 ≤ n := by unfold few at hj; omega
    simp [strangeP, rightP]; omega
  · have : (j : Int) + 1 ≤ m := by unfold few at hj; omega
    simp [strangeP, rightP]; omega
theorem roundL_many {n m : Int} (h1 : 0 ≤ n) (h2 : n ≤ 16) (h3 : 0 ≤ m) (h4 : m ≤ 16) : ((roundL n m).length : Int) = 1 + n + m := by
  simp [roundL, workers_len, mutators_len, few]; omega
theorem rrr_wf (n m : Int) : ∀ p ∈ rrr (roundL n m), wfP p := by
  intro p hp
  simp only [rrr, List.mem_append] at hp
  rcases hp with (h | h) | h <;> exact roundL_wf n m p h
end Go.Proofs.Ytkbaddopgdfafab
