import Derived.Test.YtkbaddopgdfafabK11
namespace Go.Proofs.Ytkbaddopgdfafab
open Go.RowKit Go.Proofs.Besom

/-- How often p is among the last K of the first i. -/
def cntA (ps : List (Int × Int)) (K i : Nat) (p : Int × Int) : Int := ((ps.take i).count p : Int) - ((ps.take (i - K)).count p : Int)

theorem count_take_succ {ps : List (Int × Int)} {i : Nat} (h : i < ps.length) (p : Int × Int) : ((ps.take (i + 1)).count p : Int) = (ps.take i).count p + if p = ps[i] then 1 else 0 := by
  rw [List.take_succ_eq_append_getElem h, List.count_append, List.count_singleton]
  by_cases e : p = ps[i]
  · subst e; simp
  · have : (ps[i] == p) = false := by simpa using fun h => e h.symm
    simp [this, e]

theorem cntA_zero (ps : List (Int × Int)) (K : Nat) : cntA ps K 0 = fun _ => 0 := by funext p; simp [cntA]
theorem cntA_lo {ps : List (Int × Int)} {K i : Nat} (h : i < ps.length) (hk : i < K) : upd (cntA ps K i) ps[i] (cntA ps K i ps[i] + 1) = cntA ps K (i + 1) := by
  funext p
  have e1 : i - K = 0 := by omega
  have e2 : i + 1 - K = 0 := by omega
  simp only [upd, cntA, e1, e2, count_take_succ h]
  split
  · rename_i e; subst e; simp
  · simp
theorem cntA_hi {ps : List (Int × Int)} {K i : Nat} (h : i < ps.length) (hk : K ≤ i) (h2 : i - K < ps.length) :
    upd (upd (cntA ps K i) ps[i] (cntA ps K i ps[i] + 1)) ps[i - K] (upd (cntA ps K i) ps[i] (cntA ps K i ps[i] + 1) ps[i - K] - 1) = cntA ps K (i + 1) := by
  funext p
  have e2 : i + 1 - K = (i - K) + 1 := by omega
  simp only [upd, cntA, e2, count_take_succ h, count_take_succ h2]
  by_cases a : p = ps[i]
  · by_cases b : p = ps[i - K]
    · rw [if_pos b, ← b, if_pos a, if_pos a, ← a]; simp; omega
    · rw [if_neg b, if_pos a, if_pos a, ← a]; simp [b]; omega
  · by_cases b : p = ps[i - K]
    · rw [if_pos b, ← b, if_neg a, if_neg a]; simp; omega
    · rw [if_neg b, if_neg a, if_neg a]; simp [b]
theorem cntA_bd (ps : List (Int × Int)) (K i : Nat) (p : Int × Int) : -(ps.length : Int) ≤ cntA ps K i p ∧ cntA ps K i p ≤ ps.length := by
  have h1 : (ps.take i).count p ≤ ps.length := Nat.le_trans List.count_le_length (by simp; omega)
  have h2 : (ps.take (i - K)).count p ≤ ps.length := Nat.le_trans List.count_le_length (by simp; omega)
  unfold cntA
  omega
theorem upd_bd {f : Int × Int → Int} {B : Int} (h : ∀ p, -B ≤ f p ∧ f p ≤ B) (q p : Int × Int) : -B ≤ upd f q (f q + 1) p ∧ upd f q (f q + 1) p ≤ B + 1 := by
  unfold upd
  have := h p
  have := h q
  split <;> omega

/-- Behind the pick i: is one not met? -/
def gapB (n m : Int) (ps : List (Int × Int)) (K i : Nat) : Bool := decide (K ≤ i + 1) && (roundL n m).any (zeroAt (cntA ps K (i + 1)))
def fairL (n m k : Int) (ps : List (Int × Int)) : Bool :=
  if k < 1 ∨ k > ps.length then decide (0 < k) else if n > 16 ∨ m > 16 then false else !(List.range ps.length).any (gapB n m ps k.toNat)

theorem roundL_wf (n m : Int) : ∀ p ∈ roundL n m, wfP p := by
  intro p hp
  have hs : ∀ x : Int, 0 ≤ x → x ≤ 16 → (Lit.int .i64 x).wf = true := fun x h0 h1 => WalkArith.wf_i64 (by omega)
  have hf : ∀ n : Int, few n ≤ 16 := fun n => by unfold few; omega
  simp only [roundL, workers, mutators, List.mem_cons, List.mem_append, List.mem_map, List.mem_range] at hp
  rcases hp with rfl | ⟨j, hj, rfl⟩ | ⟨j, hj, rfl⟩
  · exact ⟨hs _ (by simp) (by simp), hs _ (by simp) (by simp)⟩
  · have := hf n; exact ⟨hs _ (by simp) (by simp), hs _ (by simp; omega) (by simp; omega)⟩
  · have := hf m; exact ⟨hs _ (by simp) (by simp), hs _ (by simp; omega) (by simp; omega)⟩
theorem roundL_len (n m : Int) : (roundL n m).length ≤ 33 := by
  have hf : ∀ n : Int, few n ≤ 16 := fun n => by unfold few; omega
  have := hf n; have := hf m
  simp [roundL, workers_len, mutators_len]; omega

theorem range_any_succ {f : Nat → Bool} {i : Nat} (h0 : (List.range i).any f = false) (h : f i = false) : (List.range (i + 1)).any f = false := by
  rw [List.range_succ, List.any_append, h0]; simp [h]
theorem range_any_hit {f : Nat → Bool} {i n : Nat} (hi : i < n) (h : f i = true) : (List.range n).any f = true :=
  List.any_eq_true.2 ⟨i, List.mem_range.2 hi, h⟩
end Go.Proofs.Ytkbaddopgdfafab
