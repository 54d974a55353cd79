import Derived.Test.YtkbaddopgdfafabK17
namespace Go.Proofs.Besom
open Go.RowKit

theorem Row.slice {w : World} {size n c lo hi : Nat} {A : Option Addr} {xs : List Value} (h : Row w size A n xs) (hc : n ≤ c) (hl : lo ≤ hi) (hh : hi ≤ n) :
    Row w size (if c = lo then A else A.map (·.add (lo * size))) (hi - lo) ((xs.drop (lo * size)).take ((hi - lo) * size)) := by
  have hlen := h.1
  have h1 : (hi - lo) * size ≤ n * size - lo * size := by rw [← Nat.sub_mul]; exact Nat.mul_le_mul_right _ (by omega)
  refine ⟨by rw [List.length_take, List.length_drop, hlen]; omega, fun j u hu => ?_⟩
  have hj : j < (hi - lo) * size := by
    have := (List.getElem?_eq_some_iff.1 hu).1
    rw [List.length_take] at this; omega
  rw [List.getElem?_take, if_pos hj, List.getElem?_drop] at hu
  obtain ⟨b, o, rfl, hcell⟩ := h.2 _ _ hu
  have hs : 0 < (hi - lo) := by
    rcases Nat.eq_zero_or_pos (hi - lo) with e | e
    · rw [e, Nat.zero_mul] at hj; omega
    · exact e
  rw [if_neg (by omega)]
  exact ⟨b, o + lo * size, by simp [Addr.add], by rw [Nat.add_assoc]; exact hcell⟩
theorem Row.from {w : World} {size n c lo : Nat} {A : Option Addr} {xs : List Value} (h : Row w size A n xs) (hc : n ≤ c) (hl : lo ≤ n) :
    Row w size (if c = lo then A else A.map (·.add (lo * size))) (n - lo) (xs.drop (lo * size)) := by
  have := h.slice hc hl (Nat.le_refl _)
  rwa [List.take_of_length_le (by rw [List.length_drop, h.1, ← Nat.sub_mul]; exact Nat.le_refl _)] at this
theorem Row.upto {w : World} {size n hi : Nat} {A : Option Addr} {xs : List Value} (h : Row w size A n xs) (hh : hi ≤ n) : Row w size A hi (xs.take (hi * size)) := by
  refine ⟨by rw [List.length_take, h.1]; exact Nat.min_eq_left (Nat.mul_le_mul_right _ hh), fun j u hu => ?_⟩
  rw [List.getElem?_take] at hu
  split at hu
  · exact h.2 _ _ hu
  · cases hu

section
variable {P : Program} {t e : TypeId} {size : Nat}
theorem slice_from (A : Option Addr) {n c lo : Nat} (ht : P.underlying t = some (.slice e)) (hs : (P.info? e).map (·.size) = some size) (h : lo ≤ n) (hc : n ≤ c) :
    ∃ A' c', (∀ w, (Instr.slice t (.slice A n c) (some (.int .i64 lo)) none none).run P w = .ok (.slice A' (n - lo) c') w) ∧ ∀ w xs, Row w size A n xs → Row w size A' (n - lo) (xs.drop (lo * size)) := by
  have he : P.elem t = e := by simp [Program.elem, ht]
  refine ⟨if c = lo then A else A.map (·.add (lo * size)), c - lo, fun w => ?_, fun w xs hr => hr.from hc h⟩
  have := run_slice_l (P := P) (w := w) t A n c (by rw [he]; exact ht) .i64 lo (by omega) (by omega)
  rw [this, he]
  simp only [Option.map_eq_some_iff] at hs
  obtain ⟨i, hi, hsz⟩ := hs
  simp [sizeOf, typeInfo, hi, hsz, Result.andThen, sliced]
theorem slice_upto (A : Option Addr) {n c hi : Nat} (ht : P.underlying t = some (.slice e)) (hs : (P.info? e).map (·.size) = some size) (h : hi ≤ n) (hc : n ≤ c) :
    (∀ w, (Instr.slice t (.slice A n c) none (some (.int .i64 hi)) none).run P w = .ok (.slice A hi c) w) := by
  have he : P.elem t = e := by simp [Program.elem, ht]
  intro w
  have := run_slice_h (P := P) (w := w) t A n c (by rw [he]; exact ht) .i64 hi (by omega) (by omega)
  rw [this, he]
  simp only [Option.map_eq_some_iff] at hs
  obtain ⟨i, hi, hsz⟩ := hs
  simp [sizeOf, typeInfo, hi, hsz, Result.andThen, sliced]
  intro a
  cases A <;> simp_all [Addr.add]
theorem slice_mid (A : Option Addr) {n c lo hi : Nat} (ht : P.underlying t = some (.slice e)) (hs : (P.info? e).map (·.size) = some size) (hl : lo ≤ hi) (h : hi ≤ n) (hc : n ≤ c) :
    ∃ A' c', (∀ w, (Instr.slice t (.slice A n c) (some (.int .i64 lo)) (some (.int .i64 hi)) none).run P w = .ok (.slice A' (hi - lo) c') w) ∧ ∀ w xs, Row w size A n xs → Row w size A' (hi - lo) ((xs.drop (lo * size)).take ((hi - lo) * size)) := by
  have he : P.elem t = e := by simp [Program.elem, ht]
  refine ⟨if c = lo then A else A.map (·.add (lo * size)), c - lo, fun w => ?_, fun w xs hr => hr.slice hc hl h⟩
  have := run_slice_lh (P := P) (w := w) t A n c (by rw [he]; exact ht) .i64 .i64 lo hi (by omega) (by omega) (by omega)
  rw [this, he]
  simp only [Option.map_eq_some_iff] at hs
  obtain ⟨i, hi, hsz⟩ := hs
  simp [sizeOf, typeInfo, hi, hsz, Result.andThen, sliced]
end
end Go.Proofs.Besom
namespace Go.Proofs.Ytkbaddopgdfafab
open Go.RowKit Go.Proofs.Besom

theorem picks_drop (l : List (Int × Int)) (k : Nat) : (picksV l).drop (k * 2) = picksV (l.drop k) := by
  induction l generalizing k with
  | nil => simp [picksV]
  | cons p r ih =>
    cases k with
    | zero => simp
    | succ k =>
      rw [List.drop_succ_cons, ← ih k]
      simp only [picksV, List.flatMap_cons]
      rw [List.drop_append, List.drop_eq_nil_of_le (by simp; omega)]
      simp
      congr 1
      omega
theorem picks_take (l : List (Int × Int)) (k : Nat) : (picksV l).take (k * 2) = picksV (l.take k) := by
  induction l generalizing k with
  | nil => simp [picksV]
  | cons p r ih =>
    cases k with
    | zero => simp [picksV]
    | succ k =>
      rw [List.take_succ_cons]
      simp only [picksV, List.flatMap_cons] at ih ⊢
      rw [← ih k, List.take_append, List.take_of_length_le (by simp; omega)]
      congr 2
      simp; omega
end Go.Proofs.Ytkbaddopgdfafab
