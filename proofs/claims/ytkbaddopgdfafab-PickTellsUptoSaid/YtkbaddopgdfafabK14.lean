import Derived.Test.YtkbaddopgdfafabK13
namespace Go.Proofs.Ytkbaddopgdfafab
open Go.RowKit Go.Proofs.Besom

set_option maxRecDepth 100000 in
set_option maxHeartbeats 3200000 in
theorem fair21 (n m k : Int) (A : Option Addr) (len cap : Nat) (ps : List (Int × Int)) (w : World) (hr : Row w 2 A len (picksV ps)) (hn : len * 16 ≤ 140737488351232) (hw : ∀ p ∈ ps, wfP p) :
    Calls Try.prog 21 #[.slice A len cap, .int .i64 n, .int .i64 m, .int .i64 k] w (FairPost w (fairL n m k ps)) := by
  have hl : ps.length = len := by have := hr.1; rw [picksV_len] at this; omega
  by_cases h1 : k < 1
  · have HT := Lib.hid (show decide (0 < k) = fairL n m k ps by simp [fairL, h1])
    clear hr hw hl
    go_enter Try.func21, Try.ntmps21
    go_wp2_with fail
    go_ret
    exact ⟨ret_bool (by first | exact HT.out | (rw [← HT.out]; simp; omega)), Below.refl _ _⟩
  · by_cases h2 : (len : Int) < k
    · have HT := Lib.hid (show true = fairL n m k ps by rw [fairL, if_pos (by rw [hl]; omega)]; simp; try omega)
      clear hr hw hl
      go_enter Try.func21, Try.ntmps21
      go_wp2_with fail
      go_ret
      exact ⟨ret_bool (by first | exact HT.out | (rw [← HT.out]; simp; omega)), Below.refl _ _⟩
    · by_cases h3 : n > 16 ∨ m > 16
      · have HT := Lib.hid (show false = fairL n m k ps by rw [fairL, if_neg (by rw [hl]; omega), if_pos h3])
        clear hr hw hl
        by_cases h4 : n > 16
        · clear h3
          go_enter Try.func21, Try.ntmps21
          go_wp2_with fail
          go_ret
          exact ⟨ret_bool HT.out, Below.refl _ _⟩
        · have h5 : m > 16 := by omega
          clear h3
          go_enter Try.func21, Try.ntmps21
          go_wp2_with fail
          go_ret
          exact ⟨ret_bool HT.out, Below.refl _ _⟩
      · have e : fairL n m k ps = !(List.range len).any (gapB n m ps k.toNat) := by rw [fairL, if_neg (by rw [hl]; omega), if_neg h3, hl]
        rw [e]
        have hk : k = (k.toNat : Int) := by omega
        have h := fair21_main n m k.toNat A len cap ps w hr hn hw (by omega) (by omega) (by omega) (by omega)
        rw [← hk] at h
        exact h
end Go.Proofs.Ytkbaddopgdfafab
