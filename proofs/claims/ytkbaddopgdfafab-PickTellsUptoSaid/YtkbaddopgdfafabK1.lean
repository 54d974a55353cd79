import Derived.Test.YtkbaddopgdfafabRows
import Derived.Test.YtkbaddopgdfafabB3
namespace Go.Proofs.Ytkbaddopgdfafab
open Go.RowKit Go.Proofs.Besom

abbrev pickV (p : Int × Int) : Value := .agg #[.int .i64 p.1, .int .i64 p.2]

/-- May a pick be? -/
def rightP (p : Int × Int) : Bool := if p.1 = 0 then p.2 == 0 else if p.1 = 1 ∨ p.1 = 2 then decide (1 ≤ p.2 ∧ p.2 ≤ 16) else false

theorem pickBox (p : Int × Int) (w : World) : Below w.heap.size w (w.alloc (.cells #[.int .i64 p.1, .int .i64 p.2] 32)) := (Below.refl _ _).alloc (Nat.le_refl _) _

set_option maxHeartbeats 800000 in
theorem right13 (p : Int × Int) (w : World) : Calls Try.prog 13 #[pickV p] w fun e w' => e = .returned (.bool (rightP p)) ∧ Below w.heap.size w w' := by
  have HB := Lib.hid (pickBox p w)
  obtain ⟨k, n⟩ := p
  simp only at HB
  by_cases h0 : k = 0
  · have HT := Lib.hid (show (n == 0) = rightP (k, n) by simp [rightP, h0])
    subst h0
    go_enter Try.func13, Try.ntmps13
    go_wp2_with fail
    go_ret
    exact ⟨ret_bool HT.out, HB.out⟩
  · by_cases h1 : k = 1
    · have HT := Lib.hid (show decide (1 ≤ n ∧ n ≤ 16) = rightP (k, n) by simp [rightP, h1])
      subst h1
      go_enter Try.func13, Try.ntmps13
      go_wp2_with fail
      all_goals
        go_ret
        refine ⟨ret_bool ?_, HB.out⟩
        rw [← HT.out]
        simp
        try omega
    · by_cases h2 : k = 2
      · have HT := Lib.hid (show decide (1 ≤ n ∧ n ≤ 16) = rightP (k, n) by simp [rightP, h2])
        subst h2
        go_enter Try.func13, Try.ntmps13
        go_wp2_with fail
        all_goals
          go_ret
          refine ⟨ret_bool ?_, HB.out⟩
          rw [← HT.out]
          simp
          try omega
      · have HT := Lib.hid (show false = rightP (k, n) by simp [rightP, h0, h1, h2])
        have g0 : (k == 0) = false := by simpa using h0
        have g1 : (k == 1) = false := by simpa using h1
        have g2 : (k == 2) = false := by simpa using h2
        clear h0 h1 h2
        go_enter Try.func13, Try.ntmps13
        go_wp2_with fail
        go_ret
        exact ⟨ret_bool HT.out, HB.out⟩

/-- A pick's rune. -/
def letterI (p : Int × Int) : Int := if rightP p then (if p.1 = 1 then 96 + p.2 else if p.1 = 2 then 944 + p.2 else 46) else 63
end Go.Proofs.Ytkbaddopgdfafab
