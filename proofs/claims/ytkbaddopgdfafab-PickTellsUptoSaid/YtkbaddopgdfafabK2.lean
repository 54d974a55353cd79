import Derived.Test.YtkbaddopgdfafabK1
namespace Go.Proofs.Ytkbaddopgdfafab
open Go.RowKit Go.Proofs.Besom

theorem right_cases {p : Int × Int} (h : rightP p = true) : (p.1 = 0 ∧ p.2 = 0) ∨ ((p.1 = 1 ∨ p.1 = 2) ∧ 1 ≤ p.2 ∧ p.2 ≤ 16) := by
  unfold rightP at h
  split at h
  · exact .inl ⟨by assumption, by simpa using h⟩
  · split at h
    · exact .inr ⟨by assumption, by simpa using h⟩
    · cases h

theorem cells2 {w : World} {g : Nat} {a b : Value} {t : TypeId} (h : w.heap[g]? = some (.cells #[a, b] t)) :
    w.cell? ⟨g, 0, none⟩ = some a ∧ w.cell? ⟨g, 1, none⟩ = some b := by
  simp [World.cell?, h]

set_option maxHeartbeats 1600000 in
theorem letter28 (p : Int × Int) (w : World) : Calls Try.prog 28 #[pickV p] w fun e w' => e = .returned (.int .i32 (letterI p)) ∧ Below w.heap.size w w' := by
  have HB := Lib.hid (pickBox p w)
  have hc := fun w' => right13 p w'
  obtain ⟨k, n⟩ := p
  simp only at HB
  cases hr : rightP (k, n)
  · have HT := Lib.hid (show (63 : Int) = letterI (k, n) by simp [letterI, hr])
    rw [hr] at hc
    have HC := Lib.hid hc
    clear hc hr
    go_enter Try.func28, Try.ntmps28
    go_wp2_with fail
    refine (HC.out _).mono ?_
    rintro e w1 ⟨rfl, b1⟩
    go_wp2_with fail
    go_ret
    exact ⟨ret_int HT.out, HB.out.trans (b1.mono HB.out.size)⟩
  · rw [hr] at hc
    have HC := Lib.hid hc
    rcases right_cases hr with ⟨h1, h2⟩ | ⟨h1 | h1, h2, h3⟩
    · simp only at h1 h2
      subst h1; subst h2
      have HT := Lib.hid (show (46 : Int) = letterI (0, 0) by simp [letterI, hr])
      clear hc hr
      go_enter Try.func28, Try.ntmps28
      go_wp2_with fail
      refine (HC.out _).mono ?_
      rintro e w1 ⟨rfl, b1⟩
      have HB1 := Lib.hid (HB.out.trans (b1.mono HB.out.size))
      obtain ⟨q0, q1⟩ := cells2 ((b1.block w.heap.size (by simp)).trans (heap_alloc_at rfl))
      clear b1
      go_wp2_with fail
      go_ret
      exact ⟨ret_int HT.out, HB1.out⟩
    all_goals
      simp only at h1 h2 h3
      subst h1
      clear hc
      go_enter Try.func28, Try.ntmps28
      go_wp2_with fail
      refine (HC.out _).mono ?_
      rintro e w1 ⟨rfl, b1⟩
      have HB1 := Lib.hid (HB.out.trans (b1.mono HB.out.size))
      obtain ⟨q0, q1⟩ := cells2 ((b1.block w.heap.size (by simp)).trans (heap_alloc_at rfl))
      clear b1
      go_wp2_with fail
      go_ret
      refine ⟨ret_int ?_, HB1.out⟩
      simp [letterI, hr]
      try omega
end Go.Proofs.Ytkbaddopgdfafab
