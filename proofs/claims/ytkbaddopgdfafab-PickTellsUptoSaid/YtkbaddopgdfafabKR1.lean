import Derived.Test.YtkbaddopgdfafabK29
import Derived.StillTailTactics
import Derived.Laws.BytesArg
import Derived.Outline
namespace Go.Proofs.Ytkbaddopgdfafab
open Go.RowKit Go.Proofs.Besom

theorem Try.info34 : (Try.prog.info? 34).map (fun i => (i.zero, i.size, i.bytes)) = some (some (.agg #[.int .i64 0, .int .i64 0]), 2, 16) := by kernel_rfl

theorem pickBox34 (p : Int × Int) (w : World) : Below w.heap.size w (w.alloc (.cells #[.int .i64 p.1, .int .i64 p.2] 34)) := (Below.refl _ _).alloc (Nat.le_refl _) _

set_option maxHeartbeats 1600000 in
theorem right14 (p : Int × Int) (w : World) : Calls Try.prog 14 #[pickV p] w fun e w' => e = .returned (.bool (rightP p)) ∧ Below w.heap.size w w' := by
  have HB := Lib.hid (pickBox34 p w)
  obtain ⟨k, n⟩ := p
  simp only at HB
  by_cases h0 : k = 0
  · subst h0
    by_cases hn : n = 0
    · subst hn
      go_enter Try.func14, Try.ntmps14
      go_wp2_with fail
      go_ret
      exact ⟨rfl, HB.out⟩
    · have HT := Lib.hid (show false = rightP (0, n) by simp [rightP, hn])
      have hn' : (n == 0) = false := by simpa using hn
      clear hn
      go_enter Try.func14, Try.ntmps14
      go_wp2_with fail
      go_ret
      exact ⟨ret_bool HT.out, HB.out⟩
  · rcases (show (k = 1 ∨ k = 2) ∨ (k ≠ 1 ∧ k ≠ 2) by omega) with h | ⟨h1, h2⟩
    · have HT := Lib.hid (show decide (1 ≤ n ∧ n ≤ 16) = rightP (k, n) by rw [rightP, if_neg h0, if_pos h])
      rcases (show n < 1 ∨ 16 < n ∨ (1 ≤ n ∧ n ≤ 16) by omega) with g | g | ⟨g, g'⟩
      · have HT2 := Lib.hid (show false = rightP (k, n) by rw [← HT.out]; simp; omega)
        rcases h with rfl | rfl
        all_goals
          clear h0
          go_enter Try.func14, Try.ntmps14
          go_wp2_with fail
          go_ret
          exact ⟨ret_bool (by first | exact HT2.out | (rw [← HT2.out]; simp; omega)), HB.out⟩
      · have HT2 := Lib.hid (show false = rightP (k, n) by rw [← HT.out]; simp; omega)
        rcases h with rfl | rfl
        all_goals
          clear h0
          go_enter Try.func14, Try.ntmps14
          go_wp2_with fail
          go_ret
          exact ⟨ret_bool (by first | exact HT2.out | (rw [← HT2.out]; simp; omega)), HB.out⟩
      · have HT2 := Lib.hid (show true = rightP (k, n) by rw [← HT.out]; simp; omega)
        rcases h with rfl | rfl
        all_goals
          clear h0
          go_enter Try.func14, Try.ntmps14
          go_wp2_with fail
          go_ret
          exact ⟨ret_bool (by first | exact HT2.out | (rw [← HT2.out]; simp; omega)), HB.out⟩
    · have HT := Lib.hid (show false = rightP (k, n) by simp [rightP, h0, h1, h2])
      have g0 : (k == 0) = false := by simpa using h0
      have g1 : (k == 1) = false := by simpa using h1
      have g2 : (k == 2) = false := by simpa using h2
      clear h0 h1 h2
      go_enter Try.func14, Try.ntmps14
      go_wp2_with fail
      go_ret
      exact ⟨ret_bool HT.out, HB.out⟩

/-- A pick's text. -/
def textB (p : Int × Int) : ByteArray := ⟨(pickB p).toArray⟩
theorem printB_one (p : Int × Int) : printB [p] = textB p := by
  apply bytes_ext; rw [printB_bytes]; simp [textB]
theorem str_of (l : List Int) : strOfNums l = ⟨(l.map fun n => UInt8.ofNat n.toNat).toArray⟩ := rfl

theorem conv1 (w1 : World) (x : Int) : (convert 46 9 (.slice (some ⟨w1.heap.size, 0, none⟩) 1 1)).run Try.prog (w1.alloc (.cells #[.int .u8 x] 5)) = .ok (.string (strOfNums [x])) (w1.alloc (.cells #[.int .u8 x] 5)) :=
  run_convert_bytes_arg (w1.alloc (.cells #[.int .u8 x] 5)) 46 5 Try.underlying46 Try.underlying5 w1.heap.size 0 1 1 [x] rfl (fun i hi => by
    obtain rfl : i = 0 := by omega
    rw [World.cell?_alloc_at _ _ _ _ rfl]; rfl) 9 Try.underlying9
theorem conv2 (w1 : World) (x y : Int) : (convert 46 9 (.slice (some ⟨w1.heap.size, 0, none⟩) 2 2)).run Try.prog (w1.alloc (.cells #[.int .u8 x, .int .u8 y] 5)) = .ok (.string (strOfNums [x, y])) (w1.alloc (.cells #[.int .u8 x, .int .u8 y] 5)) :=
  run_convert_bytes_arg (w1.alloc (.cells #[.int .u8 x, .int .u8 y] 5)) 46 5 Try.underlying46 Try.underlying5 w1.heap.size 0 2 2 [x, y] rfl (fun i hi => by
    rcases (show i = 0 ∨ i = 1 by omega) with rfl | rfl <;> (rw [World.cell?_alloc_at _ _ _ _ rfl]; rfl)) 9 Try.underlying9

set_option maxHeartbeats 3200000 in
theorem text29 (p : Int × Int) (w : World) : Calls Try.prog 29 #[pickV p] w fun e w' => e = .returned (.string (textB p)) ∧ Below w.heap.size w w' := by
  have HB := Lib.hid (pickBox34 p w)
  have hc := fun w' => right14 p w'
  obtain ⟨k, n⟩ := p
  simp only at HB
  cases hr : rightP (k, n)
  · have HT := Lib.hid (show (⟨#[63]⟩ : ByteArray) = textB (k, n) by
      have : letterI (k, n) = 63 := by simp [letterI, hr]
      unfold textB pickB; rw [this]; decide +kernel)
    rw [hr] at hc
    have HC := Lib.hid hc
    clear hc hr
    go_enter Try.func29, Try.ntmps29
    go_wp2_with fail
    ((with_reducible refine (HC.out _).mono ?_))
    rintro e w1 ⟨rfl, b1⟩
    go_wp2_with fail
    go_ret
    exact ⟨by rw [← HT.out]; rfl, HB.out.trans (b1.mono HB.out.size)⟩
  · rw [hr] at hc
    have HC := Lib.hid hc
    rcases pickB_right hr with ⟨h1, h2⟩ | ⟨h1, h3, h4, h2⟩ | ⟨h1, h3, h4, h2⟩ | ⟨h1, h2⟩
    · injection h1 with e1 e2
      subst e1; subst e2
      have HT := Lib.hid (show (⟨#[46]⟩ : ByteArray) = textB (0, 0) by rw [textB, h2])
      clear hc hr h2
      go_enter Try.func29, Try.ntmps29
      go_wp2_with fail
      ((with_reducible refine (HC.out _).mono ?_))
      rintro e w1 ⟨rfl, b1⟩
      have HB1 := Lib.hid (HB.out.trans (b1.mono HB.out.size))
      obtain ⟨q0, q1⟩ := cells2 ((b1.block w.heap.size (by simp)).trans (heap_alloc_at rfl))
      clear b1
      go_wp2_with fail
      go_ret
      exact ⟨by rw [← HT.out]; rfl, HB1.out⟩
    · simp only at h1 h3 h4
      subst h1
      have HT := Lib.hid (show strOfNums [97 + n - 1] = textB (1, n) by
        rw [textB, h2, str_of]; simp only [List.map_cons, List.map_nil]; rw [show (97 + n - 1).toNat = 96 + n.toNat by omega])
      clear hc hr h2
      go_enter Try.func29, Try.ntmps29
      go_wp2_with fail
      ((with_reducible refine (HC.out _).mono ?_))
      rintro e w1 ⟨rfl, b1⟩
      have HB1 := Lib.hid (HB.out.trans (b1.mono HB.out.size))
      obtain ⟨q0, q1⟩ := cells2 ((b1.block w.heap.size (by simp)).trans (heap_alloc_at rfl))
      have hcv := conv1 w1 (97 + n - 1)
      clear b1
      go_wp2_with fail
      go_ret
      exact ⟨by rw [← HT.out]; rfl, HB1.out.alloc HB1.out.size _⟩
    · simp only at h1 h3 h4
      subst h1
      have HT := Lib.hid (show strOfNums [206, 176 + n] = textB (2, n) by
        rw [textB, h2, str_of]; simp only [List.map_cons, List.map_nil]; rw [show (176 + n).toNat = 176 + n.toNat by omega]; rfl)
      have hne : (n == 16) = false := by simp; omega
      clear hc hr h2
      go_enter Try.func29, Try.ntmps29
      go_wp2_with fail
      ((with_reducible refine (HC.out _).mono ?_))
      rintro e w1 ⟨rfl, b1⟩
      have HB1 := Lib.hid (HB.out.trans (b1.mono HB.out.size))
      obtain ⟨q0, q1⟩ := cells2 ((b1.block w.heap.size (by simp)).trans (heap_alloc_at rfl))
      have hcv := conv2 w1 206 (176 + n)
      clear b1
      go_wp2_with fail
      go_ret
      exact ⟨by rw [← HT.out]; rfl, HB1.out.alloc HB1.out.size _⟩
    · injection h1 with e1 e2
      subst e1; subst e2
      have HT := Lib.hid (show strOfNums [207, 128] = textB (2, 16) by rw [textB, h2, str_of]; rfl)
      clear hc hr h2
      go_enter Try.func29, Try.ntmps29
      go_wp2_with fail
      ((with_reducible refine (HC.out _).mono ?_))
      rintro e w1 ⟨rfl, b1⟩
      have HB1 := Lib.hid (HB.out.trans (b1.mono HB.out.size))
      obtain ⟨q0, q1⟩ := cells2 ((b1.block w.heap.size (by simp)).trans (heap_alloc_at rfl))
      have hcv := conv2 w1 207 128
      clear b1
      go_wp2_with fail
      go_ret
      exact ⟨by rw [← HT.out]; rfl, HB1.out.alloc HB1.out.size _⟩
end Go.Proofs.Ytkbaddopgdfafab
