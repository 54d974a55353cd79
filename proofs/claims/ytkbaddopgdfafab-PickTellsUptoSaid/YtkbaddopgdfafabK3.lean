import Derived.Test.YtkbaddopgdfafabK2
namespace Go.Proofs.Ytkbaddopgdfafab
open Go.RowKit Go.Proofs.Besom

def candR (r : Int) : Nat → Int × Int
  | 0 => (0, 0)
  | 1 => (1, r - 97 + 1)
  | _ => (2, r - 945 + 1)
def hitR (r : Int) (k : Nat) : Bool := rightP (candR r k) && (letterI (candR r k) == r)
/-- The pick of a rune. -/
def ofR (r : Int) : (Int × Int) × Bool :=
  if hitR r 0 then (candR r 0, true) else if hitR r 1 then (candR r 1, true) else if hitR r 2 then (candR r 2, true) else ((0, 0), false)

def OfPost (w : World) (r : Int) (e : Ending) (w' : World) : Prop := e = .returned (.tuple #[pickV (ofR r).1, .bool (ofR r).2]) ∧ Below w.heap.size w w'

set_option maxRecDepth 100000 in
set_option maxHeartbeats 3200000 in
theorem of27 (r : Int) (w : World) (h0 : 0 ≤ r) (h1 : r ≤ 1114111) : Calls Try.prog 27 #[.int .i32 r] w (OfPost w r) := by
  have hb1 := (Below.refl w.heap.size w).alloc (Nat.le_refl _) (.cells #[.int .i64 0, .int .i64 0] 32)
  by_cases hr : r = 65533
  · have HT := Lib.hid (show ofR r = ((0, 0), false) by subst hr; decide +kernel)
    have hy : (w.alloc (.cells #[.int .i64 0, .int .i64 0] 32)).heap[w.heap.size]? = some (.cells #[.int .i64 0, .int .i64 0] 32 (0, 0)) := heap_alloc_at rfl
    have HY := Lib.hid hy
    have HB1 := Lib.hid hb1
    clear hy hb1
    subst hr
    go_enter Try.func27, Try.ntmps27
    go_wp2_with fail
    refine bodyPost_row_tmp (ty' := 32) (g := w.heap.size) rfl rfl HY.out Try.underlying32 rfl (by kernel_rfl) rfl ⟨?_, HB1.out⟩
    rw [HT.out]; rfl
  · have hr' : (r == 65533) = false := by simpa using hr
    clear hr
    have hb2 := hb1.alloc hb1.size (.cells #[.int .i64 0, .int .i64 0, .int .i64 1, .int .i64 (r - 97 + 1), .int .i64 2, .int .i64 (r - 945 + 1)] 32)
    have hy : ((w.alloc (.cells #[.int .i64 0, .int .i64 0] 32)).alloc (.cells #[.int .i64 0, .int .i64 0, .int .i64 1, .int .i64 (r - 97 + 1), .int .i64 2, .int .i64 (r - 945 + 1)] 32)).heap[w.heap.size]? = some (.cells #[.int .i64 0, .int .i64 0] 32 (0, 0)) := (Below.heap_alloc _ _ _ (by simp)).trans (heap_alloc_at rfl)
    have hs : ((w.alloc (.cells #[.int .i64 0, .int .i64 0] 32)).alloc (.cells #[.int .i64 0, .int .i64 0, .int .i64 1, .int .i64 (r - 97 + 1), .int .i64 2, .int .i64 (r - 945 + 1)] 32)).heap[w.heap.size + 1]? = some (.cells #[.int .i64 0, .int .i64 0, .int .i64 1, .int .i64 (r - 97 + 1), .int .i64 2, .int .i64 (r - 945 + 1)] 32 (0, 0)) := heap_alloc_at (by simp)
    have HB2 := Lib.hid hb2
    have HY := Lib.hid hy
    have HS := Lib.hid hs
    clear hb1 hb2 hy hs
    go_enter Try.func27, Try.ntmps27
    go_wp2_with fail
    go_loopw [22] (fun i wr => ∃ k : Nat, k ≤ 3 ∧ i = .int .i64 k ∧ Hid (∀ j, j < k → hitR r j = false) ∧ Hid (Below w.heap.size w wr) ∧ Hid (wr.heap[w.heap.size]? = some (.cells #[.int .i64 0, .int .i64 0] 32 (0, 0))) ∧ Hid (wr.heap[w.heap.size + 1]? = some (.cells #[.int .i64 0, .int .i64 0, .int .i64 1, .int .i64 (r - 97 + 1), .int .i64 2, .int .i64 (r - 945 + 1)] 32 (0, 0)))) (fun i _ => 3 - (intOf i).toNat)
    case atStart => exact ⟨0, by omega, rfl, Lib.hid (by omega), HB2, HY, HS⟩
    case round =>
      obtain ⟨k, hk, rfl, hno, HB, HZ, HL⟩ := hrel
      by_cases hk3 : k < 3
      · have hcell : wr.cell? ⟨w.heap.size + 1, k * 2, none⟩ = some (.int .i64 (candR r k).1) ∧ wr.cell? ⟨w.heap.size + 1, k * 2 + 1, none⟩ = some (.int .i64 (candR r k).2) := by
          have hl := HL.out
          rcases (show k = 0 ∨ k = 1 ∨ k = 2 by omega) with rfl | rfl | rfl <;> simp [World.cell?, hl, candR]
        obtain ⟨c0, c1⟩ := hcell
        have hk4 : (k : Int) < 3 := by omega
        have hc := fun w' => right13 (candR r k) w'
        have hlt := fun w' => letter28 (candR r k) w'
        have hhit : hitR r k = (rightP (candR r k) && (letterI (candR r k) == r)) := rfl
        have hof : hitR r k = true → ofR r = (candR r k, true) := fun h => by
          have h' := hno.out
          rcases (show k = 0 ∨ k = 1 ∨ k = 2 by omega) with rfl | rfl | rfl
          · simp [ofR, h]
          · simp [ofR, h, h' 0 (by omega)]
          · simp [ofR, h, h' 0 (by omega), h' 1 (by omega)]
        have HOF := Lib.hid hof
        generalize candR r k = p at c0 c1 hc hlt hhit hof HOF
        clear hof
        cases hrp : rightP p
        · rw [hrp] at hc
          have HNK := Lib.hid (show hitR r k = false by rw [hhit, hrp]; rfl)
          have HC := Lib.hid hc
          clear hc hlt hhit hrp
          have hb0 := (Below.refl wr.heap.size wr).alloc (Nat.le_refl _) (.cells #[.int .i64 p.1, .int .i64 p.2] 32)
          have HB0 := Lib.hid hb0
          clear hb0
          go_wp2_with fail
          refine (HC.out _).mono ?_
          rintro e w1 ⟨rfl, b1⟩
          have hb1 := HB0.out.trans (b1.mono HB0.out.size)
          have HB1 := Lib.hid (HB.out.trans (hb1.mono HB.out.size))
          have HZ1 := Lib.hid ((hb1.block _ (lt_of_block HZ.out)).trans HZ.out)
          have HL1 := Lib.hid ((hb1.block _ (lt_of_block HL.out)).trans HL.out)
          clear b1 hb1
          go_wp2_with fail
          go_roundw
          case rel => exact ⟨k + 1, by omega, by go_num, Lib.hid (fun j hj => by rcases (show j < k ∨ j = k by omega) with h | h; exact hno.out j h; subst h; exact HNK.out), HB1, HZ1, HL1⟩
          case measure => simp [intOf]; omega
        · rw [hrp] at hc
          have HC := Lib.hid hc
          have HLT := Lib.hid hlt
          have hb0 := (Below.refl wr.heap.size wr).alloc (Nat.le_refl _) (.cells #[.int .i64 p.1, .int .i64 p.2] 32)
          have HB0 := Lib.hid hb0
          have HP0 := Lib.hid (show (wr.alloc (.cells #[.int .i64 p.1, .int .i64 p.2] 32)).heap[wr.heap.size]? = some (.cells #[.int .i64 p.1, .int .i64 p.2] 32 (0, 0)) from heap_alloc_at rfl)
          clear hb0 hc hlt
          cases hle : (letterI p == r)
          all_goals
            have HH := Lib.hid hhit
            rw [hrp, hle] at HH
            clear hhit hrp
            go_wp2_with fail
            refine (HC.out _).mono ?_
            rintro e w1 ⟨rfl, b1⟩
            have hb1 := HB0.out.trans (b1.mono HB0.out.size)
            have HB1 := Lib.hid (HB.out.trans (hb1.mono HB.out.size))
            have HZ1 := Lib.hid ((hb1.block _ (lt_of_block HZ.out)).trans HZ.out)
            have HL1 := Lib.hid ((hb1.block _ (lt_of_block HL.out)).trans HL.out)
            have HP1 := Lib.hid ((b1.block _ (lt_of_block HP0.out)).trans HP0.out)
            obtain ⟨p0, p1⟩ := cells2 HP1.out
            clear b1 hb1
            go_wp2_with fail
            refine (HLT.out _).mono ?_
            rintro e w2 ⟨rfl, b2⟩
            have HB2' := Lib.hid (HB1.out.trans (b2.mono HB1.out.size))
            have HZ2 := Lib.hid ((b2.block _ (lt_of_block HZ1.out)).trans HZ1.out)
            have HL2 := Lib.hid ((b2.block _ (lt_of_block HL1.out)).trans HL1.out)
            have HP2 := Lib.hid ((b2.block _ (lt_of_block HP1.out)).trans HP1.out)
            obtain ⟨q0, q1⟩ := cells2 HP2.out
            obtain ⟨z0, z1⟩ := cells2 HZ2.out
            have f0 := free_of_blk HZ2.out 0
            have f1 := free_of_blk HZ2.out 1
            clear b2 p0 p1
            go_wp2_with fail
          · go_roundw
            case rel => exact ⟨k + 1, by omega, by go_num, Lib.hid (fun j hj => by rcases (show j < k ∨ j = k by omega) with h | h; exact hno.out j h; subst h; exact HH.out), HB2', HZ2, HL2⟩
            case measure => simp [intOf]; omega
          · refine bodyPost_row_tmp (ty' := 32) (g := w.heap.size) rfl rfl (blk_set (blk_set HZ2.out)) Try.underlying32 rfl (by kernel_rfl) rfl ⟨?_, (HB2'.out.setCell (p := ⟨w.heap.size, 0, none⟩) (Nat.le_refl _) _).setCell (p := ⟨w.heap.size, 1, none⟩) (Nat.le_refl _) _⟩
            rw [HOF.out HH.out]; rfl
      · have hk5 : k = 3 := by omega
        subst hk5
        have HT := Lib.hid (show ofR r = ((0, 0), false) by simp [ofR, hno.out 0 (by omega), hno.out 1 (by omega), hno.out 2 (by omega)])
        obtain ⟨z0, z1⟩ := cells2 HZ.out
        have f0 := free_of_blk HZ.out 0
        have f1 := free_of_blk HZ.out 1
        go_wp2_with fail
        refine bodyPost_row_tmp (ty' := 32) (g := w.heap.size) rfl rfl (blk_set (blk_set HZ.out)) Try.underlying32 rfl (by kernel_rfl) rfl ⟨?_, (HB.out.setCell (p := ⟨w.heap.size, 0, none⟩) (Nat.le_refl _) _).setCell (p := ⟨w.heap.size, 1, none⟩) (Nat.le_refl _) _⟩
        rw [HT.out]; rfl
end Go.Proofs.Ytkbaddopgdfafab
