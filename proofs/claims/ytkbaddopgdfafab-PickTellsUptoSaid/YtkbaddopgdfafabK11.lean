import Derived.Test.YtkbaddopgdfafabK10
namespace Go.Proofs.Ytkbaddopgdfafab
open Go.RowKit Go.Proofs.Besom

def zeroAt (f : Int × Int → Int) (p : Int × Int) : Bool := f p == 0

set_option maxHeartbeats 1600000 in
theorem fair32 (f : Int × Int → Int) (c b : Nat) (p : Int × Int) (w : World) (hc : w.heap[c]? = some (.cells #[.map (some b)] 62 (0, 0))) (hb : CntMap w b f) (hp : wfP p) :
    Calls Try.prog 32 #[pickV p, .pointer (some ⟨c, 0, none⟩)] w fun e w' => e = .returned (.bool (zeroAt f p)) ∧ Below w.heap.size w w' := by
  have hB := pickBox p w
  have HB := Lib.hid hB
  have hlk := (hb.kept (hB.block b hb.lt)).look hp
  have HT := Lib.hid (show (f p == 0) = zeroAt f p from rfl)
  obtain ⟨k, q⟩ := p
  generalize f (k, q) = x at hlk HT
  simp only at HB hlk hB
  obtain ⟨q2, q3⟩ := cells1 ((hB.block c (lt_of_block hc)).trans hc)
  clear hc hb hB
  go_enter Try.func32, Try.ntmps32
  go_wp2_with fail
  go_ret
  exact ⟨ret_bool HT.out, HB.out⟩

set_option maxRecDepth 100000 in
set_option maxHeartbeats 1600000 in
theorem index34_fair (f : Int × Int → Int) (c b : Nat) (A : Option Addr) (len cap : Nat) (ps : List (Int × Int)) (w : World) (hr : Row w 2 A len (picksV ps)) (hn : len * 16 ≤ 140737488351232)
    (hc : w.heap[c]? = some (.cells #[.map (some b)] 62 (0, 0))) (hb : CntMap w b f) (hw : ∀ p ∈ ps, wfP p) :
    Calls Try.prog 34 #[.slice A len cap, fnV 32 c] w (IdxPost w (zeroAt f) ps) := by
  have HR := Lib.hid hr
  have HC := Lib.hid hc
  have HM := Lib.hid hb
  have HW := Lib.hid hw
  have hl : ps.length = len := by have := hr.1; rw [picksV_len] at this; omega
  have HL := Lib.hid hl
  clear hr hc hb hl hw
  go_enter Try.func34, Try.ntmps34
  go_wp2_with fail
  go_loopw [8] (fun i wr => ∃ k : Nat, k ≤ len ∧ i = .int .i64 k ∧ Hid ((ps.take k).any (zeroAt f) = false) ∧ Below w.heap.size w wr) (fun i _ => len - (intOf i).toNat)
  case atStart => exact ⟨0, Nat.zero_le _, rfl, Lib.hid (by simp), Below.refl _ _⟩
  case round =>
    obtain ⟨k, hk, rfl, hno, hbel⟩ := hrel
    have HB := Lib.hid hbel
    clear hbel
    by_cases hlt : k < len
    · obtain ⟨b1, o1, hkl, rfl, c0, c1⟩ := picks_at (HR.out.below HB.out) hlt
      have hlt' : (k : Int) < (len : Int) := by omega
      have HK := Lib.hid (fair32 f c b ps[k] wr ((HB.out.block _ (lt_of_block HC.out)).trans HC.out) (HM.out.kept (HB.out.block _ HM.out.lt)) (HW.out _ (List.getElem_mem _)))
      cases hf : zeroAt f ps[k]
      · have HN := Lib.hid (any_take_succ hkl hno.out hf)
        rw [hf] at HK
        clear hf
        generalize ps[k] = p at c0 c1 HK
        clear hkl
        go_wp2_with fail
        refine HK.out.mono ?_
        rintro e w1 ⟨rfl, b1⟩
        have HB1 := Lib.hid (HB.out.trans (b1.mono HB.out.size))
        clear b1
        go_wp2_with fail
        go_roundw
        case rel => exact ⟨k + 1, by omega, by go_num, HN, HB1.out⟩
        case measure => simp [intOf]; omega
      · have HE : ∀ w', Below w.heap.size w w' → IdxPost w (zeroAt f) ps (.returned (.int .i64 k)) w' := fun w' => idx_hit hkl hf
        rw [hf] at HK
        clear hf
        have HE := Lib.hid HE
        generalize ps[k] = p at c0 c1 HK
        clear hkl
        go_wp2_with fail
        refine HK.out.mono ?_
        rintro e w1 ⟨rfl, b1⟩
        have HB1 := Lib.hid (HB.out.trans (b1.mono HB.out.size))
        clear b1
        go_wp2_with fail
        go_ret
        exact HE.out _ HB1.out
    · have hlt' : ¬ (k : Int) < (len : Int) := by omega
      go_wp2_with fail
      go_ret
      exact idx_miss HL.out (by omega) hno.out HB.out

set_option maxHeartbeats 1600000 in
theorem contains30_fair (f : Int × Int → Int) (c b : Nat) (A : Option Addr) (len cap : Nat) (ps : List (Int × Int)) (w : World) (hr : Row w 2 A len (picksV ps)) (hn : len * 16 ≤ 140737488351232)
    (hc : w.heap[c]? = some (.cells #[.map (some b)] 62 (0, 0))) (hb : CntMap w b f) (hw : ∀ p ∈ ps, wfP p) :
    Calls Try.prog 30 #[.slice A len cap, fnV 32 c] w (AnyPost w (zeroAt f) ps) := by
  have HK := Lib.hid (index34_fair f c b A len cap ps w hr hn hc hb hw)
  clear hr hc hb hw
  go_enter Try.func30, Try.ntmps30
  go_wp2_with fail
  refine HK.out.mono ?_
  rintro e w1 ⟨r, rfl, h, b1⟩
  have H := Lib.hid h
  clear h
  go_wp2_with fail
  go_ret
  exact ⟨ret_bool H.out, b1⟩
end Go.Proofs.Ytkbaddopgdfafab
