import Derived.Test.YtkbaddopgdfafabK12
import Derived.RegionTactic
import Derived.Outline
namespace Go.Proofs.Ytkbaddopgdfafab
open Go.RowKit Go.Proofs.Besom

def FairPost (w : World) (r : Bool) (e : Ending) (w' : World) : Prop := e = .returned (.bool r) ∧ Below w.heap.size w w'

set_option maxRecDepth 100000 in
set_option maxHeartbeats 3200000 in
theorem fair21_main (n m : Int) (K : Nat) (A : Option Addr) (len cap : Nat) (ps : List (Int × Int)) (w : World) (hr : Row w 2 A len (picksV ps)) (hn : len * 16 ≤ 140737488351232) (hw : ∀ p ∈ ps, wfP p)
    (h1 : 1 ≤ K) (h2 : K ≤ len) (h3 : n ≤ 16) (h4 : m ≤ 16) :
    Calls Try.prog 21 #[.slice A len cap, .int .i64 n, .int .i64 m, .int .i64 K] w (FairPost w (!(List.range len).any (gapB n m ps K))) := by
  have hmf : ∀ (fn : Fn) (first cap : Array Value) (w : World), (Instr.makeFunc fn first cap).run Try.prog w = .ok (.func fn first cap) w := fun _ _ _ _ => rfl
  have hmm := @run_makeMap Try.prog
  have HR := Lib.hid hr
  have HW := Lib.hid hw
  have hl : ps.length = len := by have := hr.1; rw [picksV_len] at this; omega
  have HL := Lib.hid hl
  clear hr hw hl
  go_enter Try.func21, Try.ntmps21
  go_wp2_with fail
  refine (round23 n m w).mono ?_
  rintro e w1 ⟨v, rfl, ho, b1⟩
  obtain ⟨B, wcap, rfl, hB⟩ := own_row ho
  have HB0 := Lib.hid b1
  have HO := Lib.hid hB
  have HR1 := Lib.hid (HR.out.below b1)
  have hc1 := (Below.refl w1.heap.size w1).alloc (Nat.le_refl _) (.map #[] 0)
  have HC := Lib.hid (hc1.alloc hc1.size (.cells #[.map (some w1.heap.size)] 62))
  have HZ := Lib.hid (show ((w1.alloc (.map #[] 0)).alloc (.cells #[.map (some w1.heap.size)] 62)).heap[w1.heap.size + 1]? = some (.cells #[.map (some w1.heap.size)] 62 (0, 0)) from heap_alloc_at (by simp))
  have HM := Lib.hid (CntMap.made (show ((w1.alloc (.map #[] 0)).alloc (.cells #[.map (some w1.heap.size)] 62)).heap[w1.heap.size]? = some (.map #[] 0) from (Below.heap_alloc _ _ _ (by simp)).trans (heap_alloc_at rfl)))
  clear b1 ho hB hc1
  have HGL := Lib.hid (roundL_len n m)
  have HGB := Lib.hid (show ∀ i, gapB n m ps K i = (decide (K ≤ i + 1) && (roundL n m).any (zeroAt (cntA ps K (i + 1)))) from fun _ => rfl)
  have HWR := Lib.hid (roundL_wf n m)
  generalize roundL n m = RL at *
  go_wp2_with fail
  go_loopw [35] (fun i wr => ∃ k : Nat, k ≤ len ∧ i = .int .i64 k ∧ Hid ((List.range k).any (gapB n m ps K) = false) ∧ Hid (Below w1.heap.size w1 wr) ∧ Hid (wr.heap[w1.heap.size + 1]? = some (.cells #[.map (some w1.heap.size)] 62 (0, 0))) ∧ Hid (CntMap wr w1.heap.size (cntA ps K k))) (fun i _ => len - (intOf i).toNat)
  case atStart => exact ⟨0, Nat.zero_le _, rfl, Lib.hid (by simp), HC, HZ, by rw [cntA_zero]; exact HM⟩
  case round =>
    obtain ⟨k, hk, rfl, hno, HB, HZ, HM⟩ := hrel
    by_cases hlt : k < len
    · have hlt' : (k : Int) < (len : Int) := by omega
      obtain ⟨bq, oq, hkl, rfl, c0, c1⟩ := picks_at (HR1.out.below HB.out) hlt
      have hwk := HW.out _ (List.getElem_mem hkl)
      have hbd := cntA_bd ps K k ps[k]
      rw [HL.out] at hbd
      obtain ⟨hbd1, hbd2⟩ := hbd
      by_cases hge : K ≤ k
      · have hge' : (K : Int) ≤ (k : Int) := by omega
        have hkl2 : k - K < ps.length := by omega
        have HU := Lib.hid (cntA_hi hkl hge hkl2)
        have hbd3 := upd_bd (fun p => cntA_bd ps K k p) ps[k] ps[k - K]
        rw [HL.out] at hbd3
        obtain ⟨hbd3, hbd4⟩ := hbd3
        have hwk2 := HW.out _ (List.getElem_mem hkl2)
        obtain ⟨bq', oq', hkl3, he, c2, c3⟩ := picks_at HR1.out (show k - K < len by omega)
        cases he
        have hix : ((k : Int) - (K : Int)).toNat = k - K := by omega
        have C2 := Lib.hid c2
        have C3 := Lib.hid c3
        have hb1 : Below wr.heap.size wr (wr.alloc (.cells #[.int .i64 ps[k].1, .int .i64 ps[k].2] 32)) := pickBox _ _
        clear c2 c3
        generalize hp : ps[k] = p at *
        generalize hp2 : ps[k - K] = q at *
        have hq := (heap_alloc_at (w := wr) (o := .cells #[.int .i64 p.1, .int .i64 p.2] 32) rfl)
        obtain ⟨hz1, hz2⟩ := cells1 ((hb1.block _ (lt_of_block HZ.out)).trans HZ.out)
        have hm := HM.out.kept (hb1.block _ HM.out.lt)
        have HB2 := Lib.hid (HB.out.trans (hb1.mono HB.out.size))
        have HZ2 := Lib.hid ((hb1.block _ (lt_of_block HZ.out)).trans HZ.out)
        clear hp hp2 hb1 hkl hkl2 hkl3
        go_wp2_with fail
        clear c0 c1
        generalize hW : wr.alloc (.cells #[.int .i64 p.1, .int .i64 p.2] 32) = W at *
        obtain ⟨v0, st, w2, e44, hm2, h46⟩ := CntMap.entry (w := W.drew) hm hwk
        have hl1 := CntMap.look (w := W.drew) hm hwk
        have hl2 := hm2.look hwk
        obtain ⟨w4, e46, hm4, hg4⟩ := h46 (cntA ps K k p + 1)
        obtain ⟨q0, q1⟩ := cells2 hq
        have HM4 := Lib.hid hm4
        have HB4 := Lib.hid (Below.trans (b := W.drew) ⟨HB2.out.os, HB2.out.tape, HB2.out.output, HB2.out.size, HB2.out.block⟩ (below_of_grown hg4 (Nat.le_refl _) HB2.out.size))
        have HZ4 := Lib.hid ((hg4.block (w1.heap.size + 1) (lt_of_block HZ2.out) (by simp)).trans HZ2.out)
        clear h46 hm4 hg4 hm2 hm hq hW
        generalize hf : upd (cntA ps K k) p (cntA ps K k p + 1) = f at *
        clear hf
        generalize cntA ps K k p = x at *
        replace e46 : (Instr.entryStore 62 (.map (some w1.heap.size)) (.int .i64 st) (.int .i64 (x + 1))).run Try.prog w2 = .ok () w4 := e46
        go_region
        clear e44 e46 hl1 hl2 q0 q1 hz1 hz2
        obtain ⟨hz1, hz2⟩ := cells1 HZ4.out
        have d2 := (HB4.out.cell (p := ⟨bq, oq + (k - K) * 2, none⟩) (World.block_lt_of_cell? w1 _ C2.out)).trans C2.out
        have d3 := (HB4.out.cell (p := ⟨bq, oq + (k - K) * 2 + 1, none⟩) (World.block_lt_of_cell? w1 _ C3.out)).trans C3.out
        obtain ⟨v0', st', w6, e44, hm2, h46⟩ := CntMap.entry (w := w4.drew) HM4.out hwk2
        have hl1 := CntMap.look (w := w4.drew) HM4.out hwk2
        have hl2 := hm2.look hwk2
        obtain ⟨w7, e46, hm7, hg7⟩ := h46 (f q - 1)
        rw [HU.out] at hm7
        have HM7 := Lib.hid hm7
        have HB7 := Lib.hid (Below.trans (b := w4.drew) ⟨HB4.out.os, HB4.out.tape, HB4.out.output, HB4.out.size, HB4.out.block⟩ (below_of_grown hg7 (Nat.le_refl _) HB4.out.size))
        have HZ7 := Lib.hid ((hg7.block (w1.heap.size + 1) (lt_of_block HZ4.out) (by simp)).trans HZ4.out)
        clear h46 hm7 hg7 hm2
        generalize f q = y at *
        replace e46 : (Instr.entryStore 62 (.map (some w1.heap.size)) (.int .i64 st') (.int .i64 (y - 1))).run Try.prog w6 = .ok () w7 := e46
        go_wp2_with fail
        go_region
        clear e44 e46 hl1 hl2 hz1 hz2 d2 d3
        have hcl0 : k < len := hlt
        cases hcl : decide (K ≤ k + 1)
        · have hcl' : ¬ (K : Int) - 1 ≤ (k : Int) := by have := of_decide_eq_false hcl; omega
          have HNO := Lib.hid (range_any_succ hno.out (show gapB n m ps K k = false by rw [HGB.out, hcl]; rfl))
          clear hcl
          go_wp2_with fail
          go_roundw
          case rel => exact ⟨k + 1, by omega, by go_num, HNO, HB7, HZ7, HM7⟩
          case measure => simp [intOf]; omega
        · have hcl' : (K : Int) - 1 ≤ (k : Int) := by have := of_decide_eq_true hcl; omega
          have hgb : gapB n m ps K k = RL.any (zeroAt (cntA ps K (k + 1))) := by rw [HGB.out, hcl]; rfl
          have HK := Lib.hid (contains30_fair (cntA ps K (k + 1)) (w1.heap.size + 1) w1.heap.size B RL.length wcap RL w7 (HO.out.below HB7.out) (by have := HGL.out; omega) HZ7.out HM7.out HWR.out)
          have HGG := Lib.hid hgb
          clear hgb hcl
          unfold AnyPost at HK
          generalize hany : RL.any (zeroAt (cntA ps K (k + 1))) = r at *
          clear hany
          cases r
          · go_wp2_with fail
            refine HK.out.mono ?_
            rintro e w5 ⟨rfl, b5⟩
            have HB5 := Lib.hid (HB7.out.trans (b5.mono HB7.out.size))
            have HZ5 := Lib.hid ((b5.block _ (lt_of_block HZ7.out)).trans HZ7.out)
            have HM5 := Lib.hid (HM7.out.kept (b5.block _ HM7.out.lt))
            have HNO := Lib.hid (range_any_succ hno.out HGG.out)
            clear b5
            go_wp2_with fail
            go_roundw
            case rel => exact ⟨k + 1, by omega, by go_num, HNO, HB5, HZ5, HM5⟩
            case measure => simp [intOf]; omega
          · go_wp2_with fail
            refine HK.out.mono ?_
            rintro e w5 ⟨rfl, b5⟩
            have HB5 := Lib.hid (HB7.out.trans (b5.mono HB7.out.size))
            have HNO := Lib.hid (range_any_hit hlt HGG.out)
            clear b5
            go_wp2_with fail
            go_ret
            exact ⟨ret_bool (by rw [HNO.out]; rfl), HB0.out.trans (HB5.out.mono HB0.out.size)⟩
      · have hge' : ¬ (K : Int) ≤ (k : Int) := by omega
        have HU := Lib.hid (cntA_lo hkl (show k < K by omega))
        have hb1 : Below wr.heap.size wr (wr.alloc (.cells #[.int .i64 ps[k].1, .int .i64 ps[k].2] 32)) := pickBox _ _
        generalize hp : ps[k] = p at *
        have hq := (heap_alloc_at (w := wr) (o := .cells #[.int .i64 p.1, .int .i64 p.2] 32) rfl)
        obtain ⟨hz1, hz2⟩ := cells1 ((hb1.block _ (lt_of_block HZ.out)).trans HZ.out)
        have hm := HM.out.kept (hb1.block _ HM.out.lt)
        have HB2 := Lib.hid (HB.out.trans (hb1.mono HB.out.size))
        have HZ2 := Lib.hid ((hb1.block _ (lt_of_block HZ.out)).trans HZ.out)
        clear hp hb1 hkl
        go_wp2_with fail
        clear c0 c1
        generalize hW : wr.alloc (.cells #[.int .i64 p.1, .int .i64 p.2] 32) = W at *
        obtain ⟨v0, st, w2, e44, hm2, h46⟩ := CntMap.entry (w := W.drew) hm hwk
        have hl1 := CntMap.look (w := W.drew) hm hwk
        have hl2 := hm2.look hwk
        obtain ⟨w4, e46, hm4, hg4⟩ := h46 (cntA ps K k p + 1)
        obtain ⟨q0, q1⟩ := cells2 hq
        rw [HU.out] at hm4
        have HM4 := Lib.hid hm4
        have HB4 := Lib.hid (Below.trans (b := W.drew) ⟨HB2.out.os, HB2.out.tape, HB2.out.output, HB2.out.size, HB2.out.block⟩ (below_of_grown hg4 (Nat.le_refl _) HB2.out.size))
        have HZ4 := Lib.hid ((hg4.block (w1.heap.size + 1) (lt_of_block HZ2.out) (by simp)).trans HZ2.out)
        clear h46 hm4 hg4 hm2 hm hq hW
        generalize cntA ps K k p = x at *
        replace e46 : (Instr.entryStore 62 (.map (some w1.heap.size)) (.int .i64 st) (.int .i64 (x + 1))).run Try.prog w2 = .ok () w4 := e46
        go_region
        clear e44 e46 hl1 hl2 q0 q1 hz1 hz2
        have hcl0 : k < len := hlt
        cases hcl : decide (K ≤ k + 1)
        · have hcl' : ¬ (K : Int) - 1 ≤ (k : Int) := by have := of_decide_eq_false hcl; omega
          have HNO := Lib.hid (range_any_succ hno.out (show gapB n m ps K k = false by rw [HGB.out, hcl]; rfl))
          clear hcl
          go_wp2_with fail
          go_roundw
          case rel => exact ⟨k + 1, by omega, by go_num, HNO, HB4, HZ4, HM4⟩
          case measure => simp [intOf]; omega
        · have hcl' : (K : Int) - 1 ≤ (k : Int) := by have := of_decide_eq_true hcl; omega
          have hgb : gapB n m ps K k = RL.any (zeroAt (cntA ps K (k + 1))) := by rw [HGB.out, hcl]; rfl
          have HK := Lib.hid (contains30_fair (cntA ps K (k + 1)) (w1.heap.size + 1) w1.heap.size B RL.length wcap RL w4 (HO.out.below HB4.out) (by have := HGL.out; omega) HZ4.out HM4.out HWR.out)
          have HGG := Lib.hid hgb
          clear hgb hcl
          unfold AnyPost at HK
          generalize hany : RL.any (zeroAt (cntA ps K (k + 1))) = r at *
          clear hany
          cases r
          · go_wp2_with fail
            refine HK.out.mono ?_
            rintro e w5 ⟨rfl, b5⟩
            have HB5 := Lib.hid (HB4.out.trans (b5.mono HB4.out.size))
            have HZ5 := Lib.hid ((b5.block _ (lt_of_block HZ4.out)).trans HZ4.out)
            have HM5 := Lib.hid (HM4.out.kept (b5.block _ HM4.out.lt))
            have HNO := Lib.hid (range_any_succ hno.out HGG.out)
            clear b5
            go_wp2_with fail
            go_roundw
            case rel => exact ⟨k + 1, by omega, by go_num, HNO, HB5, HZ5, HM5⟩
            case measure => simp [intOf]; omega
          · go_wp2_with fail
            refine HK.out.mono ?_
            rintro e w5 ⟨rfl, b5⟩
            have HB5 := Lib.hid (HB4.out.trans (b5.mono HB4.out.size))
            have HNO := Lib.hid (range_any_hit hlt HGG.out)
            clear b5
            go_wp2_with fail
            go_ret
            exact ⟨ret_bool (by rw [HNO.out]; rfl), HB0.out.trans (HB5.out.mono HB0.out.size)⟩
    · have hlt' : ¬ (k : Int) < (len : Int) := by omega
      have hkn : k = len := by omega
      subst hkn
      go_wp2_with fail
      go_ret
      exact ⟨ret_bool (by rw [hno.out]; rfl), HB0.out.trans (HB.out.mono HB0.out.size)⟩
end Go.Proofs.Ytkbaddopgdfafab
