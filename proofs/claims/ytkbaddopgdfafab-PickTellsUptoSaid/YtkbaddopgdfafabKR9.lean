import Derived.Test.YtkbaddopgdfafabKR8
namespace Go.Proofs.Ytkbaddopgdfafab
open Go.RowKit Go.Proofs.Besom

set_option maxRecDepth 100000 in
set_option maxHeartbeats 6400000 in
theorem ptells3 (A : Option Addr) (len cap : Nat) (ps : List (Int × Int)) (s : ByteArray) (n m k : Int) (w : World) (hr : Row w 2 A len (picksV ps)) (hn : len * 16 ≤ 140737488351232) (hw : ∀ p ∈ ps, wfP p) (hs : s.size * 16 ≤ 140737488351232)
    (hk0 : -9223372036854775808 ≤ k) (hk1 : k ≤ 9223372036854775807) :
    Calls Try.prog 3 #[.slice A len cap, .string s, .int .i64 n, .int .i64 m, .int .i64 k] w fun e w' => e = .returned (.bool true) ∧ Below w.heap.size w w' := by
  have HR := Lib.hid hr
  have HW := Lib.hid hw
  have hl : ps.length = len := by have := hr.1; rw [picksV_len] at this; omega
  have HL := Lib.hid hl
  have hol : (outP s).length ≤ 100000 := by
    unfold outP
    cases parseO s with
    | none => simp [outO]
    | some l =>
      by_cases hh : l.length > 100000
      · simp [outO, hh]
      · simp [outO, hh]; omega
  have hP1 := fun w' => parse11 s w' hs
  have hP2 := fun w' => rparse12 s w' hs
  unfold ParsePost at hP1
  unfold RParsePost at hP2
  have hPr := printB_size ps
  generalize outP s = L at *
  generalize errP s = er at *
  have HP1 := Lib.hid hP1
  have HP2 := Lib.hid hP2
  rw [hl] at hPr
  clear hr hw hl hP1 hP2
  obtain ⟨kn, hkn⟩ : ∃ b, knownL n m ps = b := ⟨_, rfl⟩
  obtain ⟨fa, hfa⟩ : ∃ b, fairL n m k ps = b := ⟨_, rfl⟩
  have HKN := Lib.hid hkn
  have HFA := Lib.hid hfa
  clear hkn hfa
  go_enter Try.func3, Try.ntmps3
  go_wp2_with fail
  refine (examples10 _).mono ?_
  rintro e w1 ⟨rfl, b1⟩
  have HB1 := Lib.hid b1
  clear b1
  go_wp2_with fail
  ((with_reducible refine (HP1.out w1).mono ?_))
  rintro e w2 ⟨v, rfl, o2, b2⟩
  obtain ⟨A2, c2, rfl, r2⟩ := own_row o2
  have HB2 := Lib.hid (HB1.out.trans (b2.mono HB1.out.size))
  have R2 := Lib.hid r2
  clear o2 b2 r2
  go_wp2_with fail
  ((with_reducible refine (HP2.out w2).mono ?_))
  rintro e w3 ⟨v, rfl, o3, b3⟩
  obtain ⟨A3, c3, rfl, r3⟩ := own_row o3
  have HB3 := Lib.hid (HB2.out.trans (b3.mono HB2.out.size))
  have R3 := Lib.hid r3
  have R2' := Lib.hid (R2.out.below b3)
  clear o3 b3 r3
  go_wp2_with fail
  go_loopw [16] (fun i wr => ∃ t : Nat, t ≤ len ∧ i = .int .i64 t ∧ Hid (Below w3.heap.size w3 wr)) (fun i _ => len - (intOf i).toNat)
  case atStart => exact ⟨0, Nat.zero_le _, rfl, Lib.hid (Below.refl _ _)⟩
  case round =>
    obtain ⟨t, ht, rfl, HB⟩ := hrel
    have HBw := Lib.hid (HB3.out.trans (HB.out.mono HB3.out.size))
    by_cases hlt : t < len
    · have hlt' : (t : Int) < (len : Int) := by omega
      obtain ⟨b1, o1, hkl, rfl, c0, c1⟩ := picks_at (HR.out.below HBw.out) hlt
      have HC := Lib.hid (fun w' => right13 ps[t] w')
      have HC2 := Lib.hid (fun w' => right14 ps[t] w')
      have HCC := Lib.hid (And.intro c0 c1)
      have HQ := Lib.hid (fun (W : World) A' (h : Row W 2 A' len (picksV ps)) => picks_at h hlt)
      go_wp2_with fail
      ((with_reducible refine (HC.out _).mono ?_))
      rintro e w4 ⟨rfl, b4⟩
      have HD4 := Lib.hid (HB.out.trans (b4.mono HB.out.size))
      have HB4 := Lib.hid (HB3.out.trans (HD4.out.mono HB3.out.size))
      clear b4
      go_wp2_with fail
      ((with_reducible refine (rpicks15 ps _ len cap w4 (HR.out.below HB4.out) hn).mono ?_))
      rintro e w5 ⟨v5, rfl, o5, b5⟩
      obtain ⟨A5, c5, rfl, r5⟩ := own_row o5
      have HD5 := Lib.hid (HD4.out.trans (b5.mono HD4.out.size))
      obtain ⟨b6, o6, hkl6, rfl, d0, d1⟩ := HQ.out w5 A5 r5
      clear o5 b5 r5
      go_wp2_with fail
      ((with_reducible refine (HC2.out _).mono ?_))
      rintro e w6 ⟨rfl, b6'⟩
      have HD6 := Lib.hid (HD5.out.trans (b6'.mono HD5.out.size))
      clear b6'
      go_wp2_with fail
      go_roundw
      case rel => exact ⟨t + 1, by omega, by go_num, HD6⟩
      case measure => simp [intOf]; omega
    · have hlt' : ¬ (t : Int) < (len : Int) := by omega
      have R2w := Lib.hid (R2'.out.below HB.out)
      have R3w := Lib.hid (R3.out.below HB.out)
      have HPr := Lib.hid hPr
      clear hPr HB HB1 HB2 HB3 R2 R2' R3
      go_wp2_with fail
      ((with_reducible refine (samePicks16 A2 A3 _ _ c2 c3 L L wr (by omega) (by omega) R2w.out R3w.out).mono ?_))
      rintro e w4 ⟨rfl, b4⟩
      have HE4 := Lib.hid (HBw.out.trans (b4.mono HBw.out.size))
      clear b4
      go_wp2_with fail
      ((with_reducible refine (print_is (ps := ps) rfl _ (HR.out.below HE4.out) hn).mono ?_))
      rintro e w5 ⟨rfl, b5⟩
      have HE5 := Lib.hid (HE4.out.trans (b5.mono HE4.out.size))
      clear b5
      go_wp2_with fail
      ((with_reducible refine (rpicks15 ps _ len cap w5 (HR.out.below HE5.out) hn).mono ?_))
      rintro e w6 ⟨v6, rfl, o6, b6⟩
      obtain ⟨A6, c6, rfl, r6⟩ := own_row o6
      have HE6 := Lib.hid (HE5.out.trans (b6.mono HE5.out.size))
      have R6 := Lib.hid r6
      clear b6 o6 r6
      go_wp2_with fail
      ((with_reducible refine (rprint18 ps A6 len c6 w6 R6.out hn).mono ?_))
      rintro e w7 ⟨rfl, b7⟩
      have HE7 := Lib.hid (HE6.out.trans (b7.mono HE6.out.size))
      clear b7
      go_wp2_with fail
      ((with_reducible refine (known_is HKN.out _ (HR.out.below HE7.out) hn).mono ?_))
      rintro e w8 ⟨rfl, b8⟩
      have HE8 := Lib.hid (HE7.out.trans (b8.mono HE7.out.size))
      clear b8
      go_wp2_with fail
      ((with_reducible refine (rpicks15 ps _ len cap w8 (HR.out.below HE8.out) hn).mono ?_))
      rintro e w9 ⟨v9, rfl, o9, b9⟩
      obtain ⟨A9, c9, rfl, r9⟩ := own_row o9
      have HE9 := Lib.hid (HE8.out.trans (b9.mono HE8.out.size))
      have RK := Lib.hid (rknown20 n m A9 len c9 ps w9 r9 hn)
      unfold SamePost at RK
      rw [HKN.out] at RK
      clear b9 o9 r9
      go_wp2_with fail
      ((with_reducible refine RK.out.mono ?_))
      rintro e wa ⟨rfl, ba⟩
      have HEa := Lib.hid (HE9.out.trans (ba.mono HE9.out.size))
      clear ba RK
      go_wp2_with fail
      ((with_reducible refine (fair_is HFA.out _ (HR.out.below HEa.out) hn HW.out).mono ?_))
      rintro e wb ⟨rfl, bb⟩
      have HEb := Lib.hid (HEa.out.trans (bb.mono HEa.out.size))
      clear bb
      go_wp2_with fail
      ((with_reducible refine (rpicks15 ps _ len cap wb (HR.out.below HEb.out) hn).mono ?_))
      rintro e wc ⟨vc, rfl, oc, bc⟩
      obtain ⟨Ac, cc, rfl, hcc, rc⟩ := own_row_cap oc
      have HEc := Lib.hid (HEb.out.trans (bc.mono HEb.out.size))
      have RF := Lib.hid (rfair22 n m k ps Ac len cc wc rc hn hcc hk0 hk1)
      unfold SamePost at RF
      rw [HFA.out] at RF
      clear bc oc rc
      go_wp2_with fail
      ((with_reducible refine RF.out.mono ?_))
      rintro e wd ⟨rfl, bd⟩
      have HEd := Lib.hid (HEc.out.trans (bd.mono HEc.out.size))
      clear bd RF
      have hrl := roundL_len n m
      have HR1 := Lib.hid (fun w' => round23 n m w')
      have HR2 := Lib.hid (fun w' => rround24 n m w')
      generalize roundL n m = RL at *
      go_wp2_with fail
      ((with_reducible refine (HR1.out wd).mono ?_))
      rintro e we ⟨ve, rfl, oe, be⟩
      obtain ⟨Ae, ce, rfl, re⟩ := own_row oe
      have HEe := Lib.hid (HEd.out.trans (be.mono HEd.out.size))
      have Re := Lib.hid re
      clear be oe re
      go_wp2_with fail
      ((with_reducible refine (HR2.out we).mono ?_))
      rintro e wf ⟨vf, rfl, of_, bf⟩
      obtain ⟨Af, cf, rfl, rf⟩ := own_row of_
      have HEf := Lib.hid (HEe.out.trans (bf.mono HEe.out.size))
      have Re' := Lib.hid (Re.out.below bf)
      have Rf := Lib.hid rf
      clear bf of_ rf
      go_wp2_with fail
      ((with_reducible refine (samePicks16 Ae Af _ _ ce cf RL RL wf (by omega) (by omega) Re'.out Rf.out).mono ?_))
      rintro e wg ⟨rfl, bg⟩
      have HEg := Lib.hid (HEf.out.trans (bg.mono HEf.out.size))
      clear bg
      go_wp2_with fail
      go_ret
      exact ⟨ret_bool (by simp), HEg.out⟩
end Go.Proofs.Ytkbaddopgdfafab
