import Derived.Test.YtkbaddopgdfafaaR3
import Derived.Test.YtkbaddopgdfafaaM4
namespace Go.Proofs.Ytkbaddopgdfafaa
open Go.RowKit Go.Proofs.Besom

theorem Try.info33 : (Try.prog.info? 33).map (fun i => (i.zero, i.size, i.bytes)) = some (some (.agg #[.int .i64 0, .int .i64 0, .int .u64 0, .int .u64 0]), 4, 32) := by kernel_rfl

theorem flat_snoc (ops : List Deed) (k : Nat) (h : k < ops.length) : (ops.take k).flatMap opCells ++ [.int .i64 ops[k].1, .int .i64 ops[k].2.1, .int .u64 ops[k].2.2.1, .int .u64 ops[k].2.2.2] = (ops.take (k + 1)).flatMap opCells := by
  rw [List.take_succ_eq_append_getElem h, List.flatMap_append]
  rfl

set_option maxRecDepth 100000 in
set_option maxHeartbeats 3200000 in
theorem tells_any (A B D : Option Addr) (n m p c d f : Nat) (k i a b : Int) (xs ys : List Int) (ops : List Deed) (w : World) (hr : Row w 1 A n (xs.map (.int .u64))) (hn : n * 8 ≤ 140737488351232)
    (hb : Row w 4 B m (ops.flatMap opCells)) (hm : m * 32 ≤ 140737488351232) (hd : Row w 1 D p (ys.map (.int .u64))) (hp : p * 8 ≤ 140737488351232) :
    Calls Try.prog 3 #[.slice A n c, .agg #[.int .i64 k, .int .i64 i, .int .u64 a, .int .u64 b], .slice B m d, .slice D p f] w fun e w' => e = .returned (.bool true) ∧ Below w.heap.size w w' := by
  obtain ⟨i0, hi, hz0, hz1, hz2⟩ := info_parts Try.info33
  have hol : ops.length = m := by have := hb.1; rw [flat4] at this; omega
  have d1 := fun (w' : World) (hr' : Row w' 1 A n (xs.map (.int .u64))) => do_any A n c k i a b xs w' hr' hn
  have d2 := fun (w' : World) (hr' : Row w' 1 A n (xs.map (.int .u64))) => refDo_any A n c k i a b xs w' hr' hn
  generalize memDo xs k i a b = res at d1 d2
  obtain ⟨r1, r2, r3⟩ := res
  have d3 := fun (w' : World) (hr' : Row w' 1 A n (xs.map (.int .u64))) (hb' : Row w' 4 B m (ops.flatMap opCells)) => all_any A B n m c d xs ops w' hr' hn hb' hm
  have d4 := fun (w' : World) (B' : Option Addr) (c' : Nat) (hr' : Row w' 1 A n (xs.map (.int .u64))) (hb' : Row w' 4 B' m (ops.flatMap opCells)) => refAll_any A B' n m c c' xs ops w' hr' hn hb' hm
  generalize memAll xs ops = rall at d3 d4
  obtain ⟨t1, t2, t3⟩ := rall
  have HOL := Lib.hid hol
  have D1 := Lib.hid d1
  have D2 := Lib.hid d2
  have D3 := Lib.hid d3
  have D4 := Lib.hid d4
  have HR := Lib.hid hr
  have HB := Lib.hid hb
  have HD := Lib.hid hd
  have hbx : Below w.heap.size w (w.alloc (opBlk k i a b)) := (Below.refl _ _).alloc (Nat.le_refl _) _
  have HBX := Lib.hid hbx
  clear hol d1 d2 d3 d4 hr hb hd hbx
  go_enter Try.func3, Try.ntmps3
  go_wp2_with fail
  refine (examples_any _).mono ?_
  rintro e w1 ⟨rfl, b1⟩
  have HB1 := Lib.hid (HBX.out.trans (b1.mono HBX.out.size))
  have HC := Lib.hid (show w1.heap[w.heap.size]? = some (opBlk k i a b) from (b1.block _ (by simp)).trans (heap_alloc_at rfl))
  obtain ⟨q0, q1, q2, q3⟩ := cells4 HC.out
  clear b1
  go_wp2_with fail
  refine (D1.out _ (HR.out.below HB1.out)).mono ?_
  rintro e w2 ⟨A2, c2, rfl, h2, b2, -⟩
  have HB2 := Lib.hid (HB1.out.trans (b2.mono HB1.out.size))
  obtain ⟨s0, s1, s2, s3⟩ := cells4 ((b2.block _ (lt_of_block HC.out)).trans HC.out)
  have H2 := Lib.hid h2
  clear q0 q1 q2 q3 h2 b2
  go_wp2_with fail
  refine (refOp_any k i a b _).mono ?_
  rintro e w3 ⟨rfl, b3⟩
  have HB3 := Lib.hid (HB2.out.trans (b3.mono HB2.out.size))
  have H3 := Lib.hid (H2.out.below b3)
  clear s0 s1 s2 s3 b3
  go_wp2_with fail
  refine (D2.out _ (HR.out.below HB3.out)).mono ?_
  rintro e w4 ⟨A4, c4, rfl, h4, b4, -⟩
  have HB4 := Lib.hid (HB3.out.trans (b4.mono HB3.out.size))
  have H3' := Lib.hid (H3.out.below b4)
  have H4 := Lib.hid h4
  clear h4 b4
  go_wp2_with fail
  go_loopw [16, 17] (fun v t wr => ∃ (j : Nat) (v0 : Value), j ≤ m ∧ v0 = v ∧ t = .int .i64 j ∧ wr.ownsRow w4.heap.size 33 4 v j ((ops.take j).flatMap opCells) ∧ Below w4.heap.size w4 wr) (fun _ t _ => m - (intOf t).toNat)
  case atStart => exact ⟨0, _, Nat.zero_le _, rfl, rfl, World.ownsRow_nil w4 _ _ _, Below.refl _ _⟩
  case round =>
    obtain ⟨j, v, hj, rfl, rfl, hown, hbel⟩ := hrel
    have HW := Lib.hid hown
    have HBR := Lib.hid (HB4.out.trans (hbel.mono HB4.out.size))
    have HBL := Lib.hid hbel
    clear hown hbel
    by_cases hlt : j < m
    · obtain ⟨b1, o1, hl, rfl, h0, h1, h2, h3⟩ := ops_at (HB.out.below HBR.out) hlt
      have hfs := flat_snoc ops j hl
      have HF := Lib.hid hfs
      clear hfs
      go_wp2_with fail
      refine (refOp_any _ _ _ _ _).mono ?_
      rintro e w5 ⟨rfl, b5⟩
      have hown5 := own_below HW.out b5
      have HBL5 := Lib.hid (HBL.out.trans (b5.mono HBL.out.size))
      have HW5 := Lib.hid hown5
      have hsz := HBL5.out.size
      clear hown5 b5
      go_wp2_with (at_builtin; refine wpList_append_row _ rfl (.tmp 48) (.tmp 54) 35 rfl w4.heap.size 33 i0 _ 4 32 Try.underlying35 hi hz0 hz1 hz2 rfl (by decide) v j _ rfl (HW5.out.alloc _) (some ⟨w5.heap.size, 0, none⟩) 1 1 [.int .i64 ops[j].1, .int .i64 ops[j].2.1, .int .u64 ops[j].2.2.1, .int .u64 ops[j].2.2.2] rfl (row_lit w5 #[.int .i64 ops[j].1, .int .i64 ops[j].2.1, .int .u64 ops[j].2.2.1, .int .u64 ops[j].2.2.2] 33 4 1 rfl rfl) (by simp [Value.oneCell']) (by unfold maxLen; omega) (by omega) (by simp; omega) ?_; intro v6 w6 o6 g6 at6)
      have hbel6 := (HBL5.out.alloc HBL5.out.size (.cells #[.int .i64 ops[j].1, .int .i64 ops[j].2.1, .int .u64 ops[j].2.2.1, .int .u64 ops[j].2.2.2] 33)).grown g6 (by simp; omega) (fun g hg => (HW5.out.lt g hg).1)
      rw [HF.out] at o6
      have O6 := Lib.hid o6
      clear o6 g6 at6 h0 h1 h2 h3
      go_roundw
      case rel => exact ⟨j + 1, v6, by omega, rfl, by go_num, O6.out, hbel6⟩
      case measure => simp [intOf]; omega
    · obtain rfl : m = j := by omega
      have hw := HW.out
      rw [List.take_of_length_le (by rw [HOL.out]; omega)] at hw
      obtain ⟨Br, cr, rfl, hrow⟩ := own_row hw
      have HROW := Lib.hid hrow
      clear hw hrow HW
      go_wp2_with fail
      refine (D3.out _ (HR.out.below HBR.out) (HB.out.below HBR.out)).mono ?_
      rintro e w5 ⟨A5, c5, v5, rfl, h5, o5, b5⟩
      have HB5 := Lib.hid (HBR.out.trans (b5.mono HBR.out.size))
      obtain ⟨B5, e5, rfl, ho5⟩ := own_row o5
      have H5 := Lib.hid h5
      have O5 := Lib.hid ho5
      have HB45 := Lib.hid (HBL.out.trans (b5.mono HBL.out.size))
      have HROW5 := Lib.hid (HROW.out.below b5)
      clear h5 o5 ho5 b5
      go_wp2_with fail
      refine (D4.out _ Br cr (HR.out.below HB5.out) HROW5.out).mono ?_
      rintro e w6 ⟨A6, c6, v6, rfl, h6, o6, b6⟩
      have HB6 := Lib.hid (HB5.out.trans (b6.mono HB5.out.size))
      obtain ⟨B6, e6, rfl, ho6⟩ := own_row o6
      have HB46 := Lib.hid (HB45.out.trans (b6.mono HB45.out.size))
      have S1 := Lib.hid (lawSame_any A2 A4 n n c2 c4 r1 r1 w6 (by omega) (by omega) (H3'.out.below HB46.out) (H4.out.below HB46.out))
      have S2 := Lib.hid (fun q => lawSame_any A5 A6 n n c5 c6 t1 t1 (w6.drewN q) (by omega) (by omega) ((H5.out.below b6).below (below_drewN (Below.refl _ _) q)) (h6.below (below_drewN (Below.refl _ _) q)))
      have S3 := Lib.hid (fun q => refSame_any B5 B6 m m e5 e6 t2 t2 (w6.drewN q) (by omega) (by omega) ((O5.out.below b6).below (below_drewN (Below.refl _ _) q)) (ho6.below (below_drewN (Below.refl _ _) q)))
      have S4 := Lib.hid (fun q => same_any A D n p c f xs ys (w6.drewN q) (by omega) (by omega) ((HR.out.below HB6.out).below (below_drewN (Below.refl _ _) q)) ((HD.out.below HB6.out).below (below_drewN (Below.refl _ _) q)))
      have S5 := Lib.hid (fun q => refSame_any A D n p c f xs ys (w6.drewN q) (by omega) (by omega) ((HR.out.below HB6.out).below (below_drewN (Below.refl _ _) q)) ((HD.out.below HB6.out).below (below_drewN (Below.refl _ _) q)))
      clear h6 o6 b6 ho6
      go_wp2_with fail
      refine S1.out.mono ?_
      rintro e w7 ⟨rfl, q7, rfl⟩
      go_wp2_with fail
      refine (S2.out _).mono ?_
      rintro e w8 ⟨rfl, q8, rfl⟩
      go_wp2_with fail
      refine (S3.out _).mono ?_
      rintro e w9 ⟨rfl, q9, rfl⟩
      go_wp2_with fail
      refine (S4.out _).mono ?_
      rintro e w10 ⟨rfl, q10, rfl⟩
      go_wp2_with fail
      refine (S5.out _).mono ?_
      rintro e w11 ⟨rfl, q11, rfl⟩
      go_wp2_with fail
      go_ret
      exact ⟨rfl, below_drewN HB6.out _⟩
end Go.Proofs.Ytkbaddopgdfafaa
