import Derived.Test.YtkbaddopgdfafaaG12
namespace Go.Proofs.Ytkbaddopgdfafaa
open Go.RowKit Go.Proofs.Besom

theorem sum_bound {i : Nat} {l : Led} (h : LInv i l) : ∀ k, k ≤ l.bal.length → -(8 * (i : Int) * k) ≤ (l.bal.take k).sum ∧ (l.bal.take k).sum ≤ 8 * (i : Int) * k
  | 0, _ => by simp
  | k + 1, hk => by
    have ih := sum_bound h k (by omega)
    have hb := h.ba _ (List.getElem_mem (show k < l.bal.length by omega))
    rw [List.take_succ_eq_append_getElem (by omega), List.sum_append]
    simp only [List.sum_cons, List.sum_nil]
    have : 8 * (i : Int) * ((k + 1 : Nat) : Int) = 8 * (i : Int) * k + 8 * i := by push_cast; rw [Int.mul_add, Int.mul_one]
    omega

theorem sum_exact {i : Nat} {l : Led} (h : LInv i l) (hi : i ≤ 301) (hl : l.bal.length ≤ 16) : ∀ k, k ≤ l.bal.length → sumTo l k = l.sp + l.pool + (l.bal.take k).sum
  | 0, _ => by
    have := h.sp; have := h.po
    simp only [sumTo, List.take_zero, List.foldl_nil, List.sum_nil]
    rw [w64 (by omega) (by omega)]; omega
  | k + 1, hk => by
    have ih := sum_exact h hi hl k (by omega)
    have hlt : k < l.bal.length := by omega
    have hb := h.ba _ (List.getElem_mem hlt)
    have hs := h.sp
    have hp := h.po
    have hsb := sum_bound h k (by omega)
    have hm : 8 * (i : Int) * k ≤ 38528 := by
      have h1 : 8 * i * k ≤ 38528 := Nat.le_trans (Nat.mul_le_mul (Nat.mul_le_mul_left 8 hi) (show k ≤ 16 by omega)) (by decide)
      have e : ((8 * i * k : Nat) : Int) = 8 * (i : Int) * k := by rw [Int.natCast_mul, Int.natCast_mul]; rfl
      rw [← e]; omega
    rw [sum_succ l k hlt, ih, w64 (by omega) (by omega), List.take_succ_eq_append_getElem hlt, List.sum_append]
    simp only [List.sum_cons, List.sum_nil]
    omega

theorem sum_inv {i : Nat} {l : Led} (h : LInv i l) (hi : i ≤ 301) (hl : l.bal.length ≤ 16) (q : Nat) (hq : l.bal.length = q) : sumTo l q = l.sc := by
  subst hq
  rw [sum_exact h hi hl _ (Nat.le_refl _), List.take_length]
  exact h.su

theorem sum_zero {i : Nat} {l : Led} (h : LInv i l) (hi : i ≤ 301) : sumTo l 0 = l.sp + l.pool := by
  have := h.sp; have := h.po
  simp only [sumTo, List.take_zero, List.foldl_nil]
  exact w64 (by omega) (by omega)

theorem right_inv {i : Nat} {l : Led} (h : LInv i l) (hi : i ≤ 301) (hl : l.bal.length ≤ 16) : rightB l = true := by
  have h1 := h.sc; have h2 := h.sp; have h3 := h.po
  exact decide_eq_true ⟨⟨by omega, by omega, by omega, by omega, by omega, by omega, by omega⟩, fun b hb => by have := h.ba b hb; unfold okBal; omega, sum_inv h hi hl _ rfl⟩

set_option maxRecDepth 100000 in
set_option maxHeartbeats 12800000 in
theorem sums10 (ds : List Dd) (m : Int) (A : Option Addr) (n c : Nat) (w : World) (hr : Row w 4 A n (ds.flatMap ddCells')) (hok : ∀ d ∈ ds, d.ok) (_hn : n * 4 ≤ 140737488351232) (h0 : 0 ≤ m ∧ m ≤ 255) :
    Calls Try.prog 10 #[.int .u8 m, .slice A n c] w fun e w' => e = .returned (.bool true) ∧ Below w.heap.size w w' := by
  have HR := Lib.hid hr
  have HK := Lib.hid hok
  have HB0 := Lib.hid (Below.refl w.heap.size w)
  clear hr hok
  obtain ⟨h00, h01⟩ := h0
  go_enter Try.func10, Try.ntmps10
  go_wp2_with fail
  refine (examples10 _).mono ?_
  rintro e w1 ⟨rfl, b1⟩
  have HB1 := Lib.hid b1
  clear b1
  go_wp2_with fail
  obtain ⟨q, hq, hq5⟩ : ∃ q : Nat, m % 6 = (q : Int) ∧ q ≤ 5 := ⟨(m % 6).toNat, by omega, by omega⟩
  rw [hq]
  have HQ := Lib.hid hq
  clear hq
  refine (new_nat q (by omega) _).mono ?_
  rintro e w2 ⟨g1, rfl, r2, b2⟩
  have hx := At.new w2 ⟨0, 0, 0, List.replicate q 0⟩ _ q q r2
  have HO := Lib.hid (Off.new r2)
  have HX := Lib.hid hx
  have hb2 := HB1.out.trans (b2.mono HB1.out.size)
  have HS := Lib.hid hb2.size
  have HB2 := Lib.hid (hb2.alloc hb2.size (.cells (ledC ⟨0, 0, 0, List.replicate q 0⟩ (some ⟨g1, 0, none⟩) q q) 50))
  clear b2 hb2 r2 hx
  go_wp2_with fail
  go_loopw [7] (fun i wr => ∃ (k : Nat) (l : Led) (A' : Option Addr) (c' : Nat), k ≤ n ∧ k ≤ 300 ∧ i = .int .i64 k ∧ At wr w2.heap.size l A' q c' ∧ Off q A' w2.heap.size ∧ LInv k l ∧ Below w.heap.size w wr) (fun i _ => n - (intOf i).toNat)
  case atStart => exact ⟨0, _, _, _, Nat.zero_le _, by omega, rfl, HX.out, HO.out, by have := new_inv (q : Int); rwa [show newL (q : Int) = ⟨0, 0, 0, List.replicate q 0⟩ by (simp only [newL]; rw [show (min (q : Int) 16).toNat = q by omega])] at this, HB2.out⟩
  case round =>
    obtain ⟨k, l, A', c', hk, hk1, rfl, hat, hoff, hinv, hbel⟩ := hrel
    have HX' := Lib.hid hat
    have HO' := Lib.hid hoff
    have HI := Lib.hid hinv
    have HBL := Lib.hid hbel
    clear hat hoff hinv hbel
    by_cases hlt2 : k < n ∧ k < 300
    · obtain ⟨hlt, hlt1⟩ := hlt2
      have hk100 : (k : Int) < 300 := by omega
      obtain ⟨b1, o1, hl, rfl, d0, d1, d2, d3⟩ := dds_at (HR.out.below HBL.out) hlt
      have hdo := HK.out _ (List.getElem_mem hl)
      have hc := fun w' hr' => doled_any ds[k] l A' q c' w' hdo hr' (by omega)
      have hinv' := do_inv hdo (by omega) HI.out
      have hlen' : (doL ds[k] l).bal.length = q := by rw [do_len]; simpa using HX'.out.row.1
      generalize doL ds[k] l = t at hc hinv' hlen'
      have HC := Lib.hid hc
      have HI' := Lib.hid hinv'
      have HLEN := Lib.hid hlen'
      have HSUM := Lib.hid (sum_inv hinv' (by omega) (by omega) q (by omega))
      have HS0 := Lib.hid (sum_zero hinv' (by omega))
      have HRT := Lib.hid (right_inv hinv' (by omega) (by omega))
      clear hc hinv' hlen'
      obtain ⟨q0, q1, q2, q3⟩ := HX'.out.cells
      go_wp2_with fail
      go_still_tail 5, (by kernel_rfl)
      change wpList _ _ _ _ _ wr.drew
      have hdr : Below wr.heap.size wr wr.drew := (Below.refl _ _).drew
      have HX5 := Lib.hid (HX'.out.below hdr)
      have HB5 := Lib.hid (HBL.out.drew)
      clear hdr q0 q1 q2 q3 d0 d1 d2 d3
      generalize wr.drew = w5 at *
      go_wp2_with fail
      refine (HC.out _ HX5.out.row).mono ?_
      rintro e w6 ⟨A6, c6, rfl, r6, b6, hA6⟩
      have HST := Lib.hid (HX5.out.step (c1 := c6) HO'.out r6 b6 hA6)
      have hy := (b6.block _ (lt_of_block HX5.out.blk)).trans HX5.out.blk
      obtain ⟨z0, z1, z2, z3⟩ := cells4 hy
      obtain ⟨f0, f1, f2, f3⟩ := free4 hy
      have HB6 := Lib.hid (below_set4 (p := .int .i64 t.sc) (q := .int .i64 t.sp) (r := .int .i64 t.pool) (s := .slice A6 q c6) (g := w2.heap.size) (HB5.out.trans (b6.mono HB5.out.size)) HS.out)
      clear r6 b6 hA6 hy
      obtain ⟨hpo0, hpo1⟩ := HI'.out.po
      obtain ⟨hsp0, hsp1⟩ := HI'.out.sp
      go_wp2_with fail
      generalize (((w6.setCell ⟨w2.heap.size, 0, none⟩ (.int .i64 t.sc)).setCell ⟨w2.heap.size, 1, none⟩ (.int .i64 t.sp)).setCell ⟨w2.heap.size, 2, none⟩ (.int .i64 t.pool)).setCell ⟨w2.heap.size, 3, none⟩ (.slice A6 q c6) = w7 at *
      clear z0 z1 z2 z3 f0 f1 f2 f3
      obtain ⟨y0, y1, y2, y3⟩ := HST.out.1.cells
      rw [← HS0.out]
      go_loopw [8, 9] (fun s i wl => ∃ (j : Nat), j ≤ q ∧ s = .int .i64 (sumTo t j) ∧ i = .int .i64 j ∧ wl = w7) (fun _ i _ => q - (intOf i).toNat)
      case atStart => exact ⟨0, Nat.zero_le _, rfl, rfl, rfl⟩
      case round =>
        obtain ⟨j, hj, rfl, rfl, rfl⟩ := hrel
        by_cases hjq : j < q
        · obtain ⟨b2, o2, rfl, p1, hl2⟩ := HST.out.1.row.int_at hjq
          rw [List.getD_eq_getElem?_getD, List.getElem?_eq_getElem hl2, Option.getD_some] at p1
          have hss := sum_succ t j hl2
          have HSS := Lib.hid hss
          clear hss
          go_wp2_with fail
          go_roundw
          case rel => exact ⟨j + 1, by omega, by rw [HSS.out], by go_num, by trivial⟩
          case measure => simp [intOf]; omega
        · have hjq' : j = q := by omega
          subst hjq'
          rw [HSUM.out]
          have hne : ((j : Int) != m % 6) = false := by rw [HQ.out]; simp
          have hrt := fun w' hr' => right_any t A6 j c6 w' hr'
          rw [HRT.out] at hrt
          have HRR := Lib.hid hrt
          clear hrt
          go_wp2_with fail
          refine (HRR.out _ HST.out.1.row).mono ?_
          rintro e w8 ⟨rfl, b8⟩
          have HX8 := Lib.hid (HST.out.1.below b8)
          have HB8 := Lib.hid (HB6.out.trans (b8.mono HB6.out.size))
          obtain ⟨y0, y1, y2, y3⟩ := HX8.out.cells
          clear b8
          go_wp2_with fail
          go_roundw
          case rel => exact ⟨k + 1, t, A6, c6, by omega, by omega, by go_num, HX8.out, HST.out.2, HI'.out, HB8.out⟩
          case measure => simp [intOf]; omega
    · rcases (show ¬ k < n ∨ (k < n ∧ ¬ k < 300) by omega) with h | ⟨h, h'⟩
      all_goals
        go_wp2_with fail
        go_ret
        exact ⟨rfl, HBL.out⟩
end Go.Proofs.Ytkbaddopgdfafaa
