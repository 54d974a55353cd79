import Derived.Test.YtkbaddopgdfafaaG11
namespace Go.Proofs.Ytkbaddopgdfafaa
open Go.RowKit Go.Proofs.Besom

theorem new_nat (q : Nat) (hq : q ≤ 16) (w : World) : Calls Try.prog 40 #[.int .i64 (q : Int)] w fun e w' => ∃ g, e = .returned (ledV ⟨0, 0, 0, List.replicate q 0⟩ (some ⟨g, 0, none⟩) q q) ∧ Row w' 1 (some ⟨g, 0, none⟩) q ((List.replicate q (0 : Int)).map (.int .i64)) ∧ Below w.heap.size w w' := by
  have h := new_any (q : Int) w
  have e1 : newL (q : Int) = ⟨0, 0, 0, List.replicate q 0⟩ := by
    simp only [newL]
    rw [show (min (q : Int) 16).toNat = q by omega]
  rw [e1] at h
  refine h.mono ?_
  rintro e w' ⟨g, rfl, r, b⟩
  simp only [List.length_replicate] at r ⊢
  exact ⟨g, rfl, r, b⟩

theorem lim_turn {l : Led} {who x L : Int} {i : Nat} (hi : i ≤ 1000) (hw : 1 ≤ who ∧ who ≤ l.bal.length) (hb : ∀ b ∈ l.bal, -(8 * (i : Int)) ≤ b ∧ b ≤ 8 * i) (h : ∀ b ∈ l.bal, -L ≤ b) (hx0 : -8 ≤ x ∧ x ≤ 8) (hx : 0 ≤ x ∨ -L ≤ l.bal.getD (who - 1).toNat 0 + x) : ∀ b ∈ (turn l who x).bal, -L ≤ b := by
  obtain ⟨k, hk, rfl, he⟩ := turn_bal (x := x) hw
  have hbk := hb _ (List.getElem_mem hk)
  have hbl := h _ (List.getElem_mem hk)
  rw [w64 (by omega) (by omega)] at he
  rw [he]
  intro b hm
  rcases List.mem_or_eq_of_mem_set hm with hm | hm
  · exact h b hm
  · subst hm
    rcases hx with hx | hx
    · omega
    · rw [show ((k : Int) + 1 - 1).toNat = k by omega, List.getD_eq_getElem?_getD, List.getElem?_eq_getElem hk, Option.getD_some] at hx
      exact hx

theorem lim_do {i : Nat} {d : Dd} {l : Led} (hd : d.ok) (hi : i ≤ 1000) (h : LInv i l) (hl : ∀ b ∈ l.bal, -(d.lim % 9) ≤ b) : ∀ b ∈ (doL d l).bal, -(d.lim % 9) ≤ b := by
  obtain ⟨-, -, hn, hlm⟩ := hd
  obtain ⟨⟨a0, a1⟩, ⟨b0, b1⟩, ⟨c0, c1⟩, hb, hs⟩ := h
  unfold doL
  split
  · unfold takeL
    split
    · rename_i ht
      exact lim_turn (l := { l with pool := _ }) hi (there_yes ht.1) hb hl (by omega) (.inl (by omega))
    · exact hl
  · split
    · unfold spendL
      split
      · rename_i ht
        have hq := priced_may ht
        simp only [pricedB, Bool.and_eq_true] at hq
        have hw := there_yes hq.1
        simp only [mayB, Bool.and_eq_true, decide_eq_true_eq] at ht
        have hk : (d.who % 6 - 1).toNat < l.bal.length := by omega
        have hbk := hb _ (List.getElem_mem hk)
        have hg : l.bal.getD (d.who % 6 - 1).toNat 0 = l.bal[(d.who % 6 - 1).toNat] := by
          rw [List.getD_eq_getElem?_getD, List.getElem?_eq_getElem hk, Option.getD_some]
        have h2 := ht.2
        rw [hg, w64 (by omega) (by omega), w64 (by omega) (by omega)] at h2
        refine lim_turn (l := { l with sp := _ }) hi hw hb hl (by omega) (.inr ?_)
        show _ ≤ l.bal.getD (d.who % 6 - 1).toNat 0 + _
        rw [hg]; omega
      · exact hl
    · unfold earnL
      split
      · rename_i ht
        exact lim_turn (l := { l with sc := _ }) hi (there_yes ht) hb hl (by omega) (.inl (by omega))
      · exact hl

set_option maxRecDepth 100000 in
set_option maxHeartbeats 12800000 in
theorem limit11 (ds : List Dd) (m lim : Int) (A : Option Addr) (n c : Nat) (w : World) (hr : Row w 4 A n (ds.flatMap ddCells')) (hok : ∀ d ∈ ds, d.ok) (_hn : n * 4 ≤ 140737488351232) (h0 : 0 ≤ m ∧ m ≤ 255) (h1 : 0 ≤ lim ∧ lim ≤ 255) :
    Calls Try.prog 11 #[.int .u8 m, .int .u8 lim, .slice A n c] w fun e w' => e = .returned (.bool true) ∧ Below w.heap.size w w' := by
  have HR := Lib.hid hr
  have HK := Lib.hid hok
  have HB0 := Lib.hid (Below.refl w.heap.size w)
  clear hr hok
  obtain ⟨h00, h01⟩ := h0
  obtain ⟨h10, h11⟩ := h1
  go_enter Try.func11, Try.ntmps11
  go_wp2_with fail
  refine (examples10 _).mono ?_
  rintro e w1 ⟨rfl, b1⟩
  have HB1 := Lib.hid b1
  clear b1
  go_wp2_with fail
  obtain ⟨q, hq, hq5⟩ : ∃ q : Nat, (1 : Int) + m % 5 = q ∧ q ≤ 5 := ⟨(1 + m % 5).toNat, by omega, by omega⟩
  rw [hq]
  clear hq
  refine (new_nat q (by omega) _).mono ?_
  rintro e w2 ⟨g1, rfl, r2, b2⟩
  have hx := At.new w2 ⟨0, 0, 0, List.replicate q 0⟩ _ q q r2
  have HO := Lib.hid (Off.new r2)
  have HX := Lib.hid hx
  have hb2 := HB1.out.trans (b2.mono HB1.out.size)
  have HS := Lib.hid hb2.size
  have HB2 := Lib.hid (hb2.alloc hb2.size (.cells (ledC ⟨0, 0, 0, List.replicate q 0⟩ (some ⟨g1, 0, none⟩) q q) 50))
  clear b2 hb2 r2 hx
  go_wp2_with fail
  go_loopw [9] (fun i wr => ∃ (k : Nat) (l : Led) (A' : Option Addr) (c' : Nat), k ≤ n ∧ k ≤ 300 ∧ i = .int .i64 k ∧ At wr w2.heap.size l A' q c' ∧ Off q A' w2.heap.size ∧ LInv k l ∧ Hid (∀ b ∈ l.bal, -(lim % 9) ≤ b) ∧ Below w.heap.size w wr) (fun i _ => n - (intOf i).toNat)
  case atStart => exact ⟨0, _, _, _, Nat.zero_le _, by omega, rfl, HX.out, HO.out, by have := new_inv (q : Int); rwa [show newL (q : Int) = ⟨0, 0, 0, List.replicate q 0⟩ by (simp only [newL]; rw [show (min (q : Int) 16).toNat = q by omega])] at this, Lib.hid (fun b hb => by rw [List.mem_replicate] at hb; omega), HB2.out⟩
  case round =>
    obtain ⟨k, l, A', c', hk, hk1, rfl, hat, hoff, hinv, hlim, hbel⟩ := hrel
    have HX' := Lib.hid hat
    have HO' := Lib.hid hoff
    have HI := Lib.hid hinv
    have HBL := Lib.hid hbel
    clear hat hoff hinv hbel
    by_cases hlt2 : k < n ∧ k < 300
    · obtain ⟨hlt, hlt1⟩ := hlt2
      have hk100 : (k : Int) < 300 := by omega
      obtain ⟨b1, o1, hl, rfl, d0, d1, d2, d3⟩ := dds_at (HR.out.below HBL.out) hlt
      have hdo : ({ ds[k] with lim := lim } : Dd).ok := by
        have := HK.out _ (List.getElem_mem hl)
        exact ⟨this.1, this.2.1, this.2.2.1, h10, h11⟩
      have hc := fun w' hr' => doled_any { ds[k] with lim := lim } l A' q c' w' hdo hr' (by omega)
      have hinv' := do_inv hdo (by omega) HI.out
      have hlim' := lim_do hdo (by omega) HI.out hlim.out
      generalize doL { ds[k] with lim := lim } l = t at hc hinv' hlim'
      have HC := Lib.hid hc
      have HI' := Lib.hid hinv'
      have HL' := Lib.hid hlim'
      have HD := Lib.hid hdo
      clear hc hinv' hlim' hdo
      have hb3 := alloc_b wr (.cells #[.int .u8 ds[k].kind, .int .u8 ds[k].who, .int .u8 ds[k].n, .int .u8 lim] 76)
      obtain ⟨q0, q1, q2, q3⟩ := (HX'.out.below hb3).cells
      have HX5 := Lib.hid (HX'.out.below hb3)
      have HB5 := Lib.hid (HBL.out.trans (hb3.mono HBL.out.size))
      clear hb3
      go_wp2_with fail
      refine (HC.out _ HX5.out.row).mono ?_
      rintro e w6 ⟨A6, c6, rfl, r6, b6, hA6⟩
      have HST := Lib.hid (HX5.out.step (c1 := c6) HO'.out r6 b6 hA6)
      have hy := (b6.block _ (lt_of_block HX5.out.blk)).trans HX5.out.blk
      obtain ⟨z0, z1, z2, z3⟩ := cells4 hy
      obtain ⟨f0, f1, f2, f3⟩ := free4 hy
      have HB6 := Lib.hid (below_set4 (p := .int .i64 t.sc) (q := .int .i64 t.sp) (r := .int .i64 t.pool) (s := .slice A6 q c6) (g := w2.heap.size) (HB5.out.trans (b6.mono HB5.out.size)) HS.out)
      clear r6 b6 hA6 hy q0 q1 q2 q3 d0 d1 d2 d3
      go_wp2_with fail
      generalize (((w6.setCell ⟨w2.heap.size, 0, none⟩ (.int .i64 t.sc)).setCell ⟨w2.heap.size, 1, none⟩ (.int .i64 t.sp)).setCell ⟨w2.heap.size, 2, none⟩ (.int .i64 t.pool)).setCell ⟨w2.heap.size, 3, none⟩ (.slice A6 q c6) = w7 at *
      clear z0 z1 z2 z3 f0 f1 f2 f3
      obtain ⟨y0, y1, y2, y3⟩ := HST.out.1.cells
      go_loopw [11] (fun i wl => ∃ (j : Nat), j ≤ q ∧ i = .int .i64 j ∧ wl = w7) (fun i _ => q - (intOf i).toNat)
      case atStart => exact ⟨0, Nat.zero_le _, rfl, rfl⟩
      case round =>
        obtain ⟨j, hj, rfl, rfl⟩ := hrel
        by_cases hjq : j < q
        · obtain ⟨b2, o2, rfl, p1, hl2⟩ := HST.out.1.row.int_at hjq
          have hL := HL'.out _ (List.getElem_mem hl2)
          rw [List.getD_eq_getElem?_getD, List.getElem?_eq_getElem hl2, Option.getD_some] at p1
          generalize t.bal[j] = L at p1 hL
          have hL2 : ¬ L < -(lim % 9) := by omega
          go_wp2_with fail
          go_roundw
          case rel => exact ⟨j + 1, by omega, by go_num, by trivial⟩
          case measure => simp [intOf]; omega
        · go_wp2_with fail
          go_roundw
          case rel => exact ⟨k + 1, t, A6, c6, by omega, by omega, by go_num, HST.out.1, HST.out.2, HI'.out, HL', HB6.out⟩
          case measure => simp [intOf]; omega
    · rcases (show ¬ k < n ∨ (k < n ∧ ¬ k < 300) by omega) with h | ⟨h, h'⟩
      all_goals
        go_wp2_with fail
        go_ret
        exact ⟨rfl, HBL.out⟩
end Go.Proofs.Ytkbaddopgdfafaa
