import Derived.Test.YtkbaddopgdfafaaG11
namespace Go.Proofs.Ytkbaddopgdfafaa
open Go.RowKit Go.Proofs.Besom

/-- A block of a ledger whose row of three is the program's own. -/
structure Lo (w : World) (gm : Nat) (l : Led) (gb cap : Nat) : Prop where
  blk : w.heap[gm]? = some (.cells (ledC l (some ⟨gb, 0, none⟩) 3 cap) 50 (0, 0))
  own : w.ownsRow (gm + 1) 2 1 (.slice (some ⟨gb, 0, none⟩) 3 cap) 3 (l.bal.map (.int .i64))

theorem Lo.lt {w : World} {gm gb cap : Nat} {l : Led} (h : Lo w gm l gb cap) : gm < gb ∧ gb < w.heap.size := by
  have := h.own.lt gb rfl; omega

theorem Lo.below {w w' : World} {gm gb cap : Nat} {l : Led} (h : Lo w gm l gb cap) (hb : Below w.heap.size w w') : Lo w' gm l gb cap :=
  ⟨(hb.block _ (lt_of_block h.blk)).trans h.blk, own_below h.own hb⟩

theorem Lo.at {w : World} {gm gb cap : Nat} {l : Led} (h : Lo w gm l gb cap) : At w gm l (some ⟨gb, 0, none⟩) 3 cap := ⟨h.blk, Row.of_own h.own⟩

theorem Lo.make {w : World} {gm : Nat} {l : Led} {s v : Value} {base : Nat} (h : w.heap[gm]? = some (.cells #[.int .i64 l.sc, .int .i64 l.sp, .int .i64 l.pool, s] 50 (0, 0))) (hb : gm + 1 ≤ base)
    (ho : w.ownsRow base 2 1 v 3 (l.bal.map (.int .i64))) : ∃ gb cap, v = .slice (some ⟨gb, 0, none⟩) 3 cap ∧ Lo (w.setCell ⟨gm, 3, none⟩ v) gm l gb cap := by
  obtain ⟨gb, cap, rfl, h1, h2⟩ := own_form ho (by decide)
  exact ⟨gb, cap, rfl, blk_set h, ownsRow_setCell_other (ho.mono_base hb) (by simp [Value.ownBlock]; omega) _⟩

theorem Lo.set {w : World} {gm gb cap k : Nat} {l : Led} {x : Int} (h : Lo w gm l gb cap) : Lo (w.setCell ⟨gb, k, none⟩ (.int .i64 x)) gm { l with bal := l.bal.set k x } gb cap := by
  have hl := h.lt
  refine ⟨blk_other h.blk (by omega), ?_⟩
  have := (h.own.stored k (.int .i64 x)).1
  rwa [map_set_int'] at this

theorem Lo.other {w : World} {gm gb cap g i : Nat} {l : Led} {v : Value} (h : Lo w gm l gb cap) (h1 : g ≠ gm) (h2 : g ≠ gb) : Lo (w.setCell ⟨g, i, none⟩ v) gm l gb cap :=
  ⟨blk_other h.blk (Ne.symm h1), ownsRow_setCell_other h.own (by simp [Value.ownBlock]; omega) _⟩

theorem At.other {w : World} {g g' i n c : Nat} {l : Led} {A : Option Addr} {v : Value} (h : At w g l A n c) (h1 : g ≠ g') (h2 : ∀ ad, A = some ad → ad.block ≠ g') : At (w.setCell ⟨g', i, none⟩ v) g l A n c :=
  ⟨blk_other h.blk h1, h.row.set_other h2⟩

theorem may_known {l : Led} {k : Nat} {p lim L : Int} (hk : k < l.bal.length) (hp : 0 ≤ p ∧ p ≤ 65535) (hl : 0 ≤ lim ∧ lim ≤ 65535) (hL : l.bal.getD k 0 = L) (hb : -1000000 ≤ L ∧ L ≤ 1000000) :
    mayB l ((k : Int) + 1) p lim = decide (-lim ≤ L - p) := by
  have ht : pricedB l.bal.length ((k : Int) + 1) p lim = true := by
    simp only [pricedB, thereB, Bool.and_eq_true, decide_eq_true_eq]
    omega
  have hkn : ((k : Int) + 1 - 1).toNat = k := by omega
  simp only [mayB, ht, hkn, hL, Bool.true_and]
  rw [w64 (by omega) (by omega), w64 (by omega) (by omega)]

theorem lacks_known {l : Led} {k : Nat} {p lim L : Int} (hk : k < l.bal.length) (hp : 0 ≤ p ∧ p ≤ 65535) (hl : 0 ≤ lim ∧ lim ≤ 65535) (hL : l.bal.getD k 0 = L) (hb : -1000000 ≤ L ∧ L ≤ 1000000) (hm : ¬ -lim ≤ L - p) :
    lacksI l ((k : Int) + 1) p lim = p - lim - L := by
  have ht : pricedB l.bal.length ((k : Int) + 1) p lim = true := by
    simp only [pricedB, thereB, Bool.and_eq_true, decide_eq_true_eq]
    omega
  have hkn : ((k : Int) + 1 - 1).toNat = k := by omega
  have hm' : mayB l ((k : Int) + 1) p lim = false := by rw [may_known hk hp hl hL hb]; simpa using hm
  simp only [lacksI, ht, hm', hkn, hL]
  rw [w64 (by omega) (by omega) (x := p - lim), w64 (by omega) (by omega)]
  simp

theorem spend_known {l : Led} {k : Nat} {p lim L : Int} (hk : k < l.bal.length) (hp : 0 ≤ p ∧ p ≤ 65535) (hl : 0 ≤ lim ∧ lim ≤ 65535) (hL : l.bal.getD k 0 = L) (hb : -1000000 ≤ L ∧ L ≤ 1000000) (hm : -lim ≤ L - p) (hs : 0 ≤ l.sp ∧ l.sp ≤ 1000000) :
    ∃ bal', spendL l ((k : Int) + 1) p lim = (⟨l.sc, l.sp + p, l.pool, bal'⟩, true) ∧ bal'.getD k 0 = L - p ∧ bal'.length = l.bal.length := by
  have hm' : mayB l ((k : Int) + 1) p lim = true := by rw [may_known hk hp hl hL hb]; simpa using hm
  have hkn : ((k : Int) + 1 - 1).toNat = k := by omega
  have hw1 : wrap64 (l.sp + p) = l.sp + p := w64 (by omega) (by omega)
  have hw2 : wrap64 (l.bal.getD k 0 + -p) = L - p := by rw [hL, w64 (by omega) (by omega)]; omega
  refine ⟨l.bal.set k (L - p), ?_, ?_, by simp⟩
  · simp only [spendL, hm', if_true, turn, hkn, hw1, hw2]
  · rw [List.getD_eq_getElem?_getD, List.getElem?_set_self hk, Option.getD_some]

set_option maxRecDepth 100000 in
set_option maxHeartbeats 25600000 in
theorem lacks12 (ds : List Dd) (who p lim : Int) (A : Option Addr) (n c : Nat) (w : World) (hr : Row w 4 A n (ds.flatMap ddCells')) (hok : ∀ d ∈ ds, d.ok) (_hn : n * 4 ≤ 140737488351232) (h0 : 0 ≤ who ∧ who ≤ 255) (h1 : 0 ≤ p ∧ p ≤ 65535) (h2 : 0 ≤ lim ∧ lim ≤ 65535) :
    Calls Try.prog 12 #[.slice A n c, .int .u8 who, .int .u16 p, .int .u16 lim] w fun e w' => e = .returned (.bool true) ∧ Below w.heap.size w w' := by
  have HR := Lib.hid hr
  have HK := Lib.hid hok
  have HB0 := Lib.hid (Below.refl w.heap.size w)
  clear hr hok
  obtain ⟨h00, h01⟩ := h0
  obtain ⟨h10, h11⟩ := h1
  obtain ⟨h20, h21⟩ := h2
  obtain ⟨i0, hi, hz0, hz1, hz2⟩ := info_parts Try.info2
  go_enter Try.func12, Try.ntmps12
  go_wp2_with fail
  refine (examples10 _).mono ?_
  rintro e w1 ⟨rfl, b1⟩
  have HB1 := Lib.hid b1
  clear b1
  go_wp2_with fail
  refine (new_3 _).mono ?_
  rintro e w2 ⟨g1, rfl, r2, b2⟩
  have hx := At.new w2 ⟨0, 0, 0, [0, 0, 0]⟩ _ 3 3 r2
  have HO := Lib.hid (Off.new r2)
  have HX := Lib.hid hx
  have hb2 := HB1.out.trans (b2.mono HB1.out.size)
  have HS := Lib.hid hb2.size
  have HB2 := Lib.hid (hb2.alloc hb2.size (.cells (ledC ⟨0, 0, 0, [0, 0, 0]⟩ (some ⟨g1, 0, none⟩) 3 3) 50))
  clear b2 hb2 r2 hx
  go_wp2_with fail
  go_loopw [11] (fun i wr => ∃ (k : Nat) (l : Led) (A' : Option Addr) (c' : Nat), k ≤ n ∧ k ≤ 100 ∧ i = .int .i64 k ∧ At wr w2.heap.size l A' 3 c' ∧ Off 3 A' w2.heap.size ∧ LInv k l ∧ Below w.heap.size w wr) (fun i _ => n - (intOf i).toNat)
  case atStart => exact ⟨0, _, _, _, Nat.zero_le _, by omega, rfl, HX.out, HO.out, new_inv 3, HB2.out⟩
  case round =>
    obtain ⟨k, l, A', c', hk, hk1, rfl, hat, hoff, hinv, hbel⟩ := hrel
    obtain ⟨q0, q1, q2, q3⟩ := hat.cells
    have HX' := Lib.hid hat
    have HO' := Lib.hid hoff
    have HI := Lib.hid hinv
    clear hat hoff hinv
    by_cases hlt2 : k < n ∧ k < 100
    · obtain ⟨hlt, hlt1⟩ := hlt2
      · have hk100 : (k : Int) < 100 := by omega
        obtain ⟨b1, o1, hl, rfl, d0, d1, d2, d3⟩ := dds_at (HR.out.below hbel) hlt
        have hdo := HK.out _ (List.getElem_mem hl)
        have hc := fun w' hr' => doled_any ds[k] l A' 3 c' w' hdo hr' (by decide)
        have hinv' := do_inv hdo (by omega) HI.out
        generalize doL ds[k] l = t at hc hinv'
        have HC := Lib.hid hc
        have HI' := Lib.hid hinv'
        clear hc hinv'
        go_wp2_with fail
        go_still_tail 5, (by kernel_rfl)
        change wpList _ _ _ _ _ wr.drew
        have hdr : Below wr.heap.size wr wr.drew := (Below.refl _ _).drew
        have HX5 := Lib.hid (HX'.out.below hdr)
        have HB5 := Lib.hid (hbel.drew)
        clear hdr q0 q1 q2 q3 d0 d1 d2 d3
        generalize wr.drew = w5 at *
        go_wp2_with fail
        refine (HC.out _ HX5.out.row).mono ?_
        rintro e w6 ⟨A6, c6, rfl, r6, b6, hA6⟩
        have HST := Lib.hid (HX5.out.step (c1 := c6) HO'.out r6 b6 hA6)
        have hy := (b6.block _ (lt_of_block HX5.out.blk)).trans HX5.out.blk
        obtain ⟨z0, z1, z2, z3⟩ := cells4 hy
        obtain ⟨f0, f1, f2, f3⟩ := free4 hy
        have HB6 := Lib.hid (below_set4 (p := .int .i64 t.sc) (q := .int .i64 t.sp) (r := .int .i64 t.pool) (s := .slice A6 3 c6) (g := w2.heap.size) (HB5.out.trans (b6.mono HB5.out.size)) HS.out)
        clear r6 b6 hA6 hy
        go_wp2_with fail
        go_roundw
        case rel => exact ⟨k + 1, t, A6, c6, by omega, by omega, by go_num, HST.out.1, HST.out.2, HI'.out, HB6.out⟩
        case measure => simp [intOf]; omega
    · rcases (show ¬ k < n ∨ (k < n ∧ ¬ k < 100) by omega) with h | ⟨h, h'⟩
      all_goals
        obtain ⟨k2, hk2, hk3⟩ : ∃ k2 : Nat, who % 3 = (k2 : Int) ∧ k2 < 3 := ⟨(who % 3).toNat, by omega, by omega⟩
        have hlen : l.bal.length = 3 := by simpa using HX'.out.row.1
        have hbk : -800 ≤ l.bal.getD k2 0 ∧ l.bal.getD k2 0 ≤ 800 := by
          rw [List.getD_eq_getElem?_getD, List.getElem?_eq_getElem (by omega), Option.getD_some]
          have := HI.out.ba _ (List.getElem_mem (show k2 < l.bal.length by omega)); omega
        obtain ⟨hbk0, hbk1⟩ := hbk
        have HE := Lib.hid (show (1 : Int) + who % 3 = (k2 : Int) + 1 by omega)
        have HBL := Lib.hid hbel
        have hla := fun w' hr' => lacks_any l A' 3 c' ((k2 : Int) + 1) p lim w' hr' (by decide)
        have hma := fun w' hr' => may_any l A' 3 c' ((k2 : Int) + 1) p lim w' hr' (by decide)
        have hsp := fun w' hr' => spend_any l A' 3 c' ((k2 : Int) + 1) p lim w' hr' (by decide)
        have hsps := HI.out.sp
        have hmk := may_known (l := l) (k := k2) (L := l.bal.getD k2 0) (by omega) ⟨h10, h11⟩ ⟨h20, h21⟩ rfl (by omega)
        by_cases hmay : -lim ≤ l.bal.getD k2 0 - p
        · obtain ⟨bal', hs1, hb', hl'⟩ := spend_known (l := l) (k := k2) (by omega) ⟨h10, h11⟩ ⟨h20, h21⟩ rfl (by omega) hmay (by omega)
          have hm1 : mayB l ((k2 : Int) + 1) p lim = true := by rw [hmk]; simpa using hmay
          have hl1 : lacksI l ((k2 : Int) + 1) p lim = 0 := by
            have hp := priced_may hm1
            simp [lacksI, hm1, hp]
          rw [hl1] at hla
          rw [hm1] at hma
          rw [hs1] at hsp
          have HLA := Lib.hid hla
          have HMA := Lib.hid hma
          have HSP := Lib.hid hsp
          have HV := Lib.hid hb'
          obtain ⟨hsp0, hsp1⟩ := hsps
          clear hla hma hsp hmk hmay hl1 hm1 hs1 hb' hl' hlen hbel hk2
          go_wp2_with fail
          rw [HE.out]
          go_wp2_with fail
          refine (HLA.out _ HX'.out.row).mono ?_
          rintro e w3 ⟨rfl, b3⟩
          have HX3 := Lib.hid (HX'.out.below b3)
          have HB3 := Lib.hid (HBL.out.trans (b3.mono HBL.out.size))
          obtain ⟨q0, q1, q2, q3⟩ := HX3.out.cells
          clear b3
          go_wp2_with fail
          refine (HMA.out _ HX3.out.row).mono ?_
          rintro e w4 ⟨rfl, b4⟩
          have HX4 := Lib.hid (HX3.out.below b4)
          have HB4 := Lib.hid (HB3.out.trans (b4.mono HB3.out.size))
          obtain ⟨q0, q1, q2, q3⟩ := HX4.out.cells
          clear b4
          go_wp2_with fail
          refine (HSP.out _ HX4.out.row).mono ?_
          rintro e w6 ⟨A6, c6, rfl, r6, b6, -⟩
          have hb6 := b6.alloc b6.size (.cells (ledC ⟨l.sc, l.sp + p, l.pool, bal'⟩ A6 3 c6) 50)
          have hx6 := HX4.out.below hb6
          have hy6 := At.new w6 ⟨l.sc, l.sp + p, l.pool, bal'⟩ A6 3 c6 r6
          obtain ⟨y0, y1, y2, y3⟩ := hy6.cells
          obtain ⟨x0, x1, x2, x3⟩ := hx6.cells
          obtain ⟨bx, ox, rfl, p1, -⟩ := hx6.row.int_at hk3
          obtain ⟨by_, oy, rfl, p2, -⟩ := hy6.row.int_at hk3
          rw [show ({ sc := l.sc, sp := l.sp + p, pool := l.pool, bal := bal' } : Led).bal = bal' from rfl, HV.out] at p2
          generalize l.bal.getD k2 0 = L at p1 p2 hbk0 hbk1
          have HB6 := Lib.hid (HB4.out.trans (hb6.mono HB4.out.size))
          simp only at y0 y1 y2 y3
          clear b6 hb6 hx6 hy6 r6 q0 q1 q2 q3
          have e1 : IntKind.i64.wrap ((k2 : Int) + 1 - 1) = k2 := by rw [show (k2 : Int) + 1 - 1 = k2 by omega]; exact IntWalk.i64_in _ (by omega)
          have e2 : IntKind.i64.wrap (L - p) = L - p := IntWalk.i64_in _ (by omega)
          have e3 : IntKind.i64.wrap (l.sp + p) = l.sp + p := IntWalk.i64_in _ (by omega)
          go_wp2_with fail
          go_quiet (fail)
          go_wp2_with fail
          go_ret
          exact ⟨rfl, below_drewN HB6.out _⟩
        · have hlk := lacks_known (l := l) (k := k2) (L := l.bal.getD k2 0) (by omega) ⟨h10, h11⟩ ⟨h20, h21⟩ rfl (by omega) hmay
          have hm0 : mayB l ((k2 : Int) + 1) p lim = false := by rw [hmk]; simpa using hmay
          have hs0 : spendL l ((k2 : Int) + 1) p lim = (l, false) := by simp [spendL, hm0]
          rw [hlk] at hla
          rw [hm0] at hma
          rw [hs0] at hsp
          obtain ⟨Z, hZ⟩ : ∃ Z, p - lim - l.bal.getD k2 0 = Z := ⟨_, rfl⟩
          rw [hZ] at hla
          have hZ0 : 0 < Z := by omega
          have hZ1 : Z ≤ 100000 := by omega
          have hmore := may_known (l := { l with bal := l.bal.set k2 (l.bal.getD k2 0 + Z) }) (k := k2) (L := l.bal.getD k2 0 + Z) (p := p) (lim := lim) (by simp; omega) ⟨h10, h11⟩ ⟨h20, h21⟩ (by simp [List.getD_eq_getElem?_getD, List.getElem?_set_self (show k2 < l.bal.length by omega)]) (by omega)
          rw [show decide (-lim ≤ l.bal.getD k2 0 + Z - p) = true from decide_eq_true (by omega)] at hmore
          have hless := may_known (l := { l with bal := (l.bal.set k2 (l.bal.getD k2 0 + Z)).set k2 (l.bal.getD k2 0 + Z - 1) }) (k := k2) (L := l.bal.getD k2 0 + Z - 1) (p := p) (lim := lim) (by simp; omega) ⟨h10, h11⟩ ⟨h20, h21⟩ (by simp [List.getD_eq_getElem?_getD, List.getElem?_set_self (show k2 < l.bal.length by omega)]) (by omega)
          rw [show decide (-lim ≤ l.bal.getD k2 0 + Z - 1 - p) = false from decide_eq_false (by omega)] at hless
          have HLA := Lib.hid hla
          have HMA := Lib.hid hma
          have HSP := Lib.hid hsp
          have HMORE := Lib.hid hmore
          have HLESS := Lib.hid hless
          have HLEN := Lib.hid hlen
          clear hla hma hsp hsps hmk hmay hlk hm0 hs0 hZ hmore hless hlen hbel hk2
          go_wp2_with fail
          rw [HE.out]
          go_wp2_with fail
          refine (HLA.out _ HX'.out.row).mono ?_
          rintro e w3 ⟨rfl, b3⟩
          have HX3 := Lib.hid (HX'.out.below b3)
          have HB3 := Lib.hid (HBL.out.trans (b3.mono HBL.out.size))
          obtain ⟨q0, q1, q2, q3⟩ := HX3.out.cells
          clear b3
          go_wp2_with fail
          refine (HMA.out _ HX3.out.row).mono ?_
          rintro e w4 ⟨rfl, b4⟩
          have HX4 := Lib.hid (HX3.out.below b4)
          have HB4 := Lib.hid (HB3.out.trans (b4.mono HB3.out.size))
          obtain ⟨q0, q1, q2, q3⟩ := HX4.out.cells
          clear b4
          go_wp2_with fail
          refine (HSP.out _ HX4.out.row).mono ?_
          rintro e w5 ⟨A5, c5, rfl, -, b5, -⟩
          have hb6 := (b5.alloc b5.size (.cells (ledC l A5 3 c5) 50))
          have hx6 := HX4.out.below hb6
          obtain ⟨q0, q1, q2, q3⟩ := hx6.cells
          have hb7 := hb6.alloc hb6.size (.cells (ledC l A' 3 c') 50)
          have hx7 := HX4.out.below hb7
          obtain ⟨y0, y1, y2, y3⟩ := hx7.cells
          have hm7 : ((w5.alloc (.cells (ledC l A5 3 c5) 50)).alloc (.cells (ledC l A' 3 c') 50)).heap[w5.heap.size + 1]? = some (.cells (ledC l A' 3 c') 50 (0, 0)) := heap_alloc_at (by simp)
          have HX7 := Lib.hid hx7
          have HB7 := Lib.hid (HB4.out.trans (hb7.mono HB4.out.size))
          have HM7 := Lib.hid hm7
          have HG7 := Lib.hid (show w2.heap.size < w5.heap.size from Nat.lt_of_lt_of_le (lt_of_block HX4.out.blk) b5.size)
          have HOA := Lib.hid (show ∀ ad, A' = some ad → ad.block < w5.heap.size from fun ad h => Nat.lt_of_lt_of_le (HX4.out.row.lt_ (by omega) (by omega) h) b5.size)
          clear b5 hb6 hx6 hb7 hx7 hm7
          have hL : (l.bal.map (Value.int .i64))[k2]? = some (.int .i64 (l.bal.getD k2 0)) := by
            have := HLEN.out
            rw [List.getElem?_map, List.getElem?_eq_getElem (by omega), List.getD_eq_getElem?_getD, List.getElem?_eq_getElem (by omega)]; rfl
          have HL := Lib.hid hL
          have hL2 : ((l.bal.set k2 (l.bal.getD k2 0 + Z)).map (Value.int .i64))[k2]? = some (.int .i64 (l.bal.getD k2 0 + Z)) := by
            have := HLEN.out
            rw [List.getElem?_map, List.getElem?_set_self (by omega)]; rfl
          have HL2 := Lib.hid hL2
          clear hL hL2
          generalize l.bal.getD k2 0 = L at *
          go_wp2_with (at_builtin; refine wpList_append_row _ rfl (.const (.slice none 0 0)) (.tmp 120) 48 rfl (w5.heap.size + 2) 2 i0 _ 1 8 Try.underlying48 hi hz0 hz1 hz2 rfl (by decide) (.slice none 0 0) 0 [] rfl (World.ownsRow_nil _ _ _ _) A' 3 c' (l.bal.map (.int .i64)) rfl HX7.out.row (ints_oneCell .i64 l.bal) (by unfold maxLen; omega) (by omega) (by simp) ?_; intro v8 w8 o8 g8 at8; have hb8 := below_of_nil g8; have hx8 := HX7.out.below hb8; have hm8 := (hb8.block _ (lt_of_block HM7.out)).trans HM7.out; obtain ⟨f0, f1, f2, f3⟩ := free4 hm8; obtain ⟨z0, z1, z2, z3⟩ := cells4 hm8; obtain ⟨gb, cap, rfl, lo8⟩ := Lo.make hm8 (Nat.le_refl _) (show w8.ownsRow (w5.heap.size + 2) 2 1 v8 3 (l.bal.map (.int .i64)) by simpa using o8); have HX8 := Lib.hid (hx8.other (i := 3) (v := .slice (some ⟨gb, 0, none⟩) 3 cap) (g' := w5.heap.size + 1) (by have := HG7.out; omega) (fun ad h => by have := HOA.out ad h; omega)); have HLO8 := Lib.hid lo8; have HB8 := Lib.hid ((HB7.out.trans (hb8.mono HB7.out.size)).setCell (p := ⟨w5.heap.size + 1, 3, none⟩) (by have := HG7.out; have := HS.out; show w.heap.size ≤ w5.heap.size + 1; omega) (.slice (some ⟨gb, 0, none⟩) 3 cap)); clear o8 g8 at8 hb8 hx8 hm8 lo8)
          generalize w8.setCell ⟨w5.heap.size + 1, 3, none⟩ (.slice (some ⟨gb, 0, none⟩) 3 cap) = W8 at *
          have e1 : IntKind.i64.wrap ((k2 : Int) + 1 - 1) = k2 := by rw [show (k2 : Int) + 1 - 1 = k2 by omega]; exact IntWalk.i64_in _ (by omega)
          have e2 : IntKind.i64.wrap (L + Z) = L + Z := IntWalk.i64_in _ (by omega)
          have e4 : IntKind.i64.wrap (k2 : Int) = k2 := IntWalk.i64_in _ (by omega)
          have e5 : 0 ≤ (k2 : Int) := by omega
          have e6 : (k2 : Int) < 3 := by omega
          obtain ⟨m0, m1, m2, m3⟩ := HLO8.out.at.cells
          have mk : W8.cell? ⟨gb, k2, none⟩ = some (.int .i64 L) := (HLO8.out.own.cellAt k2 (by omega)).trans HL.out
          clear q0 q1 q2 q3 y0 y1 y2 y3 z0 z1 z2 z3 f0 f1 f2 f3
          go_still_tail 13, (by kernel_rfl)
          change wpList _ _ _ _ _ W8.drew
          have hdr : Below W8.heap.size W8 W8.drew := (Below.refl _ _).drew
          have HLO9 := Lib.hid (HLO8.out.below hdr)
          have HB9 := Lib.hid (HB8.out.drew)
          clear hdr m0 m1 m2 m3 mk
          generalize W8.drew = W9 at *
          have HM10 := Lib.hid (show l.bal.length = 3 from HLEN.out)
          have lo10 : Lo (W9.setCell ⟨gb, k2, none⟩ (.int .i64 (L + Z))) (w5.heap.size + 1) { l with bal := l.bal.set k2 (L + Z) } gb cap := HLO9.out.set
          have hlt9 := HLO9.out.lt
          have hb10 := HB9.out.setCell (p := ⟨gb, k2, none⟩) (by have := HG7.out; have := HS.out; show w.heap.size ≤ gb; omega) (.int .i64 (L + Z))
          obtain ⟨m0, m1, m2, m3⟩ := lo10.at.cells
          simp only at m0 m1 m2 m3
          have mk : W9.cell? ⟨gb, k2, none⟩ = some (.int .i64 L) := (HLO9.out.own.cellAt k2 (by omega)).trans HL.out
          have mf : W9.frozen? ⟨gb, k2, none⟩ = false := HLO9.out.own.frozenAt k2
          have hb11 := alloc_b (W9.setCell ⟨gb, k2, none⟩ (.int .i64 (L + Z))) (.cells (ledC { l with bal := l.bal.set k2 (L + Z) } (some ⟨gb, 0, none⟩) 3 cap) 50)
          have n3 : World.cell? ((W9.setCell ⟨gb, k2, none⟩ (.int .i64 (L + Z))).alloc (.cells #[.int .i64 l.sc, .int .i64 l.sp, .int .i64 l.pool, .slice (some ⟨gb, 0, none⟩) 3 cap] 50)) ⟨w5.heap.size + 1, 3, none⟩ = some (.slice (some ⟨gb, 0, none⟩) 3 cap) := (lo10.below hb11).at.cells.2.2.2
          have HLO11 := Lib.hid (lo10.below hb11)
          have HLT11 := Lib.hid lo10.lt
          have HB11 := Lib.hid (hb10.trans (hb11.mono hb10.size))
          have hsz : (W9.setCell ⟨gb, k2, none⟩ (.int .i64 (L + Z))).heap.size = W9.heap.size := by simp
          have HSZ := Lib.hid hsz
          clear lo10 hb10 hb11 hlt9 hsz e4 e5 e6
          go_wp2_with (at_builtin; refine wpList_append_row _ rfl (.const (.slice none 0 0)) (.tmp 138) 48 rfl (W9.heap.size + 1) 2 i0 _ 1 8 Try.underlying48 hi hz0 hz1 hz2 rfl (by decide) (.slice none 0 0) 0 [] rfl (World.ownsRow_nil _ _ _ _) (some ⟨gb, 0, none⟩) 3 cap ((l.bal.set k2 (L + Z)).map (.int .i64)) rfl HLO11.out.at.row (ints_oneCell .i64 _) (by unfold maxLen; omega) (by omega) (by simp) ?_)
          intro v12 w12 o12 g12 at12
          have hb12 := below_of_nil g12
          have lo12 := HLO11.out.below hb12
          have hm12 : w12.heap[W9.heap.size]? = some (.cells (ledC { l with bal := l.bal.set k2 (L + Z) } (some ⟨gb, 0, none⟩) 3 cap) 50 (0, 0)) := (hb12.block _ (by simp)).trans (heap_alloc_at (by simp))
          obtain ⟨f0, f1, f2, f3⟩ := free4 hm12
          obtain ⟨z0, z1, z2, z3⟩ := cells4 hm12
          obtain ⟨gb2, cap2, rfl, lo13⟩ := Lo.make hm12 (Nat.le_refl _) (show w12.ownsRow (W9.heap.size + 1) 2 1 v12 3 ((l.bal.set k2 (L + Z)).map (.int .i64)) by simpa using o12)
          have hgg : gb < W9.heap.size := by (have := HLT11.out; have := HSZ.out; omega)
          have hgb2 := lo13.lt
          have lom := lo12.other (g := W9.heap.size) (i := 3) (v := .slice (some ⟨gb2, 0, none⟩) 3 cap2) (by have := HLT11.out; omega) (by omega)
          have lom2 := lom.other (g := gb2) (i := k2) (v := .int .i64 (L + Z - 1)) (by have := HLT11.out; omega) (by omega)
          have lo14 := lo13.set (k := k2) (x := L + Z - 1)
          obtain ⟨y0, y1, y2, y3⟩ := lo13.at.cells
          have yk := (lo13.own.cellAt k2 (by omega)).trans HL2.out
          have yf := lo13.own.frozenAt k2
          obtain ⟨x0, x1, x2, x3⟩ := lom2.at.cells
          have HLOM := Lib.hid lom2
          have HLOL := Lib.hid lo14
          have HB13 := Lib.hid (((HB11.out.trans (hb12.mono HB11.out.size)).setCell (p := ⟨W9.heap.size, 3, none⟩) (HB9.out.size) (.slice (some ⟨gb2, 0, none⟩) 3 cap2)).setCell (p := ⟨gb2, k2, none⟩) (by have := HB9.out.size; show w.heap.size ≤ gb2; omega) (.int .i64 (L + Z - 1)))
          simp only at x0 x1 x2 x3 y0 y1 y2 y3
          clear o12 g12 at12 hb12 hm12 lo12 lo13 lom lom2 lo14 hgg hgb2
          go_wp2_with fail
          have hwm := may_any { l with bal := l.bal.set k2 (L + Z) } (some ⟨gb, 0, none⟩) 3 cap ((k2 : Int) + 1) p lim _ HLOM.out.at.row (by decide)
          rw [HMORE.out] at hwm
          refine hwm.mono ?_
          rintro e w20 ⟨rfl, b20⟩
          have HB20 := Lib.hid (HB13.out.trans (b20.mono HB13.out.size))
          have HLO20 := Lib.hid (HLOL.out.below b20)
          obtain ⟨y0, y1, y2, y3⟩ := HLO20.out.at.cells
          simp only at y0 y1 y2 y3
          clear b20 hwm
          go_wp2_with fail
          have hwl := may_any { l with bal := (l.bal.set k2 (L + Z)).set k2 (L + Z - 1) } (some ⟨gb2, 0, none⟩) 3 cap2 ((k2 : Int) + 1) p lim _ HLO20.out.at.row (by decide)
          rw [HLESS.out] at hwl
          refine hwl.mono ?_
          rintro e w21 ⟨rfl, b21⟩
          have HB21 := Lib.hid (HB20.out.trans (b21.mono HB20.out.size))
          clear b21 hwl
          go_wp2_with fail
          go_ret
          exact ⟨rfl, HB21.out⟩
end Go.Proofs.Ytkbaddopgdfafaa

