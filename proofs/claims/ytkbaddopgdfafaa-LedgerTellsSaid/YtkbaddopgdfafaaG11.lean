import Derived.Test.YtkbaddopgdfafaaG9
import Derived.Test.YtkbaddopgdfafaaG10
import Derived.Test.YtkbaddopgdfafaaL2
import Derived.StillTailTactics
namespace Go.Proofs.Ytkbaddopgdfafaa
open Go.RowKit Go.Proofs.Besom

theorem new_3 (w : World) : Calls Try.prog 40 #[.int .i64 3] w fun e w' => ∃ g, e = .returned (ledV ⟨0, 0, 0, [0, 0, 0]⟩ (some ⟨g, 0, none⟩) 3 3) ∧ Row w' 1 (some ⟨g, 0, none⟩) 3 ([(0 : Int), 0, 0].map (.int .i64)) ∧ Below w.heap.size w w' := new_any 3 w

abbrev ddCells' (d : Dd) : List Value := [.int .u8 d.kind, .int .u8 d.who, .int .u8 d.n, .int .u8 d.lim]

theorem dds_at {w : World} {B : Option Addr} {m k : Nat} {ds : List Dd} (h : Row w 4 B m (ds.flatMap ddCells')) (hk : k < m) :
    ∃ b o, ∃ hl : k < ds.length, B = some ⟨b, o, none⟩ ∧ w.cell? ⟨b, o + k * 4, none⟩ = some (.int .u8 ds[k].kind) ∧ w.cell? ⟨b, o + k * 4 + 1, none⟩ = some (.int .u8 ds[k].who) ∧ w.cell? ⟨b, o + k * 4 + 2, none⟩ = some (.int .u8 ds[k].n) ∧ w.cell? ⟨b, o + k * 4 + 3, none⟩ = some (.int .u8 ds[k].lim) := by
  have h4 : ∀ d ∈ ds, (ddCells' d).length = 4 := fun _ _ => rfl
  have hl : ds.length = m := by have := h.1; rw [flat_len _ 4 ds h4] at this; omega
  have hk' : k < ds.length := by omega
  obtain ⟨b, o, rfl, h0⟩ := h.2 (k * 4 + 0) _ (by rw [flat_at _ 4 ds h4 k 0 hk' (by omega)]; rfl)
  obtain ⟨_, _, e1, h1⟩ := h.2 (k * 4 + 1) _ (by rw [flat_at _ 4 ds h4 k 1 hk' (by omega)]; rfl)
  obtain ⟨_, _, e2, h2⟩ := h.2 (k * 4 + 2) _ (by rw [flat_at _ 4 ds h4 k 2 hk' (by omega)]; rfl)
  obtain ⟨_, _, e3, h3⟩ := h.2 (k * 4 + 3) _ (by rw [flat_at _ 4 ds h4 k 3 hk' (by omega)]; rfl)
  cases e1; cases e2; cases e3
  exact ⟨b, o, hk', rfl, by simpa using h0, by simpa [Nat.add_assoc] using h1, by simpa [Nat.add_assoc] using h2, by simpa [Nat.add_assoc] using h3⟩

/-- A row lies in another block than g, where it has a cell at all. -/
def Off (n : Nat) (A : Option Addr) (g : Nat) : Prop := 0 < n → ∀ ad, A = some ad → ad.block ≠ g

theorem Off.new {w : World} {n : Nat} {A : Option Addr} {xs : List Value} (h : Row w 1 A n xs) : Off n A w.heap.size := fun hn ad hA => by
  have := h.lt_ (by omega) hn hA; omega

theorem At.step {wr w3 : World} {g n c c1 : Nat} {l t : Led} {A A1 : Option Addr} (h : At wr g l A n c) (ho : Off n A g) (r1 : Row w3 1 A1 n (t.bal.map (.int .i64))) (hb : Below wr.heap.size wr w3)
    (hA : A1 = A ∨ ∃ q, A1 = some ⟨q, 0, none⟩ ∧ wr.heap.size ≤ q) :
    At ((((w3.setCell ⟨g, 0, none⟩ (.int .i64 t.sc)).setCell ⟨g, 1, none⟩ (.int .i64 t.sp)).setCell ⟨g, 2, none⟩ (.int .i64 t.pool)).setCell ⟨g, 3, none⟩ (.slice A1 n c1)) g t A1 n c1 ∧ Off n A1 g := by
  have hg := lt_of_block h.blk
  have hy := (hb.block _ hg).trans h.blk
  have hoff : Off n A1 g := by
    intro hn ad had
    rcases hA with rfl | ⟨q, rfl, hq⟩
    · exact ho hn ad had
    · injection had with had; subst had; show q ≠ g; omega
  refine ⟨⟨blk_set4 hy, ?_⟩, hoff⟩
  rcases Nat.eq_zero_or_pos n with hn | hn
  · subst hn
    have hx : t.bal.map (Value.int .i64) = [] := List.length_eq_zero_iff.mp (by simpa using r1.1)
    rw [hx]
    exact Row.nil _ _ _
  · exact r1.set4 (hoff hn)

theorem take_known {i : Nat} {l : Led} {k : Nat} {want : Int} (hi : i ≤ 1000) (h : LInv i l) (hk : k < l.bal.length) (hw : 0 ≤ want ∧ want ≤ 255) :
    ∃ bal', takeL l ((k : Int) + 1) want = (⟨l.sc, l.sp, l.pool - min want l.pool, bal'⟩, min want l.pool) ∧ bal'.getD k 0 = l.bal.getD k 0 + min want l.pool ∧ bal'.length = l.bal.length := by
  obtain ⟨⟨a0, a1⟩, ⟨b0, b1⟩, ⟨c0, c1⟩, hb, hs⟩ := h
  have ht : thereB ((k : Int) + 1) l.bal.length = true := decide_eq_true ⟨by omega, by omega⟩
  unfold takeL
  by_cases hm : 0 < min want l.pool
  · rw [if_pos ⟨ht, hm⟩]
    have hbk := hb _ (List.getElem_mem hk)
    have hkn : ((k : Int) + 1 - 1).toNat = k := by omega
    have hw1 : wrap64 (l.pool - min want l.pool) = l.pool - min want l.pool := w64 (by omega) (by omega)
    have hw2 : wrap64 (l.bal.getD k 0 + min want l.pool) = l.bal.getD k 0 + min want l.pool := by
      rw [List.getD_eq_getElem?_getD, List.getElem?_eq_getElem hk, Option.getD_some]
      exact w64 (by omega) (by omega)
    refine ⟨l.bal.set k (l.bal.getD k 0 + min want l.pool), ?_, ?_, by simp⟩
    · simp only [turn, hkn, hw1, hw2]
    · rw [List.getD_eq_getElem?_getD, List.getElem?_set_self hk, Option.getD_some]
  · rw [if_neg (fun h => hm h.2)]
    have h0 : min want l.pool = 0 := by omega
    exact ⟨l.bal, by rw [h0, Int.sub_zero], by rw [h0, Int.add_zero], rfl⟩

set_option maxRecDepth 100000 in
set_option maxHeartbeats 25600000 in
theorem takes13 (ds : List Dd) (who want : Int) (A : Option Addr) (n c : Nat) (w : World) (hr : Row w 4 A n (ds.flatMap ddCells')) (hok : ∀ d ∈ ds, d.ok) (_hn : n * 4 ≤ 140737488351232) (h0 : 0 ≤ who ∧ who ≤ 255) (h1 : 0 ≤ want ∧ want ≤ 255) :
    Calls Try.prog 13 #[.slice A n c, .int .u8 who, .int .u8 want] w fun e w' => e = .returned (.bool true) ∧ Below w.heap.size w w' := by
  have HR := Lib.hid hr
  have HK := Lib.hid hok
  have HB0 := Lib.hid (Below.refl w.heap.size w)
  clear hr hok
  obtain ⟨h00, h01⟩ := h0
  obtain ⟨h10, h11⟩ := h1
  go_enter Try.func13, Try.ntmps13
  go_wp2_with fail
  refine (examples10 _).mono ?_
  rintro e w1 ⟨rfl, b1⟩
  have HB1 := Lib.hid b1
  clear b1
  go_wp2_with fail
  refine (new_3 _).mono ?_
  rintro e w2 ⟨g1, rfl, r2, b2⟩
  have hx := At.new w2 ⟨0, 0, 0, [0, 0, 0]⟩ _ 3 3 r2
  have HO := Lib.hid (Off.new r2)
  have HX := Lib.hid hx
  have hb2 := HB1.out.trans (b2.mono HB1.out.size)
  have HS := Lib.hid hb2.size
  have HB2 := Lib.hid (hb2.alloc hb2.size (.cells (ledC ⟨0, 0, 0, [0, 0, 0]⟩ (some ⟨g1, 0, none⟩) 3 3) 50))
  clear b2 hb2 r2 hx
  go_wp2_with fail
  go_loopw [9] (fun i wr => ∃ (k : Nat) (l : Led) (A' : Option Addr) (c' : Nat), k ≤ n ∧ k ≤ 100 ∧ i = .int .i64 k ∧ At wr w2.heap.size l A' 3 c' ∧ Off 3 A' w2.heap.size ∧ LInv k l ∧ Below w.heap.size w wr) (fun i _ => n - (intOf i).toNat)
  case atStart => exact ⟨0, _, _, _, Nat.zero_le _, by omega, rfl, HX.out, HO.out, new_inv 3, HB2.out⟩
  case round =>
    obtain ⟨k, l, A', c', hk, hk1, rfl, hat, hoff, hinv, hbel⟩ := hrel
    obtain ⟨q0, q1, q2, q3⟩ := hat.cells
    have HX' := Lib.hid hat
    have HO' := Lib.hid hoff
    have HI := Lib.hid hinv
    clear hat hoff hinv
    by_cases hlt2 : k < n ∧ k < 100
    · obtain ⟨hlt, hlt1⟩ := hlt2
      · have hk100 : (k : Int) < 100 := by omega
        obtain ⟨b1, o1, hl, rfl, d0, d1, d2, d3⟩ := dds_at (HR.out.below hbel) hlt
        have hdo := HK.out _ (List.getElem_mem hl)
        have hc := fun w' hr' => doled_any ds[k] l A' 3 c' w' hdo hr' (by decide)
        have hinv' := do_inv hdo (by omega) HI.out
        generalize doL ds[k] l = t at hc hinv'
        have HC := Lib.hid hc
        have HI' := Lib.hid hinv'
        clear hc hinv'
        go_wp2_with fail
        go_still_tail 5, (by kernel_rfl)
        change wpList _ _ _ _ _ wr.drew
        have hdr : Below wr.heap.size wr wr.drew := (Below.refl _ _).drew
        have HX5 := Lib.hid (HX'.out.below hdr)
        have HB5 := Lib.hid (hbel.drew)
        clear hdr q0 q1 q2 q3 d0 d1 d2 d3
        generalize wr.drew = w5 at *
        go_wp2_with fail
        refine (HC.out _ HX5.out.row).mono ?_
        rintro e w6 ⟨A6, c6, rfl, r6, b6, hA6⟩
        have HST := Lib.hid (HX5.out.step (c1 := c6) HO'.out r6 b6 hA6)
        have hy := (b6.block _ (lt_of_block HX5.out.blk)).trans HX5.out.blk
        obtain ⟨z0, z1, z2, z3⟩ := cells4 hy
        obtain ⟨f0, f1, f2, f3⟩ := free4 hy
        have HB6 := Lib.hid (below_set4 (p := .int .i64 t.sc) (q := .int .i64 t.sp) (r := .int .i64 t.pool) (s := .slice A6 3 c6) (g := w2.heap.size) (HB5.out.trans (b6.mono HB5.out.size)) HS.out)
        clear r6 b6 hA6 hy
        go_wp2_with fail
        go_roundw
        case rel => exact ⟨k + 1, t, A6, c6, by omega, by omega, by go_num, HST.out.1, HST.out.2, HI'.out, HB6.out⟩
        case measure => simp [intOf]; omega
    · rcases (show ¬ k < n ∨ (k < n ∧ ¬ k < 100) by omega) with h | ⟨h, h'⟩
      all_goals
        obtain ⟨k2, hk2, hk3⟩ : ∃ k2 : Nat, who % 3 = (k2 : Int) ∧ k2 < 3 := ⟨(who % 3).toNat, by omega, by omega⟩
        have hlen : l.bal.length = 3 := by simpa using HX'.out.row.1
        obtain ⟨bal', ht, hb', hl'⟩ := take_known (k := k2) (by omega) HI.out (by omega) ⟨h10, h11⟩
        have hc := fun w' hr' => take_any l A' 3 c' ((k2 : Int) + 1) want w' hr' (by decide)
        rw [ht] at hc
        have hbk : -800 ≤ l.bal.getD k2 0 ∧ l.bal.getD k2 0 ≤ 800 := by
          rw [List.getD_eq_getElem?_getD, List.getElem?_eq_getElem (by omega), Option.getD_some]
          have := HI.out.ba _ (List.getElem_mem (show k2 < l.bal.length by omega)); omega
        have hpo := HI.out.po
        obtain ⟨hbk0, hbk1⟩ := hbk
        obtain ⟨hpo0, hpo1⟩ := hpo
        have HE := Lib.hid (show (1 : Int) + who % 3 = (k2 : Int) + 1 by omega)
        have HC := Lib.hid hc
        have HV := Lib.hid hb'
        have HBL := Lib.hid hbel
        clear hc ht hb' hlen hl' hbel hk2
        rcases Int.lt_or_le l.pool want with hle | hle
        · have hmin : min want l.pool = l.pool := by omega
          have hp2 : l.pool - l.pool = 0 := by omega
          rw [hmin, hp2] at HC
          rw [hmin] at HV
          clear hmin hp2
          go_wp2_with fail
          rw [HE.out]
          go_wp2_with fail
          refine (HC.out _ HX'.out.row).mono ?_
          rintro e w6 ⟨A6, c6, rfl, r6, b6, -⟩
          have hb6 := b6.alloc b6.size (.cells (ledC ⟨l.sc, l.sp, 0, bal'⟩ A6 3 c6) 50)
          have hx6 := HX'.out.below hb6
          have hy6 := At.new w6 ⟨l.sc, l.sp, 0, bal'⟩ A6 3 c6 r6
          obtain ⟨y0, y1, y2, y3⟩ := hy6.cells
          obtain ⟨x0, x1, x2, x3⟩ := hx6.cells
          obtain ⟨bx, ox, rfl, p1, -⟩ := hx6.row.int_at hk3
          obtain ⟨by_, oy, rfl, p2, -⟩ := hy6.row.int_at hk3
          rw [show ({ sc := l.sc, sp := l.sp, pool := 0, bal := bal' } : Led).bal = bal' from rfl, HV.out] at p2
          generalize l.bal.getD k2 0 = L at p1 p2 hbk0 hbk1
          have HB6 := Lib.hid (HBL.out.trans (hb6.mono HBL.out.size))
          simp only at y0 y1 y2 y3
          clear b6 hb6 hx6 hy6 r6 q0 q1 q2 q3
          have e1 : IntKind.i64.wrap ((k2 : Int) + 1 - 1) = k2 := by rw [show (k2 : Int) + 1 - 1 = k2 by omega]; exact IntWalk.i64_in _ (by omega)
          have e2 : IntKind.i64.wrap (L + l.pool) = L + l.pool := IntWalk.i64_in _ (by omega)
          have e3 : IntKind.i64.wrap (l.pool - l.pool) = 0 := by rw [show l.pool - l.pool = 0 by omega]; exact IntWalk.i64_in _ (by omega)
          have e4 : IntKind.i64.wrap 0 = 0 := by kernel_rfl
          have e5 : l.pool - l.pool = 0 := by omega
          go_wp2_with fail
          go_quiet (fail)
          go_wp2_with fail
          go_ret
          exact ⟨rfl, below_drewN HB6.out _⟩
        · have hmin : min want l.pool = want := by omega
          have hp2 : l.pool - want = l.pool - want := by omega
          rw [hmin, hp2] at HC
          rw [hmin] at HV
          clear hmin hp2
          go_wp2_with fail
          rw [HE.out]
          go_wp2_with fail
          refine (HC.out _ HX'.out.row).mono ?_
          rintro e w6 ⟨A6, c6, rfl, r6, b6, -⟩
          have hb6 := b6.alloc b6.size (.cells (ledC ⟨l.sc, l.sp, l.pool - want, bal'⟩ A6 3 c6) 50)
          have hx6 := HX'.out.below hb6
          have hy6 := At.new w6 ⟨l.sc, l.sp, l.pool - want, bal'⟩ A6 3 c6 r6
          obtain ⟨y0, y1, y2, y3⟩ := hy6.cells
          obtain ⟨x0, x1, x2, x3⟩ := hx6.cells
          obtain ⟨bx, ox, rfl, p1, -⟩ := hx6.row.int_at hk3
          obtain ⟨by_, oy, rfl, p2, -⟩ := hy6.row.int_at hk3
          rw [show ({ sc := l.sc, sp := l.sp, pool := l.pool - want, bal := bal' } : Led).bal = bal' from rfl, HV.out] at p2
          generalize l.bal.getD k2 0 = L at p1 p2 hbk0 hbk1
          have HB6 := Lib.hid (HBL.out.trans (hb6.mono HBL.out.size))
          simp only at y0 y1 y2 y3
          clear b6 hb6 hx6 hy6 r6 q0 q1 q2 q3
          have e1 : IntKind.i64.wrap ((k2 : Int) + 1 - 1) = k2 := by rw [show (k2 : Int) + 1 - 1 = k2 by omega]; exact IntWalk.i64_in _ (by omega)
          have e2 : IntKind.i64.wrap (L + want) = L + want := IntWalk.i64_in _ (by omega)
          have e3 : IntKind.i64.wrap (l.pool - want) = l.pool - want := by rw [show l.pool - want = l.pool - want by omega]; exact IntWalk.i64_in _ (by omega)
          go_wp2_with fail
          go_quiet (fail)
          go_wp2_with fail
          go_ret
          exact ⟨rfl, below_drewN HB6.out _⟩
end Go.Proofs.Ytkbaddopgdfafaa
