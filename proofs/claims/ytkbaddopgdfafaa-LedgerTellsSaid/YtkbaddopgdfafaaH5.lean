import Derived.Test.YtkbaddopgdfafaaH4
import Derived.Deep.RegionHeld3
namespace Go.Proofs.Ytkbaddopgdfafaa
open Go.RowKit Go.Proofs.Besom

theorem same_eqR (l : Led) (A B : Option Addr) (n c d : Nat) (w : World) (ha : Row w 1 A n (l.bal.map (.int .i64))) (hb : Row w 1 B n (l.bal.map (.int .i64))) (hn : n * 8 ≤ 140737488351232) :
    Calls Try.prog 30 #[ledV l A n c, ledV l B n d] w fun e w' => e = .returned (.bool true) ∧ Below w.heap.size w w' := by
  have h := ledSame_anyR l l A B n n c d w ha hb hn hn
  rw [show decide (l = l) = true from decide_eq_true rfl] at h
  exact h

theorem refLed_raw {x y z : Int} {A : Option Addr} {n c : Nat} {w : World} : Calls Try.prog 25 #[.agg #[.int .i64 x, .int .i64 y, .int .i64 z, .slice A n c]] w fun e w' => e = .returned (.agg #[.int .i64 x, .int .i64 y, .int .i64 z, .slice A n c]) ∧ Below w.heap.size w w' :=
  refLed_any ⟨x, y, z, []⟩ A n c w

theorem same_raw {x1 y1 z1 x2 y2 z2 : Int} {A B : Option Addr} {n m c d : Nat} {w : World}
    (h : ∃ l : Led, (x1 = l.sc ∧ y1 = l.sp ∧ z1 = l.pool ∧ Row w 1 A n (l.bal.map (.int .i64))) ∧ (x2 = l.sc ∧ y2 = l.sp ∧ z2 = l.pool ∧ Row w 1 B m (l.bal.map (.int .i64))) ∧ n * 8 ≤ 140737488351232) :
    Calls Try.prog 30 #[.agg #[.int .i64 x1, .int .i64 y1, .int .i64 z1, .slice A n c], .agg #[.int .i64 x2, .int .i64 y2, .int .i64 z2, .slice B m d]] w fun e w' => e = .returned (.bool true) ∧ Below w.heap.size w w' := by
  obtain ⟨l, ⟨rfl, rfl, rfl, ha⟩, ⟨rfl, rfl, rfl, hb⟩, hn⟩ := h
  have hnm : m = n := by have h1 := ha.1; have h2 := hb.1; simp at h1 h2; omega
  subst hnm
  exact same_eqR l A B m c d w ha hb hn

/-- A block of a ledger of either package and its row. -/
structure Bt (w : World) (g : Nat) (t : TypeId) (l : Led) (A : Option Addr) (n c : Nat) : Prop where
  blk : w.heap[g]? = some (.cells (ledC l A n c) t (0, 0))
  row : Row w 1 A n (l.bal.map (.int .i64))

theorem Bt.below {w w' : World} {g : Nat} {t : TypeId} {l : Led} {A : Option Addr} {n c : Nat} (h : Bt w g t l A n c) (hb : Below w.heap.size w w') : Bt w' g t l A n c :=
  ⟨(hb.block _ (lt_of_block h.blk)).trans h.blk, h.row.below hb⟩

theorem Bt.new (w : World) (t : TypeId) (l : Led) (A : Option Addr) (n c : Nat) (hr : Row w 1 A n (l.bal.map (.int .i64))) : Bt (w.alloc (.cells (ledC l A n c) t)) w.heap.size t l A n c :=
  ⟨heap_alloc_at rfl, hr.below ((Below.refl _ _).alloc (Nat.le_refl _) _)⟩

theorem Bt.cells {w : World} {g : Nat} {t : TypeId} {l : Led} {A : Option Addr} {n c : Nat} (h : Bt w g t l A n c) :
    w.cell? ⟨g, 0, none⟩ = some (.int .i64 l.sc) ∧ w.cell? ⟨g, 1, none⟩ = some (.int .i64 l.sp) ∧ w.cell? ⟨g, 2, none⟩ = some (.int .i64 l.pool) ∧ w.cell? ⟨g, 3, none⟩ = some (.slice A n c) := cells4 h.blk

set_option maxRecDepth 100000 in
set_option maxHeartbeats 12800000 in
theorem tells9 (a b : Led) (A B : Option Addr) (n m c d : Nat) (who want price lim : Int) (w : World) (ha : Row w 1 A n (a.bal.map (.int .i64))) (hb : Row w 1 B m (b.bal.map (.int .i64))) (hn : n * 8 ≤ 140737488351232) (hm : m * 8 ≤ 140737488351232)
    (hp : -9223372036854775808 ≤ a.pool ∧ a.pool ≤ 9223372036854775807) :
    Calls Try.prog 9 #[ledV a A n c, ledV b B m d, .int .i64 who, .int .i64 want, .int .i64 price, .int .i64 lim] w fun e w' => e = .returned (.bool true) ∧ Below w.heap.size w w' := by
  have hb0 := below2' w (.cells (ledC a A n c) 50) (.cells (ledC b B m d) 50)
  have KA0 := Lib.hid (show Bt ((w.alloc (.cells (ledC a A n c) 50)).alloc (.cells (ledC b B m d) 50)) w.heap.size 50 a A n c from ⟨(Below.heap_alloc _ _ _ (by simp)).trans (heap_alloc_at rfl), ha.below hb0⟩)
  have KB0 := Lib.hid (show Bt ((w.alloc (.cells (ledC a A n c) 50)).alloc (.cells (ledC b B m d) 50)) (w.heap.size + 1) 50 b B m d from ⟨heap_alloc_at (by simp), hb.below hb0⟩)
  have HB0 := Lib.hid hb0
  clear hb0 ha hb
  have htk := fun w' hr' => take_any a A n c who want w' hr' hn
  have htr := fun w' hr' => take_anyR a A n c who want w' hr' hn hp
  generalize takeL a who want = tt at htk htr
  obtain ⟨T, tn⟩ := tt
  have hsp := fun w' hr' => spend_any a A n c who price lim w' hr' hn
  have hsr := fun w' hr' => spend_anyR a A n c who price lim w' hr' hn
  generalize spendL a who price lim = pp at hsp hsr
  obtain ⟨P, pb⟩ := pp
  have hek := fun w' hr' => earn_any a A n c who w' hr' hn
  have her := fun w' hr' => earn_anyR a A n c who w' hr' hn
  generalize earnL a who = E at hek her
  have hrb := fun w' hr' => right_any a A n c w' hr'
  have hrc := fun w' hr' => right_anyR a A n c w' hr'
  generalize rightB a = rb at hrb hrc
  have hmb := fun w' hr' => may_any a A n c who price lim w' hr' hn
  have hmc := fun w' hr' => may_anyR a A n c who price lim w' hr' hn
  generalize mayB a who price lim = mb at hmb hmc
  have hlb := fun w' hr' => lacks_any a A n c who price lim w' hr' hn
  have hlc := fun w' hr' => lacks_anyR a A n c who price lim w' hr' hn
  generalize lacksI a who price lim = lk at hlb hlc
  have hsb := fun w' hr' hr'' => ledSame_any a b A B n m c d w' hr' hr'' hn hm
  have hsc := fun w' hr' hr'' => ledSame_anyR a b A B n m c d w' hr' hr'' hn hm
  generalize decide (a = b) = sb at hsb hsc
  have hnb := fun w' => new_any who w'
  have hnc := fun w' => new_anyR who w'
  have hnl : (newL who).bal.length * 8 ≤ 140737488351232 := by simp [newL]; omega
  generalize newL who = N at hnb hnc hnl
  have RB := Lib.hid hrb
  have RC := Lib.hid hrc
  have MB := Lib.hid hmb
  have MC := Lib.hid hmc
  have LB := Lib.hid hlb
  have LC := Lib.hid hlc
  have SB := Lib.hid hsb
  have SC := Lib.hid hsc
  have NB := Lib.hid hnb
  have NC := Lib.hid hnc
  have HNL := Lib.hid hnl
  clear hrb hrc hmb hmc hlb hlc hsb hsc hnb hnc hnl
  have EK := Lib.hid hek
  have ER := Lib.hid her
  clear hek her
  have TK := Lib.hid htk
  have TR := Lib.hid htr
  have SP := Lib.hid hsp
  have SR := Lib.hid hsr
  clear htk htr hsp hsr hp
  go_enter Try.func9, Try.ntmps9
  go_wp2_with fail
  refine (examples10 _).mono ?_
  rintro e w1 ⟨rfl, b1⟩
  have KA1 := Lib.hid (KA0.out.below b1)
  have KB1 := Lib.hid (KB0.out.below b1)
  have HB1 := Lib.hid (HB0.out.trans (b1.mono HB0.out.size))
  obtain ⟨a0, a1, a2, a3⟩ := KA1.out.cells
  clear b1
  go_wp2_with fail
  refine (refLed_any a A n c _).mono ?_
  rintro e w2 ⟨rfl, b2⟩
  have KR2 := Lib.hid (Bt.new w2 51 a A n c (KA1.out.row.below b2))
  have b2 := b2.alloc b2.size (.cells (ledC a A n c) 51)
  have KA2 := Lib.hid (KA1.out.below b2)
  have KB2 := Lib.hid (KB1.out.below b2)
  have HB2 := Lib.hid (HB1.out.trans (b2.mono HB1.out.size))
  obtain ⟨a0, a1, a2, a3⟩ := KA2.out.cells
  obtain ⟨r0, r1, r2, r3⟩ := KR2.out.cells
  clear b2
  go_wp2_with fail
  refine (TK.out _ KA2.out.row).mono ?_
  rintro e w3 ⟨A3, c3, rfl, r3, b3, -⟩
  have KX3 := Lib.hid (Bt.new w3 50 T A3 n c3 r3)
  have b3 := b3.alloc b3.size (.cells (ledC T A3 n c3) 50)
  have HB3 := Lib.hid (HB2.out.trans (b3.mono HB2.out.size))
  have KA3 := Lib.hid (KA2.out.below b3)
  have KB3 := Lib.hid (KB2.out.below b3)
  have KR3 := Lib.hid (KR2.out.below b3)
  clear b3 r3
  obtain ⟨a0, a1, a2, a3⟩ := KA3.out.cells
  obtain ⟨r0, r1, r2, r3⟩ := KR3.out.cells
  go_wp2_with fail
  refine (TR.out _ KR3.out.row).mono ?_
  rintro e w4 ⟨A4, c4, rfl, r4, b4, -⟩
  have KY4 := Lib.hid (Bt.new w4 51 T A4 n c4 r4)
  have b4 := b4.alloc b4.size (.cells (ledC T A4 n c4) 51)
  have HB4 := Lib.hid (HB3.out.trans (b4.mono HB3.out.size))
  have KA4 := Lib.hid (KA3.out.below b4)
  have KB4 := Lib.hid (KB3.out.below b4)
  have KR4 := Lib.hid (KR3.out.below b4)
  have KX4 := Lib.hid (KX3.out.below b4)
  clear b4 r4
  obtain ⟨a0, a1, a2, a3⟩ := KA4.out.cells
  obtain ⟨r0, r1, r2, r3⟩ := KR4.out.cells
  go_wp2_with fail
  refine (SP.out _ KA4.out.row).mono ?_
  rintro e w5 ⟨A5, c5, rfl, r5, b5, -⟩
  have KP5 := Lib.hid (Bt.new w5 50 P A5 n c5 r5)
  have b5 := b5.alloc b5.size (.cells (ledC P A5 n c5) 50)
  have HB5 := Lib.hid (HB4.out.trans (b5.mono HB4.out.size))
  have KA5 := Lib.hid (KA4.out.below b5)
  have KB5 := Lib.hid (KB4.out.below b5)
  have KR5 := Lib.hid (KR4.out.below b5)
  have KX5 := Lib.hid (KX4.out.below b5)
  have KY5 := Lib.hid (KY4.out.below b5)
  clear b5 r5
  obtain ⟨a0, a1, a2, a3⟩ := KA5.out.cells
  obtain ⟨r0, r1, r2, r3⟩ := KR5.out.cells
  go_wp2_with fail
  refine (SR.out _ KR5.out.row).mono ?_
  rintro e w6 ⟨A6, c6, rfl, r6, b6, -⟩
  have KQ6 := Lib.hid (Bt.new w6 51 P A6 n c6 r6)
  have b6 := b6.alloc b6.size (.cells (ledC P A6 n c6) 51)
  have HB6 := Lib.hid (HB5.out.trans (b6.mono HB5.out.size))
  have KA6 := Lib.hid (KA5.out.below b6)
  have KB6 := Lib.hid (KB5.out.below b6)
  have KR6 := Lib.hid (KR5.out.below b6)
  have KX6 := Lib.hid (KX5.out.below b6)
  have KY6 := Lib.hid (KY5.out.below b6)
  have KP6 := Lib.hid (KP5.out.below b6)
  clear b6 r6
  obtain ⟨a0, a1, a2, a3⟩ := KA6.out.cells
  obtain ⟨r0, r1, r2, r3⟩ := KR6.out.cells
  obtain ⟨b0, b1, b2, b3⟩ := KB6.out.cells
  obtain ⟨x0, x1, x2, x3⟩ := KX6.out.cells
  obtain ⟨y0, y1, y2, y3⟩ := KY6.out.cells
  obtain ⟨p0, p1, p2, p3⟩ := KP6.out.cells
  obtain ⟨q0, q1, q2, q3⟩ := KQ6.out.cells
  go_wp2_with fail
  clear a0 a1 a2 a3 r0 r1 r2 r3 b0 b1 b2 b3 x0 x1 x2 x3 y0 y1 y2 y3 p0 p1 p2 p3 q0 q1 q2 q3
  generalize w6.alloc (.cells (ledC P A6 n c6) 51) = W at *
  have hks : ∀ w', Below W.heap.size W w' → w'.cell? ⟨w.heap.size, 0, none⟩ = some (.int .i64 a.sc) ∧ w'.cell? ⟨w.heap.size, 1, none⟩ = some (.int .i64 a.sp) ∧ w'.cell? ⟨w.heap.size, 2, none⟩ = some (.int .i64 a.pool) ∧ w'.cell? ⟨w.heap.size, 3, none⟩ = some (.slice A n c) ∧ w'.cell? ⟨w2.heap.size, 0, none⟩ = some (.int .i64 a.sc) ∧ w'.cell? ⟨w2.heap.size, 1, none⟩ = some (.int .i64 a.sp) ∧ w'.cell? ⟨w2.heap.size, 2, none⟩ = some (.int .i64 a.pool) ∧ w'.cell? ⟨w2.heap.size, 3, none⟩ = some (.slice A n c) ∧ w'.cell? ⟨w3.heap.size, 0, none⟩ = some (.int .i64 T.sc) ∧ w'.cell? ⟨w3.heap.size, 1, none⟩ = some (.int .i64 T.sp) ∧ w'.cell? ⟨w3.heap.size, 2, none⟩ = some (.int .i64 T.pool) ∧ w'.cell? ⟨w3.heap.size, 3, none⟩ = some (.slice A3 n c3) ∧ w'.cell? ⟨w4.heap.size, 0, none⟩ = some (.int .i64 T.sc) ∧ w'.cell? ⟨w4.heap.size, 1, none⟩ = some (.int .i64 T.sp) ∧ w'.cell? ⟨w4.heap.size, 2, none⟩ = some (.int .i64 T.pool) ∧ w'.cell? ⟨w4.heap.size, 3, none⟩ = some (.slice A4 n c4) ∧ w'.cell? ⟨w5.heap.size, 0, none⟩ = some (.int .i64 P.sc) ∧ w'.cell? ⟨w5.heap.size, 1, none⟩ = some (.int .i64 P.sp) ∧ w'.cell? ⟨w5.heap.size, 2, none⟩ = some (.int .i64 P.pool) ∧ w'.cell? ⟨w5.heap.size, 3, none⟩ = some (.slice A5 n c5) ∧ w'.cell? ⟨w6.heap.size, 0, none⟩ = some (.int .i64 P.sc) ∧ w'.cell? ⟨w6.heap.size, 1, none⟩ = some (.int .i64 P.sp) ∧ w'.cell? ⟨w6.heap.size, 2, none⟩ = some (.int .i64 P.pool) ∧ w'.cell? ⟨w6.heap.size, 3, none⟩ = some (.slice A6 n c6) ∧ w'.cell? ⟨w.heap.size + 1, 0, none⟩ = some (.int .i64 b.sc) ∧ w'.cell? ⟨w.heap.size + 1, 1, none⟩ = some (.int .i64 b.sp) ∧ w'.cell? ⟨w.heap.size + 1, 2, none⟩ = some (.int .i64 b.pool) ∧ w'.cell? ⟨w.heap.size + 1, 3, none⟩ = some (.slice B m d) :=
    fun w' h => ⟨(KA6.out.below h).cells.1, (KA6.out.below h).cells.2.1, (KA6.out.below h).cells.2.2.1, (KA6.out.below h).cells.2.2.2, (KR6.out.below h).cells.1, (KR6.out.below h).cells.2.1, (KR6.out.below h).cells.2.2.1, (KR6.out.below h).cells.2.2.2, (KX6.out.below h).cells.1, (KX6.out.below h).cells.2.1, (KX6.out.below h).cells.2.2.1, (KX6.out.below h).cells.2.2.2, (KY6.out.below h).cells.1, (KY6.out.below h).cells.2.1, (KY6.out.below h).cells.2.2.1, (KY6.out.below h).cells.2.2.2, (KP6.out.below h).cells.1, (KP6.out.below h).cells.2.1, (KP6.out.below h).cells.2.2.1, (KP6.out.below h).cells.2.2.2, (KQ6.out.below h).cells.1, (KQ6.out.below h).cells.2.1, (KQ6.out.below h).cells.2.2.1, (KQ6.out.below h).cells.2.2.2, (KB6.out.below h).cells.1, (KB6.out.below h).cells.2.1, (KB6.out.below h).cells.2.2.1, (KB6.out.below h).cells.2.2.2⟩
  have KS := Lib.hid hks
  have cc : Below W.heap.size W W := Below.refl _ _
  have hs0 := hks W cc
  have e1 : (tn != tn) = false := by simp
  have e2 : (pb != pb) = false := by simp
  clear hks
  go_region_held3 (fun w' => w'.cell? ⟨w.heap.size, 0, none⟩ = some (.int .i64 a.sc) ∧ w'.cell? ⟨w.heap.size, 1, none⟩ = some (.int .i64 a.sp) ∧ w'.cell? ⟨w.heap.size, 2, none⟩ = some (.int .i64 a.pool) ∧ w'.cell? ⟨w.heap.size, 3, none⟩ = some (.slice A n c) ∧ w'.cell? ⟨w2.heap.size, 0, none⟩ = some (.int .i64 a.sc) ∧ w'.cell? ⟨w2.heap.size, 1, none⟩ = some (.int .i64 a.sp) ∧ w'.cell? ⟨w2.heap.size, 2, none⟩ = some (.int .i64 a.pool) ∧ w'.cell? ⟨w2.heap.size, 3, none⟩ = some (.slice A n c) ∧ w'.cell? ⟨w3.heap.size, 0, none⟩ = some (.int .i64 T.sc) ∧ w'.cell? ⟨w3.heap.size, 1, none⟩ = some (.int .i64 T.sp) ∧ w'.cell? ⟨w3.heap.size, 2, none⟩ = some (.int .i64 T.pool) ∧ w'.cell? ⟨w3.heap.size, 3, none⟩ = some (.slice A3 n c3) ∧ w'.cell? ⟨w4.heap.size, 0, none⟩ = some (.int .i64 T.sc) ∧ w'.cell? ⟨w4.heap.size, 1, none⟩ = some (.int .i64 T.sp) ∧ w'.cell? ⟨w4.heap.size, 2, none⟩ = some (.int .i64 T.pool) ∧ w'.cell? ⟨w4.heap.size, 3, none⟩ = some (.slice A4 n c4) ∧ w'.cell? ⟨w5.heap.size, 0, none⟩ = some (.int .i64 P.sc) ∧ w'.cell? ⟨w5.heap.size, 1, none⟩ = some (.int .i64 P.sp) ∧ w'.cell? ⟨w5.heap.size, 2, none⟩ = some (.int .i64 P.pool) ∧ w'.cell? ⟨w5.heap.size, 3, none⟩ = some (.slice A5 n c5) ∧ w'.cell? ⟨w6.heap.size, 0, none⟩ = some (.int .i64 P.sc) ∧ w'.cell? ⟨w6.heap.size, 1, none⟩ = some (.int .i64 P.sp) ∧ w'.cell? ⟨w6.heap.size, 2, none⟩ = some (.int .i64 P.pool) ∧ w'.cell? ⟨w6.heap.size, 3, none⟩ = some (.slice A6 n c6) ∧ w'.cell? ⟨w.heap.size + 1, 0, none⟩ = some (.int .i64 b.sc) ∧ w'.cell? ⟨w.heap.size + 1, 1, none⟩ = some (.int .i64 b.sp) ∧ w'.cell? ⟨w.heap.size + 1, 2, none⟩ = some (.int .i64 b.pool) ∧ w'.cell? ⟨w.heap.size + 1, 3, none⟩ = some (.slice B m d))
    (first | exact KS.out _ cc | exact KS.out _ cc.drew)
    (first
      | (go_at_call 25; refine refLed_raw.mono ?_; rintro e w10 ⟨rfl, b10⟩; (try (have re := re.below b10)); (first | have cc := cc.drew.trans (b10.mono cc.drew.size) | have cc := cc.trans (b10.mono cc.size)))
      | (go_at_call 30; refine Calls.mono (same_raw ?_) ?_; (first | exact ⟨T, ⟨rfl, rfl, rfl, KX6.out.row.below cc⟩, ⟨rfl, rfl, rfl, KY6.out.row.below cc⟩, hn⟩ | exact ⟨P, ⟨rfl, rfl, rfl, KP6.out.row.below cc⟩, ⟨rfl, rfl, rfl, KQ6.out.row.below cc⟩, hn⟩ | exact ⟨E, ⟨rfl, rfl, rfl, re⟩, ⟨rfl, rfl, rfl, rf⟩, hn⟩); rintro e w10 ⟨rfl, b10⟩; have cc := cc.trans (b10.mono cc.size))
      | (go_at_call 31; refine (EK.out _ (KA6.out.row.below cc)).mono ?_; rintro e w10 ⟨Ae, ce, rfl, re, b10, -⟩; have cc := cc.trans (b10.mono cc.size))
      | (go_at_call 32; refine (ER.out _ (KR6.out.row.below cc)).mono ?_; rintro e w10 ⟨Af, cf, rfl, rf, b10, -⟩; have re := re.below b10; have cc := cc.trans (b10.mono cc.size)))
  go_wp2_with fail
  have hs1 := KS.out _ cc
  have e3 : (rb == rb) = true := by simp
  have e4 : (mb == mb) = true := by simp
  have e5 : (lk == lk) = true := by simp
  have e6 : (sb == sb) = true := by simp
  clear re rf
  go_region_held3 (fun w' => w'.cell? ⟨w.heap.size, 0, none⟩ = some (.int .i64 a.sc) ∧ w'.cell? ⟨w.heap.size, 1, none⟩ = some (.int .i64 a.sp) ∧ w'.cell? ⟨w.heap.size, 2, none⟩ = some (.int .i64 a.pool) ∧ w'.cell? ⟨w.heap.size, 3, none⟩ = some (.slice A n c) ∧ w'.cell? ⟨w2.heap.size, 0, none⟩ = some (.int .i64 a.sc) ∧ w'.cell? ⟨w2.heap.size, 1, none⟩ = some (.int .i64 a.sp) ∧ w'.cell? ⟨w2.heap.size, 2, none⟩ = some (.int .i64 a.pool) ∧ w'.cell? ⟨w2.heap.size, 3, none⟩ = some (.slice A n c) ∧ w'.cell? ⟨w3.heap.size, 0, none⟩ = some (.int .i64 T.sc) ∧ w'.cell? ⟨w3.heap.size, 1, none⟩ = some (.int .i64 T.sp) ∧ w'.cell? ⟨w3.heap.size, 2, none⟩ = some (.int .i64 T.pool) ∧ w'.cell? ⟨w3.heap.size, 3, none⟩ = some (.slice A3 n c3) ∧ w'.cell? ⟨w4.heap.size, 0, none⟩ = some (.int .i64 T.sc) ∧ w'.cell? ⟨w4.heap.size, 1, none⟩ = some (.int .i64 T.sp) ∧ w'.cell? ⟨w4.heap.size, 2, none⟩ = some (.int .i64 T.pool) ∧ w'.cell? ⟨w4.heap.size, 3, none⟩ = some (.slice A4 n c4) ∧ w'.cell? ⟨w5.heap.size, 0, none⟩ = some (.int .i64 P.sc) ∧ w'.cell? ⟨w5.heap.size, 1, none⟩ = some (.int .i64 P.sp) ∧ w'.cell? ⟨w5.heap.size, 2, none⟩ = some (.int .i64 P.pool) ∧ w'.cell? ⟨w5.heap.size, 3, none⟩ = some (.slice A5 n c5) ∧ w'.cell? ⟨w6.heap.size, 0, none⟩ = some (.int .i64 P.sc) ∧ w'.cell? ⟨w6.heap.size, 1, none⟩ = some (.int .i64 P.sp) ∧ w'.cell? ⟨w6.heap.size, 2, none⟩ = some (.int .i64 P.pool) ∧ w'.cell? ⟨w6.heap.size, 3, none⟩ = some (.slice A6 n c6) ∧ w'.cell? ⟨w.heap.size + 1, 0, none⟩ = some (.int .i64 b.sc) ∧ w'.cell? ⟨w.heap.size + 1, 1, none⟩ = some (.int .i64 b.sp) ∧ w'.cell? ⟨w.heap.size + 1, 2, none⟩ = some (.int .i64 b.pool) ∧ w'.cell? ⟨w.heap.size + 1, 3, none⟩ = some (.slice B m d))
    (first | exact KS.out _ cc | exact KS.out _ cc.drew)
    (first
      | (go_at_call 25; refine refLed_raw.mono ?_; rintro e w10 ⟨rfl, b10⟩; (try (have rm := rm.below b10)); have cc := cc.trans (b10.mono cc.size))
      | (go_at_call 33; refine (RB.out _ (KA6.out.row.below cc.drew)).mono ?_; rintro e w10 ⟨rfl, b10⟩; have cc := cc.drew.trans (b10.mono cc.drew.size))
      | (go_at_call 34; refine (RC.out _ (KR6.out.row.below cc)).mono ?_; rintro e w10 ⟨rfl, b10⟩; have cc := cc.trans (b10.mono cc.size))
      | (go_at_call 35; refine (MB.out _ (KA6.out.row.below cc)).mono ?_; rintro e w10 ⟨rfl, b10⟩; have cc := cc.trans (b10.mono cc.size))
      | (go_at_call 36; refine (MC.out _ (KR6.out.row.below cc)).mono ?_; rintro e w10 ⟨rfl, b10⟩; have cc := cc.trans (b10.mono cc.size))
      | (go_at_call 37; refine (LB.out _ (KA6.out.row.below cc)).mono ?_; rintro e w10 ⟨rfl, b10⟩; have cc := cc.trans (b10.mono cc.size))
      | (go_at_call 38; refine (LC.out _ (KR6.out.row.below cc)).mono ?_; rintro e w10 ⟨rfl, b10⟩; have cc := cc.trans (b10.mono cc.size))
      | (go_at_call 39; refine (SB.out _ (KA6.out.row.below cc) (KB6.out.row.below cc)).mono ?_; rintro e w10 ⟨rfl, b10⟩; have cc := cc.trans (b10.mono cc.size))
      | (go_at_call 40; refine (NB.out _).mono ?_; rintro e w10 ⟨gm, rfl, rm, b10⟩; have cc := cc.trans (b10.mono cc.size))
      | (go_at_call 41; refine (NC.out _).mono ?_; rintro e w10 ⟨gn, rfl, rn, b10⟩; have rm := rm.below b10; have cc := cc.trans (b10.mono cc.size))
      | (go_at_call 30; refine Calls.mono (same_raw ?_) ?_; (exact ⟨N, ⟨rfl, rfl, rfl, rm⟩, ⟨rfl, rfl, rfl, rn⟩, HNL.out⟩); rintro e w10 ⟨rfl, b10⟩; have cc := cc.trans (b10.mono cc.size))
      | (go_at_call 30; refine (SC.out _ (KR6.out.row.below cc) (KB6.out.row.below cc)).mono ?_; rintro e w10 ⟨rfl, b10⟩; have cc := cc.trans (b10.mono cc.size)))
  go_wp2_with fail
  go_ret
  exact ⟨rfl, HB6.out.trans (cc.mono HB6.out.size)⟩
end Go.Proofs.Ytkbaddopgdfafaa
