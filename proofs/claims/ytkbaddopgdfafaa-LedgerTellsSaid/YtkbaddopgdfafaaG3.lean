import Derived.Test.YtkbaddopgdfafaaG2
namespace Go.Proofs.Ytkbaddopgdfafaa
open Go.RowKit Go.Proofs.Besom

def lacksI (l : Led) (who price limit : Int) : Int :=
  if pricedB l.bal.length who price limit = false then -1 else if mayB l who price limit then 0 else wrap64 (wrap64 (price - limit) - l.bal.getD (who - 1).toNat 0)

theorem priced_may {l : Led} {who price limit : Int} (h : mayB l who price limit = true) : pricedB l.bal.length who price limit = true := by
  simp only [mayB, Bool.and_eq_true] at h
  exact h.1

set_option maxRecDepth 100000 in
set_option maxHeartbeats 400000 in
theorem lacks_any (l : Led) (A : Option Addr) (n c : Nat) (who price limit : Int) (w : World) (hr : Row w 1 A n (l.bal.map (.int .i64))) (hn : n * 8 ≤ 140737488351232) :
    Calls Try.prog 37 #[ledV l A n c, .int .i64 who, .int .i64 price, .int .i64 limit] w fun e w' => e = .returned (.int .i64 (lacksI l who price limit)) ∧ Below w.heap.size w w' := by
  have HB := Lib.hid (ledBox l A n c w)
  have hll : l.bal.length = n := by simpa using hr.1
  have HR := Lib.hid hr
  have hc := fun w' => priced_any l A n c who price limit w'
  have hm := fun w' hr' => may_any l A n c who price limit w' hr' hn
  cases hp : pricedB n who price limit
  · have HT := Lib.hid (show -1 = lacksI l who price limit by simp [lacksI, hll, hp])
    rw [hp] at hc
    have HC := Lib.hid hc
    clear hc hp hr hll hm
    go_enter Try.func37, Try.ntmps37
    go_wp2_with fail
    refine (HC.out _).mono ?_
    rintro e w1 ⟨rfl, b1⟩
    go_wp2_with fail
    go_ret
    exact ⟨ret_int HT.out, HB.out.trans (b1.mono HB.out.size)⟩
  · rw [hp] at hc
    have HC := Lib.hid hc
    cases hy : mayB l who price limit
    · rw [hy] at hm
      have HM := Lib.hid hm
      have hp' := hp
      simp only [pricedB, Bool.and_eq_true, decide_eq_true_eq] at hp'
      obtain ⟨ht, hp0, hp1, hl0, hl1⟩ := hp'
      obtain ⟨hw1, hw2⟩ := there_yes ht
      obtain ⟨k, hk⟩ : ∃ k : Nat, who = (k : Int) + 1 := ⟨(who - 1).toNat, by omega⟩
      subst hk
      have hkn : k < n := by omega
      obtain ⟨b, o, rfl, hcell, hkl⟩ := hr.int_at hkn
      have HT := Lib.hid (show lacksI l ((k : Int) + 1) price limit = wrap64 (wrap64 (price - limit) - l.bal[k]) by
        have e1 : ((k : Int) + 1 - 1).toNat = k := by omega
        simp only [lacksI, hll, hp, hy, e1, List.getD_eq_getElem?_getD, List.getElem?_eq_getElem hkl]
        rfl)
      have hbb := World.block_lt_of_cell? w _ hcell
      clear hc hp hr ht hll hm hy
      go_enter Try.func37, Try.ntmps37
      go_wp2_with fail
      refine (HC.out _).mono ?_
      rintro e w1 ⟨rfl, b1⟩
      have hb1 := HB.out.trans (b1.mono HB.out.size)
      have hblk1 := (b1.block w.heap.size (by simp)).trans (heap_alloc_at (w := w) rfl)
      obtain ⟨q0, q1, q2, q3⟩ := cells4 hblk1
      have HB1 := Lib.hid hb1
      have HK1 := Lib.hid hblk1
      clear b1 hb1 hblk1
      go_wp2_with fail
      refine (HM.out _ (HR.out.below HB1.out)).mono ?_
      rintro e w2 ⟨rfl, b2⟩
      have hb2 := HB1.out.trans (b2.mono HB1.out.size)
      have hc2 : w2.cell? ⟨b, o + k, none⟩ = some (.int .i64 (l.bal.getD k 0)) := (hb2.cell hbb).trans hcell
      obtain ⟨z0, z1, z2, z3⟩ := cells4 ((b2.block w.heap.size (lt_of_block HK1.out)).trans HK1.out)
      have HB2 := Lib.hid hb2
      clear b2 hb2 q0 q1 q2 q3
      go_wp2_with fail
      go_ret
      refine ⟨ret_int ?_, HB2.out⟩
      rw [HT.out]
      first | rfl | rw [IntWalk.wrap64_in (price - limit) ⟨by omega, by omega⟩]
    · rw [hy] at hm
      have HM := Lib.hid hm
      have HT := Lib.hid (show 0 = lacksI l who price limit by simp [lacksI, hll, hp, hy])
      clear hc hp hr hll hm hy
      go_enter Try.func37, Try.ntmps37
      go_wp2_with fail
      refine (HC.out _).mono ?_
      rintro e w1 ⟨rfl, b1⟩
      have hb1 := HB.out.trans (b1.mono HB.out.size)
      have hblk1 := (b1.block w.heap.size (by simp)).trans (heap_alloc_at (w := w) rfl)
      obtain ⟨q0, q1, q2, q3⟩ := cells4 hblk1
      have HB1 := Lib.hid hb1
      clear b1 hb1 hblk1
      go_wp2_with fail
      refine (HM.out _ (HR.out.below HB1.out)).mono ?_
      rintro e w2 ⟨rfl, b2⟩
      go_wp2_with fail
      go_ret
      exact ⟨ret_int HT.out, HB1.out.trans (b2.mono HB1.out.size)⟩

def spendL (l : Led) (who price limit : Int) : Led × Bool :=
  if mayB l who price limit then (turn { l with sp := wrap64 (l.sp + price) } who (-price), true) else (l, false)

/-- The post of a call that returns a ledger and a value: its row is the old one, or new. -/
def LedPost2 (w : World) (A0 : Option Addr) (n : Nat) (r : Led) (v : Value) (e : Ending) (w' : World) : Prop :=
  ∃ A c, e = .returned (.tuple #[ledV r A n c, v]) ∧ Row w' 1 A n (r.bal.map (.int .i64)) ∧ Below w.heap.size w w' ∧ (A = A0 ∨ ∃ g, A = some ⟨g, 0, none⟩ ∧ w.heap.size ≤ g)
/-- The post of a call that returns a ledger: its row is the old one, or new. -/
def LedPost1 (w : World) (A0 : Option Addr) (n : Nat) (r : Led) (e : Ending) (w' : World) : Prop :=
  ∃ A c, e = .returned (ledV r A n c) ∧ Row w' 1 A n (r.bal.map (.int .i64)) ∧ Below w.heap.size w w' ∧ (A = A0 ∨ ∃ g, A = some ⟨g, 0, none⟩ ∧ w.heap.size ≤ g)

theorem blocks3 {w : World} {a b c : Obj} {w1 : World} (b1 : Below (((w.alloc a).alloc b).alloc c).heap.size (((w.alloc a).alloc b).alloc c) w1) :
    w1.heap[w.heap.size]? = some a ∧ w1.heap[w.heap.size + 1]? = some b ∧ w1.heap[w.heap.size + 2]? = some c := by
  refine ⟨?_, ?_, ?_⟩
  · exact (b1.block w.heap.size (by simp; omega)).trans ((Below.heap_alloc _ _ _ (by simp; omega)).trans ((Below.heap_alloc _ _ _ (by simp)).trans (heap_alloc_at rfl)))
  · exact (b1.block (w.heap.size + 1) (by simp)).trans ((Below.heap_alloc _ _ _ (by simp)).trans (heap_alloc_at (by simp)))
  · exact (b1.block (w.heap.size + 2) (by simp)).trans (heap_alloc_at (by simp))
theorem blocks2 {w : World} {a b : Obj} {w1 : World} (b1 : Below ((w.alloc a).alloc b).heap.size ((w.alloc a).alloc b) w1) :
    w1.heap[w.heap.size]? = some a ∧ w1.heap[w.heap.size + 1]? = some b := by
  refine ⟨?_, ?_⟩
  · exact (b1.block w.heap.size (by simp; omega)).trans ((Below.heap_alloc _ _ _ (by simp)).trans (heap_alloc_at rfl))
  · exact (b1.block (w.heap.size + 1) (by simp)).trans (heap_alloc_at (by simp))
theorem free4 {w : World} {g : Nat} {cs : Array Value} {t : TypeId} (h : w.heap[g]? = some (.cells cs t (0, 0))) :
    w.frozen? ⟨g, 0, none⟩ = false ∧ w.frozen? ⟨g, 1, none⟩ = false ∧ w.frozen? ⟨g, 2, none⟩ = false ∧ w.frozen? ⟨g, 3, none⟩ = false :=
  ⟨free_of_blk h 0, free_of_blk h 1, free_of_blk h 2, free_of_blk h 3⟩
theorem below3 (w : World) (a b c : Obj) : Below w.heap.size w (((w.alloc a).alloc b).alloc c) := (((Below.refl _ _).alloc (Nat.le_refl _) _).alloc (by simp) _).alloc (by simp; omega) _
theorem below2' (w : World) (a b : Obj) : Below w.heap.size w ((w.alloc a).alloc b) := ((Below.refl _ _).alloc (Nat.le_refl _) _).alloc (by simp) _

set_option maxRecDepth 100000 in
set_option maxHeartbeats 800000 in
theorem spend_any (l : Led) (A : Option Addr) (n c : Nat) (who price limit : Int) (w : World) (hr : Row w 1 A n (l.bal.map (.int .i64))) (hn : n * 8 ≤ 140737488351232) :
    Calls Try.prog 28 #[ledV l A n c, .int .i64 who, .int .i64 price, .int .i64 limit] w (LedPost2 w A n (spendL l who price limit).1 (.bool (spendL l who price limit).2)) := by
  have hll : l.bal.length = n := by simpa using hr.1
  have HB := Lib.hid (below3 w (.cells #[.int .i64 l.sc, .int .i64 l.sp, .int .i64 l.pool, .slice A n c] 50) (.cells #[.int .i64 price] 2) (.cells #[.int .i64 0, .int .i64 0, .int .i64 0, .slice none 0 0] 50))
  have HR := Lib.hid hr
  have hm := fun w' hr' => may_any l A n c who price limit w' hr' hn
  cases hy : mayB l who price limit
  · have HT := Lib.hid (show spendL l who price limit = (l, false) by simp [spendL, hy])
    rw [hy] at hm
    have HM := Lib.hid hm
    clear hm hy hr hll
    go_enter Try.func28, Try.ntmps28
    go_wp2_with fail
    refine (HM.out _ (HR.out.below HB.out)).mono ?_
    rintro e w1 ⟨rfl, b1⟩
    have HB1 := Lib.hid (HB.out.trans (b1.mono HB.out.size))
    obtain ⟨hx, -, hy⟩ := blocks3 b1
    obtain ⟨q0, q1, q2, q3⟩ := cells4 hx
    obtain ⟨z0, z1, z2, z3⟩ := cells4 hy
    obtain ⟨f0, f1, f2, f3⟩ := free4 hy
    have HY := Lib.hid hy
    clear b1 hx hy
    go_wp2_with fail
    rw [HT.out]
    have hbf := below_set4 (p := .int .i64 l.sc) (q := .int .i64 l.sp) (r := .int .i64 l.pool) (s := .slice A n c) (g := w.heap.size + 2) HB1.out (by omega)
    exact bodyPost_row_tmp (ty' := 50) (g := w.heap.size + 2) rfl rfl (blk_set4 HY.out) Try.underlying50 rfl (by kernel_rfl) rfl ⟨A, c, rfl, HR.out.below hbf, hbf, .inl rfl⟩
  · have hp := priced_may hy
    rw [hll] at hp
    simp only [pricedB, Bool.and_eq_true, decide_eq_true_eq] at hp
    obtain ⟨ht, hp0, hp1, hl0, hl1⟩ := hp
    obtain ⟨hw1, hw2⟩ := there_yes ht
    obtain ⟨k, hk⟩ : ∃ k : Nat, who = (k : Int) + 1 := ⟨(who - 1).toNat, by omega⟩
    subst hk
    have hkn : k < n := by omega
    have HT := Lib.hid (show spendL l ((k : Int) + 1) price limit = (turn { l with sp := wrap64 (l.sp + price) } ((k : Int) + 1) (-price), true) by simp [spendL, hy])
    rw [hy] at hm
    have HM := Lib.hid hm
    have HD := Lib.hid (fun w' gc hr' hx' => turned54 { l with sp := wrap64 (l.sp + price) } A n c k price gc w' hr' hn hkn hx')
    clear hm hy hr hll ht
    go_enter Try.func28, Try.ntmps28
    go_wp2_with fail
    refine (HM.out _ (HR.out.below HB.out)).mono ?_
    rintro e w1 ⟨rfl, b1⟩
    have HB1 := Lib.hid (HB.out.trans (b1.mono HB.out.size))
    obtain ⟨hx, hv, hy⟩ := blocks3 b1
    obtain ⟨q0, q1, q2, q3⟩ := cells4 hx
    obtain ⟨v0, g0⟩ := cells1 hv
    obtain ⟨f0, f1, f2, f3⟩ := free4 hx
    have HX := Lib.hid hx
    have HV := Lib.hid hv
    have HY := Lib.hid hy
    clear b1 hx hy hv
    have hmf : ∀ (fn : Fn) (first cap : Array Value) (w : World), (Instr.makeFunc fn first cap).run Try.prog w = .ok (.func fn first cap) w := fun _ _ _ _ => rfl
    go_wp2_with fail
    have hbs := HB1.out.setCell (p := ⟨w.heap.size, 1, none⟩) (Nat.le_refl _) (.int .i64 (wrap64 (l.sp + price)))
    have HBS := Lib.hid hbs
    refine (HD.out _ (w.heap.size + 1) (HR.out.below hbs) (cells1 (blk_other HV.out (by omega))).1).mono ?_
    rintro e w2 ⟨g, c2, rfl, hr2, b2, hg2⟩
    have HB2 := Lib.hid (HBS.out.trans (b2.mono HBS.out.size))
    have hs1 := lt_of_block HY.out
    have hy2 := (b2.block (w.heap.size + 2) (by simpa using hs1)).trans (blk_other HY.out (by omega))
    obtain ⟨z0, z1, z2, z3⟩ := cells4 hy2
    obtain ⟨t0, t1, t2, t3⟩ := free4 hy2
    have HY2 := Lib.hid hy2
    have HR2 := Lib.hid hr2
    have hgs : w.heap.size + 2 < g := by simp at hg2; omega
    clear hbs hy2 hr2 b2 hg2 q0 q1 q2 q3 f0 f1 f2 f3
    go_wp2_with fail
    rw [HT.out]
    have hbf := below_set4 (p := .int .i64 l.sc) (q := .int .i64 (wrap64 (l.sp + price))) (r := .int .i64 l.pool) (s := .slice (some ⟨g, 0, none⟩) n c2) (g := w.heap.size + 2) HB2.out (by omega)
    refine bodyPost_row_tmp (ty' := 50) (g := w.heap.size + 2) rfl rfl (blk_set4 HY2.out) Try.underlying50 rfl (by kernel_rfl) rfl ⟨some ⟨g, 0, none⟩, c2, rfl, ?_, hbf, .inr ⟨g, rfl, by omega⟩⟩
    exact HR2.out.set4 (fun ad h => by injection h with h; subst h; show g ≠ _; omega)
end Go.Proofs.Ytkbaddopgdfafaa
