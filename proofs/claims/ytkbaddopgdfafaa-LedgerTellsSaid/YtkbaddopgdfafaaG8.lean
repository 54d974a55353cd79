import Derived.Test.YtkbaddopgdfafaaG7
namespace Go.Proofs.Ytkbaddopgdfafaa
open Go.RowKit Go.Proofs.Besom

/-- A deed, as data. -/
structure Dd where
  kind : Int
  who : Int
  n : Int
  lim : Int

def Dd.ok (d : Dd) : Prop := (0 ≤ d.kind ∧ d.kind ≤ 255) ∧ (0 ≤ d.who ∧ d.who ≤ 255) ∧ (0 ≤ d.n ∧ d.n ≤ 255) ∧ (0 ≤ d.lim ∧ d.lim ≤ 255)

abbrev ddV (d : Dd) : Value := .agg #[.int .u8 d.kind, .int .u8 d.who, .int .u8 d.n, .int .u8 d.lim]

theorem row_set4_or {w w1 : World} {A A1 : Option Addr} {n g : Nat} {xs ys : List Value} {p q r s : Value} (h0 : Row w 1 A n ys) (h1 : Row w1 1 A1 n xs) (hg : w.heap.size ≤ g)
    (hA : A1 = A ∨ ∃ k, A1 = some ⟨k, 0, none⟩ ∧ g < k) :
    Row ((((w1.setCell ⟨g, 0, none⟩ p).setCell ⟨g, 1, none⟩ q).setCell ⟨g, 2, none⟩ r).setCell ⟨g, 3, none⟩ s) 1 A1 n xs := by
  rcases Nat.eq_zero_or_pos n with hn | hn
  · subst hn
    have hx : xs = [] := List.length_eq_zero_iff.mp (by simpa using h1.1)
    subst hx
    exact Row.nil _ _ _
  · refine h1.set4 (fun ad h => ?_)
    rcases hA with hA | ⟨k, hk, hlt⟩
    · subst hA
      have := h0.lt_ (by omega) hn h
      omega
    · rw [hk] at h; injection h with h; subst h; show k ≠ g; omega

set_option maxRecDepth 100000 in
set_option maxHeartbeats 3200000 in
theorem do_earn (d : Dd) (l : Led) (A : Option Addr) (n c : Nat) (w : World) (hd : d.ok) (hr : Row w 1 A n (l.bal.map (.int .i64))) (hn : n * 8 ≤ 140737488351232) (hk : d.kind % 4 = 0 ∨ d.kind % 4 = 1) :
    Calls Try.prog 42 #[ddV d, ledV l A n c] w (LedPost1 w A n (earnL l (d.who % 6))) := by
  obtain ⟨⟨k0, k1⟩, ⟨w0, w1⟩, ⟨n0, n1⟩, ⟨l0, l1⟩⟩ := hd
  have HR := Lib.hid hr
  have hc := fun (w' : World) (hr' : Row w' 1 A n (l.bal.map (.int .i64))) => earn_any l A n c (d.who % 6) w' hr' hn
  have HB := Lib.hid (below3 w (.cells #[.int .u8 d.kind, .int .u8 d.who, .int .u8 d.n, .int .u8 d.lim] 76) (.cells #[.int .i64 l.sc, .int .i64 l.sp, .int .i64 l.pool, .slice A n c] 50) (.cells #[.int .i64 0, .int .i64 0, .int .i64 0, .slice none 0 0] 50))
  have HC := Lib.hid hc
  clear hc hr
  rcases hk with hk | hk
  all_goals
    go_enter Try.func42, Try.ntmps42
    go_wp2_with fail
    refine (HC.out _ (HR.out.below HB.out)).mono ?_
    rintro e w1 ⟨A1, c1, rfl, r1, b1, hA⟩
    have HB1 := Lib.hid (HB.out.trans (b1.mono HB.out.size))
    obtain ⟨-, -, hy⟩ := blocks3 b1
    obtain ⟨z0, z1, z2, z3⟩ := cells4 hy
    obtain ⟨f0, f1, f2, f3⟩ := free4 hy
    have HY := Lib.hid hy
    have HA := Lib.hid hA
    have R1 := Lib.hid r1
    clear b1 hy hA r1
    go_wp2_with fail
    have hbf := below_set4 (p := .int .i64 (earnL l (d.who % 6)).sc) (q := .int .i64 (earnL l (d.who % 6)).sp) (r := .int .i64 (earnL l (d.who % 6)).pool) (s := .slice A1 n c1) (g := w.heap.size + 2) HB1.out (by omega)
    refine bodyPost_row (ty' := 50) (g := w.heap.size + 2) rfl rfl (blk_set4 HY.out) Try.underlying50 rfl (by kernel_rfl) rfl ⟨A1, c1, rfl, ?_, hbf, ?_⟩
    · exact row_set4_or HR.out R1.out (by omega) (HA.out.imp id fun ⟨k, hk, hl⟩ => ⟨k, hk, by simp at hl; omega⟩)
    · exact HA.out.imp id fun ⟨k, hk, hl⟩ => ⟨k, hk, by simp at hl; omega⟩

set_option maxRecDepth 100000 in
set_option maxHeartbeats 3200000 in
theorem do_take (d : Dd) (l : Led) (A : Option Addr) (n c : Nat) (w : World) (hd : d.ok) (hr : Row w 1 A n (l.bal.map (.int .i64))) (hn : n * 8 ≤ 140737488351232) (hk : d.kind % 4 = 2) :
    Calls Try.prog 42 #[ddV d, ledV l A n c] w (LedPost1 w A n (takeL l (d.who % 6) (d.n % 9)).1) := by
  obtain ⟨⟨k0, k1⟩, ⟨w0, w1⟩, ⟨n0, n1⟩, ⟨l0, l1⟩⟩ := hd
  have HR := Lib.hid hr
  have hc := fun (w' : World) (hr' : Row w' 1 A n (l.bal.map (.int .i64))) => take_any l A n c (d.who % 6) (d.n % 9) w' hr' hn
  have HB := Lib.hid (below3 w (.cells #[.int .u8 d.kind, .int .u8 d.who, .int .u8 d.n, .int .u8 d.lim] 76) (.cells #[.int .i64 l.sc, .int .i64 l.sp, .int .i64 l.pool, .slice A n c] 50) (.cells #[.int .i64 0, .int .i64 0, .int .i64 0, .slice none 0 0] 50))
  generalize (takeL l (d.who % 6) (d.n % 9)).1 = t1 at hc ⊢
  generalize (takeL l (d.who % 6) (d.n % 9)).2 = t2 at hc
  have HC := Lib.hid hc
  clear hc hr
  go_enter Try.func42, Try.ntmps42
  go_wp2_with fail
  refine (HC.out _ (HR.out.below HB.out)).mono ?_
  rintro e w1 ⟨A1, c1, rfl, r1, b1, hA⟩
  have hb1' := (HB.out.trans (b1.mono HB.out.size))
  have HB1 := Lib.hid (hb1'.alloc hb1'.size (.cells #[.int .i64 t1.sc, .int .i64 t1.sp, .int .i64 t1.pool, .slice A1 n c1] 50))
  obtain ⟨-, -, hy0⟩ := blocks3 b1
  have hy := (Below.heap_alloc w1 (.cells #[.int .i64 t1.sc, .int .i64 t1.sp, .int .i64 t1.pool, .slice A1 n c1] 50) _ (lt_of_block hy0)).trans hy0
  obtain ⟨z0, z1, z2, z3⟩ := cells4 hy
  obtain ⟨f0, f1, f2, f3⟩ := free4 hy
  have HY := Lib.hid hy
  have HA := Lib.hid hA
  have R1 := Lib.hid (r1.below (alloc_b w1 (.cells #[.int .i64 t1.sc, .int .i64 t1.sp, .int .i64 t1.pool, .slice A1 n c1] 50)))
  clear b1 hy hA r1 hy0 hb1'
  go_wp2_with fail
  have hbf := below_set4 (p := .int .i64 t1.sc) (q := .int .i64 t1.sp) (r := .int .i64 t1.pool) (s := .slice A1 n c1) (g := w.heap.size + 2) HB1.out (by omega)
  refine bodyPost_row (ty' := 50) (g := w.heap.size + 2) rfl rfl (blk_set4 HY.out) Try.underlying50 rfl (by kernel_rfl) rfl ⟨A1, c1, rfl, ?_, hbf, ?_⟩
  · exact row_set4_or HR.out R1.out (by omega) (HA.out.imp id fun ⟨k, hk, hl⟩ => ⟨k, hk, by simp at hl; omega⟩)
  · exact HA.out.imp id fun ⟨k, hk, hl⟩ => ⟨k, hk, by simp at hl; omega⟩

set_option maxRecDepth 100000 in
set_option maxHeartbeats 3200000 in
theorem do_spend (d : Dd) (l : Led) (A : Option Addr) (n c : Nat) (w : World) (hd : d.ok) (hr : Row w 1 A n (l.bal.map (.int .i64))) (hn : n * 8 ≤ 140737488351232) (hk : d.kind % 4 = 3) :
    Calls Try.prog 42 #[ddV d, ledV l A n c] w (LedPost1 w A n (spendL l (d.who % 6) (d.n % 9) (d.lim % 9)).1) := by
  obtain ⟨⟨k0, k1⟩, ⟨w0, w1⟩, ⟨n0, n1⟩, ⟨l0, l1⟩⟩ := hd
  have HR := Lib.hid hr
  have hc := fun (w' : World) (hr' : Row w' 1 A n (l.bal.map (.int .i64))) => spend_any l A n c (d.who % 6) (d.n % 9) (d.lim % 9) w' hr' hn
  have HB := Lib.hid (below3 w (.cells #[.int .u8 d.kind, .int .u8 d.who, .int .u8 d.n, .int .u8 d.lim] 76) (.cells #[.int .i64 l.sc, .int .i64 l.sp, .int .i64 l.pool, .slice A n c] 50) (.cells #[.int .i64 0, .int .i64 0, .int .i64 0, .slice none 0 0] 50))
  generalize (spendL l (d.who % 6) (d.n % 9) (d.lim % 9)).1 = t1 at hc ⊢
  generalize (spendL l (d.who % 6) (d.n % 9) (d.lim % 9)).2 = t2 at hc
  have HC := Lib.hid hc
  clear hc hr
  go_enter Try.func42, Try.ntmps42
  go_wp2_with fail
  refine (HC.out _ (HR.out.below HB.out)).mono ?_
  rintro e w1 ⟨A1, c1, rfl, r1, b1, hA⟩
  have hb1' := (HB.out.trans (b1.mono HB.out.size))
  have HB1 := Lib.hid (hb1'.alloc hb1'.size (.cells #[.int .i64 t1.sc, .int .i64 t1.sp, .int .i64 t1.pool, .slice A1 n c1] 50))
  obtain ⟨-, -, hy0⟩ := blocks3 b1
  have hy := (Below.heap_alloc w1 (.cells #[.int .i64 t1.sc, .int .i64 t1.sp, .int .i64 t1.pool, .slice A1 n c1] 50) _ (lt_of_block hy0)).trans hy0
  obtain ⟨z0, z1, z2, z3⟩ := cells4 hy
  obtain ⟨f0, f1, f2, f3⟩ := free4 hy
  have HY := Lib.hid hy
  have HA := Lib.hid hA
  have R1 := Lib.hid (r1.below (alloc_b w1 (.cells #[.int .i64 t1.sc, .int .i64 t1.sp, .int .i64 t1.pool, .slice A1 n c1] 50)))
  clear b1 hy hA r1 hy0 hb1'
  go_wp2_with fail
  have hbf := below_set4 (p := .int .i64 t1.sc) (q := .int .i64 t1.sp) (r := .int .i64 t1.pool) (s := .slice A1 n c1) (g := w.heap.size + 2) HB1.out (by omega)
  refine bodyPost_row (ty' := 50) (g := w.heap.size + 2) rfl rfl (blk_set4 HY.out) Try.underlying50 rfl (by kernel_rfl) rfl ⟨A1, c1, rfl, ?_, hbf, ?_⟩
  · exact row_set4_or HR.out R1.out (by omega) (HA.out.imp id fun ⟨k, hk, hl⟩ => ⟨k, hk, by simp at hl; omega⟩)
  · exact HA.out.imp id fun ⟨k, hk, hl⟩ => ⟨k, hk, by simp at hl; omega⟩

/-- What a deed does. -/
def doL (d : Dd) (l : Led) : Led :=
  if d.kind % 4 = 2 then (takeL l (d.who % 6) (d.n % 9)).1 else if d.kind % 4 = 3 then (spendL l (d.who % 6) (d.n % 9) (d.lim % 9)).1 else earnL l (d.who % 6)

theorem doled_any (d : Dd) (l : Led) (A : Option Addr) (n c : Nat) (w : World) (hd : d.ok) (hr : Row w 1 A n (l.bal.map (.int .i64))) (hn : n * 8 ≤ 140737488351232) :
    Calls Try.prog 42 #[ddV d, ledV l A n c] w (LedPost1 w A n (doL d l)) := by
  by_cases h2 : d.kind % 4 = 2
  · simp only [doL, h2, if_true]; exact do_take d l A n c w hd hr hn h2
  · by_cases h3 : d.kind % 4 = 3
    · have : doL d l = (spendL l (d.who % 6) (d.n % 9) (d.lim % 9)).1 := by simp [doL, h3]
      rw [this]; exact do_spend d l A n c w hd hr hn h3
    · have : doL d l = earnL l (d.who % 6) := by simp [doL, h2, h3]
      rw [this]; exact do_earn d l A n c w hd hr hn (by have := hd.1; omega)
end Go.Proofs.Ytkbaddopgdfafaa
