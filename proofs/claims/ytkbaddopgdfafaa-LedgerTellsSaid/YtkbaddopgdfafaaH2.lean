import Derived.Test.YtkbaddopgdfafaaH1
import Derived.Test.YtkbaddopgdfafaaG11
namespace Go.Proofs.Ytkbaddopgdfafaa
open Go.RowKit Go.Proofs.Besom

set_option maxRecDepth 100000 in
set_option maxHeartbeats 3200000 in
theorem more_any (l : Led) (A : Option Addr) (n c : Nat) (k : Nat) (x : Int) (w : World) (hr : Row w 1 A n (l.bal.map (.int .i64))) (hn : n * 8 ≤ 140737488351232) (hk : k < n) :
    Calls Try.prog 53 #[ledV l A n c, .int .i64 ((k : Int) + 1), .int .i64 x] w (LedPost w n (turn l ((k : Int) + 1) x)) := by
  obtain ⟨i0, hi, hz0, hz1, hz2⟩ := info_parts Try.info2
  have hb0 := below2' w (.cells #[.int .i64 l.sc, .int .i64 l.sp, .int .i64 l.pool, .slice A n c] 51) (.cells #[.int .i64 0, .int .i64 0, .int .i64 0, .slice none 0 0] 51)
  have hx0 : ((w.alloc (.cells #[.int .i64 l.sc, .int .i64 l.sp, .int .i64 l.pool, .slice A n c] 51)).alloc (.cells #[.int .i64 0, .int .i64 0, .int .i64 0, .slice none 0 0] 51)).heap[w.heap.size]? = some (.cells #[.int .i64 l.sc, .int .i64 l.sp, .int .i64 l.pool, .slice A n c] 51 (0, 0)) := (Below.heap_alloc _ _ _ (by simp)).trans (heap_alloc_at rfl)
  have hy0 : ((w.alloc (.cells #[.int .i64 l.sc, .int .i64 l.sp, .int .i64 l.pool, .slice A n c] 51)).alloc (.cells #[.int .i64 0, .int .i64 0, .int .i64 0, .slice none 0 0] 51)).heap[w.heap.size + 1]? = some (.cells #[.int .i64 0, .int .i64 0, .int .i64 0, .slice none 0 0] 51 (0, 0)) := heap_alloc_at (by simp)
  have HB := Lib.hid hb0
  have HX0 := Lib.hid hx0
  have HY0 := Lib.hid hy0
  have HR := Lib.hid hr
  have hll : l.bal.length = n := by simpa using hr.1
  have HLL := Lib.hid hll
  clear hb0 hx0 hy0 hr hll
  go_enter Try.func53, Try.ntmps53
  go_wp2_with (at_builtin; refine wpList_append_row _ rfl (.const (.slice none 0 0)) (.tmp 8) 48 rfl (w.heap.size + 2) 2 i0 _ 1 8 Try.underlying48 hi hz0 hz1 hz2 rfl (by decide) (.slice none 0 0) 0 [] rfl (World.ownsRow_nil _ _ _ _) A n c (l.bal.map (.int .i64)) rfl (HR.out.below HB.out) (ints_oneCell .i64 l.bal) (by unfold maxLen; omega) (by omega) (by simp) ?_)
  intro v2 w2 o2 g2 at2
  have hb2 := below_of_nil g2
  have hx2 := (hb2.block _ (lt_of_block HX0.out)).trans HX0.out
  have hy2 := (hb2.block _ (lt_of_block HY0.out)).trans HY0.out
  have o2' : w2.ownsRow (w.heap.size + 2) 2 1 v2 n (l.bal.map (.int .i64)) := by simpa using o2
  obtain ⟨g, cap, rfl, hg1, hg2⟩ := own_form o2' (by omega)
  obtain ⟨q0, q1, q2, q3⟩ := cells4 hx2
  obtain ⟨f0, f1, f2, f3⟩ := free4 hx2
  have hx3 : (w2.setCell ⟨w.heap.size, 3, none⟩ (.slice (some ⟨g, 0, none⟩) n cap)).heap[w.heap.size]? = some (.cells #[.int .i64 l.sc, .int .i64 l.sp, .int .i64 l.pool, .slice (some ⟨g, 0, none⟩) n cap] 51 (0, 0)) := blk_set hx2
  have hy3 : (w2.setCell ⟨w.heap.size, 3, none⟩ (.slice (some ⟨g, 0, none⟩) n cap)).heap[w.heap.size + 1]? = some (.cells #[.int .i64 0, .int .i64 0, .int .i64 0, .slice none 0 0] 51 (0, 0)) := blk_other hy2 (by omega)
  have o3 : (w2.setCell ⟨w.heap.size, 3, none⟩ (.slice (some ⟨g, 0, none⟩) n cap)).ownsRow (w.heap.size + 2) 2 1 (.slice (some ⟨g, 0, none⟩) n cap) n (l.bal.map (.int .i64)) := ownsRow_setCell_other o2' (by simp [Value.ownBlock]; omega) _
  have HX3 := Lib.hid hx3
  have HY3 := Lib.hid hy3
  have O3 := Lib.hid o3
  have HB3 := Lib.hid ((HB.out.trans (hb2.mono HB.out.size)).setCell (p := ⟨w.heap.size, 3, none⟩) (Nat.le_refl _) (.slice (some ⟨g, 0, none⟩) n cap))
  clear o2 g2 at2 hb2 hx2 hy2 o2' hg2 hx3 hy3 o3
  go_wp2_with fail
  clear q0 q1 q2 q3 f0 f1 f2 f3
  generalize w2.setCell ⟨w.heap.size, 3, none⟩ (.slice (some ⟨g, 0, none⟩) n cap) = W3 at *
  have hlk : k < l.bal.length := by have := HLL.out; omega
  have HLK := Lib.hid hlk
  obtain ⟨m0, m1, m2, m3⟩ := cells4 HX3.out
  obtain ⟨L, hL⟩ : ∃ L, l.bal[k]? = some L := ⟨_, List.getElem?_eq_getElem hlk⟩
  have hLm : (l.bal.map (Value.int .i64))[k]? = some (.int .i64 L) := by rw [List.getElem?_map, hL]; rfl
  have mk : W3.cell? ⟨g, k, none⟩ = some (.int .i64 L) := (O3.out.cellAt k (by omega)).trans hLm
  have HLM := Lib.hid hLm
  have HT := Lib.hid (show turn l ((k : Int) + 1) x = ⟨l.sc, l.sp, l.pool, l.bal.set k (wrap64 (L + x))⟩ by
    have e : ((k : Int) + 1 - 1).toNat = k := by omega
    simp only [turn, e, List.getD_eq_getElem?_getD, hL, Option.getD_some])
  clear hL hLm
  have e1 : IntKind.i64.wrap ((k : Int) + 1 - 1) = k := by rw [show (k : Int) + 1 - 1 = k by omega]; exact IntWalk.i64_in _ (by omega)
  have e4 : IntKind.i64.wrap (k : Int) = k := IntWalk.i64_in _ (by omega)
  have e5 : 0 ≤ (k : Int) := by omega
  have e6 : (k : Int) < n := by omega
  clear hlk
  go_still_tail 13, (by kernel_rfl)
  change wpList _ _ _ _ _ W3.drew
  have hdr : Below W3.heap.size W3 W3.drew := (Below.refl _ _).drew
  have HX4 := Lib.hid ((hdr.block _ (lt_of_block HX3.out)).trans HX3.out)
  have HY4 := Lib.hid ((hdr.block _ (lt_of_block HY3.out)).trans HY3.out)
  have O4 := Lib.hid (own_below O3.out hdr)
  have HB4 := Lib.hid (HB3.out.drew)
  clear hdr m0 m1 m2 m3 mk e1 e4 e5 e6
  generalize W3.drew = W4 at *
  have mk : W4.cell? ⟨g, k, none⟩ = some (.int .i64 L) := (O4.out.cellAt k (by omega)).trans HLM.out
  have mf := O4.out.frozenAt k
  have hx5 : (W4.setCell ⟨g, k, none⟩ (.int .i64 (wrap64 (L + x)))).heap[w.heap.size]? = _ := blk_other HX4.out (by omega)
  have hy5 : (W4.setCell ⟨g, k, none⟩ (.int .i64 (wrap64 (L + x)))).heap[w.heap.size + 1]? = _ := blk_other HY4.out (by omega)
  obtain ⟨m0, m1, m2, m3⟩ := cells4 hx5
  obtain ⟨y0, y1, y2, y3⟩ := cells4 hy5
  obtain ⟨f0, f1, f2, f3⟩ := free4 hy5
  have HY5 := Lib.hid hy5
  have o5 := (O4.out.stored k (.int .i64 (wrap64 (L + x)))).1
  rw [map_set_int'] at o5
  have O5 := Lib.hid o5
  have HB5 := Lib.hid (HB4.out.setCell (p := ⟨g, k, none⟩) (by show w.heap.size ≤ g; omega) (.int .i64 (wrap64 (L + x))))
  clear hx5 hy5 o5
  go_wp2_with fail
  rw [HT.out]
  refine bodyPost_row (ty' := 51) (g := w.heap.size + 1) rfl rfl (blk_set4 HY5.out) Try.underlying51 rfl (by kernel_rfl) rfl ?_
  have h2 := own_set4 (p := .int .i64 l.sc) (q := .int .i64 l.sp) (r := .int .i64 l.pool) (s := .slice (some ⟨g, 0, none⟩) n cap) O5.out (g := w.heap.size + 1) (by simp [Value.ownBlock]; omega)
  exact ⟨g, cap, rfl, Row.of_own h2, below_set4 HB5.out (by omega), by omega⟩
end Go.Proofs.Ytkbaddopgdfafaa
