import Derived.Test.YtkbaddopgdfafaaM3
namespace Go.Proofs.Ytkbaddopgdfafaa
open Go.RowKit Go.Proofs.Besom

theorem Try.info26 : (Try.prog.info? 26).map (fun i => (i.zero, i.size, i.bytes)) = some (some (.agg #[.int .i64 0, .int .i64 0, .int .u64 0, .int .u64 0]), 4, 32) := by kernel_rfl

theorem ops_one (ops : List Deed) : ∀ u ∈ ops.flatMap opCells, u.oneCell' = true := by
  intro u hu
  obtain ⟨o, _, ho⟩ := List.mem_flatMap.1 hu
  simp [opCells] at ho
  rcases ho with rfl | rfl | rfl | rfl <;> rfl

theorem getD_append_left {l r : List Int} {t : Nat} (h : t < l.length) : (l ++ r).getD t 0 = l.getD t 0 := by
  simp [List.getD, List.getElem?_append_left h]
theorem getD_append_right {l r : List Int} {t : Nat} (h : l.length ≤ t) : (l ++ r).getD t 0 = r.getD (t - l.length) 0 := by
  simp [List.getD, List.getElem?_append_right h]

set_option maxRecDepth 100000 in
set_option maxHeartbeats 1600000 in
theorem mall_any (A B C : Option Addr) (n m k c d f : Nat) (xs : List Int) (a b : List Deed) (w : World) (hr : Row w 1 A n (xs.map (.int .u64))) (hn : n * 8 ≤ 140737488351232)
    (ha : Row w 4 B m (a.flatMap opCells)) (hb : Row w 4 C k (b.flatMap opCells)) (hmk : (m + k) * 32 ≤ 140737488351232) :
    Calls Try.prog 7 #[.slice A n c, .slice B m d, .slice C k f] w fun e w' => e = .returned (.bool true) ∧ Below w.heap.size w w' := by
  obtain ⟨i0, hi, hz0, hz1, hz2⟩ := info_parts Try.info26
  have hal : a.length = m := by have := ha.1; rw [flat4] at this; omega
  have hbl : b.length = k := by have := hb.1; rw [flat4] at this; omega
  have hsum := memAll_append a b xs
  have hl1 := (memAll_len a xs).1
  have hc1 := (memAll_len a xs).2.2
  have d1 := fun (w' : World) hr' hb' => all_any A B n m c d xs a w' hr' hn hb' (by omega)
  generalize memAll xs a = r1 at hsum hl1 hc1 d1
  obtain ⟨x1, l1, n1⟩ := r1
  have hl2 := (memAll_len b x1).1
  have hc2 := (memAll_len b x1).2.2
  have d2 := fun (w' : World) A' c' hr' hb' => all_any A' C n k c' f x1 b w' hr' hn hb' (by omega)
  dsimp only at hsum hl1 hc1 d1 
  generalize memAll x1 b = r2 at hsum hl2 hc2 d2
  obtain ⟨x2, l2, n2⟩ := r2
  dsimp only at hsum hl2 hc2 d2
  have d3 := fun (w' : World) B' c' hr' hb' => all_any A B' n (m + k) c c' xs (a ++ b) w' hr' hn hb' (by omega)
  rw [hsum] at d3
  have hs12 : ((n1 + n2 : Nat) : Int) = (n1 : Int) + (n2 : Int) := by omega
  have HAL := Lib.hid hal
  have HBL := Lib.hid hbl
  have HL1 := Lib.hid (hl1.trans hal)
  have HL2 := Lib.hid (hl2.trans hbl)
  have D1 := Lib.hid d1
  have D2 := Lib.hid d2
  have D3 := Lib.hid d3
  have HR := Lib.hid hr
  have HA := Lib.hid ha
  have HB := Lib.hid hb
  have hn1 : n1 ≤ m := by omega
  have hn2 : n2 ≤ k := by omega
  clear hal hbl hsum hl1 hl2 d1 d2 d3 hr ha hb hc1 hc2
  go_enter Try.func7, Try.ntmps7
  go_wp2_with fail
  refine (examples_any _).mono ?_
  rintro e w1 ⟨rfl, b1⟩
  have HB1 := Lib.hid b1
  clear b1
  go_wp2_with fail
  refine (D1.out _ (HR.out.below HB1.out) (HA.out.below HB1.out)).mono ?_
  rintro e w2 ⟨A2, c2, v2, rfl, h2, o2, b2⟩
  have HB2 := Lib.hid (HB1.out.trans (b2.mono HB1.out.size))
  obtain ⟨B2, e2, rfl, ho2⟩ := own_row o2
  have H2 := Lib.hid h2
  have O2 := Lib.hid ho2
  clear h2 o2 b2 ho2
  go_wp2_with fail
  refine (D2.out _ A2 c2 H2.out (HB.out.below HB2.out)).mono ?_
  rintro e w3 ⟨A3, c3, v3, rfl, h3, o3, b3⟩
  have HB3 := Lib.hid (HB2.out.trans (b3.mono HB2.out.size))
  obtain ⟨B3, e3, rfl, ho3⟩ := own_row o3
  have H3 := Lib.hid h3
  have O3 := Lib.hid ho3
  have O23 := Lib.hid (O2.out.below b3)
  clear h3 o3 b3 ho3
  go_wp2_with (first
    | (at_builtin; refine wpList_append_row _ rfl (.const (.slice none 0 0)) (.tmp 38) 27 rfl w3.heap.size 26 i0 _ 4 32 Try.underlying27 hi hz0 hz1 hz2 rfl (by decide) (.slice none 0 0) 0 [] rfl (World.ownsRow_nil _ _ _ _) B m d (a.flatMap opCells) rfl (HA.out.below HB3.out) (ops_one a) (by unfold maxLen; omega) (by omega) (Nat.le_refl _) ?_; intro v4 w4 o4 g4 at4; have HB4 := Lib.hid (below_of_nil g4); have O4 := Lib.hid o4; clear o4 g4 at4)
    | (at_builtin; refine wpList_append_row _ rfl (.tmp 39) (.tmp 40) 27 rfl w3.heap.size 26 i0 _ 4 32 Try.underlying27 hi hz0 hz1 hz2 rfl (by decide) v4 (0 + m) ([] ++ a.flatMap opCells) rfl O4.out C k f (b.flatMap opCells) rfl ((HB.out.below HB3.out).below HB4.out) (ops_one b) (by unfold maxLen; omega) (by omega) HB4.out.size ?_; intro v5 w5 o5 g5 at5; have HB5 := Lib.hid (HB4.out.grown g5 HB4.out.size (fun g hg => (O4.out.lt g hg).1)); obtain ⟨B5, e5, rfl, ho5⟩ := own_row o5; have O5 := Lib.hid ho5; clear o5 g5 at5 ho5))
  have HB35 := Lib.hid (HB3.out.trans (HB5.out.mono HB3.out.size))
  have hrow5 : Row w5 4 B5 (m + k) ((a ++ b).flatMap opCells) := by
    have := O5.out
    rw [List.flatMap_append]
    simpa using this
  refine (D3.out _ B5 e5 (HR.out.below HB35.out) hrow5).mono ?_
  rintro e w6 ⟨A6, c6, v6, rfl, h6, o6, b6⟩
  obtain ⟨B6, e6, rfl, ho6⟩ := own_row o6
  have HB6 := Lib.hid (HB35.out.trans (b6.mono HB35.out.size))
  have HB36 := Lib.hid (HB5.out.trans (b6.mono HB5.out.size))
  have O1' := Lib.hid (O23.out.below HB36.out)
  have O2' := Lib.hid (O3.out.below HB36.out)
  have O6 := Lib.hid ho6
  have HS := Lib.hid (same_any A3 A6 n n c3 c6 x2 x2 w6 (by omega) (by omega) (H3.out.below HB36.out) h6)
  clear hrow5 h6 o6 b6 ho6
  go_wp2_with fail
  refine HS.out.mono ?_
  rintro e w7 ⟨rfl, q, rfl⟩
  go_wp2_with fail
  go_loopw [17] (fun t wr => ∃ j : Nat, j ≤ m + k ∧ t = .int .i64 j ∧ ∃ q, wr = w6.drewN q) (fun t _ => (m + k) - (intOf t).toNat)
  case atStart => exact ⟨0, Nat.zero_le _, rfl, _, rfl⟩
  case round =>
    obtain ⟨j, hj, rfl, q', rfl⟩ := hrel
    by_cases hlt : j < m + k
    · obtain ⟨b6, o6, rfl, p6, hl6⟩ := O6.out.int_at hlt
      by_cases hjm : j < m
      · obtain ⟨b2, o2, rfl, p2, hl2⟩ := O1'.out.int_at hjm
        rw [getD_append_left hl2] at p6
        clear hl6
        go_wp2_with fail
        go_roundw
        case rel => exact ⟨j + 1, by omega, by go_num, _, rfl⟩
        case measure => simp [intOf]; omega
      · have hjk : j - m < k := by omega
        obtain ⟨b3, o3, rfl, p3, hl3⟩ := O2'.out.int_at hjk
        have hll := HL1.out
        rw [getD_append_right (by omega), hll] at p6
        have hge : ¬ (j : Int) < (m : Int) := by omega
        have hidx : (j : Int) - (m : Int) = ((j - m : Nat) : Int) := by omega
        clear hl6 hll
        go_wp2_with fail
        go_roundw
        case rel => exact ⟨j + 1, by omega, by go_num, _, rfl⟩
        case measure => simp [intOf]; omega
    · go_wp2_with fail
      go_ret
      exact ⟨rfl, below_drewN HB6.out _⟩
end Go.Proofs.Ytkbaddopgdfafaa
