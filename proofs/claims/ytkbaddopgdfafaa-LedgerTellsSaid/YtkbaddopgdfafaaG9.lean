import Derived.Test.YtkbaddopgdfafaaG8
namespace Go.Proofs.Ytkbaddopgdfafaa
open Go.RowKit Go.Proofs.Besom

theorem turn_other {l : Led} {who x : Int} {k : Nat} (h : (k : Int) + 1 ≠ who) (hw : 1 ≤ who) : (turn l who x).bal.getD k 0 = l.bal.getD k 0 := by
  simp only [turn, List.getD_eq_getElem?_getD]
  rw [List.getElem?_set_ne (by omega)]

theorem earn_other {l : Led} {who : Int} {k : Nat} (h : (k : Int) + 1 ≠ who) : (earnL l who).bal.getD k 0 = l.bal.getD k 0 := by
  unfold earnL
  cases ht : thereB who l.bal.length
  · rfl
  · exact turn_other (l := { l with sc := wrap64 (l.sc + 1) }) h (there_yes ht).1

theorem take_other {l : Led} {who x : Int} {k : Nat} (h : (k : Int) + 1 ≠ who) : (takeL l who x).1.bal.getD k 0 = l.bal.getD k 0 := by
  unfold takeL
  split
  · rename_i ht
    exact turn_other (l := { l with pool := wrap64 (l.pool - min x l.pool) }) h (there_yes ht.1).1
  · rfl

theorem spend_other {l : Led} {who p m : Int} {k : Nat} (h : (k : Int) + 1 ≠ who) : (spendL l who p m).1.bal.getD k 0 = l.bal.getD k 0 := by
  unfold spendL
  split
  · rename_i ht
    have hp := priced_may ht
    simp only [pricedB, Bool.and_eq_true] at hp
    exact turn_other (l := { l with sp := wrap64 (l.sp + p) }) h (there_yes hp.1).1
  · rfl

theorem do_other {d : Dd} {l : Led} {k : Nat} (h : (k : Int) + 1 ≠ d.who % 6) : (doL d l).bal.getD k 0 = l.bal.getD k 0 := by
  unfold doL
  split
  · exact take_other h
  · split
    · exact spend_other h
    · exact earn_other h

set_option maxRecDepth 100000 in
set_option maxHeartbeats 3200000 in
theorem apart14 (l : Led) (d : Dd) (A : Option Addr) (n c : Nat) (w : World) (hd : d.ok) (hr : Row w 1 A n (l.bal.map (.int .i64))) (hn : n * 8 ≤ 140737488351232) :
    Calls Try.prog 14 #[ledV l A n c, ddV d] w fun e w' => e = .returned (.bool true) ∧ Below w.heap.size w w' := by
  obtain ⟨i0, hi, hz0, hz1, hz2⟩ := info_parts Try.info2
  have HD := Lib.hid hd
  have hdo := fun k => @do_other d l k
  obtain ⟨⟨k0, k1⟩, ⟨x0, x1⟩, ⟨n0, n1⟩, ⟨l0, l1⟩⟩ := hd
  have HR := Lib.hid hr
  have hc := fun (w' : World) (hr' : Row w' 1 A n (l.bal.map (.int .i64))) => doled_any d l A n c w' HD.out hr' hn
  generalize doL d l = t at hc hdo
  have HT := Lib.hid hdo
  have HC := Lib.hid hc
  have HB := Lib.hid (below2' w (.cells #[.int .i64 l.sc, .int .i64 l.sp, .int .i64 l.pool, .slice A n c] 50) (.cells #[.int .u8 d.kind, .int .u8 d.who, .int .u8 d.n, .int .u8 d.lim] 76))
  clear hc hr hdo
  go_enter Try.func14, Try.ntmps14
  go_wp2_with fail
  refine (examples10 _).mono ?_
  rintro e w1 ⟨rfl, b1⟩
  have HB1 := Lib.hid (HB.out.trans (b1.mono HB.out.size))
  obtain ⟨hx, hy⟩ := blocks2 b1
  obtain ⟨q0, q1, q2, q3⟩ := cells4 hx
  have HX := Lib.hid hx
  have HY := Lib.hid hy
  clear b1 hx hy
  go_wp2_with (at_builtin; refine wpList_append_row _ rfl (.const (.slice none 0 0)) (.tmp 13) 48 rfl w1.heap.size 2 i0 _ 1 8 Try.underlying48 hi hz0 hz1 hz2 rfl (by decide) (.slice none 0 0) 0 [] rfl (World.ownsRow_nil _ _ _ _) A n c (l.bal.map (.int .i64)) rfl (HR.out.below HB1.out) (ints_oneCell .i64 l.bal) (by unfold maxLen; omega) (by omega) (Nat.le_refl _) ?_; intro v2 w2 o2 g2 at2; have hb2 := below_of_nil g2; have hx2 := (hb2.block _ (lt_of_block HX.out)).trans HX.out; have hy2 := (hb2.block _ (lt_of_block HY.out)).trans HY.out; obtain ⟨p0, p1, p2, p3⟩ := cells4 hx2; obtain ⟨z0, z1, z2, z3⟩ := cells4 hy2; obtain ⟨A2, c2, rfl, r2⟩ := own_row o2; have HB2 := Lib.hid (HB1.out.trans (hb2.mono HB1.out.size)); have HR2 := Lib.hid (show Row w2 1 A2 n (l.bal.map (.int .i64)) by simpa using r2); have HX2 := Lib.hid hx2; have HY2 := Lib.hid hy2; clear o2 g2 at2 hb2 hx2 hy2 r2)
  refine (HC.out _ (HR.out.below HB2.out)).mono ?_
  rintro e w3 ⟨A3, c3, rfl, r3, b3, -⟩
  have hb3' := b3.alloc b3.size (.cells #[.int .i64 t.sc, .int .i64 t.sp, .int .i64 t.pool, .slice A3 n c3] 50)
  have HB3 := Lib.hid (HB2.out.trans (hb3'.mono HB2.out.size))
  obtain ⟨p0, p1, p2, p3⟩ := cells4 ((hb3'.block _ (lt_of_block HX2.out)).trans HX2.out)
  obtain ⟨z0, z1, z2, z3⟩ := cells4 ((hb3'.block _ (lt_of_block HY2.out)).trans HY2.out)
  have hres := At.new w3 t A3 n c3 r3
  obtain ⟨y0, y1, y2, y3⟩ := hres.cells
  have HRES := Lib.hid hres
  have HR2' := Lib.hid (HR2.out.below hb3')
  have HL := Lib.hid (show t.bal.length = n by simpa using r3.1)
  have HRL := Lib.hid ((HR.out.below HB2.out).below hb3')
  have HRT := Lib.hid hres.row
  clear b3 hb3' r3 hres q0 q1 q2 q3
  go_wp2_with fail
  generalize w3.alloc (.cells #[.int .i64 t.sc, .int .i64 t.sp, .int .i64 t.pool, .slice A3 n c3] 50) = W3 at *
  go_loopw [8] (fun i wr => ∃ k : Nat, k ≤ n ∧ i = .int .i64 k ∧ ∃ q, wr = W3.drewN q) (fun i _ => n - (intOf i).toNat)
  case atStart => exact ⟨0, Nat.zero_le _, rfl, 0, rfl⟩
  case round =>
    obtain ⟨k, hk, rfl, q', rfl⟩ := hrel
    by_cases hlt : k < n
    · obtain ⟨b1, o1, rfl, h1, hl1⟩ := HRL.out.int_at hlt
      obtain ⟨b2, o2, rfl, h2, hl2⟩ := HR2'.out.int_at hlt
      obtain ⟨b3, o3, rfl, h3, hl3⟩ := HRT.out.int_at hlt
      by_cases hki : (k : Int) + 1 = d.who % 6
      · have hki1 : ((k : Int) + 1 != d.who % 6) = false := by simpa using hki
        clear hki
        go_wp2_with fail
        go_quiet (fail)
        go_wp2_with fail
        go_roundw
        case rel => exact ⟨k + 1, by omega, by go_num, _, rfl⟩
        case measure => simp [intOf]; omega
      · have hki1 : ((k : Int) + 1 != d.who % 6) = true := by simpa using hki
        rw [HT.out k hki] at h3
        clear hki
        go_wp2_with fail
        go_quiet (fail)
        go_wp2_with fail
        go_roundw
        case rel => exact ⟨k + 1, by omega, by go_num, _, rfl⟩
        case measure => simp [intOf]; omega
    · have hs1 := ledSame_any l l A A n n c c (W3.drewN q') (HRL.out.below (below_drewN (Below.refl _ _) q')) (HRL.out.below (below_drewN (Below.refl _ _) q')) hn hn
      rw [show decide (l = l) = true from decide_eq_true rfl] at hs1
      have hs2 := fun w' hr' hr'' => ledSame_any t t A3 A3 n n c3 c3 w' hr' hr'' hn hn
      rw [show decide (t = t) = true from decide_eq_true rfl] at hs2
      have HS1 := Lib.hid hs1
      have HS2 := Lib.hid hs2
      clear hs1 hs2
      go_wp2_with fail
      refine HS1.out.mono ?_
      rintro e w4 ⟨rfl, b4⟩
      have b4' : Below W3.heap.size W3 w4 := (below_drewN (Below.refl W3.heap.size W3) q').trans (b4.mono (below_drewN (Below.refl W3.heap.size W3) q').size)
      obtain ⟨y0, y1, y2, y3⟩ := (HRES.out.below b4').cells
      have HB4 := Lib.hid (HB3.out.trans (b4'.mono HB3.out.size))
      have hrt := HRT.out.below b4'
      have HRT4 := Lib.hid hrt
      clear b4 b4' hrt
      go_wp2_with fail
      refine (HS2.out _ HRT4.out HRT4.out).mono ?_
      rintro e w5 ⟨rfl, b5⟩
      have HB5 := Lib.hid (HB4.out.trans (b5.mono HB4.out.size))
      clear b5
      go_wp2_with fail
      go_ret
      exact ⟨rfl, HB5.out⟩
end Go.Proofs.Ytkbaddopgdfafaa
