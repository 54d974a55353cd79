import Derived.Test.YtkbaddopgdfafabK15
namespace Go.Proofs.Ytkbaddopgdfafab
open Go.RowKit Go.Proofs.Besom

def exL : List (Int × Int) := [(0, 0), (1, 1), (2, 2), (2, 16), (1, 16)]
def exR : List (Int × Int) := [(0, 0), (1, 1), (1, 2), (2, 1)]
theorem ex1 : outP ⟨#[46, 97, 32, 206, 178, 10, 207, 128, 112]⟩ = exL ∧ errP ⟨#[46, 97, 32, 206, 178, 10, 207, 128, 112]⟩ = 0 := by decide +kernel
theorem ex2 : outP ⟨#[113]⟩ = [] ∧ errP ⟨#[113]⟩ = 2 := by decide +kernel
theorem ex3 : outP ⟨#[207, 129]⟩ = [] ∧ errP ⟨#[207, 129]⟩ = 2 := by decide +kernel
theorem exRound : roundL 2 1 = exR := by decide +kernel
theorem exPrint : printB exL = ⟨#[46, 97, 206, 178, 207, 128, 112]⟩ := by decide +kernel
theorem exPrint2 : printB [(3, 0)] = ⟨#[63]⟩ := by decide +kernel
theorem exK1 : knownL 2 1 exR = true := by decide +kernel
theorem exK2 : knownL 2 0 exR = false := by decide +kernel
theorem exF1 : fairL 2 1 4 exR = true := by decide +kernel
theorem exF2 : fairL 2 1 3 exR = false := by decide +kernel
theorem exF3 : fairL 2 1 3 [] = true := by decide +kernel
theorem exF4 : fairL 2 1 0 [] = false := by decide +kernel

theorem parse_ex (s : ByteArray) (l : List (Int × Int)) (er : Int) (h : outP s = l ∧ errP s = er) (hs : s.size * 16 ≤ 140737488351232) (w : World) :
    Calls Try.prog 11 #[.string s] w fun e w' => ∃ v, e = .returned (.tuple #[v, .int .i64 er]) ∧ w'.ownsRow w.heap.size 32 2 v l.length (picksV l) ∧ Below w.heap.size w w' := by
  have := parse11 s w hs
  unfold ParsePost at this
  rw [h.1, h.2] at this
  exact this
theorem round_ex (w : World) : Calls Try.prog 23 #[.int .i64 2, .int .i64 1] w fun e w' => ∃ v, e = .returned v ∧ w'.ownsRow w.heap.size 32 2 v 4 (picksV exR) ∧ Below w.heap.size w w' := by
  have := round23 2 1 w
  rw [exRound] at this
  exact this
theorem print_ex (ps : List (Int × Int)) (b : ByteArray) (h : printB ps = b) (A : Option Addr) (n c : Nat) (w : World) (hr : Row w 2 A n (picksV ps)) (hn : n * 16 ≤ 140737488351232) :
    Calls Try.prog 17 #[.slice A n c] w fun e w' => e = .returned (.string b) ∧ Below w.heap.size w w' := by
  have := print17 ps A n c w hr hn
  rwa [h] at this
theorem known_ex (n m : Int) (ps : List (Int × Int)) (b : Bool) (h : knownL n m ps = b) (A : Option Addr) (len cap : Nat) (w : World) (hr : Row w 2 A len (picksV ps)) (hn : len * 16 ≤ 140737488351232) :
    Calls Try.prog 19 #[.slice A len cap, .int .i64 n, .int .i64 m] w fun e w' => e = .returned (.bool b) ∧ Below w.heap.size w w' := by
  have := known19 n m A len cap ps w hr hn
  rwa [h] at this
theorem fair_ex (n m k : Int) (ps : List (Int × Int)) (b : Bool) (h : fairL n m k ps = b) (A : Option Addr) (len cap : Nat) (w : World) (hr : Row w 2 A len (picksV ps)) (hn : len * 16 ≤ 140737488351232) (hw : ∀ p ∈ ps, wfP p) :
    Calls Try.prog 21 #[.slice A len cap, .int .i64 n, .int .i64 m, .int .i64 k] w fun e w' => e = .returned (.bool b) ∧ Below w.heap.size w w' := by
  have := fair21 n m k A len cap ps w hr hn hw
  rwa [h] at this

theorem wfR : ∀ p ∈ exR, wfP p := by
  intro p hp
  have := roundL_wf 2 1 p
  rw [exRound] at this
  exact this hp
theorem row_none {w : World} : Row w 2 none 0 (picksV []) := ⟨rfl, fun j u h => by simp [picksV] at h⟩

set_option maxRecDepth 100000 in
set_option maxHeartbeats 3200000 in
theorem examples10 (w : World) : Calls Try.prog 10 #[] w fun e w' => e = .returned (.bool true) ∧ Below w.heap.size w w' := by
  go_enter Try.func10, Try.ntmps10
  go_wp2_with fail
  refine (parse_ex _ exL 0 ex1 (by decide) w).mono ?_
  rintro e w1 ⟨v1, rfl, o1, b1⟩
  obtain ⟨g, c, rfl, -, -⟩ := own_form o1 (by decide)
  have O1 := Lib.hid o1
  have B1 := Lib.hid b1
  clear o1 b1
  go_wp2_with fail
  refine (parse_ex _ [] 2 ex2 (by decide) w1).mono ?_
  rintro e w2 ⟨v2, rfl, o2, b2⟩
  have O2 := Lib.hid (own_below O1.out b2)
  have B2 := Lib.hid (B1.out.trans (b2.mono B1.out.size))
  clear o2 b2 O1 B1
  go_wp2_with fail
  refine (parse_ex _ [] 2 ex3 (by decide) w2).mono ?_
  rintro e w3 ⟨v3, rfl, o3, b3⟩
  have O3 := Lib.hid (own_below O2.out b3)
  have B3 := Lib.hid (B2.out.trans (b3.mono B2.out.size))
  clear o3 b3 O2 B2
  go_wp2_with fail
  refine (round_ex w3).mono ?_
  rintro e w4 ⟨v4, rfl, o4, b4⟩
  have O4 := Lib.hid (own_below O3.out b4)
  have B4 := Lib.hid (B3.out.trans (b4.mono B3.out.size))
  obtain ⟨gr, cr, rfl, -, -⟩ := own_form o4 (by decide)
  have R4 := Lib.hid o4
  have hA := fun j hj => O4.out.cellAt j hj
  have a0 := hA 0 (by decide)
  have a1 := hA 1 (by decide)
  have a2 := hA 2 (by decide)
  have a3 := hA 3 (by decide)
  have a4 := hA 4 (by decide)
  have a5 := hA 5 (by decide)
  have a7 := hA 7 (by decide)
  have a9 := hA 9 (by decide)
  simp [picksV, exL] at a0 a1 a2 a3 a4 a5 a7 a9
  clear hA o4 b4 O3 B3
  go_wp2_with fail
  refine (print_ex exL _ exPrint _ _ _ w4 (Row.of_own O4.out) (by decide)).mono ?_
  rintro e w5 ⟨rfl, b5⟩
  have B5 := Lib.hid (B4.out.trans (b5.mono B4.out.size))
  have R5 := Lib.hid (own_below R4.out b5)
  have L5 := Lib.hid (row_lit w5 #[.int .i64 3, .int .i64 0] 32 2 1 rfl rfl)
  have B6 := Lib.hid (B5.out.alloc B5.out.size (.cells #[.int .i64 3, .int .i64 0] 32))
  have R6 := Lib.hid (R5.out.alloc (.cells #[.int .i64 3, .int .i64 0] 32))
  clear b5 a0 a1 a2 a3 a4 a5 a7 a9
  go_wp2_with fail
  refine (print_ex [(3, 0)] _ exPrint2 _ _ _ _ L5.out (by decide)).mono ?_
  rintro e w7 ⟨rfl, b7⟩
  have B7 := Lib.hid (B6.out.trans (b7.mono B6.out.size))
  have R7 := Lib.hid (own_below R6.out b7)
  have r6 := R7.out.cellAt 6 (by decide)
  have r7 := R7.out.cellAt 7 (by decide)
  simp [picksV, exR] at r6 r7
  clear b7
  go_wp2_with fail
  refine (known_ex 2 1 exR _ exK1 _ _ _ w7 (Row.of_own R7.out) (by decide)).mono ?_
  rintro e w8 ⟨rfl, b8⟩
  have B8 := Lib.hid (B7.out.trans (b8.mono B7.out.size))
  have R8 := Lib.hid (own_below R7.out b8)
  clear b8 r6 r7
  go_wp2_with fail
  refine (known_ex 2 0 exR _ exK2 _ _ _ w8 (Row.of_own R8.out) (by decide)).mono ?_
  rintro e w9 ⟨rfl, b9⟩
  have B9 := Lib.hid (B8.out.trans (b9.mono B8.out.size))
  have R9 := Lib.hid (own_below R8.out b9)
  clear b9
  go_wp2_with fail
  refine (fair_ex 2 1 4 exR _ exF1 _ _ _ w9 (Row.of_own R9.out) (by decide) wfR).mono ?_
  rintro e wa ⟨rfl, ba⟩
  have Ba := Lib.hid (B9.out.trans (ba.mono B9.out.size))
  have Ra := Lib.hid (own_below R9.out ba)
  clear ba
  go_wp2_with fail
  refine (fair_ex 2 1 3 exR _ exF2 _ _ _ wa (Row.of_own Ra.out) (by decide) wfR).mono ?_
  rintro e wb ⟨rfl, bb⟩
  have Bb := Lib.hid (Ba.out.trans (bb.mono Ba.out.size))
  have Rb := Lib.hid (own_below Ra.out bb)
  clear bb
  go_wp2_with fail
  refine (fair_ex 2 1 3 [] _ exF3 none 0 0 wb row_none (by decide) (by simp)).mono ?_
  rintro e wc ⟨rfl, bc⟩
  have Bc := Lib.hid (Bb.out.trans (bc.mono Bb.out.size))
  have Rc := Lib.hid (own_below Rb.out bc)
  clear bc
  go_wp2_with fail
  refine (fair_ex 2 1 0 [] _ exF4 none 0 0 wc row_none (by decide) (by simp)).mono ?_
  rintro e wd ⟨rfl, bd⟩
  have Bd := Lib.hid (Bc.out.trans (bd.mono Bc.out.size))
  have Rd := Lib.hid (own_below Rc.out bd)
  have r0 := Rd.out.cellAt 0 (by decide)
  have r1 := Rd.out.cellAt 1 (by decide)
  simp [picksV, exR] at r0 r1
  clear bd
  go_wp2_with fail
  refine (right13 (0, 0) wd).mono ?_
  rintro e we ⟨rfl, be⟩
  have Be := Lib.hid (Bd.out.trans (be.mono Bd.out.size))
  go_wp2_with fail
  go_ret
  exact ⟨rfl, Be.out⟩
end Go.Proofs.Ytkbaddopgdfafab
