import Derived.Test.YtkbaddopgdfafabK8
namespace Go.Proofs.Ytkbaddopgdfafab
open Go.RowKit Go.Proofs.Besom

def AnyPost (w : World) (f : Int × Int → Bool) (ps : List (Int × Int)) (e : Ending) (w' : World) : Prop := e = .returned (.bool (ps.any f)) ∧ Below w.heap.size w w'

set_option maxHeartbeats 1600000 in
theorem contains30_known (n m : Int) (c b : Nat) (A : Option Addr) (len cap : Nat) (ps : List (Int × Int)) (w : World) (hr : Row w 2 A len (picksV ps)) (hn : len * 16 ≤ 140737488351232)
    (hc : w.heap[c]? = some (.cells #[.map (some b)] 60 (0, 0))) (hb : w.heap[b]? = some (mostM n m)) :
    Calls Try.prog 30 #[.slice A len cap, fnV 31 c] w (AnyPost w (strangeP n m) ps) := by
  have HK := Lib.hid (index34_known n m c b A len cap ps w hr hn hc hb)
  clear hr hc hb
  go_enter Try.func30, Try.ntmps30
  go_wp2_with fail
  refine HK.out.mono ?_
  rintro e w1 ⟨r, rfl, h, b1⟩
  have H := Lib.hid h
  clear h
  go_wp2_with fail
  go_ret
  exact ⟨ret_bool H.out, b1⟩

def knownL (n m : Int) (ps : List (Int × Int)) : Bool := !ps.any (strangeP n m)

set_option maxRecDepth 100000 in
set_option maxHeartbeats 1600000 in
theorem known19 (n m : Int) (A : Option Addr) (len cap : Nat) (ps : List (Int × Int)) (w : World) (hr : Row w 2 A len (picksV ps)) (hn : len * 16 ≤ 140737488351232) :
    Calls Try.prog 19 #[.slice A len cap, .int .i64 n, .int .i64 m] w fun e w' => e = .returned (.bool (knownL n m ps)) ∧ Below w.heap.size w w' := by
  have hmf : ∀ (fn : Fn) (first cap : Array Value) (w : World), (Instr.makeFunc fn first cap).run Try.prog w = .ok (.func fn first cap) w := fun _ _ _ _ => rfl
  have hmm := @run_makeMap Try.prog
  have i1 := run_insert_alloc (P := Try.prog) (w := w) (r := w.heap.size) (es := #[]) (c := 0) (q := .int .i64 1) (x := .int .i64 n) Try.underlying60 Try.underlying3 rfl rfl rfl
  have i2 := run_insert_alloc (P := Try.prog) (w := w) (r := w.heap.size) (es := #[ent 1 n 0]) (c := 1) (q := .int .i64 2) (x := .int .i64 m) Try.underlying60 Try.underlying3 rfl rfl rfl
  simp only [List.push_toArray, List.nil_append, List.cons_append] at i1 i2
  have hb1 := (Below.refl w.heap.size w).alloc (Nat.le_refl _) (mostM n m)
  have hb2 := hb1.alloc hb1.size (.cells #[.map (some w.heap.size)] 60)
  have HB := Lib.hid hb2
  have HR := Lib.hid (hr.below hb2)
  have HC := Lib.hid (show ((w.alloc (mostM n m)).alloc (.cells #[.map (some w.heap.size)] 60)).heap[w.heap.size + 1]? = some (.cells #[.map (some w.heap.size)] 60 (0, 0)) from heap_alloc_at (by simp))
  have HM := Lib.hid (show ((w.alloc (mostM n m)).alloc (.cells #[.map (some w.heap.size)] 60)).heap[w.heap.size]? = some (mostM n m) from (Below.heap_alloc _ _ _ (by simp)).trans (heap_alloc_at rfl))
  clear hb1 hb2 hr
  go_enter Try.func19, Try.ntmps19
  go_wp2_with fail
  refine (contains30_known n m (w.heap.size + 1) w.heap.size A len cap ps _ HR.out hn HC.out HM.out).mono ?_
  rintro e w1 ⟨rfl, b1⟩
  have HB1 := Lib.hid (HB.out.trans (b1.mono HB.out.size))
  go_wp2_with fail
  go_ret
  exact ⟨rfl, HB1.out⟩
end Go.Proofs.Ytkbaddopgdfafab
