import Derived.Test.YtkbaddopgdfafaaG1
namespace Go.Proofs.Ytkbaddopgdfafaa
open Go.RowKit Go.Proofs.Besom

def pricedB (n : Nat) (who price limit : Int) : Bool := thereB who n && decide (0 ≤ price ∧ price ≤ 1000000 ∧ 0 ≤ limit ∧ limit ≤ 1000000)

theorem ledBox (l : Led) (A : Option Addr) (n c : Nat) (w : World) : Below w.heap.size w (w.alloc (.cells #[.int .i64 l.sc, .int .i64 l.sp, .int .i64 l.pool, .slice A n c] 50)) := (Below.refl _ _).alloc (Nat.le_refl _) _

set_option maxRecDepth 100000 in
set_option maxHeartbeats 400000 in
theorem priced_any (l : Led) (A : Option Addr) (n c : Nat) (who price limit : Int) (w : World) :
    Calls Try.prog 56 #[ledV l A n c, .int .i64 who, .int .i64 price, .int .i64 limit] w fun e w' => e = .returned (.bool (pricedB n who price limit)) ∧ Below w.heap.size w w' := by
  have HB := Lib.hid (ledBox l A n c w)
  cases ht : thereB who n
  · have HT := Lib.hid (show false = pricedB n who price limit by simp [pricedB, ht])
    have hc := fun w' => there_any l A n c who w'
    rw [ht] at hc
    have HC := Lib.hid hc
    clear hc ht
    go_enter Try.func56, Try.ntmps56
    go_wp2_with fail
    refine (HC.out _).mono ?_
    rintro e w1 ⟨rfl, b1⟩
    go_wp2_with fail
    go_ret
    exact ⟨ret_bool HT.out, HB.out.trans (b1.mono HB.out.size)⟩
  · have hc := fun w' => there_any l A n c who w'
    rw [ht] at hc
    have HC := Lib.hid hc
    have HT := Lib.hid ht
    clear hc ht
    go_enter Try.func56, Try.ntmps56
    go_wp2_with fail
    refine (HC.out _).mono ?_
    rintro e w1 ⟨rfl, b1⟩
    go_wp2_with fail
    all_goals
      go_ret
      refine ⟨ret_bool ?_, HB.out.trans (b1.mono HB.out.size)⟩
      unfold pricedB
      rw [HT.out, Bool.eq_iff_iff]
      simp
      try omega
def mayB (l : Led) (who price limit : Int) : Bool := pricedB l.bal.length who price limit && decide (wrap64 (-limit) ≤ wrap64 (l.bal.getD (who - 1).toNat 0 - price))

set_option maxRecDepth 100000 in
set_option maxHeartbeats 400000 in
theorem may_any (l : Led) (A : Option Addr) (n c : Nat) (who price limit : Int) (w : World) (hr : Row w 1 A n (l.bal.map (.int .i64))) (hn : n * 8 ≤ 140737488351232) :
    Calls Try.prog 35 #[ledV l A n c, .int .i64 who, .int .i64 price, .int .i64 limit] w fun e w' => e = .returned (.bool (mayB l who price limit)) ∧ Below w.heap.size w w' := by
  have HB := Lib.hid (ledBox l A n c w)
  have hll : l.bal.length = n := by simpa using hr.1
  have HR := Lib.hid hr
  have hc := fun w' => priced_any l A n c who price limit w'
  cases hp : pricedB n who price limit
  · have HT := Lib.hid (show false = mayB l who price limit by simp [mayB, hll, hp])
    rw [hp] at hc
    have HC := Lib.hid hc
    clear hc hp hr hll
    go_enter Try.func35, Try.ntmps35
    go_wp2_with fail
    refine (HC.out _).mono ?_
    rintro e w1 ⟨rfl, b1⟩
    go_wp2_with fail
    go_ret
    exact ⟨ret_bool HT.out, HB.out.trans (b1.mono HB.out.size)⟩
  · rw [hp] at hc
    have HC := Lib.hid hc
    have hp' := hp
    simp only [pricedB, Bool.and_eq_true, decide_eq_true_eq] at hp'
    obtain ⟨ht, hp0, hp1, hl0, hl1⟩ := hp'
    obtain ⟨hw1, hw2⟩ := there_yes ht
    obtain ⟨k, hk⟩ : ∃ k : Nat, who = (k : Int) + 1 := ⟨(who - 1).toNat, by omega⟩
    subst hk
    have hkn : k < n := by omega
    obtain ⟨b, o, rfl, hcell, hkl⟩ := hr.int_at hkn
    have HT := Lib.hid (show mayB l ((k : Int) + 1) price limit = decide (wrap64 (-limit) ≤ wrap64 (l.bal[k] - price)) by
      have e1 : ((k : Int) + 1 - 1).toNat = k := by omega
      simp only [mayB, hll, hp, e1, List.getD_eq_getElem?_getD, List.getElem?_eq_getElem hkl]
      rfl)
    have hbb := World.block_lt_of_cell? w _ hcell
    clear hc hp hr ht hll
    go_enter Try.func35, Try.ntmps35
    go_wp2_with fail
    refine (HC.out _).mono ?_
    rintro e w1 ⟨rfl, b1⟩
    have hb1 := HB.out.trans (b1.mono HB.out.size)
    have hc1 : w1.cell? ⟨b, o + k, none⟩ = some (.int .i64 (l.bal.getD k 0)) := (hb1.cell hbb).trans hcell
    obtain ⟨q0, q1, q2, q3⟩ := cells4 ((b1.block w.heap.size (by simp)).trans (heap_alloc_at rfl))
    have HB1 := Lib.hid hb1
    clear b1 hb1
    go_wp2_with fail
    go_ret
    refine ⟨ret_bool ?_, HB1.out⟩
    rw [HT.out]
    rw [IntWalk.wrap64_in (-limit) ⟨by omega, by omega⟩]
end Go.Proofs.Ytkbaddopgdfafaa
