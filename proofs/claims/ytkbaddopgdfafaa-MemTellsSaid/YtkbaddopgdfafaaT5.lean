import Derived.Test.YtkbaddopgdfafaaT3
import Derived.Test.YtkbaddopgdfafaaB2
namespace Go.Proofs.Ytkbaddopgdfafaa
open Go.RowKit Go.Proofs.Besom

abbrev opBlk (k at_ a b : Int) : Obj := .cells #[.int .i64 k, .int .i64 at_, .int .u64 a, .int .u64 b] 26
abbrev fn (f : Nat) (cap : Array Value) : Value := .func (.func f) #[] cap
abbrev ent (k : Int) (v : Value) (born : Nat) : MapEntry := { key := .int .i64 k, val := v, born := born }

theorem doMap (w1 : World) (r : Nat) (hr : r = w1.heap.size) (p : Value) :
    (Instr.mapUpdate 85 (.map (some r)) (.int .i64 1) (fn 43 #[])).run Try.prog (w1.alloc (.map #[] 0)) = .ok () (w1.alloc (.map #[ent 1 (fn 43 #[]) 0] 1)) ∧
    (Instr.mapUpdate 85 (.map (some r)) (.int .i64 2) (fn 44 #[p])).run Try.prog (w1.alloc (.map #[ent 1 (fn 43 #[]) 0] 1)) = .ok () (w1.alloc (.map #[ent 1 (fn 43 #[]) 0, ent 2 (fn 44 #[p]) 1] 2)) ∧
    (Instr.mapUpdate 85 (.map (some r)) (.int .i64 3) (fn 45 #[p])).run Try.prog (w1.alloc (.map #[ent 1 (fn 43 #[]) 0, ent 2 (fn 44 #[p]) 1] 2)) = .ok () (w1.alloc (.map #[ent 1 (fn 43 #[]) 0, ent 2 (fn 44 #[p]) 1, ent 3 (fn 45 #[p]) 2] 3)) ∧
    (Instr.mapUpdate 85 (.map (some r)) (.int .i64 4) (fn 46 #[p])).run Try.prog (w1.alloc (.map #[ent 1 (fn 43 #[]) 0, ent 2 (fn 44 #[p]) 1, ent 3 (fn 45 #[p]) 2] 3)) = .ok () (w1.alloc (.map #[ent 1 (fn 43 #[]) 0, ent 2 (fn 44 #[p]) 1, ent 3 (fn 45 #[p]) 2, ent 4 (fn 46 #[p]) 3] 4)) :=
  ⟨run_insert_alloc Try.underlying85 Try.underlying3 rfl hr rfl, run_insert_alloc Try.underlying85 Try.underlying3 rfl hr rfl, run_insert_alloc Try.underlying85 Try.underlying3 rfl hr rfl, run_insert_alloc Try.underlying85 Try.underlying3 rfl hr rfl⟩


/-- What a deed comes to. -/
def memNext (v k a b : Int) : Int × Bool := if k = 1 then (v, true) else if k = 2 then (a, true) else if k = 3 then (b, v == a) else (IntKind.u64.wrap (v + a), true)
def memDo (l : List Int) (k at_ a b : Int) : List Int × Int × Bool :=
  if 0 ≤ at_ ∧ at_ < l.length ∧ 1 ≤ k ∧ k ≤ 4 then
    (if (memNext (l.getD at_.toNat 0) k a b).2 then l.set at_.toNat (memNext (l.getD at_.toNat 0) k a b).1 else l, l.getD at_.toNat 0, (memNext (l.getD at_.toNat 0) k a b).2)
  else (l, 0, false)

theorem set_same {l : List Int} {k : Nat} (hk : k < l.length) : l.set k (l[k]) = l := by
  apply List.ext_getElem (by simp)
  intro i h1 h2
  rw [List.getElem_set]
  split
  · rename_i h; subst h; rfl
  · rfl

/-- The post of a deed. -/
def DoPost (w : World) (A0 : Option Addr) (n : Nat) (r : List Int × Int × Bool) (e : Ending) (w' : World) : Prop :=
  ∃ A c, e = .returned (.tuple #[.slice A n c, .int .u64 r.2.1, .bool r.2.2]) ∧ Row w' 1 A n (r.1.map (.int .u64)) ∧ Below w.heap.size w w' ∧ (A = A0 ∨ ∃ g, A = some ⟨g, 0, none⟩ ∧ w.heap.size ≤ g)

theorem memDo_in {l : List Int} {k : Int} {i : Nat} {a b : Int} (hi : i < l.length) (h1 : 1 ≤ k) (h4 : k ≤ 4) :
    memDo l k (i : Int) a b = (if (memNext l[i] k a b).2 then l.set i (memNext l[i] k a b).1 else l, l[i], (memNext l[i] k a b).2) := by
  unfold memDo
  rw [if_pos ⟨by omega, by omega, h1, h4⟩]
  simp [hi]

theorem post_same {w w' : World} {n c i : Nat} {A : Option Addr} {xs : List Int} {k a b x : Int} {r : Bool} (hr : Row w 1 A n (xs.map (.int .u64))) (hi : i < xs.length) (h1 : 1 ≤ k) (h4 : k ≤ 4) (hn : memNext xs[i] k a b = (x, r)) (hx : r = true → xs[i] = x) (hb : Below w.heap.size w w') :
    DoPost w A n (memDo xs k (i : Int) a b) (.returned (.tuple #[.slice A n c, .int .u64 xs[i], .bool r])) w' := by
  have e : memDo xs k (i : Int) a b = (xs, xs[i], r) := by
    rw [memDo_in hi h1 h4, hn]
    cases r
    · simp
    · have := hx rfl
      subst this
      simp
  rw [e]
  exact ⟨A, c, rfl, hr.below hb, hb, .inl rfl⟩

theorem map_set_int (kd : IntKind) (l : List Int) (i : Nat) (x : Int) : (l.map (Value.int kd)).set i (.int kd x) = (l.set i x).map (.int kd) := by
  rw [List.map_set]

theorem post_set {A : Option Addr} {w w1 : World} {n i g cap : Nat} {xs : List Int} {k a b x : Int} (hown : w1.ownsRow w.heap.size 24 1 (.slice (some ⟨g, 0, none⟩) n cap) n (xs.map (.int .u64))) (hi : i < xs.length) (h1 : 1 ≤ k) (h4 : k ≤ 4) (hn : memNext xs[i] k a b = (x, true)) (hb : Below w.heap.size w w1) :
    DoPost w A n (memDo xs k (i : Int) a b) (.returned (.tuple #[.slice (some ⟨g, 0, none⟩) n cap, .int .u64 xs[i], .bool true])) (w1.setCell ⟨g, i, none⟩ (.int .u64 x)) := by
  have e : memDo xs k (i : Int) a b = (xs.set i x, xs[i], true) := by
    rw [memDo_in hi h1 h4, hn]
    rfl
  rw [e]
  have h := hown.stored i (.int .u64 x)
  rw [map_set_int] at h
  exact ⟨some ⟨g, 0, none⟩, cap, rfl, Row.of_own h.1, hb.setCell ((hown.lt g rfl).1) _, .inr ⟨g, rfl, (hown.lt g rfl).1⟩⟩


set_option maxRecDepth 100000 in
set_option maxHeartbeats 400000 in
theorem do_1 (A : Option Addr) (n c : Nat) (k : Nat) (a b : Int) (xs : List Int) (w : World) (hr : Row w 1 A n (xs.map (.int .u64))) (_hn : n * 8 ≤ 140737488351232) (hk : k < n) :
    Calls Try.prog 16 #[.slice A n c, .agg #[.int .i64 1, .int .i64 k, .int .u64 a, .int .u64 b]] w (DoPost w A n (memDo xs 1 (k : Int) a b)) := by
  have hmf : ∀ (fn : Fn) (first cap : Array Value) (w : World), (Instr.makeFunc fn first cap).run Try.prog w = .ok (.func fn first cap) w := fun _ _ _ _ => rfl
  have hmm := @run_makeMap Try.prog
  obtain ⟨b1, o1, rfl, hc1, hl⟩ := hr.int_at hk
  obtain ⟨i1, i2, i3, i4⟩ := doMap (w.alloc (opBlk 1 k a b)) (w.heap.size + 1) (by simp) (.pointer (some ⟨w.heap.size, 0, none⟩))
  have hl2 := run_lookup_map Try.underlying85 Try.underlying3 (q := .int .i64 1) rfl (heap_alloc_at (w := w.alloc (opBlk 1 k a b)) (o := .map #[ent 1 (fn 43 #[]) 0, ent 2 (fn 44 #[.pointer (some ⟨w.heap.size, 0, none⟩)]) 1, ent 3 (fn 45 #[.pointer (some ⟨w.heap.size, 0, none⟩)]) 2, ent 4 (fn 46 #[.pointer (some ⟨w.heap.size, 0, none⟩)]) 3] 4) (r := w.heap.size + 1) (by simp)) (i := 0) (v := fn 43 #[]) rfl
  have hq := fun (w : World) (f : Fn) (x y : Array Value) => run_eql_func_nil (P := Try.prog) w (t := 84) f x y Try.underlying84
  have hb1 := World.block_lt_of_cell? w _ hc1
  have hc2 : ∀ es c, ((w.alloc (opBlk 1 k a b)).alloc (.map es c)).cell? ⟨b1, o1 + k, none⟩ = some (.int .u64 (xs.getD k 0)) := fun es c => by
    rw [World.cell?_alloc_past _ _ _ (by simp; exact Nat.lt_succ_of_lt hb1), World.cell?_alloc_past _ _ _ hb1]; exact hc1
  have hB : ∀ es c, Below w.heap.size w ((w.alloc (opBlk 1 k a b)).alloc (.map es c)) := fun es c => ((Below.refl _ _).alloc (Nat.le_refl _) _).alloc (by simp) _
  have HB := Lib.hid hB
  have HR := Lib.hid hr
  clear hB hr
  have hx1 : ∀ u ∈ xs.map (Value.int .u64), u.oneCell' = true := ints_oneCell .u64 xs
  have HX := Lib.hid hx1
  clear hx1
  go_enter Try.func16, Try.ntmps16
  go_wp2_with fail
  refine (do1 _ _).mono ?_
  rintro e w' ⟨rfl, rfl⟩
  go_wp2_with fail
  go_ret3
  exact post_same HR.out hl (by decide) (by decide) rfl (fun _ => rfl) (HB.out _ _)

set_option maxRecDepth 100000 in
set_option maxHeartbeats 400000 in
theorem do_2 (A : Option Addr) (n c : Nat) (k : Nat) (a b : Int) (xs : List Int) (w : World) (hr : Row w 1 A n (xs.map (.int .u64))) (hn : n * 8 ≤ 140737488351232) (hk : k < n) :
    Calls Try.prog 16 #[.slice A n c, .agg #[.int .i64 2, .int .i64 k, .int .u64 a, .int .u64 b]] w (DoPost w A n (memDo xs 2 (k : Int) a b)) := by
  have hmf : ∀ (fn : Fn) (first cap : Array Value) (w : World), (Instr.makeFunc fn first cap).run Try.prog w = .ok (.func fn first cap) w := fun _ _ _ _ => rfl
  have hmm := @run_makeMap Try.prog
  obtain ⟨b1, o1, rfl, hc1, hl⟩ := hr.int_at hk
  obtain ⟨i1, i2, i3, i4⟩ := doMap (w.alloc (opBlk 2 k a b)) (w.heap.size + 1) (by simp) (.pointer (some ⟨w.heap.size, 0, none⟩))
  have hl2 := run_lookup_map Try.underlying85 Try.underlying3 (q := .int .i64 2) rfl (heap_alloc_at (w := w.alloc (opBlk 2 k a b)) (o := .map #[ent 1 (fn 43 #[]) 0, ent 2 (fn 44 #[.pointer (some ⟨w.heap.size, 0, none⟩)]) 1, ent 3 (fn 45 #[.pointer (some ⟨w.heap.size, 0, none⟩)]) 2, ent 4 (fn 46 #[.pointer (some ⟨w.heap.size, 0, none⟩)]) 3] 4) (r := w.heap.size + 1) (by simp)) (i := 1) (v := fn 44 #[.pointer (some ⟨w.heap.size, 0, none⟩)]) rfl
  have hq := fun (w : World) (f : Fn) (x y : Array Value) => run_eql_func_nil (P := Try.prog) w (t := 84) f x y Try.underlying84
  have hb1 := World.block_lt_of_cell? w _ hc1
  have hc2 : ∀ es c, ((w.alloc (opBlk 2 k a b)).alloc (.map es c)).cell? ⟨b1, o1 + k, none⟩ = some (.int .u64 (xs.getD k 0)) := fun es c => by
    rw [World.cell?_alloc_past _ _ _ (by simp; exact Nat.lt_succ_of_lt hb1), World.cell?_alloc_past _ _ _ hb1]; exact hc1
  have hB : ∀ es c, Below w.heap.size w ((w.alloc (opBlk 2 k a b)).alloc (.map es c)) := fun es c => ((Below.refl _ _).alloc (Nat.le_refl _) _).alloc (by simp) _
  have HB := Lib.hid hB
  have HR := Lib.hid hr
  clear hB hr
  have hx1 : ∀ u ∈ xs.map (Value.int .u64), u.oneCell' = true := ints_oneCell .u64 xs
  have HX := Lib.hid hx1
  clear hx1
  by_cases hvx : xs[k] = a
  · have hvx1 : (xs[k] != a) = false := by simpa using hvx
    have HV := Lib.hid hvx
    clear hvx
    go_enter Try.func16, Try.ntmps16
    go_wp2_with fail
    refine (do2 _ a w.heap.size _ (by simp [World.cell?_alloc_past, World.cell?_alloc_at])).mono ?_
    rintro e w' ⟨rfl, rfl⟩
    go_wp2_with fail
    go_ret3
    exact post_same HR.out hl (by decide) (by decide) rfl (fun _ => HV.out) (HB.out _ _)
  · have hvx1 : (xs[k] != a) = true := by simpa using hvx
    clear hvx
    go_enter Try.func16, Try.ntmps16
    go_wp2_with fail
    refine (do2 _ a w.heap.size _ (by simp [World.cell?_alloc_past, World.cell?_alloc_at])).mono ?_
    rintro e w' ⟨rfl, rfl⟩
    go_wp2_with fail
    refine (clone_any _ _ _ _ _ (HR.out.below (HB.out _ _)) hn HX.out).mono ?_
    rintro e w1 ⟨v1, rfl, hown, hb2⟩
    obtain ⟨g, cap, rfl, hg⟩ := own_form hown (by omega)
    have hbb := (HB.out _ _).trans (hb2.mono (by simp; omega))
    have hc3 : w1.cell? ⟨g, k, none⟩ = some (.int .u64 xs[k]) := by
      rw [hown.cellAt k (by omega)]; simp [List.getElem?_eq_getElem hl]
    have hf3 := hown.frozenAt k
    have hc4 : w1.cell? ⟨w.heap.size, 1, none⟩ = some (.int .i64 k) := by
      rw [hb2.cell (by simp; omega)]; simp [World.cell?_alloc_past, World.cell?_alloc_at]
    go_wp2_with fail
    go_ret3
    exact post_set (hown.mono_base (by simp; omega)) hl (by decide) (by decide) rfl hbb

set_option maxRecDepth 100000 in
set_option maxHeartbeats 400000 in
theorem do_3 (A : Option Addr) (n c : Nat) (k : Nat) (a b : Int) (xs : List Int) (w : World) (hr : Row w 1 A n (xs.map (.int .u64))) (hn : n * 8 ≤ 140737488351232) (hk : k < n) :
    Calls Try.prog 16 #[.slice A n c, .agg #[.int .i64 3, .int .i64 k, .int .u64 a, .int .u64 b]] w (DoPost w A n (memDo xs 3 (k : Int) a b)) := by
  have hmf : ∀ (fn : Fn) (first cap : Array Value) (w : World), (Instr.makeFunc fn first cap).run Try.prog w = .ok (.func fn first cap) w := fun _ _ _ _ => rfl
  have hmm := @run_makeMap Try.prog
  obtain ⟨b1, o1, rfl, hc1, hl⟩ := hr.int_at hk
  obtain ⟨i1, i2, i3, i4⟩ := doMap (w.alloc (opBlk 3 k a b)) (w.heap.size + 1) (by simp) (.pointer (some ⟨w.heap.size, 0, none⟩))
  have hl2 := run_lookup_map Try.underlying85 Try.underlying3 (q := .int .i64 3) rfl (heap_alloc_at (w := w.alloc (opBlk 3 k a b)) (o := .map #[ent 1 (fn 43 #[]) 0, ent 2 (fn 44 #[.pointer (some ⟨w.heap.size, 0, none⟩)]) 1, ent 3 (fn 45 #[.pointer (some ⟨w.heap.size, 0, none⟩)]) 2, ent 4 (fn 46 #[.pointer (some ⟨w.heap.size, 0, none⟩)]) 3] 4) (r := w.heap.size + 1) (by simp)) (i := 2) (v := fn 45 #[.pointer (some ⟨w.heap.size, 0, none⟩)]) rfl
  have hq := fun (w : World) (f : Fn) (x y : Array Value) => run_eql_func_nil (P := Try.prog) w (t := 84) f x y Try.underlying84
  have hb1 := World.block_lt_of_cell? w _ hc1
  have hc2 : ∀ es c, ((w.alloc (opBlk 3 k a b)).alloc (.map es c)).cell? ⟨b1, o1 + k, none⟩ = some (.int .u64 (xs.getD k 0)) := fun es c => by
    rw [World.cell?_alloc_past _ _ _ (by simp; exact Nat.lt_succ_of_lt hb1), World.cell?_alloc_past _ _ _ hb1]; exact hc1
  have hB : ∀ es c, Below w.heap.size w ((w.alloc (opBlk 3 k a b)).alloc (.map es c)) := fun es c => ((Below.refl _ _).alloc (Nat.le_refl _) _).alloc (by simp) _
  have HB := Lib.hid hB
  have HR := Lib.hid hr
  clear hB hr
  have hx1 : ∀ u ∈ xs.map (Value.int .u64), u.oneCell' = true := ints_oneCell .u64 xs
  have HX := Lib.hid hx1
  clear hx1
  by_cases hva : xs[k] = a
  · have hva1 : (xs[k] == a) = true := by simpa using hva
    have hnx : memNext xs[k] 3 a b = (b, true) := by simp [memNext, hva]
    have HN := Lib.hid hnx
    clear hva hnx
    by_cases hvx : xs[k] = b
    · have hvx1 : (xs[k] != b) = false := by simpa using hvx
      have HV := Lib.hid hvx
      clear hvx
      go_enter Try.func16, Try.ntmps16
      go_wp2_with fail
      refine (do3 _ a b w.heap.size _ (by simp [World.cell?_alloc_past, World.cell?_alloc_at]) (by simp [World.cell?_alloc_past, World.cell?_alloc_at])).mono ?_
      rintro e w' ⟨rfl, q, rfl⟩
      go_wp2_with fail
      go_ret3
      exact post_same HR.out hl (by decide) (by decide) HN.out (fun _ => HV.out) (below_drewN (HB.out _ _) _)
    · have hvx1 : (xs[k] != b) = true := by simpa using hvx
      clear hvx
      go_enter Try.func16, Try.ntmps16
      go_wp2_with fail
      refine (do3 _ a b w.heap.size _ (by simp [World.cell?_alloc_past, World.cell?_alloc_at]) (by simp [World.cell?_alloc_past, World.cell?_alloc_at])).mono ?_
      rintro e w' ⟨rfl, q, rfl⟩
      go_wp2_with fail
      refine (clone_any _ _ _ _ _ (HR.out.below (below_drewN (HB.out _ _) _)) hn HX.out).mono ?_
      rintro e w1 ⟨v1, rfl, hown, hb2⟩
      obtain ⟨g, cap, rfl, hg⟩ := own_form hown (by omega)
      have hbb := (below_drewN (HB.out _ _) _).trans (hb2.mono (by simp; omega))
      have hc3 : w1.cell? ⟨g, k, none⟩ = some (.int .u64 xs[k]) := by
        rw [hown.cellAt k (by omega)]; simp [List.getElem?_eq_getElem hl]
      have hf3 := hown.frozenAt k
      have hc4 : w1.cell? ⟨w.heap.size, 1, none⟩ = some (.int .i64 k) := by
        rw [hb2.cell (by simp; omega)]; simp [World.cell?_alloc_past, World.cell?_alloc_at]
      go_wp2_with fail
      go_ret3
      exact post_set (hown.mono_base (by simp; omega)) hl (by decide) (by decide) HN.out hbb
  · have hva1 : (xs[k] == a) = false := by simpa using hva
    have hnx : memNext xs[k] 3 a b = (b, false) := by simp [memNext, hva]
    have HN := Lib.hid hnx
    clear hva hnx
    go_enter Try.func16, Try.ntmps16
    go_wp2_with fail
    refine (do3 _ a b w.heap.size _ (by simp [World.cell?_alloc_past, World.cell?_alloc_at]) (by simp [World.cell?_alloc_past, World.cell?_alloc_at])).mono ?_
    rintro e w' ⟨rfl, q, rfl⟩
    go_wp2_with fail
    go_ret3
    exact post_same HR.out hl (by decide) (by decide) HN.out (fun h => by cases h) (below_drewN (HB.out _ _) _)

set_option maxRecDepth 100000 in
set_option maxHeartbeats 400000 in
theorem do_4 (A : Option Addr) (n c : Nat) (k : Nat) (a b : Int) (xs : List Int) (w : World) (hr : Row w 1 A n (xs.map (.int .u64))) (hn : n * 8 ≤ 140737488351232) (hk : k < n) :
    Calls Try.prog 16 #[.slice A n c, .agg #[.int .i64 4, .int .i64 k, .int .u64 a, .int .u64 b]] w (DoPost w A n (memDo xs 4 (k : Int) a b)) := by
  have hmf : ∀ (fn : Fn) (first cap : Array Value) (w : World), (Instr.makeFunc fn first cap).run Try.prog w = .ok (.func fn first cap) w := fun _ _ _ _ => rfl
  have hmm := @run_makeMap Try.prog
  obtain ⟨b1, o1, rfl, hc1, hl⟩ := hr.int_at hk
  obtain ⟨i1, i2, i3, i4⟩ := doMap (w.alloc (opBlk 4 k a b)) (w.heap.size + 1) (by simp) (.pointer (some ⟨w.heap.size, 0, none⟩))
  have hl2 := run_lookup_map Try.underlying85 Try.underlying3 (q := .int .i64 4) rfl (heap_alloc_at (w := w.alloc (opBlk 4 k a b)) (o := .map #[ent 1 (fn 43 #[]) 0, ent 2 (fn 44 #[.pointer (some ⟨w.heap.size, 0, none⟩)]) 1, ent 3 (fn 45 #[.pointer (some ⟨w.heap.size, 0, none⟩)]) 2, ent 4 (fn 46 #[.pointer (some ⟨w.heap.size, 0, none⟩)]) 3] 4) (r := w.heap.size + 1) (by simp)) (i := 3) (v := fn 46 #[.pointer (some ⟨w.heap.size, 0, none⟩)]) rfl
  have hq := fun (w : World) (f : Fn) (x y : Array Value) => run_eql_func_nil (P := Try.prog) w (t := 84) f x y Try.underlying84
  have hb1 := World.block_lt_of_cell? w _ hc1
  have hc2 : ∀ es c, ((w.alloc (opBlk 4 k a b)).alloc (.map es c)).cell? ⟨b1, o1 + k, none⟩ = some (.int .u64 (xs.getD k 0)) := fun es c => by
    rw [World.cell?_alloc_past _ _ _ (by simp; exact Nat.lt_succ_of_lt hb1), World.cell?_alloc_past _ _ _ hb1]; exact hc1
  have hB : ∀ es c, Below w.heap.size w ((w.alloc (opBlk 4 k a b)).alloc (.map es c)) := fun es c => ((Below.refl _ _).alloc (Nat.le_refl _) _).alloc (by simp) _
  have HB := Lib.hid hB
  have HR := Lib.hid hr
  clear hB hr
  have hx1 : ∀ u ∈ xs.map (Value.int .u64), u.oneCell' = true := ints_oneCell .u64 xs
  have HX := Lib.hid hx1
  clear hx1
  by_cases hvx : xs[k] = IntKind.u64.wrap (xs[k] + a)
  · have hvx1 : (xs[k] != IntKind.u64.wrap (xs[k] + a)) = false := by simpa using hvx
    have HV := Lib.hid hvx
    clear hvx
    go_enter Try.func16, Try.ntmps16
    go_wp2_with fail
    refine (do4 _ a w.heap.size _ (by simp [World.cell?_alloc_past, World.cell?_alloc_at])).mono ?_
    rintro e w' ⟨rfl, rfl⟩
    go_wp2_with fail
    go_ret3
    exact post_same HR.out hl (by decide) (by decide) rfl (fun _ => HV.out) (HB.out _ _)
  · have hvx1 : (xs[k] != IntKind.u64.wrap (xs[k] + a)) = true := by simpa using hvx
    clear hvx
    go_enter Try.func16, Try.ntmps16
    go_wp2_with fail
    refine (do4 _ a w.heap.size _ (by simp [World.cell?_alloc_past, World.cell?_alloc_at])).mono ?_
    rintro e w' ⟨rfl, rfl⟩
    go_wp2_with fail
    refine (clone_any _ _ _ _ _ (HR.out.below (HB.out _ _)) hn HX.out).mono ?_
    rintro e w1 ⟨v1, rfl, hown, hb2⟩
    obtain ⟨g, cap, rfl, hg⟩ := own_form hown (by omega)
    have hbb := (HB.out _ _).trans (hb2.mono (by simp; omega))
    have hc3 : w1.cell? ⟨g, k, none⟩ = some (.int .u64 xs[k]) := by
      rw [hown.cellAt k (by omega)]; simp [List.getElem?_eq_getElem hl]
    have hf3 := hown.frozenAt k
    have hc4 : w1.cell? ⟨w.heap.size, 1, none⟩ = some (.int .i64 k) := by
      rw [hb2.cell (by simp; omega)]; simp [World.cell?_alloc_past, World.cell?_alloc_at]
    go_wp2_with fail
    go_ret3
    exact post_set (hown.mono_base (by simp; omega)) hl (by decide) (by decide) rfl hbb

theorem look_any (w : World) (r : Nat) (k at_ a b : Int) (hr : r = w.heap.size + 1) (p : Value) : ∃ v, (Instr.lookup 85 (.map (some r)) (.int .i64 k) false).run Try.prog ((w.alloc (opBlk k at_ a b)).alloc (.map #[ent 1 (fn 43 #[]) 0, ent 2 (fn 44 #[p]) 1, ent 3 (fn 45 #[p]) 2, ent 4 (fn 46 #[p]) 3] 4)) = .ok v ((w.alloc (opBlk k at_ a b)).alloc (.map #[ent 1 (fn 43 #[]) 0, ent 2 (fn 44 #[p]) 1, ent 3 (fn 45 #[p]) 2, ent 4 (fn 46 #[p]) 3] 4)) ∧ (¬ (1 ≤ k ∧ k ≤ 4) → v = .nilFunc) := by
  have hg : ((w.alloc (opBlk k at_ a b)).alloc (.map #[ent 1 (fn 43 #[]) 0, ent 2 (fn 44 #[p]) 1, ent 3 (fn 45 #[p]) 2, ent 4 (fn 46 #[p]) 3] 4)).heap[r]? = some (.map #[ent 1 (fn 43 #[]) 0, ent 2 (fn 44 #[p]) 1, ent 3 (fn 45 #[p]) 2, ent 4 (fn 46 #[p]) 3] 4) := heap_alloc_at (by simp; omega)
  by_cases h : 1 ≤ k ∧ k ≤ 4
  · obtain ⟨h1, h4⟩ := h
    have : k = 1 ∨ k = 2 ∨ k = 3 ∨ k = 4 := by omega
    rcases this with rfl | rfl | rfl | rfl
    · exact ⟨_, run_lookup_map Try.underlying85 Try.underlying3 (q := .int .i64 1) rfl hg (i := 0) rfl, fun h => absurd ⟨by decide, by decide⟩ h⟩
    · exact ⟨_, run_lookup_map Try.underlying85 Try.underlying3 (q := .int .i64 2) rfl hg (i := 1) rfl, fun h => absurd ⟨by decide, by decide⟩ h⟩
    · exact ⟨_, run_lookup_map Try.underlying85 Try.underlying3 (q := .int .i64 3) rfl hg (i := 2) rfl, fun h => absurd ⟨by decide, by decide⟩ h⟩
    · exact ⟨_, run_lookup_map Try.underlying85 Try.underlying3 (q := .int .i64 4) rfl hg (i := 3) rfl, fun h => absurd ⟨by decide, by decide⟩ h⟩
  · have e1 : (k == 1) = false := by rw [beq_eq_false_iff_ne]; omega
    have e2 : (k == 2) = false := by rw [beq_eq_false_iff_ne]; omega
    have e3 : (k == 3) = false := by rw [beq_eq_false_iff_ne]; omega
    have e4 : (k == 4) = false := by rw [beq_eq_false_iff_ne]; omega
    exact ⟨.nilFunc, run_lookup_map_none Try.underlying85 Try.underlying3 (q := .int .i64 k) rfl hg (by kernel_rfl) (by simp [Instr.findNow, Instr.sameNow, e1, e2, e3, e4]), fun _ => rfl⟩

theorem post_none {w w' : World} {n c : Nat} {A : Option Addr} {xs : List Int} {k a b i : Int} (hr : Row w 1 A n (xs.map (.int .u64))) (hno : ¬ (0 ≤ i ∧ i < n ∧ 1 ≤ k ∧ k ≤ 4)) (hb : Below w.heap.size w w') :
    DoPost w A n (memDo xs k i a b) (.returned (.tuple #[.slice A n c, .int .u64 0, .bool false])) w' := by
  have hl : xs.length = n := by simpa using hr.1
  have e : memDo xs k i a b = (xs, 0, false) := by
    unfold memDo
    rw [if_neg (by rw [hl]; exact hno)]
  rw [e]
  exact ⟨A, c, rfl, hr.below hb, hb, .inl rfl⟩

set_option maxRecDepth 100000 in
set_option maxHeartbeats 400000 in
theorem do_none (A : Option Addr) (n c : Nat) (k i a b : Int) (xs : List Int) (w : World) (hr : Row w 1 A n (xs.map (.int .u64))) (hno : ¬ (0 ≤ i ∧ i < n ∧ 1 ≤ k ∧ k ≤ 4)) :
    Calls Try.prog 16 #[.slice A n c, .agg #[.int .i64 k, .int .i64 i, .int .u64 a, .int .u64 b]] w (DoPost w A n (memDo xs k i a b)) := by
  have hmf : ∀ (fn : Fn) (first cap : Array Value) (w : World), (Instr.makeFunc fn first cap).run Try.prog w = .ok (.func fn first cap) w := fun _ _ _ _ => rfl
  have hmm := @run_makeMap Try.prog
  obtain ⟨i1, i2, i3, i4⟩ := doMap (w.alloc (opBlk k i a b)) (w.heap.size + 1) (by simp) (.pointer (some ⟨w.heap.size, 0, none⟩))
  obtain ⟨v, hl2, hv⟩ := look_any w (w.heap.size + 1) k i a b rfl (.pointer (some ⟨w.heap.size, 0, none⟩))
  have hq := fun (w : World) => run_eql_nil_func (P := Try.prog) w (t := 84) Try.underlying84
  have hB : ∀ es c, Below w.heap.size w ((w.alloc (opBlk k i a b)).alloc (.map es c)) := fun es c => ((Below.refl _ _).alloc (Nat.le_refl _) _).alloc (by simp) _
  have HB := Lib.hid hB
  have HR := Lib.hid hr
  have HO := Lib.hid hno
  clear hB hr
  by_cases h0 : i < 0
  · clear hv hno
    go_enter Try.func16, Try.ntmps16
    go_wp2_with fail
    go_ret3
    exact post_none HR.out HO.out (HB.out _ _)
  · by_cases h1 : (n : Int) ≤ i
    · clear hv hno
      go_enter Try.func16, Try.ntmps16
      go_wp2_with fail
      go_ret3
      exact post_none HR.out HO.out (HB.out _ _)
    · obtain rfl := hv (fun h => hno ⟨by omega, by omega, h.1, h.2⟩)
      clear hv hno
      go_enter Try.func16, Try.ntmps16
      go_wp2_with fail
      go_ret3
      exact post_none HR.out HO.out (HB.out _ _)

theorem do_any (A : Option Addr) (n c : Nat) (k i a b : Int) (xs : List Int) (w : World) (hr : Row w 1 A n (xs.map (.int .u64))) (hn : n * 8 ≤ 140737488351232) :
    Calls Try.prog 16 #[.slice A n c, .agg #[.int .i64 k, .int .i64 i, .int .u64 a, .int .u64 b]] w (DoPost w A n (memDo xs k i a b)) := by
  by_cases h : 0 ≤ i ∧ i < n ∧ 1 ≤ k ∧ k ≤ 4
  · obtain ⟨h0, h1, h2, h3⟩ := h
    obtain ⟨j, rfl⟩ := Int.eq_ofNat_of_zero_le h0
    have : k = 1 ∨ k = 2 ∨ k = 3 ∨ k = 4 := by omega
    rcases this with rfl | rfl | rfl | rfl
    · exact do_1 A n c j a b xs w hr hn (by omega)
    · exact do_2 A n c j a b xs w hr hn (by omega)
    · exact do_3 A n c j a b xs w hr hn (by omega)
    · exact do_4 A n c j a b xs w hr hn (by omega)
  · exact do_none A n c k i a b xs w hr h

end Go.Proofs.Ytkbaddopgdfafaa
