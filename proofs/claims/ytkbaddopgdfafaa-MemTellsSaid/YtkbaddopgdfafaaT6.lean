import Derived.Test.YtkbaddopgdfafaaT5
namespace Go.Proofs.Ytkbaddopgdfafaa
open Go.RowKit Go.Proofs.Besom

set_option maxHeartbeats 400000 in
theorem same_any (A B : Option Addr) (n m c d : Nat) (xs ys : List Int) (w : World) (hn : n ≤ 9223372036854775807) (hm : m ≤ 9223372036854775807) (ha : Row w 1 A n (xs.map (.int .u64))) (hb : Row w 1 B m (ys.map (.int .u64))) :
    Calls Try.prog 23 #[.slice A n c, .slice B m d] w fun e w' => e = .returned (.bool (decide (xs = ys))) ∧ ∃ q, w' = w.drewN q := by
  have HA := Lib.hid ha
  have HB := Lib.hid hb
  clear ha hb
  go_enter Try.func23, Try.ntmps23
  go_wp2_with fail
  refine (equal_any A B n m c d xs ys _ hn hm HA.out HB.out).mono ?_
  rintro e w' ⟨rfl, q, rfl⟩
  go_wp2_with fail
  go_ret
  exact ⟨rfl, q, rfl⟩

/-- A deed: kind, place, two numbers. -/
abbrev Deed := Int × Int × Int × Int
def opCells (o : Deed) : List Value := [.int .i64 o.1, .int .i64 o.2.1, .int .u64 o.2.2.1, .int .u64 o.2.2.2]
def memDoO (l : List Int) (o : Deed) : List Int × Int × Bool := memDo l o.1 o.2.1 o.2.2.1 o.2.2.2
def memAll (l : List Int) : List Deed → List Int × List Int × Nat
  | [] => (l, [], 0)
  | o :: r => ((memAll (memDoO l o).1 r).1, (memDoO l o).2.1 :: (memAll (memDoO l o).1 r).2.1, (if (memDoO l o).2.2 then 1 else 0) + (memAll (memDoO l o).1 r).2.2)

theorem memAll_append (a b : List Deed) : ∀ l, memAll l (a ++ b) = ((memAll (memAll l a).1 b).1, (memAll l a).2.1 ++ (memAll (memAll l a).1 b).2.1, (memAll l a).2.2 + (memAll (memAll l a).1 b).2.2) := by
  induction a with
  | nil => intro l; simp [memAll]
  | cons o r ih => intro l; simp [memAll, ih]; omega

theorem memAll_snoc (l : List Int) (a : List Deed) (o : Deed) : memAll l (a ++ [o]) = ((memDoO (memAll l a).1 o).1, (memAll l a).2.1 ++ [(memDoO (memAll l a).1 o).2.1], (memAll l a).2.2 + if (memDoO (memAll l a).1 o).2.2 then 1 else 0) := by
  rw [memAll_append]; simp [memAll]

theorem memDo_length (l : List Int) (k i a b : Int) : (memDo l k i a b).1.length = l.length := by
  unfold memDo; split
  · dsimp only; split <;> simp
  · rfl
theorem memAll_len (a : List Deed) : ∀ l, (memAll l a).2.1.length = a.length ∧ (memAll l a).1.length = l.length ∧ (memAll l a).2.2 ≤ a.length := by
  induction a with
  | nil => intro l; simp [memAll]
  | cons o r ih => intro l; obtain ⟨h1, h2, h3⟩ := ih (memDoO l o).1; refine ⟨by simp [memAll, h1], by simp only [memAll]; rw [h2]; exact memDo_length _ _ _ _ _, ?_⟩; simp only [memAll, List.length_cons]; split <;> omega

theorem flat4 (ops : List Deed) : (ops.flatMap opCells).length = ops.length * 4 := by
  induction ops with
  | nil => rfl
  | cons o r ih => simp [opCells, ih]; omega

theorem flat4_at (ops : List Deed) : ∀ (k j : Nat) (hk : k < ops.length), j < 4 → (ops.flatMap opCells)[k * 4 + j]? = (opCells ops[k])[j]? := by
  induction ops with
  | nil => intro k j hk; simp at hk
  | cons o r ih =>
    intro k j hk hj
    cases k with
    | zero =>
      simp only [List.flatMap_cons, List.getElem_cons_zero]
      rw [List.getElem?_append_left (by simp [opCells]; omega)]
      congr 1; omega
    | succ k =>
      simp only [List.flatMap_cons, List.getElem_cons_succ]
      rw [List.getElem?_append_right (by simp [opCells]; omega), ← ih k j (by simpa using hk) hj]
      congr 1; simp [opCells]; omega

theorem ops_at {w : World} {B : Option Addr} {m k : Nat} {ops : List Deed} (h : Row w 4 B m (ops.flatMap opCells)) (hk : k < m) :
    ∃ b o, ∃ hl : k < ops.length, B = some ⟨b, o, none⟩ ∧ w.cell? ⟨b, o + k * 4, none⟩ = some (.int .i64 ops[k].1) ∧ w.cell? ⟨b, o + k * 4 + 1, none⟩ = some (.int .i64 ops[k].2.1) ∧ w.cell? ⟨b, o + k * 4 + 2, none⟩ = some (.int .u64 ops[k].2.2.1) ∧ w.cell? ⟨b, o + k * 4 + 3, none⟩ = some (.int .u64 ops[k].2.2.2) := by
  have hl : ops.length = m := by have := h.1; rw [flat4] at this; omega
  have hk' : k < ops.length := by omega
  obtain ⟨b, o, rfl, h0⟩ := h.2 (k * 4 + 0) _ (flat4_at ops k 0 hk' (by omega))
  obtain ⟨_, _, e1, h1⟩ := h.2 (k * 4 + 1) _ (flat4_at ops k 1 hk' (by omega))
  obtain ⟨_, _, e2, h2⟩ := h.2 (k * 4 + 2) _ (flat4_at ops k 2 hk' (by omega))
  obtain ⟨_, _, e3, h3⟩ := h.2 (k * 4 + 3) _ (flat4_at ops k 3 hk' (by omega))
  cases e1; cases e2; cases e3
  exact ⟨b, o, hk', rfl, by simpa using h0, by simpa [Nat.add_assoc] using h1, by simpa [Nat.add_assoc] using h2, by simpa [Nat.add_assoc] using h3⟩

set_option maxRecDepth 100000 in
set_option maxHeartbeats 400000 in
theorem all_any (A B : Option Addr) (n m c d : Nat) (xs : List Int) (ops : List Deed) (w : World) (ha : Row w 1 A n (xs.map (.int .u64))) (hn : n * 8 ≤ 140737488351232) (hb : Row w 4 B m (ops.flatMap opCells)) (hm : m * 32 ≤ 140737488351232) :
    Calls Try.prog 19 #[.slice A n c, .slice B m d] w fun e w' => ∃ A' c' v, e = .returned (.tuple #[.slice A' n c', v, .int .i64 (memAll xs ops).2.2]) ∧ Row w' 1 A' n ((memAll xs ops).1.map (.int .u64)) ∧
      w'.ownsRow w.heap.size 24 1 v m ((memAll xs ops).2.1.map (.int .u64)) ∧ Below w.heap.size w w' := by
  obtain ⟨i0, hi, hz0, hz1, hz2⟩ := info_parts Try.info24
  have hol : ops.length = m := by have := hb.1; rw [flat4] at this; omega
  have HO := Lib.hid hol
  have HA := Lib.hid ha
  have HB := Lib.hid hb
  clear ha hb hol
  go_enter Try.func19, Try.ntmps19
  go_wp2_with fail
  go_loopw [0, 7, 8, 15] (fun x v q i wr => ∃ k A' c' v0, k ≤ m ∧ v0 = v ∧ i = .int .i64 (k : Nat) ∧ x = .slice A' n c' ∧ q = .int .i64 (memAll xs (ops.take k)).2.2 ∧ Row wr 1 A' n ((memAll xs (ops.take k)).1.map (.int .u64)) ∧ wr.ownsRow w.heap.size 24 1 v k ((memAll xs (ops.take k)).2.1.map (.int .u64)) ∧ Below w.heap.size w wr ∧ Apart n A' v) (fun _ _ _ i _ => m - (intOf i).toNat)
  case atStart => exact ⟨0, A, c, _, Nat.zero_le _, rfl, rfl, rfl, rfl, by simpa [memAll] using HA.out, by simpa [memAll] using World.ownsRow_nil w _ _ _, Below.refl _ _, fun _ _ _ => by simp [Value.ownBlock]⟩
  case round =>
    obtain ⟨k, A', c', v, hk, rfl, rfl, rfl, rfl, hr, hown, hbel, hap⟩ := hrel
    have HR := Lib.hid hr
    have HW := Lib.hid hown
    have HP := Lib.hid hap
    clear hr hown hap
    by_cases hlt : k < m
    · obtain ⟨b1, o1, hl, rfl, h0, h1, h2, h3⟩ := ops_at (HB.out.below hbel) hlt
      have hsn := memAll_snoc xs (ops.take k) ops[k]
      rw [← List.take_succ_eq_append_getElem hl] at hsn
      have hd := fun w' hr' => do_any A' n c' ops[k].1 ops[k].2.1 ops[k].2.2.1 ops[k].2.2.2 (memAll xs (ops.take k)).1 w' hr' hn
      change memAll xs (ops.take (k + 1)) = ((memDo (memAll xs (ops.take k)).1 ops[k].1 ops[k].2.1 ops[k].2.2.1 ops[k].2.2.2).1, (memAll xs (ops.take k)).2.1 ++ [(memDo (memAll xs (ops.take k)).1 ops[k].1 ops[k].2.1 ops[k].2.2.1 ops[k].2.2.2).2.1], (memAll xs (ops.take k)).2.2 + if (memDo (memAll xs (ops.take k)).1 ops[k].1 ops[k].2.1 ops[k].2.2.1 ops[k].2.2.2).2.2 then 1 else 0) at hsn
      have hcl := (memAll_len (ops.take k) xs).2.2
      have hcl2 : (ops.take k).length ≤ k := List.length_take_le _ _
      generalize memDo (memAll xs (ops.take k)).1 ops[k].1 ops[k].2.1 ops[k].2.2.1 ops[k].2.2.2 = res at hd hsn
      obtain ⟨r1, r2, r3⟩ := res
      have HS := Lib.hid hsn
      have HD := Lib.hid hd
      clear hsn hd
      cases r3
      all_goals
        go_wp2_with fail
        refine (HD.out _ (HR.out.below ((Below.refl _ _).alloc (Nat.le_refl _) _))).mono ?_
        rintro e w1 ⟨A2, c2, rfl, hr2, hb2, hA2⟩
        have hap2 : Apart n A2 v := by
          rcases hA2 with rfl | ⟨g, rfl, hg⟩
          · exact HP.out
          · intro ad hn0 hA
            injection hA with hA
            subst hA
            exact own_ne_lt HW.out (.inr (by simp at hg ⊢; omega))
        have HP2 := Lib.hid hap2
        clear hap2 hA2
        have hown2 := own_below HW.out (((Below.refl _ _).alloc (Nat.le_refl _) _).trans (hb2.mono (by simp)))
        have HW2 := Lib.hid hown2
        have hbel2 := hbel.trans ((((Below.refl _ _).alloc (Nat.le_refl _) _).trans (hb2.mono (by simp))).mono hbel.size)
        have HR2 := Lib.hid hr2
        clear hown2 hr2
        go_wp2_with (at_builtin; refine wpList_append_row _ rfl (.tmp 26) (.tmp 28) 22 rfl w.heap.size 24 i0 (.int .u64 0) 1 8 Try.underlying22 hi hz0 hz1 hz2 rfl (by decide) v k _ rfl (HW2.out.alloc _) (some ⟨w1.heap.size, 0, none⟩) 1 1 [.int .u64 r2] rfl (row_one _ _ _ rfl) (fun u hu => by simp at hu; subst hu; rfl) (by unfold maxLen; omega) (by omega) (by have := hbel2.size; simp; omega) ?_; intro v2 w2 hown3 hg3 hat3)
        have hw1 : Below w1.heap.size w1 (w1.alloc (.cells #[.int .u64 r2] 24)) := (Below.refl _ _).alloc (Nat.le_refl _) _
        have hr3 := (HR2.out.below hw1).grown hg3 HP2.out
        have hap3 := HP2.out.grown (HR2.out.below hw1) (by decide) hat3
        have hbel3 := (hbel2.trans (hw1.mono hbel2.size)).grown hg3 (by have := hbel2.size; simp; omega) (fun g hg => (HW2.out.lt g hg).1)
        have H1 := Lib.hid hr3
        have H2 := Lib.hid hap3
        have H3 := Lib.hid hown3
        clear hr3 hap3 hown3 hg3 hat3
        go_roundw
        case rel => exact ⟨k + 1, A2, c2, v2, by omega, rfl, by go_num, rfl, by rw [HS.out]; first | rfl | (simp; done), by rw [HS.out]; exact H1.out, by rw [HS.out]; simpa using H3.out, hbel3, H2.out⟩
        case measure => simp [intOf]; omega
    · have hkm : k = m := by omega
      have HK := Lib.hid hkm
      clear hkm
      go_wp2_with fail
      go_ret3
      have ht := List.take_of_length_le (l := ops) (i := k) (by rw [HO.out, HK.out]; exact Nat.le_refl _)
      have h1 := HR.out
      have h2 := HW.out
      rw [ht] at h1 h2
      rw [HK.out] at h2
      exact ⟨A', c', v, ret3_int (by rw [ht]), h1, h2, hbel⟩
end Go.Proofs.Ytkbaddopgdfafaa
