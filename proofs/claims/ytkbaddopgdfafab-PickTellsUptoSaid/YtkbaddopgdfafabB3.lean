import Derived.Test.YtkbaddopgdfafabB2
import Derived.Laws.CopyOwn
namespace Go.Proofs.Besom
open Go.RowKit

theorem own_of_blk {w : World} {g n : Nat} {e : TypeId} {xs : List Value} {base cap : Nat} {cur : List Value} (h : w.heap[g]? = some (.cells (xs ++ cur).toArray e (0, 0))) (hb : base ≤ g) (hx : xs.length = n) (hc : (xs ++ cur).length = cap) (hm : cap ≤ maxLen) :
    w.ownsRow base e 1 (.slice (some ⟨g, 0, none⟩) n cap) n xs := by
  refine ⟨by omega, .inr ⟨g, cap, (xs ++ cur).toArray, rfl, hb, h, ?_, hm, by simpa using hc, ?_⟩⟩
  · rw [List.length_append] at hc; omega
  · simp [hx]

/-- copy over a whole owned row of the same length. -/
theorem wpList_copy_full {P : Program} {w : World} {ops : Array Oper} {rest : List Oper} {o : Oper} {a : Act} {Q : Exit → Act → World → Prop} (hgd : o.guard = none) (d s : Operand) (dT sT : TypeId)
    (ho : o.op = .call { callee := .builtin .copy, args := #[d, s], argTypes := #[dT, sT] }) (elem : TypeId) (hu : P.underlying dT = some (.slice elem)) (hsz : (P.info? elem).map (·.size) = some 1)
    (base g n cap : Nat) (olds : List Value) (hd : a.eval d = .slice (some ⟨g, 0, none⟩) n cap) (hown : w.ownsRow base elem 1 (.slice (some ⟨g, 0, none⟩) n cap) n olds)
    (A : Option Addr) (c : Nat) (xs : List Value) (hs : a.eval s = .slice A n c) (hr : Row w 1 A n xs) (h1 : ∀ v ∈ xs, v.oneCell' = true)
    (h : ∀ w', w'.ownsRow base elem 1 (.slice (some ⟨g, 0, none⟩) n cap) n xs → w.grownBy w' (some g) → wpList P ops Q rest (a.put o.dst (goInt n)) w') :
    wpList P ops Q (o :: rest) a w := by
  have hxl : xs.length = n := by have := hr.1; omega
  have hown' := hown
  obtain ⟨hol, hcase⟩ := hown'
  by_cases h0 : n = 0
  · subst h0
    obtain rfl : xs = [] := List.eq_nil_of_length_eq_zero hxl
    obtain rfl : olds = [] := List.eq_nil_of_length_eq_zero (by simpa using hol)
    refine wpList_copy_nothing hgd d s dT sT ho elem hu hsz _ A 0 cap 0 c hd hs (by simp) ?_
    exact h w hown (World.grownBy.refl w _)
  · rcases hcase with ⟨hv, _⟩ | ⟨g', cap', cur, hv, hg, hh, hn, hm, hcs, htake⟩
    · cases hv
    · injection hv with e1 e2 e3
      injection e1 with e1
      injection e1 with e1
      subst e1; subst e3
      obtain ⟨b, off, hA, _⟩ := hr.2 0 xs[0] (List.getElem?_eq_getElem (by omega))
      subst hA
      refine wpList_copy_own hgd d s dT sT ho elem hu hsz g 0 n cap ⟨b, off, none⟩ n c hd hs cur elem hh xs (by simp [hxl]) ?_ (by omega) h1 ?_
      · intro j v hj
        obtain ⟨b', o', e', hc'⟩ := hr.2 j v hj
        cases e'
        rw [addr_add]
        exact hc'
      · rw [hxl]
        refine h _ ?_ ⟨rfl, rfl, rfl, by simp [World.setRow], fun k hk hne => setRow_other w g k _ (fun e => hne (by rw [e]))⟩
        refine own_of_blk (cur := cur.toList.drop (0 + n)) ?_ hg hxl ?_ hm
        · have := setRow_heap w g cur (cur.toList.take 0 ++ (xs ++ cur.toList.drop (0 + n))).toArray elem _ hh
          simpa using this
        · simp [hxl]; omega

theorem below_of_grown {w w' : World} {g B : Nat} (h : w.grownBy w' (some g)) (hB : B ≤ g) (hB' : B ≤ w.heap.size) : Below B w w' :=
  ⟨h.os, h.tape, h.output, h.size, fun k hk => h.block k (by omega) (fun e => by injection e; omega)⟩

theorem below_of_grown_none {w w' : World} (h : w.grownBy w' none) : Below w.heap.size w w' :=
  ⟨h.os, h.tape, h.output, h.size, fun k hk => h.block k hk (by simp)⟩

theorem cells1 {w : World} {g : Nat} {a : Value} {t : TypeId} (h : w.heap[g]? = some (.cells #[a] t)) : w.cell? ⟨g, 0, none⟩ = some a ∧ w.frozen? ⟨g, 0, none⟩ = false := by
  simp [World.cell?, World.frozen?, h]

theorem free_of_blk {w : World} {g : Nat} {cs : Array Value} {t : TypeId} (h : w.heap[g]? = some (.cells cs t (0, 0))) (i : Nat) : w.frozen? ⟨g, i, none⟩ = false := by
  simp [World.frozen?, h]
theorem blk_set {w : World} {g i : Nat} {cs : Array Value} {t : TypeId} {v : Value} (h : w.heap[g]? = some (.cells cs t (0, 0))) : (w.setCell ⟨g, i, none⟩ v).heap[g]? = some (.cells (cs.setIfInBounds i v) t (0, 0)) := by
  simp [World.setCell, Array.getElem?_modify, h]
theorem blk_other {w : World} {g g' i : Nat} {o : Obj} {v : Value} (h : w.heap[g]? = some o) (hne : g ≠ g') : (w.setCell ⟨g', i, none⟩ v).heap[g]? = some o :=
  (Below.heap_setCell w ⟨g', i, none⟩ v g hne).trans h
/-- A struct stored whole, cell by cell. -/
theorem blk_set4 {w : World} {g : Nat} {a b c d p q r s : Value} {t : TypeId} (h : w.heap[g]? = some (.cells #[a, b, c, d] t (0, 0))) :
    ((((w.setCell ⟨g, 0, none⟩ p).setCell ⟨g, 1, none⟩ q).setCell ⟨g, 2, none⟩ r).setCell ⟨g, 3, none⟩ s).heap[g]? = some (.cells #[p, q, r, s] t (0, 0)) :=
  blk_set (blk_set (blk_set (blk_set h)))

theorem map_set_int' (kd : IntKind) (l : List Int) (i : Nat) (x : Int) : (l.map (Value.int kd)).set i (.int kd x) = (l.set i x).map (.int kd) := by
  rw [List.map_set]
theorem below_set4 {B g : Nat} {a w : World} {p q r s : Value} (h : Below B a w) (hg : B ≤ g) : Below B a ((((w.setCell ⟨g, 0, none⟩ p).setCell ⟨g, 1, none⟩ q).setCell ⟨g, 2, none⟩ r).setCell ⟨g, 3, none⟩ s) :=
  (((h.setCell hg _).setCell hg _).setCell hg _).setCell hg _
theorem own_set4 {w : World} {base : Nat} {e : TypeId} {size : Nat} {v : Value} {n : Nat} {xs : List Value} {g : Nat} {p q r s : Value} (h : w.ownsRow base e size v n xs) (hg : v.ownBlock ≠ some g) :
    ((((w.setCell ⟨g, 0, none⟩ p).setCell ⟨g, 1, none⟩ q).setCell ⟨g, 2, none⟩ r).setCell ⟨g, 3, none⟩ s).ownsRow base e size v n xs :=
  ownsRow_setCell_other (ownsRow_setCell_other (ownsRow_setCell_other (ownsRow_setCell_other h hg _) hg _) hg _) hg _

theorem Row.set_other {w : World} {size n : Nat} {A : Option Addr} {xs : List Value} {g i : Nat} {v : Value} (h : Row w size A n xs) (hne : ∀ ad, A = some ad → ad.block ≠ g) : Row (w.setCell ⟨g, i, none⟩ v) size A n xs := by
  refine ⟨h.1, fun j u hu => ?_⟩
  obtain ⟨b, o, e, hc⟩ := h.2 j u hu
  exact ⟨b, o, e, (World.cell?_setCell_other _ _ _ _ (fun he => hne _ e (by simp at he; exact he.1.symm))).trans hc⟩
theorem Row.set4 {w : World} {size n : Nat} {A : Option Addr} {xs : List Value} {g : Nat} {p q r s : Value} (h : Row w size A n xs) (hne : ∀ ad, A = some ad → ad.block ≠ g) :
    Row ((((w.setCell ⟨g, 0, none⟩ p).setCell ⟨g, 1, none⟩ q).setCell ⟨g, 2, none⟩ r).setCell ⟨g, 3, none⟩ s) size A n xs :=
  (((h.set_other hne).set_other hne).set_other hne).set_other hne

section
variable {P : Program} {fn : Func} {R : Ending → World → Prop} {a : Act} {w : World}

/-- A result that is a struct: it lies whole in a block. -/
theorem bodyPost_row {t : Tmp} {ty ty' : TypeId} {d : TypeDesc} {cs : Array Value} {g : Nat} {fr : Nat × Nat} (h : fn.results = #[.cell t ty]) (hp : a.tmps.getD t undef = .pointer (some ⟨g, 0, none⟩)) (hg : w.heap[g]? = some (.cells cs ty' fr))
    (hu : P.underlying ty = some d) (hd : (match d with | .struct _ | .array _ _ => true | _ => false) = true) (hi : (P.info? ty).map (·.size) = some cs.size)
    (hdf : a.defers = []) (hR : R (.returned (.agg cs)) w) : bodyPost P fn R .ret a w :=
  bodyPost_ret (results_cell_row h _ w g ty' cs fr d hp hg hu hd hi) hdf hR

theorem bodyPost_row_tmp {t u : Tmp} {ty ty' : TypeId} {d : TypeDesc} {cs : Array Value} {g : Nat} {fr : Nat × Nat} (h : fn.results = #[.cell t ty, .tmp u]) (hp : a.tmps.getD t undef = .pointer (some ⟨g, 0, none⟩)) (hg : w.heap[g]? = some (.cells cs ty' fr))
    (hu : P.underlying ty = some d) (hd : (match d with | .struct _ | .array _ _ => true | _ => false) = true) (hi : (P.info? ty).map (·.size) = some cs.size)
    (hdf : a.defers = []) (hR : R (.returned (.tuple #[.agg cs, a.tmps.getD u undef])) w) : bodyPost P fn R .ret a w :=
  bodyPost_ret (v := .tuple #[.agg cs, a.tmps.getD u undef]) (by
    have hp' : a.tmps[t]?.getD undef = .pointer (some ⟨g, 0, none⟩) := by simpa using hp
    simp [results, h, hp', asAddr, run_loadVar_row w g ty' ty cs fr d hg hu hd hi]) hdf hR
end
end Go.Proofs.Besom
