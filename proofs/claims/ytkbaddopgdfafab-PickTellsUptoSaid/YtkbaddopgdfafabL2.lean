import Derived.Test.YtkbaddopgdfafabL1
import Derived.Deep.Slices
import Derived.Deep.Fields
namespace Go.Proofs.Besom
open Go.ChangeShapes Go.WideShapes Go.ChangeAt Go.RowKit

section
variable {H : Type} {enc : TypeId × Value → H} {P : Program} {W : World} {base : Nat}

theorem cell_plain {w : World} {a : Addr} {i : Nat} {v : Value} (h : w.cell? (a.add i) = some v) : ∃ b o, a = ⟨b, o, none⟩ ∨ a.add i = ⟨b, o, none⟩ := by
  have := World.cell?_spot h
  rcases e : a.add i with ⟨b, o, s⟩
  rw [e] at this
  simp at this
  subst this
  exact ⟨b, o, .inr rfl⟩

/-- A slice's address, as a row reads it. -/
theorem row_of_cells {w : World} {a : Addr} {size n : Nat} {xs : List Value} (hl : xs.length = n * size) (h : ∀ j u, xs[j]? = some u → w.cell? (a.add j) = some u) : Row w size (some a) n xs := by
  refine ⟨hl, fun j u hu => ?_⟩
  have hpos : 0 < xs.length := by have := (List.getElem?_eq_some_iff.1 hu).1; omega
  have h0 : w.cell? (a.add 0) = some xs[0] := h 0 _ (List.getElem?_eq_getElem hpos)
  obtain ⟨b, o, s⟩ := a
  have hs : s = none := by simpa [Addr.add] using World.cell?_spot h0
  subst hs
  exact ⟨b, o, rfl, by rw [← addr_add]; exact h j u hu⟩

/-- An argument that is a slice of integers. -/
theorem open_row {ts : List TypeId} {ds : List (DataW H)} {j : Nat} {t e : TypeId} {k : IntKind} {by_ : Nat} {v : Value} {d : DataW H} {ps : List MemPlace}
    (hsz : (DataW.weightsEach P ts ds).all (· ≤ reachBytes) = true) (htj : ts[j]? = some t) (hdj : ds[j]? = some d)
    (ht : P.underlying t = some (.slice e)) (he : P.underlying e = some (.int k)) (hc : P.cellsOf e = 1) (hby : P.bytesOf e = by_)
    (hval : Value.okWide P W .any base t v) (h : DataW.Trod enc P W 0 (fun _ => true) true t v d ps) :
    ∃ (A : Option Addr) (n c : Nat) (xs : List Int), v = .slice A n c ∧ Row W 1 A n (xs.map (.int k)) ∧ (∀ x ∈ xs, (Lit.int k x).wf = true) ∧ n * by_ ≤ 140737488351232 := by
  subst hby
  obtain ⟨a0, len, cap, rfl⟩ := okWide_slice ht hval
  obtain ⟨fuel, hf⟩ := h
  rcases open_ints ht he hc hf with ⟨hcs, _⟩ | ⟨a, l, c, zs, hcs, _, hl, hm, hz, hx, hcell, hwz⟩
  · simp [Value.cells] at hcs
    obtain ⟨rfl, rfl, rfl⟩ := hcs
    exact ⟨none, 0, 0, [], rfl, Row.nil _ _ _, by simp, by simp⟩
  · simp [Value.cells] at hcs
    obtain ⟨rfl, rfl, rfl⟩ := hcs
    simp only [Prod.mk.injEq] at hx
    obtain ⟨rfl, -⟩ := hx
    simp only [if_true] at hz
    have hb := sized_slice hsz htj hdj ht
    refine ⟨some a, len, cap, zs.take len, rfl, row_of_cells (by simp; omega) ?_, fun x hx => hwz x (List.mem_of_mem_take hx), ?_⟩
    · intro i u hu
      rw [List.map_take, List.getElem?_take] at hu
      split at hu
      · rename_i hi
        have hlt : i < zs.length := by omega
        rw [hcell i hlt, ← hu]
        simp [List.getD, List.getElem?_eq_getElem hlt]
      · cases hu
    · simp only [lits, List.length_map, List.length_take, List.length_drop, reachBytes] at hb
      have h1 : min len zs.length + (zs.length - len) = zs.length := by omega
      rw [h1] at hb
      exact Nat.le_trans (Nat.mul_le_mul_right _ (by omega)) hb

theorem exists_list {α : Type} (R : Nat → α → Prop) : ∀ (m : Nat), (∀ i, i < m → ∃ a, R i a) → ∃ l : List α, l.length = m ∧ ∀ i (hi : i < l.length), R i l[i]
  | 0, _ => ⟨[], rfl, fun i hi => by simp at hi⟩
  | m + 1, h => by
    obtain ⟨l, hl, hr⟩ := exists_list R m (fun i hi => h i (by omega))
    obtain ⟨a, ha⟩ := h m (by omega)
    refine ⟨l ++ [a], by simp [hl], fun i hi => ?_⟩
    by_cases him : i < l.length
    · rw [List.getElem_append_left him]; exact hr i him
    · have : i = m := by simp at hi; omega
      subst this
      rw [List.getElem_append_right (by omega)]
      simpa using ha

/-- The cells of a row of integers of several kinds. -/
def intCells (ks : List IntKind) (r : List Int) : List Value := List.zipWith Value.int ks r

theorem struct_ints {e : TypeId} {fs : Array Field} {ks : List IntKind} {n : Nat} {cs : List Value} {x : DataW H × List MemPlace} (he : P.underlying e = some (.struct fs)) (hone : Go.Deep.oneCellFields P fs = true)
    (hC : P.cellsOf e = fs.size) (hk : ks.length = fs.size) (hks : ∀ (j : Nat) (f : Field), fs[j]? = some f → P.underlying f.type = (ks[j]?).map TypeDesc.int)
    (h : DataW.trod enc P W 0 (fun _ => true) true n e cs = some x) :
    ∃ r : List Int, r.length = ks.length ∧ cs = intCells ks r ∧ ∀ (j : Nat) (k : IntKind) (z : Int), ks[j]? = some k → r[j]? = some z → (Lit.int k z).wf = true := by
  obtain ⟨ys, n', _, _, hlen, hyl, hf⟩ := DataW.trod_struct he h
  rw [hC] at hlen
  have hat : ∀ j, j < ks.length → ∃ z : Int, cs[j]? = (ks[j]?).map (fun k => Value.int k z) ∧ ∀ k, ks[j]? = some k → (Lit.int k z).wf = true := by
    intro j hj
    have hjf : j < fs.size := by omega
    have hfj : fs[j]? = some fs[j] := Array.getElem?_eq_getElem hjf
    obtain ⟨ho, hc1⟩ := Go.Deep.hone_of hone j _ hfj
    have h1 := hf j _ hfj
    rw [ho, hc1] at h1
    have hd : (cs.drop j).take 1 = [cs[j]'(by omega)] := by
      rw [List.drop_eq_getElem_cons (by omega)]; rfl
    rw [hd] at h1
    have hu := hks j _ hfj
    rw [List.getElem?_eq_getElem hj] at hu
    have hy : ys[j]? = some (ys[j]'(by omega)) := List.getElem?_eq_getElem (by omega)
    rw [hy] at h1
    obtain ⟨z, hz, _, hw⟩ := DataW.trod_int (by simpa using hu) h1
    refine ⟨z, ?_, fun k hk' => ?_⟩
    · rw [List.getElem?_eq_getElem (by omega), List.getElem?_eq_getElem hj]
      simp at hz
      simp [hz]
    · rw [List.getElem?_eq_getElem hj] at hk'
      injection hk' with hk'
      subst hk'
      exact hw
  obtain ⟨r, hr, hR⟩ := exists_list (fun j z => cs[j]? = (ks[j]?).map (fun k => Value.int k z) ∧ ∀ k, ks[j]? = some k → (Lit.int k z).wf = true) ks.length hat
  refine ⟨r, hr, ?_, fun j k z hkj hz => ?_⟩
  · apply List.ext_getElem?
    intro j
    by_cases hj : j < ks.length
    · have := (hR j (by omega)).1
      rw [this]
      simp [intCells, List.getElem?_zipWith, List.getElem?_eq_getElem hj, List.getElem?_eq_getElem (show j < r.length by omega)]
    · rw [List.getElem?_eq_none (by omega), List.getElem?_eq_none (by simp [intCells]; omega)]
  · obtain ⟨hl, rfl⟩ := List.getElem?_eq_some_iff.1 hz
    exact (hR j hl).2 k hkj

theorem flat_at {α β : Type} (f : α → List β) (s : Nat) : ∀ (l : List α), (∀ a ∈ l, (f a).length = s) → ∀ (i j : Nat) (hi : i < l.length), j < s → (l.flatMap f)[i * s + j]? = (f l[i])[j]?
  | [], _, i, j, hi, _ => by simp at hi
  | a :: l, h, 0, j, _, hj => by
    simp only [List.flatMap_cons, List.getElem_cons_zero]
    rw [List.getElem?_append_left (by rw [h a (by simp)]; omega)]
    congr 1; omega
  | a :: l, h, i + 1, j, hi, hj => by
    simp only [List.flatMap_cons, List.getElem_cons_succ]
    rw [List.getElem?_append_right (by rw [h a (by simp), Nat.succ_mul]; omega), ← flat_at f s l (fun b hb => h b (by simp [hb])) i j (by simpa using hi) hj]
    congr 1; rw [h a (by simp), Nat.succ_mul]; omega

theorem flat_len {α β : Type} (f : α → List β) (s : Nat) : ∀ (l : List α), (∀ a ∈ l, (f a).length = s) → (l.flatMap f).length = l.length * s
  | [], _ => by simp
  | a :: l, h => by
    simp only [List.flatMap_cons, List.length_append, List.length_cons, Nat.succ_mul]
    rw [flat_len f s l (fun b hb => h b (by simp [hb])), h a (by simp)]; omega

/-- An argument that is a slice of structs of integers. -/
theorem open_rows {ts : List TypeId} {ds : List (DataW H)} {j : Nat} {t e : TypeId} {fs : Array Field} {ks : List IntKind} {by_ : Nat} {v : Value} {d : DataW H} {ps : List MemPlace}
    (hsz : (DataW.weightsEach P ts ds).all (· ≤ reachBytes) = true) (htj : ts[j]? = some t) (hdj : ds[j]? = some d)
    (ht : P.underlying t = some (.slice e)) (he : P.underlying e = some (.struct fs)) (hone : Go.Deep.oneCellFields P fs = true)
    (hC : P.cellsOf e = fs.size) (hk : ks.length = fs.size) (hk0 : 0 < ks.length) (hks : ∀ (j : Nat) (f : Field), fs[j]? = some f → P.underlying f.type = (ks[j]?).map TypeDesc.int) (hby : P.bytesOf e = by_)
    (hval : Value.okWide P W .any base t v) (h : DataW.Trod enc P W 0 (fun _ => true) true t v d ps) :
    ∃ (A : Option Addr) (n c : Nat) (rs : List (List Int)), v = .slice A n c ∧ Row W ks.length A n (rs.flatMap (intCells ks)) ∧ (∀ r ∈ rs, r.length = ks.length ∧ ∀ (j : Nat) (k : IntKind) (z : Int), ks[j]? = some k → r[j]? = some z → (Lit.int k z).wf = true) ∧ n * by_ ≤ 140737488351232 ∧ rs.length = n := by
  subst hby
  obtain ⟨a0, len, cap, rfl⟩ := okWide_slice ht hval
  obtain ⟨fuel, hf⟩ := h
  rcases Go.Deep.open_slice ht hf with ⟨hcs, _⟩ | ⟨a, l, c, m, n, D, Pl, hcs, _, hl, hm, hmm, hx, hi⟩
  · simp [Value.cells] at hcs
    obtain ⟨rfl, rfl, rfl⟩ := hcs
    exact ⟨none, 0, 0, [], rfl, Row.nil _ _ _, by simp, by simp, rfl⟩
  · simp [Value.cells] at hcs
    obtain ⟨rfl, rfl, rfl⟩ := hcs
    simp only [Prod.mk.injEq] at hx
    obtain ⟨rfl, -⟩ := hx
    simp only [if_true] at hmm
    subst hmm
    have hb := sized_slice hsz htj hdj ht
    have hat : ∀ i, i < len → ∃ r : List Int, (r.length = ks.length ∧ ∀ (j : Nat) (k : IntKind) (z : Int), ks[j]? = some k → r[j]? = some z → (Lit.int k z).wf = true) ∧ ∀ j, j < ks.length → W.cell? (a.add (i * ks.length + j)) = (intCells ks r)[j]? := by
      intro i hil
      obtain ⟨cs', hc', hd'⟩ := hi i (by omega)
      rw [hC, ← hk] at hc'
      obtain ⟨_, hlen, hcell⟩ := World.cells?_some hc'
      obtain ⟨r, hr, rfl, hw⟩ := struct_ints he hone hC hk hks hd'
      refine ⟨r, ⟨hr, hw⟩, fun j hj => ?_⟩
      rw [← Go.Deep.add_add]
      exact hcell j hj
    obtain ⟨rs, hrl, hR⟩ := exists_list _ len hat
    have hlen : ∀ r ∈ rs, (intCells ks r).length = ks.length := by
      intro r hr
      obtain ⟨i, hi', rfl⟩ := List.getElem_of_mem hr
      simp [intCells, (hR i hi').1.1]
    refine ⟨some a, len, m, rs, rfl, row_of_cells (by rw [flat_len _ ks.length rs hlen, hrl]) ?_, ?_, ?_, hrl⟩
    · intro q u hu
      have hq : q < rs.length * ks.length := by
        have := (List.getElem?_eq_some_iff.1 hu).1
        rwa [flat_len _ ks.length rs hlen] at this
      have hqi : q / ks.length < rs.length := Nat.div_lt_of_lt_mul (by rwa [Nat.mul_comm])
      have hqj : q % ks.length < ks.length := Nat.mod_lt _ hk0
      have hqe : q = q / ks.length * ks.length + q % ks.length := by rw [Nat.mul_comm]; exact (Nat.div_add_mod q ks.length).symm
      rw [hqe] at hu ⊢
      rw [flat_at _ ks.length rs hlen _ _ hqi hqj] at hu
      rw [(hR _ hqi).2 _ hqj, hu]
    · intro r hr
      obtain ⟨i, hi', rfl⟩ := List.getElem_of_mem hr
      exact (hR i hi').1
    · simp only [List.length_map, List.length_range, reachBytes] at hb
      exact Nat.le_trans (Nat.mul_le_mul_right _ (by omega)) hb

/-- An argument that is a struct of integers, by value. -/
theorem open_struct {t : TypeId} {fs : Array Field} {ks : List IntKind} {v : Value} {d : DataW H} {ps : List MemPlace} (ht : P.underlying t = some (.struct fs)) (hone : Go.Deep.oneCellFields P fs = true)
    (hC : P.cellsOf t = fs.size) (hk : ks.length = fs.size) (hks : ∀ (j : Nat) (f : Field), fs[j]? = some f → P.underlying f.type = (ks[j]?).map TypeDesc.int)
    (hval : Value.okWide P W .any base t v) (h : DataW.Trod enc P W 0 (fun _ => true) true t v d ps) :
    ∃ r : List Int, r.length = ks.length ∧ v = .agg (intCells ks r).toArray ∧ ∀ (j : Nat) (k : IntKind) (z : Int), ks[j]? = some k → r[j]? = some z → (Lit.int k z).wf = true := by
  obtain ⟨cs, rfl, _⟩ := okWide_struct ht hval
  obtain ⟨fuel, hf⟩ := h
  obtain ⟨r, hr, hcs, hw⟩ := struct_ints ht hone hC hk hks hf
  refine ⟨r, hr, ?_, hw⟩
  simp only [Value.cells] at hcs
  rw [← hcs]

theorem fields4 {f0 f1 f2 f3 : Field} {k0 k1 k2 k3 : IntKind} (h0 : P.underlying f0.type = some (.int k0)) (h1 : P.underlying f1.type = some (.int k1)) (h2 : P.underlying f2.type = some (.int k2)) (h3 : P.underlying f3.type = some (.int k3)) :
    ∀ (j : Nat) (f : Field), #[f0, f1, f2, f3][j]? = some f → P.underlying f.type = ([k0, k1, k2, k3][j]?).map TypeDesc.int := by
  intro j f hj
  match j, hj with
  | 0, hj => simp at hj; subst hj; simpa using h0
  | 1, hj => simp at hj; subst hj; simpa using h1
  | 2, hj => simp at hj; subst hj; simpa using h2
  | 3, hj => simp at hj; subst hj; simpa using h3
  | j + 4, hj => simp at hj

theorem list4 {α : Type} {r : List α} (h : r.length = 4) : ∃ a b c d, r = [a, b, c, d] := by
  match r, h with
  | [a, b, c, d], _ => exact ⟨a, b, c, d, rfl⟩
end
end Go.Proofs.Besom
