import Derived.Test.YtkbaddopgdfafaaL3
import Derived.Lib.SmallJoins
namespace Go.Proofs.Besom
open Go.ChangeShapes Go.WideShapes Go.ChangeAt Go.RowKit

section
variable {H : Type} {enc : TypeId × Value → H} {P : Program} {W : World} {base : Nat}

/-- A cell that is a slice of integers. -/
theorem row_core {t e : TypeId} {k : IntKind} {v : Value} {d : DataW H} {ps : List MemPlace} {fuel : Nat}
    (ht : P.underlying t = some (.slice e)) (he : P.underlying e = some (.int k)) (hc : P.cellsOf e = 1)
    (hb : ∀ els sp, d = .slice els sp → (els.length + sp.length) * P.bytesOf e ≤ reachBytes)
    (hf : DataW.trod enc P W 0 (fun _ => true) true fuel t [v] = some (d, ps)) :
    ∃ (A : Option Addr) (n c : Nat) (xs : List Int), v = .slice A n c ∧ Row W 1 A n (xs.map (.int k)) ∧ (∀ x ∈ xs, (Lit.int k x).wf = true) ∧ n * P.bytesOf e ≤ 140737488351232 := by
  rcases open_ints ht he hc hf with ⟨hcs, _⟩ | ⟨a, l, c, zs, hcs, _, hl, hm, hz, hx, hcell, hwz⟩
  · simp at hcs
    subst hcs
    exact ⟨none, 0, 0, [], rfl, Row.nil _ _ _, by simp, by simp⟩
  · simp at hcs
    subst hcs
    simp only [Prod.mk.injEq] at hx
    obtain ⟨rfl, -⟩ := hx
    simp only [if_true] at hz
    have hb := hb _ _ rfl
    refine ⟨some a, l, c, zs.take l, rfl, row_of_cells (by simp; omega) ?_, fun x hx => hwz x (List.mem_of_mem_take hx), ?_⟩
    · intro i u hu
      rw [List.map_take, List.getElem?_take] at hu
      split at hu
      · rename_i hi
        have hlt : i < zs.length := by omega
        rw [hcell i hlt, ← hu]
        simp [List.getD, List.getElem?_eq_getElem hlt]
      · cases hu
    · simp only [lits, List.length_map, List.length_take, List.length_drop, reachBytes] at hb
      have h1 : min l zs.length + (zs.length - l) = zs.length := by omega
      rw [h1] at hb
      exact Nat.le_trans (Nat.mul_le_mul_right _ (by omega)) hb

/-- An argument that is a struct of three integers and a slice of them. -/
theorem open_agg3row {ts : List TypeId} {ds : List (DataW H)} {j : Nat} {t e : TypeId} {f0 f1 f2 f3 : Field} {k : IntKind} {v : Value} {d : DataW H} {ps : List MemPlace}
    (hsz : (DataW.weightsEach P ts ds).all (· ≤ reachBytes) = true) (htj : ts[j]? = some t) (hdj : ds[j]? = some d)
    (hs : P.underlying t = some (.struct #[f0, f1, f2, f3])) (hone : Go.Deep.oneCellFields P #[f0, f1, f2, f3] = true) (hC : P.cellsOf t = 4)
    (h0 : P.underlying f0.type = some (.int k)) (h1 : P.underlying f1.type = some (.int k)) (h2 : P.underlying f2.type = some (.int k))
    (h3 : P.underlying f3.type = some (.slice e)) (he : P.underlying e = some (.int k)) (hc : P.cellsOf e = 1)
    (hval : Value.okWide P W .any base t v) (h : DataW.Trod enc P W 0 (fun _ => true) true t v d ps) :
    ∃ (a b c : Int) (A : Option Addr) (n m : Nat) (xs : List Int), v = .agg #[.int k a, .int k b, .int k c, .slice A n m] ∧ Row W 1 A n (xs.map (.int k)) ∧ ((Lit.int k a).wf = true ∧ (Lit.int k b).wf = true ∧ (Lit.int k c).wf = true) ∧ (∀ x ∈ xs, (Lit.int k x).wf = true) ∧ n * P.bytesOf e ≤ 140737488351232 := by
  obtain ⟨v0, v1, v2, v3, y0, y1, y2, y3, q, rfl, rfl, -, g0, g1, g2, g3⟩ := Go.Joins.open_agg4 hs hone hC hval h
  obtain ⟨a, ha, _, wa⟩ := DataW.trod_int h0 g0
  obtain ⟨b, hb, _, wb⟩ := DataW.trod_int h1 g1
  obtain ⟨c, hc', _, wc⟩ := DataW.trod_int h2 g2
  simp at ha hb hc'
  subst ha hb hc'
  obtain ⟨A, n, m, xs, rfl, hr, hw, hn⟩ := row_core (d := y3.1) (ps := y3.2) h3 he hc (fun els sp hd => by
    have hm := DataW.weights_mem_each (P := P) htj hdj ((els.length + sp.length) * P.bytesOf e) (by
      rw [DataW.weights, hs]
      simp [DataW.weightsEach, hd, DataW.weights, h3])
    have := List.all_eq_true.1 hsz _ hm
    simpa using this) g3
  exact ⟨a, b, c, A, n, m, xs, rfl, hr, ⟨wa, wb, wc⟩, hw, hn⟩
end
end Go.Proofs.Besom
