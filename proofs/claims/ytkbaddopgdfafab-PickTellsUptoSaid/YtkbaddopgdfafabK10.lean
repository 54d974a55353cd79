import Derived.Test.YtkbaddopgdfafabK9
import Derived.WideKeyEntry
import Derived.DeepKeys4
import Derived.Maps.Own
namespace Go.Proofs.Ytkbaddopgdfafab
open Go.RowKit Go.Proofs.Besom Go.ChangeMaps
open Go.WideMaps (KeyLaw)

theorem row32 : (32 : TypeId) < Try.prog.types.size := of_decide_eq_true (by kernel_rfl)
theorem law32 : KeyLaw Try.prog 32 := deep_law_laid (by kernel_rfl) (m := 2) (by omega) row32 (by kernel_rfl) (by rw [Try.underlying32])

def wfP (p : Int × Int) : Prop := (Lit.int .i64 p.1).wf = true ∧ (Lit.int .i64 p.2).wf = true

theorem kt32 : Try.prog.keyType 32 = true := by kernel_rfl
theorem co32 : Try.prog.cellsOf 32 = 2 := by kernel_rfl
theorem co3 : Try.prog.cellsOf 3 = 1 := by kernel_rfl
theorem key_two {P : Program} {k e : TypeId} {f1 f2 : Field} {q : IntKind} {x y : Int} (hu : P.underlying k = some (.struct #[f1, f2])) (he : P.underlying e = some (.int q)) (h1 : f1.type = e) (h2 : f2.type = e) (o1 : f1.offset = 0) (o2 : f2.offset = 1)
    (n1 : (f1.name != "_") = true) (n2 : (f2.name != "_") = true) (hk : P.keyType k = true) (hc : P.cellsOf k = 2) (hce : P.cellsOf e = 1) (hn : k < P.types.size) (hx : (Lit.int q x).wf = true) (hy : (Lit.int q y).wf = true) :
    keyOf P k (.agg #[.int q x, .int q y]) = some (.string (keyBytes [.int q x, .int q y])) := by
  obtain ⟨m, hm⟩ : ∃ m, P.types.size = m + 1 := ⟨P.types.size - 1, by have h : 0 < P.types.size := Nat.lt_of_le_of_lt (Nat.zero_le _) hn; omega⟩
  subst h1
  simp [keyOf, hu, hk, hc, hm, Value.formed, Program.keyLits, Value.cells, o1, o2, h2, he, hx, hy, hce]
  exact ⟨by simpa using n1, by simpa using n2⟩
theorem keyPick {p : Int × Int} (h : wfP p) : ∃ l, keyOf Try.prog 32 (pickV p) = some l :=
  ⟨_, key_two Try.underlying32 Try.underlying3 rfl rfl rfl rfl (by decide) (by decide) kt32 co32 co3 row32 h.1 h.2⟩

/-- Block b is a map that counts picks. -/
def CntMap (w : World) (b : Nat) (f : Int × Int → Int) : Prop :=
  ∃ es clock, w.heap[b]? = some (.map es clock) ∧ MapKept.Stamped es clock ∧ (∀ x ∈ es.toList, ∃ p, wfP p ∧ x.key = pickV p ∧ x.val = .int .i64 (f p)) ∧ (∀ p, (∀ x ∈ es.toList, x.key ≠ pickV p) → f p = 0)

theorem pickV_inj {p q : Int × Int} (h : pickV p = pickV q) : p = q := by
  obtain ⟨a, b⟩ := p; obtain ⟨c, d⟩ := q
  simp at h; simp [h]

theorem CntMap.look {w : World} {b : Nat} {f : Int × Int → Int} {p : Int × Int} (h : CntMap w b f) (hp : wfP p) :
    (Instr.lookup 62 (.map (some b)) (pickV p) false).run Try.prog w = .ok (.int .i64 (f p)) w := by
  obtain ⟨es, clock, hb, hs, hr, hz⟩ := h
  obtain ⟨l, hl⟩ := keyPick hp
  have hz0 : (zeroValue 3).run Try.prog w = .ok (.int .i64 0) w := by kernel_rfl
  rcases law32.find w hl es.toList (fun x hx => by obtain ⟨q, hq, e, _⟩ := hr x hx; rw [e]; exact keyPick hq) with ⟨h1, h2⟩ | ⟨j, e0, h1, h2, h3⟩
  · rw [hz p h2]
    simp [Instr.lookup, run_underlying Try.underlying62, MapKept.run_getObj_map hb, law32.check w _ hl, h1, hz0, Result.andThen]
  · obtain ⟨q, hq, e, hv⟩ := hr e0 (List.mem_of_getElem? h2)
    have := pickV_inj (e.symm.trans h3)
    subst this
    simp [Instr.lookup, run_underlying Try.underlying62, MapKept.run_getObj_map hb, law32.check w _ hl, h1, hv, Result.andThen]

def upd (f : Int × Int → Int) (p : Int × Int) (c : Int) : Int × Int → Int := fun q => if q = p then c else f q

theorem run_entryStore {P : Program} {t : TypeId} {w2 : World} {b j st : Nat} {es : Array MapEntry} {clock : Nat} {v : Value} (hb : w2.heap[b]? = some (.map es clock)) (hidx : es.findIdx? (fun e => ((e.born : Nat) : Int) == ((st : Nat) : Int)) = some j) :
    (Instr.entryStore t (.map (some b)) (goInt st) v).run P w2 = .ok () (setBlock w2 b (.map (es.modify j (fun e => { e with val := v })) clock)) := by
  simp [Instr.entryStore, MapKept.run_getObj_map hb, asInt, asIntOf, goInt, hidx, MapKept.run_setObj_map _ hb, Result.andThen, setBlock]

/-- 'm[p] op= x': the entry first (it is made, if there is none), then the store. -/
theorem CntMap.entry {w : World} {b : Nat} {f : Int × Int → Int} {p : Int × Int} (h : CntMap w b f) (hp : wfP p) :
    ∃ (v0 : Value) (st : Nat) (w2 : World), (Instr.mapEntry 62 (.map (some b)) (pickV p)).run Try.prog w = .ok (.tuple #[v0, goInt st]) w2 ∧ CntMap w2 b f ∧
      ∀ c : Int, ∃ w4, (Instr.entryStore 62 (.map (some b)) (goInt st) (.int .i64 c)).run Try.prog w2 = .ok () w4 ∧ CntMap w4 b (upd f p c) ∧ w.grownBy w4 (some b) := by
  obtain ⟨es, clock, hb, hs, hr, hz⟩ := h
  obtain ⟨l, hl⟩ := keyPick hp
  have hz0 : ∀ w, (zeroValue 3).run Try.prog w = .ok (.int .i64 0) w := fun w => by kernel_rfl
  obtain ⟨s1, s2, s3⟩ := hs
  have hg : ∀ o1 o2 es' c', (setBlock w b (.map es' c')).heap[b]? = some (.map es' c') → w.grownBy (setBlock (setBlock w b o1) b o2) (some b) := fun o1 o2 _ _ _ =>
    ⟨rfl, rfl, rfl, by simp [setBlock], fun i _ hi => by
      have hne : b ≠ i := fun e => hi (by rw [e])
      simp [setBlock, hne]⟩
  rcases law32.find w hl es.toList (fun x hx => by obtain ⟨q, hq, e, _⟩ := hr x hx; rw [e]; exact keyPick hq) with ⟨h1, h2⟩ | ⟨j, e0, h1, h2, h3⟩
  · have hb2 : (setBlock w b (.map (es.push ⟨pickV p, .int .i64 0, clock⟩) (clock + 1))).heap[b]? = some (.map (es.push ⟨pickV p, .int .i64 0, clock⟩) (clock + 1)) := heap_setBlock_same hb _
    have hst : ∀ v, MapKept.Stamped (es.push ⟨pickV p, v, clock⟩) (clock + 1) := fun v => MapKept.stamped_push ⟨s1, s2, s3⟩ h2
    refine ⟨.int .i64 0, clock, setBlock w b (.map (es.push ⟨pickV p, .int .i64 0, clock⟩) (clock + 1)), ?_, ⟨_, _, hb2, hst _, ?_, ?_⟩, fun c => ⟨setBlock (setBlock w b (.map (es.push ⟨pickV p, .int .i64 0, clock⟩) (clock + 1))) b (.map (es.push ⟨pickV p, .int .i64 c, clock⟩) (clock + 1)), ?_, ⟨_, _, heap_setBlock_same hb2 _, hst _, ?_, ?_⟩, hg _ _ _ _ hb2⟩⟩
    · simp [Instr.mapEntry, run_underlying Try.underlying62, MapKept.run_getObj_map hb, law32.check w false hl, h1, hz0, MapKept.run_setObj_map _ hb, Result.andThen, setBlock]
    · intro x hx
      simp only [Array.toList_push, List.mem_append, List.mem_singleton] at hx
      rcases hx with hx | rfl
      · exact hr x hx
      · exact ⟨p, hp, rfl, by rw [hz p h2]⟩
    · exact fun q hq => hz q (fun x hx => hq x (by simp only [Array.toList_push, List.mem_append]; exact .inl hx))
    · have hidx : (es.push ⟨pickV p, .int .i64 0, clock⟩).findIdx? (fun e => ((e.born : Nat) : Int) == ((clock : Nat) : Int)) = some es.size := by
        rw [WideElems.findIdx_arr]
        exact WideElems.findIdx_born (l := (es.push ⟨pickV p, .int .i64 0, clock⟩).toList) (j := es.size) (e0 := ⟨pickV p, .int .i64 0, clock⟩) (hst _).2.1 (by simp)
      have hmod : (es.push ⟨pickV p, .int .i64 0, clock⟩).modify es.size (fun e => { e with val := .int .i64 c }) = es.push ⟨pickV p, .int .i64 c, clock⟩ := by
        apply Array.ext'
        rw [Array.toList_modify, Array.toList_push, Array.toList_push, ← Array.length_toList, WideElems.modify_last]
      rw [run_entryStore hb2 hidx, hmod]
    · intro x hx
      simp only [Array.toList_push, List.mem_append, List.mem_singleton] at hx
      rcases hx with hx | rfl
      · obtain ⟨q, hq, e, hv⟩ := hr x hx
        have hne : q ≠ p := fun e' => h2 x hx (by rw [e, e'])
        exact ⟨q, hq, e, by rw [hv]; simp [upd, hne]⟩
      · exact ⟨p, hp, rfl, by simp [upd]⟩
    · intro q hq
      have hne : q ≠ p := fun e => hq ⟨pickV p, .int .i64 c, clock⟩ (by simp) (by rw [e])
      simp only [upd, if_neg hne]
      exact hz q (fun x hx => hq x (by simp only [Array.toList_push, List.mem_append]; exact .inl hx))
  · have hj : es[j]? = some e0 := by simpa using h2
    have hm0 : e0 ∈ es.toList := List.mem_of_getElem? h2
    obtain ⟨q0, hq0, eq0, hv0⟩ := hr e0 hm0
    have := pickV_inj (eq0.symm.trans h3)
    subst this
    have hsame : es.modify j (fun e => { e with key := pickV q0 }) = es := by
      apply Array.ext'
      rw [Array.toList_modify, modify_eq_set _ _ _ _ h2]
      have : ({ e0 with key := pickV q0 } : MapEntry) = e0 := by rw [← h3]
      rw [this]
      exact WideElems.set_self _ _ _ h2
    have hb2 : (setBlock w b (.map es clock)).heap[b]? = some (.map es clock) := heap_setBlock_same hb _
    refine ⟨e0.val, e0.born, setBlock w b (.map es clock), ?_, ⟨_, _, hb2, ⟨s1, s2, s3⟩, hr, hz⟩, fun c => ⟨setBlock (setBlock w b (.map es clock)) b (.map (es.modify j (fun e => { e with val := .int .i64 c })) clock), ?_, ⟨_, _, heap_setBlock_same hb2 _, MapKept.stamped_modify ⟨s1, s2, s3⟩ _ _ (fun _ _ => rfl) (fun _ _ _ => rfl), ?_, ?_⟩, hg _ _ _ _ hb2⟩⟩
    · simp [Instr.mapEntry, run_underlying Try.underlying62, MapKept.run_getObj_map hb, law32.check w false hl, h1, hj, h3, law32.stays w hl, hsame, MapKept.run_setObj_map _ hb, Result.andThen, setBlock]
    · have hidx : es.findIdx? (fun e => ((e.born : Nat) : Int) == ((e0.born : Nat) : Int)) = some j := by
        rw [WideElems.findIdx_arr]
        exact WideElems.findIdx_born s2 h2
      exact run_entryStore hb2 hidx
    · intro x hx
      rw [Array.toList_modify, modify_eq_set _ _ _ _ h2] at hx
      obtain ⟨i, hi, rfl⟩ := List.getElem_of_mem hx
      rw [List.getElem_set]
      split
      · rename_i hji
        exact ⟨q0, hq0, h3, by simp [upd]⟩
      · rename_i hji
        have hi' : i < es.toList.length := by simpa using hi
        obtain ⟨q, hq, e, hv⟩ := hr es.toList[i] (List.getElem_mem _)
        have hne : q ≠ q0 := fun e' => by
          subst e'
          have hjl := (List.getElem?_eq_some_iff.1 h2).1
          have hje := (List.getElem?_eq_some_iff.1 h2).2
          refine hji ((List.getElem_inj (h₀ := by simpa using hjl) (h₁ := by simpa using hi') s3).1 ?_)
          simp only [List.getElem_map]
          rw [hje, h3, e]
        exact ⟨q, hq, e, by rw [hv]; simp [upd, hne]⟩
    · intro q hq
      by_cases hne : q = q0
      · exfalso
        refine hq ({ e0 with val := .int .i64 c }) ?_ (by rw [hne]; exact h3)
        rw [Array.toList_modify, modify_eq_set _ _ _ _ h2]
        exact List.mem_iff_getElem?.2 ⟨j, by rw [List.getElem?_set_self (List.getElem?_eq_some_iff.1 h2).1]⟩
      · simp only [upd, if_neg hne]
        refine hz q (fun x hx e => ?_)
        obtain ⟨i, hi, rfl⟩ := List.getElem_of_mem hx
        by_cases hij : j = i
        · subst hij
          have hje := (List.getElem?_eq_some_iff.1 h2).2
          rw [hje, h3] at e
          exact hne (pickV_inj e).symm
        · refine hq _ (?_ : es.toList[i] ∈ _) e
          rw [Array.toList_modify, modify_eq_set _ _ _ _ h2]
          exact List.mem_iff_getElem?.2 ⟨i, by rw [List.getElem?_set_ne hij]; exact List.getElem?_eq_getElem hi⟩

theorem CntMap.kept {w w' : World} {b : Nat} {f : Int × Int → Int} (h : CntMap w b f) (hb : w'.heap[b]? = w.heap[b]?) : CntMap w' b f := by
  obtain ⟨es, clock, h1, h2⟩ := h
  exact ⟨es, clock, hb.trans h1, h2⟩
theorem CntMap.lt {w : World} {b : Nat} {f : Int × Int → Int} (h : CntMap w b f) : b < w.heap.size := by
  obtain ⟨es, clock, h1, _⟩ := h
  exact lt_of_block h1
theorem CntMap.made {w : World} {b : Nat} (h : w.heap[b]? = some (.map #[] 0)) : CntMap w b (fun _ => 0) := ⟨_, _, h, MapKept.stamped_empty 0, by simp, fun _ _ => rfl⟩
end Go.Proofs.Ytkbaddopgdfafab
