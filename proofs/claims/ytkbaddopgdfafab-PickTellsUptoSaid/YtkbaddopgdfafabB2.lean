import Derived.Test.YtkbaddopgdfafabB1
import Derived.MapKept
namespace Go.Proofs.Besom
open Go.RowKit

theorem heap_alloc_at {w : World} {o : Obj} {r : Nat} (hr : r = w.heap.size) : (w.alloc o).heap[r]? = some o := by
  subst hr; exact heap_alloc_new w o

theorem push_setIf (H : Array Obj) (o o' : Obj) : (H.push o).setIfInBounds H.size o' = H.push o' := by
  apply Array.ext
  · simp
  · intro i h1 h2
    have hb : i < (H.push o).size := by simpa using h1
    rw [Array.getElem_setIfInBounds hb]
    rw [Array.getElem_push, Array.getElem_push]
    split
    · rename_i he; subst he; simp
    · rename_i he
      have : i < H.size := by simp at h2; omega
      simp [this]

theorem setIf_alloc {w : World} {o o' : Obj} {r : Nat} (hr : r = w.heap.size) : ({ w.alloc o with heap := (w.alloc o).heap.setIfInBounds r o' } : World) = w.alloc o' := by
  subst hr
  show World.mk ((w.heap.push o).setIfInBounds w.heap.size o') _ _ _ _ = World.mk (w.heap.push o') _ _ _ _
  rw [push_setIf]
  rfl

section
variable {P : Program} {w : World} {r : Nat} {mt kt et : TypeId} {d : TypeDesc} {es : Array MapEntry} {c : Nat} {q : Value}

theorem run_insert_alloc {x : Value} (hm : P.underlying mt = some (.map kt et)) (hk : P.underlying kt = some d) (hq : MapKept.IsKey d q)
    (hr : r = w.heap.size) (hf : Instr.findNow d q es.toList 0 = some none) :
    (Instr.mapUpdate mt (.map (some r)) q x).run P (w.alloc (.map es c)) = .ok () (w.alloc (.map (es.push { key := q, val := x, born := c }) (c + 1))) := by
  have hg := heap_alloc_at (o := .map es c) hr
  have h := setIf_alloc (w := w) (o := .map es c) (o' := .map (es.push { key := q, val := x, born := c }) (c + 1)) hr
  simp [Instr.mapUpdate, run_underlying hm, MapKept.run_getObj_map hg, MapKept.run_checkKey hk hq, MapKept.run_findKey hk hf, MapKept.run_setObj_map _ hg, Result.andThen]
  exact h

theorem run_lookup_map (hm : P.underlying mt = some (.map kt et)) (hk : P.underlying kt = some d) (hq : MapKept.IsKey d q)
    (hg : w.heap[r]? = some (.map es c)) {i : Nat} {v : Value} (hf : Instr.findNow d q es.toList 0 = some (some (i, v))) :
    (Instr.lookup mt (.map (some r)) q false).run P w = .ok v w := by
  simp [Instr.lookup, run_underlying hm, MapKept.run_getObj_map hg, MapKept.run_checkKey hk hq, MapKept.run_findKey hk hf, Result.andThen]

theorem run_lookup_map_none {z : Value} (hm : P.underlying mt = some (.map kt et)) (hk : P.underlying kt = some d) (hq : MapKept.IsKey d q)
    (hg : w.heap[r]? = some (.map es c)) (hz : (zeroValue et).run P w = .ok z w) (hf : Instr.findNow d q es.toList 0 = some none) :
    (Instr.lookup mt (.map (some r)) q false).run P w = .ok z w := by
  simp [Instr.lookup, run_underlying hm, MapKept.run_getObj_map hg, MapKept.run_checkKey hk hq, MapKept.run_findKey hk hf, hz, Result.andThen]
end

theorem run_equalIn_func_nil {P : Program} (w : World) (d : Nat) {t : TypeId} {ps rs : Array TypeId} {b : Bool} {f : Fn} {x y : Array Value} (ht : P.underlying t = some (.func ps rs b)) :
    (Op.equalIn (d + 1) t (.func f x y) .nilFunc).run P w = .ok false w := by
  simp [Op.equalIn, run_underlying ht]
theorem run_equalIn_nil_func {P : Program} (w : World) (d : Nat) {t : TypeId} {ps rs : Array TypeId} {b : Bool} (ht : P.underlying t = some (.func ps rs b)) :
    (Op.equalIn (d + 1) t .nilFunc .nilFunc).run P w = .ok true w := by
  simp [Op.equalIn, run_underlying ht]

theorem run_eql_func_nil {P : Program} (w : World) {t : TypeId} {ps rs : Array TypeId} {b : Bool} (f : Fn) (x y : Array Value) (ht : P.underlying t = some (.func ps rs b)) :
    (binOp .eql t (.func f x y) .nilFunc).run P w = .ok (.bool false) w := by
  simp only [binOp]
  simp [Op.equal, Op.maxDepth, run_equalIn_func_nil w 9999 ht]

theorem run_eql_nil_func {P : Program} (w : World) {t : TypeId} {ps rs : Array TypeId} {b : Bool} (ht : P.underlying t = some (.func ps rs b)) :
    (binOp .eql t .nilFunc .nilFunc).run P w = .ok (.bool true) w := by
  simp only [binOp]
  simp [Op.equal, Op.maxDepth, run_equalIn_nil_func w 9999 ht]

end Go.Proofs.Besom
