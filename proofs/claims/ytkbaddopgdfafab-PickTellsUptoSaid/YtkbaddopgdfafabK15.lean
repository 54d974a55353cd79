import Derived.Test.YtkbaddopgdfafabK14
import Derived.Lib.OthersKept
import Derived.BigCall
namespace Go.Proofs.Ytkbaddopgdfafab
open Go.RowKit Go.Proofs.Besom

theorem decode_rune (s : ByteArray) (pos : Nat) : (Utf8.decode s pos).1 ≤ 1114111 := by
  have hb : ∀ k, (s.get! (pos + k)).toNat < 256 := fun k => (s.get! (pos + k)).toNat_lt
  have h0 := hb 0; have h1 := hb 1; have h2 := hb 2; have h3 := hb 3
  simp only [Utf8.decode]
  repeat' split
  all_goals simp_all [Utf8.runeError, Utf8.valid]
  all_goals omega
theorem width_pos (s : ByteArray) (pos : Nat) (h : pos < s.size) : 1 ≤ (Utf8.decode s pos).2 := by
  by_cases ha : (s[pos]'h).toNat < 128
  · rw [decode_ascii s pos h ha]; exact Nat.le_refl _
  · exact (decode_high s pos h (by omega)).2

/-- The picks of a text from a place on; none: it does not parse. -/
def parseGo (s : ByteArray) : Nat → Nat → Option (List (Int × Int))
  | 0, _ => some []
  | fuel + 1, pos =>
    if pos < s.size then
      if (Utf8.decode s pos).1 = 32 ∨ (Utf8.decode s pos).1 = 10 then parseGo s fuel (pos + (Utf8.decode s pos).2)
      else if (ofR (Utf8.decode s pos).1).2 then (parseGo s fuel (pos + (Utf8.decode s pos).2)).map ((ofR (Utf8.decode s pos).1).1 :: ·) else none
    else some []
def parseO (s : ByteArray) : Option (List (Int × Int)) := parseGo s s.size 0
def outO : Option (List (Int × Int)) → List (Int × Int)
  | some l => if l.length > 100000 then [] else l
  | none => []
def errO : Option (List (Int × Int)) → Int
  | some l => if l.length > 100000 then 3 else 0
  | none => 2
def outP (s : ByteArray) := outO (parseO s)
def errP (s : ByteArray) := errO (parseO s)

theorem parseGo_end (s : ByteArray) (fuel pos : Nat) (h : ¬ pos < s.size) : parseGo s fuel pos = some [] := by
  cases fuel with
  | zero => rfl
  | succ f => simp [parseGo, h]

def ParsePost (w : World) (s : ByteArray) (e : Ending) (w' : World) : Prop :=
  ∃ v, e = .returned (.tuple #[v, .int .i64 (errP s)]) ∧ w'.ownsRow w.heap.size 32 2 v (outP s).length (picksV (outP s)) ∧ Below w.heap.size w w'

theorem own_iter {w : World} {B : Nat} {e : TypeId} {z : Nat} {v : Value} {n : Nat} {xs : List Value} (h : w.ownsRow B e z v n xs) {k : Nat} {s : ByteArray} {pos : Nat} (hk : w.heap[k]? = some (.stringIter s pos)) (pos' : Nat) :
    (w.iterAt k s pos').ownsRow B e z v n xs := by
  refine ⟨h.1, ?_⟩
  rcases h.2 with h2 | ⟨g, cap, cur, hv, hg, hh, r⟩
  · exact .inl h2
  · refine .inr ⟨g, cap, cur, hv, hg, (Lib.iterAt_other w k g s pos' (fun e => ?_)).trans hh, r⟩
    subst e; rw [hk] at hh; cases hh

theorem ret2_int {k : IntKind} {v : Value} {a b : Int} (h : a = b) : Ending.returned (.tuple #[v, .int k a]) = .returned (.tuple #[v, .int k b]) := by rw [h]

set_option maxRecDepth 100000 in
set_option maxHeartbeats 3200000 in
theorem parse11 (s : ByteArray) (w : World) (hs : s.size * 16 ≤ 140737488351232) : Calls Try.prog 11 #[.string s] w (ParsePost w s) := by
  obtain ⟨i0, hi, hz0, hz1, hz2⟩ := info_parts Try.info32
  have HI := Lib.hid (World.iter_heap w s 0)
  have HB0 := Lib.hid ((Below.refl w.heap.size w).alloc (Nat.le_refl _) (.stringIter s 0))
  go_enter Try.func11, Try.ntmps11
  go_wp2_with fail
  go_loopw [4] (fun v wr => ∃ (pos fuel : Nat) (acc : List (Int × Int)) (v0 : Value), v0 = v ∧ Hid (wr.ownsRow w.heap.size 32 2 v acc.length (picksV acc)) ∧ Hid (wr.heap[w.heap.size]? = some (.stringIter s pos)) ∧ Hid (Below w.heap.size w wr) ∧ Hid ((parseGo s fuel pos).map (acc ++ ·) = parseO s) ∧ s.size ≤ pos + fuel ∧ acc.length ≤ pos ∧ acc.length ≤ s.size) (fun _ wr => s.size - wr.iterPos w.heap.size)
  case atStart => exact ⟨0, s.size, [], _, rfl, Lib.hid (World.ownsRow_nil _ _ _ _), HI, HB0, Lib.hid (by simp [parseO]), by omega, by simp, by simp⟩
  case round =>
    obtain ⟨pos, fuel, acc, v, rfl, HO, HT, HB, HP, hf, hal, hal2⟩ := hrel
    have hsz : w.heap.size < wr.heap.size := lt_of_block HT.out
    by_cases hp : pos < s.size
    · have hnx : ∀ ty, (Instr.next (.pointer (some ⟨w.heap.size, 0, none⟩)) true ty).run Try.prog wr = _ := fun ty => Lib.run_next_any_at wr w.heap.size s pos ty HT.out hp
      have hwd := width_pos s pos hp
      have hru := decode_rune s pos
      have HW := Lib.hid hwd
      obtain ⟨f, rfl⟩ : ∃ f, fuel = f + 1 := ⟨fuel - 1, by omega⟩
      have hgo : parseGo s (f + 1) pos = if (Utf8.decode s pos).1 = 32 ∨ (Utf8.decode s pos).1 = 10 then parseGo s f (pos + (Utf8.decode s pos).2)
        else if (ofR (Utf8.decode s pos).1).2 then (parseGo s f (pos + (Utf8.decode s pos).2)).map ((ofR (Utf8.decode s pos).1).1 :: ·) else none := by rw [parseGo, if_pos hp]
      have HG := Lib.hid hgo
      have HO2 := Lib.hid (own_iter HO.out HT.out (pos + (Utf8.decode s pos).2))
      have HT2 := Lib.hid (Lib.iterAt_heap wr w.heap.size s pos (pos + (Utf8.decode s pos).2) HT.out)
      have HB2 := Lib.hid (Lib.below_iterAt HB.out (k := w.heap.size) (Nat.le_refl _) s (pos + (Utf8.decode s pos).2))
      have HZ2 := Lib.hid (Lib.iterAt_size wr w.heap.size s (pos + (Utf8.decode s pos).2))
      have HM : Hid (wr.iterPos w.heap.size = pos) := Lib.hid (by simp [World.iterPos, HT.out])
      have HOF := Lib.hid (fun w' => of27 (Utf8.decode s pos).1 w' (by omega) (by omega))
      clear hgo
      generalize (Utf8.decode s pos).1 = r at *
      generalize hW2 : wr.iterAt w.heap.size s (pos + (Utf8.decode s pos).2) = W2 at *
      generalize (Utf8.decode s pos).2 = wd at *
      clear hW2
      have HM2 : Hid (W2.iterPos w.heap.size = pos + wd) := Lib.hid (by simp [World.iterPos, HT2.out])
      by_cases hbl : r = 32 ∨ r = 10
      · have HP2 := Lib.hid (show (parseGo s f (pos + wd)).map (acc ++ ·) = parseO s by rw [← HP.out, HG.out, if_pos hbl])
        have fin : (∃ (pos' fuel' : Nat) (acc' : List (Int × Int)) (v0 : Value), v0 = v ∧ Hid (W2.ownsRow w.heap.size 32 2 v acc'.length (picksV acc')) ∧ Hid (W2.heap[w.heap.size]? = some (.stringIter s pos')) ∧ Hid (Below w.heap.size w W2) ∧ Hid ((parseGo s fuel' pos').map (acc' ++ ·) = parseO s) ∧ s.size ≤ pos' + fuel' ∧ acc'.length ≤ pos' ∧ acc'.length ≤ s.size) :=
          ⟨pos + wd, f, acc, v, rfl, HO2, HT2, HB2, HP2, by omega, by omega, hal2⟩
        have FIN := Lib.hid fin
        clear fin
        rcases hbl with rfl | rfl
        all_goals
          go_wp2_with fail
          go_roundw
          case rel => exact FIN.out
          case measure => have h1 := HM.out; have h2 := HM2.out; have h3 := HW.out; rw [h1, h2]; omega
      · have hr1 : ((r : Int) == 32) = false := by simp; omega
        have hr2 : ((r : Int) == 10) = false := by simp; omega
        have hbn : ¬ (r = 32 ∨ r = 10) := hbl
        have HG2 := Lib.hid (show parseGo s (f + 1) pos = if (ofR r).2 then (parseGo s f (pos + wd)).map ((ofR r).1 :: ·) else none by rw [HG.out, if_neg hbn])
        clear hbn hbl HG
        unfold OfPost at HOF
        cases hok : (ofR r).2
        · have hpo : parseO s = none := by rw [← HP.out, HG2.out, hok]; rfl
          have hE := Lib.hid (show outP s = [] ∧ errP s = 2 by simp [outP, errP, hpo, outO, errO])
          rw [hok] at HOF
          clear hok hpo HG2
          generalize (ofR r).1 = p at *
          go_wp2_with fail
          refine (HOF.out W2).mono ?_
          rintro e w5 ⟨rfl, b5⟩
          have HB5 := Lib.hid (HB2.out.trans (b5.mono HB2.out.size))
          clear b5
          go_wp2_with fail
          go_ret2
          exact ⟨_, ret2_int hE.out.2.symm, by rw [hE.out.1]; exact World.ownsRow_nil _ _ _ _, HB5.out.alloc HB5.out.size _⟩
        · have HP2 := Lib.hid (show (parseGo s f (pos + wd)).map ((acc ++ [(ofR r).1]) ++ ·) = parseO s by
            rw [← HP.out, HG2.out, hok, if_pos rfl, Option.map_map]; congr 1; funext l; simp)
          rw [hok] at HOF
          clear hok HG2
          generalize (ofR r).1 = p at *
          go_wp2_with fail
          refine (HOF.out W2).mono ?_
          rintro e w5 ⟨rfl, b5⟩
          have HB5 := Lib.hid (HB2.out.trans (b5.mono HB2.out.size))
          have HO5 := Lib.hid (own_below HO2.out b5)
          have HT5 := Lib.hid ((b5.block _ (lt_of_block HT2.out)).trans HT2.out)
          have HB6 := Lib.hid (HB5.out.alloc HB5.out.size (.cells #[.int .i64 p.1, .int .i64 p.2] 32))
          have HO6 := Lib.hid (HO5.out.alloc (.cells #[.int .i64 p.1, .int .i64 p.2] 32))
          have HT6 : Hid ((w5.alloc (.cells #[.int .i64 p.1, .int .i64 p.2] 32)).heap[w.heap.size]? = some (.stringIter s (pos + wd))) := Lib.hid ((Below.heap_alloc _ _ _ (lt_of_block HT5.out)).trans HT5.out)
          clear b5
          go_wp2_with (at_builtin; refine wpList_append_row _ rfl (.tmp 27) (.tmp 29) 22 rfl w.heap.size 32 i0 _ 2 16 Try.underlying22 hi hz0 hz1 hz2 rfl (by decide) v acc.length _ rfl (HO6.out.alloc _) (some ⟨w5.heap.size + 1, 0, none⟩) 1 1 [.int .i64 p.1, .int .i64 p.2] rfl (row_lit (w5.alloc (.cells #[.int .i64 p.1, .int .i64 p.2] 32)) #[.int .i64 p.1, .int .i64 p.2] 32 2 1 rfl (by simp)) (by simp [Value.oneCell']) (by unfold maxLen; omega) (by omega) (by have := HB6.out.size; simp; simp at this; omega) ?_; intro v6 w6 o6 g6 at6)
          have hgt : ∀ g, v.ownBlock = some g → w.heap.size ≤ g := fun g hg => (HO6.out.lt g hg).1
          have HB7 := Lib.hid ((HB6.out.alloc HB6.out.size (.cells #[.int .i64 p.1, .int .i64 p.2] 32)).grown g6 (by have := HB6.out.size; simp; simp at this; omega) hgt)
          have hne : v.ownBlock ≠ some w.heap.size := fun he => by
            rcases HO6.out.2 with ⟨rfl, _⟩ | ⟨g, cap, cur, rfl, _, hh, _⟩
            · cases he
            · simp only [Value.ownBlock, Option.some.injEq] at he
              subst he; rw [HT6.out] at hh; cases hh
          have HT7 := Lib.hid ((g6.block w.heap.size (by have := lt_of_block HT6.out; simp at this ⊢; omega) (fun he => hne he.symm)).trans ((Below.heap_alloc _ _ _ (lt_of_block HT6.out)).trans HT6.out))
          have HO7 : Hid (w6.ownsRow w.heap.size 32 2 v6 (acc ++ [p]).length (picksV (acc ++ [p]))) := Lib.hid (by rw [picksV_snoc, List.length_append]; exact o6)
          go_roundw
          case rel => exact ⟨pos + wd, f, acc ++ [p], _, rfl, HO7, HT7, HB7, HP2, by omega, by have := HW.out; simp; omega, by have := HW.out; simp; omega⟩
          case measure => have h1 := HM.out; have h2 : w6.iterPos w.heap.size = pos + wd := by { simp only [World.iterPos, HT7.out] }; have h3 := HW.out; rw [h1, h2]; omega
    · have hnx : ∀ ty, (Instr.next (.pointer (some ⟨w.heap.size, 0, none⟩)) true ty).run Try.prog wr = _ := fun ty => Lib.run_next_end_at wr w.heap.size s pos ty HT.out hp
      have hpo : parseO s = some acc := by rw [← HP.out, parseGo_end s fuel pos hp]; simp
      have HPO := Lib.hid hpo
      clear hpo
      obtain ⟨B, c, rfl, -⟩ := own_row HO.out
      by_cases hm : 100000 < acc.length
      · have hE := Lib.hid (show outP s = [] ∧ errP s = 3 by simp [outP, errP, HPO.out, outO, errO, hm])
        go_wp2_with fail
        go_ret2
        exact ⟨_, ret2_int hE.out.2.symm, by rw [hE.out.1]; exact World.ownsRow_nil _ _ _ _, HB.out⟩
      · have hE := Lib.hid (show outP s = acc ∧ errP s = 0 by simp [outP, errP, HPO.out, outO, errO, hm])
        go_wp2_with fail
        go_ret2
        exact ⟨_, ret2_int hE.out.2.symm, by rw [hE.out.1]; exact HO.out, HB.out⟩
end Go.Proofs.Ytkbaddopgdfafab
