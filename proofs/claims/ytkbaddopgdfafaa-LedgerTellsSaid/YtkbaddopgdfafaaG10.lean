import Derived.Test.YtkbaddopgdfafaaG8
import Derived.IntWalk
namespace Go.Proofs.Ytkbaddopgdfafaa
open Go.RowKit Go.Proofs.Besom

theorem w64 {x : Int} (h0 : -9223372036854775808 ≤ x) (h1 : x ≤ 9223372036854775807) : wrap64 x = x := IntWalk.wrap64_in _ ⟨h0, h1⟩

theorem sum_set : ∀ {l : List Int} {k : Nat} (hk : k < l.length) (v : Int), (l.set k v).sum = l.sum - l[k] + v
  | a :: l, 0, _, v => by simp; omega
  | a :: l, k + 1, hk, v => by
    simp only [List.set_cons_succ, List.sum_cons, List.getElem_cons_succ]
    rw [sum_set (by simpa using hk)]; omega

/-- What holds of a ledger behind i deeds. -/
structure LInv (i : Nat) (l : Led) : Prop where
  sc : 0 ≤ l.sc ∧ l.sc ≤ i
  sp : 0 ≤ l.sp ∧ l.sp ≤ 8 * i
  po : 0 ≤ l.pool ∧ l.pool ≤ i
  ba : ∀ b ∈ l.bal, -(8 * (i : Int)) ≤ b ∧ b ≤ 8 * i
  su : l.sp + l.pool + l.bal.sum = l.sc

theorem turn_bal {l : Led} {who x : Int} (hw : 1 ≤ who ∧ who ≤ l.bal.length) : ∃ (k : Nat) (hk : k < l.bal.length), who = (k : Int) + 1 ∧ (turn l who x).bal = l.bal.set k (wrap64 (l.bal[k] + x)) := by
  refine ⟨(who - 1).toNat, by omega, by omega, ?_⟩
  have hk : (who - 1).toNat < l.bal.length := by omega
  simp only [turn, List.getD_eq_getElem?_getD, List.getElem?_eq_getElem hk, Option.getD_some]

theorem turn_inv {i : Nat} {l : Led} {who x : Int} (hw : 1 ≤ who ∧ who ≤ l.bal.length) (hx : -8 ≤ x ∧ x ≤ 8) (hi : i ≤ 1000) (hb : ∀ b ∈ l.bal, -(8 * (i : Int)) ≤ b ∧ b ≤ 8 * i) :
    (∀ b ∈ (turn l who x).bal, -(8 * ((i + 1 : Nat) : Int)) ≤ b ∧ b ≤ 8 * ((i + 1 : Nat) : Int)) ∧ (turn l who x).bal.sum = l.bal.sum + x := by
  obtain ⟨k, hk, -, he⟩ := turn_bal (x := x) hw
  have hbk := hb _ (List.getElem_mem hk)
  rw [w64 (by omega) (by omega)] at he
  rw [he]
  refine ⟨fun b hm => ?_, ?_⟩
  · rcases List.mem_or_eq_of_mem_set hm with h | h
    · have := hb b h; omega
    · omega
  · rw [sum_set hk]; omega

theorem new_inv (m : Int) : LInv 0 (newL m) := by
  refine ⟨by simp [newL], by simp [newL], by simp [newL], fun b hb => ?_, ?_⟩
  · simp only [newL, List.mem_replicate] at hb
    omega
  · simp [newL]

theorem earn_inv {i : Nat} {l : Led} {who : Int} (hi : i ≤ 1000) (h : LInv i l) : LInv (i + 1) (earnL l who) := by
  obtain ⟨⟨a0, a1⟩, ⟨b0, b1⟩, ⟨c0, c1⟩, hb, hs⟩ := h
  unfold earnL
  cases ht : thereB who l.bal.length
  · simp only [Bool.false_eq_true, if_false]
    refine ⟨?_, ?_, ?_, fun b hm => ?_, ?_⟩
    · show 0 ≤ wrap64 (l.sc + 1) ∧ wrap64 (l.sc + 1) ≤ _
      rw [w64 (by omega) (by omega)]; omega
    · show 0 ≤ l.sp ∧ l.sp ≤ _
      omega
    · show 0 ≤ wrap64 (l.pool + 1) ∧ wrap64 (l.pool + 1) ≤ _
      rw [w64 (by omega) (by omega)]; omega
    · have := hb b hm; omega
    · show l.sp + wrap64 (l.pool + 1) + l.bal.sum = wrap64 (l.sc + 1)
      rw [w64 (by omega) (by omega), w64 (by omega) (by omega)]; omega
  · simp only [if_true]
    obtain ⟨t1, t2⟩ := turn_inv (l := { l with sc := wrap64 (l.sc + 1) }) (x := 1) (there_yes ht) (by omega) hi hb
    refine ⟨?_, ?_, ?_, t1, ?_⟩
    · show 0 ≤ wrap64 (l.sc + 1) ∧ wrap64 (l.sc + 1) ≤ _
      rw [w64 (by omega) (by omega)]; omega
    · show 0 ≤ l.sp ∧ l.sp ≤ _
      omega
    · show 0 ≤ l.pool ∧ l.pool ≤ _
      omega
    · show l.sp + l.pool + (turn _ who 1).bal.sum = wrap64 (l.sc + 1)
      rw [t2, w64 (by omega) (by omega)]
      show l.sp + l.pool + (l.bal.sum + 1) = _
      omega

theorem LInv.mono {i j : Nat} {l : Led} (h : LInv i l) (hij : i ≤ j) : LInv j l := by
  obtain ⟨⟨a0, a1⟩, ⟨b0, b1⟩, ⟨c0, c1⟩, hb, hs⟩ := h
  exact ⟨by omega, by omega, by omega, fun b hm => by have := hb b hm; omega, hs⟩

theorem take_inv {i : Nat} {l : Led} {who n : Int} (hi : i ≤ 1000) (hn : n ≤ 8) (h : LInv i l) : LInv (i + 1) (takeL l who n).1 := by
  unfold takeL
  split
  · rename_i ht
    obtain ⟨⟨a0, a1⟩, ⟨b0, b1⟩, ⟨c0, c1⟩, hb, hs⟩ := h
    generalize hm : min n l.pool = m at *
    have hm1 : m ≤ 8 := by omega
    have hm2 : m ≤ l.pool := by omega
    have ht2 := ht.2
    have hw : wrap64 (l.pool - m) = l.pool - m := w64 (by omega) (by omega)
    obtain ⟨t1, t2⟩ := turn_inv (l := { l with pool := wrap64 (l.pool - m) }) (x := m) (there_yes ht.1) (by omega) hi hb
    refine ⟨?_, ?_, ?_, t1, ?_⟩
    · show 0 ≤ l.sc ∧ l.sc ≤ _
      omega
    · show 0 ≤ l.sp ∧ l.sp ≤ _
      omega
    · show 0 ≤ wrap64 (l.pool - m) ∧ wrap64 (l.pool - m) ≤ _
      omega
    · show l.sp + wrap64 (l.pool - m) + (turn _ who m).bal.sum = l.sc
      rw [t2]
      show l.sp + wrap64 (l.pool - m) + (l.bal.sum + m) = l.sc
      omega
  · exact h.mono (by omega)

theorem spend_inv {i : Nat} {l : Led} {who p m : Int} (hi : i ≤ 1000) (hp0 : 0 ≤ p) (hp : p ≤ 8) (h : LInv i l) : LInv (i + 1) (spendL l who p m).1 := by
  unfold spendL
  split
  · rename_i ht
    obtain ⟨⟨a0, a1⟩, ⟨b0, b1⟩, ⟨c0, c1⟩, hb, hs⟩ := h
    have hq := priced_may ht
    simp only [pricedB, Bool.and_eq_true] at hq
    have hw : wrap64 (l.sp + p) = l.sp + p := w64 (by omega) (by omega)
    obtain ⟨t1, t2⟩ := turn_inv (l := { l with sp := wrap64 (l.sp + p) }) (x := -p) (there_yes hq.1) (by omega) hi hb
    refine ⟨?_, ?_, ?_, t1, ?_⟩
    · show 0 ≤ l.sc ∧ l.sc ≤ _
      omega
    · show 0 ≤ wrap64 (l.sp + p) ∧ wrap64 (l.sp + p) ≤ _
      omega
    · show 0 ≤ l.pool ∧ l.pool ≤ _
      omega
    · show wrap64 (l.sp + p) + l.pool + (turn _ who (-p)).bal.sum = l.sc
      rw [t2]
      show wrap64 (l.sp + p) + l.pool + (l.bal.sum + -p) = l.sc
      omega
  · exact h.mono (by omega)

theorem do_inv {i : Nat} {d : Dd} {l : Led} (hd : d.ok) (hi : i ≤ 1000) (h : LInv i l) : LInv (i + 1) (doL d l) := by
  obtain ⟨-, -, hn, hl⟩ := hd
  unfold doL
  split
  · exact take_inv hi (by omega) h
  · split
    · exact spend_inv hi (by omega) (by omega) h
    · exact earn_inv hi h

theorem turn_len {l : Led} {who x : Int} : (turn l who x).bal.length = l.bal.length := by simp [turn]
theorem do_len {d : Dd} {l : Led} : (doL d l).bal.length = l.bal.length := by
  unfold doL takeL spendL earnL
  repeat' split
  all_goals simp [turn_len]
end Go.Proofs.Ytkbaddopgdfafaa
