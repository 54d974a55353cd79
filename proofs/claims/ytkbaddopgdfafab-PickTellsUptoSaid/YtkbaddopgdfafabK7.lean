import Derived.Test.YtkbaddopgdfafabK5
namespace Go.Proofs.Ytkbaddopgdfafab
open Go.RowKit Go.Proofs.Besom

theorem Try.info21 : (Try.prog.info? 21).map (fun i => (i.zero, i.size, i.bytes)) = some (some (.int .i32 0), 1, 4) := by kernel_rfl

/-- What is printed. -/
def printB (l : List (Int × Int)) : ByteArray := (l.map letterI).foldl (fun r n => r ++ Utf8.encode n) ByteArray.empty

theorem picks_at {w : World} {B : Option Addr} {m k : Nat} {ps : List (Int × Int)} (h : Row w 2 B m (picksV ps)) (hk : k < m) :
    ∃ b o, ∃ hl : k < ps.length, B = some ⟨b, o, none⟩ ∧ w.cell? ⟨b, o + k * 2, none⟩ = some (.int .i64 ps[k].1) ∧ w.cell? ⟨b, o + k * 2 + 1, none⟩ = some (.int .i64 ps[k].2) := by
  have hl : ps.length = m := by have := h.1; rw [picksV_len] at this; omega
  have hk' : k < ps.length := by omega
  have hat : ∀ (l : List (Int × Int)) (k j : Nat) (hk : k < l.length), j < 2 → (picksV l)[k * 2 + j]? = (pickC l[k])[j]? := by
    intro l
    induction l with
    | nil => intro k j hk; simp at hk
    | cons o r ih =>
      intro k j hk hj
      cases k with
      | zero =>
        simp only [picksV, List.flatMap_cons, List.getElem_cons_zero]
        rw [List.getElem?_append_left (by simp; omega)]
        congr 1; omega
      | succ k =>
        simp only [picksV, List.flatMap_cons, List.getElem_cons_succ]
        rw [List.getElem?_append_right (by simp; omega), ← ih k j (by simpa using hk) hj]
        show _ = (picksV r)[k * 2 + j]?
        simp only [picksV]
        congr 1; simp; omega
  obtain ⟨b, o, rfl, h0⟩ := h.2 (k * 2 + 0) _ (hat ps k 0 hk' (by omega))
  obtain ⟨_, _, e1, h1⟩ := h.2 (k * 2 + 1) _ (hat ps k 1 hk' (by omega))
  cases e1
  exact ⟨b, o, hk', rfl, by simpa using h0, by simpa [Nat.add_assoc] using h1⟩

theorem print_conv (w : World) (v : Value) (n : Nat) (ps : List (Int × Int)) (base : Nat) (hl : ps.length = n) (ho : w.ownsRow base 21 1 v n ((ps.map letterI).map (.int .i32))) :
    (convert 57 9 v).run Try.prog w = .ok (.string (printB ps)) w := by
  rcases Nat.eq_zero_or_pos n with h0 | h0
  · subst h0
    have hp : ps = [] := List.length_eq_zero_iff.mp hl
    subst hp
    rcases ho.2 with ⟨rfl, -⟩ | ⟨g, cap, cur, rfl, -⟩
    · rw [run_convert_runes_string w 57 9 21 none 0 0 Try.underlying57 Try.underlying21 Try.underlying9]
      rfl
    · exact run_runes_string w 57 9 21 ⟨g, 0, none⟩ cap [] Try.underlying57 Try.underlying21 Try.underlying9 rfl
  · obtain ⟨g, cap, rfl, -, -⟩ := own_form ho h0
    have h := run_runes_string w 57 9 21 ⟨g, 0, none⟩ cap (ps.map letterI) Try.underlying57 Try.underlying21 Try.underlying9 (by
      have h := run_loadCells_list (P := Try.prog) w ⟨g, 0, none⟩ ((ps.map letterI).map (Value.int .i32)) (fun j v hj => by
        rw [addr_add, Nat.zero_add]
        have hj' := (List.getElem?_eq_some_iff.1 hj).1
        exact (ho.cellAt j (by simp at hj'; omega)).trans hj)
      simpa using h)
    rw [List.length_map, hl] at h
    exact h

set_option maxRecDepth 100000 in
set_option maxHeartbeats 3200000 in
theorem print17 (ps : List (Int × Int)) (A : Option Addr) (n c : Nat) (w : World) (hr : Row w 2 A n (picksV ps)) (hn : n * 16 ≤ 140737488351232) :
    Calls Try.prog 17 #[.slice A n c] w fun e w' => e = .returned (.string (printB ps)) ∧ Below w.heap.size w w' := by
  obtain ⟨i0, hi, hz0, hz1, hz2⟩ := info_parts Try.info21
  have HR := Lib.hid hr
  have hl : ps.length = n := by have := hr.1; rw [picksV_len] at this; omega
  have HL := Lib.hid hl
  clear hr hl
  go_enter Try.func17, Try.ntmps17
  go_wp2_with fail
  go_loopw [3, 8] (fun v i wr => ∃ (k : Nat) (v0 : Value), k ≤ n ∧ v0 = v ∧ i = .int .i64 k ∧ wr.ownsRow w.heap.size 21 1 v k (((ps.take k).map letterI).map (.int .i32)) ∧ Below w.heap.size w wr) (fun _ i _ => n - (intOf i).toNat)
  case atStart => exact ⟨0, _, Nat.zero_le _, rfl, rfl, by simpa using World.ownsRow_nil w _ _ _, Below.refl _ _⟩
  case round =>
    obtain ⟨k, v, hk, rfl, rfl, hown, hbel⟩ := hrel
    have O := Lib.hid hown
    have HB := Lib.hid hbel
    clear hown hbel
    by_cases hlt : k < n
    · obtain ⟨b1, o1, hkl, rfl, c0, c1⟩ := picks_at (HR.out.below HB.out) hlt
      have hs : ((ps.take (k + 1)).map letterI).map (Value.int .i32) = ((ps.take k).map letterI).map (Value.int .i32) ++ [.int .i32 (letterI ps[k])] := by
        rw [List.take_succ_eq_append_getElem hkl, List.map_append, List.map_append]; rfl
      have HS := Lib.hid hs
      clear hs
      generalize ps[k] = p at c0 c1 HS
      have hb0 := pickBox p wr
      have HB0 := Lib.hid hb0
      clear hb0
      go_wp2_with fail
      refine (letter28 p _).mono ?_
      rintro e w1 ⟨rfl, b1⟩
      have hb1 := HB0.out.trans (b1.mono HB0.out.size)
      have O1 := Lib.hid (own_below O.out hb1)
      have HB1 := Lib.hid (HB.out.trans (hb1.mono HB.out.size))
      clear b1 hb1
      go_wp2_with (at_builtin; refine wpList_append_row _ rfl (.tmp 12) (.tmp 15) 57 rfl w.heap.size 21 i0 _ 1 4 Try.underlying57 hi hz0 hz1 hz2 rfl (by decide) v k _ rfl (O1.out.alloc _) (some ⟨w1.heap.size, 0, none⟩) 1 1 [.int .i32 (letterI p)] rfl (row_lit w1 #[.int .i32 (letterI p)] 21 1 1 rfl rfl) (by simp [Value.oneCell']) (by unfold maxLen; omega) (by omega) (by have := HB1.out.size; simp; omega) ?_; intro v6 w6 o6 g6 at6)
      have hbel6 := (HB1.out.alloc HB1.out.size (.cells #[.int .i32 (letterI p)] 21)).grown g6 (by have := HB1.out.size; simp; omega) (fun g hg => (O1.out.lt g hg).1)
      go_roundw
      case rel => exact ⟨k + 1, _, by omega, rfl, by go_num, by rw [HS.out]; exact o6, hbel6⟩
      case measure => simp [intOf]; omega
    · have hkn : k = n := by omega
      subst hkn
      have ht : ps.take k = ps := List.take_of_length_le (by have := HL.out; omega)
      have hcv := print_conv wr v k ps w.heap.size HL.out (by have h := O.out; rwa [ht] at h)
      clear ht
      go_wp2_with fail
      go_ret
      exact ⟨rfl, HB.out⟩
end Go.Proofs.Ytkbaddopgdfafab
