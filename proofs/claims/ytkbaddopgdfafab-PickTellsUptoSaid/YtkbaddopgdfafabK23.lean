import Derived.Test.YtkbaddopgdfafabK22
namespace Go.Proofs.Ytkbaddopgdfafab
open Go.RowKit Go.Proofs.Besom

def someP (x : Int) : Int × Int := if x % 33 = 0 then (0, 0) else if x % 33 ≤ 16 then (1, x % 33) else (2, x % 33 - 16)
def someL (xs : List Int) : List (Int × Int) := xs.map someP

set_option maxRecDepth 100000 in
set_option maxHeartbeats 3200000 in
theorem some25 (A : Option Addr) (n c : Nat) (xs : List Int) (w : World) (hr : Row w 1 A n (xs.map (.int .u8))) (hn : n * 16 ≤ 140737488351232) (hx : ∀ x ∈ xs, 0 ≤ x ∧ x ≤ 255) :
    Calls Try.prog 25 #[.slice A n c] w fun e w' => ∃ v, e = .returned v ∧ w'.ownsRow w.heap.size 32 2 v n (picksV (someL xs)) ∧ Below w.heap.size w w' := by
  obtain ⟨i0, hi, hz0, hz1, hz2⟩ := info_parts Try.info32
  have HR := Lib.hid hr
  have HXX := Lib.hid hx
  have hl : xs.length = n := by simpa using hr.1
  have HL := Lib.hid hl
  clear hr hx hl
  go_enter Try.func25, Try.ntmps25
  go_wp2_with fail
  go_loopw [3, 4] (fun v i wr => ∃ (k : Nat) (v0 : Value), k ≤ n ∧ v0 = v ∧ i = .int .i64 k ∧ wr.ownsRow w.heap.size 32 2 v k (picksV (someL (xs.take k))) ∧ Below w.heap.size w wr) (fun _ i _ => n - (intOf i).toNat)
  case atStart => exact ⟨0, _, Nat.zero_le _, rfl, rfl, World.ownsRow_nil w _ _ _, Below.refl _ _⟩
  case round =>
    obtain ⟨k, v, hk, rfl, rfl, hown, hbel⟩ := hrel
    have O := Lib.hid hown
    have HB := Lib.hid hbel
    clear hown hbel
    by_cases hlt : k < n
    · have hlt' : (k : Int) < (n : Int) := by omega
      obtain ⟨b1, o1, rfl, c0, hkl⟩ := (HR.out.below HB.out).int_at hlt
      have hg : xs.getD k 0 = xs[k] := by simp [hkl]
      have hS := Lib.hid (show picksV (someL (xs.take (k + 1))) = picksV (someL (xs.take k)) ++ pickC (someP (xs.getD k 0)) by
        rw [List.take_succ_eq_append_getElem hkl, ← hg]; simp [someL, picksV])
      have hx := HXX.out _ (List.getElem_mem hkl)
      rw [← hg] at hx
      obtain ⟨x0, x1⟩ := hx
      clear hg
      generalize xs.getD k 0 = x at *
      have h33 : 0 ≤ x % 33 := by omega
      have h34 : x % 33 ≤ 32 := by omega
      rcases (show x % 33 = 0 ∨ (1 ≤ x % 33 ∧ x % 33 ≤ 16) ∨ 17 ≤ x % 33 by omega) with h | ⟨h, h'⟩ | h
      · have hp := Lib.hid (show someP x = (0, 0) by rw [someP, if_pos h])
        go_wp2_with (at_builtin; refine wpList_append_row _ rfl (.tmp 27) (.tmp 29) 22 rfl w.heap.size 32 i0 _ 2 16 Try.underlying22 hi hz0 hz1 hz2 rfl (by decide) v k _ rfl (O.out.alloc _) (some ⟨wr.heap.size, 0, none⟩) 1 1 [.int .i64 0, .int .i64 0] rfl (row_lit wr #[.int .i64 0, .int .i64 0] 32 2 1 rfl rfl) (by simp [Value.oneCell']) (by unfold maxLen; omega) (by omega) (by have := HB.out.size; simp; omega) ?_; intro v6 w6 o6 g6 at6)
        have hbel6 := (HB.out.alloc HB.out.size (.cells #[.int .i64 0, .int .i64 0] 32)).grown g6 (by have := HB.out.size; simp; omega) (fun g hg => (O.out.lt g hg).1)
        go_roundw
        case rel => exact ⟨k + 1, _, by omega, rfl, by go_num, by rw [hS.out, hp.out]; exact o6, hbel6⟩
        case measure => simp [intOf]; omega
      · have hp := Lib.hid (show someP x = (1, x % 33) by rw [someP, if_neg (by omega), if_pos h'])
        go_wp2_with (at_builtin; refine wpList_append_row _ rfl (.tmp 34) (.tmp 37) 22 rfl w.heap.size 32 i0 _ 2 16 Try.underlying22 hi hz0 hz1 hz2 rfl (by decide) v k _ rfl (O.out.alloc _) (some ⟨wr.heap.size, 0, none⟩) 1 1 [.int .i64 1, .int .i64 (x % 33)] rfl (row_lit wr #[.int .i64 1, .int .i64 (x % 33)] 32 2 1 rfl rfl) (by simp [Value.oneCell']) (by unfold maxLen; omega) (by omega) (by have := HB.out.size; simp; omega) ?_; intro v6 w6 o6 g6 at6)
        have hbel6 := (HB.out.alloc HB.out.size (.cells #[.int .i64 1, .int .i64 (x % 33)] 32)).grown g6 (by have := HB.out.size; simp; omega) (fun g hg => (O.out.lt g hg).1)
        go_roundw
        case rel => exact ⟨k + 1, _, by omega, rfl, by go_num, by rw [hS.out, hp.out]; exact o6, hbel6⟩
        case measure => simp [intOf]; omega
      · have hp := Lib.hid (show someP x = (2, x % 33 - 16) by rw [someP, if_neg (by omega), if_neg (by omega)])
        go_wp2_with (at_builtin; refine wpList_append_row _ rfl (.tmp 18) (.tmp 22) 22 rfl w.heap.size 32 i0 _ 2 16 Try.underlying22 hi hz0 hz1 hz2 rfl (by decide) v k _ rfl (O.out.alloc _) (some ⟨wr.heap.size, 0, none⟩) 1 1 [.int .i64 2, .int .i64 (x % 33 - 16)] rfl (row_lit wr #[.int .i64 2, .int .i64 (x % 33 - 16)] 32 2 1 rfl rfl) (by simp [Value.oneCell']) (by unfold maxLen; omega) (by omega) (by have := HB.out.size; simp; omega) ?_; intro v6 w6 o6 g6 at6)
        have hbel6 := (HB.out.alloc HB.out.size (.cells #[.int .i64 2, .int .i64 (x % 33 - 16)] 32)).grown g6 (by have := HB.out.size; simp; omega) (fun g hg => (O.out.lt g hg).1)
        go_roundw
        case rel => exact ⟨k + 1, _, by omega, rfl, by go_num, by rw [hS.out, hp.out]; exact o6, hbel6⟩
        case measure => simp [intOf]; omega
    · have hkn : k = n := by omega
      subst hkn
      have ht := Lib.hid (show xs.take k = xs from List.take_of_length_le (by have := HL.out; omega))
      go_wp2_with fail
      go_ret
      exact ⟨_, rfl, by have h := O.out; rwa [ht.out] at h, HB.out⟩
end Go.Proofs.Ytkbaddopgdfafab
