import Derived.Test.YtkbaddopgdfafabK7
namespace Go.Proofs.Ytkbaddopgdfafab
open Go.RowKit Go.Proofs.Besom

abbrev ent (k : Int) (v : Int) (born : Nat) : MapEntry := { key := .int .i64 k, val := .int .i64 v, born }
abbrev mostM (n m : Int) : Obj := .map #[ent 1 n 0, ent 2 m 1] 2
/-- Is a pick of no machine that there is? -/
def strangeP (n m : Int) (p : Int × Int) : Bool := !rightP p || (p.1 == 1 && decide (n < p.2)) || (p.1 == 2 && decide (m < p.2))

set_option maxRecDepth 100000 in
set_option maxHeartbeats 1600000 in
theorem known31 (n m : Int) (c b : Nat) (p : Int × Int) (w : World) (hc : w.heap[c]? = some (.cells #[.map (some b)] 60 (0, 0))) (hb : w.heap[b]? = some (mostM n m)) :
    Calls Try.prog 31 #[pickV p, .pointer (some ⟨c, 0, none⟩)] w fun e w' => e = .returned (.bool (strangeP n m p)) ∧ Below w.heap.size w w' := by
  have HB := Lib.hid (pickBox p w)
  have hr := fun w' => right13 p w'
  obtain ⟨k, q⟩ := p
  simp only at HB
  have hcl : c < w.heap.size := lt_of_block hc
  have hbl : b < w.heap.size := lt_of_block hb
  have HC := Lib.hid hc
  have HM := Lib.hid hb
  clear hc hb
  cases hrp : rightP (k, q)
  · have HT := Lib.hid (show true = strangeP n m (k, q) by simp [strangeP, hrp])
    rw [hrp] at hr
    have HR := Lib.hid hr
    clear hr hrp
    go_enter Try.func31, Try.ntmps31
    go_wp2_with fail
    refine (HR.out _).mono ?_
    rintro e w1 ⟨rfl, b1⟩
    go_wp2_with fail
    go_ret
    exact ⟨ret_bool HT.out, HB.out.trans (b1.mono HB.out.size)⟩
  · rw [hrp] at hr
    have HR := Lib.hid hr
    rcases right_cases hrp with ⟨h1, h2⟩ | ⟨h1 | h1, h2, h3⟩
    · simp only at h1 h2
      subst h1; subst h2
      have HT := Lib.hid (show false = strangeP n m (0, 0) by simp [strangeP, hrp])
      clear hr hrp
      go_enter Try.func31, Try.ntmps31
      go_wp2_with fail
      refine (HR.out _).mono ?_
      rintro e w1 ⟨rfl, b1⟩
      have hb2 := HB.out.trans (b1.mono HB.out.size)
      have HB1 := Lib.hid hb2
      obtain ⟨q0, q1⟩ := cells2 ((b1.block w.heap.size (by simp)).trans (heap_alloc_at rfl))
      obtain ⟨q2, q3⟩ := cells1 ((hb2.block c hcl).trans HC.out)
      have hlk := run_lookup_map_none (P := Try.prog) (z := .int .i64 0) Try.underlying60 Try.underlying3 (q := .int .i64 0) rfl ((hb2.block b hbl).trans HM.out) (by kernel_rfl) rfl
      clear b1 hb2
      go_wp2_with fail
      go_ret
      exact ⟨ret_bool HT.out, HB1.out⟩
    · simp only at h1 h2 h3
      subst h1
      have HT := Lib.hid (show decide (n < q) = strangeP n m (1, q) by simp [strangeP, hrp])
      clear hr hrp
      go_enter Try.func31, Try.ntmps31
      go_wp2_with fail
      refine (HR.out _).mono ?_
      rintro e w1 ⟨rfl, b1⟩
      have hb2 := HB.out.trans (b1.mono HB.out.size)
      have HB1 := Lib.hid hb2
      obtain ⟨q0, q1⟩ := cells2 ((b1.block w.heap.size (by simp)).trans (heap_alloc_at rfl))
      obtain ⟨q2, q3⟩ := cells1 ((hb2.block c hcl).trans HC.out)
      have hlk := run_lookup_map (P := Try.prog) Try.underlying60 Try.underlying3 (q := .int .i64 1) rfl ((hb2.block b hbl).trans HM.out) (i := 0) (v := .int .i64 n) rfl
      clear b1 hb2
      go_wp2_with fail
      go_ret
      exact ⟨ret_bool HT.out, HB1.out⟩
    · simp only at h1 h2 h3
      subst h1
      have HT := Lib.hid (show decide (m < q) = strangeP n m (2, q) by simp [strangeP, hrp])
      clear hr hrp
      go_enter Try.func31, Try.ntmps31
      go_wp2_with fail
      refine (HR.out _).mono ?_
      rintro e w1 ⟨rfl, b1⟩
      have hb2 := HB.out.trans (b1.mono HB.out.size)
      have HB1 := Lib.hid hb2
      obtain ⟨q0, q1⟩ := cells2 ((b1.block w.heap.size (by simp)).trans (heap_alloc_at rfl))
      obtain ⟨q2, q3⟩ := cells1 ((hb2.block c hcl).trans HC.out)
      have hlk := run_lookup_map (P := Try.prog) Try.underlying60 Try.underlying3 (q := .int .i64 2) rfl ((hb2.block b hbl).trans HM.out) (i := 1) (v := .int .i64 m) rfl
      clear b1 hb2
      go_wp2_with fail
      go_ret
      exact ⟨ret_bool HT.out, HB1.out⟩

abbrev fnV (f : Nat) (c : Nat) : Value := .func (.func f) #[] #[.pointer (some ⟨c, 0, none⟩)]
/-- What IndexFunc tells: an index from 0 on just if there is one. -/
def IdxPost (w : World) (f : Int × Int → Bool) (ps : List (Int × Int)) (e : Ending) (w' : World) : Prop := ∃ r : Int, e = .returned (.int .i64 r) ∧ decide (0 ≤ r) = ps.any f ∧ Below w.heap.size w w'

theorem idx_miss {w w' : World} {f : Int × Int → Bool} {ps : List (Int × Int)} {n k : Nat} (hl : ps.length = n) (hk : n ≤ k) (h : (ps.take k).any f = false) (hb : Below w.heap.size w w') : IdxPost w f ps (.returned (.int .i64 (-1))) w' :=
  ⟨-1, rfl, by rw [List.take_of_length_le (by omega)] at h; rw [h]; rfl, hb⟩
theorem idx_hit {w w' : World} {f : Int × Int → Bool} {ps : List (Int × Int)} {k : Nat} (hk : k < ps.length) (h : f ps[k] = true) (hb : Below w.heap.size w w') : IdxPost w f ps (.returned (.int .i64 k)) w' :=
  ⟨k, rfl, by rw [List.any_eq_true.2 ⟨ps[k], List.getElem_mem _, h⟩]; simp, hb⟩
theorem any_take_succ {f : Int × Int → Bool} {ps : List (Int × Int)} {k : Nat} (hk : k < ps.length) (h0 : (ps.take k).any f = false) (h : f ps[k] = false) : (ps.take (k + 1)).any f = false := by
  rw [List.take_succ_eq_append_getElem hk, List.any_append, h0]; simp [h]

set_option maxRecDepth 100000 in
set_option maxHeartbeats 1600000 in
theorem index34_known (n m : Int) (c b : Nat) (A : Option Addr) (len cap : Nat) (ps : List (Int × Int)) (w : World) (hr : Row w 2 A len (picksV ps)) (hn : len * 16 ≤ 140737488351232)
    (hc : w.heap[c]? = some (.cells #[.map (some b)] 60 (0, 0))) (hb : w.heap[b]? = some (mostM n m)) :
    Calls Try.prog 34 #[.slice A len cap, fnV 31 c] w (IdxPost w (strangeP n m) ps) := by
  have HR := Lib.hid hr
  have HC := Lib.hid hc
  have HM := Lib.hid hb
  have hl : ps.length = len := by have := hr.1; rw [picksV_len] at this; omega
  have HL := Lib.hid hl
  clear hr hc hb hl
  go_enter Try.func34, Try.ntmps34
  go_wp2_with fail
  go_loopw [8] (fun i wr => ∃ k : Nat, k ≤ len ∧ i = .int .i64 k ∧ Hid ((ps.take k).any (strangeP n m) = false) ∧ Below w.heap.size w wr) (fun i _ => len - (intOf i).toNat)
  case atStart => exact ⟨0, Nat.zero_le _, rfl, Lib.hid (by simp), Below.refl _ _⟩
  case round =>
    obtain ⟨k, hk, rfl, hno, hbel⟩ := hrel
    have HB := Lib.hid hbel
    clear hbel
    by_cases hlt : k < len
    · obtain ⟨b1, o1, hkl, rfl, c0, c1⟩ := picks_at (HR.out.below HB.out) hlt
      have hlt' : (k : Int) < (len : Int) := by omega
      have HK := Lib.hid (known31 n m c b ps[k] wr ((HB.out.block _ (lt_of_block HC.out)).trans HC.out) ((HB.out.block _ (lt_of_block HM.out)).trans HM.out))
      cases hf : strangeP n m ps[k]
      · have HN := Lib.hid (any_take_succ hkl hno.out hf)
        rw [hf] at HK
        clear hf
        generalize ps[k] = p at c0 c1 HK
        clear hkl
        go_wp2_with fail
        refine HK.out.mono ?_
        rintro e w1 ⟨rfl, b1⟩
        have HB1 := Lib.hid (HB.out.trans (b1.mono HB.out.size))
        clear b1
        go_wp2_with fail
        go_roundw
        case rel => exact ⟨k + 1, by omega, by go_num, HN, HB1.out⟩
        case measure => simp [intOf]; omega
      · have HE : ∀ w', Below w.heap.size w w' → IdxPost w (strangeP n m) ps (.returned (.int .i64 k)) w' := fun w' => idx_hit hkl hf
        rw [hf] at HK
        clear hf
        have HE := Lib.hid HE
        generalize ps[k] = p at c0 c1 HK
        clear hkl
        go_wp2_with fail
        refine HK.out.mono ?_
        rintro e w1 ⟨rfl, b1⟩
        have HB1 := Lib.hid (HB.out.trans (b1.mono HB.out.size))
        clear b1
        go_wp2_with fail
        go_ret
        exact HE.out _ HB1.out
    · have hlt' : ¬ (k : Int) < (len : Int) := by omega
      go_wp2_with fail
      go_ret
      exact idx_miss HL.out (by omega) hno.out HB.out
end Go.Proofs.Ytkbaddopgdfafab
