import Derived.Test.YtkbaddopgdfafabKR5
import Derived.Deep.RegionLaw
namespace Go.Proofs.Ytkbaddopgdfafab
open Go.RowKit Go.Proofs.Besom

theorem step_append_row {P : Program} {w : World} {ops : Array Oper} {o : Oper} {a : Act} {K : Act → World → Prop} {Q : Exit → Act → World → Prop} {E : Prop} (hg : o.guard = none) (s x : Operand) (t : TypeId)
    (ho : o.op = .call { callee := .builtin .append, args := #[s, x], argTypes := #[t, t] })
    (base : Nat) (e : TypeId) (i : TypeInfo) (z : Value) (size bytes : Nat) (ht : P.underlying t = some (.slice e)) (hi : P.info? e = some i) (hz : i.zero = some z)
    (hsize : i.size = size) (hby : i.bytes = bytes) (hzs : z.cells.size = size) (hsz : 0 < size)
    (v : Value) (n : Nat) (xs : List Value) (hs : a.eval s = v) (hown : w.ownsRow base e size v n xs)
    (A : Option Addr) (m c : Nat) (news : List Value) (hx : a.eval x = .slice A m c) (hr : Row w size A m news) (h1 : ∀ u ∈ news, u.oneCell' = true)
    (h63 : n + m ≤ maxLen) (hbytes : (n + m) * bytes ≤ 140737488355328) (hbase : base ≤ w.heap.size)
    (h : ∀ v' w', w'.ownsRow base e size v' (n + m) (xs ++ news) → w.grownBy w' v.ownBlock → (v'.ownBlock = v.ownBlock ∨ v'.ownBlock = some w.heap.size) → K (a.put o.dst v') w') :
    if Region.wanted o (yielded ops a.tmps) = true then Oper.wp P o a w K Q else E := by
  have hw : Region.wanted o (yielded ops a.tmps) = true := by simp [Region.wanted, hg]
  rw [if_pos hw]
  exact wp_append_row w s x t ho base e i z size bytes ht hi hz hsize hby hzs hsz v n xs hs hown A m c news hx hr h1 h63 hbytes hbase h

set_option maxRecDepth 100000 in
set_option maxHeartbeats 3200000 in
theorem rpicks15 (ps : List (Int × Int)) (A : Option Addr) (n c : Nat) (w : World) (hr : Row w 2 A n (picksV ps)) (hn : n * 16 ≤ 140737488351232) :
    Calls Try.prog 15 #[.slice A n c] w fun e w' => ∃ v, e = .returned v ∧ w'.ownsRow w.heap.size 34 2 v n (picksV ps) ∧ Below w.heap.size w w' := by
  obtain ⟨i0, hi, hz0, hz1, hz2⟩ := info_parts Try.info34
  have HR := Lib.hid hr
  have hl : ps.length = n := by have := hr.1; rw [picksV_len] at this; omega
  have HL := Lib.hid hl
  clear hr hl
  go_enter Try.func15, Try.ntmps15
  go_wp2_with fail
  go_loopw [3, 4] (fun v i wr => ∃ (k : Nat) (v0 : Value), k ≤ n ∧ v0 = v ∧ i = .int .i64 k ∧ Hid (wr.ownsRow w.heap.size 34 2 v k (picksV (ps.take k))) ∧ Hid (Below w.heap.size w wr)) (fun _ i _ => n - (intOf i).toNat)
  case atStart => exact ⟨0, _, Nat.zero_le _, rfl, rfl, Lib.hid (World.ownsRow_nil w _ _ _), Lib.hid (Below.refl _ _)⟩
  case round =>
    obtain ⟨k, v, hk, rfl, rfl, O, HB⟩ := hrel
    by_cases hlt : k < n
    · have hlt' : (k : Int) < (n : Int) := by omega
      obtain ⟨b1, o1, hkl, rfl, c0, c1⟩ := picks_at (HR.out.below HB.out) hlt
      have HS := Lib.hid (show picksV (ps.take (k + 1)) = picksV (ps.take k) ++ pickC ps[k] by rw [List.take_succ_eq_append_getElem hkl, picksV_snoc])
      generalize ps[k] = p at *
      obtain ⟨p1, p2⟩ := p
      dsimp only at c0 c1
      clear hkl
      go_wp2_with fail
      have O' := Lib.hid (own_below O.out ((Below.refl wr.heap.size wr).drew))
      have HB' := Lib.hid (HB.out.drew)
      have HFIN : Hid (∀ v6 w6, w6.ownsRow w.heap.size 34 2 v6 (k + 1) (picksV (ps.take k) ++ [.int .i64 p1, .int .i64 p2]) → (wr.drew.alloc (.cells #[.int .i64 p1, .int .i64 p2] 34)).grownBy w6 v.ownBlock → Hid (w6.ownsRow w.heap.size 34 2 v6 (k + 1) (picksV (ps.take (k + 1)))) ∧ Hid (Below w.heap.size w w6)) :=
        Lib.hid (fun v6 w6 o6 g6 => ⟨Lib.hid (by rw [HS.out]; exact o6), Lib.hid ((HB'.out.alloc HB'.out.size (.cells #[.int .i64 p1, .int .i64 p2] 34)).grown g6 (by have := HB'.out.size; simp; simp at this; omega) (fun g hg => (O'.out.lt g hg).1))⟩)
      go_region_law ((refine step_append_row rfl (.tmp 11) (.tmp 23) 27 rfl w.heap.size 34 i0 _ 2 16 Try.underlying27 hi hz0 hz1 hz2 rfl (by decide) v k _ rfl (O'.out.alloc _) (some ⟨wr.heap.size, 0, none⟩) 1 1 [.int .i64 p1, .int .i64 p2] rfl (row_lit wr.drew #[.int .i64 p1, .int .i64 p2] 34 2 1 rfl rfl) (by simp [Value.oneCell']) (by unfold maxLen; omega) (by omega) (by have := HB'.out.size; simp; simp at this; omega) ?_; intro v6 w6 o6 g6 at6; obtain ⟨O6, B6⟩ := HFIN.out v6 w6 o6 g6; clear o6 g6 at6))
      all_goals
        go_wp2_with fail
        go_roundw
        case rel => exact ⟨k + 1, _, by omega, rfl, by go_num, O6, B6⟩
        case measure => simp [intOf]; omega
    · have hkn : k = n := by omega
      have ht := Lib.hid (show ps.take k = ps from List.take_of_length_le (by have := HL.out; omega))
      subst hkn
      go_wp2_with fail
      go_ret
      exact ⟨_, rfl, by have h := O.out; rwa [ht.out] at h, HB.out⟩
end Go.Proofs.Ytkbaddopgdfafab
