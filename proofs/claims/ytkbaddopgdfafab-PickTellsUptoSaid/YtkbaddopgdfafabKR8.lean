import Derived.Test.YtkbaddopgdfafabKR7
namespace Go.Proofs.Ytkbaddopgdfafab
open Go.RowKit Go.Proofs.Besom

def RParsePost (w : World) (s : ByteArray) (e : Ending) (w' : World) : Prop :=
  ∃ v, e = .returned (.tuple #[v, .int .i64 (errP s)]) ∧ w'.ownsRow w.heap.size 34 2 v (outP s).length (picksV (outP s)) ∧ Below w.heap.size w w'

theorem bt_get {s : ByteArray} {i : Nat} (h : i < s.size) : bt s i = s[i].toNat := by
  unfold bt
  have := get_at s i h
  rw [Nat.add_zero] at this
  rw [this]

def RInv (s : ByteArray) (w : World) (pos : Nat) (fuel : Nat) (acc : List (Int × Int)) (v : Value) (wr : World) : Prop :=
  wr.ownsRow w.heap.size 34 2 v acc.length (picksV acc) ∧ Below w.heap.size w wr ∧ (parseGo s fuel pos).map (acc ++ ·) = parseO s ∧ s.size ≤ pos + fuel ∧ acc.length ≤ pos

theorem rinv_err {s : ByteArray} {w wr : World} {pos fuel : Nat} {acc : List (Int × Int)} {v : Value} (h : RInv s w pos fuel acc v wr) (hp : pos < s.size) (ht : tokP s pos = none) :
    RParsePost w s (.returned (.tuple #[.slice none 0 0, .int .i64 2])) wr := by
  obtain ⟨h1, h2, h3, h4, h5⟩ := h
  obtain ⟨f, rfl⟩ : ∃ f, fuel = f + 1 := ⟨fuel - 1, by omega⟩
  rw [parseGo_tok s f pos hp, ht] at h3
  have hpo : parseO s = none := h3.symm
  have hE : outP s = [] ∧ errP s = 2 := by simp [outP, errP, hpo, outO, errO]
  exact ⟨_, ret2_int hE.2.symm, by rw [hE.1]; exact World.ownsRow_nil _ _ _ _, h2⟩
theorem rinv_skip {s : ByteArray} {w wr : World} {pos fuel : Nat} {acc : List (Int × Int)} {v : Value} (h : RInv s w pos fuel acc v wr) (hp : pos < s.size) (ht : tokP s pos = some none) (hw : tokW s pos = 1) :
    ∃ f, RInv s w (pos + 1) f acc v wr := by
  obtain ⟨h1, h2, h3, h4, h5⟩ := h
  obtain ⟨f, rfl⟩ : ∃ f, fuel = f + 1 := ⟨fuel - 1, by omega⟩
  rw [parseGo_tok s f pos hp, ht, hw] at h3
  exact ⟨f, h1, h2, h3, by omega, by omega⟩
theorem rinv_pick {s : ByteArray} {w wr w6 : World} {pos fuel pos' : Nat} {acc : List (Int × Int)} {v v6 : Value} {p : Int × Int} (h : RInv s w pos fuel acc v wr) (hp : pos < s.size) (ht : tokP s pos = some (some p)) (hw : pos + tokW s pos = pos') (hw1 : pos < pos')
    (o6 : w6.ownsRow w.heap.size 34 2 v6 (acc.length + 1) (picksV acc ++ [.int .i64 p.1, .int .i64 p.2])) (g6 : (wr.alloc (.cells #[.int .i64 p.1, .int .i64 p.2] 34)).grownBy w6 v.ownBlock) :
    ∃ f, RInv s w pos' f (acc ++ [p]) v6 w6 := by
  obtain ⟨h1, h2, h3, h4, h5⟩ := h
  obtain ⟨f, rfl⟩ : ∃ f, fuel = f + 1 := ⟨fuel - 1, by omega⟩
  rw [parseGo_tok s f pos hp, ht, hw] at h3
  refine ⟨f, by rw [picksV_snoc, List.length_append]; exact o6, (h2.alloc h2.size (.cells #[.int .i64 p.1, .int .i64 p.2] 34)).grown g6 (by have := h2.size; simp; omega) (fun g hg => (h1.lt g hg).1), ?_, by omega, by simp; omega⟩
  rw [← h3]
  simp only [Option.map_map]
  congr 1; funext l; simp

set_option maxRecDepth 100000 in
set_option maxHeartbeats 6400000 in
theorem rparse12 (s : ByteArray) (w : World) (hs : s.size * 16 ≤ 140737488351232) : Calls Try.prog 12 #[.string s] w (RParsePost w s) := by
  obtain ⟨i0, hi, hz0, hz1, hz2⟩ := info_parts Try.info34
  go_enter Try.func12, Try.ntmps12
  go_wp2_with fail
  go_loopw [4, 5] (fun v i wr => ∃ (pos fuel : Nat) (acc : List (Int × Int)) (v0 : Value), pos ≤ s.size ∧ v0 = v ∧ i = .int .i64 pos ∧ Hid (RInv s w pos fuel acc v wr)) (fun _ i _ => s.size - (intOf i).toNat)
  case atStart => exact ⟨0, s.size, [], _, Nat.zero_le _, rfl, rfl, Lib.hid ⟨World.ownsRow_nil _ _ _ _, Below.refl _ _, by simp [parseO], by omega, by simp⟩⟩
  case round =>
    obtain ⟨pos, fuel, acc, v, hpos, rfl, rfl, HI⟩ := hrel
    have hal : acc.length ≤ pos := HI.out.2.2.2.2
    by_cases hp : pos < s.size
    · have hp' : (pos : Int) < (s.size : Int) := by omega
      have HBT := Lib.hid (bt_get hp)
      have hbd : s[pos].toNat < 256 := s[pos].toNat_lt
      rcases (show s[pos].toNat = 32 ∨ s[pos].toNat = 10 ∨ s[pos].toNat = 46 ∨ (97 ≤ s[pos].toNat ∧ s[pos].toNat ≤ 112) ∨ s[pos].toNat = 206 ∨ s[pos].toNat = 207 ∨ s[pos].toNat < 10 ∨ (10 < s[pos].toNat ∧ s[pos].toNat < 32) ∨ (32 < s[pos].toNat ∧ s[pos].toNat < 46) ∨ (46 < s[pos].toNat ∧ s[pos].toNat < 97) ∨ (112 < s[pos].toNat ∧ s[pos].toNat < 206) ∨ 207 < s[pos].toNat by omega) with h | h | h | ⟨h, h'⟩ | h | h | h | ⟨h, h'⟩ | ⟨h, h'⟩ | ⟨h, h'⟩ | ⟨h, h'⟩ | h
      · have HF := Lib.hid (rinv_skip HI.out hp (by rw [tokP, HBT.out, if_pos (.inl h)]) (by rw [tokW, HBT.out, if_pos (by omega)]))
        go_wp2_with fail
        obtain ⟨f, hf⟩ := HF.out
        go_roundw
        case rel => exact ⟨pos + 1, f, acc, _, by omega, rfl, by go_num, Lib.hid hf⟩
        case measure => simp [intOf]; omega
      · have HF := Lib.hid (rinv_skip HI.out hp (by rw [tokP, HBT.out, if_pos (.inr h)]) (by rw [tokW, HBT.out, if_pos (by omega)]))
        go_wp2_with fail
        obtain ⟨f, hf⟩ := HF.out
        go_roundw
        case rel => exact ⟨pos + 1, f, acc, _, by omega, rfl, by go_num, Lib.hid hf⟩
        case measure => simp [intOf]; omega
      · have HT := Lib.hid (show tokP s pos = some (some (0, 0)) by rw [tokP, HBT.out, if_neg (by omega), if_pos h])
        have HW := Lib.hid (show pos + tokW s pos = pos + 1 by rw [tokW, HBT.out, if_pos (by omega)])
        go_wp2_with (at_builtin; refine wpList_append_row _ rfl (.tmp 26) (.tmp 28) 27 rfl w.heap.size 34 i0 _ 2 16 Try.underlying27 hi hz0 hz1 hz2 rfl (by decide) v acc.length _ rfl (HI.out.1.alloc _) (some ⟨wr.heap.size, 0, none⟩) 1 1 [.int .i64 0, .int .i64 0] rfl (row_lit wr #[.int .i64 0, .int .i64 0] 34 2 1 rfl rfl) (by simp [Value.oneCell']) (by unfold maxLen; omega) (by omega) (by have := HI.out.2.1.size; simp; omega) ?_; intro v6 w6 o6 g6 at6)
        obtain ⟨f, hf⟩ := rinv_pick (p := (0, 0)) HI.out hp HT.out HW.out (by omega) o6 g6
        go_roundw
        case rel => exact ⟨pos + 1, f, acc ++ [(0, 0)], _, by omega, rfl, by go_num, Lib.hid hf⟩
        case measure => simp [intOf]; omega
      · have e32 : ((s[pos].toNat : Int) == 32) = false := by simp; omega
        have e10 : ((s[pos].toNat : Int) == 10) = false := by simp; omega
        have e46 : ((s[pos].toNat : Int) == 46) = false := by simp; omega
        have HT := Lib.hid (show tokP s pos = some (some (1, (s[pos].toNat : Int) - 97 + 1)) by rw [tokP, HBT.out, if_neg (by omega), if_neg (by omega), if_pos ⟨h, h'⟩])
        have HW := Lib.hid (show pos + tokW s pos = pos + 1 by rw [tokW, HBT.out, if_pos (by omega)])
        go_wp2_with (at_builtin; refine wpList_append_row _ rfl (.tmp 37) (.tmp 43) 27 rfl w.heap.size 34 i0 _ 2 16 Try.underlying27 hi hz0 hz1 hz2 rfl (by decide) v acc.length _ rfl (HI.out.1.alloc _) (some ⟨wr.heap.size, 0, none⟩) 1 1 [.int .i64 1, .int .i64 ((s[pos].toNat : Int) - 97 + 1)] rfl (row_lit wr #[.int .i64 1, .int .i64 ((s[pos].toNat : Int) - 97 + 1)] 34 2 1 rfl rfl) (by simp [Value.oneCell']) (by unfold maxLen; omega) (by omega) (by have := HI.out.2.1.size; simp; omega) ?_; intro v6 w6 o6 g6 at6)
        obtain ⟨f, hf⟩ := rinv_pick (p := (1, (s[pos].toNat : Int) - 97 + 1)) HI.out hp HT.out HW.out (by omega) o6 g6
        go_roundw
        case rel => exact ⟨pos + 1, f, acc ++ [(1, (s[pos].toNat : Int) - 97 + 1)], _, by omega, rfl, by go_num, Lib.hid hf⟩
        case measure => simp [intOf]; omega
      · by_cases hp1 : pos + 1 < s.size
        · have hp1' : (pos : Int) + 1 < (s.size : Int) := by omega
          have HBT1 := Lib.hid (bt_get hp1)
          rcases (show s[pos + 1].toNat < 177 ∨ (177 ≤ s[pos + 1].toNat ∧ s[pos + 1].toNat ≤ 191) ∨ 191 < s[pos + 1].toNat by omega) with g | ⟨g, g'⟩ | g
          · have HR := Lib.hid (rinv_err HI.out hp (by rw [tokP, HBT.out, if_neg (by omega), if_neg (by omega), if_neg (by omega), if_neg (by rw [HBT1.out]; omega), if_neg (by omega)]))
            go_wp2_with fail
            go_ret2
            exact HR.out
          · have HT := Lib.hid (show tokP s pos = some (some (2, (s[pos + 1].toNat : Int) - 176)) by rw [tokP, HBT.out, if_neg (by omega), if_neg (by omega), if_neg (by omega), HBT1.out, if_pos ⟨hp1, h, g, g'⟩])
            have HW := Lib.hid (show pos + tokW s pos = pos + 2 by rw [tokW, HBT.out, if_neg (by omega)])
            go_wp2_with (at_builtin; refine wpList_append_row _ rfl (.tmp 69) (.tmp 77) 27 rfl w.heap.size 34 i0 _ 2 16 Try.underlying27 hi hz0 hz1 hz2 rfl (by decide) v acc.length _ rfl (HI.out.1.alloc _) (some ⟨wr.heap.size, 0, none⟩) 1 1 [.int .i64 2, .int .i64 ((s[pos + 1].toNat : Int) - 176)] rfl (row_lit wr #[.int .i64 2, .int .i64 ((s[pos + 1].toNat : Int) - 176)] 34 2 1 rfl rfl) (by simp [Value.oneCell']) (by unfold maxLen; omega) (by omega) (by have := HI.out.2.1.size; simp; omega) ?_; intro v6 w6 o6 g6 at6)
            obtain ⟨f, hf⟩ := rinv_pick (p := (2, (s[pos + 1].toNat : Int) - 176)) HI.out hp HT.out HW.out (by omega) o6 g6
            go_roundw
            case rel => exact ⟨pos + 2, f, acc ++ [(2, (s[pos + 1].toNat : Int) - 176)], _, by omega, rfl, by go_num, Lib.hid hf⟩
            case measure => simp [intOf]; omega
          · have HR := Lib.hid (rinv_err HI.out hp (by rw [tokP, HBT.out, if_neg (by omega), if_neg (by omega), if_neg (by omega), if_neg (by rw [HBT1.out]; omega), if_neg (by omega)]))
            go_wp2_with fail
            go_ret2
            exact HR.out
        · have hp1' : ¬ (pos : Int) + 1 < (s.size : Int) := by omega
          have HR := Lib.hid (rinv_err HI.out hp (by rw [tokP, HBT.out, if_neg (by omega), if_neg (by omega), if_neg (by omega), if_neg (by omega), if_neg (by omega)]))
          go_wp2_with fail
          go_ret2
          exact HR.out
      · by_cases hp1 : pos + 1 < s.size
        · have hp1' : (pos : Int) + 1 < (s.size : Int) := by omega
          have HBT1 := Lib.hid (bt_get hp1)
          rcases (show s[pos + 1].toNat < 128 ∨ s[pos + 1].toNat = 128 ∨ 128 < s[pos + 1].toNat by omega) with g | g | g
          · have e128n : ((s[pos + 1].toNat : Int) == 128) = false := by simp; omega
            have HR := Lib.hid (rinv_err HI.out hp (by rw [tokP, HBT.out, if_neg (by omega), if_neg (by omega), if_neg (by omega), if_neg (by omega), if_neg (by rw [HBT1.out]; omega)]))
            go_wp2_with fail
            go_ret2
            exact HR.out
          · have HT := Lib.hid (show tokP s pos = some (some (2, 16)) by rw [tokP, HBT.out, if_neg (by omega), if_neg (by omega), if_neg (by omega), if_neg (by omega), HBT1.out, if_pos ⟨hp1, h, g⟩])
            have HW := Lib.hid (show pos + tokW s pos = pos + 2 by rw [tokW, HBT.out, if_neg (by omega)])
            go_wp2_with (at_builtin; refine wpList_append_row _ rfl (.tmp 98) (.tmp 100) 27 rfl w.heap.size 34 i0 _ 2 16 Try.underlying27 hi hz0 hz1 hz2 rfl (by decide) v acc.length _ rfl (HI.out.1.alloc _) (some ⟨wr.heap.size, 0, none⟩) 1 1 [.int .i64 2, .int .i64 16] rfl (row_lit wr #[.int .i64 2, .int .i64 16] 34 2 1 rfl rfl) (by simp [Value.oneCell']) (by unfold maxLen; omega) (by omega) (by have := HI.out.2.1.size; simp; omega) ?_; intro v6 w6 o6 g6 at6)
            obtain ⟨f, hf⟩ := rinv_pick (p := (2, 16)) HI.out hp HT.out HW.out (by omega) o6 g6
            go_roundw
            case rel => exact ⟨pos + 2, f, acc ++ [(2, 16)], _, by omega, rfl, by go_num, Lib.hid hf⟩
            case measure => simp [intOf]; omega
          · have e128n : ((s[pos + 1].toNat : Int) == 128) = false := by simp; omega
            have HR := Lib.hid (rinv_err HI.out hp (by rw [tokP, HBT.out, if_neg (by omega), if_neg (by omega), if_neg (by omega), if_neg (by omega), if_neg (by rw [HBT1.out]; omega)]))
            go_wp2_with fail
            go_ret2
            exact HR.out
        · have hp1' : ¬ (pos : Int) + 1 < (s.size : Int) := by omega
          have HR := Lib.hid (rinv_err HI.out hp (by rw [tokP, HBT.out, if_neg (by omega), if_neg (by omega), if_neg (by omega), if_neg (by omega), if_neg (by omega)]))
          go_wp2_with fail
          go_ret2
          exact HR.out
      all_goals
        have e32 : ((s[pos].toNat : Int) == 32) = false := by simp; omega
        have e10 : ((s[pos].toNat : Int) == 10) = false := by simp; omega
        have e46 : ((s[pos].toNat : Int) == 46) = false := by simp; omega
        have e206 : ((s[pos].toNat : Int) == 206) = false := by simp; omega
        have e207 : ((s[pos].toNat : Int) == 207) = false := by simp; omega
        by_cases hp1 : pos + 1 < s.size
        · have hp1' : (pos : Int) + 1 < (s.size : Int) := by omega
          have HR := Lib.hid (rinv_err HI.out hp (by rw [tokP, HBT.out, if_neg (by omega), if_neg (by omega), if_neg (by omega), if_neg (by omega), if_neg (by omega)]))
          go_wp2_with fail
          go_ret2
          exact HR.out
        · have hp1' : ¬ (pos : Int) + 1 < (s.size : Int) := by omega
          have HR := Lib.hid (rinv_err HI.out hp (by rw [tokP, HBT.out, if_neg (by omega), if_neg (by omega), if_neg (by omega), if_neg (by omega), if_neg (by omega)]))
          go_wp2_with fail
          go_ret2
          exact HR.out
    · have hp' : ¬ (pos : Int) < (s.size : Int) := by omega
      have hpo : parseO s = some acc := by rw [← HI.out.2.2.1, parseGo_end s fuel pos hp]; simp
      have HPO := Lib.hid hpo
      clear hpo
      obtain ⟨B, c, rfl, -⟩ := own_row HI.out.1
      by_cases hm : 100000 < acc.length
      · have hE := Lib.hid (show outP s = [] ∧ errP s = 3 by simp [outP, errP, HPO.out, outO, errO, hm])
        go_wp2_with fail
        go_ret2
        exact ⟨_, ret2_int hE.out.2.symm, by rw [hE.out.1]; exact World.ownsRow_nil _ _ _ _, HI.out.2.1⟩
      · have hE := Lib.hid (show outP s = acc ∧ errP s = 0 by simp [outP, errP, HPO.out, outO, errO, hm])
        go_wp2_with fail
        go_ret2
        exact ⟨_, ret2_int hE.out.2.symm, by rw [hE.out.1]; exact HI.out.1, HI.out.2.1⟩
end Go.Proofs.Ytkbaddopgdfafab
