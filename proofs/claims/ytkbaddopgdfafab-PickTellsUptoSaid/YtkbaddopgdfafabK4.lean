import Derived.Test.YtkbaddopgdfafabK3
namespace Go.Proofs.Ytkbaddopgdfafab
open Go.RowKit Go.Proofs.Besom

theorem Try.info32 : (Try.prog.info? 32).map (fun i => (i.zero, i.size, i.bytes)) = some (some (.agg #[.int .i64 0, .int .i64 0]), 2, 16) := by kernel_rfl

abbrev pickC (p : Int × Int) : List Value := [.int .i64 p.1, .int .i64 p.2]
def picksV (l : List (Int × Int)) : List Value := l.flatMap pickC

theorem picksV_len (l : List (Int × Int)) : (picksV l).length = l.length * 2 := by
  induction l with
  | nil => rfl
  | cons p r ih => simp only [picksV, List.flatMap_cons, List.length_append, List.length_cons, List.length_nil] at ih ⊢; omega
theorem picksV_snoc (l : List (Int × Int)) (p : Int × Int) : picksV (l ++ [p]) = picksV l ++ pickC p := by simp [picksV]
theorem picksV_app (l r : List (Int × Int)) : picksV (l ++ r) = picksV l ++ picksV r := by simp [picksV]

theorem own2_of_blk {w : World} {g : Nat} {e : TypeId} {a b : Value} {base : Nat} (h : w.heap[g]? = some (.cells #[a, b] e (0, 0))) (hb : base ≤ g) :
    w.ownsRow base e 2 (.slice (some ⟨g, 0, none⟩) 1 1) 1 [a, b] :=
  ⟨by simp, .inr ⟨g, 1, #[a, b], rfl, hb, h, by omega, by unfold maxLen; omega, by simp, by simp⟩⟩

def workers (k : Nat) : List (Int × Int) := (List.range k).map fun (j : Nat) => (1, (j : Int) + 1)
def mutators (k : Nat) : List (Int × Int) := (List.range k).map fun (j : Nat) => (2, (j : Int) + 1)
theorem workers_succ (k : Nat) : workers (k + 1) = workers k ++ [(1, (k : Int) + 1)] := by simp [workers, List.range_succ]
theorem mutators_succ (k : Nat) : mutators (k + 1) = mutators k ++ [(2, (k : Int) + 1)] := by simp [mutators, List.range_succ]
theorem workers_len (k : Nat) : (workers k).length = k := by simp [workers]
theorem mutators_len (k : Nat) : (mutators k).length = k := by simp [mutators]
/-- How many machines there are of so many. -/
def few (n : Int) : Nat := (max (min n 16) 0).toNat
def roundL (n m : Int) : List (Int × Int) := (0, 0) :: (workers (few n) ++ mutators (few m))

set_option maxRecDepth 100000 in
set_option maxHeartbeats 3200000 in
theorem round23 (n m : Int) (w : World) : Calls Try.prog 23 #[.int .i64 n, .int .i64 m] w fun e w' =>
    ∃ v, e = .returned v ∧ w'.ownsRow w.heap.size 32 2 v (roundL n m).length (picksV (roundL n m)) ∧ Below w.heap.size w w' := by
  obtain ⟨i0, hi, hz0, hz1, hz2⟩ := info_parts Try.info32
  have hmin : ∀ n : Int, (max (min n 16) 0) = (few n : Int) := fun n => by unfold few; omega
  have hfw : ∀ n : Int, few n ≤ 16 := fun n => by unfold few; omega
  have HB := Lib.hid ((Below.refl w.heap.size w).alloc (Nat.le_refl _) (.cells #[.int .i64 0, .int .i64 0] 32))
  rcases (show 16 < n ∨ n < 0 ∨ (0 ≤ n ∧ n ≤ 16) by omega) with h1 | h1 | ⟨h1, h1'⟩
  · have hN : (few n : Int) = 16 := by unfold few; omega
    have HN := Lib.hid hN
    clear hN
    go_enter Try.func23, Try.ntmps23
    go_wp2_with fail
    go_loopw [5, 13] (fun v i wr => ∃ (k : Nat) (v0 : Value), k ≤ few n ∧ v0 = v ∧ i = .int .i64 k ∧ wr.ownsRow w.heap.size 32 2 v (1 + k) (picksV ((0, 0) :: workers k)) ∧ Below w.heap.size w wr) (fun _ i _ => few n - (intOf i).toNat)
    case atStart => exact ⟨0, _, by omega, rfl, rfl, own2_of_blk (heap_alloc_at rfl) (Nat.le_refl _), HB.out⟩
    case round =>
      obtain ⟨k, v, hk, rfl, rfl, hown, hbel⟩ := hrel
      have O := Lib.hid hown
      have HBE := Lib.hid hbel
      clear hown hbel
      by_cases hlt : k < few n
      · have hlt' : (k : Int) < 16 := by have := HN.out; omega
        have hk16 : k < 16 := by have := hfw n; omega
        have hn16 : few n ≤ 16 := hfw n
        go_wp2_with (at_builtin; refine wpList_append_row _ rfl (.tmp 16) (.tmp 20) 22 rfl w.heap.size 32 i0 _ 2 16 Try.underlying22 hi hz0 hz1 hz2 rfl (by decide) v (1 + k) _ rfl (O.out.alloc _) (some ⟨wr.heap.size, 0, none⟩) 1 1 [.int .i64 1, .int .i64 ((k : Int) + 1)] rfl (row_lit wr #[.int .i64 1, .int .i64 ((k : Int) + 1)] 32 2 1 rfl rfl) (by simp [Value.oneCell']) (by unfold maxLen; omega) (by omega) (by have := HBE.out.size; simp; omega) ?_; intro v6 w6 o6 g6 at6)
        have hbel6 := (HBE.out.alloc HBE.out.size (.cells #[.int .i64 1, .int .i64 ((k : Int) + 1)] 32)).grown g6 (by have := HBE.out.size; simp; omega) (fun g hg => (O.out.lt g hg).1)
        have e6 : picksV ((0, 0) :: workers (k + 1)) = picksV ((0, 0) :: workers k) ++ [.int .i64 1, .int .i64 ((k : Int) + 1)] := by
          rw [workers_succ]; simp [picksV]
        go_roundw
        case rel => exact ⟨k + 1, _, by omega, rfl, by go_num, by rw [e6]; exact o6, hbel6⟩
        case measure => simp [intOf]; omega
      · have hlt' : ¬ (k : Int) < 16 := by have := HN.out; omega
        have hke : k = few n := by omega
        subst hke
        rcases (show 16 < m ∨ m < 0 ∨ (0 ≤ m ∧ m ≤ 16) by omega) with g1 | g1 | ⟨g1, g1'⟩
        · have hM : (few m : Int) = 16 := by unfold few; omega
          have HM := Lib.hid hM
          clear hM
          go_wp2_with fail
          go_loopw [5, 26] (fun v i wr => ∃ (k : Nat) (v0 : Value), k ≤ few m ∧ v0 = v ∧ i = .int .i64 k ∧ wr.ownsRow w.heap.size 32 2 v (1 + few n + k) (picksV ((0, 0) :: (workers (few n) ++ mutators k))) ∧ Below w.heap.size w wr) (fun _ i _ => few m - (intOf i).toNat)
          case atStart => exact ⟨0, _, by omega, rfl, rfl, by simpa [mutators] using O.out, HBE.out⟩
          case round =>
            obtain ⟨k, v, hk, rfl, rfl, hown, hbel⟩ := hrel
            have O := Lib.hid hown
            have HBE := Lib.hid hbel
            clear hown hbel
            by_cases hlt : k < few m
            · have hlt' : (k : Int) < 16 := by have := HM.out; omega
              have hk16 : k < 16 := by have := hfw m; omega
              have hn16 : few n ≤ 16 := hfw n
              go_wp2_with (at_builtin; refine wpList_append_row _ rfl (.tmp 29) (.tmp 33) 22 rfl w.heap.size 32 i0 _ 2 16 Try.underlying22 hi hz0 hz1 hz2 rfl (by decide) v (1 + few n + k) _ rfl (O.out.alloc _) (some ⟨wr.heap.size, 0, none⟩) 1 1 [.int .i64 2, .int .i64 ((k : Int) + 1)] rfl (row_lit wr #[.int .i64 2, .int .i64 ((k : Int) + 1)] 32 2 1 rfl rfl) (by simp [Value.oneCell']) (by unfold maxLen; omega) (by omega) (by have := HBE.out.size; simp; omega) ?_; intro v6 w6 o6 g6 at6)
              have hbel6 := (HBE.out.alloc HBE.out.size (.cells #[.int .i64 2, .int .i64 ((k : Int) + 1)] 32)).grown g6 (by have := HBE.out.size; simp; omega) (fun g hg => (O.out.lt g hg).1)
              have e6 : picksV ((0, 0) :: (workers (few n) ++ mutators (k + 1))) = picksV ((0, 0) :: (workers (few n) ++ mutators k)) ++ [.int .i64 2, .int .i64 ((k : Int) + 1)] := by
                rw [mutators_succ]; simp [picksV]
              go_roundw
              case rel => exact ⟨k + 1, _, by omega, rfl, by go_num, by rw [e6]; exact o6, hbel6⟩
              case measure => simp [intOf]; omega
            · have hlt' : ¬ (k : Int) < 16 := by have := HM.out; omega
              have hke : k = few m := by omega
              subst hke
              go_wp2_with fail
              go_ret
              exact ⟨_, rfl, by have h := O.out; rwa [show (roundL n m).length = 1 + few n + few m by simp [roundL, workers_len, mutators_len]; omega], HBE.out⟩
        · have hM : (few m : Int) = 0 := by unfold few; omega
          have HM := Lib.hid hM
          clear hM
          go_wp2_with fail
          go_loopw [5, 26] (fun v i wr => ∃ (k : Nat) (v0 : Value), k ≤ few m ∧ v0 = v ∧ i = .int .i64 k ∧ wr.ownsRow w.heap.size 32 2 v (1 + few n + k) (picksV ((0, 0) :: (workers (few n) ++ mutators k))) ∧ Below w.heap.size w wr) (fun _ i _ => few m - (intOf i).toNat)
          case atStart => exact ⟨0, _, by omega, rfl, rfl, by simpa [mutators] using O.out, HBE.out⟩
          case round =>
            obtain ⟨k, v, hk, rfl, rfl, hown, hbel⟩ := hrel
            have O := Lib.hid hown
            have HBE := Lib.hid hbel
            clear hown hbel
            by_cases hlt : k < few m
            · have hlt' : (k : Int) < 0 := by have := HM.out; omega
              exact absurd hlt' (by omega)
            · have hlt' : ¬ (k : Int) < 0 := by have := HM.out; omega
              have hke : k = few m := by omega
              subst hke
              go_wp2_with fail
              go_ret
              exact ⟨_, rfl, by have h := O.out; rwa [show (roundL n m).length = 1 + few n + few m by simp [roundL, workers_len, mutators_len]; omega], HBE.out⟩
        · have hM : (few m : Int) = m := by unfold few; omega
          have HM := Lib.hid hM
          clear hM
          go_wp2_with fail
          go_loopw [5, 26] (fun v i wr => ∃ (k : Nat) (v0 : Value), k ≤ few m ∧ v0 = v ∧ i = .int .i64 k ∧ wr.ownsRow w.heap.size 32 2 v (1 + few n + k) (picksV ((0, 0) :: (workers (few n) ++ mutators k))) ∧ Below w.heap.size w wr) (fun _ i _ => few m - (intOf i).toNat)
          case atStart => exact ⟨0, _, by omega, rfl, rfl, by simpa [mutators] using O.out, HBE.out⟩
          case round =>
            obtain ⟨k, v, hk, rfl, rfl, hown, hbel⟩ := hrel
            have O := Lib.hid hown
            have HBE := Lib.hid hbel
            clear hown hbel
            by_cases hlt : k < few m
            · have hlt' : (k : Int) < m := by have := HM.out; omega
              have hk16 : k < 16 := by have := hfw m; omega
              have hn16 : few n ≤ 16 := hfw n
              go_wp2_with (at_builtin; refine wpList_append_row _ rfl (.tmp 29) (.tmp 33) 22 rfl w.heap.size 32 i0 _ 2 16 Try.underlying22 hi hz0 hz1 hz2 rfl (by decide) v (1 + few n + k) _ rfl (O.out.alloc _) (some ⟨wr.heap.size, 0, none⟩) 1 1 [.int .i64 2, .int .i64 ((k : Int) + 1)] rfl (row_lit wr #[.int .i64 2, .int .i64 ((k : Int) + 1)] 32 2 1 rfl rfl) (by simp [Value.oneCell']) (by unfold maxLen; omega) (by omega) (by have := HBE.out.size; simp; omega) ?_; intro v6 w6 o6 g6 at6)
              have hbel6 := (HBE.out.alloc HBE.out.size (.cells #[.int .i64 2, .int .i64 ((k : Int) + 1)] 32)).grown g6 (by have := HBE.out.size; simp; omega) (fun g hg => (O.out.lt g hg).1)
              have e6 : picksV ((0, 0) :: (workers (few n) ++ mutators (k + 1))) = picksV ((0, 0) :: (workers (few n) ++ mutators k)) ++ [.int .i64 2, .int .i64 ((k : Int) + 1)] := by
                rw [mutators_succ]; simp [picksV]
              go_roundw
              case rel => exact ⟨k + 1, _, by omega, rfl, by go_num, by rw [e6]; exact o6, hbel6⟩
              case measure => simp [intOf]; omega
            · have hlt' : ¬ (k : Int) < m := by have := HM.out; omega
              have hke : k = few m := by omega
              subst hke
              go_wp2_with fail
              go_ret
              exact ⟨_, rfl, by have h := O.out; rwa [show (roundL n m).length = 1 + few n + few m by simp [roundL, workers_len, mutators_len]; omega], HBE.out⟩
  · have hN : (few n : Int) = 0 := by unfold few; omega
    have HN := Lib.hid hN
    clear hN
    go_enter Try.func23, Try.ntmps23
    go_wp2_with fail
    go_loopw [5, 13] (fun v i wr => ∃ (k : Nat) (v0 : Value), k ≤ few n ∧ v0 = v ∧ i = .int .i64 k ∧ wr.ownsRow w.heap.size 32 2 v (1 + k) (picksV ((0, 0) :: workers k)) ∧ Below w.heap.size w wr) (fun _ i _ => few n - (intOf i).toNat)
    case atStart => exact ⟨0, _, by omega, rfl, rfl, own2_of_blk (heap_alloc_at rfl) (Nat.le_refl _), HB.out⟩
    case round =>
      obtain ⟨k, v, hk, rfl, rfl, hown, hbel⟩ := hrel
      have O := Lib.hid hown
      have HBE := Lib.hid hbel
      clear hown hbel
      by_cases hlt : k < few n
      · have hlt' : (k : Int) < 0 := by have := HN.out; omega
        exact absurd hlt' (by omega)
      · have hlt' : ¬ (k : Int) < 0 := by have := HN.out; omega
        have hke : k = few n := by omega
        subst hke
        rcases (show 16 < m ∨ m < 0 ∨ (0 ≤ m ∧ m ≤ 16) by omega) with g1 | g1 | ⟨g1, g1'⟩
        · have hM : (few m : Int) = 16 := by unfold few; omega
          have HM := Lib.hid hM
          clear hM
          go_wp2_with fail
          go_loopw [5, 26] (fun v i wr => ∃ (k : Nat) (v0 : Value), k ≤ few m ∧ v0 = v ∧ i = .int .i64 k ∧ wr.ownsRow w.heap.size 32 2 v (1 + few n + k) (picksV ((0, 0) :: (workers (few n) ++ mutators k))) ∧ Below w.heap.size w wr) (fun _ i _ => few m - (intOf i).toNat)
          case atStart => exact ⟨0, _, by omega, rfl, rfl, by simpa [mutators] using O.out, HBE.out⟩
          case round =>
            obtain ⟨k, v, hk, rfl, rfl, hown, hbel⟩ := hrel
            have O := Lib.hid hown
            have HBE := Lib.hid hbel
            clear hown hbel
            by_cases hlt : k < few m
            · have hlt' : (k : Int) < 16 := by have := HM.out; omega
              have hk16 : k < 16 := by have := hfw m; omega
              have hn16 : few n ≤ 16 := hfw n
              go_wp2_with (at_builtin; refine wpList_append_row _ rfl (.tmp 29) (.tmp 33) 22 rfl w.heap.size 32 i0 _ 2 16 Try.underlying22 hi hz0 hz1 hz2 rfl (by decide) v (1 + few n + k) _ rfl (O.out.alloc _) (some ⟨wr.heap.size, 0, none⟩) 1 1 [.int .i64 2, .int .i64 ((k : Int) + 1)] rfl (row_lit wr #[.int .i64 2, .int .i64 ((k : Int) + 1)] 32 2 1 rfl rfl) (by simp [Value.oneCell']) (by unfold maxLen; omega) (by omega) (by have := HBE.out.size; simp; omega) ?_; intro v6 w6 o6 g6 at6)
              have hbel6 := (HBE.out.alloc HBE.out.size (.cells #[.int .i64 2, .int .i64 ((k : Int) + 1)] 32)).grown g6 (by have := HBE.out.size; simp; omega) (fun g hg => (O.out.lt g hg).1)
              have e6 : picksV ((0, 0) :: (workers (few n) ++ mutators (k + 1))) = picksV ((0, 0) :: (workers (few n) ++ mutators k)) ++ [.int .i64 2, .int .i64 ((k : Int) + 1)] := by
                rw [mutators_succ]; simp [picksV]
              go_roundw
              case rel => exact ⟨k + 1, _, by omega, rfl, by go_num, by rw [e6]; exact o6, hbel6⟩
              case measure => simp [intOf]; omega
            · have hlt' : ¬ (k : Int) < 16 := by have := HM.out; omega
              have hke : k = few m := by omega
              subst hke
              go_wp2_with fail
              go_ret
              exact ⟨_, rfl, by have h := O.out; rwa [show (roundL n m).length = 1 + few n + few m by simp [roundL, workers_len, mutators_len]; omega], HBE.out⟩
        · have hM : (few m : Int) = 0 := by unfold few; omega
          have HM := Lib.hid hM
          clear hM
          go_wp2_with fail
          go_loopw [5, 26] (fun v i wr => ∃ (k : Nat) (v0 : Value), k ≤ few m ∧ v0 = v ∧ i = .int .i64 k ∧ wr.ownsRow w.heap.size 32 2 v (1 + few n + k) (picksV ((0, 0) :: (workers (few n) ++ mutators k))) ∧ Below w.heap.size w wr) (fun _ i _ => few m - (intOf i).toNat)
          case atStart => exact ⟨0, _, by omega, rfl, rfl, by simpa [mutators] using O.out, HBE.out⟩
          case round =>
            obtain ⟨k, v, hk, rfl, rfl, hown, hbel⟩ := hrel
            have O := Lib.hid hown
            have HBE := Lib.hid hbel
            clear hown hbel
            by_cases hlt : k < few m
            · have hlt' : (k : Int) < 0 := by have := HM.out; omega
              exact absurd hlt' (by omega)
            · have hlt' : ¬ (k : Int) < 0 := by have := HM.out; omega
              have hke : k = few m := by omega
              subst hke
              go_wp2_with fail
              go_ret
              exact ⟨_, rfl, by have h := O.out; rwa [show (roundL n m).length = 1 + few n + few m by simp [roundL, workers_len, mutators_len]; omega], HBE.out⟩
        · have hM : (few m : Int) = m := by unfold few; omega
          have HM := Lib.hid hM
          clear hM
          go_wp2_with fail
          go_loopw [5, 26] (fun v i wr => ∃ (k : Nat) (v0 : Value), k ≤ few m ∧ v0 = v ∧ i = .int .i64 k ∧ wr.ownsRow w.heap.size 32 2 v (1 + few n + k) (picksV ((0, 0) :: (workers (few n) ++ mutators k))) ∧ Below w.heap.size w wr) (fun _ i _ => few m - (intOf i).toNat)
          case atStart => exact ⟨0, _, by omega, rfl, rfl, by simpa [mutators] using O.out, HBE.out⟩
          case round =>
            obtain ⟨k, v, hk, rfl, rfl, hown, hbel⟩ := hrel
            have O := Lib.hid hown
            have HBE := Lib.hid hbel
            clear hown hbel
            by_cases hlt : k < few m
            · have hlt' : (k : Int) < m := by have := HM.out; omega
              have hk16 : k < 16 := by have := hfw m; omega
              have hn16 : few n ≤ 16 := hfw n
              go_wp2_with (at_builtin; refine wpList_append_row _ rfl (.tmp 29) (.tmp 33) 22 rfl w.heap.size 32 i0 _ 2 16 Try.underlying22 hi hz0 hz1 hz2 rfl (by decide) v (1 + few n + k) _ rfl (O.out.alloc _) (some ⟨wr.heap.size, 0, none⟩) 1 1 [.int .i64 2, .int .i64 ((k : Int) + 1)] rfl (row_lit wr #[.int .i64 2, .int .i64 ((k : Int) + 1)] 32 2 1 rfl rfl) (by simp [Value.oneCell']) (by unfold maxLen; omega) (by omega) (by have := HBE.out.size; simp; omega) ?_; intro v6 w6 o6 g6 at6)
              have hbel6 := (HBE.out.alloc HBE.out.size (.cells #[.int .i64 2, .int .i64 ((k : Int) + 1)] 32)).grown g6 (by have := HBE.out.size; simp; omega) (fun g hg => (O.out.lt g hg).1)
              have e6 : picksV ((0, 0) :: (workers (few n) ++ mutators (k + 1))) = picksV ((0, 0) :: (workers (few n) ++ mutators k)) ++ [.int .i64 2, .int .i64 ((k : Int) + 1)] := by
                rw [mutators_succ]; simp [picksV]
              go_roundw
              case rel => exact ⟨k + 1, _, by omega, rfl, by go_num, by rw [e6]; exact o6, hbel6⟩
              case measure => simp [intOf]; omega
            · have hlt' : ¬ (k : Int) < m := by have := HM.out; omega
              have hke : k = few m := by omega
              subst hke
              go_wp2_with fail
              go_ret
              exact ⟨_, rfl, by have h := O.out; rwa [show (roundL n m).length = 1 + few n + few m by simp [roundL, workers_len, mutators_len]; omega], HBE.out⟩
  · have hN : (few n : Int) = n := by unfold few; omega
    have HN := Lib.hid hN
    clear hN
    go_enter Try.func23, Try.ntmps23
    go_wp2_with fail
    go_loopw [5, 13] (fun v i wr => ∃ (k : Nat) (v0 : Value), k ≤ few n ∧ v0 = v ∧ i = .int .i64 k ∧ wr.ownsRow w.heap.size 32 2 v (1 + k) (picksV ((0, 0) :: workers k)) ∧ Below w.heap.size w wr) (fun _ i _ => few n - (intOf i).toNat)
    case atStart => exact ⟨0, _, by omega, rfl, rfl, own2_of_blk (heap_alloc_at rfl) (Nat.le_refl _), HB.out⟩
    case round =>
      obtain ⟨k, v, hk, rfl, rfl, hown, hbel⟩ := hrel
      have O := Lib.hid hown
      have HBE := Lib.hid hbel
      clear hown hbel
      by_cases hlt : k < few n
      · have hlt' : (k : Int) < n := by have := HN.out; omega
        have hk16 : k < 16 := by have := hfw n; omega
        have hn16 : few n ≤ 16 := hfw n
        go_wp2_with (at_builtin; refine wpList_append_row _ rfl (.tmp 16) (.tmp 20) 22 rfl w.heap.size 32 i0 _ 2 16 Try.underlying22 hi hz0 hz1 hz2 rfl (by decide) v (1 + k) _ rfl (O.out.alloc _) (some ⟨wr.heap.size, 0, none⟩) 1 1 [.int .i64 1, .int .i64 ((k : Int) + 1)] rfl (row_lit wr #[.int .i64 1, .int .i64 ((k : Int) + 1)] 32 2 1 rfl rfl) (by simp [Value.oneCell']) (by unfold maxLen; omega) (by omega) (by have := HBE.out.size; simp; omega) ?_; intro v6 w6 o6 g6 at6)
        have hbel6 := (HBE.out.alloc HBE.out.size (.cells #[.int .i64 1, .int .i64 ((k : Int) + 1)] 32)).grown g6 (by have := HBE.out.size; simp; omega) (fun g hg => (O.out.lt g hg).1)
        have e6 : picksV ((0, 0) :: workers (k + 1)) = picksV ((0, 0) :: workers k) ++ [.int .i64 1, .int .i64 ((k : Int) + 1)] := by
          rw [workers_succ]; simp [picksV]
        go_roundw
        case rel => exact ⟨k + 1, _, by omega, rfl, by go_num, by rw [e6]; exact o6, hbel6⟩
        case measure => simp [intOf]; omega
      · have hlt' : ¬ (k : Int) < n := by have := HN.out; omega
        have hke : k = few n := by omega
        subst hke
        rcases (show 16 < m ∨ m < 0 ∨ (0 ≤ m ∧ m ≤ 16) by omega) with g1 | g1 | ⟨g1, g1'⟩
        · have hM : (few m : Int) = 16 := by unfold few; omega
          have HM := Lib.hid hM
          clear hM
          go_wp2_with fail
          go_loopw [5, 26] (fun v i wr => ∃ (k : Nat) (v0 : Value), k ≤ few m ∧ v0 = v ∧ i = .int .i64 k ∧ wr.ownsRow w.heap.size 32 2 v (1 + few n + k) (picksV ((0, 0) :: (workers (few n) ++ mutators k))) ∧ Below w.heap.size w wr) (fun _ i _ => few m - (intOf i).toNat)
          case atStart => exact ⟨0, _, by omega, rfl, rfl, by simpa [mutators] using O.out, HBE.out⟩
          case round =>
            obtain ⟨k, v, hk, rfl, rfl, hown, hbel⟩ := hrel
            have O := Lib.hid hown
            have HBE := Lib.hid hbel
            clear hown hbel
            by_cases hlt : k < few m
            · have hlt' : (k : Int) < 16 := by have := HM.out; omega
              have hk16 : k < 16 := by have := hfw m; omega
              have hn16 : few n ≤ 16 := hfw n
              go_wp2_with (at_builtin; refine wpList_append_row _ rfl (.tmp 29) (.tmp 33) 22 rfl w.heap.size 32 i0 _ 2 16 Try.underlying22 hi hz0 hz1 hz2 rfl (by decide) v (1 + few n + k) _ rfl (O.out.alloc _) (some ⟨wr.heap.size, 0, none⟩) 1 1 [.int .i64 2, .int .i64 ((k : Int) + 1)] rfl (row_lit wr #[.int .i64 2, .int .i64 ((k : Int) + 1)] 32 2 1 rfl rfl) (by simp [Value.oneCell']) (by unfold maxLen; omega) (by omega) (by have := HBE.out.size; simp; omega) ?_; intro v6 w6 o6 g6 at6)
              have hbel6 := (HBE.out.alloc HBE.out.size (.cells #[.int .i64 2, .int .i64 ((k : Int) + 1)] 32)).grown g6 (by have := HBE.out.size; simp; omega) (fun g hg => (O.out.lt g hg).1)
              have e6 : picksV ((0, 0) :: (workers (few n) ++ mutators (k + 1))) = picksV ((0, 0) :: (workers (few n) ++ mutators k)) ++ [.int .i64 2, .int .i64 ((k : Int) + 1)] := by
                rw [mutators_succ]; simp [picksV]
              go_roundw
              case rel => exact ⟨k + 1, _, by omega, rfl, by go_num, by rw [e6]; exact o6, hbel6⟩
              case measure => simp [intOf]; omega
            · have hlt' : ¬ (k : Int) < 16 := by have := HM.out; omega
              have hke : k = few m := by omega
              subst hke
              go_wp2_with fail
              go_ret
              exact ⟨_, rfl, by have h := O.out; rwa [show (roundL n m).length = 1 + few n + few m by simp [roundL, workers_len, mutators_len]; omega], HBE.out⟩
        · have hM : (few m : Int) = 0 := by unfold few; omega
          have HM := Lib.hid hM
          clear hM
          go_wp2_with fail
          go_loopw [5, 26] (fun v i wr => ∃ (k : Nat) (v0 : Value), k ≤ few m ∧ v0 = v ∧ i = .int .i64 k ∧ wr.ownsRow w.heap.size 32 2 v (1 + few n + k) (picksV ((0, 0) :: (workers (few n) ++ mutators k))) ∧ Below w.heap.size w wr) (fun _ i _ => few m - (intOf i).toNat)
          case atStart => exact ⟨0, _, by omega, rfl, rfl, by simpa [mutators] using O.out, HBE.out⟩
          case round =>
            obtain ⟨k, v, hk, rfl, rfl, hown, hbel⟩ := hrel
            have O := Lib.hid hown
            have HBE := Lib.hid hbel
            clear hown hbel
            by_cases hlt : k < few m
            · have hlt' : (k : Int) < 0 := by have := HM.out; omega
              exact absurd hlt' (by omega)
            · have hlt' : ¬ (k : Int) < 0 := by have := HM.out; omega
              have hke : k = few m := by omega
              subst hke
              go_wp2_with fail
              go_ret
              exact ⟨_, rfl, by have h := O.out; rwa [show (roundL n m).length = 1 + few n + few m by simp [roundL, workers_len, mutators_len]; omega], HBE.out⟩
        · have hM : (few m : Int) = m := by unfold few; omega
          have HM := Lib.hid hM
          clear hM
          go_wp2_with fail
          go_loopw [5, 26] (fun v i wr => ∃ (k : Nat) (v0 : Value), k ≤ few m ∧ v0 = v ∧ i = .int .i64 k ∧ wr.ownsRow w.heap.size 32 2 v (1 + few n + k) (picksV ((0, 0) :: (workers (few n) ++ mutators k))) ∧ Below w.heap.size w wr) (fun _ i _ => few m - (intOf i).toNat)
          case atStart => exact ⟨0, _, by omega, rfl, rfl, by simpa [mutators] using O.out, HBE.out⟩
          case round =>
            obtain ⟨k, v, hk, rfl, rfl, hown, hbel⟩ := hrel
            have O := Lib.hid hown
            have HBE := Lib.hid hbel
            clear hown hbel
            by_cases hlt : k < few m
            · have hlt' : (k : Int) < m := by have := HM.out; omega
              have hk16 : k < 16 := by have := hfw m; omega
              have hn16 : few n ≤ 16 := hfw n
              go_wp2_with (at_builtin; refine wpList_append_row _ rfl (.tmp 29) (.tmp 33) 22 rfl w.heap.size 32 i0 _ 2 16 Try.underlying22 hi hz0 hz1 hz2 rfl (by decide) v (1 + few n + k) _ rfl (O.out.alloc _) (some ⟨wr.heap.size, 0, none⟩) 1 1 [.int .i64 2, .int .i64 ((k : Int) + 1)] rfl (row_lit wr #[.int .i64 2, .int .i64 ((k : Int) + 1)] 32 2 1 rfl rfl) (by simp [Value.oneCell']) (by unfold maxLen; omega) (by omega) (by have := HBE.out.size; simp; omega) ?_; intro v6 w6 o6 g6 at6)
              have hbel6 := (HBE.out.alloc HBE.out.size (.cells #[.int .i64 2, .int .i64 ((k : Int) + 1)] 32)).grown g6 (by have := HBE.out.size; simp; omega) (fun g hg => (O.out.lt g hg).1)
              have e6 : picksV ((0, 0) :: (workers (few n) ++ mutators (k + 1))) = picksV ((0, 0) :: (workers (few n) ++ mutators k)) ++ [.int .i64 2, .int .i64 ((k : Int) + 1)] := by
                rw [mutators_succ]; simp [picksV]
              go_roundw
              case rel => exact ⟨k + 1, _, by omega, rfl, by go_num, by rw [e6]; exact o6, hbel6⟩
              case measure => simp [intOf]; omega
            · have hlt' : ¬ (k : Int) < m := by have := HM.out; omega
              have hke : k = few m := by omega
              subst hke
              go_wp2_with fail
              go_ret
              exact ⟨_, rfl, by have h := O.out; rwa [show (roundL n m).length = 1 + few n + few m by simp [roundL, workers_len, mutators_len]; omega], HBE.out⟩
end Go.Proofs.Ytkbaddopgdfafab
