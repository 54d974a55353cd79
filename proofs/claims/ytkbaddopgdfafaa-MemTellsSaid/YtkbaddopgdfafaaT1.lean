import Derived.Test.YtkbaddopgdfafaaRows
import Derived.Test.YtkbaddopgdfafaaB1
import Derived.WalkKit
import Derived.WalkSpells
import Derived.WalkLawsBesides
import Derived.Handy
import Derived.Lib.SliceRun
import Derived.BigQuiet
import Derived.Deep.QuietTactic
import Derived.Lib.Hide
namespace Go.Proofs.Ytkbaddopgdfafaa
open Go.RowKit

set_option maxHeartbeats 400000 in
theorem do1 (v : Int) (w : World) : Calls Try.prog 43 #[.int .u64 v] w fun e w' => e = .returned (.tuple #[.int .u64 v, .bool true]) ∧ w = w' := by
  go_enter Try.func43, Try.ntmps43
  go_wp2
  go_ret2
  exact ⟨rfl, rfl⟩

set_option maxHeartbeats 400000 in
theorem do2 (v a : Int) (b0 : Nat) (w : World) (h : w.cell? ⟨b0, 2, none⟩ = some (.int .u64 a)) : Calls Try.prog 44 #[.int .u64 v, .pointer (some ⟨b0, 0, none⟩)] w fun e w' => e = .returned (.tuple #[.int .u64 a, .bool true]) ∧ w = w' := by
  go_enter Try.func44, Try.ntmps44
  go_wp2
  go_ret2
  exact ⟨rfl, rfl⟩

set_option maxHeartbeats 400000 in
theorem do3 (v a b : Int) (b0 : Nat) (w : World) (ha : w.cell? ⟨b0, 2, none⟩ = some (.int .u64 a)) (hb : w.cell? ⟨b0, 3, none⟩ = some (.int .u64 b)) : Calls Try.prog 45 #[.int .u64 v, .pointer (some ⟨b0, 0, none⟩)] w fun e w' => e = .returned (.tuple #[.int .u64 b, .bool (v == a)]) ∧ ∃ n, w' = w.drewN n := by
  go_enter Try.func45, Try.ntmps45
  go_wp2
  go_quiet (fail)
  go_wp2
  go_ret2
  exact ⟨rfl, _, rfl⟩

set_option maxHeartbeats 400000 in
theorem do4 (v a : Int) (b0 : Nat) (w : World) (ha : w.cell? ⟨b0, 2, none⟩ = some (.int .u64 a))  : Calls Try.prog 46 #[.int .u64 v, .pointer (some ⟨b0, 0, none⟩)] w fun e w' => e = .returned (.tuple #[.int .u64 (IntKind.u64.wrap (v + a)), .bool true]) ∧ w = w' := by
  go_enter Try.func46, Try.ntmps46
  go_wp2
  go_ret2
  exact ⟨rfl, rfl⟩

end Go.Proofs.Ytkbaddopgdfafaa
