/-
  No cell of these rows narrows 'for every input' (looked for: loops, veiled, ifaces, maps, wideKeys, modest, calm, conditions, laid).
  DERIVED. THE GIVEN ROWS OF THIS SEAT. 7 by the template 'for every input the law returns true; each argument reads behind the call as it read before'; 0 by the template 'total and deterministic' (their statements: YtkbaddopgdfafabTotals.lean).
  GIVEN WITH THE SEED: the statements are not yours to turn. If you find one false, say at which input.
  Laid BY PROGRAM, IN A SANDBOX (cutbox-rows.mjs): the forced cells as the released guide's own fill.sh prints them over the translation f1515a66ff4d57a8… (all of the seat's roots in one cut). By AI agents, Wed Nov 11 2026. No macro, syntax, notation, axiom, sorry.
-/
import Derived.Test.YtkbaddopgdfafabChecked
import GoSem.Claim
import GoSem.ClaimJoined
import GoSem.ClaimMapViews
import Derived.JoinedTies
import Derived.KernelRfl
namespace Go.Proofs.Ytkbaddopgdfafab
/- THE CELL 'sum', in the pinned program and in every row, IS THE sha256 OF THE DUMP (.gsa) THAT YtkbaddopgdfafabProg.lean LOADS. Nothing in Lean hashes anything: it is a label: what it is worth is what the hold of that sum in a sandbox is worth. -/
noncomputable def Try.pinned : Pinned := { name := "ytkbaddopgdfafab", sum := "f1515a66ff4d57a8f40a8dd77ddb0de6907802e5a3d72e5a100cfa97d4ef2747", checked := Try.checked }
namespace Rows
def none {H : Type} : Left H := { results := [], args := [] }

/-- 'besomlaw01.PickTells': WHATEVER THE INPUT: true; the input reads as it did. -/
def pickTellsSpec : ChangeSpec := { name := "pickTells", fn := fun _ => fun
  | [d1, d2, d3, d4, d5] => { results := [.lit (.bool true)], args := [d1, d2, d3, d4, d5] }
  | _ => none }
def pickTellsRow : OpenClaim := { program := "ytkbaddopgdfafab", sum := "f1515a66ff4d57a8f40a8dd77ddb0de6907802e5a3d72e5a100cfa97d4ef2747", func := "besom/besomlaw01.PickTells", spec := "pickTells", unfollowed := true, recurses := true, plainKeys := false, apart := false }
def PickTellsSaid : Prop := pickTellsRow.holds Try.pinned (OpenSpec.ofChange pickTellsSpec)

/-- ITS FALSE NEIGHBOUR: 'it returns false'. Refute it at one input. -/
def pickTellsWrong : ChangeSpec := { name := "pickTells", fn := fun _ => fun
  | [d1, d2, d3, d4, d5] => { results := [.lit (.bool false)], args := [d1, d2, d3, d4, d5] }
  | _ => none }
def PickTellsWrongFalsely : Prop := pickTellsRow.holds Try.pinned (OpenSpec.ofChange pickTellsWrong)

/-- 'besomlaw01.PickBack': WHATEVER THE INPUT: true; the input reads as it did. -/
def pickBackSpec : ChangeSpec := { name := "pickBack", fn := fun _ => fun
  | [d] => { results := [.lit (.bool true)], args := [d] }
  | _ => none }
def pickBackRow : OpenClaim := { program := "ytkbaddopgdfafab", sum := "f1515a66ff4d57a8f40a8dd77ddb0de6907802e5a3d72e5a100cfa97d4ef2747", func := "besom/besomlaw01.PickBack", spec := "pickBack", unfollowed := true, recurses := true, plainKeys := false, apart := false }
def PickBackSaid : Prop := pickBackRow.holds Try.pinned (OpenSpec.ofChange pickBackSpec)

/-- ITS FALSE NEIGHBOUR: 'it returns false'. Refute it at one input. -/
def pickBackWrong : ChangeSpec := { name := "pickBack", fn := fun _ => fun
  | [d] => { results := [.lit (.bool false)], args := [d] }
  | _ => none }
def PickBackWrongFalsely : Prop := pickBackRow.holds Try.pinned (OpenSpec.ofChange pickBackWrong)

/-- 'besomlaw01.PickRight': WHATEVER THE INPUT: true; the input reads as it did. -/
def pickRightSpec : ChangeSpec := { name := "pickRight", fn := fun _ => fun
  | [d] => { results := [.lit (.bool true)], args := [d] }
  | _ => none }
def pickRightRow : OpenClaim := { program := "ytkbaddopgdfafab", sum := "f1515a66ff4d57a8f40a8dd77ddb0de6907802e5a3d72e5a100cfa97d4ef2747", func := "besom/besomlaw01.PickRight", spec := "pickRight", unfollowed := true, recurses := true, plainKeys := false, apart := false }
def PickRightSaid : Prop := pickRightRow.holds Try.pinned (OpenSpec.ofChange pickRightSpec)

/-- ITS FALSE NEIGHBOUR: 'it returns false'. Refute it at one input. -/
def pickRightWrong : ChangeSpec := { name := "pickRight", fn := fun _ => fun
  | [d] => { results := [.lit (.bool false)], args := [d] }
  | _ => none }
def PickRightWrongFalsely : Prop := pickRightRow.holds Try.pinned (OpenSpec.ofChange pickRightWrong)

/-- 'besomlaw01.PickRounds': WHATEVER THE INPUT: true; the input reads as it did. -/
def pickRoundsSpec : ChangeSpec := { name := "pickRounds", fn := fun _ => fun
  | [d1, d2, d3] => { results := [.lit (.bool true)], args := [d1, d2, d3] }
  | _ => none }
def pickRoundsRow : OpenClaim := { program := "ytkbaddopgdfafab", sum := "f1515a66ff4d57a8f40a8dd77ddb0de6907802e5a3d72e5a100cfa97d4ef2747", func := "besom/besomlaw01.PickRounds", spec := "pickRounds", unfollowed := true, recurses := true, plainKeys := false, apart := false }
def PickRoundsSaid : Prop := pickRoundsRow.holds Try.pinned (OpenSpec.ofChange pickRoundsSpec)

/-- ITS FALSE NEIGHBOUR: 'it returns false'. Refute it at one input. -/
def pickRoundsWrong : ChangeSpec := { name := "pickRounds", fn := fun _ => fun
  | [d1, d2, d3] => { results := [.lit (.bool false)], args := [d1, d2, d3] }
  | _ => none }
def PickRoundsWrongFalsely : Prop := pickRoundsRow.holds Try.pinned (OpenSpec.ofChange pickRoundsWrong)

/-- 'besomlaw01.PickFair': WHATEVER THE INPUT: true; the input reads as it did. -/
def pickFairSpec : ChangeSpec := { name := "pickFair", fn := fun _ => fun
  | [d1, d2, d3, d4, d5] => { results := [.lit (.bool true)], args := [d1, d2, d3, d4, d5] }
  | _ => none }
def pickFairRow : OpenClaim := { program := "ytkbaddopgdfafab", sum := "f1515a66ff4d57a8f40a8dd77ddb0de6907802e5a3d72e5a100cfa97d4ef2747", func := "besom/besomlaw01.PickFair", spec := "pickFair", unfollowed := true, recurses := true, plainKeys := false, apart := false }
def PickFairSaid : Prop := pickFairRow.holds Try.pinned (OpenSpec.ofChange pickFairSpec)

/-- ITS FALSE NEIGHBOUR: 'it returns false'. Refute it at one input. -/
def pickFairWrong : ChangeSpec := { name := "pickFair", fn := fun _ => fun
  | [d1, d2, d3, d4, d5] => { results := [.lit (.bool false)], args := [d1, d2, d3, d4, d5] }
  | _ => none }
def PickFairWrongFalsely : Prop := pickFairRow.holds Try.pinned (OpenSpec.ofChange pickFairWrong)

/-- 'besomlaw01.PickKnown': WHATEVER THE INPUT: true; the input reads as it did. -/
def pickKnownSpec : ChangeSpec := { name := "pickKnown", fn := fun _ => fun
  | [d1, d2, d3, d4] => { results := [.lit (.bool true)], args := [d1, d2, d3, d4] }
  | _ => none }
def pickKnownRow : OpenClaim := { program := "ytkbaddopgdfafab", sum := "f1515a66ff4d57a8f40a8dd77ddb0de6907802e5a3d72e5a100cfa97d4ef2747", func := "besom/besomlaw01.PickKnown", spec := "pickKnown", unfollowed := true, recurses := true, plainKeys := false, apart := false }
def PickKnownSaid : Prop := pickKnownRow.holds Try.pinned (OpenSpec.ofChange pickKnownSpec)

/-- ITS FALSE NEIGHBOUR: 'it returns false'. Refute it at one input. -/
def pickKnownWrong : ChangeSpec := { name := "pickKnown", fn := fun _ => fun
  | [d1, d2, d3, d4] => { results := [.lit (.bool false)], args := [d1, d2, d3, d4] }
  | _ => none }
def PickKnownWrongFalsely : Prop := pickKnownRow.holds Try.pinned (OpenSpec.ofChange pickKnownWrong)

/-- 'besomlaw01.PickApart': WHATEVER THE INPUT: true; the input reads as it did. -/
def pickApartSpec : ChangeSpec := { name := "pickApart", fn := fun _ => fun
  | [d1, d2] => { results := [.lit (.bool true)], args := [d1, d2] }
  | _ => none }
def pickApartRow : OpenClaim := { program := "ytkbaddopgdfafab", sum := "f1515a66ff4d57a8f40a8dd77ddb0de6907802e5a3d72e5a100cfa97d4ef2747", func := "besom/besomlaw01.PickApart", spec := "pickApart", unfollowed := true, recurses := true, plainKeys := false, apart := false }
def PickApartSaid : Prop := pickApartRow.holds Try.pinned (OpenSpec.ofChange pickApartSpec)

/-- ITS FALSE NEIGHBOUR: 'it returns false'. Refute it at one input. -/
def pickApartWrong : ChangeSpec := { name := "pickApart", fn := fun _ => fun
  | [d1, d2] => { results := [.lit (.bool false)], args := [d1, d2] }
  | _ => none }
def PickApartWrongFalsely : Prop := pickApartRow.holds Try.pinned (OpenSpec.ofChange pickApartWrong)

/- THE SECOND FORM. 'bulk': how many values and letters a reading holds, each counted each time it is reached (what is shared counts as often as it is met; a slice's spare places count too). A statement '..UptoSaid' is the law's where the arguments, and the package variables that the reading takes, are together of bulk at most 1048576: NARROWER than '..Said'. Prove '..Said' where nothing that the law and all that it calls make is longer than what came in: it says more and counts as full. Else prove '..UptoSaid'. A law counts once. -/
mutual
def uptoBulk {H : Type} : DataW H → Nat
  | .lit (.string bytes) => bytes.length + 1
  | .lit _ => 1
  | .nil => 1
  | .ptr d => uptoBulk d + 1
  | .slice elems spare => uptoBulkAll elems + uptoBulkAll spare + 1
  | .agg parts => uptoBulkAll parts + 1
  | .iface _ d => uptoBulk d + 1
  | .map entries => uptoBulkEntries entries + 1
  | .held _ => 1
def uptoBulkAll {H : Type} : List (DataW H) → Nat
  | [] => 0
  | d :: r => uptoBulk d + uptoBulkAll r
def uptoBulkEntries {H : Type} : List (Lit × DataW H) → Nat
  | [] => 0
  | x :: r => uptoBulkEntry x + uptoBulkEntries r
def uptoBulkEntry {H : Type} : Lit × DataW H → Nat
  | (.string bytes, d) => bytes.length + uptoBulk d + 1
  | (_, d) => uptoBulk d + 1
 end
def uptoSmall : (H : Type) → List (DataW H) → Bool := fun _ ds => decide (uptoBulkAll ds ≤ 1048576)
def OpenSpec.upto (s : _root_.Go.ChangeSpec) : _root_.Go.OpenSpec := { _root_.Go.OpenSpec.ofChange s with cond := some uptoSmall }

/-- 'besomlaw01.PickTells', WHERE WHAT IT READS IS OF BULK AT MOST 1048576: true; the input reads as it did. -/
def pickTellsUptoRow : OpenClaim := { program := "ytkbaddopgdfafab", sum := "f1515a66ff4d57a8f40a8dd77ddb0de6907802e5a3d72e5a100cfa97d4ef2747", func := "besom/besomlaw01.PickTells", spec := "pickTells", unfollowed := true, recurses := true, plainKeys := false, apart := false, narrowed := true }
def PickTellsUptoSaid : Prop := pickTellsUptoRow.holds Try.pinned (OpenSpec.upto pickTellsSpec)

/-- 'besomlaw01.PickBack', WHERE WHAT IT READS IS OF BULK AT MOST 1048576: true; the input reads as it did. -/
def pickBackUptoRow : OpenClaim := { program := "ytkbaddopgdfafab", sum := "f1515a66ff4d57a8f40a8dd77ddb0de6907802e5a3d72e5a100cfa97d4ef2747", func := "besom/besomlaw01.PickBack", spec := "pickBack", unfollowed := true, recurses := true, plainKeys := false, apart := false, narrowed := true }
def PickBackUptoSaid : Prop := pickBackUptoRow.holds Try.pinned (OpenSpec.upto pickBackSpec)

/-- 'besomlaw01.PickRight', WHERE WHAT IT READS IS OF BULK AT MOST 1048576: true; the input reads as it did. -/
def pickRightUptoRow : OpenClaim := { program := "ytkbaddopgdfafab", sum := "f1515a66ff4d57a8f40a8dd77ddb0de6907802e5a3d72e5a100cfa97d4ef2747", func := "besom/besomlaw01.PickRight", spec := "pickRight", unfollowed := true, recurses := true, plainKeys := false, apart := false, narrowed := true }
def PickRightUptoSaid : Prop := pickRightUptoRow.holds Try.pinned (OpenSpec.upto pickRightSpec)

/-- 'besomlaw01.PickRounds', WHERE WHAT IT READS IS OF BULK AT MOST 1048576: true; the input reads as it did. -/
def pickRoundsUptoRow : OpenClaim := { program := "ytkbaddopgdfafab", sum := "f1515a66ff4d57a8f40a8dd77ddb0de6907802e5a3d72e5a100cfa97d4ef2747", func := "besom/besomlaw01.PickRounds", spec := "pickRounds", unfollowed := true, recurses := true, plainKeys := false, apart := false, narrowed := true }
def PickRoundsUptoSaid : Prop := pickRoundsUptoRow.holds Try.pinned (OpenSpec.upto pickRoundsSpec)

/-- 'besomlaw01.PickFair', WHERE WHAT IT READS IS OF BULK AT MOST 1048576: true; the input reads as it did. -/
def pickFairUptoRow : OpenClaim := { program := "ytkbaddopgdfafab", sum := "f1515a66ff4d57a8f40a8dd77ddb0de6907802e5a3d72e5a100cfa97d4ef2747", func := "besom/besomlaw01.PickFair", spec := "pickFair", unfollowed := true, recurses := true, plainKeys := false, apart := false, narrowed := true }
def PickFairUptoSaid : Prop := pickFairUptoRow.holds Try.pinned (OpenSpec.upto pickFairSpec)

/-- 'besomlaw01.PickKnown', WHERE WHAT IT READS IS OF BULK AT MOST 1048576: true; the input reads as it did. -/
def pickKnownUptoRow : OpenClaim := { program := "ytkbaddopgdfafab", sum := "f1515a66ff4d57a8f40a8dd77ddb0de6907802e5a3d72e5a100cfa97d4ef2747", func := "besom/besomlaw01.PickKnown", spec := "pickKnown", unfollowed := true, recurses := true, plainKeys := false, apart := false, narrowed := true }
def PickKnownUptoSaid : Prop := pickKnownUptoRow.holds Try.pinned (OpenSpec.upto pickKnownSpec)

/-- 'besomlaw01.PickApart', WHERE WHAT IT READS IS OF BULK AT MOST 1048576: true; the input reads as it did. -/
def pickApartUptoRow : OpenClaim := { program := "ytkbaddopgdfafab", sum := "f1515a66ff4d57a8f40a8dd77ddb0de6907802e5a3d72e5a100cfa97d4ef2747", func := "besom/besomlaw01.PickApart", spec := "pickApart", unfollowed := true, recurses := true, plainKeys := false, apart := false, narrowed := true }
def PickApartUptoSaid : Prop := pickApartUptoRow.holds Try.pinned (OpenSpec.upto pickApartSpec)

end Rows
end Go.Proofs.Ytkbaddopgdfafab
