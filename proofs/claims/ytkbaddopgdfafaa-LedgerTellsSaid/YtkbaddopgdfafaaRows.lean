/-
  No cell of these rows narrows 'for every input' (looked for: loops, veiled, ifaces, maps, wideKeys, modest, calm, conditions, laid).
  DERIVED. THE GIVEN ROWS OF THIS SEAT. 12 by the template 'for every input the law returns true; each argument reads behind the call as it read before'; 0 by the template 'total and deterministic' (their statements: YtkbaddopgdfafaaTotals.lean).
  GIVEN WITH THE SEED: the statements are not yours to turn. If you find one false, say at which input.
  Laid BY PROGRAM, IN A SANDBOX (cutbox-rows.mjs): the forced cells as the released guide's own fill.sh prints them over the translation ccff2d0c955f56c6… (all of the seat's roots in one cut). By AI agents, Wed Nov 11 2026. No macro, syntax, notation, axiom, sorry.
-/
import Derived.Test.YtkbaddopgdfafaaChecked
import GoSem.Claim
import GoSem.ClaimJoined
import GoSem.ClaimMapViews
import Derived.JoinedTies
import Derived.KernelRfl
namespace Go.Proofs.Ytkbaddopgdfafaa
/- THE CELL 'sum', in the pinned program and in every row, IS THE sha256 OF THE DUMP (.gsa) THAT YtkbaddopgdfafaaProg.lean LOADS. Nothing in Lean hashes anything: it is a label: what it is worth is what the hold of that sum in a sandbox is worth. -/
noncomputable def Try.pinned : Pinned := { name := "ytkbaddopgdfafaa", sum := "ccff2d0c955f56c649f7fd53e19743a57dff6af672ef61cbc64242faa1f87b4a", checked := Try.checked }
namespace Rows
def none {H : Type} : Left H := { results := [], args := [] }

/-- 'besomlaw05.MemTells': WHATEVER THE INPUT: true; the input reads as it did. -/
def memTellsSpec : ChangeSpec := { name := "memTells", fn := fun _ => fun
  | [d1, d2, d3, d4] => { results := [.lit (.bool true)], args := [d1, d2, d3, d4] }
  | _ => none }
def memTellsRow : OpenClaim := { program := "ytkbaddopgdfafaa", sum := "ccff2d0c955f56c649f7fd53e19743a57dff6af672ef61cbc64242faa1f87b4a", func := "besom/besomlaw05.MemTells", spec := "memTells", unfollowed := true, recurses := true, apart := false }
def MemTellsSaid : Prop := memTellsRow.holds Try.pinned (OpenSpec.ofChange memTellsSpec)

/-- ITS FALSE NEIGHBOUR: 'it returns false'. Refute it at one input. -/
def memTellsWrong : ChangeSpec := { name := "memTells", fn := fun _ => fun
  | [d1, d2, d3, d4] => { results := [.lit (.bool false)], args := [d1, d2, d3, d4] }
  | _ => none }
def MemTellsWrongFalsely : Prop := memTellsRow.holds Try.pinned (OpenSpec.ofChange memTellsWrong)

/-- 'besomlaw05.MemOne': WHATEVER THE INPUT: true; the input reads as it did. -/
def memOneSpec : ChangeSpec := { name := "memOne", fn := fun _ => fun
  | [d1, d2] => { results := [.lit (.bool true)], args := [d1, d2] }
  | _ => none }
def memOneRow : OpenClaim := { program := "ytkbaddopgdfafaa", sum := "ccff2d0c955f56c649f7fd53e19743a57dff6af672ef61cbc64242faa1f87b4a", func := "besom/besomlaw05.MemOne", spec := "memOne", unfollowed := true, recurses := true, apart := false }
def MemOneSaid : Prop := memOneRow.holds Try.pinned (OpenSpec.ofChange memOneSpec)

/-- ITS FALSE NEIGHBOUR: 'it returns false'. Refute it at one input. -/
def memOneWrong : ChangeSpec := { name := "memOne", fn := fun _ => fun
  | [d1, d2] => { results := [.lit (.bool false)], args := [d1, d2] }
  | _ => none }
def MemOneWrongFalsely : Prop := memOneRow.holds Try.pinned (OpenSpec.ofChange memOneWrong)

/-- 'besomlaw05.MemSwaps': WHATEVER THE INPUT: true; the input reads as it did. -/
def memSwapsSpec : ChangeSpec := { name := "memSwaps", fn := fun _ => fun
  | [d1, d2, d3, d4] => { results := [.lit (.bool true)], args := [d1, d2, d3, d4] }
  | _ => none }
def memSwapsRow : OpenClaim := { program := "ytkbaddopgdfafaa", sum := "ccff2d0c955f56c649f7fd53e19743a57dff6af672ef61cbc64242faa1f87b4a", func := "besom/besomlaw05.MemSwaps", spec := "memSwaps", unfollowed := true, recurses := true, apart := false }
def MemSwapsSaid : Prop := memSwapsRow.holds Try.pinned (OpenSpec.ofChange memSwapsSpec)

/-- ITS FALSE NEIGHBOUR: 'it returns false'. Refute it at one input. -/
def memSwapsWrong : ChangeSpec := { name := "memSwaps", fn := fun _ => fun
  | [d1, d2, d3, d4] => { results := [.lit (.bool false)], args := [d1, d2, d3, d4] }
  | _ => none }
def MemSwapsWrongFalsely : Prop := memSwapsRow.holds Try.pinned (OpenSpec.ofChange memSwapsWrong)

/-- 'besomlaw05.MemAdds': WHATEVER THE INPUT: true; the input reads as it did. -/
def memAddsSpec : ChangeSpec := { name := "memAdds", fn := fun _ => fun
  | [d1, d2, d3, d4] => { results := [.lit (.bool true)], args := [d1, d2, d3, d4] }
  | _ => none }
def memAddsRow : OpenClaim := { program := "ytkbaddopgdfafaa", sum := "ccff2d0c955f56c649f7fd53e19743a57dff6af672ef61cbc64242faa1f87b4a", func := "besom/besomlaw05.MemAdds", spec := "memAdds", unfollowed := true, recurses := true, apart := false }
def MemAddsSaid : Prop := memAddsRow.holds Try.pinned (OpenSpec.ofChange memAddsSpec)

/-- ITS FALSE NEIGHBOUR: 'it returns false'. Refute it at one input. -/
def memAddsWrong : ChangeSpec := { name := "memAdds", fn := fun _ => fun
  | [d1, d2, d3, d4] => { results := [.lit (.bool false)], args := [d1, d2, d3, d4] }
  | _ => none }
def MemAddsWrongFalsely : Prop := memAddsRow.holds Try.pinned (OpenSpec.ofChange memAddsWrong)

/-- 'besomlaw05.MemAll': WHATEVER THE INPUT: true; the input reads as it did. -/
def memAllSpec : ChangeSpec := { name := "memAll", fn := fun _ => fun
  | [d1, d2, d3] => { results := [.lit (.bool true)], args := [d1, d2, d3] }
  | _ => none }
def memAllRow : OpenClaim := { program := "ytkbaddopgdfafaa", sum := "ccff2d0c955f56c649f7fd53e19743a57dff6af672ef61cbc64242faa1f87b4a", func := "besom/besomlaw05.MemAll", spec := "memAll", unfollowed := true, recurses := true, apart := false }
def MemAllSaid : Prop := memAllRow.holds Try.pinned (OpenSpec.ofChange memAllSpec)

/-- ITS FALSE NEIGHBOUR: 'it returns false'. Refute it at one input. -/
def memAllWrong : ChangeSpec := { name := "memAll", fn := fun _ => fun
  | [d1, d2, d3] => { results := [.lit (.bool false)], args := [d1, d2, d3] }
  | _ => none }
def MemAllWrongFalsely : Prop := memAllRow.holds Try.pinned (OpenSpec.ofChange memAllWrong)

/-- 'besomlaw05.MemApart': WHATEVER THE INPUT: true; the input reads as it did. -/
def memApartSpec : ChangeSpec := { name := "memApart", fn := fun _ => fun
  | [d1, d2, d3] => { results := [.lit (.bool true)], args := [d1, d2, d3] }
  | _ => none }
def memApartRow : OpenClaim := { program := "ytkbaddopgdfafaa", sum := "ccff2d0c955f56c649f7fd53e19743a57dff6af672ef61cbc64242faa1f87b4a", func := "besom/besomlaw05.MemApart", spec := "memApart", unfollowed := true, recurses := true, apart := false }
def MemApartSaid : Prop := memApartRow.holds Try.pinned (OpenSpec.ofChange memApartSpec)

/-- ITS FALSE NEIGHBOUR: 'it returns false'. Refute it at one input. -/
def memApartWrong : ChangeSpec := { name := "memApart", fn := fun _ => fun
  | [d1, d2, d3] => { results := [.lit (.bool false)], args := [d1, d2, d3] }
  | _ => none }
def MemApartWrongFalsely : Prop := memApartRow.holds Try.pinned (OpenSpec.ofChange memApartWrong)

/-- 'besomlaw10.LedgerTells': WHATEVER THE INPUT: true; the input reads as it did. -/
def ledgerTellsSpec : ChangeSpec := { name := "ledgerTells", fn := fun _ => fun
  | [d1, d2, d3, d4, d5, d6] => { results := [.lit (.bool true)], args := [d1, d2, d3, d4, d5, d6] }
  | _ => none }
def ledgerTellsRow : OpenClaim := { program := "ytkbaddopgdfafaa", sum := "ccff2d0c955f56c649f7fd53e19743a57dff6af672ef61cbc64242faa1f87b4a", func := "besom/besomlaw10.LedgerTells", spec := "ledgerTells", unfollowed := true, recurses := true, apart := false }
def LedgerTellsSaid : Prop := ledgerTellsRow.holds Try.pinned (OpenSpec.ofChange ledgerTellsSpec)

/-- ITS FALSE NEIGHBOUR: 'it returns false'. Refute it at one input. -/
def ledgerTellsWrong : ChangeSpec := { name := "ledgerTells", fn := fun _ => fun
  | [d1, d2, d3, d4, d5, d6] => { results := [.lit (.bool false)], args := [d1, d2, d3, d4, d5, d6] }
  | _ => none }
def LedgerTellsWrongFalsely : Prop := ledgerTellsRow.holds Try.pinned (OpenSpec.ofChange ledgerTellsWrong)

/-- 'besomlaw10.LedgerSums': WHATEVER THE INPUT: true; the input reads as it did. -/
def ledgerSumsSpec : ChangeSpec := { name := "ledgerSums", fn := fun _ => fun
  | [d1, d2] => { results := [.lit (.bool true)], args := [d1, d2] }
  | _ => none }
def ledgerSumsRow : OpenClaim := { program := "ytkbaddopgdfafaa", sum := "ccff2d0c955f56c649f7fd53e19743a57dff6af672ef61cbc64242faa1f87b4a", func := "besom/besomlaw10.LedgerSums", spec := "ledgerSums", unfollowed := true, recurses := true, apart := false }
def LedgerSumsSaid : Prop := ledgerSumsRow.holds Try.pinned (OpenSpec.ofChange ledgerSumsSpec)

/-- ITS FALSE NEIGHBOUR: 'it returns false'. Refute it at one input. -/
def ledgerSumsWrong : ChangeSpec := { name := "ledgerSums", fn := fun _ => fun
  | [d1, d2] => { results := [.lit (.bool false)], args := [d1, d2] }
  | _ => none }
def LedgerSumsWrongFalsely : Prop := ledgerSumsRow.holds Try.pinned (OpenSpec.ofChange ledgerSumsWrong)

/-- 'besomlaw10.LedgerLimit': WHATEVER THE INPUT: true; the input reads as it did. -/
def ledgerLimitSpec : ChangeSpec := { name := "ledgerLimit", fn := fun _ => fun
  | [d1, d2, d3] => { results := [.lit (.bool true)], args := [d1, d2, d3] }
  | _ => none }
def ledgerLimitRow : OpenClaim := { program := "ytkbaddopgdfafaa", sum := "ccff2d0c955f56c649f7fd53e19743a57dff6af672ef61cbc64242faa1f87b4a", func := "besom/besomlaw10.LedgerLimit", spec := "ledgerLimit", unfollowed := true, recurses := true, apart := false }
def LedgerLimitSaid : Prop := ledgerLimitRow.holds Try.pinned (OpenSpec.ofChange ledgerLimitSpec)

/-- ITS FALSE NEIGHBOUR: 'it returns false'. Refute it at one input. -/
def ledgerLimitWrong : ChangeSpec := { name := "ledgerLimit", fn := fun _ => fun
  | [d1, d2, d3] => { results := [.lit (.bool false)], args := [d1, d2, d3] }
  | _ => none }
def LedgerLimitWrongFalsely : Prop := ledgerLimitRow.holds Try.pinned (OpenSpec.ofChange ledgerLimitWrong)

/-- 'besomlaw10.LedgerLacks': WHATEVER THE INPUT: true; the input reads as it did. -/
def ledgerLacksSpec : ChangeSpec := { name := "ledgerLacks", fn := fun _ => fun
  | [d1, d2, d3, d4] => { results := [.lit (.bool true)], args := [d1, d2, d3, d4] }
  | _ => none }
def ledgerLacksRow : OpenClaim := { program := "ytkbaddopgdfafaa", sum := "ccff2d0c955f56c649f7fd53e19743a57dff6af672ef61cbc64242faa1f87b4a", func := "besom/besomlaw10.LedgerLacks", spec := "ledgerLacks", unfollowed := true, recurses := true, apart := false }
def LedgerLacksSaid : Prop := ledgerLacksRow.holds Try.pinned (OpenSpec.ofChange ledgerLacksSpec)

/-- ITS FALSE NEIGHBOUR: 'it returns false'. Refute it at one input. -/
def ledgerLacksWrong : ChangeSpec := { name := "ledgerLacks", fn := fun _ => fun
  | [d1, d2, d3, d4] => { results := [.lit (.bool false)], args := [d1, d2, d3, d4] }
  | _ => none }
def LedgerLacksWrongFalsely : Prop := ledgerLacksRow.holds Try.pinned (OpenSpec.ofChange ledgerLacksWrong)

/-- 'besomlaw10.LedgerTakes': WHATEVER THE INPUT: true; the input reads as it did. -/
def ledgerTakesSpec : ChangeSpec := { name := "ledgerTakes", fn := fun _ => fun
  | [d1, d2, d3] => { results := [.lit (.bool true)], args := [d1, d2, d3] }
  | _ => none }
def ledgerTakesRow : OpenClaim := { program := "ytkbaddopgdfafaa", sum := "ccff2d0c955f56c649f7fd53e19743a57dff6af672ef61cbc64242faa1f87b4a", func := "besom/besomlaw10.LedgerTakes", spec := "ledgerTakes", unfollowed := true, recurses := true, apart := false }
def LedgerTakesSaid : Prop := ledgerTakesRow.holds Try.pinned (OpenSpec.ofChange ledgerTakesSpec)

/-- ITS FALSE NEIGHBOUR: 'it returns false'. Refute it at one input. -/
def ledgerTakesWrong : ChangeSpec := { name := "ledgerTakes", fn := fun _ => fun
  | [d1, d2, d3] => { results := [.lit (.bool false)], args := [d1, d2, d3] }
  | _ => none }
def LedgerTakesWrongFalsely : Prop := ledgerTakesRow.holds Try.pinned (OpenSpec.ofChange ledgerTakesWrong)

/-- 'besomlaw10.LedgerApart': WHATEVER THE INPUT: true; the input reads as it did. -/
def ledgerApartSpec : ChangeSpec := { name := "ledgerApart", fn := fun _ => fun
  | [d1, d2] => { results := [.lit (.bool true)], args := [d1, d2] }
  | _ => none }
def ledgerApartRow : OpenClaim := { program := "ytkbaddopgdfafaa", sum := "ccff2d0c955f56c649f7fd53e19743a57dff6af672ef61cbc64242faa1f87b4a", func := "besom/besomlaw10.LedgerApart", spec := "ledgerApart", unfollowed := true, recurses := true, apart := false }
def LedgerApartSaid : Prop := ledgerApartRow.holds Try.pinned (OpenSpec.ofChange ledgerApartSpec)

/-- ITS FALSE NEIGHBOUR: 'it returns false'. Refute it at one input. -/
def ledgerApartWrong : ChangeSpec := { name := "ledgerApart", fn := fun _ => fun
  | [d1, d2] => { results := [.lit (.bool false)], args := [d1, d2] }
  | _ => none }
def LedgerApartWrongFalsely : Prop := ledgerApartRow.holds Try.pinned (OpenSpec.ofChange ledgerApartWrong)

/- THE SECOND FORM. 'bulk': how many values and letters a reading holds, each counted each time it is reached (what is shared counts as often as it is met; a slice's spare places count too). A statement '..UptoSaid' is the law's where the arguments, and the package variables that the reading takes, are together of bulk at most 1048576: NARROWER than '..Said'. Prove '..Said' where nothing that the law and all that it calls make is longer than what came in: it says more and counts as full. Else prove '..UptoSaid'. A law counts once. -/
mutual
def uptoBulk {H : Type} : DataW H → Nat
  | .lit (.string bytes) => bytes.length + 1
  | .lit _ => 1
  | .nil => 1
  | .ptr d => uptoBulk d + 1
  | .slice elems spare => uptoBulkAll elems + uptoBulkAll spare + 1
  | .agg parts => uptoBulkAll parts + 1
  | .iface _ d => uptoBulk d + 1
  | .map entries => uptoBulkEntries entries + 1
  | .held _ => 1
def uptoBulkAll {H : Type} : List (DataW H) → Nat
  | [] => 0
  | d :: r => uptoBulk d + uptoBulkAll r
def uptoBulkEntries {H : Type} : List (Lit × DataW H) → Nat
  | [] => 0
  | x :: r => uptoBulkEntry x + uptoBulkEntries r
def uptoBulkEntry {H : Type} : Lit × DataW H → Nat
  | (.string bytes, d) => bytes.length + uptoBulk d + 1
  | (_, d) => uptoBulk d + 1
 end
def uptoSmall : (H : Type) → List (DataW H) → Bool := fun _ ds => decide (uptoBulkAll ds ≤ 1048576)
def OpenSpec.upto (s : _root_.Go.ChangeSpec) : _root_.Go.OpenSpec := { _root_.Go.OpenSpec.ofChange s with cond := some uptoSmall }

/-- 'besomlaw05.MemTells', WHERE WHAT IT READS IS OF BULK AT MOST 1048576: true; the input reads as it did. -/
def memTellsUptoRow : OpenClaim := { program := "ytkbaddopgdfafaa", sum := "ccff2d0c955f56c649f7fd53e19743a57dff6af672ef61cbc64242faa1f87b4a", func := "besom/besomlaw05.MemTells", spec := "memTells", unfollowed := true, recurses := true, apart := false, narrowed := true }
def MemTellsUptoSaid : Prop := memTellsUptoRow.holds Try.pinned (OpenSpec.upto memTellsSpec)

/-- 'besomlaw05.MemOne', WHERE WHAT IT READS IS OF BULK AT MOST 1048576: true; the input reads as it did. -/
def memOneUptoRow : OpenClaim := { program := "ytkbaddopgdfafaa", sum := "ccff2d0c955f56c649f7fd53e19743a57dff6af672ef61cbc64242faa1f87b4a", func := "besom/besomlaw05.MemOne", spec := "memOne", unfollowed := true, recurses := true, apart := false, narrowed := true }
def MemOneUptoSaid : Prop := memOneUptoRow.holds Try.pinned (OpenSpec.upto memOneSpec)

/-- 'besomlaw05.MemSwaps', WHERE WHAT IT READS IS OF BULK AT MOST 1048576: true; the input reads as it did. -/
def memSwapsUptoRow : OpenClaim := { program := "ytkbaddopgdfafaa", sum := "ccff2d0c955f56c649f7fd53e19743a57dff6af672ef61cbc64242faa1f87b4a", func := "besom/besomlaw05.MemSwaps", spec := "memSwaps", unfollowed := true, recurses := true, apart := false, narrowed := true }
def MemSwapsUptoSaid : Prop := memSwapsUptoRow.holds Try.pinned (OpenSpec.upto memSwapsSpec)

/-- 'besomlaw05.MemAdds', WHERE WHAT IT READS IS OF BULK AT MOST 1048576: true; the input reads as it did. -/
def memAddsUptoRow : OpenClaim := { program := "ytkbaddopgdfafaa", sum := "ccff2d0c955f56c649f7fd53e19743a57dff6af672ef61cbc64242faa1f87b4a", func := "besom/besomlaw05.MemAdds", spec := "memAdds", unfollowed := true, recurses := true, apart := false, narrowed := true }
def MemAddsUptoSaid : Prop := memAddsUptoRow.holds Try.pinned (OpenSpec.upto memAddsSpec)

/-- 'besomlaw05.MemAll', WHERE WHAT IT READS IS OF BULK AT MOST 1048576: true; the input reads as it did. -/
def memAllUptoRow : OpenClaim := { program := "ytkbaddopgdfafaa", sum := "ccff2d0c955f56c649f7fd53e19743a57dff6af672ef61cbc64242faa1f87b4a", func := "besom/besomlaw05.MemAll", spec := "memAll", unfollowed := true, recurses := true, apart := false, narrowed := true }
def MemAllUptoSaid : Prop := memAllUptoRow.holds Try.pinned (OpenSpec.upto memAllSpec)

/-- 'besomlaw05.MemApart', WHERE WHAT IT READS IS OF BULK AT MOST 1048576: true; the input reads as it did. -/
def memApartUptoRow : OpenClaim := { program := "ytkbaddopgdfafaa", sum := "ccff2d0c955f56c649f7fd53e19743a57dff6af672ef61cbc64242faa1f87b4a", func := "besom/besomlaw05.MemApart", spec := "memApart", unfollowed := true, recurses := true, apart := false, narrowed := true }
def MemApartUptoSaid : Prop := memApartUptoRow.holds Try.pinned (OpenSpec.upto memApartSpec)

/-- 'besomlaw10.LedgerTells', WHERE WHAT IT READS IS OF BULK AT MOST 1048576: true; the input reads as it did. -/
def ledgerTellsUptoRow : OpenClaim := { program := "ytkbaddopgdfafaa", sum := "ccff2d0c955f56c649f7fd53e19743a57dff6af672ef61cbc64242faa1f87b4a", func := "besom/besomlaw10.LedgerTells", spec := "ledgerTells", unfollowed := true, recurses := true, apart := false, narrowed := true }
def LedgerTellsUptoSaid : Prop := ledgerTellsUptoRow.holds Try.pinned (OpenSpec.upto ledgerTellsSpec)

/-- 'besomlaw10.LedgerSums', WHERE WHAT IT READS IS OF BULK AT MOST 1048576: true; the input reads as it did. -/
def ledgerSumsUptoRow : OpenClaim := { program := "ytkbaddopgdfafaa", sum := "ccff2d0c955f56c649f7fd53e19743a57dff6af672ef61cbc64242faa1f87b4a", func := "besom/besomlaw10.LedgerSums", spec := "ledgerSums", unfollowed := true, recurses := true, apart := false, narrowed := true }
def LedgerSumsUptoSaid : Prop := ledgerSumsUptoRow.holds Try.pinned (OpenSpec.upto ledgerSumsSpec)

/-- 'besomlaw10.LedgerLimit', WHERE WHAT IT READS IS OF BULK AT MOST 1048576: true; the input reads as it did. -/
def ledgerLimitUptoRow : OpenClaim := { program := "ytkbaddopgdfafaa", sum := "ccff2d0c955f56c649f7fd53e19743a57dff6af672ef61cbc64242faa1f87b4a", func := "besom/besomlaw10.LedgerLimit", spec := "ledgerLimit", unfollowed := true, recurses := true, apart := false, narrowed := true }
def LedgerLimitUptoSaid : Prop := ledgerLimitUptoRow.holds Try.pinned (OpenSpec.upto ledgerLimitSpec)

/-- 'besomlaw10.LedgerLacks', WHERE WHAT IT READS IS OF BULK AT MOST 1048576: true; the input reads as it did. -/
def ledgerLacksUptoRow : OpenClaim := { program := "ytkbaddopgdfafaa", sum := "ccff2d0c955f56c649f7fd53e19743a57dff6af672ef61cbc64242faa1f87b4a", func := "besom/besomlaw10.LedgerLacks", spec := "ledgerLacks", unfollowed := true, recurses := true, apart := false, narrowed := true }
def LedgerLacksUptoSaid : Prop := ledgerLacksUptoRow.holds Try.pinned (OpenSpec.upto ledgerLacksSpec)

/-- 'besomlaw10.LedgerTakes', WHERE WHAT IT READS IS OF BULK AT MOST 1048576: true; the input reads as it did. -/
def ledgerTakesUptoRow : OpenClaim := { program := "ytkbaddopgdfafaa", sum := "ccff2d0c955f56c649f7fd53e19743a57dff6af672ef61cbc64242faa1f87b4a", func := "besom/besomlaw10.LedgerTakes", spec := "ledgerTakes", unfollowed := true, recurses := true, apart := false, narrowed := true }
def LedgerTakesUptoSaid : Prop := ledgerTakesUptoRow.holds Try.pinned (OpenSpec.upto ledgerTakesSpec)

/-- 'besomlaw10.LedgerApart', WHERE WHAT IT READS IS OF BULK AT MOST 1048576: true; the input reads as it did. -/
def ledgerApartUptoRow : OpenClaim := { program := "ytkbaddopgdfafaa", sum := "ccff2d0c955f56c649f7fd53e19743a57dff6af672ef61cbc64242faa1f87b4a", func := "besom/besomlaw10.LedgerApart", spec := "ledgerApart", unfollowed := true, recurses := true, apart := false, narrowed := true }
def LedgerApartUptoSaid : Prop := ledgerApartUptoRow.holds Try.pinned (OpenSpec.upto ledgerApartSpec)

end Rows
end Go.Proofs.Ytkbaddopgdfafaa
