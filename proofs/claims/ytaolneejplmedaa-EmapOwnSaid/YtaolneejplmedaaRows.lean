/-
  No cell of these rows narrows 'for every input' (looked for: loops, veiled, ifaces, maps, wideKeys, modest, calm, conditions, laid).
  DERIVED. THE GIVEN ROWS OF THIS SEAT. 7 by the template 'for every input the law returns true; each argument reads behind the call as it read before'; 0 by the template 'total and deterministic' (their statements: YtaolneejplmedaaTotals.lean).
  GIVEN WITH THE SEED: the statements are not yours to turn. If you find one false, say at which input.
  Laid BY PROGRAM, IN A SANDBOX (cutbox-rows.mjs): the forced cells as the released guide's own fill.sh prints them over the translation 8d33b23e38abae4a… (all of the seat's roots in one cut). By AI agents, Wed Nov 11 2026. No macro, syntax, notation, axiom, sorry.
-/
import Derived.Test.YtaolneejplmedaaChecked
import GoSem.Claim
import GoSem.ClaimJoined
import GoSem.ClaimMapViews
import Derived.JoinedTies
import Derived.KernelRfl
namespace Go.Proofs.Ytaolneejplmedaa
/- THE CELL 'sum', in the pinned program and in every row, IS THE sha256 OF THE DUMP (.gsa) THAT YtaolneejplmedaaProg.lean LOADS. Nothing in Lean hashes anything: it is a label: what it is worth is what the hold of that sum in a sandbox is worth. -/
noncomputable def Try.pinned : Pinned := { name := "ytaolneejplmedaa", sum := "8d33b23e38abae4a442e26195c70447a2edafdf1620ae02d482c5e5cb84c0c6d", checked := Try.checked }
namespace Rows
def none {H : Type} : Left H := { results := [], args := [] }

/-- 'jackstaylaw06.EmapOrder': WHATEVER THE INPUT: true; the input reads as it did. -/
def emapOrderSpec : ChangeSpec := { name := "emapOrder", fn := fun _ => fun
  | [d1, d2] => { results := [.lit (.bool true)], args := [d1, d2] }
  | _ => none }
def emapOrderRow : OpenClaim := { program := "ytaolneejplmedaa", sum := "8d33b23e38abae4a442e26195c70447a2edafdf1620ae02d482c5e5cb84c0c6d", func := "jackstay/jackstaylaw06.EmapOrder", spec := "emapOrder", unfollowed := true, recurses := true, apart := false }
def EmapOrderSaid : Prop := emapOrderRow.holds Try.pinned (OpenSpec.ofChange emapOrderSpec)

/-- ITS FALSE NEIGHBOUR: 'it returns false'. Refute it at one input. -/
def emapOrderWrong : ChangeSpec := { name := "emapOrder", fn := fun _ => fun
  | [d1, d2] => { results := [.lit (.bool false)], args := [d1, d2] }
  | _ => none }
def EmapOrderWrongFalsely : Prop := emapOrderRow.holds Try.pinned (OpenSpec.ofChange emapOrderWrong)

/-- 'jackstaylaw06.EmapTurns': WHATEVER THE INPUT: true; the input reads as it did. -/
def emapTurnsSpec : ChangeSpec := { name := "emapTurns", fn := fun _ => fun
  | [d1, d2] => { results := [.lit (.bool true)], args := [d1, d2] }
  | _ => none }
def emapTurnsRow : OpenClaim := { program := "ytaolneejplmedaa", sum := "8d33b23e38abae4a442e26195c70447a2edafdf1620ae02d482c5e5cb84c0c6d", func := "jackstay/jackstaylaw06.EmapTurns", spec := "emapTurns", unfollowed := true, recurses := true, apart := false }
def EmapTurnsSaid : Prop := emapTurnsRow.holds Try.pinned (OpenSpec.ofChange emapTurnsSpec)

/-- ITS FALSE NEIGHBOUR: 'it returns false'. Refute it at one input. -/
def emapTurnsWrong : ChangeSpec := { name := "emapTurns", fn := fun _ => fun
  | [d1, d2] => { results := [.lit (.bool false)], args := [d1, d2] }
  | _ => none }
def EmapTurnsWrongFalsely : Prop := emapTurnsRow.holds Try.pinned (OpenSpec.ofChange emapTurnsWrong)

/-- 'jackstaylaw06.EmapBlocks': WHATEVER THE INPUT: true; the input reads as it did. -/
def emapBlocksSpec : ChangeSpec := { name := "emapBlocks", fn := fun _ => fun
  | [d1, d2] => { results := [.lit (.bool true)], args := [d1, d2] }
  | _ => none }
def emapBlocksRow : OpenClaim := { program := "ytaolneejplmedaa", sum := "8d33b23e38abae4a442e26195c70447a2edafdf1620ae02d482c5e5cb84c0c6d", func := "jackstay/jackstaylaw06.EmapBlocks", spec := "emapBlocks", unfollowed := true, recurses := true, apart := false }
def EmapBlocksSaid : Prop := emapBlocksRow.holds Try.pinned (OpenSpec.ofChange emapBlocksSpec)

/-- ITS FALSE NEIGHBOUR: 'it returns false'. Refute it at one input. -/
def emapBlocksWrong : ChangeSpec := { name := "emapBlocks", fn := fun _ => fun
  | [d1, d2] => { results := [.lit (.bool false)], args := [d1, d2] }
  | _ => none }
def EmapBlocksWrongFalsely : Prop := emapBlocksRow.holds Try.pinned (OpenSpec.ofChange emapBlocksWrong)

/-- 'jackstaylaw06.EmapAll': WHATEVER THE INPUT: true; the input reads as it did. -/
def emapAllSpec : ChangeSpec := { name := "emapAll", fn := fun _ => fun
  | [d1, d2, d3] => { results := [.lit (.bool true)], args := [d1, d2, d3] }
  | _ => none }
def emapAllRow : OpenClaim := { program := "ytaolneejplmedaa", sum := "8d33b23e38abae4a442e26195c70447a2edafdf1620ae02d482c5e5cb84c0c6d", func := "jackstay/jackstaylaw06.EmapAll", spec := "emapAll", unfollowed := true, recurses := true, apart := false }
def EmapAllSaid : Prop := emapAllRow.holds Try.pinned (OpenSpec.ofChange emapAllSpec)

/-- ITS FALSE NEIGHBOUR: 'it returns false'. Refute it at one input. -/
def emapAllWrong : ChangeSpec := { name := "emapAll", fn := fun _ => fun
  | [d1, d2, d3] => { results := [.lit (.bool false)], args := [d1, d2, d3] }
  | _ => none }
def EmapAllWrongFalsely : Prop := emapAllRow.holds Try.pinned (OpenSpec.ofChange emapAllWrong)

/-- 'jackstaylaw06.EmapForms': WHATEVER THE INPUT: true; the input reads as it did. -/
def emapFormsSpec : ChangeSpec := { name := "emapForms", fn := fun _ => fun
  | [d] => { results := [.lit (.bool true)], args := [d] }
  | _ => none }
def emapFormsRow : OpenClaim := { program := "ytaolneejplmedaa", sum := "8d33b23e38abae4a442e26195c70447a2edafdf1620ae02d482c5e5cb84c0c6d", func := "jackstay/jackstaylaw06.EmapForms", spec := "emapForms", unfollowed := true, recurses := true, apart := false }
def EmapFormsSaid : Prop := emapFormsRow.holds Try.pinned (OpenSpec.ofChange emapFormsSpec)

/-- ITS FALSE NEIGHBOUR: 'it returns false'. Refute it at one input. -/
def emapFormsWrong : ChangeSpec := { name := "emapForms", fn := fun _ => fun
  | [d] => { results := [.lit (.bool false)], args := [d] }
  | _ => none }
def EmapFormsWrongFalsely : Prop := emapFormsRow.holds Try.pinned (OpenSpec.ofChange emapFormsWrong)

/-- 'jackstaylaw06.EmapTells': WHATEVER THE INPUT: true; the input reads as it did. -/
def emapTellsSpec : ChangeSpec := { name := "emapTells", fn := fun _ => fun
  | [d1, d2, d3] => { results := [.lit (.bool true)], args := [d1, d2, d3] }
  | _ => none }
def emapTellsRow : OpenClaim := { program := "ytaolneejplmedaa", sum := "8d33b23e38abae4a442e26195c70447a2edafdf1620ae02d482c5e5cb84c0c6d", func := "jackstay/jackstaylaw06.EmapTells", spec := "emapTells", unfollowed := true, recurses := true, apart := false }
def EmapTellsSaid : Prop := emapTellsRow.holds Try.pinned (OpenSpec.ofChange emapTellsSpec)

/-- ITS FALSE NEIGHBOUR: 'it returns false'. Refute it at one input. -/
def emapTellsWrong : ChangeSpec := { name := "emapTells", fn := fun _ => fun
  | [d1, d2, d3] => { results := [.lit (.bool false)], args := [d1, d2, d3] }
  | _ => none }
def EmapTellsWrongFalsely : Prop := emapTellsRow.holds Try.pinned (OpenSpec.ofChange emapTellsWrong)

/-- 'jackstaylaw06.EmapOwn': WHATEVER THE INPUT: true; the input reads as it did. -/
def emapOwnSpec : ChangeSpec := { name := "emapOwn", fn := fun _ => fun
  | [d1, d2] => { results := [.lit (.bool true)], args := [d1, d2] }
  | _ => none }
def emapOwnRow : OpenClaim := { program := "ytaolneejplmedaa", sum := "8d33b23e38abae4a442e26195c70447a2edafdf1620ae02d482c5e5cb84c0c6d", func := "jackstay/jackstaylaw06.EmapOwn", spec := "emapOwn", unfollowed := true, recurses := true, apart := false }
def EmapOwnSaid : Prop := emapOwnRow.holds Try.pinned (OpenSpec.ofChange emapOwnSpec)

/-- ITS FALSE NEIGHBOUR: 'it returns false'. Refute it at one input. -/
def emapOwnWrong : ChangeSpec := { name := "emapOwn", fn := fun _ => fun
  | [d1, d2] => { results := [.lit (.bool false)], args := [d1, d2] }
  | _ => none }
def EmapOwnWrongFalsely : Prop := emapOwnRow.holds Try.pinned (OpenSpec.ofChange emapOwnWrong)

/- THE SECOND FORM. 'bulk': how many values and letters a reading holds, each counted each time it is reached (what is shared counts as often as it is met; a slice's spare places count too). A statement '..UptoSaid' is the law's where the arguments, and the package variables that the reading takes, are together of bulk at most 1048576: NARROWER than '..Said'. Prove '..Said' where nothing that the law and all that it calls make is longer than what came in: it says more and counts as full. Else prove '..UptoSaid'. A law counts once. -/
mutual
def uptoBulk {H : Type} : DataW H → Nat
  | .lit (.string bytes) => bytes.length + 1
  | .lit _ => 1
  | .nil => 1
  | .ptr d => uptoBulk d + 1
  | .slice elems spare => uptoBulkAll elems + uptoBulkAll spare + 1
  | .agg parts => uptoBulkAll parts + 1
  | .iface _ d => uptoBulk d + 1
  | .map entries => uptoBulkEntries entries + 1
  | .held _ => 1
def uptoBulkAll {H : Type} : List (DataW H) → Nat
  | [] => 0
  | d :: r => uptoBulk d + uptoBulkAll r
def uptoBulkEntries {H : Type} : List (Lit × DataW H) → Nat
  | [] => 0
  | x :: r => uptoBulkEntry x + uptoBulkEntries r
def uptoBulkEntry {H : Type} : Lit × DataW H → Nat
  | (.string bytes, d) => bytes.length + uptoBulk d + 1
  | (_, d) => uptoBulk d + 1
 end
def uptoSmall : (H : Type) → List (DataW H) → Bool := fun _ ds => decide (uptoBulkAll ds ≤ 1048576)
def OpenSpec.upto (s : _root_.Go.ChangeSpec) : _root_.Go.OpenSpec := { _root_.Go.OpenSpec.ofChange s with cond := some uptoSmall }

/-- 'jackstaylaw06.EmapOrder', WHERE WHAT IT READS IS OF BULK AT MOST 1048576: true; the input reads as it did. -/
def emapOrderUptoRow : OpenClaim := { program := "ytaolneejplmedaa", sum := "8d33b23e38abae4a442e26195c70447a2edafdf1620ae02d482c5e5cb84c0c6d", func := "jackstay/jackstaylaw06.EmapOrder", spec := "emapOrder", unfollowed := true, recurses := true, apart := false, narrowed := true }
def EmapOrderUptoSaid : Prop := emapOrderUptoRow.holds Try.pinned (OpenSpec.upto emapOrderSpec)

/-- 'jackstaylaw06.EmapTurns', WHERE WHAT IT READS IS OF BULK AT MOST 1048576: true; the input reads as it did. -/
def emapTurnsUptoRow : OpenClaim := { program := "ytaolneejplmedaa", sum := "8d33b23e38abae4a442e26195c70447a2edafdf1620ae02d482c5e5cb84c0c6d", func := "jackstay/jackstaylaw06.EmapTurns", spec := "emapTurns", unfollowed := true, recurses := true, apart := false, narrowed := true }
def EmapTurnsUptoSaid : Prop := emapTurnsUptoRow.holds Try.pinned (OpenSpec.upto emapTurnsSpec)

/-- 'jackstaylaw06.EmapBlocks', WHERE WHAT IT READS IS OF BULK AT MOST 1048576: true; the input reads as it did. -/
def emapBlocksUptoRow : OpenClaim := { program := "ytaolneejplmedaa", sum := "8d33b23e38abae4a442e26195c70447a2edafdf1620ae02d482c5e5cb84c0c6d", func := "jackstay/jackstaylaw06.EmapBlocks", spec := "emapBlocks", unfollowed := true, recurses := true, apart := false, narrowed := true }
def EmapBlocksUptoSaid : Prop := emapBlocksUptoRow.holds Try.pinned (OpenSpec.upto emapBlocksSpec)

/-- 'jackstaylaw06.EmapAll', WHERE WHAT IT READS IS OF BULK AT MOST 1048576: true; the input reads as it did. -/
def emapAllUptoRow : OpenClaim := { program := "ytaolneejplmedaa", sum := "8d33b23e38abae4a442e26195c70447a2edafdf1620ae02d482c5e5cb84c0c6d", func := "jackstay/jackstaylaw06.EmapAll", spec := "emapAll", unfollowed := true, recurses := true, apart := false, narrowed := true }
def EmapAllUptoSaid : Prop := emapAllUptoRow.holds Try.pinned (OpenSpec.upto emapAllSpec)

/-- 'jackstaylaw06.EmapForms', WHERE WHAT IT READS IS OF BULK AT MOST 1048576: true; the input reads as it did. -/
def emapFormsUptoRow : OpenClaim := { program := "ytaolneejplmedaa", sum := "8d33b23e38abae4a442e26195c70447a2edafdf1620ae02d482c5e5cb84c0c6d", func := "jackstay/jackstaylaw06.EmapForms", spec := "emapForms", unfollowed := true, recurses := true, apart := false, narrowed := true }
def EmapFormsUptoSaid : Prop := emapFormsUptoRow.holds Try.pinned (OpenSpec.upto emapFormsSpec)

/-- 'jackstaylaw06.EmapTells', WHERE WHAT IT READS IS OF BULK AT MOST 1048576: true; the input reads as it did. -/
def emapTellsUptoRow : OpenClaim := { program := "ytaolneejplmedaa", sum := "8d33b23e38abae4a442e26195c70447a2edafdf1620ae02d482c5e5cb84c0c6d", func := "jackstay/jackstaylaw06.EmapTells", spec := "emapTells", unfollowed := true, recurses := true, apart := false, narrowed := true }
def EmapTellsUptoSaid : Prop := emapTellsUptoRow.holds Try.pinned (OpenSpec.upto emapTellsSpec)

/-- 'jackstaylaw06.EmapOwn', WHERE WHAT IT READS IS OF BULK AT MOST 1048576: true; the input reads as it did. -/
def emapOwnUptoRow : OpenClaim := { program := "ytaolneejplmedaa", sum := "8d33b23e38abae4a442e26195c70447a2edafdf1620ae02d482c5e5cb84c0c6d", func := "jackstay/jackstaylaw06.EmapOwn", spec := "emapOwn", unfollowed := true, recurses := true, apart := false, narrowed := true }
def EmapOwnUptoSaid : Prop := emapOwnUptoRow.holds Try.pinned (OpenSpec.upto emapOwnSpec)

end Rows
end Go.Proofs.Ytaolneejplmedaa
