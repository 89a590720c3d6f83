/-
  No cell of these rows narrows 'for every input' (looked for: loops, veiled, ifaces, maps, wideKeys, modest, calm, conditions, laid).
  DERIVED. THE GIVEN ROWS OF THIS SEAT. 7 by the template 'for every input the law returns true; each argument reads behind the call as it read before'; 0 by the template 'total and deterministic' (their statements: YtgcllbcpdcfkmaaTotals.lean).
  GIVEN WITH THE SEED: the statements are not yours to turn. If you find one false, say at which input.
  Laid BY PROGRAM, IN A SANDBOX (cutbox-rows.mjs): the forced cells as the released guide's own fill.sh prints them over the translation 12762485423970e1… (all of the seat's roots in one cut). By AI agents, Wed Nov 11 2026. No macro, syntax, notation, axiom, sorry.
-/
import Derived.Test.YtgcllbcpdcfkmaaChecked
import GoSem.Claim
import GoSem.ClaimJoined
import GoSem.ClaimMapViews
import Derived.JoinedTies
import Derived.KernelRfl
namespace Go.Proofs.Ytgcllbcpdcfkmaa
/- THE CELL 'sum', in the pinned program and in every row, IS THE sha256 OF THE DUMP (.gsa) THAT YtgcllbcpdcfkmaaProg.lean LOADS. Nothing in Lean hashes anything: it is a label: what it is worth is what the hold of that sum in a sandbox is worth. -/
noncomputable def Try.pinned : Pinned := { name := "ytgcllbcpdcfkmaa", sum := "12762485423970e1c397840150539ec7fb64af05831535a6811120c86c424fde", checked := Try.checked }
namespace Rows
def none {H : Type} : Left H := { results := [], args := [] }

/-- 'jackstaylaw13.SmapMakes': WHATEVER THE INPUT: true; the input reads as it did. -/
def smapMakesSpec : ChangeSpec := { name := "smapMakes", fn := fun _ => fun
  | [d1, d2, d3] => { results := [.lit (.bool true)], args := [d1, d2, d3] }
  | _ => none }
def smapMakesRow : OpenClaim := { program := "ytgcllbcpdcfkmaa", sum := "12762485423970e1c397840150539ec7fb64af05831535a6811120c86c424fde", func := "jackstay/jackstaylaw13.SmapMakes", spec := "smapMakes", unfollowed := true, recurses := true, apart := false }
def SmapMakesSaid : Prop := smapMakesRow.holds Try.pinned (OpenSpec.ofChange smapMakesSpec)

/-- ITS FALSE NEIGHBOUR: 'it returns false'. Refute it at one input. -/
def smapMakesWrong : ChangeSpec := { name := "smapMakes", fn := fun _ => fun
  | [d1, d2, d3] => { results := [.lit (.bool false)], args := [d1, d2, d3] }
  | _ => none }
def SmapMakesWrongFalsely : Prop := smapMakesRow.holds Try.pinned (OpenSpec.ofChange smapMakesWrong)

/-- 'jackstaylaw13.SmapChanged': WHATEVER THE INPUT: true; the input reads as it did. -/
def smapChangedSpec : ChangeSpec := { name := "smapChanged", fn := fun _ => fun
  | [d1, d2] => { results := [.lit (.bool true)], args := [d1, d2] }
  | _ => none }
def smapChangedRow : OpenClaim := { program := "ytgcllbcpdcfkmaa", sum := "12762485423970e1c397840150539ec7fb64af05831535a6811120c86c424fde", func := "jackstay/jackstaylaw13.SmapChanged", spec := "smapChanged", unfollowed := true, recurses := true, apart := false }
def SmapChangedSaid : Prop := smapChangedRow.holds Try.pinned (OpenSpec.ofChange smapChangedSpec)

/-- ITS FALSE NEIGHBOUR: 'it returns false'. Refute it at one input. -/
def smapChangedWrong : ChangeSpec := { name := "smapChanged", fn := fun _ => fun
  | [d1, d2] => { results := [.lit (.bool false)], args := [d1, d2] }
  | _ => none }
def SmapChangedWrongFalsely : Prop := smapChangedRow.holds Try.pinned (OpenSpec.ofChange smapChangedWrong)

/-- 'jackstaylaw13.SmapBack': WHATEVER THE INPUT: true; the input reads as it did. -/
def smapBackSpec : ChangeSpec := { name := "smapBack", fn := fun _ => fun
  | [d1, d2] => { results := [.lit (.bool true)], args := [d1, d2] }
  | _ => none }
def smapBackRow : OpenClaim := { program := "ytgcllbcpdcfkmaa", sum := "12762485423970e1c397840150539ec7fb64af05831535a6811120c86c424fde", func := "jackstay/jackstaylaw13.SmapBack", spec := "smapBack", unfollowed := true, recurses := true, apart := false }
def SmapBackSaid : Prop := smapBackRow.holds Try.pinned (OpenSpec.ofChange smapBackSpec)

/-- ITS FALSE NEIGHBOUR: 'it returns false'. Refute it at one input. -/
def smapBackWrong : ChangeSpec := { name := "smapBack", fn := fun _ => fun
  | [d1, d2] => { results := [.lit (.bool false)], args := [d1, d2] }
  | _ => none }
def SmapBackWrongFalsely : Prop := smapBackRow.holds Try.pinned (OpenSpec.ofChange smapBackWrong)

/-- 'jackstaylaw13.SmapTurns': WHATEVER THE INPUT: true; the input reads as it did. -/
def smapTurnsSpec : ChangeSpec := { name := "smapTurns", fn := fun _ => fun
  | [d1, d2, d3] => { results := [.lit (.bool true)], args := [d1, d2, d3] }
  | _ => none }
def smapTurnsRow : OpenClaim := { program := "ytgcllbcpdcfkmaa", sum := "12762485423970e1c397840150539ec7fb64af05831535a6811120c86c424fde", func := "jackstay/jackstaylaw13.SmapTurns", spec := "smapTurns", unfollowed := true, recurses := true, apart := false }
def SmapTurnsSaid : Prop := smapTurnsRow.holds Try.pinned (OpenSpec.ofChange smapTurnsSpec)

/-- ITS FALSE NEIGHBOUR: 'it returns false'. Refute it at one input. -/
def smapTurnsWrong : ChangeSpec := { name := "smapTurns", fn := fun _ => fun
  | [d1, d2, d3] => { results := [.lit (.bool false)], args := [d1, d2, d3] }
  | _ => none }
def SmapTurnsWrongFalsely : Prop := smapTurnsRow.holds Try.pinned (OpenSpec.ofChange smapTurnsWrong)

/-- 'jackstaylaw13.SmapOne': WHATEVER THE INPUT: true; the input reads as it did. -/
def smapOneSpec : ChangeSpec := { name := "smapOne", fn := fun _ => fun
  | [d1, d2, d3] => { results := [.lit (.bool true)], args := [d1, d2, d3] }
  | _ => none }
def smapOneRow : OpenClaim := { program := "ytgcllbcpdcfkmaa", sum := "12762485423970e1c397840150539ec7fb64af05831535a6811120c86c424fde", func := "jackstay/jackstaylaw13.SmapOne", spec := "smapOne", unfollowed := true, recurses := true, apart := false }
def SmapOneSaid : Prop := smapOneRow.holds Try.pinned (OpenSpec.ofChange smapOneSpec)

/-- ITS FALSE NEIGHBOUR: 'it returns false'. Refute it at one input. -/
def smapOneWrong : ChangeSpec := { name := "smapOne", fn := fun _ => fun
  | [d1, d2, d3] => { results := [.lit (.bool false)], args := [d1, d2, d3] }
  | _ => none }
def SmapOneWrongFalsely : Prop := smapOneRow.holds Try.pinned (OpenSpec.ofChange smapOneWrong)

/-- 'jackstaylaw13.SmapNodes': WHATEVER THE INPUT: true; the input reads as it did. -/
def smapNodesSpec : ChangeSpec := { name := "smapNodes", fn := fun _ => fun
  | [d1, d2, d3] => { results := [.lit (.bool true)], args := [d1, d2, d3] }
  | _ => none }
def smapNodesRow : OpenClaim := { program := "ytgcllbcpdcfkmaa", sum := "12762485423970e1c397840150539ec7fb64af05831535a6811120c86c424fde", func := "jackstay/jackstaylaw13.SmapNodes", spec := "smapNodes", unfollowed := true, recurses := true, apart := false }
def SmapNodesSaid : Prop := smapNodesRow.holds Try.pinned (OpenSpec.ofChange smapNodesSpec)

/-- ITS FALSE NEIGHBOUR: 'it returns false'. Refute it at one input. -/
def smapNodesWrong : ChangeSpec := { name := "smapNodes", fn := fun _ => fun
  | [d1, d2, d3] => { results := [.lit (.bool false)], args := [d1, d2, d3] }
  | _ => none }
def SmapNodesWrongFalsely : Prop := smapNodesRow.holds Try.pinned (OpenSpec.ofChange smapNodesWrong)

/-- 'jackstaylaw13.SmapOwn': WHATEVER THE INPUT: true; the input reads as it did. -/
def smapOwnSpec : ChangeSpec := { name := "smapOwn", fn := fun _ => fun
  | [d1, d2, d3] => { results := [.lit (.bool true)], args := [d1, d2, d3] }
  | _ => none }
def smapOwnRow : OpenClaim := { program := "ytgcllbcpdcfkmaa", sum := "12762485423970e1c397840150539ec7fb64af05831535a6811120c86c424fde", func := "jackstay/jackstaylaw13.SmapOwn", spec := "smapOwn", unfollowed := true, recurses := true, apart := false }
def SmapOwnSaid : Prop := smapOwnRow.holds Try.pinned (OpenSpec.ofChange smapOwnSpec)

/-- ITS FALSE NEIGHBOUR: 'it returns false'. Refute it at one input. -/
def smapOwnWrong : ChangeSpec := { name := "smapOwn", fn := fun _ => fun
  | [d1, d2, d3] => { results := [.lit (.bool false)], args := [d1, d2, d3] }
  | _ => none }
def SmapOwnWrongFalsely : Prop := smapOwnRow.holds Try.pinned (OpenSpec.ofChange smapOwnWrong)

/- THE SECOND FORM. 'bulk': how many values and letters a reading holds, each counted each time it is reached (what is shared counts as often as it is met; a slice's spare places count too). A statement '..UptoSaid' is the law's where the arguments, and the package variables that the reading takes, are together of bulk at most 1048576: NARROWER than '..Said'. Prove '..Said' where nothing that the law and all that it calls make is longer than what came in: it says more and counts as full. Else prove '..UptoSaid'. A law counts once. -/
mutual
def uptoBulk {H : Type} : DataW H → Nat
  | .lit (.string bytes) => bytes.length + 1
  | .lit _ => 1
  | .nil => 1
  | .ptr d => uptoBulk d + 1
  | .slice elems spare => uptoBulkAll elems + uptoBulkAll spare + 1
  | .agg parts => uptoBulkAll parts + 1
  | .iface _ d => uptoBulk d + 1
  | .map entries => uptoBulkEntries entries + 1
  | .held _ => 1
def uptoBulkAll {H : Type} : List (DataW H) → Nat
  | [] => 0
  | d :: r => uptoBulk d + uptoBulkAll r
def uptoBulkEntries {H : Type} : List (Lit × DataW H) → Nat
  | [] => 0
  | x :: r => uptoBulkEntry x + uptoBulkEntries r
def uptoBulkEntry {H : Type} : Lit × DataW H → Nat
  | (.string bytes, d) => bytes.length + uptoBulk d + 1
  | (_, d) => uptoBulk d + 1
 end
def uptoSmall : (H : Type) → List (DataW H) → Bool := fun _ ds => decide (uptoBulkAll ds ≤ 1048576)
def OpenSpec.upto (s : _root_.Go.ChangeSpec) : _root_.Go.OpenSpec := { _root_.Go.OpenSpec.ofChange s with cond := some uptoSmall }

/-- 'jackstaylaw13.SmapMakes', WHERE WHAT IT READS IS OF BULK AT MOST 1048576: true; the input reads as it did. -/
def smapMakesUptoRow : OpenClaim := { program := "ytgcllbcpdcfkmaa", sum := "12762485423970e1c397840150539ec7fb64af05831535a6811120c86c424fde", func := "jackstay/jackstaylaw13.SmapMakes", spec := "smapMakes", unfollowed := true, recurses := true, apart := false, narrowed := true }
def SmapMakesUptoSaid : Prop := smapMakesUptoRow.holds Try.pinned (OpenSpec.upto smapMakesSpec)

/-- 'jackstaylaw13.SmapChanged', WHERE WHAT IT READS IS OF BULK AT MOST 1048576: true; the input reads as it did. -/
def smapChangedUptoRow : OpenClaim := { program := "ytgcllbcpdcfkmaa", sum := "12762485423970e1c397840150539ec7fb64af05831535a6811120c86c424fde", func := "jackstay/jackstaylaw13.SmapChanged", spec := "smapChanged", unfollowed := true, recurses := true, apart := false, narrowed := true }
def SmapChangedUptoSaid : Prop := smapChangedUptoRow.holds Try.pinned (OpenSpec.upto smapChangedSpec)

/-- 'jackstaylaw13.SmapBack', WHERE WHAT IT READS IS OF BULK AT MOST 1048576: true; the input reads as it did. -/
def smapBackUptoRow : OpenClaim := { program := "ytgcllbcpdcfkmaa", sum := "12762485423970e1c397840150539ec7fb64af05831535a6811120c86c424fde", func := "jackstay/jackstaylaw13.SmapBack", spec := "smapBack", unfollowed := true, recurses := true, apart := false, narrowed := true }
def SmapBackUptoSaid : Prop := smapBackUptoRow.holds Try.pinned (OpenSpec.upto smapBackSpec)

/-- 'jackstaylaw13.SmapTurns', WHERE WHAT IT READS IS OF BULK AT MOST 1048576: true; the input reads as it did. -/
def smapTurnsUptoRow : OpenClaim := { program := "ytgcllbcpdcfkmaa", sum := "12762485423970e1c397840150539ec7fb64af05831535a6811120c86c424fde", func := "jackstay/jackstaylaw13.SmapTurns", spec := "smapTurns", unfollowed := true, recurses := true, apart := false, narrowed := true }
def SmapTurnsUptoSaid : Prop := smapTurnsUptoRow.holds Try.pinned (OpenSpec.upto smapTurnsSpec)

/-- 'jackstaylaw13.SmapOne', WHERE WHAT IT READS IS OF BULK AT MOST 1048576: true; the input reads as it did. -/
def smapOneUptoRow : OpenClaim := { program := "ytgcllbcpdcfkmaa", sum := "12762485423970e1c397840150539ec7fb64af05831535a6811120c86c424fde", func := "jackstay/jackstaylaw13.SmapOne", spec := "smapOne", unfollowed := true, recurses := true, apart := false, narrowed := true }
def SmapOneUptoSaid : Prop := smapOneUptoRow.holds Try.pinned (OpenSpec.upto smapOneSpec)

/-- 'jackstaylaw13.SmapNodes', WHERE WHAT IT READS IS OF BULK AT MOST 1048576: true; the input reads as it did. -/
def smapNodesUptoRow : OpenClaim := { program := "ytgcllbcpdcfkmaa", sum := "12762485423970e1c397840150539ec7fb64af05831535a6811120c86c424fde", func := "jackstay/jackstaylaw13.SmapNodes", spec := "smapNodes", unfollowed := true, recurses := true, apart := false, narrowed := true }
def SmapNodesUptoSaid : Prop := smapNodesUptoRow.holds Try.pinned (OpenSpec.upto smapNodesSpec)

/-- 'jackstaylaw13.SmapOwn', WHERE WHAT IT READS IS OF BULK AT MOST 1048576: true; the input reads as it did. -/
def smapOwnUptoRow : OpenClaim := { program := "ytgcllbcpdcfkmaa", sum := "12762485423970e1c397840150539ec7fb64af05831535a6811120c86c424fde", func := "jackstay/jackstaylaw13.SmapOwn", spec := "smapOwn", unfollowed := true, recurses := true, apart := false, narrowed := true }
def SmapOwnUptoSaid : Prop := smapOwnUptoRow.holds Try.pinned (OpenSpec.upto smapOwnSpec)

end Rows
end Go.Proofs.Ytgcllbcpdcfkmaa
