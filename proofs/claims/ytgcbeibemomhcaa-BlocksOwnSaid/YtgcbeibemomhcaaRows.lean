/-
  No cell of these rows narrows 'for every input' (looked for: loops, veiled, ifaces, maps, wideKeys, modest, calm, conditions, laid).
  DERIVED. THE GIVEN ROWS OF THIS SEAT. 6 by the template 'for every input the law returns true; each argument reads behind the call as it read before'; 0 by the template 'total and deterministic' (their statements: YtgcbeibemomhcaaTotals.lean).
  GIVEN WITH THE SEED: the statements are not yours to turn. If you find one false, say at which input.
  Laid BY PROGRAM, IN A SANDBOX (cutbox-rows.mjs): the forced cells as the released guide's own fill.sh prints them over the translation 324b7eb874449008… (all of the seat's roots in one cut). By AI agents, Wed Nov 11 2026. No macro, syntax, notation, axiom, sorry.
-/
import Derived.Test.YtgcbeibemomhcaaChecked
import GoSem.Claim
import GoSem.ClaimJoined
import GoSem.ClaimMapViews
import Derived.JoinedTies
import Derived.KernelRfl
namespace Go.Proofs.Ytgcbeibemomhcaa
/- THE CELL 'sum', in the pinned program and in every row, IS THE sha256 OF THE DUMP (.gsa) THAT YtgcbeibemomhcaaProg.lean LOADS. Nothing in Lean hashes anything: it is a label: what it is worth is what the hold of that sum in a sandbox is worth. -/
noncomputable def Try.pinned : Pinned := { name := "ytgcbeibemomhcaa", sum := "324b7eb8744490085c230d23a30a60bb8dedf09c35d1c9f164ea6945e722013a", checked := Try.checked }
namespace Rows
def none {H : Type} : Left H := { results := [], args := [] }

/-- 'jackstaylaw08.BlocksTwice': WHATEVER THE INPUT: true; the input reads as it did. -/
def blocksTwiceSpec : ChangeSpec := { name := "blocksTwice", fn := fun _ => fun
  | [d1, d2] => { results := [.lit (.bool true)], args := [d1, d2] }
  | _ => none }
def blocksTwiceRow : OpenClaim := { program := "ytgcbeibemomhcaa", sum := "324b7eb8744490085c230d23a30a60bb8dedf09c35d1c9f164ea6945e722013a", func := "jackstay/jackstaylaw08.BlocksTwice", spec := "blocksTwice", unfollowed := true, recurses := true, apart := false }
def BlocksTwiceSaid : Prop := blocksTwiceRow.holds Try.pinned (OpenSpec.ofChange blocksTwiceSpec)

/-- ITS FALSE NEIGHBOUR: 'it returns false'. Refute it at one input. -/
def blocksTwiceWrong : ChangeSpec := { name := "blocksTwice", fn := fun _ => fun
  | [d1, d2] => { results := [.lit (.bool false)], args := [d1, d2] }
  | _ => none }
def BlocksTwiceWrongFalsely : Prop := blocksTwiceRow.holds Try.pinned (OpenSpec.ofChange blocksTwiceWrong)

/-- 'jackstaylaw08.BlocksEither': WHATEVER THE INPUT: true; the input reads as it did. -/
def blocksEitherSpec : ChangeSpec := { name := "blocksEither", fn := fun _ => fun
  | [d1, d2, d3] => { results := [.lit (.bool true)], args := [d1, d2, d3] }
  | _ => none }
def blocksEitherRow : OpenClaim := { program := "ytgcbeibemomhcaa", sum := "324b7eb8744490085c230d23a30a60bb8dedf09c35d1c9f164ea6945e722013a", func := "jackstay/jackstaylaw08.BlocksEither", spec := "blocksEither", unfollowed := true, recurses := true, apart := false }
def BlocksEitherSaid : Prop := blocksEitherRow.holds Try.pinned (OpenSpec.ofChange blocksEitherSpec)

/-- ITS FALSE NEIGHBOUR: 'it returns false'. Refute it at one input. -/
def blocksEitherWrong : ChangeSpec := { name := "blocksEither", fn := fun _ => fun
  | [d1, d2, d3] => { results := [.lit (.bool false)], args := [d1, d2, d3] }
  | _ => none }
def BlocksEitherWrongFalsely : Prop := blocksEitherRow.holds Try.pinned (OpenSpec.ofChange blocksEitherWrong)

/-- 'jackstaylaw08.BlocksSquashed': WHATEVER THE INPUT: true; the input reads as it did. -/
def blocksSquashedSpec : ChangeSpec := { name := "blocksSquashed", fn := fun _ => fun
  | [d1, d2] => { results := [.lit (.bool true)], args := [d1, d2] }
  | _ => none }
def blocksSquashedRow : OpenClaim := { program := "ytgcbeibemomhcaa", sum := "324b7eb8744490085c230d23a30a60bb8dedf09c35d1c9f164ea6945e722013a", func := "jackstay/jackstaylaw08.BlocksSquashed", spec := "blocksSquashed", unfollowed := true, recurses := true, apart := false }
def BlocksSquashedSaid : Prop := blocksSquashedRow.holds Try.pinned (OpenSpec.ofChange blocksSquashedSpec)

/-- ITS FALSE NEIGHBOUR: 'it returns false'. Refute it at one input. -/
def blocksSquashedWrong : ChangeSpec := { name := "blocksSquashed", fn := fun _ => fun
  | [d1, d2] => { results := [.lit (.bool false)], args := [d1, d2] }
  | _ => none }
def BlocksSquashedWrongFalsely : Prop := blocksSquashedRow.holds Try.pinned (OpenSpec.ofChange blocksSquashedWrong)

/-- 'jackstaylaw08.BlocksShort': WHATEVER THE INPUT: true; the input reads as it did. -/
def blocksShortSpec : ChangeSpec := { name := "blocksShort", fn := fun _ => fun
  | [d1, d2, d3] => { results := [.lit (.bool true)], args := [d1, d2, d3] }
  | _ => none }
def blocksShortRow : OpenClaim := { program := "ytgcbeibemomhcaa", sum := "324b7eb8744490085c230d23a30a60bb8dedf09c35d1c9f164ea6945e722013a", func := "jackstay/jackstaylaw08.BlocksShort", spec := "blocksShort", unfollowed := true, recurses := true, apart := false }
def BlocksShortSaid : Prop := blocksShortRow.holds Try.pinned (OpenSpec.ofChange blocksShortSpec)

/-- ITS FALSE NEIGHBOUR: 'it returns false'. Refute it at one input. -/
def blocksShortWrong : ChangeSpec := { name := "blocksShort", fn := fun _ => fun
  | [d1, d2, d3] => { results := [.lit (.bool false)], args := [d1, d2, d3] }
  | _ => none }
def BlocksShortWrongFalsely : Prop := blocksShortRow.holds Try.pinned (OpenSpec.ofChange blocksShortWrong)

/-- 'jackstaylaw08.BlocksDiffs': WHATEVER THE INPUT: true; the input reads as it did. -/
def blocksDiffsSpec : ChangeSpec := { name := "blocksDiffs", fn := fun _ => fun
  | [d1, d2] => { results := [.lit (.bool true)], args := [d1, d2] }
  | _ => none }
def blocksDiffsRow : OpenClaim := { program := "ytgcbeibemomhcaa", sum := "324b7eb8744490085c230d23a30a60bb8dedf09c35d1c9f164ea6945e722013a", func := "jackstay/jackstaylaw08.BlocksDiffs", spec := "blocksDiffs", unfollowed := true, recurses := true, apart := false }
def BlocksDiffsSaid : Prop := blocksDiffsRow.holds Try.pinned (OpenSpec.ofChange blocksDiffsSpec)

/-- ITS FALSE NEIGHBOUR: 'it returns false'. Refute it at one input. -/
def blocksDiffsWrong : ChangeSpec := { name := "blocksDiffs", fn := fun _ => fun
  | [d1, d2] => { results := [.lit (.bool false)], args := [d1, d2] }
  | _ => none }
def BlocksDiffsWrongFalsely : Prop := blocksDiffsRow.holds Try.pinned (OpenSpec.ofChange blocksDiffsWrong)

/-- 'jackstaylaw08.BlocksOwn': WHATEVER THE INPUT: true; the input reads as it did. -/
def blocksOwnSpec : ChangeSpec := { name := "blocksOwn", fn := fun _ => fun
  | [d1, d2] => { results := [.lit (.bool true)], args := [d1, d2] }
  | _ => none }
def blocksOwnRow : OpenClaim := { program := "ytgcbeibemomhcaa", sum := "324b7eb8744490085c230d23a30a60bb8dedf09c35d1c9f164ea6945e722013a", func := "jackstay/jackstaylaw08.BlocksOwn", spec := "blocksOwn", unfollowed := true, recurses := true, apart := false }
def BlocksOwnSaid : Prop := blocksOwnRow.holds Try.pinned (OpenSpec.ofChange blocksOwnSpec)

/-- ITS FALSE NEIGHBOUR: 'it returns false'. Refute it at one input. -/
def blocksOwnWrong : ChangeSpec := { name := "blocksOwn", fn := fun _ => fun
  | [d1, d2] => { results := [.lit (.bool false)], args := [d1, d2] }
  | _ => none }
def BlocksOwnWrongFalsely : Prop := blocksOwnRow.holds Try.pinned (OpenSpec.ofChange blocksOwnWrong)

/- THE SECOND FORM. 'bulk': how many values and letters a reading holds, each counted each time it is reached (what is shared counts as often as it is met; a slice's spare places count too). A statement '..UptoSaid' is the law's where the arguments, and the package variables that the reading takes, are together of bulk at most 1048576: NARROWER than '..Said'. Prove '..Said' where nothing that the law and all that it calls make is longer than what came in: it says more and counts as full. Else prove '..UptoSaid'. A law counts once. -/
mutual
def uptoBulk {H : Type} : DataW H → Nat
  | .lit (.string bytes) => bytes.length + 1
  | .lit _ => 1
  | .nil => 1
  | .ptr d => uptoBulk d + 1
  | .slice elems spare => uptoBulkAll elems + uptoBulkAll spare + 1
  | .agg parts => uptoBulkAll parts + 1
  | .iface _ d => uptoBulk d + 1
  | .map entries => uptoBulkEntries entries + 1
  | .held _ => 1
def uptoBulkAll {H : Type} : List (DataW H) → Nat
  | [] => 0
  | d :: r => uptoBulk d + uptoBulkAll r
def uptoBulkEntries {H : Type} : List (Lit × DataW H) → Nat
  | [] => 0
  | x :: r => uptoBulkEntry x + uptoBulkEntries r
def uptoBulkEntry {H : Type} : Lit × DataW H → Nat
  | (.string bytes, d) => bytes.length + uptoBulk d + 1
  | (_, d) => uptoBulk d + 1
 end
def uptoSmall : (H : Type) → List (DataW H) → Bool := fun _ ds => decide (uptoBulkAll ds ≤ 1048576)
def OpenSpec.upto (s : _root_.Go.ChangeSpec) : _root_.Go.OpenSpec := { _root_.Go.OpenSpec.ofChange s with cond := some uptoSmall }

/-- 'jackstaylaw08.BlocksTwice', WHERE WHAT IT READS IS OF BULK AT MOST 1048576: true; the input reads as it did. -/
def blocksTwiceUptoRow : OpenClaim := { program := "ytgcbeibemomhcaa", sum := "324b7eb8744490085c230d23a30a60bb8dedf09c35d1c9f164ea6945e722013a", func := "jackstay/jackstaylaw08.BlocksTwice", spec := "blocksTwice", unfollowed := true, recurses := true, apart := false, narrowed := true }
def BlocksTwiceUptoSaid : Prop := blocksTwiceUptoRow.holds Try.pinned (OpenSpec.upto blocksTwiceSpec)

/-- 'jackstaylaw08.BlocksEither', WHERE WHAT IT READS IS OF BULK AT MOST 1048576: true; the input reads as it did. -/
def blocksEitherUptoRow : OpenClaim := { program := "ytgcbeibemomhcaa", sum := "324b7eb8744490085c230d23a30a60bb8dedf09c35d1c9f164ea6945e722013a", func := "jackstay/jackstaylaw08.BlocksEither", spec := "blocksEither", unfollowed := true, recurses := true, apart := false, narrowed := true }
def BlocksEitherUptoSaid : Prop := blocksEitherUptoRow.holds Try.pinned (OpenSpec.upto blocksEitherSpec)

/-- 'jackstaylaw08.BlocksSquashed', WHERE WHAT IT READS IS OF BULK AT MOST 1048576: true; the input reads as it did. -/
def blocksSquashedUptoRow : OpenClaim := { program := "ytgcbeibemomhcaa", sum := "324b7eb8744490085c230d23a30a60bb8dedf09c35d1c9f164ea6945e722013a", func := "jackstay/jackstaylaw08.BlocksSquashed", spec := "blocksSquashed", unfollowed := true, recurses := true, apart := false, narrowed := true }
def BlocksSquashedUptoSaid : Prop := blocksSquashedUptoRow.holds Try.pinned (OpenSpec.upto blocksSquashedSpec)

/-- 'jackstaylaw08.BlocksShort', WHERE WHAT IT READS IS OF BULK AT MOST 1048576: true; the input reads as it did. -/
def blocksShortUptoRow : OpenClaim := { program := "ytgcbeibemomhcaa", sum := "324b7eb8744490085c230d23a30a60bb8dedf09c35d1c9f164ea6945e722013a", func := "jackstay/jackstaylaw08.BlocksShort", spec := "blocksShort", unfollowed := true, recurses := true, apart := false, narrowed := true }
def BlocksShortUptoSaid : Prop := blocksShortUptoRow.holds Try.pinned (OpenSpec.upto blocksShortSpec)

/-- 'jackstaylaw08.BlocksDiffs', WHERE WHAT IT READS IS OF BULK AT MOST 1048576: true; the input reads as it did. -/
def blocksDiffsUptoRow : OpenClaim := { program := "ytgcbeibemomhcaa", sum := "324b7eb8744490085c230d23a30a60bb8dedf09c35d1c9f164ea6945e722013a", func := "jackstay/jackstaylaw08.BlocksDiffs", spec := "blocksDiffs", unfollowed := true, recurses := true, apart := false, narrowed := true }
def BlocksDiffsUptoSaid : Prop := blocksDiffsUptoRow.holds Try.pinned (OpenSpec.upto blocksDiffsSpec)

/-- 'jackstaylaw08.BlocksOwn', WHERE WHAT IT READS IS OF BULK AT MOST 1048576: true; the input reads as it did. -/
def blocksOwnUptoRow : OpenClaim := { program := "ytgcbeibemomhcaa", sum := "324b7eb8744490085c230d23a30a60bb8dedf09c35d1c9f164ea6945e722013a", func := "jackstay/jackstaylaw08.BlocksOwn", spec := "blocksOwn", unfollowed := true, recurses := true, apart := false, narrowed := true }
def BlocksOwnUptoSaid : Prop := blocksOwnUptoRow.holds Try.pinned (OpenSpec.upto blocksOwnSpec)

end Rows
end Go.Proofs.Ytgcbeibemomhcaa
