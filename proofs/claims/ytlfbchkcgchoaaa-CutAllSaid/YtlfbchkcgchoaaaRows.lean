/-
  No cell of these rows narrows 'for every input' (looked for: loops, veiled, ifaces, maps, wideKeys, modest, calm, conditions, laid).
  DERIVED. THE GIVEN ROWS OF THIS SEAT. 6 by the template 'for every input the law returns true; each argument reads behind the call as it read before'; 0 by the template 'total and deterministic' (their statements: YtlfbchkcgchoaaaTotals.lean).
  GIVEN WITH THE SEED: the statements are not yours to turn. If you find one false, say at which input.
  Laid BY PROGRAM, IN A SANDBOX (cutbox-rows.mjs): the forced cells as the released guide's own fill.sh prints them over the translation 4260c81a969c94e9… (all of the seat's roots in one cut). By AI agents, Wed Nov 11 2026. No macro, syntax, notation, axiom, sorry.
-/
import Derived.Test.YtlfbchkcgchoaaaChecked
import GoSem.Claim
import GoSem.ClaimJoined
import GoSem.ClaimMapViews
import Derived.JoinedTies
import Derived.KernelRfl
namespace Go.Proofs.Ytlfbchkcgchoaaa
/- THE CELL 'sum', in the pinned program and in every row, IS THE sha256 OF THE DUMP (.gsa) THAT YtlfbchkcgchoaaaProg.lean LOADS. Nothing in Lean hashes anything: it is a label: what it is worth is what the hold of that sum in a sandbox is worth. -/
noncomputable def Try.pinned : Pinned := { name := "ytlfbchkcgchoaaa", sum := "4260c81a969c94e9e6b1da663db0c03d3be3038c94f4523986efe8cc399f59fe", checked := Try.checked }
namespace Rows
def none {H : Type} : Left H := { results := [], args := [] }

/-- 'jackstaylaw21.CutAll': WHATEVER THE INPUT: true; the input reads as it did. -/
def cutAllSpec : ChangeSpec := { name := "cutAll", fn := fun _ => fun
  | [d1, d2, d3] => { results := [.lit (.bool true)], args := [d1, d2, d3] }
  | _ => none }
def cutAllRow : OpenClaim := { program := "ytlfbchkcgchoaaa", sum := "4260c81a969c94e9e6b1da663db0c03d3be3038c94f4523986efe8cc399f59fe", func := "jackstay/jackstaylaw21.CutAll", spec := "cutAll", unfollowed := true, recurses := true, apart := false }
def CutAllSaid : Prop := cutAllRow.holds Try.pinned (OpenSpec.ofChange cutAllSpec)

/-- ITS FALSE NEIGHBOUR: 'it returns false'. Refute it at one input. -/
def cutAllWrong : ChangeSpec := { name := "cutAll", fn := fun _ => fun
  | [d1, d2, d3] => { results := [.lit (.bool false)], args := [d1, d2, d3] }
  | _ => none }
def CutAllWrongFalsely : Prop := cutAllRow.holds Try.pinned (OpenSpec.ofChange cutAllWrong)

/-- 'jackstaylaw21.CutRow': WHATEVER THE INPUT: true; the input reads as it did. -/
def cutRowSpec : ChangeSpec := { name := "cutRow", fn := fun _ => fun
  | [d1, d2, d3] => { results := [.lit (.bool true)], args := [d1, d2, d3] }
  | _ => none }
def cutRowRow : OpenClaim := { program := "ytlfbchkcgchoaaa", sum := "4260c81a969c94e9e6b1da663db0c03d3be3038c94f4523986efe8cc399f59fe", func := "jackstay/jackstaylaw21.CutRow", spec := "cutRow", unfollowed := true, recurses := true, apart := false }
def CutRowSaid : Prop := cutRowRow.holds Try.pinned (OpenSpec.ofChange cutRowSpec)

/-- ITS FALSE NEIGHBOUR: 'it returns false'. Refute it at one input. -/
def cutRowWrong : ChangeSpec := { name := "cutRow", fn := fun _ => fun
  | [d1, d2, d3] => { results := [.lit (.bool false)], args := [d1, d2, d3] }
  | _ => none }
def CutRowWrongFalsely : Prop := cutRowRow.holds Try.pinned (OpenSpec.ofChange cutRowWrong)

/-- 'jackstaylaw21.CutWider': WHATEVER THE INPUT: true; the input reads as it did. -/
def cutWiderSpec : ChangeSpec := { name := "cutWider", fn := fun _ => fun
  | [d1, d2, d3] => { results := [.lit (.bool true)], args := [d1, d2, d3] }
  | _ => none }
def cutWiderRow : OpenClaim := { program := "ytlfbchkcgchoaaa", sum := "4260c81a969c94e9e6b1da663db0c03d3be3038c94f4523986efe8cc399f59fe", func := "jackstay/jackstaylaw21.CutWider", spec := "cutWider", unfollowed := true, recurses := true, apart := false }
def CutWiderSaid : Prop := cutWiderRow.holds Try.pinned (OpenSpec.ofChange cutWiderSpec)

/-- ITS FALSE NEIGHBOUR: 'it returns false'. Refute it at one input. -/
def cutWiderWrong : ChangeSpec := { name := "cutWider", fn := fun _ => fun
  | [d1, d2, d3] => { results := [.lit (.bool false)], args := [d1, d2, d3] }
  | _ => none }
def CutWiderWrongFalsely : Prop := cutWiderRow.holds Try.pinned (OpenSpec.ofChange cutWiderWrong)

/-- 'jackstaylaw21.CutShows': WHATEVER THE INPUT: true; the input reads as it did. -/
def cutShowsSpec : ChangeSpec := { name := "cutShows", fn := fun _ => fun
  | [d1, d2, d3] => { results := [.lit (.bool true)], args := [d1, d2, d3] }
  | _ => none }
def cutShowsRow : OpenClaim := { program := "ytlfbchkcgchoaaa", sum := "4260c81a969c94e9e6b1da663db0c03d3be3038c94f4523986efe8cc399f59fe", func := "jackstay/jackstaylaw21.CutShows", spec := "cutShows", unfollowed := true, recurses := true, apart := false }
def CutShowsSaid : Prop := cutShowsRow.holds Try.pinned (OpenSpec.ofChange cutShowsSpec)

/-- ITS FALSE NEIGHBOUR: 'it returns false'. Refute it at one input. -/
def cutShowsWrong : ChangeSpec := { name := "cutShows", fn := fun _ => fun
  | [d1, d2, d3] => { results := [.lit (.bool false)], args := [d1, d2, d3] }
  | _ => none }
def CutShowsWrongFalsely : Prop := cutShowsRow.holds Try.pinned (OpenSpec.ofChange cutShowsWrong)

/-- 'jackstaylaw21.CutNone': WHATEVER THE INPUT: true; the input reads as it did. -/
def cutNoneSpec : ChangeSpec := { name := "cutNone", fn := fun _ => fun
  | [d1, d2, d3] => { results := [.lit (.bool true)], args := [d1, d2, d3] }
  | _ => none }
def cutNoneRow : OpenClaim := { program := "ytlfbchkcgchoaaa", sum := "4260c81a969c94e9e6b1da663db0c03d3be3038c94f4523986efe8cc399f59fe", func := "jackstay/jackstaylaw21.CutNone", spec := "cutNone", unfollowed := true, recurses := true, apart := false }
def CutNoneSaid : Prop := cutNoneRow.holds Try.pinned (OpenSpec.ofChange cutNoneSpec)

/-- ITS FALSE NEIGHBOUR: 'it returns false'. Refute it at one input. -/
def cutNoneWrong : ChangeSpec := { name := "cutNone", fn := fun _ => fun
  | [d1, d2, d3] => { results := [.lit (.bool false)], args := [d1, d2, d3] }
  | _ => none }
def CutNoneWrongFalsely : Prop := cutNoneRow.holds Try.pinned (OpenSpec.ofChange cutNoneWrong)

/-- 'jackstaylaw21.CutNothing': WHATEVER THE INPUT: true; the input reads as it did. -/
def cutNothingSpec : ChangeSpec := { name := "cutNothing", fn := fun _ => fun
  | [d1, d2] => { results := [.lit (.bool true)], args := [d1, d2] }
  | _ => none }
def cutNothingRow : OpenClaim := { program := "ytlfbchkcgchoaaa", sum := "4260c81a969c94e9e6b1da663db0c03d3be3038c94f4523986efe8cc399f59fe", func := "jackstay/jackstaylaw21.CutNothing", spec := "cutNothing", unfollowed := true, recurses := true, apart := false }
def CutNothingSaid : Prop := cutNothingRow.holds Try.pinned (OpenSpec.ofChange cutNothingSpec)

/-- ITS FALSE NEIGHBOUR: 'it returns false'. Refute it at one input. -/
def cutNothingWrong : ChangeSpec := { name := "cutNothing", fn := fun _ => fun
  | [d1, d2] => { results := [.lit (.bool false)], args := [d1, d2] }
  | _ => none }
def CutNothingWrongFalsely : Prop := cutNothingRow.holds Try.pinned (OpenSpec.ofChange cutNothingWrong)

/- THE SECOND FORM. 'bulk': how many values and letters a reading holds, each counted each time it is reached (what is shared counts as often as it is met; a slice's spare places count too). A statement '..UptoSaid' is the law's where the arguments, and the package variables that the reading takes, are together of bulk at most 1048576: NARROWER than '..Said'. Prove '..Said' where nothing that the law and all that it calls make is longer than what came in: it says more and counts as full. Else prove '..UptoSaid'. A law counts once. -/
mutual
def uptoBulk {H : Type} : DataW H → Nat
  | .lit (.string bytes) => bytes.length + 1
  | .lit _ => 1
  | .nil => 1
  | .ptr d => uptoBulk d + 1
  | .slice elems spare => uptoBulkAll elems + uptoBulkAll spare + 1
  | .agg parts => uptoBulkAll parts + 1
  | .iface _ d => uptoBulk d + 1
  | .map entries => uptoBulkEntries entries + 1
  | .held _ => 1
def uptoBulkAll {H : Type} : List (DataW H) → Nat
  | [] => 0
  | d :: r => uptoBulk d + uptoBulkAll r
def uptoBulkEntries {H : Type} : List (Lit × DataW H) → Nat
  | [] => 0
  | x :: r => uptoBulkEntry x + uptoBulkEntries r
def uptoBulkEntry {H : Type} : Lit × DataW H → Nat
  | (.string bytes, d) => bytes.length + uptoBulk d + 1
  | (_, d) => uptoBulk d + 1
 end
def uptoSmall : (H : Type) → List (DataW H) → Bool := fun _ ds => decide (uptoBulkAll ds ≤ 1048576)
def OpenSpec.upto (s : _root_.Go.ChangeSpec) : _root_.Go.OpenSpec := { _root_.Go.OpenSpec.ofChange s with cond := some uptoSmall }

/-- 'jackstaylaw21.CutAll', WHERE WHAT IT READS IS OF BULK AT MOST 1048576: true; the input reads as it did. -/
def cutAllUptoRow : OpenClaim := { program := "ytlfbchkcgchoaaa", sum := "4260c81a969c94e9e6b1da663db0c03d3be3038c94f4523986efe8cc399f59fe", func := "jackstay/jackstaylaw21.CutAll", spec := "cutAll", unfollowed := true, recurses := true, apart := false, narrowed := true }
def CutAllUptoSaid : Prop := cutAllUptoRow.holds Try.pinned (OpenSpec.upto cutAllSpec)

/-- 'jackstaylaw21.CutRow', WHERE WHAT IT READS IS OF BULK AT MOST 1048576: true; the input reads as it did. -/
def cutRowUptoRow : OpenClaim := { program := "ytlfbchkcgchoaaa", sum := "4260c81a969c94e9e6b1da663db0c03d3be3038c94f4523986efe8cc399f59fe", func := "jackstay/jackstaylaw21.CutRow", spec := "cutRow", unfollowed := true, recurses := true, apart := false, narrowed := true }
def CutRowUptoSaid : Prop := cutRowUptoRow.holds Try.pinned (OpenSpec.upto cutRowSpec)

/-- 'jackstaylaw21.CutWider', WHERE WHAT IT READS IS OF BULK AT MOST 1048576: true; the input reads as it did. -/
def cutWiderUptoRow : OpenClaim := { program := "ytlfbchkcgchoaaa", sum := "4260c81a969c94e9e6b1da663db0c03d3be3038c94f4523986efe8cc399f59fe", func := "jackstay/jackstaylaw21.CutWider", spec := "cutWider", unfollowed := true, recurses := true, apart := false, narrowed := true }
def CutWiderUptoSaid : Prop := cutWiderUptoRow.holds Try.pinned (OpenSpec.upto cutWiderSpec)

/-- 'jackstaylaw21.CutShows', WHERE WHAT IT READS IS OF BULK AT MOST 1048576: true; the input reads as it did. -/
def cutShowsUptoRow : OpenClaim := { program := "ytlfbchkcgchoaaa", sum := "4260c81a969c94e9e6b1da663db0c03d3be3038c94f4523986efe8cc399f59fe", func := "jackstay/jackstaylaw21.CutShows", spec := "cutShows", unfollowed := true, recurses := true, apart := false, narrowed := true }
def CutShowsUptoSaid : Prop := cutShowsUptoRow.holds Try.pinned (OpenSpec.upto cutShowsSpec)

/-- 'jackstaylaw21.CutNone', WHERE WHAT IT READS IS OF BULK AT MOST 1048576: true; the input reads as it did. -/
def cutNoneUptoRow : OpenClaim := { program := "ytlfbchkcgchoaaa", sum := "4260c81a969c94e9e6b1da663db0c03d3be3038c94f4523986efe8cc399f59fe", func := "jackstay/jackstaylaw21.CutNone", spec := "cutNone", unfollowed := true, recurses := true, apart := false, narrowed := true }
def CutNoneUptoSaid : Prop := cutNoneUptoRow.holds Try.pinned (OpenSpec.upto cutNoneSpec)

/-- 'jackstaylaw21.CutNothing', WHERE WHAT IT READS IS OF BULK AT MOST 1048576: true; the input reads as it did. -/
def cutNothingUptoRow : OpenClaim := { program := "ytlfbchkcgchoaaa", sum := "4260c81a969c94e9e6b1da663db0c03d3be3038c94f4523986efe8cc399f59fe", func := "jackstay/jackstaylaw21.CutNothing", spec := "cutNothing", unfollowed := true, recurses := true, apart := false, narrowed := true }
def CutNothingUptoSaid : Prop := cutNothingUptoRow.holds Try.pinned (OpenSpec.upto cutNothingSpec)

end Rows
end Go.Proofs.Ytlfbchkcgchoaaa
