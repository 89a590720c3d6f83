/-
  No cell of these rows narrows 'for every input' (looked for: loops, veiled, ifaces, maps, wideKeys, modest, calm, conditions, laid).
  DERIVED. THE GIVEN ROWS OF THIS SEAT. 6 by the template 'for every input the law returns true; each argument reads behind the call as it read before'; 0 by the template 'total and deterministic' (their statements: YtlghefbapiocgaaTotals.lean).
  GIVEN WITH THE SEED: the statements are not yours to turn. If you find one false, say at which input.
  Laid BY PROGRAM, IN A SANDBOX (cutbox-rows.mjs): the forced cells as the released guide's own fill.sh prints them over the translation 21ba5789a6ea7b83… (all of the seat's roots in one cut). By AI agents, Wed Nov 11 2026. No macro, syntax, notation, axiom, sorry.
-/
import Derived.Test.YtlghefbapiocgaaChecked
import GoSem.Claim
import GoSem.ClaimJoined
import GoSem.ClaimMapViews
import Derived.JoinedTies
import Derived.KernelRfl
namespace Go.Proofs.Ytlghefbapiocgaa
/- THE CELL 'sum', in the pinned program and in every row, IS THE sha256 OF THE DUMP (.gsa) THAT YtlghefbapiocgaaProg.lean LOADS. Nothing in Lean hashes anything: it is a label: what it is worth is what the hold of that sum in a sandbox is worth. -/
noncomputable def Try.pinned : Pinned := { name := "ytlghefbapiocgaa", sum := "21ba5789a6ea7b83dc0c32722e84ffd2add01c87cbfad8d0dee07859770de5d4", checked := Try.checked }
namespace Rows
def none {H : Type} : Left H := { results := [], args := [] }

/-- 'jackstaylaw09.DeltaViews': WHATEVER THE INPUT: true; the input reads as it did. -/
def deltaViewsSpec : ChangeSpec := { name := "deltaViews", fn := fun _ => fun
  | [d1, d2, d3] => { results := [.lit (.bool true)], args := [d1, d2, d3] }
  | _ => none }
def deltaViewsRow : OpenClaim := { program := "ytlghefbapiocgaa", sum := "21ba5789a6ea7b83dc0c32722e84ffd2add01c87cbfad8d0dee07859770de5d4", func := "jackstay/jackstaylaw09.DeltaViews", spec := "deltaViews", unfollowed := true, recurses := true, apart := false }
def DeltaViewsSaid : Prop := deltaViewsRow.holds Try.pinned (OpenSpec.ofChange deltaViewsSpec)

/-- ITS FALSE NEIGHBOUR: 'it returns false'. Refute it at one input. -/
def deltaViewsWrong : ChangeSpec := { name := "deltaViews", fn := fun _ => fun
  | [d1, d2, d3] => { results := [.lit (.bool false)], args := [d1, d2, d3] }
  | _ => none }
def DeltaViewsWrongFalsely : Prop := deltaViewsRow.holds Try.pinned (OpenSpec.ofChange deltaViewsWrong)

/-- 'jackstaylaw09.DeltaOps': WHATEVER THE INPUT: true; the input reads as it did. -/
def deltaOpsSpec : ChangeSpec := { name := "deltaOps", fn := fun _ => fun
  | [d1, d2, d3] => { results := [.lit (.bool true)], args := [d1, d2, d3] }
  | _ => none }
def deltaOpsRow : OpenClaim := { program := "ytlghefbapiocgaa", sum := "21ba5789a6ea7b83dc0c32722e84ffd2add01c87cbfad8d0dee07859770de5d4", func := "jackstay/jackstaylaw09.DeltaOps", spec := "deltaOps", unfollowed := true, recurses := true, apart := false }
def DeltaOpsSaid : Prop := deltaOpsRow.holds Try.pinned (OpenSpec.ofChange deltaOpsSpec)

/-- ITS FALSE NEIGHBOUR: 'it returns false'. Refute it at one input. -/
def deltaOpsWrong : ChangeSpec := { name := "deltaOps", fn := fun _ => fun
  | [d1, d2, d3] => { results := [.lit (.bool false)], args := [d1, d2, d3] }
  | _ => none }
def DeltaOpsWrongFalsely : Prop := deltaOpsRow.holds Try.pinned (OpenSpec.ofChange deltaOpsWrong)

/-- 'jackstaylaw09.DeltaMakes': WHATEVER THE INPUT: true; the input reads as it did. -/
def deltaMakesSpec : ChangeSpec := { name := "deltaMakes", fn := fun _ => fun
  | [d1, d2, d3] => { results := [.lit (.bool true)], args := [d1, d2, d3] }
  | _ => none }
def deltaMakesRow : OpenClaim := { program := "ytlghefbapiocgaa", sum := "21ba5789a6ea7b83dc0c32722e84ffd2add01c87cbfad8d0dee07859770de5d4", func := "jackstay/jackstaylaw09.DeltaMakes", spec := "deltaMakes", unfollowed := true, recurses := true, apart := false }
def DeltaMakesSaid : Prop := deltaMakesRow.holds Try.pinned (OpenSpec.ofChange deltaMakesSpec)

/-- ITS FALSE NEIGHBOUR: 'it returns false'. Refute it at one input. -/
def deltaMakesWrong : ChangeSpec := { name := "deltaMakes", fn := fun _ => fun
  | [d1, d2, d3] => { results := [.lit (.bool false)], args := [d1, d2, d3] }
  | _ => none }
def DeltaMakesWrongFalsely : Prop := deltaMakesRow.holds Try.pinned (OpenSpec.ofChange deltaMakesWrong)

/-- 'jackstaylaw09.DeltaYoung': WHATEVER THE INPUT: true; the input reads as it did. -/
def deltaYoungSpec : ChangeSpec := { name := "deltaYoung", fn := fun _ => fun
  | [d1, d2, d3] => { results := [.lit (.bool true)], args := [d1, d2, d3] }
  | _ => none }
def deltaYoungRow : OpenClaim := { program := "ytlghefbapiocgaa", sum := "21ba5789a6ea7b83dc0c32722e84ffd2add01c87cbfad8d0dee07859770de5d4", func := "jackstay/jackstaylaw09.DeltaYoung", spec := "deltaYoung", unfollowed := true, recurses := true, apart := false }
def DeltaYoungSaid : Prop := deltaYoungRow.holds Try.pinned (OpenSpec.ofChange deltaYoungSpec)

/-- ITS FALSE NEIGHBOUR: 'it returns false'. Refute it at one input. -/
def deltaYoungWrong : ChangeSpec := { name := "deltaYoung", fn := fun _ => fun
  | [d1, d2, d3] => { results := [.lit (.bool false)], args := [d1, d2, d3] }
  | _ => none }
def DeltaYoungWrongFalsely : Prop := deltaYoungRow.holds Try.pinned (OpenSpec.ofChange deltaYoungWrong)

/-- 'jackstaylaw09.DeltaGrows': WHATEVER THE INPUT: true; the input reads as it did. -/
def deltaGrowsSpec : ChangeSpec := { name := "deltaGrows", fn := fun _ => fun
  | [d1, d2, d3] => { results := [.lit (.bool true)], args := [d1, d2, d3] }
  | _ => none }
def deltaGrowsRow : OpenClaim := { program := "ytlghefbapiocgaa", sum := "21ba5789a6ea7b83dc0c32722e84ffd2add01c87cbfad8d0dee07859770de5d4", func := "jackstay/jackstaylaw09.DeltaGrows", spec := "deltaGrows", unfollowed := true, recurses := true, apart := false }
def DeltaGrowsSaid : Prop := deltaGrowsRow.holds Try.pinned (OpenSpec.ofChange deltaGrowsSpec)

/-- ITS FALSE NEIGHBOUR: 'it returns false'. Refute it at one input. -/
def deltaGrowsWrong : ChangeSpec := { name := "deltaGrows", fn := fun _ => fun
  | [d1, d2, d3] => { results := [.lit (.bool false)], args := [d1, d2, d3] }
  | _ => none }
def DeltaGrowsWrongFalsely : Prop := deltaGrowsRow.holds Try.pinned (OpenSpec.ofChange deltaGrowsWrong)

/-- 'jackstaylaw09.DeltaSelf': WHATEVER THE INPUT: true; the input reads as it did. -/
def deltaSelfSpec : ChangeSpec := { name := "deltaSelf", fn := fun _ => fun
  | [d1, d2, d3] => { results := [.lit (.bool true)], args := [d1, d2, d3] }
  | _ => none }
def deltaSelfRow : OpenClaim := { program := "ytlghefbapiocgaa", sum := "21ba5789a6ea7b83dc0c32722e84ffd2add01c87cbfad8d0dee07859770de5d4", func := "jackstay/jackstaylaw09.DeltaSelf", spec := "deltaSelf", unfollowed := true, recurses := true, apart := false }
def DeltaSelfSaid : Prop := deltaSelfRow.holds Try.pinned (OpenSpec.ofChange deltaSelfSpec)

/-- ITS FALSE NEIGHBOUR: 'it returns false'. Refute it at one input. -/
def deltaSelfWrong : ChangeSpec := { name := "deltaSelf", fn := fun _ => fun
  | [d1, d2, d3] => { results := [.lit (.bool false)], args := [d1, d2, d3] }
  | _ => none }
def DeltaSelfWrongFalsely : Prop := deltaSelfRow.holds Try.pinned (OpenSpec.ofChange deltaSelfWrong)

/- THE SECOND FORM. 'bulk': how many values and letters a reading holds, each counted each time it is reached (what is shared counts as often as it is met; a slice's spare places count too). A statement '..UptoSaid' is the law's where the arguments, and the package variables that the reading takes, are together of bulk at most 1048576: NARROWER than '..Said'. Prove '..Said' where nothing that the law and all that it calls make is longer than what came in: it says more and counts as full. Else prove '..UptoSaid'. A law counts once. -/
mutual
def uptoBulk {H : Type} : DataW H → Nat
  | .lit (.string bytes) => bytes.length + 1
  | .lit _ => 1
  | .nil => 1
  | .ptr d => uptoBulk d + 1
  | .slice elems spare => uptoBulkAll elems + uptoBulkAll spare + 1
  | .agg parts => uptoBulkAll parts + 1
  | .iface _ d => uptoBulk d + 1
  | .map entries => uptoBulkEntries entries + 1
  | .held _ => 1
def uptoBulkAll {H : Type} : List (DataW H) → Nat
  | [] => 0
  | d :: r => uptoBulk d + uptoBulkAll r
def uptoBulkEntries {H : Type} : List (Lit × DataW H) → Nat
  | [] => 0
  | x :: r => uptoBulkEntry x + uptoBulkEntries r
def uptoBulkEntry {H : Type} : Lit × DataW H → Nat
  | (.string bytes, d) => bytes.length + uptoBulk d + 1
  | (_, d) => uptoBulk d + 1
 end
def uptoSmall : (H : Type) → List (DataW H) → Bool := fun _ ds => decide (uptoBulkAll ds ≤ 1048576)
def OpenSpec.upto (s : _root_.Go.ChangeSpec) : _root_.Go.OpenSpec := { _root_.Go.OpenSpec.ofChange s with cond := some uptoSmall }

/-- 'jackstaylaw09.DeltaViews', WHERE WHAT IT READS IS OF BULK AT MOST 1048576: true; the input reads as it did. -/
def deltaViewsUptoRow : OpenClaim := { program := "ytlghefbapiocgaa", sum := "21ba5789a6ea7b83dc0c32722e84ffd2add01c87cbfad8d0dee07859770de5d4", func := "jackstay/jackstaylaw09.DeltaViews", spec := "deltaViews", unfollowed := true, recurses := true, apart := false, narrowed := true }
def DeltaViewsUptoSaid : Prop := deltaViewsUptoRow.holds Try.pinned (OpenSpec.upto deltaViewsSpec)

/-- 'jackstaylaw09.DeltaOps', WHERE WHAT IT READS IS OF BULK AT MOST 1048576: true; the input reads as it did. -/
def deltaOpsUptoRow : OpenClaim := { program := "ytlghefbapiocgaa", sum := "21ba5789a6ea7b83dc0c32722e84ffd2add01c87cbfad8d0dee07859770de5d4", func := "jackstay/jackstaylaw09.DeltaOps", spec := "deltaOps", unfollowed := true, recurses := true, apart := false, narrowed := true }
def DeltaOpsUptoSaid : Prop := deltaOpsUptoRow.holds Try.pinned (OpenSpec.upto deltaOpsSpec)

/-- 'jackstaylaw09.DeltaMakes', WHERE WHAT IT READS IS OF BULK AT MOST 1048576: true; the input reads as it did. -/
def deltaMakesUptoRow : OpenClaim := { program := "ytlghefbapiocgaa", sum := "21ba5789a6ea7b83dc0c32722e84ffd2add01c87cbfad8d0dee07859770de5d4", func := "jackstay/jackstaylaw09.DeltaMakes", spec := "deltaMakes", unfollowed := true, recurses := true, apart := false, narrowed := true }
def DeltaMakesUptoSaid : Prop := deltaMakesUptoRow.holds Try.pinned (OpenSpec.upto deltaMakesSpec)

/-- 'jackstaylaw09.DeltaYoung', WHERE WHAT IT READS IS OF BULK AT MOST 1048576: true; the input reads as it did. -/
def deltaYoungUptoRow : OpenClaim := { program := "ytlghefbapiocgaa", sum := "21ba5789a6ea7b83dc0c32722e84ffd2add01c87cbfad8d0dee07859770de5d4", func := "jackstay/jackstaylaw09.DeltaYoung", spec := "deltaYoung", unfollowed := true, recurses := true, apart := false, narrowed := true }
def DeltaYoungUptoSaid : Prop := deltaYoungUptoRow.holds Try.pinned (OpenSpec.upto deltaYoungSpec)

/-- 'jackstaylaw09.DeltaGrows', WHERE WHAT IT READS IS OF BULK AT MOST 1048576: true; the input reads as it did. -/
def deltaGrowsUptoRow : OpenClaim := { program := "ytlghefbapiocgaa", sum := "21ba5789a6ea7b83dc0c32722e84ffd2add01c87cbfad8d0dee07859770de5d4", func := "jackstay/jackstaylaw09.DeltaGrows", spec := "deltaGrows", unfollowed := true, recurses := true, apart := false, narrowed := true }
def DeltaGrowsUptoSaid : Prop := deltaGrowsUptoRow.holds Try.pinned (OpenSpec.upto deltaGrowsSpec)

/-- 'jackstaylaw09.DeltaSelf', WHERE WHAT IT READS IS OF BULK AT MOST 1048576: true; the input reads as it did. -/
def deltaSelfUptoRow : OpenClaim := { program := "ytlghefbapiocgaa", sum := "21ba5789a6ea7b83dc0c32722e84ffd2add01c87cbfad8d0dee07859770de5d4", func := "jackstay/jackstaylaw09.DeltaSelf", spec := "deltaSelf", unfollowed := true, recurses := true, apart := false, narrowed := true }
def DeltaSelfUptoSaid : Prop := deltaSelfUptoRow.holds Try.pinned (OpenSpec.upto deltaSelfSpec)

end Rows
end Go.Proofs.Ytlghefbapiocgaa
