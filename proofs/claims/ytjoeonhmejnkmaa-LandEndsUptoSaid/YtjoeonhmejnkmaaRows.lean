/-
  No cell of these rows narrows 'for every input' (looked for: loops, veiled, ifaces, maps, wideKeys, modest, calm, conditions, laid).
  DERIVED. THE GIVEN ROWS OF THIS SEAT. 5 by the template 'for every input the law returns true; each argument reads behind the call as it read before'; 0 by the template 'total and deterministic' (their statements: YtjoeonhmejnkmaaTotals.lean).
  GIVEN WITH THE SEED: the statements are not yours to turn. If you find one false, say at which input.
  Laid BY PROGRAM, IN A SANDBOX (cutbox-rows.mjs): the forced cells as the released guide's own fill.sh prints them over the translation 0a61e6ca2df7f23e… (all of the seat's roots in one cut). By AI agents, Wed Nov 11 2026. No macro, syntax, notation, axiom, sorry.
-/
import Derived.Test.YtjoeonhmejnkmaaChecked
import GoSem.Claim
import GoSem.ClaimJoined
import GoSem.ClaimMapViews
import Derived.JoinedTies
import Derived.KernelRfl
namespace Go.Proofs.Ytjoeonhmejnkmaa
/- THE CELL 'sum', in the pinned program and in every row, IS THE sha256 OF THE DUMP (.gsa) THAT YtjoeonhmejnkmaaProg.lean LOADS. Nothing in Lean hashes anything: it is a label: what it is worth is what the hold of that sum in a sandbox is worth. -/
noncomputable def Try.pinned : Pinned := { name := "ytjoeonhmejnkmaa", sum := "0a61e6ca2df7f23e055318779e2f1d0d68fbeb22f3d46be11f842e9a61c667a5", checked := Try.checked }
namespace Rows
def none {H : Type} : Left H := { results := [], args := [] }

/-- 'jackstaylaw11.LandRefused': WHATEVER THE INPUT: true; the input reads as it did. -/
def landRefusedSpec : ChangeSpec := { name := "landRefused", fn := fun _ => fun
  | [d1, d2, d3] => { results := [.lit (.bool true)], args := [d1, d2, d3] }
  | _ => none }
def landRefusedRow : OpenClaim := { program := "ytjoeonhmejnkmaa", sum := "0a61e6ca2df7f23e055318779e2f1d0d68fbeb22f3d46be11f842e9a61c667a5", func := "jackstay/jackstaylaw11.LandRefused", spec := "landRefused", unfollowed := true, recurses := true, apart := false }
def LandRefusedSaid : Prop := landRefusedRow.holds Try.pinned (OpenSpec.ofChange landRefusedSpec)

/-- ITS FALSE NEIGHBOUR: 'it returns false'. Refute it at one input. -/
def landRefusedWrong : ChangeSpec := { name := "landRefused", fn := fun _ => fun
  | [d1, d2, d3] => { results := [.lit (.bool false)], args := [d1, d2, d3] }
  | _ => none }
def LandRefusedWrongFalsely : Prop := landRefusedRow.holds Try.pinned (OpenSpec.ofChange landRefusedWrong)

/-- 'jackstaylaw11.LandAgain': WHATEVER THE INPUT: true; the input reads as it did. -/
def landAgainSpec : ChangeSpec := { name := "landAgain", fn := fun _ => fun
  | [d1, d2] => { results := [.lit (.bool true)], args := [d1, d2] }
  | _ => none }
def landAgainRow : OpenClaim := { program := "ytjoeonhmejnkmaa", sum := "0a61e6ca2df7f23e055318779e2f1d0d68fbeb22f3d46be11f842e9a61c667a5", func := "jackstay/jackstaylaw11.LandAgain", spec := "landAgain", unfollowed := true, recurses := true, apart := false }
def LandAgainSaid : Prop := landAgainRow.holds Try.pinned (OpenSpec.ofChange landAgainSpec)

/-- ITS FALSE NEIGHBOUR: 'it returns false'. Refute it at one input. -/
def landAgainWrong : ChangeSpec := { name := "landAgain", fn := fun _ => fun
  | [d1, d2] => { results := [.lit (.bool false)], args := [d1, d2] }
  | _ => none }
def LandAgainWrongFalsely : Prop := landAgainRow.holds Try.pinned (OpenSpec.ofChange landAgainWrong)

/-- 'jackstaylaw11.LandWhole': WHATEVER THE INPUT: true; the input reads as it did. -/
def landWholeSpec : ChangeSpec := { name := "landWhole", fn := fun _ => fun
  | [d1, d2, d3] => { results := [.lit (.bool true)], args := [d1, d2, d3] }
  | _ => none }
def landWholeRow : OpenClaim := { program := "ytjoeonhmejnkmaa", sum := "0a61e6ca2df7f23e055318779e2f1d0d68fbeb22f3d46be11f842e9a61c667a5", func := "jackstay/jackstaylaw11.LandWhole", spec := "landWhole", unfollowed := true, recurses := true, apart := false }
def LandWholeSaid : Prop := landWholeRow.holds Try.pinned (OpenSpec.ofChange landWholeSpec)

/-- ITS FALSE NEIGHBOUR: 'it returns false'. Refute it at one input. -/
def landWholeWrong : ChangeSpec := { name := "landWhole", fn := fun _ => fun
  | [d1, d2, d3] => { results := [.lit (.bool false)], args := [d1, d2, d3] }
  | _ => none }
def LandWholeWrongFalsely : Prop := landWholeRow.holds Try.pinned (OpenSpec.ofChange landWholeWrong)

/-- 'jackstaylaw11.LandEnds': WHATEVER THE INPUT: true; the input reads as it did. -/
def landEndsSpec : ChangeSpec := { name := "landEnds", fn := fun _ => fun
  | [d1, d2, d3] => { results := [.lit (.bool true)], args := [d1, d2, d3] }
  | _ => none }
def landEndsRow : OpenClaim := { program := "ytjoeonhmejnkmaa", sum := "0a61e6ca2df7f23e055318779e2f1d0d68fbeb22f3d46be11f842e9a61c667a5", func := "jackstay/jackstaylaw11.LandEnds", spec := "landEnds", unfollowed := true, recurses := true, apart := false }
def LandEndsSaid : Prop := landEndsRow.holds Try.pinned (OpenSpec.ofChange landEndsSpec)

/-- ITS FALSE NEIGHBOUR: 'it returns false'. Refute it at one input. -/
def landEndsWrong : ChangeSpec := { name := "landEnds", fn := fun _ => fun
  | [d1, d2, d3] => { results := [.lit (.bool false)], args := [d1, d2, d3] }
  | _ => none }
def LandEndsWrongFalsely : Prop := landEndsRow.holds Try.pinned (OpenSpec.ofChange landEndsWrong)

/-- 'jackstaylaw11.LandNobody': WHATEVER THE INPUT: true; the input reads as it did. -/
def landNobodySpec : ChangeSpec := { name := "landNobody", fn := fun _ => fun
  | [d] => { results := [.lit (.bool true)], args := [d] }
  | _ => none }
def landNobodyRow : OpenClaim := { program := "ytjoeonhmejnkmaa", sum := "0a61e6ca2df7f23e055318779e2f1d0d68fbeb22f3d46be11f842e9a61c667a5", func := "jackstay/jackstaylaw11.LandNobody", spec := "landNobody", unfollowed := true, recurses := true, apart := false }
def LandNobodySaid : Prop := landNobodyRow.holds Try.pinned (OpenSpec.ofChange landNobodySpec)

/-- ITS FALSE NEIGHBOUR: 'it returns false'. Refute it at one input. -/
def landNobodyWrong : ChangeSpec := { name := "landNobody", fn := fun _ => fun
  | [d] => { results := [.lit (.bool false)], args := [d] }
  | _ => none }
def LandNobodyWrongFalsely : Prop := landNobodyRow.holds Try.pinned (OpenSpec.ofChange landNobodyWrong)

/- THE SECOND FORM. 'bulk': how many values and letters a reading holds, each counted each time it is reached (what is shared counts as often as it is met; a slice's spare places count too). A statement '..UptoSaid' is the law's where the arguments, and the package variables that the reading takes, are together of bulk at most 1048576: NARROWER than '..Said'. Prove '..Said' where nothing that the law and all that it calls make is longer than what came in: it says more and counts as full. Else prove '..UptoSaid'. A law counts once. -/
mutual
def uptoBulk {H : Type} : DataW H → Nat
  | .lit (.string bytes) => bytes.length + 1
  | .lit _ => 1
  | .nil => 1
  | .ptr d => uptoBulk d + 1
  | .slice elems spare => uptoBulkAll elems + uptoBulkAll spare + 1
  | .agg parts => uptoBulkAll parts + 1
  | .iface _ d => uptoBulk d + 1
  | .map entries => uptoBulkEntries entries + 1
  | .held _ => 1
def uptoBulkAll {H : Type} : List (DataW H) → Nat
  | [] => 0
  | d :: r => uptoBulk d + uptoBulkAll r
def uptoBulkEntries {H : Type} : List (Lit × DataW H) → Nat
  | [] => 0
  | x :: r => uptoBulkEntry x + uptoBulkEntries r
def uptoBulkEntry {H : Type} : Lit × DataW H → Nat
  | (.string bytes, d) => bytes.length + uptoBulk d + 1
  | (_, d) => uptoBulk d + 1
 end
def uptoSmall : (H : Type) → List (DataW H) → Bool := fun _ ds => decide (uptoBulkAll ds ≤ 1048576)
def OpenSpec.upto (s : _root_.Go.ChangeSpec) : _root_.Go.OpenSpec := { _root_.Go.OpenSpec.ofChange s with cond := some uptoSmall }

/-- 'jackstaylaw11.LandRefused', WHERE WHAT IT READS IS OF BULK AT MOST 1048576: true; the input reads as it did. -/
def landRefusedUptoRow : OpenClaim := { program := "ytjoeonhmejnkmaa", sum := "0a61e6ca2df7f23e055318779e2f1d0d68fbeb22f3d46be11f842e9a61c667a5", func := "jackstay/jackstaylaw11.LandRefused", spec := "landRefused", unfollowed := true, recurses := true, apart := false, narrowed := true }
def LandRefusedUptoSaid : Prop := landRefusedUptoRow.holds Try.pinned (OpenSpec.upto landRefusedSpec)

/-- 'jackstaylaw11.LandAgain', WHERE WHAT IT READS IS OF BULK AT MOST 1048576: true; the input reads as it did. -/
def landAgainUptoRow : OpenClaim := { program := "ytjoeonhmejnkmaa", sum := "0a61e6ca2df7f23e055318779e2f1d0d68fbeb22f3d46be11f842e9a61c667a5", func := "jackstay/jackstaylaw11.LandAgain", spec := "landAgain", unfollowed := true, recurses := true, apart := false, narrowed := true }
def LandAgainUptoSaid : Prop := landAgainUptoRow.holds Try.pinned (OpenSpec.upto landAgainSpec)

/-- 'jackstaylaw11.LandWhole', WHERE WHAT IT READS IS OF BULK AT MOST 1048576: true; the input reads as it did. -/
def landWholeUptoRow : OpenClaim := { program := "ytjoeonhmejnkmaa", sum := "0a61e6ca2df7f23e055318779e2f1d0d68fbeb22f3d46be11f842e9a61c667a5", func := "jackstay/jackstaylaw11.LandWhole", spec := "landWhole", unfollowed := true, recurses := true, apart := false, narrowed := true }
def LandWholeUptoSaid : Prop := landWholeUptoRow.holds Try.pinned (OpenSpec.upto landWholeSpec)

/-- 'jackstaylaw11.LandEnds', WHERE WHAT IT READS IS OF BULK AT MOST 1048576: true; the input reads as it did. -/
def landEndsUptoRow : OpenClaim := { program := "ytjoeonhmejnkmaa", sum := "0a61e6ca2df7f23e055318779e2f1d0d68fbeb22f3d46be11f842e9a61c667a5", func := "jackstay/jackstaylaw11.LandEnds", spec := "landEnds", unfollowed := true, recurses := true, apart := false, narrowed := true }
def LandEndsUptoSaid : Prop := landEndsUptoRow.holds Try.pinned (OpenSpec.upto landEndsSpec)

/-- 'jackstaylaw11.LandNobody', WHERE WHAT IT READS IS OF BULK AT MOST 1048576: true; the input reads as it did. -/
def landNobodyUptoRow : OpenClaim := { program := "ytjoeonhmejnkmaa", sum := "0a61e6ca2df7f23e055318779e2f1d0d68fbeb22f3d46be11f842e9a61c667a5", func := "jackstay/jackstaylaw11.LandNobody", spec := "landNobody", unfollowed := true, recurses := true, apart := false, narrowed := true }
def LandNobodyUptoSaid : Prop := landNobodyUptoRow.holds Try.pinned (OpenSpec.upto landNobodySpec)

end Rows
end Go.Proofs.Ytjoeonhmejnkmaa
