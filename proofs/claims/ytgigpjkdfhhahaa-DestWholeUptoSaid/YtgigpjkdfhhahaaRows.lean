/-
  No cell of these rows narrows 'for every input' (looked for: loops, veiled, ifaces, maps, wideKeys, modest, calm, conditions, laid).
  DERIVED. THE GIVEN ROWS OF THIS SEAT. 5 by the template 'for every input the law returns true; each argument reads behind the call as it read before'; 0 by the template 'total and deterministic' (their statements: YtgigpjkdfhhahaaTotals.lean).
  GIVEN WITH THE SEED: the statements are not yours to turn. If you find one false, say at which input.
  Laid BY PROGRAM, IN A SANDBOX (cutbox-rows.mjs): the forced cells as the released guide's own fill.sh prints them over the translation a3c2c977c6dbe044… (all of the seat's roots in one cut). By AI agents, Wed Nov 11 2026. No macro, syntax, notation, axiom, sorry.
-/
import Derived.Test.YtgigpjkdfhhahaaChecked
import GoSem.Claim
import GoSem.ClaimJoined
import GoSem.ClaimMapViews
import Derived.JoinedTies
import Derived.KernelRfl
namespace Go.Proofs.Ytgigpjkdfhhahaa
/- THE CELL 'sum', in the pinned program and in every row, IS THE sha256 OF THE DUMP (.gsa) THAT YtgigpjkdfhhahaaProg.lean LOADS. Nothing in Lean hashes anything: it is a label: what it is worth is what the hold of that sum in a sandbox is worth. -/
noncomputable def Try.pinned : Pinned := { name := "ytgigpjkdfhhahaa", sum := "a3c2c977c6dbe044b296b7d69084598eb350efc7fbcacc7cc02e8bbf9790190b", checked := Try.checked }
namespace Rows
def none {H : Type} : Left H := { results := [], args := [] }

/-- 'jackstaylaw20.DestWhole': WHATEVER THE INPUT: true; the input reads as it did. -/
def destWholeSpec : ChangeSpec := { name := "destWhole", fn := fun _ => fun
  | [d1, d2, d3] => { results := [.lit (.bool true)], args := [d1, d2, d3] }
  | _ => none }
def destWholeRow : OpenClaim := { program := "ytgigpjkdfhhahaa", sum := "a3c2c977c6dbe044b296b7d69084598eb350efc7fbcacc7cc02e8bbf9790190b", func := "jackstay/jackstaylaw20.DestWhole", spec := "destWhole", unfollowed := true, recurses := true, apart := false }
def DestWholeSaid : Prop := destWholeRow.holds Try.pinned (OpenSpec.ofChange destWholeSpec)

/-- ITS FALSE NEIGHBOUR: 'it returns false'. Refute it at one input. -/
def destWholeWrong : ChangeSpec := { name := "destWhole", fn := fun _ => fun
  | [d1, d2, d3] => { results := [.lit (.bool false)], args := [d1, d2, d3] }
  | _ => none }
def DestWholeWrongFalsely : Prop := destWholeRow.holds Try.pinned (OpenSpec.ofChange destWholeWrong)

/-- 'jackstaylaw20.DestStays': WHATEVER THE INPUT: true; the input reads as it did. -/
def destStaysSpec : ChangeSpec := { name := "destStays", fn := fun _ => fun
  | [d1, d2] => { results := [.lit (.bool true)], args := [d1, d2] }
  | _ => none }
def destStaysRow : OpenClaim := { program := "ytgigpjkdfhhahaa", sum := "a3c2c977c6dbe044b296b7d69084598eb350efc7fbcacc7cc02e8bbf9790190b", func := "jackstay/jackstaylaw20.DestStays", spec := "destStays", unfollowed := true, recurses := true, apart := false }
def DestStaysSaid : Prop := destStaysRow.holds Try.pinned (OpenSpec.ofChange destStaysSpec)

/-- ITS FALSE NEIGHBOUR: 'it returns false'. Refute it at one input. -/
def destStaysWrong : ChangeSpec := { name := "destStays", fn := fun _ => fun
  | [d1, d2] => { results := [.lit (.bool false)], args := [d1, d2] }
  | _ => none }
def DestStaysWrongFalsely : Prop := destStaysRow.holds Try.pinned (OpenSpec.ofChange destStaysWrong)

/-- 'jackstaylaw20.DestOnce': WHATEVER THE INPUT: true; the input reads as it did. -/
def destOnceSpec : ChangeSpec := { name := "destOnce", fn := fun _ => fun
  | [d1, d2, d3] => { results := [.lit (.bool true)], args := [d1, d2, d3] }
  | _ => none }
def destOnceRow : OpenClaim := { program := "ytgigpjkdfhhahaa", sum := "a3c2c977c6dbe044b296b7d69084598eb350efc7fbcacc7cc02e8bbf9790190b", func := "jackstay/jackstaylaw20.DestOnce", spec := "destOnce", unfollowed := true, recurses := true, apart := false }
def DestOnceSaid : Prop := destOnceRow.holds Try.pinned (OpenSpec.ofChange destOnceSpec)

/-- ITS FALSE NEIGHBOUR: 'it returns false'. Refute it at one input. -/
def destOnceWrong : ChangeSpec := { name := "destOnce", fn := fun _ => fun
  | [d1, d2, d3] => { results := [.lit (.bool false)], args := [d1, d2, d3] }
  | _ => none }
def DestOnceWrongFalsely : Prop := destOnceRow.holds Try.pinned (OpenSpec.ofChange destOnceWrong)

/-- 'jackstaylaw20.DestRefused': WHATEVER THE INPUT: true; the input reads as it did. -/
def destRefusedSpec : ChangeSpec := { name := "destRefused", fn := fun _ => fun
  | [d1, d2, d3] => { results := [.lit (.bool true)], args := [d1, d2, d3] }
  | _ => none }
def destRefusedRow : OpenClaim := { program := "ytgigpjkdfhhahaa", sum := "a3c2c977c6dbe044b296b7d69084598eb350efc7fbcacc7cc02e8bbf9790190b", func := "jackstay/jackstaylaw20.DestRefused", spec := "destRefused", unfollowed := true, recurses := true, apart := false }
def DestRefusedSaid : Prop := destRefusedRow.holds Try.pinned (OpenSpec.ofChange destRefusedSpec)

/-- ITS FALSE NEIGHBOUR: 'it returns false'. Refute it at one input. -/
def destRefusedWrong : ChangeSpec := { name := "destRefused", fn := fun _ => fun
  | [d1, d2, d3] => { results := [.lit (.bool false)], args := [d1, d2, d3] }
  | _ => none }
def DestRefusedWrongFalsely : Prop := destRefusedRow.holds Try.pinned (OpenSpec.ofChange destRefusedWrong)

/-- 'jackstaylaw20.DestNobody': WHATEVER THE INPUT: true; the input reads as it did. -/
def destNobodySpec : ChangeSpec := { name := "destNobody", fn := fun _ => fun
  | [d] => { results := [.lit (.bool true)], args := [d] }
  | _ => none }
def destNobodyRow : OpenClaim := { program := "ytgigpjkdfhhahaa", sum := "a3c2c977c6dbe044b296b7d69084598eb350efc7fbcacc7cc02e8bbf9790190b", func := "jackstay/jackstaylaw20.DestNobody", spec := "destNobody", unfollowed := true, recurses := true, apart := false }
def DestNobodySaid : Prop := destNobodyRow.holds Try.pinned (OpenSpec.ofChange destNobodySpec)

/-- ITS FALSE NEIGHBOUR: 'it returns false'. Refute it at one input. -/
def destNobodyWrong : ChangeSpec := { name := "destNobody", fn := fun _ => fun
  | [d] => { results := [.lit (.bool false)], args := [d] }
  | _ => none }
def DestNobodyWrongFalsely : Prop := destNobodyRow.holds Try.pinned (OpenSpec.ofChange destNobodyWrong)

/- THE SECOND FORM. 'bulk': how many values and letters a reading holds, each counted each time it is reached (what is shared counts as often as it is met; a slice's spare places count too). A statement '..UptoSaid' is the law's where the arguments, and the package variables that the reading takes, are together of bulk at most 1048576: NARROWER than '..Said'. Prove '..Said' where nothing that the law and all that it calls make is longer than what came in: it says more and counts as full. Else prove '..UptoSaid'. A law counts once. -/
mutual
def uptoBulk {H : Type} : DataW H → Nat
  | .lit (.string bytes) => bytes.length + 1
  | .lit _ => 1
  | .nil => 1
  | .ptr d => uptoBulk d + 1
  | .slice elems spare => uptoBulkAll elems + uptoBulkAll spare + 1
  | .agg parts => uptoBulkAll parts + 1
  | .iface _ d => uptoBulk d + 1
  | .map entries => uptoBulkEntries entries + 1
  | .held _ => 1
def uptoBulkAll {H : Type} : List (DataW H) → Nat
  | [] => 0
  | d :: r => uptoBulk d + uptoBulkAll r
def uptoBulkEntries {H : Type} : List (Lit × DataW H) → Nat
  | [] => 0
  | x :: r => uptoBulkEntry x + uptoBulkEntries r
def uptoBulkEntry {H : Type} : Lit × DataW H → Nat
  | (.string bytes, d) => bytes.length + uptoBulk d + 1
  | (_, d) => uptoBulk d + 1
 end
def uptoSmall : (H : Type) → List (DataW H) → Bool := fun _ ds => decide (uptoBulkAll ds ≤ 1048576)
def OpenSpec.upto (s : _root_.Go.ChangeSpec) : _root_.Go.OpenSpec := { _root_.Go.OpenSpec.ofChange s with cond := some uptoSmall }

/-- 'jackstaylaw20.DestWhole', WHERE WHAT IT READS IS OF BULK AT MOST 1048576: true; the input reads as it did. -/
def destWholeUptoRow : OpenClaim := { program := "ytgigpjkdfhhahaa", sum := "a3c2c977c6dbe044b296b7d69084598eb350efc7fbcacc7cc02e8bbf9790190b", func := "jackstay/jackstaylaw20.DestWhole", spec := "destWhole", unfollowed := true, recurses := true, apart := false, narrowed := true }
def DestWholeUptoSaid : Prop := destWholeUptoRow.holds Try.pinned (OpenSpec.upto destWholeSpec)

/-- 'jackstaylaw20.DestStays', WHERE WHAT IT READS IS OF BULK AT MOST 1048576: true; the input reads as it did. -/
def destStaysUptoRow : OpenClaim := { program := "ytgigpjkdfhhahaa", sum := "a3c2c977c6dbe044b296b7d69084598eb350efc7fbcacc7cc02e8bbf9790190b", func := "jackstay/jackstaylaw20.DestStays", spec := "destStays", unfollowed := true, recurses := true, apart := false, narrowed := true }
def DestStaysUptoSaid : Prop := destStaysUptoRow.holds Try.pinned (OpenSpec.upto destStaysSpec)

/-- 'jackstaylaw20.DestOnce', WHERE WHAT IT READS IS OF BULK AT MOST 1048576: true; the input reads as it did. -/
def destOnceUptoRow : OpenClaim := { program := "ytgigpjkdfhhahaa", sum := "a3c2c977c6dbe044b296b7d69084598eb350efc7fbcacc7cc02e8bbf9790190b", func := "jackstay/jackstaylaw20.DestOnce", spec := "destOnce", unfollowed := true, recurses := true, apart := false, narrowed := true }
def DestOnceUptoSaid : Prop := destOnceUptoRow.holds Try.pinned (OpenSpec.upto destOnceSpec)

/-- 'jackstaylaw20.DestRefused', WHERE WHAT IT READS IS OF BULK AT MOST 1048576: true; the input reads as it did. -/
def destRefusedUptoRow : OpenClaim := { program := "ytgigpjkdfhhahaa", sum := "a3c2c977c6dbe044b296b7d69084598eb350efc7fbcacc7cc02e8bbf9790190b", func := "jackstay/jackstaylaw20.DestRefused", spec := "destRefused", unfollowed := true, recurses := true, apart := false, narrowed := true }
def DestRefusedUptoSaid : Prop := destRefusedUptoRow.holds Try.pinned (OpenSpec.upto destRefusedSpec)

/-- 'jackstaylaw20.DestNobody', WHERE WHAT IT READS IS OF BULK AT MOST 1048576: true; the input reads as it did. -/
def destNobodyUptoRow : OpenClaim := { program := "ytgigpjkdfhhahaa", sum := "a3c2c977c6dbe044b296b7d69084598eb350efc7fbcacc7cc02e8bbf9790190b", func := "jackstay/jackstaylaw20.DestNobody", spec := "destNobody", unfollowed := true, recurses := true, apart := false, narrowed := true }
def DestNobodyUptoSaid : Prop := destNobodyUptoRow.holds Try.pinned (OpenSpec.upto destNobodySpec)

end Rows
end Go.Proofs.Ytgigpjkdfhhahaa
