/- What the laws of this seat are handed, as data. PRINTED by wip/gen/reads.py. -/
import Derived.Test.YtgcllbcpdcfkmaaT
import Derived.Test.YtgcllbcpdcfkmaaA24
namespace Go.Proofs.Ytgcllbcpdcfkmaa
open Go.A
set_option linter.unusedVariables false
def d3 (n : Int) : D := .int .i64 n
def c3 (n : Int) : List D := [.int .i64 n]
def ok3 (n : Int) : Prop := -9223372036854775808 ≤ n ∧ n < 9223372036854775808
theorem is3 : IsA Try.prog 3 c3 ok3 := (IsA.int td3_ok rfl rfl).conv _ _ id (fun _ _ => rfl) (fun x hx => by have e : (IntKind.i64).max = 9223372036854775807 := rfl; have e2 : (IntKind.i64).min = -9223372036854775808 := rfl; simp only [e, e2] at hx; simp only [ok3, id]; omega) (fun _ => rfl) (fun _ => by rw [td3_ok.cellsOf]; rfl)
def r3 (x : Int) : D := d3 x
def d22 (xs : List Int) : D := .sl (xs.map r3)
def c22 (xs : List Int) : List D := [.sl (xs.map r3)]
def ok22 (xs : List Int) : Prop := (∀ x ∈ xs, ok3 x) ∧ xs.length * td3.bytes ≤ 140737488351232
theorem is22 : IsA Try.prog 22 c22 ok22 := (IsA.slice (T := tab) td22_ok rfl rfl td3_ok (by decide) is3).conv _ _ id (fun _ _ => rfl) (fun _ h => h) (fun _ => rfl) (fun _ => by rw [td22_ok.cellsOf]; rfl)
def r22 (x : (List Int)) : D := d22 x
structure T58 where
  from_ : Int
  to_ : Int
  node_ : Int
def c59 (x : T58) : List D := [d3 x.from_, d3 x.to_, d3 x.node_]
def d59 (x : T58) : D := .agg (c59 x)
def ok59 (x : T58) : Prop := ok3 x.from_ ∧ ok3 x.to_ ∧ ok3 x.node_
theorem is59 : IsA Try.prog 59 c59 ok59 := by
  have h0 := IsA.struct (tot := 1 + (1 + (1 + (0)))) Try.underlying59 td59_ok.cellsOf (IsF.cons (by rfl) 1 td3_ok.cellsOf is3 (IsF.cons (by rfl) 1 td3_ok.cellsOf is3 (IsF.cons (by rfl) 1 td3_ok.cellsOf is3 IsF.nil)))
  exact h0.conv c59 ok59 (fun x => ⟨x.1, x.2.1, x.2.2.1⟩) (fun _ _ => rfl) (fun _ h => ⟨h.1, h.2.1, h.2.2.1⟩) (fun _ => rfl) (fun _ => by rw [td59_ok.cellsOf]; rfl)
def r59 (x : T58) : D := .agg (c59 x)
def d23 (xs : List T58) : D := .sl (xs.map r59)
def c23 (xs : List T58) : List D := [.sl (xs.map r59)]
def ok23 (xs : List T58) : Prop := (∀ x ∈ xs, ok59 x) ∧ xs.length * td59.bytes ≤ 140737488351232
theorem is23 : IsA Try.prog 23 c23 ok23 := (IsA.slice (T := tab) td23_ok rfl rfl td59_ok (by decide) is59).conv _ _ id (fun _ _ => rfl) (fun _ h => h) (fun _ => rfl) (fun _ => by rw [td23_ok.cellsOf]; rfl)
def r23 (x : (List T58)) : D := d23 x
structure T24 where
  version_ : Int
  n_ : Int
  pieces_ : (List T58)
def c25 (x : T24) : List D := [d3 x.version_, d3 x.n_, d23 x.pieces_]
def d25 (x : T24) : D := .agg (c25 x)
def ok25 (x : T24) : Prop := ok3 x.version_ ∧ ok3 x.n_ ∧ ok23 x.pieces_
theorem is25 : IsA Try.prog 25 c25 ok25 := by
  have h0 := IsA.struct (tot := 1 + (1 + (1 + (0)))) Try.underlying25 td25_ok.cellsOf (IsF.cons (by rfl) 1 td3_ok.cellsOf is3 (IsF.cons (by rfl) 1 td3_ok.cellsOf is3 (IsF.cons (by rfl) 1 td23_ok.cellsOf is23 IsF.nil)))
  exact h0.conv c25 ok25 (fun x => ⟨x.1, x.2.1, x.2.2.1⟩) (fun _ _ => rfl) (fun _ h => ⟨h.1, h.2.1, h.2.2.1⟩) (fun _ => rfl) (fun _ => by rw [td25_ok.cellsOf]; rfl)
def r25 (x : T24) : D := .agg (c25 x)
end Go.Proofs.Ytgcllbcpdcfkmaa
