/- What the laws of this seat are handed, as data. PRINTED by wip/gen/reads.py. -/
import Derived.Test.YtbefmodpgecfgaaT
import Derived.Test.YtbefmodpgecfgaaA35
namespace Go.Proofs.Ytbefmodpgecfgaa
open Go.A
set_option linter.unusedVariables false
def d3 (n : Int) : D := .int .i64 n
def c3 (n : Int) : List D := [.int .i64 n]
def ok3 (n : Int) : Prop := -9223372036854775808 ≤ n ∧ n < 9223372036854775808
theorem is3 : IsA Try.prog 3 c3 ok3 := (IsA.int td3_ok rfl rfl).conv _ _ id (fun _ _ => rfl) (fun x hx => by have e : (IntKind.i64).max = 9223372036854775807 := rfl; have e2 : (IntKind.i64).min = -9223372036854775808 := rfl; simp only [e, e2] at hx; simp only [ok3, id]; omega) (fun _ => rfl) (fun _ => by rw [td3_ok.cellsOf]; rfl)
def r3 (x : Int) : D := d3 x
def d5 (n : Nat) : D := .int .u8 (n : Int)
def c5 (n : Nat) : List D := [.int .u8 (n : Int)]
def ok5 (n : Nat) : Prop := n < 256
theorem is5 : IsA Try.prog 5 c5 ok5 := (IsA.nat td5_ok rfl rfl rfl).conv _ _ id (fun _ _ => rfl) (fun x hx => by have e : (IntKind.u8).max = 255 := rfl; simp only [e] at hx; simp only [ok5, id]; omega) (fun _ => rfl) (fun _ => by rw [td5_ok.cellsOf]; rfl)
def r5 (x : Nat) : D := d5 x
def d34 (xs : List Nat) : D := .sl (xs.map r5)
def c34 (xs : List Nat) : List D := [.sl (xs.map r5)]
def ok34 (xs : List Nat) : Prop := (∀ x ∈ xs, ok5 x) ∧ xs.length * td5.bytes ≤ 140737488351232
theorem is34 : IsA Try.prog 34 c34 ok34 := (IsA.slice (T := tab) td34_ok rfl rfl td5_ok (by decide) is5).conv _ _ id (fun _ _ => rfl) (fun _ h => h) (fun _ => rfl) (fun _ => by rw [td34_ok.cellsOf]; rfl)
def r34 (x : (List Nat)) : D := d34 x
def d4 (b : Bool) : D := .bool b
def c4 (b : Bool) : List D := [.bool b]
def ok4 (_ : Bool) : Prop := True
theorem is4 : IsA Try.prog 4 c4 ok4 := IsA.bool td4_ok rfl rfl
def r4 (x : Bool) : D := d4 x
def d28 (xs : List Bool) : D := .sl (xs.map r4)
def c28 (xs : List Bool) : List D := [.sl (xs.map r4)]
def ok28 (xs : List Bool) : Prop := (∀ x ∈ xs, ok4 x) ∧ xs.length * td4.bytes ≤ 140737488351232
theorem is28 : IsA Try.prog 28 c28 ok28 := (IsA.slice (T := tab) td28_ok rfl rfl td4_ok (by decide) is4).conv _ _ id (fun _ _ => rfl) (fun _ h => h) (fun _ => rfl) (fun _ => by rw [td28_ok.cellsOf]; rfl)
def r28 (x : (List Bool)) : D := d28 x
structure T35 where
  kind_ : Nat
  i_ : Int
  data_ : (List Nat)
  keep_ : (List Bool)
def c36 (x : T35) : List D := [d5 x.kind_, d3 x.i_, d34 x.data_, d28 x.keep_]
def d36 (x : T35) : D := .agg (c36 x)
def ok36 (x : T35) : Prop := ok5 x.kind_ ∧ ok3 x.i_ ∧ ok34 x.data_ ∧ ok28 x.keep_
theorem is36 : IsA Try.prog 36 c36 ok36 := by
  have h0 := IsA.struct (tot := 1 + (1 + (1 + (1 + (0))))) Try.underlying36 td36_ok.cellsOf (IsF.cons (by rfl) 1 td5_ok.cellsOf is5 (IsF.cons (by rfl) 1 td3_ok.cellsOf is3 (IsF.cons (by rfl) 1 td34_ok.cellsOf is34 (IsF.cons (by rfl) 1 td28_ok.cellsOf is28 IsF.nil))))
  exact h0.conv c36 ok36 (fun x => ⟨x.1, x.2.1, x.2.2.1, x.2.2.2.1⟩) (fun _ _ => rfl) (fun _ h => ⟨h.1, h.2.1, h.2.2.1, h.2.2.2.1⟩) (fun _ => rfl) (fun _ => by rw [td36_ok.cellsOf]; rfl)
def r36 (x : T35) : D := .agg (c36 x)
def d22 (xs : List T35) : D := .sl (xs.map r36)
def c22 (xs : List T35) : List D := [.sl (xs.map r36)]
def ok22 (xs : List T35) : Prop := (∀ x ∈ xs, ok36 x) ∧ xs.length * td36.bytes ≤ 140737488351232
theorem is22 : IsA Try.prog 22 c22 ok22 := (IsA.slice (T := tab) td22_ok rfl rfl td36_ok (by decide) is36).conv _ _ id (fun _ _ => rfl) (fun _ h => h) (fun _ => rfl) (fun _ => by rw [td22_ok.cellsOf]; rfl)
def r22 (x : (List T35)) : D := d22 x
end Go.Proofs.Ytbefmodpgecfgaa
