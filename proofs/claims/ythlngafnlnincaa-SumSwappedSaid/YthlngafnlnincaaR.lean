/- What the laws of this seat are handed, as data. PRINTED by wip/gen/reads.py. -/
import Derived.Test.YthlngafnlnincaaT
import Derived.Test.YthlngafnlnincaaA24
namespace Go.Proofs.Ythlngafnlnincaa
open Go.A
set_option linter.unusedVariables false
def d5 (n : Nat) : D := .int .u8 (n : Int)
def c5 (n : Nat) : List D := [.int .u8 (n : Int)]
def ok5 (n : Nat) : Prop := n < 256
theorem is5 : IsA Try.prog 5 c5 ok5 := (IsA.nat td5_ok rfl rfl rfl).conv _ _ id (fun _ _ => rfl) (fun x hx => by have e : (IntKind.u8).max = 255 := rfl; simp only [e] at hx; simp only [ok5, id]; omega) (fun _ => rfl) (fun _ => by rw [td5_ok.cellsOf]; rfl)
def r5 (x : Nat) : D := d5 x
def d24 (xs : List Nat) : D := .sl (xs.map r5)
def c24 (xs : List Nat) : List D := [.sl (xs.map r5)]
def ok24 (xs : List Nat) : Prop := (∀ x ∈ xs, ok5 x) ∧ xs.length * td5.bytes ≤ 140737488351232
theorem is24 : IsA Try.prog 24 c24 ok24 := (IsA.slice (T := tab) td24_ok rfl rfl td5_ok (by decide) is5).conv _ _ id (fun _ _ => rfl) (fun _ h => h) (fun _ => rfl) (fun _ => by rw [td24_ok.cellsOf]; rfl)
def r24 (x : (List Nat)) : D := d24 x
def d22 (xs : List (List Nat)) : D := .sl (xs.map r24)
def c22 (xs : List (List Nat)) : List D := [.sl (xs.map r24)]
def ok22 (xs : List (List Nat)) : Prop := (∀ x ∈ xs, ok24 x) ∧ xs.length * td24.bytes ≤ 140737488351232
theorem is22 : IsA Try.prog 22 c22 ok22 := (IsA.slice (T := tab) td22_ok rfl rfl td24_ok (by decide) is24).conv _ _ id (fun _ _ => rfl) (fun _ h => h) (fun _ => rfl) (fun _ => by rw [td22_ok.cellsOf]; rfl)
def r22 (x : (List (List Nat))) : D := d22 x
def d23 (n : Nat) : D := .int .u32 (n : Int)
def c23 (n : Nat) : List D := [.int .u32 (n : Int)]
def ok23 (n : Nat) : Prop := n < 4294967296
theorem is23 : IsA Try.prog 23 c23 ok23 := (IsA.nat td23_ok rfl rfl rfl).conv _ _ id (fun _ _ => rfl) (fun x hx => by have e : (IntKind.u32).max = 4294967295 := rfl; simp only [e] at hx; simp only [ok23, id]; omega) (fun _ => rfl) (fun _ => by rw [td23_ok.cellsOf]; rfl)
def r23 (x : Nat) : D := d23 x
def d3 (n : Int) : D := .int .i64 n
def c3 (n : Int) : List D := [.int .i64 n]
def ok3 (n : Int) : Prop := -9223372036854775808 ≤ n ∧ n < 9223372036854775808
theorem is3 : IsA Try.prog 3 c3 ok3 := (IsA.int td3_ok rfl rfl).conv _ _ id (fun _ _ => rfl) (fun x hx => by have e : (IntKind.i64).max = 9223372036854775807 := rfl; have e2 : (IntKind.i64).min = -9223372036854775808 := rfl; simp only [e, e2] at hx; simp only [ok3, id]; omega) (fun _ => rfl) (fun _ => by rw [td3_ok.cellsOf]; rfl)
def r3 (x : Int) : D := d3 x
structure T39 where
  at_ : Int
  by_ : Nat
def c40 (x : T39) : List D := [d3 x.at_, d5 x.by_]
def d40 (x : T39) : D := .agg (c40 x)
def ok40 (x : T39) : Prop := ok3 x.at_ ∧ ok5 x.by_
theorem is40 : IsA Try.prog 40 c40 ok40 := by
  have h0 := IsA.struct (tot := 1 + (1 + (0))) Try.underlying40 td40_ok.cellsOf (IsF.cons (by rfl) 1 td3_ok.cellsOf is3 (IsF.cons (by rfl) 1 td5_ok.cellsOf is5 IsF.nil))
  exact h0.conv c40 ok40 (fun x => ⟨x.1, x.2.1⟩) (fun _ _ => rfl) (fun _ h => ⟨h.1, h.2.1⟩) (fun _ => rfl) (fun _ => by rw [td40_ok.cellsOf]; rfl)
def r40 (x : T39) : D := .agg (c40 x)
end Go.Proofs.Ythlngafnlnincaa
