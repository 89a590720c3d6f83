/- What the laws of this seat are handed, as data. PRINTED by wip/gen/reads.py. -/
import Derived.Test.YtaolneejplmedaaT
import Derived.Test.YtaolneejplmedaaA24
namespace Go.Proofs.Ytaolneejplmedaa
open Go.A
set_option linter.unusedVariables false
def d3 (n : Int) : D := .int .i64 n
def c3 (n : Int) : List D := [.int .i64 n]
def ok3 (n : Int) : Prop := -9223372036854775808 ≤ n ∧ n < 9223372036854775808
theorem is3 : IsA Try.prog 3 c3 ok3 := (IsA.int td3_ok rfl rfl).conv _ _ id (fun _ _ => rfl) (fun x hx => by have e : (IntKind.i64).max = 9223372036854775807 := rfl; have e2 : (IntKind.i64).min = -9223372036854775808 := rfl; simp only [e, e2] at hx; simp only [ok3, id]; omega) (fun _ => rfl) (fun _ => by rw [td3_ok.cellsOf]; rfl)
def r3 (x : Int) : D := d3 x
structure T28 where
  off_ : Int
  len_ : Int
  phys_ : Int
  birth_ : Int
def c29 (x : T28) : List D := [d3 x.off_, d3 x.len_, d3 x.phys_, d3 x.birth_]
def d29 (x : T28) : D := .agg (c29 x)
def ok29 (x : T28) : Prop := ok3 x.off_ ∧ ok3 x.len_ ∧ ok3 x.phys_ ∧ ok3 x.birth_
theorem is29 : IsA Try.prog 29 c29 ok29 := by
  have h0 := IsA.struct (tot := 1 + (1 + (1 + (1 + (0))))) Try.underlying29 td29_ok.cellsOf (IsF.cons (by rfl) 1 td3_ok.cellsOf is3 (IsF.cons (by rfl) 1 td3_ok.cellsOf is3 (IsF.cons (by rfl) 1 td3_ok.cellsOf is3 (IsF.cons (by rfl) 1 td3_ok.cellsOf is3 IsF.nil))))
  exact h0.conv c29 ok29 (fun x => ⟨x.1, x.2.1, x.2.2.1, x.2.2.2.1⟩) (fun _ _ => rfl) (fun _ h => ⟨h.1, h.2.1, h.2.2.1, h.2.2.2.1⟩) (fun _ => rfl) (fun _ => by rw [td29_ok.cellsOf]; rfl)
def r29 (x : T28) : D := .agg (c29 x)
def d22 (xs : List T28) : D := .sl (xs.map r29)
def c22 (xs : List T28) : List D := [.sl (xs.map r29)]
def ok22 (xs : List T28) : Prop := (∀ x ∈ xs, ok29 x) ∧ xs.length * td29.bytes ≤ 140737488351232
theorem is22 : IsA Try.prog 22 c22 ok22 := (IsA.slice (T := tab) td22_ok rfl rfl td29_ok (by decide) is29).conv _ _ id (fun _ _ => rfl) (fun _ h => h) (fun _ => rfl) (fun _ => by rw [td22_ok.cellsOf]; rfl)
def r22 (x : (List T28)) : D := d22 x
end Go.Proofs.Ytaolneejplmedaa
