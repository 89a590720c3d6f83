/- What the laws of this seat are handed, as data. PRINTED by wip/gen/reads.py. -/
import Derived.Test.YtgcbeibemomhcaaT
import Derived.Test.YtgcbeibemomhcaaA35
namespace Go.Proofs.Ytgcbeibemomhcaa
open Go.A
set_option linter.unusedVariables false
def d45 (n : Nat) : D := .int .u64 (n : Int)
def c45 (n : Nat) : List D := [.int .u64 (n : Int)]
def ok45 (n : Nat) : Prop := n < 18446744073709551616
theorem is45 : IsA Try.prog 45 c45 ok45 := (IsA.nat td45_ok rfl rfl rfl).conv _ _ id (fun _ _ => rfl) (fun x hx => by have e : (IntKind.u64).max = 18446744073709551615 := rfl; simp only [e] at hx; simp only [ok45, id]; omega) (fun _ => rfl) (fun _ => by rw [td45_ok.cellsOf]; rfl)
def r45 (x : Nat) : D := d45 x
def d22 (xs : List Nat) : D := .sl (xs.map r45)
def c22 (xs : List Nat) : List D := [.sl (xs.map r45)]
def ok22 (xs : List Nat) : Prop := (∀ x ∈ xs, ok45 x) ∧ xs.length * td45.bytes ≤ 140737488351232
theorem is22 : IsA Try.prog 22 c22 ok22 := (IsA.slice (T := tab) td22_ok rfl rfl td45_ok (by decide) is45).conv _ _ id (fun _ _ => rfl) (fun _ h => h) (fun _ => rfl) (fun _ => by rw [td22_ok.cellsOf]; rfl)
def r22 (x : (List Nat)) : D := d22 x
def d3 (n : Int) : D := .int .i64 n
def c3 (n : Int) : List D := [.int .i64 n]
def ok3 (n : Int) : Prop := -9223372036854775808 ≤ n ∧ n < 9223372036854775808
theorem is3 : IsA Try.prog 3 c3 ok3 := (IsA.int td3_ok rfl rfl).conv _ _ id (fun _ _ => rfl) (fun x hx => by have e : (IntKind.i64).max = 9223372036854775807 := rfl; have e2 : (IntKind.i64).min = -9223372036854775808 := rfl; simp only [e, e2] at hx; simp only [ok3, id]; omega) (fun _ => rfl) (fun _ => by rw [td3_ok.cellsOf]; rfl)
def r3 (x : Int) : D := d3 x
structure T33 where
  kind_ : Int
  off_ : Int
  len_ : Int
  data_ : (List Nat)
def c34 (x : T33) : List D := [d3 x.kind_, d3 x.off_, d3 x.len_, d22 x.data_]
def d34 (x : T33) : D := .agg (c34 x)
def ok34 (x : T33) : Prop := ok3 x.kind_ ∧ ok3 x.off_ ∧ ok3 x.len_ ∧ ok22 x.data_
theorem is34 : IsA Try.prog 34 c34 ok34 := by
  have h0 := IsA.struct (tot := 1 + (1 + (1 + (1 + (0))))) Try.underlying34 td34_ok.cellsOf (IsF.cons (by rfl) 1 td3_ok.cellsOf is3 (IsF.cons (by rfl) 1 td3_ok.cellsOf is3 (IsF.cons (by rfl) 1 td3_ok.cellsOf is3 (IsF.cons (by rfl) 1 td22_ok.cellsOf is22 IsF.nil))))
  exact h0.conv c34 ok34 (fun x => ⟨x.1, x.2.1, x.2.2.1, x.2.2.2.1⟩) (fun _ _ => rfl) (fun _ h => ⟨h.1, h.2.1, h.2.2.1, h.2.2.2.1⟩) (fun _ => rfl) (fun _ => by rw [td34_ok.cellsOf]; rfl)
def r34 (x : T33) : D := .agg (c34 x)
def d23 (xs : List T33) : D := .sl (xs.map r34)
def c23 (xs : List T33) : List D := [.sl (xs.map r34)]
def ok23 (xs : List T33) : Prop := (∀ x ∈ xs, ok34 x) ∧ xs.length * td34.bytes ≤ 140737488351232
theorem is23 : IsA Try.prog 23 c23 ok23 := (IsA.slice (T := tab) td23_ok rfl rfl td34_ok (by decide) is34).conv _ _ id (fun _ _ => rfl) (fun _ h => h) (fun _ => rfl) (fun _ => by rw [td23_ok.cellsOf]; rfl)
def r23 (x : (List T33)) : D := d23 x
structure T37 where
  a0_ : (List Nat)
  a1_ : (List Nat)
def c37 (x : T37) : List D := [d22 x.a0_, d22 x.a1_]
def d37 (x : T37) : D := .agg (c37 x)
def ok37 (x : T37) : Prop := ok22 x.a0_ ∧ ok22 x.a1_
theorem is37 : IsA Try.prog 37 c37 ok37 := by
  have h0 := IsA.array (tot := 1 + (1 + (0))) [fieldOf 22 0, fieldOf 22 1] Try.underlying37 td37_ok.cellsOf rfl (fun i f h => by
    rw [td22_ok.cellsOf]
    match i, h with
    | 0, h => simp at h; subst h; exact ⟨rfl, rfl⟩
    | 1, h => simp at h; subst h; exact ⟨rfl, rfl⟩
    | i + 2, h => simp at h) (IsF.cons (f := fieldOf 22 0) rfl 1 td22_ok.cellsOf is22 (IsF.cons (f := fieldOf 22 1) rfl 1 td22_ok.cellsOf is22 IsF.nil))
  exact h0.conv c37 ok37 (fun x => ⟨x.1, x.2.1⟩) (fun _ _ => rfl) (fun _ h => ⟨h.1, h.2.1⟩) (fun _ => rfl) (fun _ => by rw [td37_ok.cellsOf]; rfl)
def r37 (x : T37) : D := .agg (c37 x)
end Go.Proofs.Ytgcbeibemomhcaa
