/- What the laws of this seat are handed, as data. PRINTED by wip/gen/reads.py. -/
import Derived.Test.YtlghefbapiocgaaT
import Derived.Test.YtlghefbapiocgaaA35
namespace Go.Proofs.Ytlghefbapiocgaa
open Go.A
set_option linter.unusedVariables false
def d3 (n : Int) : D := .int .i64 n
def c3 (n : Int) : List D := [.int .i64 n]
def ok3 (n : Int) : Prop := -9223372036854775808 ≤ n ∧ n < 9223372036854775808
theorem is3 : IsA Try.prog 3 c3 ok3 := (IsA.int td3_ok rfl rfl).conv _ _ id (fun _ _ => rfl) (fun x hx => by have e : (IntKind.i64).max = 9223372036854775807 := rfl; have e2 : (IntKind.i64).min = -9223372036854775808 := rfl; simp only [e, e2] at hx; simp only [ok3, id]; omega) (fun _ => rfl) (fun _ => by rw [td3_ok.cellsOf]; rfl)
def r3 (x : Int) : D := d3 x
structure T56 where
  off_ : Int
  len_ : Int
  phys_ : Int
  birth_ : Int
def c57 (x : T56) : List D := [d3 x.off_, d3 x.len_, d3 x.phys_, d3 x.birth_]
def d57 (x : T56) : D := .agg (c57 x)
def ok57 (x : T56) : Prop := ok3 x.off_ ∧ ok3 x.len_ ∧ ok3 x.phys_ ∧ ok3 x.birth_
theorem is57 : IsA Try.prog 57 c57 ok57 := by
  have h0 := IsA.struct (tot := 1 + (1 + (1 + (1 + (0))))) Try.underlying57 td57_ok.cellsOf (IsF.cons (by rfl) 1 td3_ok.cellsOf is3 (IsF.cons (by rfl) 1 td3_ok.cellsOf is3 (IsF.cons (by rfl) 1 td3_ok.cellsOf is3 (IsF.cons (by rfl) 1 td3_ok.cellsOf is3 IsF.nil))))
  exact h0.conv c57 ok57 (fun x => ⟨x.1, x.2.1, x.2.2.1, x.2.2.2.1⟩) (fun _ _ => rfl) (fun _ h => ⟨h.1, h.2.1, h.2.2.1, h.2.2.2.1⟩) (fun _ => rfl) (fun _ => by rw [td57_ok.cellsOf]; rfl)
def r57 (x : T56) : D := .agg (c57 x)
def d22 (xs : List T56) : D := .sl (xs.map r57)
def c22 (xs : List T56) : List D := [.sl (xs.map r57)]
def ok22 (xs : List T56) : Prop := (∀ x ∈ xs, ok57 x) ∧ xs.length * td57.bytes ≤ 140737488351232
theorem is22 : IsA Try.prog 22 c22 ok22 := (IsA.slice (T := tab) td22_ok rfl rfl td57_ok (by decide) is57).conv _ _ id (fun _ _ => rfl) (fun _ h => h) (fun _ => rfl) (fun _ => by rw [td22_ok.cellsOf]; rfl)
def r22 (x : (List T56)) : D := d22 x
def d51 (n : Nat) : D := .int .u64 (n : Int)
def c51 (n : Nat) : List D := [.int .u64 (n : Int)]
def ok51 (n : Nat) : Prop := n < 18446744073709551616
theorem is51 : IsA Try.prog 51 c51 ok51 := (IsA.nat td51_ok rfl rfl rfl).conv _ _ id (fun _ _ => rfl) (fun x hx => by have e : (IntKind.u64).max = 18446744073709551615 := rfl; simp only [e] at hx; simp only [ok51, id]; omega) (fun _ => rfl) (fun _ => by rw [td51_ok.cellsOf]; rfl)
def r51 (x : Nat) : D := d51 x
def d23 (xs : List Nat) : D := .sl (xs.map r51)
def c23 (xs : List Nat) : List D := [.sl (xs.map r51)]
def ok23 (xs : List Nat) : Prop := (∀ x ∈ xs, ok51 x) ∧ xs.length * td51.bytes ≤ 140737488351232
theorem is23 : IsA Try.prog 23 c23 ok23 := (IsA.slice (T := tab) td23_ok rfl rfl td51_ok (by decide) is51).conv _ _ id (fun _ _ => rfl) (fun _ h => h) (fun _ => rfl) (fun _ => by rw [td23_ok.cellsOf]; rfl)
def r23 (x : (List Nat)) : D := d23 x
structure T32 where
  a_ : (List T56)
  b_ : (List T56)
def c33 (x : T32) : List D := [d22 x.a_, d22 x.b_]
def d33 (x : T32) : D := .agg (c33 x)
def ok33 (x : T32) : Prop := ok22 x.a_ ∧ ok22 x.b_
theorem is33 : IsA Try.prog 33 c33 ok33 := by
  have h0 := IsA.struct (tot := 1 + (1 + (0))) Try.underlying33 td33_ok.cellsOf (IsF.cons (by rfl) 1 td22_ok.cellsOf is22 (IsF.cons (by rfl) 1 td22_ok.cellsOf is22 IsF.nil))
  exact h0.conv c33 ok33 (fun x => ⟨x.1, x.2.1⟩) (fun _ _ => rfl) (fun _ h => ⟨h.1, h.2.1⟩) (fun _ => rfl) (fun _ => by rw [td33_ok.cellsOf]; rfl)
def r33 (x : T32) : D := .agg (c33 x)
structure T52 where
  l_ : (List T56)
  gen_ : Int
def c53 (x : T52) : List D := [d22 x.l_, d3 x.gen_]
def d53 (x : T52) : D := .agg (c53 x)
def ok53 (x : T52) : Prop := ok22 x.l_ ∧ ok3 x.gen_
theorem is53 : IsA Try.prog 53 c53 ok53 := by
  have h0 := IsA.struct (tot := 1 + (1 + (0))) Try.underlying53 td53_ok.cellsOf (IsF.cons (by rfl) 1 td22_ok.cellsOf is22 (IsF.cons (by rfl) 1 td3_ok.cellsOf is3 IsF.nil))
  exact h0.conv c53 ok53 (fun x => ⟨x.1, x.2.1⟩) (fun _ _ => rfl) (fun _ h => ⟨h.1, h.2.1⟩) (fun _ => rfl) (fun _ => by rw [td53_ok.cellsOf]; rfl)
def r53 (x : T52) : D := .agg (c53 x)
def d4 (b : Bool) : D := .bool b
def c4 (b : Bool) : List D := [.bool b]
def ok4 (_ : Bool) : Prop := True
theorem is4 : IsA Try.prog 4 c4 ok4 := IsA.bool td4_ok rfl rfl
def r4 (x : Bool) : D := d4 x
structure T58 where
  cut_ : Bool
  x_ : T56
def c59 (x : T58) : List D := c4 x.cut_ ++ c57 x.x_
def d59 (x : T58) : D := .agg (c59 x)
def ok59 (x : T58) : Prop := ok4 x.cut_ ∧ ok57 x.x_
theorem is59 : IsA Try.prog 59 c59 ok59 := by
  have h0 := IsA.struct (tot := 1 + (4 + (0))) Try.underlying59 td59_ok.cellsOf (IsF.cons (by rfl) 1 td4_ok.cellsOf is4 (IsF.cons (by rfl) 4 td57_ok.cellsOf is57 IsF.nil))
  exact h0.conv c59 ok59 (fun x => ⟨x.1, x.2.1⟩) (fun _ _ => rfl) (fun _ h => ⟨h.1, h.2.1⟩) (fun _ => rfl) (fun _ => by rw [td59_ok.cellsOf]; rfl)
def r59 (x : T58) : D := .agg (c59 x)
def d54 (xs : List T58) : D := .sl (xs.map r59)
def c54 (xs : List T58) : List D := [.sl (xs.map r59)]
def ok54 (xs : List T58) : Prop := (∀ x ∈ xs, ok59 x) ∧ xs.length * td59.bytes ≤ 140737488351232
theorem is54 : IsA Try.prog 54 c54 ok54 := (IsA.slice (T := tab) td54_ok rfl rfl td59_ok (by decide) is59).conv _ _ id (fun _ _ => rfl) (fun _ h => h) (fun _ => rfl) (fun _ => by rw [td54_ok.cellsOf]; rfl)
def r54 (x : (List T58)) : D := d54 x
structure T72 where
  kind_ : Int
  off_ : Int
  len_ : Int
  data_ : (List Nat)
def c73 (x : T72) : List D := [d3 x.kind_, d3 x.off_, d3 x.len_, d23 x.data_]
def d73 (x : T72) : D := .agg (c73 x)
def ok73 (x : T72) : Prop := ok3 x.kind_ ∧ ok3 x.off_ ∧ ok3 x.len_ ∧ ok23 x.data_
theorem is73 : IsA Try.prog 73 c73 ok73 := by
  have h0 := IsA.struct (tot := 1 + (1 + (1 + (1 + (0))))) Try.underlying73 td73_ok.cellsOf (IsF.cons (by rfl) 1 td3_ok.cellsOf is3 (IsF.cons (by rfl) 1 td3_ok.cellsOf is3 (IsF.cons (by rfl) 1 td3_ok.cellsOf is3 (IsF.cons (by rfl) 1 td23_ok.cellsOf is23 IsF.nil))))
  exact h0.conv c73 ok73 (fun x => ⟨x.1, x.2.1, x.2.2.1, x.2.2.2.1⟩) (fun _ _ => rfl) (fun _ h => ⟨h.1, h.2.1, h.2.2.1, h.2.2.2.1⟩) (fun _ => rfl) (fun _ => by rw [td73_ok.cellsOf]; rfl)
def r73 (x : T72) : D := .agg (c73 x)
def d39 (xs : List T72) : D := .sl (xs.map r73)
def c39 (xs : List T72) : List D := [.sl (xs.map r73)]
def ok39 (xs : List T72) : Prop := (∀ x ∈ xs, ok73 x) ∧ xs.length * td73.bytes ≤ 140737488351232
theorem is39 : IsA Try.prog 39 c39 ok39 := (IsA.slice (T := tab) td39_ok rfl rfl td73_ok (by decide) is73).conv _ _ id (fun _ _ => rfl) (fun _ h => h) (fun _ => rfl) (fun _ => by rw [td39_ok.cellsOf]; rfl)
def r39 (x : (List T72)) : D := d39 x
structure T49 where
  from_ : Int
  to_ : Int
  node_ : Int
def c50 (x : T49) : List D := [d3 x.from_, d3 x.to_, d3 x.node_]
def d50 (x : T49) : D := .agg (c50 x)
def ok50 (x : T49) : Prop := ok3 x.from_ ∧ ok3 x.to_ ∧ ok3 x.node_
theorem is50 : IsA Try.prog 50 c50 ok50 := by
  have h0 := IsA.struct (tot := 1 + (1 + (1 + (0)))) Try.underlying50 td50_ok.cellsOf (IsF.cons (by rfl) 1 td3_ok.cellsOf is3 (IsF.cons (by rfl) 1 td3_ok.cellsOf is3 (IsF.cons (by rfl) 1 td3_ok.cellsOf is3 IsF.nil)))
  exact h0.conv c50 ok50 (fun x => ⟨x.1, x.2.1, x.2.2.1⟩) (fun _ _ => rfl) (fun _ h => ⟨h.1, h.2.1, h.2.2.1⟩) (fun _ => rfl) (fun _ => by rw [td50_ok.cellsOf]; rfl)
def r50 (x : T49) : D := .agg (c50 x)
def d34 (xs : List T49) : D := .sl (xs.map r50)
def c34 (xs : List T49) : List D := [.sl (xs.map r50)]
def ok34 (xs : List T49) : Prop := (∀ x ∈ xs, ok50 x) ∧ xs.length * td50.bytes ≤ 140737488351232
theorem is34 : IsA Try.prog 34 c34 ok34 := (IsA.slice (T := tab) td34_ok rfl rfl td50_ok (by decide) is50).conv _ _ id (fun _ _ => rfl) (fun _ h => h) (fun _ => rfl) (fun _ => by rw [td34_ok.cellsOf]; rfl)
def r34 (x : (List T49)) : D := d34 x
end Go.Proofs.Ytlghefbapiocgaa
