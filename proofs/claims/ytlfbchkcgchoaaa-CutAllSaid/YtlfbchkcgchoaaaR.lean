/- What the laws of this seat are handed, as data. PRINTED by wip/gen/reads.py. -/
import Derived.Test.YtlfbchkcgchoaaaT
import Derived.Test.YtlfbchkcgchoaaaA35
namespace Go.Proofs.Ytlfbchkcgchoaaa
open Go.A
set_option linter.unusedVariables false
def d3 (n : Int) : D := .int .i64 n
def c3 (n : Int) : List D := [.int .i64 n]
def ok3 (n : Int) : Prop := -9223372036854775808 ≤ n ∧ n < 9223372036854775808
theorem is3 : IsA Try.prog 3 c3 ok3 := (IsA.int td3_ok rfl rfl).conv _ _ id (fun _ _ => rfl) (fun x hx => by have e : (IntKind.i64).max = 9223372036854775807 := rfl; have e2 : (IntKind.i64).min = -9223372036854775808 := rfl; simp only [e, e2] at hx; simp only [ok3, id]; omega) (fun _ => rfl) (fun _ => by rw [td3_ok.cellsOf]; rfl)
def r3 (x : Int) : D := d3 x
structure T22 where
  from_ : Int
  to_ : Int
def c23 (x : T22) : List D := [d3 x.from_, d3 x.to_]
def d23 (x : T22) : D := .agg (c23 x)
def ok23 (x : T22) : Prop := ok3 x.from_ ∧ ok3 x.to_
theorem is23 : IsA Try.prog 23 c23 ok23 := by
  have h0 := IsA.struct (tot := 1 + (1 + (0))) Try.underlying23 td23_ok.cellsOf (IsF.cons (by rfl) 1 td3_ok.cellsOf is3 (IsF.cons (by rfl) 1 td3_ok.cellsOf is3 IsF.nil))
  exact h0.conv c23 ok23 (fun x => ⟨x.1, x.2.1⟩) (fun _ _ => rfl) (fun _ h => ⟨h.1, h.2.1⟩) (fun _ => rfl) (fun _ => by rw [td23_ok.cellsOf]; rfl)
def r23 (x : T22) : D := .agg (c23 x)
def d53 (n : Nat) : D := .int .u64 (n : Int)
def c53 (n : Nat) : List D := [.int .u64 (n : Int)]
def ok53 (n : Nat) : Prop := n < 18446744073709551616
theorem is53 : IsA Try.prog 53 c53 ok53 := (IsA.nat td53_ok rfl rfl rfl).conv _ _ id (fun _ _ => rfl) (fun x hx => by have e : (IntKind.u64).max = 18446744073709551615 := rfl; simp only [e] at hx; simp only [ok53, id]; omega) (fun _ => rfl) (fun _ => by rw [td53_ok.cellsOf]; rfl)
def r53 (x : Nat) : D := d53 x
def d34 (xs : List Nat) : D := .sl (xs.map r53)
def c34 (xs : List Nat) : List D := [.sl (xs.map r53)]
def ok34 (xs : List Nat) : Prop := (∀ x ∈ xs, ok53 x) ∧ xs.length * td53.bytes ≤ 140737488351232
theorem is34 : IsA Try.prog 34 c34 ok34 := (IsA.slice (T := tab) td34_ok rfl rfl td53_ok (by decide) is53).conv _ _ id (fun _ _ => rfl) (fun _ h => h) (fun _ => rfl) (fun _ => by rw [td34_ok.cellsOf]; rfl)
def r34 (x : (List Nat)) : D := d34 x
structure T38 where
  kind_ : Int
  off_ : Int
  len_ : Int
  data_ : (List Nat)
def c39 (x : T38) : List D := [d3 x.kind_, d3 x.off_, d3 x.len_, d34 x.data_]
def d39 (x : T38) : D := .agg (c39 x)
def ok39 (x : T38) : Prop := ok3 x.kind_ ∧ ok3 x.off_ ∧ ok3 x.len_ ∧ ok34 x.data_
theorem is39 : IsA Try.prog 39 c39 ok39 := by
  have h0 := IsA.struct (tot := 1 + (1 + (1 + (1 + (0))))) Try.underlying39 td39_ok.cellsOf (IsF.cons (by rfl) 1 td3_ok.cellsOf is3 (IsF.cons (by rfl) 1 td3_ok.cellsOf is3 (IsF.cons (by rfl) 1 td3_ok.cellsOf is3 (IsF.cons (by rfl) 1 td34_ok.cellsOf is34 IsF.nil))))
  exact h0.conv c39 ok39 (fun x => ⟨x.1, x.2.1, x.2.2.1, x.2.2.2.1⟩) (fun _ _ => rfl) (fun _ h => ⟨h.1, h.2.1, h.2.2.1, h.2.2.2.1⟩) (fun _ => rfl) (fun _ => by rw [td39_ok.cellsOf]; rfl)
def r39 (x : T38) : D := .agg (c39 x)
structure T41 where
  op_ : T38
  start_ : Int
  end_ : Int
def c42 (x : T41) : List D := c39 x.op_ ++ c3 x.start_ ++ c3 x.end_
def d42 (x : T41) : D := .agg (c42 x)
def ok42 (x : T41) : Prop := ok39 x.op_ ∧ ok3 x.start_ ∧ ok3 x.end_
theorem is42 : IsA Try.prog 42 c42 ok42 := by
  have h0 := IsA.struct (tot := 4 + (1 + (1 + (0)))) Try.underlying42 td42_ok.cellsOf (IsF.cons (by rfl) 4 td39_ok.cellsOf is39 (IsF.cons (by rfl) 1 td3_ok.cellsOf is3 (IsF.cons (by rfl) 1 td3_ok.cellsOf is3 IsF.nil)))
  exact h0.conv c42 ok42 (fun x => ⟨x.1, x.2.1, x.2.2.1⟩) (fun _ _ => rfl) (fun _ h => ⟨h.1, h.2.1, h.2.2.1⟩) (fun _ => rfl) (fun _ => by rw [td42_ok.cellsOf]; rfl)
def r42 (x : T41) : D := .agg (c42 x)
def d24 (xs : List T41) : D := .sl (xs.map r42)
def c24 (xs : List T41) : List D := [.sl (xs.map r42)]
def ok24 (xs : List T41) : Prop := (∀ x ∈ xs, ok42 x) ∧ xs.length * td42.bytes ≤ 140737488351232
theorem is24 : IsA Try.prog 24 c24 ok24 := (IsA.slice (T := tab) td24_ok rfl rfl td42_ok (by decide) is42).conv _ _ id (fun _ _ => rfl) (fun _ h => h) (fun _ => rfl) (fun _ => by rw [td24_ok.cellsOf]; rfl)
def r24 (x : (List T41)) : D := d24 x
def d5 (n : Nat) : D := .int .u8 (n : Int)
def c5 (n : Nat) : List D := [.int .u8 (n : Int)]
def ok5 (n : Nat) : Prop := n < 256
theorem is5 : IsA Try.prog 5 c5 ok5 := (IsA.nat td5_ok rfl rfl rfl).conv _ _ id (fun _ _ => rfl) (fun x hx => by have e : (IntKind.u8).max = 255 := rfl; simp only [e] at hx; simp only [ok5, id]; omega) (fun _ => rfl) (fun _ => by rw [td5_ok.cellsOf]; rfl)
def r5 (x : Nat) : D := d5 x
def d37 (xs : List T38) : D := .sl (xs.map r39)
def c37 (xs : List T38) : List D := [.sl (xs.map r39)]
def ok37 (xs : List T38) : Prop := (∀ x ∈ xs, ok39 x) ∧ xs.length * td39.bytes ≤ 140737488351232
theorem is37 : IsA Try.prog 37 c37 ok37 := (IsA.slice (T := tab) td37_ok rfl rfl td39_ok (by decide) is39).conv _ _ id (fun _ _ => rfl) (fun _ h => h) (fun _ => rfl) (fun _ => by rw [td37_ok.cellsOf]; rfl)
def r37 (x : (List T38)) : D := d37 x
structure T48 where
  a0_ : T22
  a1_ : T22
def c48 (x : T48) : List D := c23 x.a0_ ++ c23 x.a1_
def d48 (x : T48) : D := .agg (c48 x)
def ok48 (x : T48) : Prop := ok23 x.a0_ ∧ ok23 x.a1_
theorem is48 : IsA Try.prog 48 c48 ok48 := by
  have h0 := IsA.array (tot := 2 + (2 + (0))) [fieldOf 23 0, fieldOf 23 2] Try.underlying48 td48_ok.cellsOf rfl (fun i f h => by
    rw [td23_ok.cellsOf]
    match i, h with
    | 0, h => simp at h; subst h; exact ⟨rfl, rfl⟩
    | 1, h => simp at h; subst h; exact ⟨rfl, rfl⟩
    | i + 2, h => simp at h) (IsF.cons (f := fieldOf 23 0) rfl 2 td23_ok.cellsOf is23 (IsF.cons (f := fieldOf 23 2) rfl 2 td23_ok.cellsOf is23 IsF.nil))
  exact h0.conv c48 ok48 (fun x => ⟨x.1, x.2.1⟩) (fun _ _ => rfl) (fun _ h => ⟨h.1, h.2.1⟩) (fun _ => rfl) (fun _ => by rw [td48_ok.cellsOf]; rfl)
def r48 (x : T48) : D := .agg (c48 x)
def d25 (xs : List (List Nat)) : D := .sl (xs.map r34)
def c25 (xs : List (List Nat)) : List D := [.sl (xs.map r34)]
def ok25 (xs : List (List Nat)) : Prop := (∀ x ∈ xs, ok34 x) ∧ xs.length * td34.bytes ≤ 140737488351232
theorem is25 : IsA Try.prog 25 c25 ok25 := (IsA.slice (T := tab) td25_ok rfl rfl td34_ok (by decide) is34).conv _ _ id (fun _ _ => rfl) (fun _ h => h) (fun _ => rfl) (fun _ => by rw [td25_ok.cellsOf]; rfl)
def r25 (x : (List (List Nat))) : D := d25 x
end Go.Proofs.Ytlfbchkcgchoaaa
