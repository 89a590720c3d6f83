/- What the laws of this seat are handed, as data. PRINTED by wip/gen/reads.py. -/
import Derived.Test.YtjoeonhmejnkmaaT
import Derived.Test.YtjoeonhmejnkmaaA35
namespace Go.Proofs.Ytjoeonhmejnkmaa
open Go.A
set_option linter.unusedVariables false
def d3 (n : Int) : D := .int .i64 n
def c3 (n : Int) : List D := [.int .i64 n]
def ok3 (n : Int) : Prop := -9223372036854775808 ≤ n ∧ n < 9223372036854775808
theorem is3 : IsA Try.prog 3 c3 ok3 := (IsA.int td3_ok rfl rfl).conv _ _ id (fun _ _ => rfl) (fun x hx => by have e : (IntKind.i64).max = 9223372036854775807 := rfl; have e2 : (IntKind.i64).min = -9223372036854775808 := rfl; simp only [e, e2] at hx; simp only [ok3, id]; omega) (fun _ => rfl) (fun _ => by rw [td3_ok.cellsOf]; rfl)
def r3 (x : Int) : D := d3 x
structure T22 where
  a0_ : Int
  a1_ : Int
  a2_ : Int
def c22 (x : T22) : List D := [d3 x.a0_, d3 x.a1_, d3 x.a2_]
def d22 (x : T22) : D := .agg (c22 x)
def ok22 (x : T22) : Prop := ok3 x.a0_ ∧ ok3 x.a1_ ∧ ok3 x.a2_
theorem is22 : IsA Try.prog 22 c22 ok22 := by
  have h0 := IsA.array (tot := 1 + (1 + (1 + (0)))) [fieldOf 3 0, fieldOf 3 1, fieldOf 3 2] Try.underlying22 td22_ok.cellsOf rfl (fun i f h => by
    rw [td3_ok.cellsOf]
    match i, h with
    | 0, h => simp at h; subst h; exact ⟨rfl, rfl⟩
    | 1, h => simp at h; subst h; exact ⟨rfl, rfl⟩
    | 2, h => simp at h; subst h; exact ⟨rfl, rfl⟩
    | i + 3, h => simp at h) (IsF.cons (f := fieldOf 3 0) rfl 1 td3_ok.cellsOf is3 (IsF.cons (f := fieldOf 3 1) rfl 1 td3_ok.cellsOf is3 (IsF.cons (f := fieldOf 3 2) rfl 1 td3_ok.cellsOf is3 IsF.nil)))
  exact h0.conv c22 ok22 (fun x => ⟨x.1, x.2.1, x.2.2.1⟩) (fun _ _ => rfl) (fun _ h => ⟨h.1, h.2.1, h.2.2.1⟩) (fun _ => rfl) (fun _ => by rw [td22_ok.cellsOf]; rfl)
def r22 (x : T22) : D := .agg (c22 x)
def d5 (n : Nat) : D := .int .u8 (n : Int)
def c5 (n : Nat) : List D := [.int .u8 (n : Int)]
def ok5 (n : Nat) : Prop := n < 256
theorem is5 : IsA Try.prog 5 c5 ok5 := (IsA.nat td5_ok rfl rfl rfl).conv _ _ id (fun _ _ => rfl) (fun x hx => by have e : (IntKind.u8).max = 255 := rfl; simp only [e] at hx; simp only [ok5, id]; omega) (fun _ => rfl) (fun _ => by rw [td5_ok.cellsOf]; rfl)
def r5 (x : Nat) : D := d5 x
def d63 (n : Nat) : D := .int .u64 (n : Int)
def c63 (n : Nat) : List D := [.int .u64 (n : Int)]
def ok63 (n : Nat) : Prop := n < 18446744073709551616
theorem is63 : IsA Try.prog 63 c63 ok63 := (IsA.nat td63_ok rfl rfl rfl).conv _ _ id (fun _ _ => rfl) (fun x hx => by have e : (IntKind.u64).max = 18446744073709551615 := rfl; simp only [e] at hx; simp only [ok63, id]; omega) (fun _ => rfl) (fun _ => by rw [td63_ok.cellsOf]; rfl)
def r63 (x : Nat) : D := d63 x
def d24 (xs : List Nat) : D := .sl (xs.map r63)
def c24 (xs : List Nat) : List D := [.sl (xs.map r63)]
def ok24 (xs : List Nat) : Prop := (∀ x ∈ xs, ok63 x) ∧ xs.length * td63.bytes ≤ 140737488351232
theorem is24 : IsA Try.prog 24 c24 ok24 := (IsA.slice (T := tab) td24_ok rfl rfl td63_ok (by decide) is63).conv _ _ id (fun _ _ => rfl) (fun _ h => h) (fun _ => rfl) (fun _ => by rw [td24_ok.cellsOf]; rfl)
def r24 (x : (List Nat)) : D := d24 x
structure T25 where
  kind_ : Int
  shard_ : Int
  snap_ : Int
  base_ : Int
  map_ : Int
  off_ : Int
  len_ : Int
  data_ : (List Nat)
def c26 (x : T25) : List D := [d3 x.kind_, d3 x.shard_, d3 x.snap_, d3 x.base_, d3 x.map_, d3 x.off_, d3 x.len_, d24 x.data_]
def d26 (x : T25) : D := .agg (c26 x)
def ok26 (x : T25) : Prop := ok3 x.kind_ ∧ ok3 x.shard_ ∧ ok3 x.snap_ ∧ ok3 x.base_ ∧ ok3 x.map_ ∧ ok3 x.off_ ∧ ok3 x.len_ ∧ ok24 x.data_
theorem is26 : IsA Try.prog 26 c26 ok26 := by
  have h0 := IsA.struct (tot := 1 + (1 + (1 + (1 + (1 + (1 + (1 + (1 + (0))))))))) Try.underlying26 td26_ok.cellsOf (IsF.cons (by rfl) 1 td3_ok.cellsOf is3 (IsF.cons (by rfl) 1 td3_ok.cellsOf is3 (IsF.cons (by rfl) 1 td3_ok.cellsOf is3 (IsF.cons (by rfl) 1 td3_ok.cellsOf is3 (IsF.cons (by rfl) 1 td3_ok.cellsOf is3 (IsF.cons (by rfl) 1 td3_ok.cellsOf is3 (IsF.cons (by rfl) 1 td3_ok.cellsOf is3 (IsF.cons (by rfl) 1 td24_ok.cellsOf is24 IsF.nil))))))))
  exact h0.conv c26 ok26 (fun x => ⟨x.1, x.2.1, x.2.2.1, x.2.2.2.1, x.2.2.2.2.1, x.2.2.2.2.2.1, x.2.2.2.2.2.2.1, x.2.2.2.2.2.2.2.1⟩) (fun _ _ => rfl) (fun _ h => ⟨h.1, h.2.1, h.2.2.1, h.2.2.2.1, h.2.2.2.2.1, h.2.2.2.2.2.1, h.2.2.2.2.2.2.1, h.2.2.2.2.2.2.2.1⟩) (fun _ => rfl) (fun _ => by rw [td26_ok.cellsOf]; rfl)
def r26 (x : T25) : D := .agg (c26 x)
structure T32 where
  kind_ : Nat
  i_ : Int
  r_ : T25
def c33 (x : T32) : List D := c5 x.kind_ ++ c3 x.i_ ++ c26 x.r_
def d33 (x : T32) : D := .agg (c33 x)
def ok33 (x : T32) : Prop := ok5 x.kind_ ∧ ok3 x.i_ ∧ ok26 x.r_
theorem is33 : IsA Try.prog 33 c33 ok33 := by
  have h0 := IsA.struct (tot := 1 + (1 + (8 + (0)))) Try.underlying33 td33_ok.cellsOf (IsF.cons (by rfl) 1 td5_ok.cellsOf is5 (IsF.cons (by rfl) 1 td3_ok.cellsOf is3 (IsF.cons (by rfl) 8 td26_ok.cellsOf is26 IsF.nil)))
  exact h0.conv c33 ok33 (fun x => ⟨x.1, x.2.1, x.2.2.1⟩) (fun _ _ => rfl) (fun _ h => ⟨h.1, h.2.1, h.2.2.1⟩) (fun _ => rfl) (fun _ => by rw [td33_ok.cellsOf]; rfl)
def r33 (x : T32) : D := .agg (c33 x)
def d23 (xs : List T32) : D := .sl (xs.map r33)
def c23 (xs : List T32) : List D := [.sl (xs.map r33)]
def ok23 (xs : List T32) : Prop := (∀ x ∈ xs, ok33 x) ∧ xs.length * td33.bytes ≤ 140737488351232
theorem is23 : IsA Try.prog 23 c23 ok23 := (IsA.slice (T := tab) td23_ok rfl rfl td33_ok (by decide) is33).conv _ _ id (fun _ _ => rfl) (fun _ h => h) (fun _ => rfl) (fun _ => by rw [td23_ok.cellsOf]; rfl)
def r23 (x : (List T32)) : D := d23 x
structure T68 where
  kind_ : Int
  off_ : Int
  len_ : Int
  data_ : (List Nat)
def c69 (x : T68) : List D := [d3 x.kind_, d3 x.off_, d3 x.len_, d24 x.data_]
def d69 (x : T68) : D := .agg (c69 x)
def ok69 (x : T68) : Prop := ok3 x.kind_ ∧ ok3 x.off_ ∧ ok3 x.len_ ∧ ok24 x.data_
theorem is69 : IsA Try.prog 69 c69 ok69 := by
  have h0 := IsA.struct (tot := 1 + (1 + (1 + (1 + (0))))) Try.underlying69 td69_ok.cellsOf (IsF.cons (by rfl) 1 td3_ok.cellsOf is3 (IsF.cons (by rfl) 1 td3_ok.cellsOf is3 (IsF.cons (by rfl) 1 td3_ok.cellsOf is3 (IsF.cons (by rfl) 1 td24_ok.cellsOf is24 IsF.nil))))
  exact h0.conv c69 ok69 (fun x => ⟨x.1, x.2.1, x.2.2.1, x.2.2.2.1⟩) (fun _ _ => rfl) (fun _ h => ⟨h.1, h.2.1, h.2.2.1, h.2.2.2.1⟩) (fun _ => rfl) (fun _ => by rw [td69_ok.cellsOf]; rfl)
def r69 (x : T68) : D := .agg (c69 x)
def d42 (xs : List T68) : D := .sl (xs.map r69)
def c42 (xs : List T68) : List D := [.sl (xs.map r69)]
def ok42 (xs : List T68) : Prop := (∀ x ∈ xs, ok69 x) ∧ xs.length * td69.bytes ≤ 140737488351232
theorem is42 : IsA Try.prog 42 c42 ok42 := (IsA.slice (T := tab) td42_ok rfl rfl td69_ok (by decide) is69).conv _ _ id (fun _ _ => rfl) (fun _ h => h) (fun _ => rfl) (fun _ => by rw [td42_ok.cellsOf]; rfl)
def r42 (x : (List T68)) : D := d42 x
structure T50 where
  at_ : Nat
  then_ : Nat
def c51 (x : T50) : List D := [d5 x.at_, d5 x.then_]
def d51 (x : T50) : D := .agg (c51 x)
def ok51 (x : T50) : Prop := ok5 x.at_ ∧ ok5 x.then_
theorem is51 : IsA Try.prog 51 c51 ok51 := by
  have h0 := IsA.struct (tot := 1 + (1 + (0))) Try.underlying51 td51_ok.cellsOf (IsF.cons (by rfl) 1 td5_ok.cellsOf is5 (IsF.cons (by rfl) 1 td5_ok.cellsOf is5 IsF.nil))
  exact h0.conv c51 ok51 (fun x => ⟨x.1, x.2.1⟩) (fun _ _ => rfl) (fun _ h => ⟨h.1, h.2.1⟩) (fun _ => rfl) (fun _ => by rw [td51_ok.cellsOf]; rfl)
def r51 (x : T50) : D := .agg (c51 x)
def d47 (xs : List T50) : D := .sl (xs.map r51)
def c47 (xs : List T50) : List D := [.sl (xs.map r51)]
def ok47 (xs : List T50) : Prop := (∀ x ∈ xs, ok51 x) ∧ xs.length * td51.bytes ≤ 140737488351232
theorem is47 : IsA Try.prog 47 c47 ok47 := (IsA.slice (T := tab) td47_ok rfl rfl td51_ok (by decide) is51).conv _ _ id (fun _ _ => rfl) (fun _ h => h) (fun _ => rfl) (fun _ => by rw [td47_ok.cellsOf]; rfl)
def r47 (x : (List T50)) : D := d47 x
def d53 (xs : List Nat) : D := .sl (xs.map r5)
def c53 (xs : List Nat) : List D := [.sl (xs.map r5)]
def ok53 (xs : List Nat) : Prop := (∀ x ∈ xs, ok5 x) ∧ xs.length * td5.bytes ≤ 140737488351232
theorem is53 : IsA Try.prog 53 c53 ok53 := (IsA.slice (T := tab) td53_ok rfl rfl td5_ok (by decide) is5).conv _ _ id (fun _ _ => rfl) (fun _ h => h) (fun _ => rfl) (fun _ => by rw [td53_ok.cellsOf]; rfl)
def r53 (x : (List Nat)) : D := d53 x
def d43 (xs : List T25) : D := .sl (xs.map r26)
def c43 (xs : List T25) : List D := [.sl (xs.map r26)]
def ok43 (xs : List T25) : Prop := (∀ x ∈ xs, ok26 x) ∧ xs.length * td26.bytes ≤ 140737488351232
theorem is43 : IsA Try.prog 43 c43 ok43 := (IsA.slice (T := tab) td43_ok rfl rfl td26_ok (by decide) is26).conv _ _ id (fun _ _ => rfl) (fun _ h => h) (fun _ => rfl) (fun _ => by rw [td43_ok.cellsOf]; rfl)
def r43 (x : (List T25)) : D := d43 x
end Go.Proofs.Ytjoeonhmejnkmaa
