/- What the laws of this seat are handed, as data. PRINTED by wip/gen/reads.py. -/
import Derived.Test.YtgigpjkdfhhahaaT
import Derived.Test.YtgigpjkdfhhahaaA35
namespace Go.Proofs.Ytgigpjkdfhhahaa
open Go.A
set_option linter.unusedVariables false
def d56 (n : Nat) : D := .int .u64 (n : Int)
def c56 (n : Nat) : List D := [.int .u64 (n : Int)]
def ok56 (n : Nat) : Prop := n < 18446744073709551616
theorem is56 : IsA Try.prog 56 c56 ok56 := (IsA.nat td56_ok rfl rfl rfl).conv _ _ id (fun _ _ => rfl) (fun x hx => by have e : (IntKind.u64).max = 18446744073709551615 := rfl; simp only [e] at hx; simp only [ok56, id]; omega) (fun _ => rfl) (fun _ => by rw [td56_ok.cellsOf]; rfl)
def r56 (x : Nat) : D := d56 x
def d35 (xs : List Nat) : D := .sl (xs.map r56)
def c35 (xs : List Nat) : List D := [.sl (xs.map r56)]
def ok35 (xs : List Nat) : Prop := (∀ x ∈ xs, ok56 x) ∧ xs.length * td56.bytes ≤ 140737488351232
theorem is35 : IsA Try.prog 35 c35 ok35 := (IsA.slice (T := tab) td35_ok rfl rfl td56_ok (by decide) is56).conv _ _ id (fun _ _ => rfl) (fun _ h => h) (fun _ => rfl) (fun _ => by rw [td35_ok.cellsOf]; rfl)
def r35 (x : (List Nat)) : D := d35 x
def d3 (n : Int) : D := .int .i64 n
def c3 (n : Int) : List D := [.int .i64 n]
def ok3 (n : Int) : Prop := -9223372036854775808 ≤ n ∧ n < 9223372036854775808
theorem is3 : IsA Try.prog 3 c3 ok3 := (IsA.int td3_ok rfl rfl).conv _ _ id (fun _ _ => rfl) (fun x hx => by have e : (IntKind.i64).max = 9223372036854775807 := rfl; have e2 : (IntKind.i64).min = -9223372036854775808 := rfl; simp only [e, e2] at hx; simp only [ok3, id]; omega) (fun _ => rfl) (fun _ => by rw [td3_ok.cellsOf]; rfl)
def r3 (x : Int) : D := d3 x
structure T90 where
  kind_ : Int
  off_ : Int
  len_ : Int
  data_ : (List Nat)
def c91 (x : T90) : List D := [d3 x.kind_, d3 x.off_, d3 x.len_, d35 x.data_]
def d91 (x : T90) : D := .agg (c91 x)
def ok91 (x : T90) : Prop := ok3 x.kind_ ∧ ok3 x.off_ ∧ ok3 x.len_ ∧ ok35 x.data_
theorem is91 : IsA Try.prog 91 c91 ok91 := by
  have h0 := IsA.struct (tot := 1 + (1 + (1 + (1 + (0))))) Try.underlying91 td91_ok.cellsOf (IsF.cons (by rfl) 1 td3_ok.cellsOf is3 (IsF.cons (by rfl) 1 td3_ok.cellsOf is3 (IsF.cons (by rfl) 1 td3_ok.cellsOf is3 (IsF.cons (by rfl) 1 td35_ok.cellsOf is35 IsF.nil))))
  exact h0.conv c91 ok91 (fun x => ⟨x.1, x.2.1, x.2.2.1, x.2.2.2.1⟩) (fun _ _ => rfl) (fun _ h => ⟨h.1, h.2.1, h.2.2.1, h.2.2.2.1⟩) (fun _ => rfl) (fun _ => by rw [td91_ok.cellsOf]; rfl)
def r91 (x : T90) : D := .agg (c91 x)
def d37 (xs : List T90) : D := .sl (xs.map r91)
def c37 (xs : List T90) : List D := [.sl (xs.map r91)]
def ok37 (xs : List T90) : Prop := (∀ x ∈ xs, ok91 x) ∧ xs.length * td91.bytes ≤ 140737488351232
theorem is37 : IsA Try.prog 37 c37 ok37 := (IsA.slice (T := tab) td37_ok rfl rfl td91_ok (by decide) is91).conv _ _ id (fun _ _ => rfl) (fun _ h => h) (fun _ => rfl) (fun _ => by rw [td37_ok.cellsOf]; rfl)
def r37 (x : (List T90)) : D := d37 x
structure T43 where
  kind_ : Int
  shard_ : Int
  snap_ : Int
  base_ : Int
  map_ : Int
  off_ : Int
  len_ : Int
  data_ : (List Nat)
def c44 (x : T43) : List D := [d3 x.kind_, d3 x.shard_, d3 x.snap_, d3 x.base_, d3 x.map_, d3 x.off_, d3 x.len_, d35 x.data_]
def d44 (x : T43) : D := .agg (c44 x)
def ok44 (x : T43) : Prop := ok3 x.kind_ ∧ ok3 x.shard_ ∧ ok3 x.snap_ ∧ ok3 x.base_ ∧ ok3 x.map_ ∧ ok3 x.off_ ∧ ok3 x.len_ ∧ ok35 x.data_
theorem is44 : IsA Try.prog 44 c44 ok44 := by
  have h0 := IsA.struct (tot := 1 + (1 + (1 + (1 + (1 + (1 + (1 + (1 + (0))))))))) Try.underlying44 td44_ok.cellsOf (IsF.cons (by rfl) 1 td3_ok.cellsOf is3 (IsF.cons (by rfl) 1 td3_ok.cellsOf is3 (IsF.cons (by rfl) 1 td3_ok.cellsOf is3 (IsF.cons (by rfl) 1 td3_ok.cellsOf is3 (IsF.cons (by rfl) 1 td3_ok.cellsOf is3 (IsF.cons (by rfl) 1 td3_ok.cellsOf is3 (IsF.cons (by rfl) 1 td3_ok.cellsOf is3 (IsF.cons (by rfl) 1 td35_ok.cellsOf is35 IsF.nil))))))))
  exact h0.conv c44 ok44 (fun x => ⟨x.1, x.2.1, x.2.2.1, x.2.2.2.1, x.2.2.2.2.1, x.2.2.2.2.2.1, x.2.2.2.2.2.2.1, x.2.2.2.2.2.2.2.1⟩) (fun _ _ => rfl) (fun _ h => ⟨h.1, h.2.1, h.2.2.1, h.2.2.2.1, h.2.2.2.2.1, h.2.2.2.2.2.1, h.2.2.2.2.2.2.1, h.2.2.2.2.2.2.2.1⟩) (fun _ => rfl) (fun _ => by rw [td44_ok.cellsOf]; rfl)
def r44 (x : T43) : D := .agg (c44 x)
def d40 (xs : List T43) : D := .sl (xs.map r44)
def c40 (xs : List T43) : List D := [.sl (xs.map r44)]
def ok40 (xs : List T43) : Prop := (∀ x ∈ xs, ok44 x) ∧ xs.length * td44.bytes ≤ 140737488351232
theorem is40 : IsA Try.prog 40 c40 ok40 := (IsA.slice (T := tab) td40_ok rfl rfl td44_ok (by decide) is44).conv _ _ id (fun _ _ => rfl) (fun _ h => h) (fun _ => rfl) (fun _ => by rw [td40_ok.cellsOf]; rfl)
def r40 (x : (List T43)) : D := d40 x
structure T50 where
  from_ : Int
  to_ : Int
  node_ : Int
def c51 (x : T50) : List D := [d3 x.from_, d3 x.to_, d3 x.node_]
def d51 (x : T50) : D := .agg (c51 x)
def ok51 (x : T50) : Prop := ok3 x.from_ ∧ ok3 x.to_ ∧ ok3 x.node_
theorem is51 : IsA Try.prog 51 c51 ok51 := by
  have h0 := IsA.struct (tot := 1 + (1 + (1 + (0)))) Try.underlying51 td51_ok.cellsOf (IsF.cons (by rfl) 1 td3_ok.cellsOf is3 (IsF.cons (by rfl) 1 td3_ok.cellsOf is3 (IsF.cons (by rfl) 1 td3_ok.cellsOf is3 IsF.nil)))
  exact h0.conv c51 ok51 (fun x => ⟨x.1, x.2.1, x.2.2.1⟩) (fun _ _ => rfl) (fun _ h => ⟨h.1, h.2.1, h.2.2.1⟩) (fun _ => rfl) (fun _ => by rw [td51_ok.cellsOf]; rfl)
def r51 (x : T50) : D := .agg (c51 x)
def d22 (xs : List T50) : D := .sl (xs.map r51)
def c22 (xs : List T50) : List D := [.sl (xs.map r51)]
def ok22 (xs : List T50) : Prop := (∀ x ∈ xs, ok51 x) ∧ xs.length * td51.bytes ≤ 140737488351232
theorem is22 : IsA Try.prog 22 c22 ok22 := (IsA.slice (T := tab) td22_ok rfl rfl td51_ok (by decide) is51).conv _ _ id (fun _ _ => rfl) (fun _ h => h) (fun _ => rfl) (fun _ => by rw [td22_ok.cellsOf]; rfl)
def r22 (x : (List T50)) : D := d22 x
structure T23 where
  version_ : Int
  n_ : Int
  pieces_ : (List T50)
def c24 (x : T23) : List D := [d3 x.version_, d3 x.n_, d22 x.pieces_]
def d24 (x : T23) : D := .agg (c24 x)
def ok24 (x : T23) : Prop := ok3 x.version_ ∧ ok3 x.n_ ∧ ok22 x.pieces_
theorem is24 : IsA Try.prog 24 c24 ok24 := by
  have h0 := IsA.struct (tot := 1 + (1 + (1 + (0)))) Try.underlying24 td24_ok.cellsOf (IsF.cons (by rfl) 1 td3_ok.cellsOf is3 (IsF.cons (by rfl) 1 td3_ok.cellsOf is3 (IsF.cons (by rfl) 1 td22_ok.cellsOf is22 IsF.nil)))
  exact h0.conv c24 ok24 (fun x => ⟨x.1, x.2.1, x.2.2.1⟩) (fun _ _ => rfl) (fun _ h => ⟨h.1, h.2.1, h.2.2.1⟩) (fun _ => rfl) (fun _ => by rw [td24_ok.cellsOf]; rfl)
def r24 (x : T23) : D := .agg (c24 x)
def c33 (x : T23) : List D := [d3 x.version_, d3 x.n_, d22 x.pieces_]
def d33 (x : T23) : D := .agg (c33 x)
def ok33 (x : T23) : Prop := ok3 x.version_ ∧ ok3 x.n_ ∧ ok22 x.pieces_
theorem is33 : IsA Try.prog 33 c33 ok33 := by
  have h0 := IsA.struct (tot := 1 + (1 + (1 + (0)))) Try.underlying33 td33_ok.cellsOf (IsF.cons (by rfl) 1 td3_ok.cellsOf is3 (IsF.cons (by rfl) 1 td3_ok.cellsOf is3 (IsF.cons (by rfl) 1 td22_ok.cellsOf is22 IsF.nil)))
  exact h0.conv c33 ok33 (fun x => ⟨x.1, x.2.1, x.2.2.1⟩) (fun _ _ => rfl) (fun _ h => ⟨h.1, h.2.1, h.2.2.1⟩) (fun _ => rfl) (fun _ => by rw [td33_ok.cellsOf]; rfl)
def r33 (x : T23) : D := .agg (c33 x)
structure T38 where
  node_ : Int
  ops_ : (List T90)
def c39 (x : T38) : List D := [d3 x.node_, d37 x.ops_]
def d39 (x : T38) : D := .agg (c39 x)
def ok39 (x : T38) : Prop := ok3 x.node_ ∧ ok37 x.ops_
theorem is39 : IsA Try.prog 39 c39 ok39 := by
  have h0 := IsA.struct (tot := 1 + (1 + (0))) Try.underlying39 td39_ok.cellsOf (IsF.cons (by rfl) 1 td3_ok.cellsOf is3 (IsF.cons (by rfl) 1 td37_ok.cellsOf is37 IsF.nil))
  exact h0.conv c39 ok39 (fun x => ⟨x.1, x.2.1⟩) (fun _ _ => rfl) (fun _ h => ⟨h.1, h.2.1⟩) (fun _ => rfl) (fun _ => by rw [td39_ok.cellsOf]; rfl)
def r39 (x : T38) : D := .agg (c39 x)
def d25 (xs : List T38) : D := .sl (xs.map r39)
def c25 (xs : List T38) : List D := [.sl (xs.map r39)]
def ok25 (xs : List T38) : Prop := (∀ x ∈ xs, ok39 x) ∧ xs.length * td39.bytes ≤ 140737488351232
theorem is25 : IsA Try.prog 25 c25 ok25 := (IsA.slice (T := tab) td25_ok rfl rfl td39_ok (by decide) is39).conv _ _ id (fun _ _ => rfl) (fun _ h => h) (fun _ => rfl) (fun _ => by rw [td25_ok.cellsOf]; rfl)
def r25 (x : (List T38)) : D := d25 x
def d5 (n : Nat) : D := .int .u8 (n : Int)
def c5 (n : Nat) : List D := [.int .u8 (n : Int)]
def ok5 (n : Nat) : Prop := n < 256
theorem is5 : IsA Try.prog 5 c5 ok5 := (IsA.nat td5_ok rfl rfl rfl).conv _ _ id (fun _ _ => rfl) (fun x hx => by have e : (IntKind.u8).max = 255 := rfl; simp only [e] at hx; simp only [ok5, id]; omega) (fun _ => rfl) (fun _ => by rw [td5_ok.cellsOf]; rfl)
def r5 (x : Nat) : D := d5 x
structure T61 where
  kind_ : Nat
  node_ : Int
  i_ : Int
  r_ : T43
  m_ : T23
def c62 (x : T61) : List D := c5 x.kind_ ++ c3 x.node_ ++ c3 x.i_ ++ c44 x.r_ ++ c24 x.m_
def d62 (x : T61) : D := .agg (c62 x)
def ok62 (x : T61) : Prop := ok5 x.kind_ ∧ ok3 x.node_ ∧ ok3 x.i_ ∧ ok44 x.r_ ∧ ok24 x.m_
theorem is62 : IsA Try.prog 62 c62 ok62 := by
  have h0 := IsA.struct (tot := 1 + (1 + (1 + (8 + (3 + (0)))))) Try.underlying62 td62_ok.cellsOf (IsF.cons (by rfl) 1 td5_ok.cellsOf is5 (IsF.cons (by rfl) 1 td3_ok.cellsOf is3 (IsF.cons (by rfl) 1 td3_ok.cellsOf is3 (IsF.cons (by rfl) 8 td44_ok.cellsOf is44 (IsF.cons (by rfl) 3 td24_ok.cellsOf is24 IsF.nil)))))
  exact h0.conv c62 ok62 (fun x => ⟨x.1, x.2.1, x.2.2.1, x.2.2.2.1, x.2.2.2.2.1⟩) (fun _ _ => rfl) (fun _ h => ⟨h.1, h.2.1, h.2.2.1, h.2.2.2.1, h.2.2.2.2.1⟩) (fun _ => rfl) (fun _ => by rw [td62_ok.cellsOf]; rfl)
def r62 (x : T61) : D := .agg (c62 x)
def d59 (xs : List T61) : D := .sl (xs.map r62)
def c59 (xs : List T61) : List D := [.sl (xs.map r62)]
def ok59 (xs : List T61) : Prop := (∀ x ∈ xs, ok62 x) ∧ xs.length * td62.bytes ≤ 140737488351232
theorem is59 : IsA Try.prog 59 c59 ok59 := (IsA.slice (T := tab) td59_ok rfl rfl td62_ok (by decide) is62).conv _ _ id (fun _ _ => rfl) (fun _ h => h) (fun _ => rfl) (fun _ => by rw [td59_ok.cellsOf]; rfl)
def r59 (x : (List T61)) : D := d59 x
structure T70 where
  a0_ : Int
  a1_ : Int
def c70 (x : T70) : List D := [d3 x.a0_, d3 x.a1_]
def d70 (x : T70) : D := .agg (c70 x)
def ok70 (x : T70) : Prop := ok3 x.a0_ ∧ ok3 x.a1_
theorem is70 : IsA Try.prog 70 c70 ok70 := by
  have h0 := IsA.array (tot := 1 + (1 + (0))) [fieldOf 3 0, fieldOf 3 1] Try.underlying70 td70_ok.cellsOf rfl (fun i f h => by
    rw [td3_ok.cellsOf]
    match i, h with
    | 0, h => simp at h; subst h; exact ⟨rfl, rfl⟩
    | 1, h => simp at h; subst h; exact ⟨rfl, rfl⟩
    | i + 2, h => simp at h) (IsF.cons (f := fieldOf 3 0) rfl 1 td3_ok.cellsOf is3 (IsF.cons (f := fieldOf 3 1) rfl 1 td3_ok.cellsOf is3 IsF.nil))
  exact h0.conv c70 ok70 (fun x => ⟨x.1, x.2.1⟩) (fun _ _ => rfl) (fun _ h => ⟨h.1, h.2.1⟩) (fun _ => rfl) (fun _ => by rw [td70_ok.cellsOf]; rfl)
def r70 (x : T70) : D := .agg (c70 x)
def d52 (xs : List Int) : D := .sl (xs.map r3)
def c52 (xs : List Int) : List D := [.sl (xs.map r3)]
def ok52 (xs : List Int) : Prop := (∀ x ∈ xs, ok3 x) ∧ xs.length * td3.bytes ≤ 140737488351232
theorem is52 : IsA Try.prog 52 c52 ok52 := (IsA.slice (T := tab) td52_ok rfl rfl td3_ok (by decide) is3).conv _ _ id (fun _ _ => rfl) (fun _ h => h) (fun _ => rfl) (fun _ => by rw [td52_ok.cellsOf]; rfl)
def r52 (x : (List Int)) : D := d52 x
end Go.Proofs.Ytgigpjkdfhhahaa
