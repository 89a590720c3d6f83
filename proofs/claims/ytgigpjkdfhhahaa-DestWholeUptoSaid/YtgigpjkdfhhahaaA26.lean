/- A logic of abstract states, part 26: whole numbers. -/
import Derived.Test.YtgigpjkdfhhahaaA25
namespace Go.A
set_option linter.unusedVariables false
set_option linter.unusedSimpArgs false

theorem w64 {z : Int} (h1 : -9223372036854775808 ≤ z) (h2 : z < 9223372036854775808) : z = IntKind.i64.wrap z := by
  simp [IntKind.wrap, IntKind.bits, IntKind.signed]
  omega

theorem u8w {z : Nat} (h : z < 256) : (z : Int) = IntKind.u8.wrap z := by
  simp [IntKind.wrap, IntKind.bits, IntKind.signed]
  omega
theorem u8m {z : Nat} : ((z % 256 : Nat) : Int) = IntKind.u8.wrap z := by
  simp [IntKind.wrap, IntKind.bits, IntKind.signed]
theorem u16w {z : Nat} (h : z < 65536) : (z : Int) = IntKind.u16.wrap z := by
  simp [IntKind.wrap, IntKind.bits, IntKind.signed]
  omega
theorem u32w {z : Nat} (h : z < 4294967296) : (z : Int) = IntKind.u32.wrap z := by
  simp [IntKind.wrap, IntKind.bits, IntKind.signed]
  omega
theorem u32m {z : Nat} : ((z % 4294967296 : Nat) : Int) = IntKind.u32.wrap z := by
  simp [IntKind.wrap, IntKind.bits, IntKind.signed]
theorem u64w {z : Nat} (h : z < 18446744073709551616) : (z : Int) = IntKind.u64.wrap z := by
  simp [IntKind.wrap, IntKind.bits, IntKind.signed]
  omega
theorem u64i {z : Int} (h0 : 0 ≤ z) (h : z < 18446744073709551616) : (z.toNat : Int) = IntKind.u64.wrap z := by
  simp [IntKind.wrap, IntKind.bits, IntKind.signed]
  omega

theorem u8add {m n : Nat} (h : m + n < 256) : ((m + n : Nat) : Int) = IntKind.u8.wrap ((m : Int) + (n : Int)) := by
  simp [IntKind.wrap, IntKind.bits, IntKind.signed]
  omega
theorem u32add {m n : Nat} (h : m + n < 4294967296) : ((m + n : Nat) : Int) = IntKind.u32.wrap ((m : Int) + (n : Int)) := by
  simp [IntKind.wrap, IntKind.bits, IntKind.signed]
  omega
theorem u64add {m n : Nat} (h : m + n < 18446744073709551616) : ((m + n : Nat) : Int) = IntKind.u64.wrap ((m : Int) + (n : Int)) := by
  simp [IntKind.wrap, IntKind.bits, IntKind.signed]
  omega
theorem u32sub {m n : Nat} (h : n ≤ m) (h2 : m < 4294967296) : ((m - n : Nat) : Int) = IntKind.u32.wrap ((m : Int) - (n : Int)) := by
  simp [IntKind.wrap, IntKind.bits, IntKind.signed]
  omega
theorem u64sub {m n : Nat} (h : n ≤ m) (h2 : m < 18446744073709551616) : ((m - n : Nat) : Int) = IntKind.u64.wrap ((m : Int) - (n : Int)) := by
  simp [IntKind.wrap, IntKind.bits, IntKind.signed]
  omega
theorem u32mul {m n : Nat} (h : m * n < 4294967296) : ((m * n : Nat) : Int) = IntKind.u32.wrap ((m : Int) * (n : Int)) := by
  rw [← Int.natCast_mul]
  exact u32w h
theorem u64mul {m n : Nat} (h : m * n < 18446744073709551616) : ((m * n : Nat) : Int) = IntKind.u64.wrap ((m : Int) * (n : Int)) := by
  rw [← Int.natCast_mul]
  exact u64w h

theorem bitsI_nat {k : IntKind} {m n : Nat} (hm : m < 2 ^ k.bits) (hn : n < 2 ^ k.bits) (hk : kU k = true) :
    ((m &&& n : Nat) : Int) = bitsI .and k m n ∧ ((m ||| n : Nat) : Int) = bitsI .or k m n ∧ ((m ^^^ n : Nat) : Int) = bitsI .xor k m n := by
  have w : ∀ z : Nat, z < 2 ^ k.bits → (z : Int) = k.wrap z := fun z hz => by
    cases k <;> simp [kU] at hk <;> simp [IntKind.bits] at hz
    · exact u8w hz
    · exact u16w hz
    · exact u32w hz
    · exact u64w hz
  have e : ∀ z : Nat, z < 2 ^ k.bits → (BitVec.ofInt k.bits (z : Int)).toNat = z := fun z hz => by
    simp
    exact Nat.mod_eq_of_lt hz
  refine ⟨?_, ?_, ?_⟩
  · simp only [bitsI, BitVec.toNat_and, e m hm, e n hn]
    exact w _ (Nat.and_lt_two_pow _ hn)
  · simp only [bitsI, BitVec.toNat_or, e m hm, e n hn]
    exact w _ (Nat.or_lt_two_pow hm hn)
  · simp only [bitsI, BitVec.toNat_xor, e m hm, e n hn]
    exact w _ (Nat.xor_lt_two_pow hm hn)

theorem u32and {m n : Nat} (hm : m < 4294967296) (hn : n < 4294967296) : ((m &&& n : Nat) : Int) = bitsI .and .u32 m n := (bitsI_nat (k := .u32) hm hn rfl).1
theorem u32or {m n : Nat} (hm : m < 4294967296) (hn : n < 4294967296) : ((m ||| n : Nat) : Int) = bitsI .or .u32 m n := (bitsI_nat (k := .u32) hm hn rfl).2.1
theorem u32xor {m n : Nat} (hm : m < 4294967296) (hn : n < 4294967296) : ((m ^^^ n : Nat) : Int) = bitsI .xor .u32 m n := (bitsI_nat (k := .u32) hm hn rfl).2.2
theorem u8xor {m n : Nat} (hm : m < 256) (hn : n < 256) : ((m ^^^ n : Nat) : Int) = bitsI .xor .u8 m n := (bitsI_nat (k := .u8) hm hn rfl).2.2
theorem u64and {m n : Nat} (hm : m < 18446744073709551616) (hn : n < 18446744073709551616) : ((m &&& n : Nat) : Int) = bitsI .and .u64 m n := (bitsI_nat (k := .u64) hm hn rfl).1
theorem u64or {m n : Nat} (hm : m < 18446744073709551616) (hn : n < 18446744073709551616) : ((m ||| n : Nat) : Int) = bitsI .or .u64 m n := (bitsI_nat (k := .u64) hm hn rfl).2.1
theorem u64xor {m n : Nat} (hm : m < 18446744073709551616) (hn : n < 18446744073709551616) : ((m ^^^ n : Nat) : Int) = bitsI .xor .u64 m n := (bitsI_nat (k := .u64) hm hn rfl).2.2

theorem min_int {a b : Nat} : ((min a b : Nat) : Int) = if (b : Int) < (a : Int) then (b : Int) else (a : Int) := by
  split <;> omega
theorem max_int {a b : Nat} : ((max a b : Nat) : Int) = if (b : Int) > (a : Int) then (b : Int) else (a : Int) := by
  split <;> omega

theorem cells_map {α : Type} {f : α → D} {l : List α} {sz : Nat} (h : ∀ x, (f x).cells.length = sz) : ∀ y ∈ l.map f, y.cells.length = sz := fun y hy => by
  obtain ⟨x, _, rfl⟩ := List.mem_map.mp hy
  exact h x
theorem rows_map {α : Type} {f : α → D} {l : List α} {sz : Nat} (h : ∀ x, (f x).cells.length = sz) (h2 : ∀ x, (f x).cells.all D.one = true) : okRows sz (l.map f) := fun y hy => by
  obtain ⟨x, _, rfl⟩ := List.mem_map.mp hy
  exact ⟨h x, h2 x⟩
theorem map_slice {α β : Type} {f : α → β} {l : List α} {m q : Nat} : ((l.drop m).take (q - m)).map f = ((l.map f).drop m).take (q - m) := by
  rw [List.map_take, List.map_drop]
theorem map_full {α : Type} {xs : List α} : xs = (xs.drop 0).take xs.length := by simp
theorem map_full' {α β : Type} {f : α → β} {l : List α} : l.map f = ((l.map f).drop 0).take l.length := by
  rw [List.drop_zero, List.take_of_length_le (by simp)]
theorem map_snoc {α β : Type} {f : α → β} {l : List α} {x : α} : (l ++ [x]).map f = l.map f ++ [f x] := by simp
theorem len_one {α : Type} {n : Nat} {y : α} : n + 1 = n + [y].length := rfl
theorem map_get {α β : Type} {f : α → β} {l : List α} {i : Nat} {x : α} (h : l[i]? = some x) : (l.map f)[i]? = some (f x) := by simp [h]
theorem at_lt {α : Type} {l : List α} {i : Nat} (h : i < l.length) : ∃ x, l[i]? = some x := ⟨l[i], List.getElem?_eq_getElem h⟩

/-- A state told as a list of slots: that two are alike. -/
theorem st_eq {s s' : List D} {H H' : List AObj} (h1 : s = s') (h2 : H = H') : (⟨s, H⟩ : St) = ⟨s', H'⟩ := by rw [h1, h2]
theorem cons_eq {α : Type} {a b : α} {l m : List α} (h1 : a = b) (h2 : l = m) : a :: l = b :: m := by rw [h1, h2]

end Go.A
