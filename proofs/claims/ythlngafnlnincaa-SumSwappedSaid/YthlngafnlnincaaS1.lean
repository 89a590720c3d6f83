import Derived.Test.YthlngafnlnincaaR
import Derived.Test.YthlngafnlnincaaA29
namespace Go.Proofs.Ythlngafnlnincaa
open Go.A
set_option linter.unusedVariables false
set_option linter.unusedSimpArgs false
set_option linter.unnecessarySimpa false
attribute [local irreducible] IntKind.wrap bitsI
set_option maxRecDepth 100000

def stepS (p : Nat × Nat) (x : Nat) : Nat × Nat := ((p.1 + x) % 65521, (p.2 + (p.1 + x) % 65521) % 65521)
def sum0 (s : Nat) : Nat × Nat := (s % 65536 % 65521, s / 65536 % 65521)
def sumS (s : Nat) (b : List Nat) : Nat × Nat := b.foldl stepS (sum0 s)
def moreS (s : Nat) (b : List Nat) : Nat := (sumS s b).2 * 65536 + (sumS s b).1

theorem sum0_lt (s : Nat) : (sum0 s).1 < 65521 ∧ (sum0 s).2 < 65521 := by
  simp only [sum0]; omega

theorem stepS_lt (p : Nat × Nat) (x : Nat) : (stepS p x).1 < 65521 ∧ (stepS p x).2 < 65521 := by
  simp only [stepS]; omega

theorem foldS_lt : ∀ (b : List Nat) (p : Nat × Nat), p.1 < 65521 ∧ p.2 < 65521 → (b.foldl stepS p).1 < 65521 ∧ (b.foldl stepS p).2 < 65521
  | [], p, h => h
  | x :: b, p, h => foldS_lt b _ (stepS_lt p x)

theorem sumS_lt (s : Nat) (b : List Nat) : (sumS s b).1 < 65521 ∧ (sumS s b).2 < 65521 := foldS_lt b _ (sum0_lt s)

theorem moreS_lt (s : Nat) (b : List Nat) : moreS s b < 4294967296 := by
  have := sumS_lt s b
  simp only [moreS]; omega

theorem sumS_take (s : Nat) {b : List Nat} {i x : Nat} (h : b[i]? = some x) : sumS s (b.take (i + 1)) = stepS (sumS s (b.take i)) x := by
  obtain ⟨h1, h2⟩ := List.getElem?_eq_some_iff.mp h
  subst h2
  rw [List.take_succ_eq_append_getElem h1]
  rw [sumS, List.foldl_append]
  rfl

def okB (b : List Nat) : Prop := (∀ x ∈ b, ok5 x) ∧ b.length ≤ 140737488355328
def okBs (ps : List (List Nat)) : Prop := (∀ x ∈ ps, okB x) ∧ ps.length * td24.bytes ≤ 140737488351232
theorem ok24.b {b : List Nat} (h : ok24 b) : okB b := ⟨h.1, by have := h.2; simp [td5] at this; omega⟩
theorem ok22.b {ps : List (List Nat)} (h : ok22 ps) : okBs ps := ⟨fun x hx => ok24.b (h.1 x hx), h.2⟩

theorem f13_ok (s : Nat) (b : List Nat) (hs : ok23 s) (hb : okB b) : Pure Try.prog 13 [d23 s, d24 b] (d23 (moreS s b)) := by
  have hlen : b.length ≤ 140737488355328 := hb.2
  refine Pure.of ⟨trivial, (by simp [d24, D.sc, scs_map, r5, d5]), trivial⟩ trivial ?_
  refine CallsIn.of_exec tab_ok mixed Try.func13 rfl rfl [] [] ?_
  simp only [ok23] at hs
  repeat (conv => whnf
          first
            | refine PairK.mk (by kernel_rfl) ?_
            | refine And.intro (by decide) ?_
            | refine And.intro rfl ?_
            | refine And.intro (List.cons_ne_nil _ _) ?_
            | refine And.intro (Nat.le_of_ble_eq_true rfl) ?_
            | refine And.intro (by omega) ?_
            | refine And.intro (by simp only [List.length_map, List.length_append, List.length_cons, List.length_nil]; omega) ?_
            | refine And.intro (by simpa only [List.length_map, List.length_append, List.length_cons, List.length_nil] using rfl) ?_
            | refine And.intro (Eq.symm (List.length_map _)) ?_
            | refine And.intro (all_map (fun _ => rfl)) ?_
            | refine And.intro (cells_map (fun _ => rfl)) ?_
            | refine And.intro (rows_map (fun _ => rfl) (fun _ => rfl)) ?_
            | refine And.intro (okRows_one rfl rfl) ?_
            | refine And.intro (okRows_all rfl) ?_
            | refine boolF_t (beq_self_eq_true _) ?_
            | refine Exists.intro _ (And.intro (map_get (by assumption)) ?_)
            | refine Exists.intro _ (And.intro (Eq.refl (α := Option D) _) ?_)
            | refine Exists.intro _ (And.intro (⟨(List.length_map _).symm⟩) ?_)
            | refine Exists.intro _ (And.intro (⟨len_one⟩) ?_)
            | refine Exists.intro _ (And.intro (⟨len_two⟩) ?_)
            | refine Exists.intro _ (And.intro (⟨len_three⟩) ?_)
            | refine Exists.intro _ (And.intro (⟨len_four⟩) ?_)
            | refine Exists.intro _ (And.intro (⟨lenl_1⟩) ?_)
            | refine Exists.intro _ (And.intro (⟨lenl_2⟩) ?_)
            | refine Exists.intro _ (And.intro (⟨lenl_3⟩) ?_)
            | refine Exists.intro _ (And.intro (⟨lenl_4⟩) ?_)
            | refine Exists.intro _ (And.intro (⟨len_more⟩) ?_)
            | refine Exists.intro _ (And.intro (⟨map_slice⟩) ?_)
            | refine Exists.intro _ (And.intro (⟨List.map_take⟩) ?_)
            | refine Exists.intro _ (And.intro (⟨List.map_drop⟩) ?_)
            | refine Exists.intro _ (And.intro (⟨map_full'⟩) ?_)
            | refine Exists.intro _ (And.intro (⟨map_full⟩) ?_)
            | refine Exists.intro _ (And.intro (⟨map_snoc⟩) ?_)
            | refine Exists.intro _ (And.intro (⟨List.map_append⟩) ?_)
            | refine Exists.intro _ (And.intro (⟨Eq.refl (α := List D) _⟩) ?_)
            | refine Exists.intro _ (And.intro (⟨Eq.refl (α := Int) _⟩) (And.intro (by omega) ?_))
            | refine Exists.intro (0) (And.intro (⟨rfl⟩) (And.intro (Nat.zero_le _) ?_))
            | refine Exists.intro _ (And.intro (⟨nc1⟩) (And.intro (by omega) ?_))
            | refine Exists.intro _ (Exists.intro _ (And.intro (⟨Eq.refl (α := Int) _⟩) (And.intro (⟨Eq.refl (α := Int) _⟩) (And.intro (by omega) (And.intro (by omega) ?_)))))
            | refine Exists.intro _ (Exists.intro _ (And.intro (⟨Eq.refl (α := Nat) _⟩) (And.intro (⟨Eq.refl (α := Nat) _⟩) ?_)))
            | refine Exists.intro _ (And.intro (⟨Eq.refl (α := Nat) _⟩) ?_)
            | refine Exists.intro _ (And.intro (u32and (by omega) (by omega)) ?_)
            | refine Exists.intro _ (And.intro (u32or (by omega) (by omega)) ?_)
            | refine Exists.intro _ (And.intro (u32xor (by omega) (by omega)) ?_)
            | refine Exists.intro _ (And.intro (u8xor (by omega) (by omega)) ?_)
            | refine Exists.intro _ (And.intro (u64and (by omega) (by omega)) ?_)
            | refine Exists.intro _ (And.intro (u64or (by omega) (by omega)) ?_)
            | refine Exists.intro _ (And.intro (u64xor (by omega) (by omega)) ?_)
            | refine Exists.intro _ (And.intro (w64 (by omega) (by omega)) ?_)
            | refine Exists.intro _ (And.intro (u32add (by omega)) ?_)
            | refine Exists.intro _ (And.intro (u64add (by omega)) ?_)
            | refine Exists.intro _ (And.intro (u8w (by omega)) ?_)
            | refine Exists.intro _ (And.intro (u32w (by omega)) ?_)
            | refine Exists.intro _ (And.intro (u64w (by omega)) ?_)
            | refine Exists.intro _ (And.intro (u8m) ?_)
            | refine Exists.intro _ (And.intro (u64i (by omega) (by omega)) ?_)
            | refine Exists.intro _ (And.intro (min_int) ?_)
            | refine Exists.intro _ (And.intro (max_int) ?_)
            | refine Exists.intro _ (And.intro (imin) ?_)
            | refine Exists.intro _ (And.intro (imax) ?_))
  conv => whnf
  refine W_loop (ι := Nat) [1, 5, 6, 7] (fun i => ⟨(D.undef :: d24 b :: D.undef :: D.undef :: D.undef :: d23 (sumS s (b.take i)).1 :: d23 (sumS s (b.take i)).2 :: .int .i64 (i : Int) :: D.undef :: D.undef :: D.undef :: D.undef :: D.undef :: D.undef :: D.undef :: D.undef :: D.undef :: D.undef :: D.undef :: D.undef :: D.undef :: D.undef :: D.undef :: D.undef :: D.undef :: D.undef :: D.undef :: D.undef :: D.undef :: D.undef :: D.undef :: D.undef :: D.undef :: D.undef :: D.undef :: D.undef :: []), []⟩) (fun i => b.length - i) (fun i => i ≤ b.length) 0 ?_ (Nat.zero_le _) ?_
  · rfl
  · intro i hi
    have hlt := sumS_lt s (b.take i)
    refine exec_ok tab_ok mixed 1000 (bx := []) (own := []) ?_
    repeat (conv => whnf
            first
              | refine PairK.mk (by kernel_rfl) ?_
              | refine And.intro (by decide) ?_
              | refine And.intro rfl ?_
              | refine And.intro (List.cons_ne_nil _ _) ?_
              | refine And.intro (Nat.le_of_ble_eq_true rfl) ?_
              | refine And.intro (by omega) ?_
              | refine And.intro (by simp only [List.length_map, List.length_append, List.length_cons, List.length_nil]; omega) ?_
              | refine And.intro (by simpa only [List.length_map, List.length_append, List.length_cons, List.length_nil] using rfl) ?_
              | refine And.intro (Eq.symm (List.length_map _)) ?_
              | refine And.intro (all_map (fun _ => rfl)) ?_
              | refine And.intro (cells_map (fun _ => rfl)) ?_
              | refine And.intro (rows_map (fun _ => rfl) (fun _ => rfl)) ?_
              | refine And.intro (okRows_one rfl rfl) ?_
              | refine And.intro (okRows_all rfl) ?_
              | refine boolF_t (beq_self_eq_true _) ?_
              | refine Exists.intro _ (And.intro (map_get (by assumption)) ?_)
              | refine Exists.intro _ (And.intro (Eq.refl (α := Option D) _) ?_)
              | refine Exists.intro _ (And.intro (⟨(List.length_map _).symm⟩) ?_)
              | refine Exists.intro _ (And.intro (⟨len_one⟩) ?_)
              | refine Exists.intro _ (And.intro (⟨len_two⟩) ?_)
              | refine Exists.intro _ (And.intro (⟨len_three⟩) ?_)
              | refine Exists.intro _ (And.intro (⟨len_four⟩) ?_)
              | refine Exists.intro _ (And.intro (⟨lenl_1⟩) ?_)
              | refine Exists.intro _ (And.intro (⟨lenl_2⟩) ?_)
              | refine Exists.intro _ (And.intro (⟨lenl_3⟩) ?_)
              | refine Exists.intro _ (And.intro (⟨lenl_4⟩) ?_)
              | refine Exists.intro _ (And.intro (⟨len_more⟩) ?_)
              | refine Exists.intro _ (And.intro (⟨map_slice⟩) ?_)
              | refine Exists.intro _ (And.intro (⟨List.map_take⟩) ?_)
              | refine Exists.intro _ (And.intro (⟨List.map_drop⟩) ?_)
              | refine Exists.intro _ (And.intro (⟨map_full'⟩) ?_)
              | refine Exists.intro _ (And.intro (⟨map_full⟩) ?_)
              | refine Exists.intro _ (And.intro (⟨map_snoc⟩) ?_)
              | refine Exists.intro _ (And.intro (⟨List.map_append⟩) ?_)
              | refine Exists.intro _ (And.intro (⟨Eq.refl (α := List D) _⟩) ?_)
              | refine Exists.intro _ (And.intro (⟨Eq.refl (α := Int) _⟩) (And.intro (by omega) ?_))
              | refine Exists.intro (0) (And.intro (⟨rfl⟩) (And.intro (Nat.zero_le _) ?_))
              | refine Exists.intro _ (And.intro (⟨nc1⟩) (And.intro (by omega) ?_))
              | refine Exists.intro _ (Exists.intro _ (And.intro (⟨Eq.refl (α := Int) _⟩) (And.intro (⟨Eq.refl (α := Int) _⟩) (And.intro (by omega) (And.intro (by omega) ?_)))))
              | refine Exists.intro _ (Exists.intro _ (And.intro (⟨Eq.refl (α := Nat) _⟩) (And.intro (⟨Eq.refl (α := Nat) _⟩) ?_)))
              | refine Exists.intro _ (And.intro (⟨Eq.refl (α := Nat) _⟩) ?_)
              | refine Exists.intro _ (And.intro (u32and (by omega) (by omega)) ?_)
              | refine Exists.intro _ (And.intro (u32or (by omega) (by omega)) ?_)
              | refine Exists.intro _ (And.intro (u32xor (by omega) (by omega)) ?_)
              | refine Exists.intro _ (And.intro (u8xor (by omega) (by omega)) ?_)
              | refine Exists.intro _ (And.intro (u64and (by omega) (by omega)) ?_)
              | refine Exists.intro _ (And.intro (u64or (by omega) (by omega)) ?_)
              | refine Exists.intro _ (And.intro (u64xor (by omega) (by omega)) ?_)
              | refine Exists.intro _ (And.intro (w64 (by omega) (by omega)) ?_)
              | refine Exists.intro _ (And.intro (u32add (by omega)) ?_)
              | refine Exists.intro _ (And.intro (u64add (by omega)) ?_)
              | refine Exists.intro _ (And.intro (u8w (by omega)) ?_)
              | refine Exists.intro _ (And.intro (u32w (by omega)) ?_)
              | refine Exists.intro _ (And.intro (u64w (by omega)) ?_)
              | refine Exists.intro _ (And.intro (u8m) ?_)
              | refine Exists.intro _ (And.intro (u64i (by omega) (by omega)) ?_)
              | refine Exists.intro _ (And.intro (min_int) ?_)
              | refine Exists.intro _ (And.intro (max_int) ?_)
              | refine Exists.intro _ (And.intro (imin) ?_)
              | refine Exists.intro _ (And.intro (imax) ?_))
    conv => whnf
    refine boolF_split (fun h => ?_) (fun h => ?_)
    · have h : i < b.length := by simpa using h
      obtain ⟨x, hx⟩ := at_lt h
      have hx8 : x < 256 := hb.1 x (List.mem_of_getElem? hx)
      repeat (conv => whnf
              first
                | refine PairK.mk (by kernel_rfl) ?_
                | refine And.intro (by decide) ?_
                | refine And.intro rfl ?_
                | refine And.intro (List.cons_ne_nil _ _) ?_
                | refine And.intro (Nat.le_of_ble_eq_true rfl) ?_
                | refine And.intro (by omega) ?_
                | refine And.intro (by simp only [List.length_map, List.length_append, List.length_cons, List.length_nil]; omega) ?_
                | refine And.intro (by simpa only [List.length_map, List.length_append, List.length_cons, List.length_nil] using rfl) ?_
                | refine And.intro (Eq.symm (List.length_map _)) ?_
                | refine And.intro (all_map (fun _ => rfl)) ?_
                | refine And.intro (cells_map (fun _ => rfl)) ?_
                | refine And.intro (rows_map (fun _ => rfl) (fun _ => rfl)) ?_
                | refine And.intro (okRows_one rfl rfl) ?_
                | refine And.intro (okRows_all rfl) ?_
                | refine boolF_t (beq_self_eq_true _) ?_
                | refine Exists.intro _ (And.intro (map_get (by assumption)) ?_)
                | refine Exists.intro _ (And.intro (Eq.refl (α := Option D) _) ?_)
                | refine Exists.intro _ (And.intro (⟨(List.length_map _).symm⟩) ?_)
                | refine Exists.intro _ (And.intro (⟨len_one⟩) ?_)
                | refine Exists.intro _ (And.intro (⟨len_two⟩) ?_)
                | refine Exists.intro _ (And.intro (⟨len_three⟩) ?_)
                | refine Exists.intro _ (And.intro (⟨len_four⟩) ?_)
                | refine Exists.intro _ (And.intro (⟨lenl_1⟩) ?_)
                | refine Exists.intro _ (And.intro (⟨lenl_2⟩) ?_)
                | refine Exists.intro _ (And.intro (⟨lenl_3⟩) ?_)
                | refine Exists.intro _ (And.intro (⟨lenl_4⟩) ?_)
                | refine Exists.intro _ (And.intro (⟨len_more⟩) ?_)
                | refine Exists.intro _ (And.intro (⟨map_slice⟩) ?_)
                | refine Exists.intro _ (And.intro (⟨List.map_take⟩) ?_)
                | refine Exists.intro _ (And.intro (⟨List.map_drop⟩) ?_)
                | refine Exists.intro _ (And.intro (⟨map_full'⟩) ?_)
                | refine Exists.intro _ (And.intro (⟨map_full⟩) ?_)
                | refine Exists.intro _ (And.intro (⟨map_snoc⟩) ?_)
                | refine Exists.intro _ (And.intro (⟨List.map_append⟩) ?_)
                | refine Exists.intro _ (And.intro (⟨Eq.refl (α := List D) _⟩) ?_)
                | refine Exists.intro _ (And.intro (⟨Eq.refl (α := Int) _⟩) (And.intro (by omega) ?_))
                | refine Exists.intro (0) (And.intro (⟨rfl⟩) (And.intro (Nat.zero_le _) ?_))
                | refine Exists.intro _ (And.intro (⟨nc1⟩) (And.intro (by omega) ?_))
                | refine Exists.intro _ (Exists.intro _ (And.intro (⟨Eq.refl (α := Int) _⟩) (And.intro (⟨Eq.refl (α := Int) _⟩) (And.intro (by omega) (And.intro (by omega) ?_)))))
                | refine Exists.intro _ (Exists.intro _ (And.intro (⟨Eq.refl (α := Nat) _⟩) (And.intro (⟨Eq.refl (α := Nat) _⟩) ?_)))
                | refine Exists.intro _ (And.intro (⟨Eq.refl (α := Nat) _⟩) ?_)
                | refine Exists.intro _ (And.intro (u32and (by omega) (by omega)) ?_)
                | refine Exists.intro _ (And.intro (u32or (by omega) (by omega)) ?_)
                | refine Exists.intro _ (And.intro (u32xor (by omega) (by omega)) ?_)
                | refine Exists.intro _ (And.intro (u8xor (by omega) (by omega)) ?_)
                | refine Exists.intro _ (And.intro (u64and (by omega) (by omega)) ?_)
                | refine Exists.intro _ (And.intro (u64or (by omega) (by omega)) ?_)
                | refine Exists.intro _ (And.intro (u64xor (by omega) (by omega)) ?_)
                | refine Exists.intro _ (And.intro (w64 (by omega) (by omega)) ?_)
                | refine Exists.intro _ (And.intro (u32add (by omega)) ?_)
                | refine Exists.intro _ (And.intro (u64add (by omega)) ?_)
                | refine Exists.intro _ (And.intro (u8w (by omega)) ?_)
                | refine Exists.intro _ (And.intro (u32w (by omega)) ?_)
                | refine Exists.intro _ (And.intro (u64w (by omega)) ?_)
                | refine Exists.intro _ (And.intro (u8m) ?_)
                | refine Exists.intro _ (And.intro (u64i (by omega) (by omega)) ?_)
                | refine Exists.intro _ (And.intro (min_int) ?_)
                | refine Exists.intro _ (And.intro (max_int) ?_)
                | refine Exists.intro _ (And.intro (imin) ?_)
                | refine Exists.intro _ (And.intro (imax) ?_))
      conv => whnf
      refine ⟨i + 1, ?_, by omega, by omega⟩
      rw [sumS_take s hx]
      refine st_eq ?_ rfl
      repeat (first | exact rfl | refine cons_eq rfl ?_ | (refine cons_eq (by rfl) ?_))
    · have h : b.length ≤ i := by simpa using h
      have e : b.take i = b := List.take_of_length_le h
      rw [e] at hlt
      rw [e]
      repeat (conv => whnf
              first
                | refine PairK.mk (by kernel_rfl) ?_
                | refine And.intro (by decide) ?_
                | refine And.intro rfl ?_
                | refine And.intro (List.cons_ne_nil _ _) ?_
                | refine And.intro (Nat.le_of_ble_eq_true rfl) ?_
                | refine And.intro (by omega) ?_
                | refine And.intro (by simp only [List.length_map, List.length_append, List.length_cons, List.length_nil]; omega) ?_
                | refine And.intro (by simpa only [List.length_map, List.length_append, List.length_cons, List.length_nil] using rfl) ?_
                | refine And.intro (Eq.symm (List.length_map _)) ?_
                | refine And.intro (all_map (fun _ => rfl)) ?_
                | refine And.intro (cells_map (fun _ => rfl)) ?_
                | refine And.intro (rows_map (fun _ => rfl) (fun _ => rfl)) ?_
                | refine And.intro (okRows_one rfl rfl) ?_
                | refine And.intro (okRows_all rfl) ?_
                | refine boolF_t (beq_self_eq_true _) ?_
                | refine Exists.intro _ (And.intro (map_get (by assumption)) ?_)
                | refine Exists.intro _ (And.intro (Eq.refl (α := Option D) _) ?_)
                | refine Exists.intro _ (And.intro (⟨(List.length_map _).symm⟩) ?_)
                | refine Exists.intro _ (And.intro (⟨len_one⟩) ?_)
                | refine Exists.intro _ (And.intro (⟨len_two⟩) ?_)
                | refine Exists.intro _ (And.intro (⟨len_three⟩) ?_)
                | refine Exists.intro _ (And.intro (⟨len_four⟩) ?_)
                | refine Exists.intro _ (And.intro (⟨lenl_1⟩) ?_)
                | refine Exists.intro _ (And.intro (⟨lenl_2⟩) ?_)
                | refine Exists.intro _ (And.intro (⟨lenl_3⟩) ?_)
                | refine Exists.intro _ (And.intro (⟨lenl_4⟩) ?_)
                | refine Exists.intro _ (And.intro (⟨len_more⟩) ?_)
                | refine Exists.intro _ (And.intro (⟨map_slice⟩) ?_)
                | refine Exists.intro _ (And.intro (⟨List.map_take⟩) ?_)
                | refine Exists.intro _ (And.intro (⟨List.map_drop⟩) ?_)
                | refine Exists.intro _ (And.intro (⟨map_full'⟩) ?_)
                | refine Exists.intro _ (And.intro (⟨map_full⟩) ?_)
                | refine Exists.intro _ (And.intro (⟨map_snoc⟩) ?_)
                | refine Exists.intro _ (And.intro (⟨List.map_append⟩) ?_)
                | refine Exists.intro _ (And.intro (⟨Eq.refl (α := List D) _⟩) ?_)
                | refine Exists.intro _ (And.intro (⟨Eq.refl (α := Int) _⟩) (And.intro (by omega) ?_))
                | refine Exists.intro (0) (And.intro (⟨rfl⟩) (And.intro (Nat.zero_le _) ?_))
                | refine Exists.intro _ (And.intro (⟨nc1⟩) (And.intro (by omega) ?_))
                | refine Exists.intro _ (Exists.intro _ (And.intro (⟨Eq.refl (α := Int) _⟩) (And.intro (⟨Eq.refl (α := Int) _⟩) (And.intro (by omega) (And.intro (by omega) ?_)))))
                | refine Exists.intro _ (Exists.intro _ (And.intro (⟨Eq.refl (α := Nat) _⟩) (And.intro (⟨Eq.refl (α := Nat) _⟩) ?_)))
                | refine Exists.intro _ (And.intro (⟨Eq.refl (α := Nat) _⟩) ?_)
                | refine Exists.intro _ (And.intro (u32and (by omega) (by omega)) ?_)
                | refine Exists.intro _ (And.intro (u32or (by omega) (by omega)) ?_)
                | refine Exists.intro _ (And.intro (u32xor (by omega) (by omega)) ?_)
                | refine Exists.intro _ (And.intro (u8xor (by omega) (by omega)) ?_)
                | refine Exists.intro _ (And.intro (u64and (by omega) (by omega)) ?_)
                | refine Exists.intro _ (And.intro (u64or (by omega) (by omega)) ?_)
                | refine Exists.intro _ (And.intro (u64xor (by omega) (by omega)) ?_)
                | refine Exists.intro _ (And.intro (w64 (by omega) (by omega)) ?_)
                | refine Exists.intro _ (And.intro (u32add (by omega)) ?_)
                | refine Exists.intro _ (And.intro (u64add (by omega)) ?_)
                | refine Exists.intro _ (And.intro (u8w (by omega)) ?_)
                | refine Exists.intro _ (And.intro (u32w (by omega)) ?_)
                | refine Exists.intro _ (And.intro (u64w (by omega)) ?_)
                | refine Exists.intro _ (And.intro (u8m) ?_)
                | refine Exists.intro _ (And.intro (u64i (by omega) (by omega)) ?_)
                | refine Exists.intro _ (And.intro (min_int) ?_)
                | refine Exists.intro _ (And.intro (max_int) ?_)
                | refine Exists.intro _ (And.intro (imin) ?_)
                | refine Exists.intro _ (And.intro (imax) ?_))
      conv => whnf
      exact ⟨rfl⟩

theorem f11_ok (ps : List (List Nat)) (hp : okBs ps) : Pure Try.prog 11 [d22 ps] (d23 (ps.foldl moreS 1)) := by
  have hlen : ps.length ≤ 140737488351232 := by have := hp.2; simp [td24] at this; omega
  have hlt : ∀ (l : List (List Nat)) (s : Nat), s < 4294967296 → l.foldl moreS s < 4294967296 := fun l => by
    induction l with
    | nil => intro s h; exact h
    | cons x l ih => intro s h; exact ih _ (moreS_lt s x)
  refine Pure.of ⟨(by simp only [d22, D.sc, scs_map]; intro x _; simp [r24, d24, D.sc, scs_map, r5, d5]), trivial⟩ trivial ?_
  refine CallsIn.of_exec tab_ok mixed Try.func11 rfl rfl [] [] ?_
  repeat (conv => whnf
          first
            | refine PairK.mk (by kernel_rfl) ?_
            | refine And.intro (by decide) ?_
            | refine And.intro rfl ?_
            | refine And.intro (List.cons_ne_nil _ _) ?_
            | refine And.intro (Nat.le_of_ble_eq_true rfl) ?_
            | refine And.intro (by omega) ?_
            | refine And.intro (by simp only [List.length_map, List.length_append, List.length_cons, List.length_nil]; omega) ?_
            | refine And.intro (by simpa only [List.length_map, List.length_append, List.length_cons, List.length_nil] using rfl) ?_
            | refine And.intro (Eq.symm (List.length_map _)) ?_
            | refine And.intro (all_map (fun _ => rfl)) ?_
            | refine And.intro (cells_map (fun _ => rfl)) ?_
            | refine And.intro (rows_map (fun _ => rfl) (fun _ => rfl)) ?_
            | refine And.intro (okRows_one rfl rfl) ?_
            | refine And.intro (okRows_all rfl) ?_
            | refine boolF_t (beq_self_eq_true _) ?_
            | refine Exists.intro _ (And.intro (map_get (by assumption)) ?_)
            | refine Exists.intro _ (And.intro (Eq.refl (α := Option D) _) ?_)
            | refine Exists.intro _ (And.intro (⟨(List.length_map _).symm⟩) ?_)
            | refine Exists.intro _ (And.intro (⟨len_one⟩) ?_)
            | refine Exists.intro _ (And.intro (⟨len_two⟩) ?_)
            | refine Exists.intro _ (And.intro (⟨len_three⟩) ?_)
            | refine Exists.intro _ (And.intro (⟨len_four⟩) ?_)
            | refine Exists.intro _ (And.intro (⟨lenl_1⟩) ?_)
            | refine Exists.intro _ (And.intro (⟨lenl_2⟩) ?_)
            | refine Exists.intro _ (And.intro (⟨lenl_3⟩) ?_)
            | refine Exists.intro _ (And.intro (⟨lenl_4⟩) ?_)
            | refine Exists.intro _ (And.intro (⟨len_more⟩) ?_)
            | refine Exists.intro _ (And.intro (⟨map_slice⟩) ?_)
            | refine Exists.intro _ (And.intro (⟨List.map_take⟩) ?_)
            | refine Exists.intro _ (And.intro (⟨List.map_drop⟩) ?_)
            | refine Exists.intro _ (And.intro (⟨map_full'⟩) ?_)
            | refine Exists.intro _ (And.intro (⟨map_full⟩) ?_)
            | refine Exists.intro _ (And.intro (⟨map_snoc⟩) ?_)
            | refine Exists.intro _ (And.intro (⟨List.map_append⟩) ?_)
            | refine Exists.intro _ (And.intro (⟨Eq.refl (α := List D) _⟩) ?_)
            | refine Exists.intro _ (And.intro (⟨Eq.refl (α := Int) _⟩) (And.intro (by omega) ?_))
            | refine Exists.intro (0) (And.intro (⟨rfl⟩) (And.intro (Nat.zero_le _) ?_))
            | refine Exists.intro _ (And.intro (⟨nc1⟩) (And.intro (by omega) ?_))
            | refine Exists.intro _ (Exists.intro _ (And.intro (⟨Eq.refl (α := Int) _⟩) (And.intro (⟨Eq.refl (α := Int) _⟩) (And.intro (by omega) (And.intro (by omega) ?_)))))
            | refine Exists.intro _ (Exists.intro _ (And.intro (⟨Eq.refl (α := Nat) _⟩) (And.intro (⟨Eq.refl (α := Nat) _⟩) ?_)))
            | refine Exists.intro _ (And.intro (⟨Eq.refl (α := Nat) _⟩) ?_)
            | refine Exists.intro _ (And.intro (u32and (by omega) (by omega)) ?_)
            | refine Exists.intro _ (And.intro (u32or (by omega) (by omega)) ?_)
            | refine Exists.intro _ (And.intro (u32xor (by omega) (by omega)) ?_)
            | refine Exists.intro _ (And.intro (u8xor (by omega) (by omega)) ?_)
            | refine Exists.intro _ (And.intro (u64and (by omega) (by omega)) ?_)
            | refine Exists.intro _ (And.intro (u64or (by omega) (by omega)) ?_)
            | refine Exists.intro _ (And.intro (u64xor (by omega) (by omega)) ?_)
            | refine Exists.intro _ (And.intro (w64 (by omega) (by omega)) ?_)
            | refine Exists.intro _ (And.intro (u32add (by omega)) ?_)
            | refine Exists.intro _ (And.intro (u64add (by omega)) ?_)
            | refine Exists.intro _ (And.intro (u8w (by omega)) ?_)
            | refine Exists.intro _ (And.intro (u32w (by omega)) ?_)
            | refine Exists.intro _ (And.intro (u64w (by omega)) ?_)
            | refine Exists.intro _ (And.intro (u8m) ?_)
            | refine Exists.intro _ (And.intro (u64i (by omega) (by omega)) ?_)
            | refine Exists.intro _ (And.intro (min_int) ?_)
            | refine Exists.intro _ (And.intro (max_int) ?_)
            | refine Exists.intro _ (And.intro (imin) ?_)
            | refine Exists.intro _ (And.intro (imax) ?_))
  conv => whnf
  refine W_loop (ι := Nat) [0, 3, 4] (fun i => ⟨(d22 ps :: D.undef :: D.undef :: d23 ((ps.take i).foldl moreS 1) :: .int .i64 (i : Int) :: D.undef :: D.undef :: D.undef :: D.undef :: D.undef :: D.undef :: D.undef :: D.undef :: D.undef :: D.undef :: D.undef :: D.undef :: D.undef :: []), []⟩) (fun i => ps.length - i) (fun i => i ≤ ps.length) 0 rfl (Nat.zero_le _) ?_
  intro i hi
  refine exec_ok tab_ok mixed 1000 (bx := []) (own := []) ?_
  repeat (conv => whnf
          first
            | refine PairK.mk (by kernel_rfl) ?_
            | refine And.intro (by decide) ?_
            | refine And.intro rfl ?_
            | refine And.intro (List.cons_ne_nil _ _) ?_
            | refine And.intro (Nat.le_of_ble_eq_true rfl) ?_
            | refine And.intro (by omega) ?_
            | refine And.intro (by simp only [List.length_map, List.length_append, List.length_cons, List.length_nil]; omega) ?_
            | refine And.intro (by simpa only [List.length_map, List.length_append, List.length_cons, List.length_nil] using rfl) ?_
            | refine And.intro (Eq.symm (List.length_map _)) ?_
            | refine And.intro (all_map (fun _ => rfl)) ?_
            | refine And.intro (cells_map (fun _ => rfl)) ?_
            | refine And.intro (rows_map (fun _ => rfl) (fun _ => rfl)) ?_
            | refine And.intro (okRows_one rfl rfl) ?_
            | refine And.intro (okRows_all rfl) ?_
            | refine boolF_t (beq_self_eq_true _) ?_
            | refine Exists.intro _ (And.intro (map_get (by assumption)) ?_)
            | refine Exists.intro _ (And.intro (Eq.refl (α := Option D) _) ?_)
            | refine Exists.intro _ (And.intro (⟨(List.length_map _).symm⟩) ?_)
            | refine Exists.intro _ (And.intro (⟨len_one⟩) ?_)
            | refine Exists.intro _ (And.intro (⟨len_two⟩) ?_)
            | refine Exists.intro _ (And.intro (⟨len_three⟩) ?_)
            | refine Exists.intro _ (And.intro (⟨len_four⟩) ?_)
            | refine Exists.intro _ (And.intro (⟨lenl_1⟩) ?_)
            | refine Exists.intro _ (And.intro (⟨lenl_2⟩) ?_)
            | refine Exists.intro _ (And.intro (⟨lenl_3⟩) ?_)
            | refine Exists.intro _ (And.intro (⟨lenl_4⟩) ?_)
            | refine Exists.intro _ (And.intro (⟨len_more⟩) ?_)
            | refine Exists.intro _ (And.intro (⟨map_slice⟩) ?_)
            | refine Exists.intro _ (And.intro (⟨List.map_take⟩) ?_)
            | refine Exists.intro _ (And.intro (⟨List.map_drop⟩) ?_)
            | refine Exists.intro _ (And.intro (⟨map_full'⟩) ?_)
            | refine Exists.intro _ (And.intro (⟨map_full⟩) ?_)
            | refine Exists.intro _ (And.intro (⟨map_snoc⟩) ?_)
            | refine Exists.intro _ (And.intro (⟨List.map_append⟩) ?_)
            | refine Exists.intro _ (And.intro (⟨Eq.refl (α := List D) _⟩) ?_)
            | refine Exists.intro _ (And.intro (⟨Eq.refl (α := Int) _⟩) (And.intro (by omega) ?_))
            | refine Exists.intro (0) (And.intro (⟨rfl⟩) (And.intro (Nat.zero_le _) ?_))
            | refine Exists.intro _ (And.intro (⟨nc1⟩) (And.intro (by omega) ?_))
            | refine Exists.intro _ (Exists.intro _ (And.intro (⟨Eq.refl (α := Int) _⟩) (And.intro (⟨Eq.refl (α := Int) _⟩) (And.intro (by omega) (And.intro (by omega) ?_)))))
            | refine Exists.intro _ (Exists.intro _ (And.intro (⟨Eq.refl (α := Nat) _⟩) (And.intro (⟨Eq.refl (α := Nat) _⟩) ?_)))
            | refine Exists.intro _ (And.intro (⟨Eq.refl (α := Nat) _⟩) ?_)
            | refine Exists.intro _ (And.intro (u32and (by omega) (by omega)) ?_)
            | refine Exists.intro _ (And.intro (u32or (by omega) (by omega)) ?_)
            | refine Exists.intro _ (And.intro (u32xor (by omega) (by omega)) ?_)
            | refine Exists.intro _ (And.intro (u8xor (by omega) (by omega)) ?_)
            | refine Exists.intro _ (And.intro (u64and (by omega) (by omega)) ?_)
            | refine Exists.intro _ (And.intro (u64or (by omega) (by omega)) ?_)
            | refine Exists.intro _ (And.intro (u64xor (by omega) (by omega)) ?_)
            | refine Exists.intro _ (And.intro (w64 (by omega) (by omega)) ?_)
            | refine Exists.intro _ (And.intro (u32add (by omega)) ?_)
            | refine Exists.intro _ (And.intro (u64add (by omega)) ?_)
            | refine Exists.intro _ (And.intro (u8w (by omega)) ?_)
            | refine Exists.intro _ (And.intro (u32w (by omega)) ?_)
            | refine Exists.intro _ (And.intro (u64w (by omega)) ?_)
            | refine Exists.intro _ (And.intro (u8m) ?_)
            | refine Exists.intro _ (And.intro (u64i (by omega) (by omega)) ?_)
            | refine Exists.intro _ (And.intro (min_int) ?_)
            | refine Exists.intro _ (And.intro (max_int) ?_)
            | refine Exists.intro _ (And.intro (imin) ?_)
            | refine Exists.intro _ (And.intro (imax) ?_))
  conv => whnf
  refine boolF_split (fun h => ?_) (fun h => ?_)
  · have h : i < ps.length := by simpa using h
    obtain ⟨x, hx⟩ := at_lt h
    have hx8 : okB x := hp.1 x (List.mem_of_getElem? hx)
    repeat (conv => whnf
            first
              | refine PairK.mk (by kernel_rfl) ?_
              | refine And.intro (by decide) ?_
              | refine And.intro rfl ?_
              | refine And.intro (List.cons_ne_nil _ _) ?_
              | refine And.intro (Nat.le_of_ble_eq_true rfl) ?_
              | refine And.intro (by omega) ?_
              | refine And.intro (by simp only [List.length_map, List.length_append, List.length_cons, List.length_nil]; omega) ?_
              | refine And.intro (by simpa only [List.length_map, List.length_append, List.length_cons, List.length_nil] using rfl) ?_
              | refine And.intro (Eq.symm (List.length_map _)) ?_
              | refine And.intro (all_map (fun _ => rfl)) ?_
              | refine And.intro (cells_map (fun _ => rfl)) ?_
              | refine And.intro (rows_map (fun _ => rfl) (fun _ => rfl)) ?_
              | refine And.intro (okRows_one rfl rfl) ?_
              | refine And.intro (okRows_all rfl) ?_
              | refine boolF_t (beq_self_eq_true _) ?_
              | refine Exists.intro _ (And.intro (map_get (by assumption)) ?_)
              | refine Exists.intro _ (And.intro (Eq.refl (α := Option D) _) ?_)
              | refine Exists.intro _ (And.intro (⟨(List.length_map _).symm⟩) ?_)
              | refine Exists.intro _ (And.intro (⟨len_one⟩) ?_)
              | refine Exists.intro _ (And.intro (⟨len_two⟩) ?_)
              | refine Exists.intro _ (And.intro (⟨len_three⟩) ?_)
              | refine Exists.intro _ (And.intro (⟨len_four⟩) ?_)
              | refine Exists.intro _ (And.intro (⟨lenl_1⟩) ?_)
              | refine Exists.intro _ (And.intro (⟨lenl_2⟩) ?_)
              | refine Exists.intro _ (And.intro (⟨lenl_3⟩) ?_)
              | refine Exists.intro _ (And.intro (⟨lenl_4⟩) ?_)
              | refine Exists.intro _ (And.intro (⟨len_more⟩) ?_)
              | refine Exists.intro _ (And.intro (⟨map_slice⟩) ?_)
              | refine Exists.intro _ (And.intro (⟨List.map_take⟩) ?_)
              | refine Exists.intro _ (And.intro (⟨List.map_drop⟩) ?_)
              | refine Exists.intro _ (And.intro (⟨map_full'⟩) ?_)
              | refine Exists.intro _ (And.intro (⟨map_full⟩) ?_)
              | refine Exists.intro _ (And.intro (⟨map_snoc⟩) ?_)
              | refine Exists.intro _ (And.intro (⟨List.map_append⟩) ?_)
              | refine Exists.intro _ (And.intro (⟨Eq.refl (α := List D) _⟩) ?_)
              | refine Exists.intro _ (And.intro (⟨Eq.refl (α := Int) _⟩) (And.intro (by omega) ?_))
              | refine Exists.intro (0) (And.intro (⟨rfl⟩) (And.intro (Nat.zero_le _) ?_))
              | refine Exists.intro _ (And.intro (⟨nc1⟩) (And.intro (by omega) ?_))
              | refine Exists.intro _ (Exists.intro _ (And.intro (⟨Eq.refl (α := Int) _⟩) (And.intro (⟨Eq.refl (α := Int) _⟩) (And.intro (by omega) (And.intro (by omega) ?_)))))
              | refine Exists.intro _ (Exists.intro _ (And.intro (⟨Eq.refl (α := Nat) _⟩) (And.intro (⟨Eq.refl (α := Nat) _⟩) ?_)))
              | refine Exists.intro _ (And.intro (⟨Eq.refl (α := Nat) _⟩) ?_)
              | refine Exists.intro _ (And.intro (u32and (by omega) (by omega)) ?_)
              | refine Exists.intro _ (And.intro (u32or (by omega) (by omega)) ?_)
              | refine Exists.intro _ (And.intro (u32xor (by omega) (by omega)) ?_)
              | refine Exists.intro _ (And.intro (u8xor (by omega) (by omega)) ?_)
              | refine Exists.intro _ (And.intro (u64and (by omega) (by omega)) ?_)
              | refine Exists.intro _ (And.intro (u64or (by omega) (by omega)) ?_)
              | refine Exists.intro _ (And.intro (u64xor (by omega) (by omega)) ?_)
              | refine Exists.intro _ (And.intro (w64 (by omega) (by omega)) ?_)
              | refine Exists.intro _ (And.intro (u32add (by omega)) ?_)
              | refine Exists.intro _ (And.intro (u64add (by omega)) ?_)
              | refine Exists.intro _ (And.intro (u8w (by omega)) ?_)
              | refine Exists.intro _ (And.intro (u32w (by omega)) ?_)
              | refine Exists.intro _ (And.intro (u64w (by omega)) ?_)
              | refine Exists.intro _ (And.intro (u8m) ?_)
              | refine Exists.intro _ (And.intro (u64i (by omega) (by omega)) ?_)
              | refine Exists.intro _ (And.intro (min_int) ?_)
              | refine Exists.intro _ (And.intro (max_int) ?_)
              | refine Exists.intro _ (And.intro (imin) ?_)
              | refine Exists.intro _ (And.intro (imax) ?_))
    conv => whnf
    refine Pure.call (f13_ok ((ps.take i).foldl moreS 1) x (hlt _ 1 (by omega)) hx8) ?_
    repeat (conv => whnf
            first
              | refine PairK.mk (by kernel_rfl) ?_
              | refine And.intro (by decide) ?_
              | refine And.intro rfl ?_
              | refine And.intro (List.cons_ne_nil _ _) ?_
              | refine And.intro (Nat.le_of_ble_eq_true rfl) ?_
              | refine And.intro (by omega) ?_
              | refine And.intro (by simp only [List.length_map, List.length_append, List.length_cons, List.length_nil]; omega) ?_
              | refine And.intro (by simpa only [List.length_map, List.length_append, List.length_cons, List.length_nil] using rfl) ?_
              | refine And.intro (Eq.symm (List.length_map _)) ?_
              | refine And.intro (all_map (fun _ => rfl)) ?_
              | refine And.intro (cells_map (fun _ => rfl)) ?_
              | refine And.intro (rows_map (fun _ => rfl) (fun _ => rfl)) ?_
              | refine And.intro (okRows_one rfl rfl) ?_
              | refine And.intro (okRows_all rfl) ?_
              | refine boolF_t (beq_self_eq_true _) ?_
              | refine Exists.intro _ (And.intro (map_get (by assumption)) ?_)
              | refine Exists.intro _ (And.intro (Eq.refl (α := Option D) _) ?_)
              | refine Exists.intro _ (And.intro (⟨(List.length_map _).symm⟩) ?_)
              | refine Exists.intro _ (And.intro (⟨len_one⟩) ?_)
              | refine Exists.intro _ (And.intro (⟨len_two⟩) ?_)
              | refine Exists.intro _ (And.intro (⟨len_three⟩) ?_)
              | refine Exists.intro _ (And.intro (⟨len_four⟩) ?_)
              | refine Exists.intro _ (And.intro (⟨lenl_1⟩) ?_)
              | refine Exists.intro _ (And.intro (⟨lenl_2⟩) ?_)
              | refine Exists.intro _ (And.intro (⟨lenl_3⟩) ?_)
              | refine Exists.intro _ (And.intro (⟨lenl_4⟩) ?_)
              | refine Exists.intro _ (And.intro (⟨len_more⟩) ?_)
              | refine Exists.intro _ (And.intro (⟨map_slice⟩) ?_)
              | refine Exists.intro _ (And.intro (⟨List.map_take⟩) ?_)
              | refine Exists.intro _ (And.intro (⟨List.map_drop⟩) ?_)
              | refine Exists.intro _ (And.intro (⟨map_full'⟩) ?_)
              | refine Exists.intro _ (And.intro (⟨map_full⟩) ?_)
              | refine Exists.intro _ (And.intro (⟨map_snoc⟩) ?_)
              | refine Exists.intro _ (And.intro (⟨List.map_append⟩) ?_)
              | refine Exists.intro _ (And.intro (⟨Eq.refl (α := List D) _⟩) ?_)
              | refine Exists.intro _ (And.intro (⟨Eq.refl (α := Int) _⟩) (And.intro (by omega) ?_))
              | refine Exists.intro (0) (And.intro (⟨rfl⟩) (And.intro (Nat.zero_le _) ?_))
              | refine Exists.intro _ (And.intro (⟨nc1⟩) (And.intro (by omega) ?_))
              | refine Exists.intro _ (Exists.intro _ (And.intro (⟨Eq.refl (α := Int) _⟩) (And.intro (⟨Eq.refl (α := Int) _⟩) (And.intro (by omega) (And.intro (by omega) ?_)))))
              | refine Exists.intro _ (Exists.intro _ (And.intro (⟨Eq.refl (α := Nat) _⟩) (And.intro (⟨Eq.refl (α := Nat) _⟩) ?_)))
              | refine Exists.intro _ (And.intro (⟨Eq.refl (α := Nat) _⟩) ?_)
              | refine Exists.intro _ (And.intro (u32and (by omega) (by omega)) ?_)
              | refine Exists.intro _ (And.intro (u32or (by omega) (by omega)) ?_)
              | refine Exists.intro _ (And.intro (u32xor (by omega) (by omega)) ?_)
              | refine Exists.intro _ (And.intro (u8xor (by omega) (by omega)) ?_)
              | refine Exists.intro _ (And.intro (u64and (by omega) (by omega)) ?_)
              | refine Exists.intro _ (And.intro (u64or (by omega) (by omega)) ?_)
              | refine Exists.intro _ (And.intro (u64xor (by omega) (by omega)) ?_)
              | refine Exists.intro _ (And.intro (w64 (by omega) (by omega)) ?_)
              | refine Exists.intro _ (And.intro (u32add (by omega)) ?_)
              | refine Exists.intro _ (And.intro (u64add (by omega)) ?_)
              | refine Exists.intro _ (And.intro (u8w (by omega)) ?_)
              | refine Exists.intro _ (And.intro (u32w (by omega)) ?_)
              | refine Exists.intro _ (And.intro (u64w (by omega)) ?_)
              | refine Exists.intro _ (And.intro (u8m) ?_)
              | refine Exists.intro _ (And.intro (u64i (by omega) (by omega)) ?_)
              | refine Exists.intro _ (And.intro (min_int) ?_)
              | refine Exists.intro _ (And.intro (max_int) ?_)
              | refine Exists.intro _ (And.intro (imin) ?_)
              | refine Exists.intro _ (And.intro (imax) ?_))
    conv => whnf
    refine ⟨i + 1, ?_, by omega, by omega⟩
    have e : (ps.take (i + 1)).foldl moreS 1 = moreS ((ps.take i).foldl moreS 1) x := by
      obtain ⟨h1, h2⟩ := List.getElem?_eq_some_iff.mp hx
      subst h2
      rw [List.take_succ_eq_append_getElem h1, List.foldl_append]
      rfl
    rw [e]
    refine st_eq ?_ rfl
    repeat (first | exact rfl | refine cons_eq rfl ?_ | (refine cons_eq (by rfl) ?_))
  · have h : ps.length ≤ i := by simpa using h
    rw [List.take_of_length_le h]
    repeat (conv => whnf
            first
              | refine PairK.mk (by kernel_rfl) ?_
              | refine And.intro (by decide) ?_
              | refine And.intro rfl ?_
              | refine And.intro (List.cons_ne_nil _ _) ?_
              | refine And.intro (Nat.le_of_ble_eq_true rfl) ?_
              | refine And.intro (by omega) ?_
              | refine And.intro (by simp only [List.length_map, List.length_append, List.length_cons, List.length_nil]; omega) ?_
              | refine And.intro (by simpa only [List.length_map, List.length_append, List.length_cons, List.length_nil] using rfl) ?_
              | refine And.intro (Eq.symm (List.length_map _)) ?_
              | refine And.intro (all_map (fun _ => rfl)) ?_
              | refine And.intro (cells_map (fun _ => rfl)) ?_
              | refine And.intro (rows_map (fun _ => rfl) (fun _ => rfl)) ?_
              | refine And.intro (okRows_one rfl rfl) ?_
              | refine And.intro (okRows_all rfl) ?_
              | refine boolF_t (beq_self_eq_true _) ?_
              | refine Exists.intro _ (And.intro (map_get (by assumption)) ?_)
              | refine Exists.intro _ (And.intro (Eq.refl (α := Option D) _) ?_)
              | refine Exists.intro _ (And.intro (⟨(List.length_map _).symm⟩) ?_)
              | refine Exists.intro _ (And.intro (⟨len_one⟩) ?_)
              | refine Exists.intro _ (And.intro (⟨len_two⟩) ?_)
              | refine Exists.intro _ (And.intro (⟨len_three⟩) ?_)
              | refine Exists.intro _ (And.intro (⟨len_four⟩) ?_)
              | refine Exists.intro _ (And.intro (⟨lenl_1⟩) ?_)
              | refine Exists.intro _ (And.intro (⟨lenl_2⟩) ?_)
              | refine Exists.intro _ (And.intro (⟨lenl_3⟩) ?_)
              | refine Exists.intro _ (And.intro (⟨lenl_4⟩) ?_)
              | refine Exists.intro _ (And.intro (⟨len_more⟩) ?_)
              | refine Exists.intro _ (And.intro (⟨map_slice⟩) ?_)
              | refine Exists.intro _ (And.intro (⟨List.map_take⟩) ?_)
              | refine Exists.intro _ (And.intro (⟨List.map_drop⟩) ?_)
              | refine Exists.intro _ (And.intro (⟨map_full'⟩) ?_)
              | refine Exists.intro _ (And.intro (⟨map_full⟩) ?_)
              | refine Exists.intro _ (And.intro (⟨map_snoc⟩) ?_)
              | refine Exists.intro _ (And.intro (⟨List.map_append⟩) ?_)
              | refine Exists.intro _ (And.intro (⟨Eq.refl (α := List D) _⟩) ?_)
              | refine Exists.intro _ (And.intro (⟨Eq.refl (α := Int) _⟩) (And.intro (by omega) ?_))
              | refine Exists.intro (0) (And.intro (⟨rfl⟩) (And.intro (Nat.zero_le _) ?_))
              | refine Exists.intro _ (And.intro (⟨nc1⟩) (And.intro (by omega) ?_))
              | refine Exists.intro _ (Exists.intro _ (And.intro (⟨Eq.refl (α := Int) _⟩) (And.intro (⟨Eq.refl (α := Int) _⟩) (And.intro (by omega) (And.intro (by omega) ?_)))))
              | refine Exists.intro _ (Exists.intro _ (And.intro (⟨Eq.refl (α := Nat) _⟩) (And.intro (⟨Eq.refl (α := Nat) _⟩) ?_)))
              | refine Exists.intro _ (And.intro (⟨Eq.refl (α := Nat) _⟩) ?_)
              | refine Exists.intro _ (And.intro (u32and (by omega) (by omega)) ?_)
              | refine Exists.intro _ (And.intro (u32or (by omega) (by omega)) ?_)
              | refine Exists.intro _ (And.intro (u32xor (by omega) (by omega)) ?_)
              | refine Exists.intro _ (And.intro (u8xor (by omega) (by omega)) ?_)
              | refine Exists.intro _ (And.intro (u64and (by omega) (by omega)) ?_)
              | refine Exists.intro _ (And.intro (u64or (by omega) (by omega)) ?_)
              | refine Exists.intro _ (And.intro (u64xor (by omega) (by omega)) ?_)
              | refine Exists.intro _ (And.intro (w64 (by omega) (by omega)) ?_)
              | refine Exists.intro _ (And.intro (u32add (by omega)) ?_)
              | refine Exists.intro _ (And.intro (u64add (by omega)) ?_)
              | refine Exists.intro _ (And.intro (u8w (by omega)) ?_)
              | refine Exists.intro _ (And.intro (u32w (by omega)) ?_)
              | refine Exists.intro _ (And.intro (u64w (by omega)) ?_)
              | refine Exists.intro _ (And.intro (u8m) ?_)
              | refine Exists.intro _ (And.intro (u64i (by omega) (by omega)) ?_)
              | refine Exists.intro _ (And.intro (min_int) ?_)
              | refine Exists.intro _ (And.intro (max_int) ?_)
              | refine Exists.intro _ (And.intro (imin) ?_)
              | refine Exists.intro _ (And.intro (imax) ?_))
    conv => whnf
    exact ⟨rfl⟩

end Go.Proofs.Ythlngafnlnincaa

