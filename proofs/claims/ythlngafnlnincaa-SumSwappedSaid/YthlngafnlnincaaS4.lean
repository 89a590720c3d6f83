import Derived.Test.YthlngafnlnincaaS3
namespace Go.Proofs.Ythlngafnlnincaa
open Go.A
set_option linter.unusedVariables false
set_option linter.unusedSimpArgs false
set_option linter.unnecessarySimpa false
attribute [local irreducible] IntKind.wrap bitsI
set_option maxRecDepth 100000

theorem sumOf_true (x0 : List (List Nat)) (x1 : Nat) (x2 : List Nat) (h0 : ok22 x0) (h1 : ok23 x1) (h2 : ok24 x2) : CallsIn Try.prog 3 [d22 x0, d23 x1, d24 x2] [] fun r _ => r = .bool true := by
  replace h0 := ok22.b h0
  replace h2 := ok24.b h2
  refine CallsIn.of_exec tab_ok mixed Try.func3 rfl rfl [] [] ?_
  repeat (conv => whnf
          first
            | refine PairK.mk (by kernel_rfl) ?_
            | refine And.intro (by decide) ?_
            | refine And.intro rfl ?_
            | refine And.intro (List.cons_ne_nil _ _) ?_
            | refine And.intro (Nat.le_of_ble_eq_true rfl) ?_
            | refine And.intro (by omega) ?_
            | refine And.intro (by simp only [List.length_map, List.length_append, List.length_cons, List.length_nil]; omega) ?_
            | refine And.intro (by simpa only [List.length_map, List.length_append, List.length_cons, List.length_nil] using rfl) ?_
            | refine And.intro (Eq.symm (List.length_map _)) ?_
            | refine And.intro (all_map (fun _ => rfl)) ?_
            | refine And.intro (cells_map (fun _ => rfl)) ?_
            | refine And.intro (rows_map (fun _ => rfl) (fun _ => rfl)) ?_
            | refine And.intro (okRows_one rfl rfl) ?_
            | refine And.intro (okRows_all rfl) ?_
            | refine boolF_t (beq_self_eq_true _) ?_
            | refine Exists.intro _ (And.intro (map_get (by assumption)) ?_)
            | refine Exists.intro _ (And.intro (Eq.refl (α := Option D) _) ?_)
            | refine Exists.intro _ (And.intro (⟨(List.length_map _).symm⟩) ?_)
            | refine Exists.intro _ (And.intro (⟨len_one⟩) ?_)
            | refine Exists.intro _ (And.intro (⟨len_two⟩) ?_)
            | refine Exists.intro _ (And.intro (⟨len_three⟩) ?_)
            | refine Exists.intro _ (And.intro (⟨len_four⟩) ?_)
            | refine Exists.intro _ (And.intro (⟨lenl_1⟩) ?_)
            | refine Exists.intro _ (And.intro (⟨lenl_2⟩) ?_)
            | refine Exists.intro _ (And.intro (⟨lenl_3⟩) ?_)
            | refine Exists.intro _ (And.intro (⟨lenl_4⟩) ?_)
            | refine Exists.intro _ (And.intro (⟨len_more⟩) ?_)
            | refine Exists.intro _ (And.intro (⟨map_slice⟩) ?_)
            | refine Exists.intro _ (And.intro (⟨List.map_take⟩) ?_)
            | refine Exists.intro _ (And.intro (⟨List.map_drop⟩) ?_)
            | refine Exists.intro _ (And.intro (⟨map_full'⟩) ?_)
            | refine Exists.intro _ (And.intro (⟨map_full⟩) ?_)
            | refine Exists.intro _ (And.intro (⟨map_snoc⟩) ?_)
            | refine Exists.intro _ (And.intro (⟨List.map_append⟩) ?_)
            | refine Exists.intro _ (And.intro (⟨Eq.refl (α := List D) _⟩) ?_)
            | refine Exists.intro _ (And.intro (⟨Eq.refl (α := Int) _⟩) (And.intro (by omega) ?_))
            | refine Exists.intro (0) (And.intro (⟨rfl⟩) (And.intro (Nat.zero_le _) ?_))
            | refine Exists.intro _ (And.intro (⟨nc1⟩) (And.intro (by omega) ?_))
            | refine Exists.intro _ (Exists.intro _ (And.intro (⟨Eq.refl (α := Int) _⟩) (And.intro (⟨Eq.refl (α := Int) _⟩) (And.intro (by omega) (And.intro (by omega) ?_)))))
            | refine Exists.intro _ (Exists.intro _ (And.intro (⟨Eq.refl (α := Nat) _⟩) (And.intro (⟨Eq.refl (α := Nat) _⟩) ?_)))
            | refine Exists.intro _ (And.intro (⟨Eq.refl (α := Nat) _⟩) ?_)
            | refine Exists.intro _ (And.intro (u32and (by omega) (by omega)) ?_)
            | refine Exists.intro _ (And.intro (u32or (by omega) (by omega)) ?_)
            | refine Exists.intro _ (And.intro (u32xor (by omega) (by omega)) ?_)
            | refine Exists.intro _ (And.intro (u8xor (by omega) (by omega)) ?_)
            | refine Exists.intro _ (And.intro (u64and (by omega) (by omega)) ?_)
            | refine Exists.intro _ (And.intro (u64or (by omega) (by omega)) ?_)
            | refine Exists.intro _ (And.intro (u64xor (by omega) (by omega)) ?_)
            | refine Exists.intro _ (And.intro (w64 (by omega) (by omega)) ?_)
            | refine Exists.intro _ (And.intro (u32add (by omega)) ?_)
            | refine Exists.intro _ (And.intro (u64add (by omega)) ?_)
            | refine Exists.intro _ (And.intro (u8w (by omega)) ?_)
            | refine Exists.intro _ (And.intro (u32w (by omega)) ?_)
            | refine Exists.intro _ (And.intro (u64w (by omega)) ?_)
            | refine Exists.intro _ (And.intro (u8m) ?_)
            | refine Exists.intro _ (And.intro (u64i (by omega) (by omega)) ?_)
            | refine Exists.intro _ (And.intro (min_int) ?_)
            | refine Exists.intro _ (And.intro (max_int) ?_)
            | refine Exists.intro _ (And.intro (imin) ?_)
            | refine Exists.intro _ (And.intro (imax) ?_))
  conv => whnf
  refine Pure.call (f10_ok x0 h0) ?_
  repeat (conv => whnf
          first
            | refine PairK.mk (by kernel_rfl) ?_
            | refine And.intro (by decide) ?_
            | refine And.intro rfl ?_
            | refine And.intro (List.cons_ne_nil _ _) ?_
            | refine And.intro (Nat.le_of_ble_eq_true rfl) ?_
            | refine And.intro (by omega) ?_
            | refine And.intro (by simp only [List.length_map, List.length_append, List.length_cons, List.length_nil]; omega) ?_
            | refine And.intro (by simpa only [List.length_map, List.length_append, List.length_cons, List.length_nil] using rfl) ?_
            | refine And.intro (Eq.symm (List.length_map _)) ?_
            | refine And.intro (all_map (fun _ => rfl)) ?_
            | refine And.intro (cells_map (fun _ => rfl)) ?_
            | refine And.intro (rows_map (fun _ => rfl) (fun _ => rfl)) ?_
            | refine And.intro (okRows_one rfl rfl) ?_
            | refine And.intro (okRows_all rfl) ?_
            | refine boolF_t (beq_self_eq_true _) ?_
            | refine Exists.intro _ (And.intro (map_get (by assumption)) ?_)
            | refine Exists.intro _ (And.intro (Eq.refl (α := Option D) _) ?_)
            | refine Exists.intro _ (And.intro (⟨(List.length_map _).symm⟩) ?_)
            | refine Exists.intro _ (And.intro (⟨len_one⟩) ?_)
            | refine Exists.intro _ (And.intro (⟨len_two⟩) ?_)
            | refine Exists.intro _ (And.intro (⟨len_three⟩) ?_)
            | refine Exists.intro _ (And.intro (⟨len_four⟩) ?_)
            | refine Exists.intro _ (And.intro (⟨lenl_1⟩) ?_)
            | refine Exists.intro _ (And.intro (⟨lenl_2⟩) ?_)
            | refine Exists.intro _ (And.intro (⟨lenl_3⟩) ?_)
            | refine Exists.intro _ (And.intro (⟨lenl_4⟩) ?_)
            | refine Exists.intro _ (And.intro (⟨len_more⟩) ?_)
            | refine Exists.intro _ (And.intro (⟨map_slice⟩) ?_)
            | refine Exists.intro _ (And.intro (⟨List.map_take⟩) ?_)
            | refine Exists.intro _ (And.intro (⟨List.map_drop⟩) ?_)
            | refine Exists.intro _ (And.intro (⟨map_full'⟩) ?_)
            | refine Exists.intro _ (And.intro (⟨map_full⟩) ?_)
            | refine Exists.intro _ (And.intro (⟨map_snoc⟩) ?_)
            | refine Exists.intro _ (And.intro (⟨List.map_append⟩) ?_)
            | refine Exists.intro _ (And.intro (⟨Eq.refl (α := List D) _⟩) ?_)
            | refine Exists.intro _ (And.intro (⟨Eq.refl (α := Int) _⟩) (And.intro (by omega) ?_))
            | refine Exists.intro (0) (And.intro (⟨rfl⟩) (And.intro (Nat.zero_le _) ?_))
            | refine Exists.intro _ (And.intro (⟨nc1⟩) (And.intro (by omega) ?_))
            | refine Exists.intro _ (Exists.intro _ (And.intro (⟨Eq.refl (α := Int) _⟩) (And.intro (⟨Eq.refl (α := Int) _⟩) (And.intro (by omega) (And.intro (by omega) ?_)))))
            | refine Exists.intro _ (Exists.intro _ (And.intro (⟨Eq.refl (α := Nat) _⟩) (And.intro (⟨Eq.refl (α := Nat) _⟩) ?_)))
            | refine Exists.intro _ (And.intro (⟨Eq.refl (α := Nat) _⟩) ?_)
            | refine Exists.intro _ (And.intro (u32and (by omega) (by omega)) ?_)
            | refine Exists.intro _ (And.intro (u32or (by omega) (by omega)) ?_)
            | refine Exists.intro _ (And.intro (u32xor (by omega) (by omega)) ?_)
            | refine Exists.intro _ (And.intro (u8xor (by omega) (by omega)) ?_)
            | refine Exists.intro _ (And.intro (u64and (by omega) (by omega)) ?_)
            | refine Exists.intro _ (And.intro (u64or (by omega) (by omega)) ?_)
            | refine Exists.intro _ (And.intro (u64xor (by omega) (by omega)) ?_)
            | refine Exists.intro _ (And.intro (w64 (by omega) (by omega)) ?_)
            | refine Exists.intro _ (And.intro (u32add (by omega)) ?_)
            | refine Exists.intro _ (And.intro (u64add (by omega)) ?_)
            | refine Exists.intro _ (And.intro (u8w (by omega)) ?_)
            | refine Exists.intro _ (And.intro (u32w (by omega)) ?_)
            | refine Exists.intro _ (And.intro (u64w (by omega)) ?_)
            | refine Exists.intro _ (And.intro (u8m) ?_)
            | refine Exists.intro _ (And.intro (u64i (by omega) (by omega)) ?_)
            | refine Exists.intro _ (And.intro (min_int) ?_)
            | refine Exists.intro _ (And.intro (max_int) ?_)
            | refine Exists.intro _ (And.intro (imin) ?_)
            | refine Exists.intro _ (And.intro (imax) ?_))
  conv => whnf
  refine Pure.call (f11_ok x0 h0) ?_
  repeat (conv => whnf
          first
            | refine PairK.mk (by kernel_rfl) ?_
            | refine And.intro (by decide) ?_
            | refine And.intro rfl ?_
            | refine And.intro (List.cons_ne_nil _ _) ?_
            | refine And.intro (Nat.le_of_ble_eq_true rfl) ?_
            | refine And.intro (by omega) ?_
            | refine And.intro (by simp only [List.length_map, List.length_append, List.length_cons, List.length_nil]; omega) ?_
            | refine And.intro (by simpa only [List.length_map, List.length_append, List.length_cons, List.length_nil] using rfl) ?_
            | refine And.intro (Eq.symm (List.length_map _)) ?_
            | refine And.intro (all_map (fun _ => rfl)) ?_
            | refine And.intro (cells_map (fun _ => rfl)) ?_
            | refine And.intro (rows_map (fun _ => rfl) (fun _ => rfl)) ?_
            | refine And.intro (okRows_one rfl rfl) ?_
            | refine And.intro (okRows_all rfl) ?_
            | refine boolF_t (beq_self_eq_true _) ?_
            | refine Exists.intro _ (And.intro (map_get (by assumption)) ?_)
            | refine Exists.intro _ (And.intro (Eq.refl (α := Option D) _) ?_)
            | refine Exists.intro _ (And.intro (⟨(List.length_map _).symm⟩) ?_)
            | refine Exists.intro _ (And.intro (⟨len_one⟩) ?_)
            | refine Exists.intro _ (And.intro (⟨len_two⟩) ?_)
            | refine Exists.intro _ (And.intro (⟨len_three⟩) ?_)
            | refine Exists.intro _ (And.intro (⟨len_four⟩) ?_)
            | refine Exists.intro _ (And.intro (⟨lenl_1⟩) ?_)
            | refine Exists.intro _ (And.intro (⟨lenl_2⟩) ?_)
            | refine Exists.intro _ (And.intro (⟨lenl_3⟩) ?_)
            | refine Exists.intro _ (And.intro (⟨lenl_4⟩) ?_)
            | refine Exists.intro _ (And.intro (⟨len_more⟩) ?_)
            | refine Exists.intro _ (And.intro (⟨map_slice⟩) ?_)
            | refine Exists.intro _ (And.intro (⟨List.map_take⟩) ?_)
            | refine Exists.intro _ (And.intro (⟨List.map_drop⟩) ?_)
            | refine Exists.intro _ (And.intro (⟨map_full'⟩) ?_)
            | refine Exists.intro _ (And.intro (⟨map_full⟩) ?_)
            | refine Exists.intro _ (And.intro (⟨map_snoc⟩) ?_)
            | refine Exists.intro _ (And.intro (⟨List.map_append⟩) ?_)
            | refine Exists.intro _ (And.intro (⟨Eq.refl (α := List D) _⟩) ?_)
            | refine Exists.intro _ (And.intro (⟨Eq.refl (α := Int) _⟩) (And.intro (by omega) ?_))
            | refine Exists.intro (0) (And.intro (⟨rfl⟩) (And.intro (Nat.zero_le _) ?_))
            | refine Exists.intro _ (And.intro (⟨nc1⟩) (And.intro (by omega) ?_))
            | refine Exists.intro _ (Exists.intro _ (And.intro (⟨Eq.refl (α := Int) _⟩) (And.intro (⟨Eq.refl (α := Int) _⟩) (And.intro (by omega) (And.intro (by omega) ?_)))))
            | refine Exists.intro _ (Exists.intro _ (And.intro (⟨Eq.refl (α := Nat) _⟩) (And.intro (⟨Eq.refl (α := Nat) _⟩) ?_)))
            | refine Exists.intro _ (And.intro (⟨Eq.refl (α := Nat) _⟩) ?_)
            | refine Exists.intro _ (And.intro (u32and (by omega) (by omega)) ?_)
            | refine Exists.intro _ (And.intro (u32or (by omega) (by omega)) ?_)
            | refine Exists.intro _ (And.intro (u32xor (by omega) (by omega)) ?_)
            | refine Exists.intro _ (And.intro (u8xor (by omega) (by omega)) ?_)
            | refine Exists.intro _ (And.intro (u64and (by omega) (by omega)) ?_)
            | refine Exists.intro _ (And.intro (u64or (by omega) (by omega)) ?_)
            | refine Exists.intro _ (And.intro (u64xor (by omega) (by omega)) ?_)
            | refine Exists.intro _ (And.intro (w64 (by omega) (by omega)) ?_)
            | refine Exists.intro _ (And.intro (u32add (by omega)) ?_)
            | refine Exists.intro _ (And.intro (u64add (by omega)) ?_)
            | refine Exists.intro _ (And.intro (u8w (by omega)) ?_)
            | refine Exists.intro _ (And.intro (u32w (by omega)) ?_)
            | refine Exists.intro _ (And.intro (u64w (by omega)) ?_)
            | refine Exists.intro _ (And.intro (u8m) ?_)
            | refine Exists.intro _ (And.intro (u64i (by omega) (by omega)) ?_)
            | refine Exists.intro _ (And.intro (min_int) ?_)
            | refine Exists.intro _ (And.intro (max_int) ?_)
            | refine Exists.intro _ (And.intro (imin) ?_)
            | refine Exists.intro _ (And.intro (imax) ?_))
  conv => whnf
  refine Pure.call (f12_ok x1 x2 h1 h2) ?_
  repeat (conv => whnf
          first
            | refine PairK.mk (by kernel_rfl) ?_
            | refine And.intro (by decide) ?_
            | refine And.intro rfl ?_
            | refine And.intro (List.cons_ne_nil _ _) ?_
            | refine And.intro (Nat.le_of_ble_eq_true rfl) ?_
            | refine And.intro (by omega) ?_
            | refine And.intro (by simp only [List.length_map, List.length_append, List.length_cons, List.length_nil]; omega) ?_
            | refine And.intro (by simpa only [List.length_map, List.length_append, List.length_cons, List.length_nil] using rfl) ?_
            | refine And.intro (Eq.symm (List.length_map _)) ?_
            | refine And.intro (all_map (fun _ => rfl)) ?_
            | refine And.intro (cells_map (fun _ => rfl)) ?_
            | refine And.intro (rows_map (fun _ => rfl) (fun _ => rfl)) ?_
            | refine And.intro (okRows_one rfl rfl) ?_
            | refine And.intro (okRows_all rfl) ?_
            | refine boolF_t (beq_self_eq_true _) ?_
            | refine Exists.intro _ (And.intro (map_get (by assumption)) ?_)
            | refine Exists.intro _ (And.intro (Eq.refl (α := Option D) _) ?_)
            | refine Exists.intro _ (And.intro (⟨(List.length_map _).symm⟩) ?_)
            | refine Exists.intro _ (And.intro (⟨len_one⟩) ?_)
            | refine Exists.intro _ (And.intro (⟨len_two⟩) ?_)
            | refine Exists.intro _ (And.intro (⟨len_three⟩) ?_)
            | refine Exists.intro _ (And.intro (⟨len_four⟩) ?_)
            | refine Exists.intro _ (And.intro (⟨lenl_1⟩) ?_)
            | refine Exists.intro _ (And.intro (⟨lenl_2⟩) ?_)
            | refine Exists.intro _ (And.intro (⟨lenl_3⟩) ?_)
            | refine Exists.intro _ (And.intro (⟨lenl_4⟩) ?_)
            | refine Exists.intro _ (And.intro (⟨len_more⟩) ?_)
            | refine Exists.intro _ (And.intro (⟨map_slice⟩) ?_)
            | refine Exists.intro _ (And.intro (⟨List.map_take⟩) ?_)
            | refine Exists.intro _ (And.intro (⟨List.map_drop⟩) ?_)
            | refine Exists.intro _ (And.intro (⟨map_full'⟩) ?_)
            | refine Exists.intro _ (And.intro (⟨map_full⟩) ?_)
            | refine Exists.intro _ (And.intro (⟨map_snoc⟩) ?_)
            | refine Exists.intro _ (And.intro (⟨List.map_append⟩) ?_)
            | refine Exists.intro _ (And.intro (⟨Eq.refl (α := List D) _⟩) ?_)
            | refine Exists.intro _ (And.intro (⟨Eq.refl (α := Int) _⟩) (And.intro (by omega) ?_))
            | refine Exists.intro (0) (And.intro (⟨rfl⟩) (And.intro (Nat.zero_le _) ?_))
            | refine Exists.intro _ (And.intro (⟨nc1⟩) (And.intro (by omega) ?_))
            | refine Exists.intro _ (Exists.intro _ (And.intro (⟨Eq.refl (α := Int) _⟩) (And.intro (⟨Eq.refl (α := Int) _⟩) (And.intro (by omega) (And.intro (by omega) ?_)))))
            | refine Exists.intro _ (Exists.intro _ (And.intro (⟨Eq.refl (α := Nat) _⟩) (And.intro (⟨Eq.refl (α := Nat) _⟩) ?_)))
            | refine Exists.intro _ (And.intro (⟨Eq.refl (α := Nat) _⟩) ?_)
            | refine Exists.intro _ (And.intro (u32and (by omega) (by omega)) ?_)
            | refine Exists.intro _ (And.intro (u32or (by omega) (by omega)) ?_)
            | refine Exists.intro _ (And.intro (u32xor (by omega) (by omega)) ?_)
            | refine Exists.intro _ (And.intro (u8xor (by omega) (by omega)) ?_)
            | refine Exists.intro _ (And.intro (u64and (by omega) (by omega)) ?_)
            | refine Exists.intro _ (And.intro (u64or (by omega) (by omega)) ?_)
            | refine Exists.intro _ (And.intro (u64xor (by omega) (by omega)) ?_)
            | refine Exists.intro _ (And.intro (w64 (by omega) (by omega)) ?_)
            | refine Exists.intro _ (And.intro (u32add (by omega)) ?_)
            | refine Exists.intro _ (And.intro (u64add (by omega)) ?_)
            | refine Exists.intro _ (And.intro (u8w (by omega)) ?_)
            | refine Exists.intro _ (And.intro (u32w (by omega)) ?_)
            | refine Exists.intro _ (And.intro (u64w (by omega)) ?_)
            | refine Exists.intro _ (And.intro (u8m) ?_)
            | refine Exists.intro _ (And.intro (u64i (by omega) (by omega)) ?_)
            | refine Exists.intro _ (And.intro (min_int) ?_)
            | refine Exists.intro _ (And.intro (max_int) ?_)
            | refine Exists.intro _ (And.intro (imin) ?_)
            | refine Exists.intro _ (And.intro (imax) ?_))
  conv => whnf
  refine Pure.call (f13_ok x1 x2 h1 h2) ?_
  repeat (conv => whnf
          first
            | refine PairK.mk (by kernel_rfl) ?_
            | refine And.intro (by decide) ?_
            | refine And.intro rfl ?_
            | refine And.intro (List.cons_ne_nil _ _) ?_
            | refine And.intro (Nat.le_of_ble_eq_true rfl) ?_
            | refine And.intro (by omega) ?_
            | refine And.intro (by simp only [List.length_map, List.length_append, List.length_cons, List.length_nil]; omega) ?_
            | refine And.intro (by simpa only [List.length_map, List.length_append, List.length_cons, List.length_nil] using rfl) ?_
            | refine And.intro (Eq.symm (List.length_map _)) ?_
            | refine And.intro (all_map (fun _ => rfl)) ?_
            | refine And.intro (cells_map (fun _ => rfl)) ?_
            | refine And.intro (rows_map (fun _ => rfl) (fun _ => rfl)) ?_
            | refine And.intro (okRows_one rfl rfl) ?_
            | refine And.intro (okRows_all rfl) ?_
            | refine boolF_t (beq_self_eq_true _) ?_
            | refine Exists.intro _ (And.intro (map_get (by assumption)) ?_)
            | refine Exists.intro _ (And.intro (Eq.refl (α := Option D) _) ?_)
            | refine Exists.intro _ (And.intro (⟨(List.length_map _).symm⟩) ?_)
            | refine Exists.intro _ (And.intro (⟨len_one⟩) ?_)
            | refine Exists.intro _ (And.intro (⟨len_two⟩) ?_)
            | refine Exists.intro _ (And.intro (⟨len_three⟩) ?_)
            | refine Exists.intro _ (And.intro (⟨len_four⟩) ?_)
            | refine Exists.intro _ (And.intro (⟨lenl_1⟩) ?_)
            | refine Exists.intro _ (And.intro (⟨lenl_2⟩) ?_)
            | refine Exists.intro _ (And.intro (⟨lenl_3⟩) ?_)
            | refine Exists.intro _ (And.intro (⟨lenl_4⟩) ?_)
            | refine Exists.intro _ (And.intro (⟨len_more⟩) ?_)
            | refine Exists.intro _ (And.intro (⟨map_slice⟩) ?_)
            | refine Exists.intro _ (And.intro (⟨List.map_take⟩) ?_)
            | refine Exists.intro _ (And.intro (⟨List.map_drop⟩) ?_)
            | refine Exists.intro _ (And.intro (⟨map_full'⟩) ?_)
            | refine Exists.intro _ (And.intro (⟨map_full⟩) ?_)
            | refine Exists.intro _ (And.intro (⟨map_snoc⟩) ?_)
            | refine Exists.intro _ (And.intro (⟨List.map_append⟩) ?_)
            | refine Exists.intro _ (And.intro (⟨Eq.refl (α := List D) _⟩) ?_)
            | refine Exists.intro _ (And.intro (⟨Eq.refl (α := Int) _⟩) (And.intro (by omega) ?_))
            | refine Exists.intro (0) (And.intro (⟨rfl⟩) (And.intro (Nat.zero_le _) ?_))
            | refine Exists.intro _ (And.intro (⟨nc1⟩) (And.intro (by omega) ?_))
            | refine Exists.intro _ (Exists.intro _ (And.intro (⟨Eq.refl (α := Int) _⟩) (And.intro (⟨Eq.refl (α := Int) _⟩) (And.intro (by omega) (And.intro (by omega) ?_)))))
            | refine Exists.intro _ (Exists.intro _ (And.intro (⟨Eq.refl (α := Nat) _⟩) (And.intro (⟨Eq.refl (α := Nat) _⟩) ?_)))
            | refine Exists.intro _ (And.intro (⟨Eq.refl (α := Nat) _⟩) ?_)
            | refine Exists.intro _ (And.intro (u32and (by omega) (by omega)) ?_)
            | refine Exists.intro _ (And.intro (u32or (by omega) (by omega)) ?_)
            | refine Exists.intro _ (And.intro (u32xor (by omega) (by omega)) ?_)
            | refine Exists.intro _ (And.intro (u8xor (by omega) (by omega)) ?_)
            | refine Exists.intro _ (And.intro (u64and (by omega) (by omega)) ?_)
            | refine Exists.intro _ (And.intro (u64or (by omega) (by omega)) ?_)
            | refine Exists.intro _ (And.intro (u64xor (by omega) (by omega)) ?_)
            | refine Exists.intro _ (And.intro (w64 (by omega) (by omega)) ?_)
            | refine Exists.intro _ (And.intro (u32add (by omega)) ?_)
            | refine Exists.intro _ (And.intro (u64add (by omega)) ?_)
            | refine Exists.intro _ (And.intro (u8w (by omega)) ?_)
            | refine Exists.intro _ (And.intro (u32w (by omega)) ?_)
            | refine Exists.intro _ (And.intro (u64w (by omega)) ?_)
            | refine Exists.intro _ (And.intro (u8m) ?_)
            | refine Exists.intro _ (And.intro (u64i (by omega) (by omega)) ?_)
            | refine Exists.intro _ (And.intro (min_int) ?_)
            | refine Exists.intro _ (And.intro (max_int) ?_)
            | refine Exists.intro _ (And.intro (imin) ?_)
            | refine Exists.intro _ (And.intro (imax) ?_))
  conv => whnf
  refine Pure.call f14_ok ?_
  repeat (conv => whnf
          first
            | refine PairK.mk (by kernel_rfl) ?_
            | refine And.intro (by decide) ?_
            | refine And.intro rfl ?_
            | refine And.intro (List.cons_ne_nil _ _) ?_
            | refine And.intro (Nat.le_of_ble_eq_true rfl) ?_
            | refine And.intro (by omega) ?_
            | refine And.intro (by simp only [List.length_map, List.length_append, List.length_cons, List.length_nil]; omega) ?_
            | refine And.intro (by simpa only [List.length_map, List.length_append, List.length_cons, List.length_nil] using rfl) ?_
            | refine And.intro (Eq.symm (List.length_map _)) ?_
            | refine And.intro (all_map (fun _ => rfl)) ?_
            | refine And.intro (cells_map (fun _ => rfl)) ?_
            | refine And.intro (rows_map (fun _ => rfl) (fun _ => rfl)) ?_
            | refine And.intro (okRows_one rfl rfl) ?_
            | refine And.intro (okRows_all rfl) ?_
            | refine boolF_t (beq_self_eq_true _) ?_
            | refine Exists.intro _ (And.intro (map_get (by assumption)) ?_)
            | refine Exists.intro _ (And.intro (Eq.refl (α := Option D) _) ?_)
            | refine Exists.intro _ (And.intro (⟨(List.length_map _).symm⟩) ?_)
            | refine Exists.intro _ (And.intro (⟨len_one⟩) ?_)
            | refine Exists.intro _ (And.intro (⟨len_two⟩) ?_)
            | refine Exists.intro _ (And.intro (⟨len_three⟩) ?_)
            | refine Exists.intro _ (And.intro (⟨len_four⟩) ?_)
            | refine Exists.intro _ (And.intro (⟨lenl_1⟩) ?_)
            | refine Exists.intro _ (And.intro (⟨lenl_2⟩) ?_)
            | refine Exists.intro _ (And.intro (⟨lenl_3⟩) ?_)
            | refine Exists.intro _ (And.intro (⟨lenl_4⟩) ?_)
            | refine Exists.intro _ (And.intro (⟨len_more⟩) ?_)
            | refine Exists.intro _ (And.intro (⟨map_slice⟩) ?_)
            | refine Exists.intro _ (And.intro (⟨List.map_take⟩) ?_)
            | refine Exists.intro _ (And.intro (⟨List.map_drop⟩) ?_)
            | refine Exists.intro _ (And.intro (⟨map_full'⟩) ?_)
            | refine Exists.intro _ (And.intro (⟨map_full⟩) ?_)
            | refine Exists.intro _ (And.intro (⟨map_snoc⟩) ?_)
            | refine Exists.intro _ (And.intro (⟨List.map_append⟩) ?_)
            | refine Exists.intro _ (And.intro (⟨Eq.refl (α := List D) _⟩) ?_)
            | refine Exists.intro _ (And.intro (⟨Eq.refl (α := Int) _⟩) (And.intro (by omega) ?_))
            | refine Exists.intro (0) (And.intro (⟨rfl⟩) (And.intro (Nat.zero_le _) ?_))
            | refine Exists.intro _ (And.intro (⟨nc1⟩) (And.intro (by omega) ?_))
            | refine Exists.intro _ (Exists.intro _ (And.intro (⟨Eq.refl (α := Int) _⟩) (And.intro (⟨Eq.refl (α := Int) _⟩) (And.intro (by omega) (And.intro (by omega) ?_)))))
            | refine Exists.intro _ (Exists.intro _ (And.intro (⟨Eq.refl (α := Nat) _⟩) (And.intro (⟨Eq.refl (α := Nat) _⟩) ?_)))
            | refine Exists.intro _ (And.intro (⟨Eq.refl (α := Nat) _⟩) ?_)
            | refine Exists.intro _ (And.intro (u32and (by omega) (by omega)) ?_)
            | refine Exists.intro _ (And.intro (u32or (by omega) (by omega)) ?_)
            | refine Exists.intro _ (And.intro (u32xor (by omega) (by omega)) ?_)
            | refine Exists.intro _ (And.intro (u8xor (by omega) (by omega)) ?_)
            | refine Exists.intro _ (And.intro (u64and (by omega) (by omega)) ?_)
            | refine Exists.intro _ (And.intro (u64or (by omega) (by omega)) ?_)
            | refine Exists.intro _ (And.intro (u64xor (by omega) (by omega)) ?_)
            | refine Exists.intro _ (And.intro (w64 (by omega) (by omega)) ?_)
            | refine Exists.intro _ (And.intro (u32add (by omega)) ?_)
            | refine Exists.intro _ (And.intro (u64add (by omega)) ?_)
            | refine Exists.intro _ (And.intro (u8w (by omega)) ?_)
            | refine Exists.intro _ (And.intro (u32w (by omega)) ?_)
            | refine Exists.intro _ (And.intro (u64w (by omega)) ?_)
            | refine Exists.intro _ (And.intro (u8m) ?_)
            | refine Exists.intro _ (And.intro (u64i (by omega) (by omega)) ?_)
            | refine Exists.intro _ (And.intro (min_int) ?_)
            | refine Exists.intro _ (And.intro (max_int) ?_)
            | refine Exists.intro _ (And.intro (imin) ?_)
            | refine Exists.intro _ (And.intro (imax) ?_))
  conv => whnf
  exact ⟨rfl⟩

end Go.Proofs.Ythlngafnlnincaa

