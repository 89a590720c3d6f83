import Derived.Test.YthlngafnlnincaaS3
namespace Go.Proofs.Ythlngafnlnincaa
open Go.A
set_option maxRecDepth 100000
set_option linter.unusedVariables false

theorem sumOf_true (x0 : List (List Nat)) (x1 : Nat) (x2 : List Nat) (h0 : ok22 x0) (h1 : ok23 x1) (h2 : ok24 x2) : CallsIn Try.prog 3 [d22 x0, d23 x1, d24 x2] [] fun r _ => r = .bool true := by
  replace h0 := ok22.b h0
  replace h2 := ok24.b h2
  refine CallsIn.of_exec tab_ok mixed Try.func3 rfl rfl [] [] ?_
  repeat (conv => whnf
          first
            | refine PairK.mk (by kernel_rfl) ?_
            | refine And.intro (by decide) ?_
            | refine And.intro rfl ?_
            | refine And.intro (List.cons_ne_nil _ _) ?_
            | refine And.intro (Nat.le_of_ble_eq_true rfl) ?_
            | refine And.intro (by omega) ?_
            | refine And.intro (by simp only [List.length_map]; omega) ?_
            | refine And.intro (Eq.symm (List.length_map _)) ?_
            | refine And.intro (all_map (fun _ => rfl)) ?_
            | refine And.intro (cells_map (fun _ => rfl)) ?_
            | refine And.intro (rows_map (fun _ => rfl) (fun _ => rfl)) ?_
            | refine And.intro (okRows_one rfl rfl) ?_
            | refine And.intro (okRows_all rfl) ?_
            | refine boolF_t (beq_self_eq_true _) ?_
            | refine ⟨_, map_get (by assumption), ?_⟩
            | refine ⟨_, Eq.refl (α := Option D) _, ?_⟩
            | refine ⟨_, ⟨(List.length_map _).symm⟩, ?_⟩
            | refine ⟨_, ⟨len_one⟩, ?_⟩
            | refine ⟨_, ⟨len_two⟩, ?_⟩
            | refine ⟨_, ⟨len_three⟩, ?_⟩
            | refine ⟨_, ⟨len_four⟩, ?_⟩
            | refine ⟨_, ⟨lenl_1⟩, ?_⟩
            | refine ⟨_, ⟨lenl_2⟩, ?_⟩
            | refine ⟨_, ⟨lenl_3⟩, ?_⟩
            | refine ⟨_, ⟨lenl_4⟩, ?_⟩
            | refine ⟨_, ⟨len_more⟩, ?_⟩
            | refine ⟨_, ⟨map_slice⟩, ?_⟩
            | refine ⟨_, ⟨List.map_take⟩, ?_⟩
            | refine ⟨_, ⟨List.map_drop⟩, ?_⟩
            | refine ⟨_, ⟨map_full'⟩, ?_⟩
            | refine ⟨_, ⟨map_full⟩, ?_⟩
            | refine ⟨_, ⟨map_snoc⟩, ?_⟩
            | refine ⟨_, ⟨List.map_append⟩, ?_⟩
            | refine ⟨_, ⟨Eq.refl (α := List D) _⟩, ?_⟩
            | refine ⟨_, ⟨Eq.refl (α := Int) _⟩, by omega, ?_⟩
            | refine ⟨0, ⟨rfl⟩, Nat.zero_le _, ?_⟩
            | refine ⟨_, _, ⟨Eq.refl (α := Int) _⟩, ⟨Eq.refl (α := Int) _⟩, by omega, by omega, ?_⟩
            | refine ⟨_, _, ⟨Eq.refl (α := Nat) _⟩, ⟨Eq.refl (α := Nat) _⟩, ?_⟩
            | refine ⟨_, ⟨Eq.refl (α := Nat) _⟩, ?_⟩
            | refine ⟨_, u32and (by omega) (by omega), ?_⟩
            | refine ⟨_, u32or (by omega) (by omega), ?_⟩
            | refine ⟨_, u32xor (by omega) (by omega), ?_⟩
            | refine ⟨_, u8xor (by omega) (by omega), ?_⟩
            | refine ⟨_, u64and (by omega) (by omega), ?_⟩
            | refine ⟨_, u64or (by omega) (by omega), ?_⟩
            | refine ⟨_, u64xor (by omega) (by omega), ?_⟩
            | refine ⟨_, w64 (by omega) (by omega), ?_⟩
            | refine ⟨_, u32add (by omega), ?_⟩
            | refine ⟨_, u64add (by omega), ?_⟩
            | refine ⟨_, u8w (by omega), ?_⟩
            | refine ⟨_, u32w (by omega), ?_⟩
            | refine ⟨_, u64w (by omega), ?_⟩
            | refine ⟨_, u8m, ?_⟩
            | refine ⟨_, u64i (by omega) (by omega), ?_⟩
            | refine ⟨_, min_int, ?_⟩
            | refine ⟨_, max_int, ?_⟩
            | refine ⟨_, imin, ?_⟩
            | refine ⟨_, imax, ?_⟩)
  conv => whnf
  refine Pure.call (f10_ok x0 h0) ?_
  repeat (conv => whnf
          first
            | refine PairK.mk (by kernel_rfl) ?_
            | refine And.intro (by decide) ?_
            | refine And.intro rfl ?_
            | refine And.intro (List.cons_ne_nil _ _) ?_
            | refine And.intro (Nat.le_of_ble_eq_true rfl) ?_
            | refine And.intro (by omega) ?_
            | refine And.intro (by simp only [List.length_map]; omega) ?_
            | refine And.intro (Eq.symm (List.length_map _)) ?_
            | refine And.intro (all_map (fun _ => rfl)) ?_
            | refine And.intro (cells_map (fun _ => rfl)) ?_
            | refine And.intro (rows_map (fun _ => rfl) (fun _ => rfl)) ?_
            | refine And.intro (okRows_one rfl rfl) ?_
            | refine And.intro (okRows_all rfl) ?_
            | refine boolF_t (beq_self_eq_true _) ?_
            | refine ⟨_, map_get (by assumption), ?_⟩
            | refine ⟨_, Eq.refl (α := Option D) _, ?_⟩
            | refine ⟨_, ⟨(List.length_map _).symm⟩, ?_⟩
            | refine ⟨_, ⟨len_one⟩, ?_⟩
            | refine ⟨_, ⟨len_two⟩, ?_⟩
            | refine ⟨_, ⟨len_three⟩, ?_⟩
            | refine ⟨_, ⟨len_four⟩, ?_⟩
            | refine ⟨_, ⟨lenl_1⟩, ?_⟩
            | refine ⟨_, ⟨lenl_2⟩, ?_⟩
            | refine ⟨_, ⟨lenl_3⟩, ?_⟩
            | refine ⟨_, ⟨lenl_4⟩, ?_⟩
            | refine ⟨_, ⟨len_more⟩, ?_⟩
            | refine ⟨_, ⟨map_slice⟩, ?_⟩
            | refine ⟨_, ⟨List.map_take⟩, ?_⟩
            | refine ⟨_, ⟨List.map_drop⟩, ?_⟩
            | refine ⟨_, ⟨map_full'⟩, ?_⟩
            | refine ⟨_, ⟨map_full⟩, ?_⟩
            | refine ⟨_, ⟨map_snoc⟩, ?_⟩
            | refine ⟨_, ⟨List.map_append⟩, ?_⟩
            | refine ⟨_, ⟨Eq.refl (α := List D) _⟩, ?_⟩
            | refine ⟨_, ⟨Eq.refl (α := Int) _⟩, by omega, ?_⟩
            | refine ⟨0, ⟨rfl⟩, Nat.zero_le _, ?_⟩
            | refine ⟨_, _, ⟨Eq.refl (α := Int) _⟩, ⟨Eq.refl (α := Int) _⟩, by omega, by omega, ?_⟩
            | refine ⟨_, _, ⟨Eq.refl (α := Nat) _⟩, ⟨Eq.refl (α := Nat) _⟩, ?_⟩
            | refine ⟨_, ⟨Eq.refl (α := Nat) _⟩, ?_⟩
            | refine ⟨_, u32and (by omega) (by omega), ?_⟩
            | refine ⟨_, u32or (by omega) (by omega), ?_⟩
            | refine ⟨_, u32xor (by omega) (by omega), ?_⟩
            | refine ⟨_, u8xor (by omega) (by omega), ?_⟩
            | refine ⟨_, u64and (by omega) (by omega), ?_⟩
            | refine ⟨_, u64or (by omega) (by omega), ?_⟩
            | refine ⟨_, u64xor (by omega) (by omega), ?_⟩
            | refine ⟨_, w64 (by omega) (by omega), ?_⟩
            | refine ⟨_, u32add (by omega), ?_⟩
            | refine ⟨_, u64add (by omega), ?_⟩
            | refine ⟨_, u8w (by omega), ?_⟩
            | refine ⟨_, u32w (by omega), ?_⟩
            | refine ⟨_, u64w (by omega), ?_⟩
            | refine ⟨_, u8m, ?_⟩
            | refine ⟨_, u64i (by omega) (by omega), ?_⟩
            | refine ⟨_, min_int, ?_⟩
            | refine ⟨_, max_int, ?_⟩
            | refine ⟨_, imin, ?_⟩
            | refine ⟨_, imax, ?_⟩)
  conv => whnf
  refine Pure.call (f11_ok x0 h0) ?_
  repeat (conv => whnf
          first
            | refine PairK.mk (by kernel_rfl) ?_
            | refine And.intro (by decide) ?_
            | refine And.intro rfl ?_
            | refine And.intro (List.cons_ne_nil _ _) ?_
            | refine And.intro (Nat.le_of_ble_eq_true rfl) ?_
            | refine And.intro (by omega) ?_
            | refine And.intro (by simp only [List.length_map]; omega) ?_
            | refine And.intro (Eq.symm (List.length_map _)) ?_
            | refine And.intro (all_map (fun _ => rfl)) ?_
            | refine And.intro (cells_map (fun _ => rfl)) ?_
            | refine And.intro (rows_map (fun _ => rfl) (fun _ => rfl)) ?_
            | refine And.intro (okRows_one rfl rfl) ?_
            | refine And.intro (okRows_all rfl) ?_
            | refine boolF_t (beq_self_eq_true _) ?_
            | refine ⟨_, map_get (by assumption), ?_⟩
            | refine ⟨_, Eq.refl (α := Option D) _, ?_⟩
            | refine ⟨_, ⟨(List.length_map _).symm⟩, ?_⟩
            | refine ⟨_, ⟨len_one⟩, ?_⟩
            | refine ⟨_, ⟨len_two⟩, ?_⟩
            | refine ⟨_, ⟨len_three⟩, ?_⟩
            | refine ⟨_, ⟨len_four⟩, ?_⟩
            | refine ⟨_, ⟨lenl_1⟩, ?_⟩
            | refine ⟨_, ⟨lenl_2⟩, ?_⟩
            | refine ⟨_, ⟨lenl_3⟩, ?_⟩
            | refine ⟨_, ⟨lenl_4⟩, ?_⟩
            | refine ⟨_, ⟨len_more⟩, ?_⟩
            | refine ⟨_, ⟨map_slice⟩, ?_⟩
            | refine ⟨_, ⟨List.map_take⟩, ?_⟩
            | refine ⟨_, ⟨List.map_drop⟩, ?_⟩
            | refine ⟨_, ⟨map_full'⟩, ?_⟩
            | refine ⟨_, ⟨map_full⟩, ?_⟩
            | refine ⟨_, ⟨map_snoc⟩, ?_⟩
            | refine ⟨_, ⟨List.map_append⟩, ?_⟩
            | refine ⟨_, ⟨Eq.refl (α := List D) _⟩, ?_⟩
            | refine ⟨_, ⟨Eq.refl (α := Int) _⟩, by omega, ?_⟩
            | refine ⟨0, ⟨rfl⟩, Nat.zero_le _, ?_⟩
            | refine ⟨_, _, ⟨Eq.refl (α := Int) _⟩, ⟨Eq.refl (α := Int) _⟩, by omega, by omega, ?_⟩
            | refine ⟨_, _, ⟨Eq.refl (α := Nat) _⟩, ⟨Eq.refl (α := Nat) _⟩, ?_⟩
            | refine ⟨_, ⟨Eq.refl (α := Nat) _⟩, ?_⟩
            | refine ⟨_, u32and (by omega) (by omega), ?_⟩
            | refine ⟨_, u32or (by omega) (by omega), ?_⟩
            | refine ⟨_, u32xor (by omega) (by omega), ?_⟩
            | refine ⟨_, u8xor (by omega) (by omega), ?_⟩
            | refine ⟨_, u64and (by omega) (by omega), ?_⟩
            | refine ⟨_, u64or (by omega) (by omega), ?_⟩
            | refine ⟨_, u64xor (by omega) (by omega), ?_⟩
            | refine ⟨_, w64 (by omega) (by omega), ?_⟩
            | refine ⟨_, u32add (by omega), ?_⟩
            | refine ⟨_, u64add (by omega), ?_⟩
            | refine ⟨_, u8w (by omega), ?_⟩
            | refine ⟨_, u32w (by omega), ?_⟩
            | refine ⟨_, u64w (by omega), ?_⟩
            | refine ⟨_, u8m, ?_⟩
            | refine ⟨_, u64i (by omega) (by omega), ?_⟩
            | refine ⟨_, min_int, ?_⟩
            | refine ⟨_, max_int, ?_⟩
            | refine ⟨_, imin, ?_⟩
            | refine ⟨_, imax, ?_⟩)
  conv => whnf
  refine Pure.call (f12_ok x1 x2 h1 h2) ?_
  repeat (conv => whnf
          first
            | refine PairK.mk (by kernel_rfl) ?_
            | refine And.intro (by decide) ?_
            | refine And.intro rfl ?_
            | refine And.intro (List.cons_ne_nil _ _) ?_
            | refine And.intro (Nat.le_of_ble_eq_true rfl) ?_
            | refine And.intro (by omega) ?_
            | refine And.intro (by simp only [List.length_map]; omega) ?_
            | refine And.intro (Eq.symm (List.length_map _)) ?_
            | refine And.intro (all_map (fun _ => rfl)) ?_
            | refine And.intro (cells_map (fun _ => rfl)) ?_
            | refine And.intro (rows_map (fun _ => rfl) (fun _ => rfl)) ?_
            | refine And.intro (okRows_one rfl rfl) ?_
            | refine And.intro (okRows_all rfl) ?_
            | refine boolF_t (beq_self_eq_true _) ?_
            | refine ⟨_, map_get (by assumption), ?_⟩
            | refine ⟨_, Eq.refl (α := Option D) _, ?_⟩
            | refine ⟨_, ⟨(List.length_map _).symm⟩, ?_⟩
            | refine ⟨_, ⟨len_one⟩, ?_⟩
            | refine ⟨_, ⟨len_two⟩, ?_⟩
            | refine ⟨_, ⟨len_three⟩, ?_⟩
            | refine ⟨_, ⟨len_four⟩, ?_⟩
            | refine ⟨_, ⟨lenl_1⟩, ?_⟩
            | refine ⟨_, ⟨lenl_2⟩, ?_⟩
            | refine ⟨_, ⟨lenl_3⟩, ?_⟩
            | refine ⟨_, ⟨lenl_4⟩, ?_⟩
            | refine ⟨_, ⟨len_more⟩, ?_⟩
            | refine ⟨_, ⟨map_slice⟩, ?_⟩
            | refine ⟨_, ⟨List.map_take⟩, ?_⟩
            | refine ⟨_, ⟨List.map_drop⟩, ?_⟩
            | refine ⟨_, ⟨map_full'⟩, ?_⟩
            | refine ⟨_, ⟨map_full⟩, ?_⟩
            | refine ⟨_, ⟨map_snoc⟩, ?_⟩
            | refine ⟨_, ⟨List.map_append⟩, ?_⟩
            | refine ⟨_, ⟨Eq.refl (α := List D) _⟩, ?_⟩
            | refine ⟨_, ⟨Eq.refl (α := Int) _⟩, by omega, ?_⟩
            | refine ⟨0, ⟨rfl⟩, Nat.zero_le _, ?_⟩
            | refine ⟨_, _, ⟨Eq.refl (α := Int) _⟩, ⟨Eq.refl (α := Int) _⟩, by omega, by omega, ?_⟩
            | refine ⟨_, _, ⟨Eq.refl (α := Nat) _⟩, ⟨Eq.refl (α := Nat) _⟩, ?_⟩
            | refine ⟨_, ⟨Eq.refl (α := Nat) _⟩, ?_⟩
            | refine ⟨_, u32and (by omega) (by omega), ?_⟩
            | refine ⟨_, u32or (by omega) (by omega), ?_⟩
            | refine ⟨_, u32xor (by omega) (by omega), ?_⟩
            | refine ⟨_, u8xor (by omega) (by omega), ?_⟩
            | refine ⟨_, u64and (by omega) (by omega), ?_⟩
            | refine ⟨_, u64or (by omega) (by omega), ?_⟩
            | refine ⟨_, u64xor (by omega) (by omega), ?_⟩
            | refine ⟨_, w64 (by omega) (by omega), ?_⟩
            | refine ⟨_, u32add (by omega), ?_⟩
            | refine ⟨_, u64add (by omega), ?_⟩
            | refine ⟨_, u8w (by omega), ?_⟩
            | refine ⟨_, u32w (by omega), ?_⟩
            | refine ⟨_, u64w (by omega), ?_⟩
            | refine ⟨_, u8m, ?_⟩
            | refine ⟨_, u64i (by omega) (by omega), ?_⟩
            | refine ⟨_, min_int, ?_⟩
            | refine ⟨_, max_int, ?_⟩
            | refine ⟨_, imin, ?_⟩
            | refine ⟨_, imax, ?_⟩)
  conv => whnf
  refine Pure.call (f13_ok x1 x2 h1 h2) ?_
  repeat (conv => whnf
          first
            | refine PairK.mk (by kernel_rfl) ?_
            | refine And.intro (by decide) ?_
            | refine And.intro rfl ?_
            | refine And.intro (List.cons_ne_nil _ _) ?_
            | refine And.intro (Nat.le_of_ble_eq_true rfl) ?_
            | refine And.intro (by omega) ?_
            | refine And.intro (by simp only [List.length_map]; omega) ?_
            | refine And.intro (Eq.symm (List.length_map _)) ?_
            | refine And.intro (all_map (fun _ => rfl)) ?_
            | refine And.intro (cells_map (fun _ => rfl)) ?_
            | refine And.intro (rows_map (fun _ => rfl) (fun _ => rfl)) ?_
            | refine And.intro (okRows_one rfl rfl) ?_
            | refine And.intro (okRows_all rfl) ?_
            | refine boolF_t (beq_self_eq_true _) ?_
            | refine ⟨_, map_get (by assumption), ?_⟩
            | refine ⟨_, Eq.refl (α := Option D) _, ?_⟩
            | refine ⟨_, ⟨(List.length_map _).symm⟩, ?_⟩
            | refine ⟨_, ⟨len_one⟩, ?_⟩
            | refine ⟨_, ⟨len_two⟩, ?_⟩
            | refine ⟨_, ⟨len_three⟩, ?_⟩
            | refine ⟨_, ⟨len_four⟩, ?_⟩
            | refine ⟨_, ⟨lenl_1⟩, ?_⟩
            | refine ⟨_, ⟨lenl_2⟩, ?_⟩
            | refine ⟨_, ⟨lenl_3⟩, ?_⟩
            | refine ⟨_, ⟨lenl_4⟩, ?_⟩
            | refine ⟨_, ⟨len_more⟩, ?_⟩
            | refine ⟨_, ⟨map_slice⟩, ?_⟩
            | refine ⟨_, ⟨List.map_take⟩, ?_⟩
            | refine ⟨_, ⟨List.map_drop⟩, ?_⟩
            | refine ⟨_, ⟨map_full'⟩, ?_⟩
            | refine ⟨_, ⟨map_full⟩, ?_⟩
            | refine ⟨_, ⟨map_snoc⟩, ?_⟩
            | refine ⟨_, ⟨List.map_append⟩, ?_⟩
            | refine ⟨_, ⟨Eq.refl (α := List D) _⟩, ?_⟩
            | refine ⟨_, ⟨Eq.refl (α := Int) _⟩, by omega, ?_⟩
            | refine ⟨0, ⟨rfl⟩, Nat.zero_le _, ?_⟩
            | refine ⟨_, _, ⟨Eq.refl (α := Int) _⟩, ⟨Eq.refl (α := Int) _⟩, by omega, by omega, ?_⟩
            | refine ⟨_, _, ⟨Eq.refl (α := Nat) _⟩, ⟨Eq.refl (α := Nat) _⟩, ?_⟩
            | refine ⟨_, ⟨Eq.refl (α := Nat) _⟩, ?_⟩
            | refine ⟨_, u32and (by omega) (by omega), ?_⟩
            | refine ⟨_, u32or (by omega) (by omega), ?_⟩
            | refine ⟨_, u32xor (by omega) (by omega), ?_⟩
            | refine ⟨_, u8xor (by omega) (by omega), ?_⟩
            | refine ⟨_, u64and (by omega) (by omega), ?_⟩
            | refine ⟨_, u64or (by omega) (by omega), ?_⟩
            | refine ⟨_, u64xor (by omega) (by omega), ?_⟩
            | refine ⟨_, w64 (by omega) (by omega), ?_⟩
            | refine ⟨_, u32add (by omega), ?_⟩
            | refine ⟨_, u64add (by omega), ?_⟩
            | refine ⟨_, u8w (by omega), ?_⟩
            | refine ⟨_, u32w (by omega), ?_⟩
            | refine ⟨_, u64w (by omega), ?_⟩
            | refine ⟨_, u8m, ?_⟩
            | refine ⟨_, u64i (by omega) (by omega), ?_⟩
            | refine ⟨_, min_int, ?_⟩
            | refine ⟨_, max_int, ?_⟩
            | refine ⟨_, imin, ?_⟩
            | refine ⟨_, imax, ?_⟩)
  conv => whnf
  refine Pure.call f14_ok ?_
  repeat (conv => whnf
          first
            | refine PairK.mk (by kernel_rfl) ?_
            | refine And.intro (by decide) ?_
            | refine And.intro rfl ?_
            | refine And.intro (List.cons_ne_nil _ _) ?_
            | refine And.intro (Nat.le_of_ble_eq_true rfl) ?_
            | refine And.intro (by omega) ?_
            | refine And.intro (by simp only [List.length_map]; omega) ?_
            | refine And.intro (Eq.symm (List.length_map _)) ?_
            | refine And.intro (all_map (fun _ => rfl)) ?_
            | refine And.intro (cells_map (fun _ => rfl)) ?_
            | refine And.intro (rows_map (fun _ => rfl) (fun _ => rfl)) ?_
            | refine And.intro (okRows_one rfl rfl) ?_
            | refine And.intro (okRows_all rfl) ?_
            | refine boolF_t (beq_self_eq_true _) ?_
            | refine ⟨_, map_get (by assumption), ?_⟩
            | refine ⟨_, Eq.refl (α := Option D) _, ?_⟩
            | refine ⟨_, ⟨(List.length_map _).symm⟩, ?_⟩
            | refine ⟨_, ⟨len_one⟩, ?_⟩
            | refine ⟨_, ⟨len_two⟩, ?_⟩
            | refine ⟨_, ⟨len_three⟩, ?_⟩
            | refine ⟨_, ⟨len_four⟩, ?_⟩
            | refine ⟨_, ⟨lenl_1⟩, ?_⟩
            | refine ⟨_, ⟨lenl_2⟩, ?_⟩
            | refine ⟨_, ⟨lenl_3⟩, ?_⟩
            | refine ⟨_, ⟨lenl_4⟩, ?_⟩
            | refine ⟨_, ⟨len_more⟩, ?_⟩
            | refine ⟨_, ⟨map_slice⟩, ?_⟩
            | refine ⟨_, ⟨List.map_take⟩, ?_⟩
            | refine ⟨_, ⟨List.map_drop⟩, ?_⟩
            | refine ⟨_, ⟨map_full'⟩, ?_⟩
            | refine ⟨_, ⟨map_full⟩, ?_⟩
            | refine ⟨_, ⟨map_snoc⟩, ?_⟩
            | refine ⟨_, ⟨List.map_append⟩, ?_⟩
            | refine ⟨_, ⟨Eq.refl (α := List D) _⟩, ?_⟩
            | refine ⟨_, ⟨Eq.refl (α := Int) _⟩, by omega, ?_⟩
            | refine ⟨0, ⟨rfl⟩, Nat.zero_le _, ?_⟩
            | refine ⟨_, _, ⟨Eq.refl (α := Int) _⟩, ⟨Eq.refl (α := Int) _⟩, by omega, by omega, ?_⟩
            | refine ⟨_, _, ⟨Eq.refl (α := Nat) _⟩, ⟨Eq.refl (α := Nat) _⟩, ?_⟩
            | refine ⟨_, ⟨Eq.refl (α := Nat) _⟩, ?_⟩
            | refine ⟨_, u32and (by omega) (by omega), ?_⟩
            | refine ⟨_, u32or (by omega) (by omega), ?_⟩
            | refine ⟨_, u32xor (by omega) (by omega), ?_⟩
            | refine ⟨_, u8xor (by omega) (by omega), ?_⟩
            | refine ⟨_, u64and (by omega) (by omega), ?_⟩
            | refine ⟨_, u64or (by omega) (by omega), ?_⟩
            | refine ⟨_, u64xor (by omega) (by omega), ?_⟩
            | refine ⟨_, w64 (by omega) (by omega), ?_⟩
            | refine ⟨_, u32add (by omega), ?_⟩
            | refine ⟨_, u64add (by omega), ?_⟩
            | refine ⟨_, u8w (by omega), ?_⟩
            | refine ⟨_, u32w (by omega), ?_⟩
            | refine ⟨_, u64w (by omega), ?_⟩
            | refine ⟨_, u8m, ?_⟩
            | refine ⟨_, u64i (by omega) (by omega), ?_⟩
            | refine ⟨_, min_int, ?_⟩
            | refine ⟨_, max_int, ?_⟩
            | refine ⟨_, imin, ?_⟩
            | refine ⟨_, imax, ?_⟩)
  conv => whnf
  exact ⟨rfl⟩

end Go.Proofs.Ythlngafnlnincaa

