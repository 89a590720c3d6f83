import Derived.Test.YtgcllbcpdcfkmaaM9
namespace Go.Proofs.Ytgcllbcpdcfkmaa
open Go.A
set_option linter.unusedVariables false
set_option linter.unusedSimpArgs false
set_option linter.unnecessarySimpa false
attribute [local irreducible] IntKind.wrap bitsI
set_option maxRecDepth 100000
set_option maxHeartbeats 4000000

def moveM (m : T24) (b c : Int) : T24 × Int :=
  if ¬ rightP m then (⟨0, 0, []⟩, 1) else if b < 0 ∨ m.n_ ≤ b then (⟨0, 0, []⟩, 9) else
  if ¬ (0 ≤ c ∧ c < 16) then (⟨0, 0, []⟩, 1) else
  match at13 m b with
  | none => (⟨0, 0, []⟩, 1)
  | some (i, x) => if x.node_ = c then (⟨0, 0, []⟩, 10) else nextM m (m.pieces_.take i ++ [⟨x.from_, x.to_, c⟩] ++ m.pieces_.drop (i + 1))


theorem f28_ok (m : T24) (b c : Int) (hm : ok25 m) (hb : ok3 b) : Pure Try.prog 28 [d25 m, d3 b, d3 c] (.tup [d25 (moveM m b c).1, d3 (moveM m b c).2]) := by
  refine Pure.ofT ⟨sc25 _ _, trivial, trivial, trivial⟩ ⟨sc25 _ _, trivial, trivial⟩ ?_
  refine CallsIn.of_exec tab_ok mixed Try.func28 rfl rfl [] [] ?_
  have h24 := f24_ok m b hm hb
  by_cases hr : rightP m
  · by_cases hrange : b < 0 ∨ m.n_ ≤ b
    · rw [moveM, if_neg (fun h => h hr), if_pos hrange]
      rw [findM_out hr hrange] at h24
      repeat' (conv => whnf
               first
                 | refine PairK.mk (by kernel_rfl) ?_
                 | refine And.intro (by decide) ?_
                 | refine And.intro rfl ?_
                 | refine And.intro (List.cons_ne_nil _ _) ?_
                 | refine And.intro (Nat.le_of_ble_eq_true rfl) ?_
                 | refine And.intro (by omega) ?_
                 | refine And.intro (by simp only [List.length_map, List.length_append, List.length_cons, List.length_nil]; omega) ?_
                 | refine And.intro (by simpa only [List.length_map, List.length_append, List.length_cons, List.length_nil] using rfl) ?_
                 | refine And.intro (Eq.symm (List.length_map _)) ?_
                 | refine And.intro (all_map (fun _ => rfl)) ?_
                 | refine And.intro (cells_map (fun _ => rfl)) ?_
                 | refine And.intro (rows_map (fun _ => rfl) (fun _ => rfl)) ?_
                 | refine And.intro (okRows_one rfl rfl) ?_
                 | refine And.intro (okRows_all rfl) ?_
                 | refine boolF_t (beq_self_eq_true _) ?_
                 | refine Exists.intro _ (And.intro (map_get (by assumption)) ?_)
                 | refine Exists.intro _ (And.intro (Eq.refl (α := Option D) _) ?_)
                 | refine Exists.intro _ (And.intro (⟨(List.length_map _).symm⟩) ?_)
                 | refine Exists.intro _ (And.intro (⟨len_one⟩) ?_)
                 | refine Exists.intro _ (And.intro (⟨len_two⟩) ?_)
                 | refine Exists.intro _ (And.intro (⟨len_three⟩) ?_)
                 | refine Exists.intro _ (And.intro (⟨len_four⟩) ?_)
                 | refine Exists.intro _ (And.intro (⟨lenl_1⟩) ?_)
                 | refine Exists.intro _ (And.intro (⟨lenl_2⟩) ?_)
                 | refine Exists.intro _ (And.intro (⟨lenl_3⟩) ?_)
                 | refine Exists.intro _ (And.intro (⟨lenl_4⟩) ?_)
                 | refine Exists.intro _ (And.intro (⟨len_more⟩) ?_)
                 | refine Exists.intro _ (And.intro (⟨map_slice⟩) ?_)
                 | refine Exists.intro _ (And.intro (⟨List.map_take⟩) ?_)
                 | refine Exists.intro _ (And.intro (⟨List.map_drop⟩) ?_)
                 | refine Exists.intro _ (And.intro (⟨map_full'⟩) ?_)
                 | refine Exists.intro _ (And.intro (⟨map_full⟩) ?_)
                 | refine Exists.intro _ (And.intro (⟨map_snoc⟩) ?_)
                 | refine Exists.intro _ (And.intro (⟨List.map_append⟩) ?_)
                 | refine Exists.intro _ (And.intro (⟨Eq.refl (α := List D) _⟩) ?_)
                 | refine Exists.intro _ (And.intro (⟨Eq.refl (α := Int) _⟩) (And.intro (by omega) ?_))
                 | refine Exists.intro (0) (And.intro (⟨rfl⟩) (And.intro (Nat.zero_le _) ?_))
                 | refine Exists.intro _ (And.intro (⟨nc1⟩) (And.intro (by omega) ?_))
                 | refine Exists.intro _ (Exists.intro _ (And.intro (⟨Eq.refl (α := Int) _⟩) (And.intro (⟨Eq.refl (α := Int) _⟩) (And.intro (by omega) (And.intro (by omega) ?_)))))
                 | refine Exists.intro _ (Exists.intro _ (And.intro (⟨Eq.refl (α := Nat) _⟩) (And.intro (⟨Eq.refl (α := Nat) _⟩) ?_)))
                 | refine Exists.intro _ (And.intro (⟨Eq.refl (α := Nat) _⟩) ?_)
                 | refine Exists.intro _ (And.intro (u32and (by omega) (by omega)) ?_)
                 | refine Exists.intro _ (And.intro (u32or (by omega) (by omega)) ?_)
                 | refine Exists.intro _ (And.intro (u32xor (by omega) (by omega)) ?_)
                 | refine Exists.intro _ (And.intro (u8xor (by omega) (by omega)) ?_)
                 | refine Exists.intro _ (And.intro (u64and (by omega) (by omega)) ?_)
                 | refine Exists.intro _ (And.intro (u64or (by omega) (by omega)) ?_)
                 | refine Exists.intro _ (And.intro (u64xor (by omega) (by omega)) ?_)
                 | refine Exists.intro _ (And.intro (w64 (by omega) (by omega)) ?_)
                 | refine Exists.intro _ (And.intro (u32add (by omega)) ?_)
                 | refine Exists.intro _ (And.intro (u64add (by omega)) ?_)
                 | refine Exists.intro _ (And.intro (u8w (by omega)) ?_)
                 | refine Exists.intro _ (And.intro (u32w (by omega)) ?_)
                 | refine Exists.intro _ (And.intro (u64w (by omega)) ?_)
                 | refine Exists.intro _ (And.intro (u8m) ?_)
                 | refine Exists.intro _ (And.intro (u64i (by omega) (by omega)) ?_)
                 | refine Exists.intro _ (And.intro (min_int) ?_)
                 | refine Exists.intro _ (And.intro (max_int) ?_)
                 | refine Exists.intro _ (And.intro (imin) ?_)
                 | refine Exists.intro _ (And.intro (imax) ?_)
                 | refine Pure.call (f33_ok _) ?_
                 | refine Pure.locK (f33_ok _) ?_
                 | refine Pure.call (f34_ok _) ?_
                 | refine Pure.locK (f34_ok _) ?_
                 | refine boolF_not ?_
                 | refine boolF_dect rfl ?_
                 | refine boolF_dect (by assumption) ?_
                 | refine boolF_decf (by assumption) ?_
                 | refine boolF_dect (by omega) ?_
                 | refine boolF_decf (by omega) ?_
                 | refine boolF_beqt (by omega) ?_
                 | refine boolF_beqf (by omega) ?_
                 | refine boolF_bnet (by omega) ?_
                 | refine boolF_bnef (by omega) ?_
                 | refine boolF_nbeqt (by omega) ?_
                 | refine boolF_nbeqf (by omega) ?_
                 | refine boolF_nbnet (by omega) ?_
                 | refine boolF_nbnef (by omega) ?_
                 | refine boolF_t (by assumption) ?_
                 | refine boolF_f (by assumption) ?_
                 | refine boolF_dec (fun _ => ?_) (fun _ => ?_)
                 | refine boolF_beq (fun _ => ?_) (fun _ => ?_)
                 | refine boolF_bne (fun _ => ?_) (fun _ => ?_)
                 | refine boolF_nbeq (fun _ => ?_) (fun _ => ?_)
                 | refine boolF_nbne (fun _ => ?_) (fun _ => ?_)
                 | refine boolF_leq (fun _ => ?_) (fun _ => ?_)
                 | refine Both.mk ?_ ?_)
      all_goals (conv => whnf)
      refine Pure.call h24 ?_
      repeat' (conv => whnf
               first
                 | refine PairK.mk (by kernel_rfl) ?_
                 | refine And.intro (by decide) ?_
                 | refine And.intro rfl ?_
                 | refine And.intro (List.cons_ne_nil _ _) ?_
                 | refine And.intro (Nat.le_of_ble_eq_true rfl) ?_
                 | refine And.intro (by omega) ?_
                 | refine And.intro (by simp only [List.length_map, List.length_append, List.length_cons, List.length_nil]; omega) ?_
                 | refine And.intro (by simpa only [List.length_map, List.length_append, List.length_cons, List.length_nil] using rfl) ?_
                 | refine And.intro (Eq.symm (List.length_map _)) ?_
                 | refine And.intro (all_map (fun _ => rfl)) ?_
                 | refine And.intro (cells_map (fun _ => rfl)) ?_
                 | refine And.intro (rows_map (fun _ => rfl) (fun _ => rfl)) ?_
                 | refine And.intro (okRows_one rfl rfl) ?_
                 | refine And.intro (okRows_all rfl) ?_
                 | refine boolF_t (beq_self_eq_true _) ?_
                 | refine Exists.intro _ (And.intro (map_get (by assumption)) ?_)
                 | refine Exists.intro _ (And.intro (Eq.refl (α := Option D) _) ?_)
                 | refine Exists.intro _ (And.intro (⟨(List.length_map _).symm⟩) ?_)
                 | refine Exists.intro _ (And.intro (⟨len_one⟩) ?_)
                 | refine Exists.intro _ (And.intro (⟨len_two⟩) ?_)
                 | refine Exists.intro _ (And.intro (⟨len_three⟩) ?_)
                 | refine Exists.intro _ (And.intro (⟨len_four⟩) ?_)
                 | refine Exists.intro _ (And.intro (⟨lenl_1⟩) ?_)
                 | refine Exists.intro _ (And.intro (⟨lenl_2⟩) ?_)
                 | refine Exists.intro _ (And.intro (⟨lenl_3⟩) ?_)
                 | refine Exists.intro _ (And.intro (⟨lenl_4⟩) ?_)
                 | refine Exists.intro _ (And.intro (⟨len_more⟩) ?_)
                 | refine Exists.intro _ (And.intro (⟨map_slice⟩) ?_)
                 | refine Exists.intro _ (And.intro (⟨List.map_take⟩) ?_)
                 | refine Exists.intro _ (And.intro (⟨List.map_drop⟩) ?_)
                 | refine Exists.intro _ (And.intro (⟨map_full'⟩) ?_)
                 | refine Exists.intro _ (And.intro (⟨map_full⟩) ?_)
                 | refine Exists.intro _ (And.intro (⟨map_snoc⟩) ?_)
                 | refine Exists.intro _ (And.intro (⟨List.map_append⟩) ?_)
                 | refine Exists.intro _ (And.intro (⟨Eq.refl (α := List D) _⟩) ?_)
                 | refine Exists.intro _ (And.intro (⟨Eq.refl (α := Int) _⟩) (And.intro (by omega) ?_))
                 | refine Exists.intro (0) (And.intro (⟨rfl⟩) (And.intro (Nat.zero_le _) ?_))
                 | refine Exists.intro _ (And.intro (⟨nc1⟩) (And.intro (by omega) ?_))
                 | refine Exists.intro _ (Exists.intro _ (And.intro (⟨Eq.refl (α := Int) _⟩) (And.intro (⟨Eq.refl (α := Int) _⟩) (And.intro (by omega) (And.intro (by omega) ?_)))))
                 | refine Exists.intro _ (Exists.intro _ (And.intro (⟨Eq.refl (α := Nat) _⟩) (And.intro (⟨Eq.refl (α := Nat) _⟩) ?_)))
                 | refine Exists.intro _ (And.intro (⟨Eq.refl (α := Nat) _⟩) ?_)
                 | refine Exists.intro _ (And.intro (u32and (by omega) (by omega)) ?_)
                 | refine Exists.intro _ (And.intro (u32or (by omega) (by omega)) ?_)
                 | refine Exists.intro _ (And.intro (u32xor (by omega) (by omega)) ?_)
                 | refine Exists.intro _ (And.intro (u8xor (by omega) (by omega)) ?_)
                 | refine Exists.intro _ (And.intro (u64and (by omega) (by omega)) ?_)
                 | refine Exists.intro _ (And.intro (u64or (by omega) (by omega)) ?_)
                 | refine Exists.intro _ (And.intro (u64xor (by omega) (by omega)) ?_)
                 | refine Exists.intro _ (And.intro (w64 (by omega) (by omega)) ?_)
                 | refine Exists.intro _ (And.intro (u32add (by omega)) ?_)
                 | refine Exists.intro _ (And.intro (u64add (by omega)) ?_)
                 | refine Exists.intro _ (And.intro (u8w (by omega)) ?_)
                 | refine Exists.intro _ (And.intro (u32w (by omega)) ?_)
                 | refine Exists.intro _ (And.intro (u64w (by omega)) ?_)
                 | refine Exists.intro _ (And.intro (u8m) ?_)
                 | refine Exists.intro _ (And.intro (u64i (by omega) (by omega)) ?_)
                 | refine Exists.intro _ (And.intro (min_int) ?_)
                 | refine Exists.intro _ (And.intro (max_int) ?_)
                 | refine Exists.intro _ (And.intro (imin) ?_)
                 | refine Exists.intro _ (And.intro (imax) ?_)
                 | refine Pure.call (f33_ok _) ?_
                 | refine Pure.locK (f33_ok _) ?_
                 | refine Pure.call (f34_ok _) ?_
                 | refine Pure.locK (f34_ok _) ?_
                 | refine boolF_not ?_
                 | refine boolF_dect rfl ?_
                 | refine boolF_dect (by assumption) ?_
                 | refine boolF_decf (by assumption) ?_
                 | refine boolF_dect (by omega) ?_
                 | refine boolF_decf (by omega) ?_
                 | refine boolF_beqt (by omega) ?_
                 | refine boolF_beqf (by omega) ?_
                 | refine boolF_bnet (by omega) ?_
                 | refine boolF_bnef (by omega) ?_
                 | refine boolF_nbeqt (by omega) ?_
                 | refine boolF_nbeqf (by omega) ?_
                 | refine boolF_nbnet (by omega) ?_
                 | refine boolF_nbnef (by omega) ?_
                 | refine boolF_t (by assumption) ?_
                 | refine boolF_f (by assumption) ?_
                 | refine boolF_dec (fun _ => ?_) (fun _ => ?_)
                 | refine boolF_beq (fun _ => ?_) (fun _ => ?_)
                 | refine boolF_bne (fun _ => ?_) (fun _ => ?_)
                 | refine boolF_nbeq (fun _ => ?_) (fun _ => ?_)
                 | refine boolF_nbne (fun _ => ?_) (fun _ => ?_)
                 | refine boolF_leq (fun _ => ?_) (fun _ => ?_)
                 | refine Both.mk ?_ ?_)
      all_goals (conv => whnf)
      exact ⟨Told.wk wk_zero⟩
    obtain ⟨i, x, e1, hx, e3, e4, e5, e6, e7, e8, e9, e10⟩ := find_spec hr (b := b) (by omega) (by omega)
    have e11 := at13_eq hr (by omega) (by omega) e1 hx
    have hi := (List.getElem?_eq_some_iff.mp hx).1
    have hv := hr.2.1
    have hl := hr.2.2.2.2.1
    rw [moveM, if_neg (fun h => h hr), if_neg hrange, e11]
    dsimp only
    rw [e1] at h24
    dsimp only at h24
    repeat' (conv => whnf
             first
               | refine PairK.mk (by kernel_rfl) ?_
               | refine And.intro (by decide) ?_
               | refine And.intro rfl ?_
               | refine And.intro (List.cons_ne_nil _ _) ?_
               | refine And.intro (Nat.le_of_ble_eq_true rfl) ?_
               | refine And.intro (by omega) ?_
               | refine And.intro (by simp only [List.length_map, List.length_append, List.length_cons, List.length_nil]; omega) ?_
               | refine And.intro (by simpa only [List.length_map, List.length_append, List.length_cons, List.length_nil] using rfl) ?_
               | refine And.intro (Eq.symm (List.length_map _)) ?_
               | refine And.intro (all_map (fun _ => rfl)) ?_
               | refine And.intro (cells_map (fun _ => rfl)) ?_
               | refine And.intro (rows_map (fun _ => rfl) (fun _ => rfl)) ?_
               | refine And.intro (okRows_one rfl rfl) ?_
               | refine And.intro (okRows_all rfl) ?_
               | refine boolF_t (beq_self_eq_true _) ?_
               | refine Exists.intro _ (And.intro (map_get (by assumption)) ?_)
               | refine Exists.intro _ (And.intro (Eq.refl (α := Option D) _) ?_)
               | refine Exists.intro _ (And.intro (⟨(List.length_map _).symm⟩) ?_)
               | refine Exists.intro _ (And.intro (⟨len_one⟩) ?_)
               | refine Exists.intro _ (And.intro (⟨len_two⟩) ?_)
               | refine Exists.intro _ (And.intro (⟨len_three⟩) ?_)
               | refine Exists.intro _ (And.intro (⟨len_four⟩) ?_)
               | refine Exists.intro _ (And.intro (⟨lenl_1⟩) ?_)
               | refine Exists.intro _ (And.intro (⟨lenl_2⟩) ?_)
               | refine Exists.intro _ (And.intro (⟨lenl_3⟩) ?_)
               | refine Exists.intro _ (And.intro (⟨lenl_4⟩) ?_)
               | refine Exists.intro _ (And.intro (⟨len_more⟩) ?_)
               | refine Exists.intro _ (And.intro (⟨map_slice⟩) ?_)
               | refine Exists.intro _ (And.intro (⟨List.map_take⟩) ?_)
               | refine Exists.intro _ (And.intro (⟨List.map_drop⟩) ?_)
               | refine Exists.intro _ (And.intro (⟨map_full'⟩) ?_)
               | refine Exists.intro _ (And.intro (⟨map_full⟩) ?_)
               | refine Exists.intro _ (And.intro (⟨map_snoc⟩) ?_)
               | refine Exists.intro _ (And.intro (⟨List.map_append⟩) ?_)
               | refine Exists.intro _ (And.intro (⟨Eq.refl (α := List D) _⟩) ?_)
               | refine Exists.intro _ (And.intro (⟨Eq.refl (α := Int) _⟩) (And.intro (by omega) ?_))
               | refine Exists.intro (0) (And.intro (⟨rfl⟩) (And.intro (Nat.zero_le _) ?_))
               | refine Exists.intro _ (And.intro (⟨nc1⟩) (And.intro (by omega) ?_))
               | refine Exists.intro _ (Exists.intro _ (And.intro (⟨Eq.refl (α := Int) _⟩) (And.intro (⟨Eq.refl (α := Int) _⟩) (And.intro (by omega) (And.intro (by omega) ?_)))))
               | refine Exists.intro _ (Exists.intro _ (And.intro (⟨Eq.refl (α := Nat) _⟩) (And.intro (⟨Eq.refl (α := Nat) _⟩) ?_)))
               | refine Exists.intro _ (And.intro (⟨Eq.refl (α := Nat) _⟩) ?_)
               | refine Exists.intro _ (And.intro (u32and (by omega) (by omega)) ?_)
               | refine Exists.intro _ (And.intro (u32or (by omega) (by omega)) ?_)
               | refine Exists.intro _ (And.intro (u32xor (by omega) (by omega)) ?_)
               | refine Exists.intro _ (And.intro (u8xor (by omega) (by omega)) ?_)
               | refine Exists.intro _ (And.intro (u64and (by omega) (by omega)) ?_)
               | refine Exists.intro _ (And.intro (u64or (by omega) (by omega)) ?_)
               | refine Exists.intro _ (And.intro (u64xor (by omega) (by omega)) ?_)
               | refine Exists.intro _ (And.intro (w64 (by omega) (by omega)) ?_)
               | refine Exists.intro _ (And.intro (u32add (by omega)) ?_)
               | refine Exists.intro _ (And.intro (u64add (by omega)) ?_)
               | refine Exists.intro _ (And.intro (u8w (by omega)) ?_)
               | refine Exists.intro _ (And.intro (u32w (by omega)) ?_)
               | refine Exists.intro _ (And.intro (u64w (by omega)) ?_)
               | refine Exists.intro _ (And.intro (u8m) ?_)
               | refine Exists.intro _ (And.intro (u64i (by omega) (by omega)) ?_)
               | refine Exists.intro _ (And.intro (min_int) ?_)
               | refine Exists.intro _ (And.intro (max_int) ?_)
               | refine Exists.intro _ (And.intro (imin) ?_)
               | refine Exists.intro _ (And.intro (imax) ?_)
               | refine Pure.call (f33_ok _) ?_
               | refine Pure.locK (f33_ok _) ?_
               | refine Pure.call (f34_ok _) ?_
               | refine Pure.locK (f34_ok _) ?_
               | refine boolF_not ?_
               | refine boolF_dect rfl ?_
               | refine boolF_dect (by assumption) ?_
               | refine boolF_decf (by assumption) ?_
               | refine boolF_dect (by omega) ?_
               | refine boolF_decf (by omega) ?_
               | refine boolF_beqt (by omega) ?_
               | refine boolF_beqf (by omega) ?_
               | refine boolF_bnet (by omega) ?_
               | refine boolF_bnef (by omega) ?_
               | refine boolF_nbeqt (by omega) ?_
               | refine boolF_nbeqf (by omega) ?_
               | refine boolF_nbnet (by omega) ?_
               | refine boolF_nbnef (by omega) ?_
               | refine boolF_t (by assumption) ?_
               | refine boolF_f (by assumption) ?_
               | refine boolF_dec (fun _ => ?_) (fun _ => ?_)
               | refine boolF_beq (fun _ => ?_) (fun _ => ?_)
               | refine boolF_bne (fun _ => ?_) (fun _ => ?_)
               | refine boolF_nbeq (fun _ => ?_) (fun _ => ?_)
               | refine boolF_nbne (fun _ => ?_) (fun _ => ?_)
               | refine boolF_leq (fun _ => ?_) (fun _ => ?_)
               | refine Both.mk ?_ ?_)
    all_goals (conv => whnf)
    refine Pure.call h24 ?_
    repeat' (conv => whnf
             first
               | refine PairK.mk (by kernel_rfl) ?_
               | refine And.intro (by decide) ?_
               | refine And.intro rfl ?_
               | refine And.intro (List.cons_ne_nil _ _) ?_
               | refine And.intro (Nat.le_of_ble_eq_true rfl) ?_
               | refine And.intro (by omega) ?_
               | refine And.intro (by simp only [List.length_map, List.length_append, List.length_cons, List.length_nil]; omega) ?_
               | refine And.intro (by simpa only [List.length_map, List.length_append, List.length_cons, List.length_nil] using rfl) ?_
               | refine And.intro (Eq.symm (List.length_map _)) ?_
               | refine And.intro (all_map (fun _ => rfl)) ?_
               | refine And.intro (cells_map (fun _ => rfl)) ?_
               | refine And.intro (rows_map (fun _ => rfl) (fun _ => rfl)) ?_
               | refine And.intro (okRows_one rfl rfl) ?_
               | refine And.intro (okRows_all rfl) ?_
               | refine boolF_t (beq_self_eq_true _) ?_
               | refine Exists.intro _ (And.intro (map_get (by assumption)) ?_)
               | refine Exists.intro _ (And.intro (Eq.refl (α := Option D) _) ?_)
               | refine Exists.intro _ (And.intro (⟨(List.length_map _).symm⟩) ?_)
               | refine Exists.intro _ (And.intro (⟨len_one⟩) ?_)
               | refine Exists.intro _ (And.intro (⟨len_two⟩) ?_)
               | refine Exists.intro _ (And.intro (⟨len_three⟩) ?_)
               | refine Exists.intro _ (And.intro (⟨len_four⟩) ?_)
               | refine Exists.intro _ (And.intro (⟨lenl_1⟩) ?_)
               | refine Exists.intro _ (And.intro (⟨lenl_2⟩) ?_)
               | refine Exists.intro _ (And.intro (⟨lenl_3⟩) ?_)
               | refine Exists.intro _ (And.intro (⟨lenl_4⟩) ?_)
               | refine Exists.intro _ (And.intro (⟨len_more⟩) ?_)
               | refine Exists.intro _ (And.intro (⟨map_slice⟩) ?_)
               | refine Exists.intro _ (And.intro (⟨List.map_take⟩) ?_)
               | refine Exists.intro _ (And.intro (⟨List.map_drop⟩) ?_)
               | refine Exists.intro _ (And.intro (⟨map_full'⟩) ?_)
               | refine Exists.intro _ (And.intro (⟨map_full⟩) ?_)
               | refine Exists.intro _ (And.intro (⟨map_snoc⟩) ?_)
               | refine Exists.intro _ (And.intro (⟨List.map_append⟩) ?_)
               | refine Exists.intro _ (And.intro (⟨Eq.refl (α := List D) _⟩) ?_)
               | refine Exists.intro _ (And.intro (⟨Eq.refl (α := Int) _⟩) (And.intro (by omega) ?_))
               | refine Exists.intro (0) (And.intro (⟨rfl⟩) (And.intro (Nat.zero_le _) ?_))
               | refine Exists.intro _ (And.intro (⟨nc1⟩) (And.intro (by omega) ?_))
               | refine Exists.intro _ (Exists.intro _ (And.intro (⟨Eq.refl (α := Int) _⟩) (And.intro (⟨Eq.refl (α := Int) _⟩) (And.intro (by omega) (And.intro (by omega) ?_)))))
               | refine Exists.intro _ (Exists.intro _ (And.intro (⟨Eq.refl (α := Nat) _⟩) (And.intro (⟨Eq.refl (α := Nat) _⟩) ?_)))
               | refine Exists.intro _ (And.intro (⟨Eq.refl (α := Nat) _⟩) ?_)
               | refine Exists.intro _ (And.intro (u32and (by omega) (by omega)) ?_)
               | refine Exists.intro _ (And.intro (u32or (by omega) (by omega)) ?_)
               | refine Exists.intro _ (And.intro (u32xor (by omega) (by omega)) ?_)
               | refine Exists.intro _ (And.intro (u8xor (by omega) (by omega)) ?_)
               | refine Exists.intro _ (And.intro (u64and (by omega) (by omega)) ?_)
               | refine Exists.intro _ (And.intro (u64or (by omega) (by omega)) ?_)
               | refine Exists.intro _ (And.intro (u64xor (by omega) (by omega)) ?_)
               | refine Exists.intro _ (And.intro (w64 (by omega) (by omega)) ?_)
               | refine Exists.intro _ (And.intro (u32add (by omega)) ?_)
               | refine Exists.intro _ (And.intro (u64add (by omega)) ?_)
               | refine Exists.intro _ (And.intro (u8w (by omega)) ?_)
               | refine Exists.intro _ (And.intro (u32w (by omega)) ?_)
               | refine Exists.intro _ (And.intro (u64w (by omega)) ?_)
               | refine Exists.intro _ (And.intro (u8m) ?_)
               | refine Exists.intro _ (And.intro (u64i (by omega) (by omega)) ?_)
               | refine Exists.intro _ (And.intro (min_int) ?_)
               | refine Exists.intro _ (And.intro (max_int) ?_)
               | refine Exists.intro _ (And.intro (imin) ?_)
               | refine Exists.intro _ (And.intro (imax) ?_)
               | refine Pure.call (f33_ok _) ?_
               | refine Pure.locK (f33_ok _) ?_
               | refine Pure.call (f34_ok _) ?_
               | refine Pure.locK (f34_ok _) ?_
               | refine boolF_not ?_
               | refine boolF_dect rfl ?_
               | refine boolF_dect (by assumption) ?_
               | refine boolF_decf (by assumption) ?_
               | refine boolF_dect (by omega) ?_
               | refine boolF_decf (by omega) ?_
               | refine boolF_beqt (by omega) ?_
               | refine boolF_beqf (by omega) ?_
               | refine boolF_bnet (by omega) ?_
               | refine boolF_bnef (by omega) ?_
               | refine boolF_nbeqt (by omega) ?_
               | refine boolF_nbeqf (by omega) ?_
               | refine boolF_nbnet (by omega) ?_
               | refine boolF_nbnef (by omega) ?_
               | refine boolF_t (by assumption) ?_
               | refine boolF_f (by assumption) ?_
               | refine boolF_dec (fun _ => ?_) (fun _ => ?_)
               | refine boolF_beq (fun _ => ?_) (fun _ => ?_)
               | refine boolF_bne (fun _ => ?_) (fun _ => ?_)
               | refine boolF_nbeq (fun _ => ?_) (fun _ => ?_)
               | refine boolF_nbne (fun _ => ?_) (fun _ => ?_)
               | refine boolF_leq (fun _ => ?_) (fun _ => ?_)
               | refine Both.mk ?_ ?_)
    all_goals (conv => whnf)
    · rw [if_neg (by omega), if_pos (by assumption)]
      exact ⟨Told.wk wk_zero⟩
    · rw [if_neg (by omega), if_neg (by omega)]
      refine Pure.call (f36_ok m i (i + 1) [⟨x.from_, x.to_, c⟩] hm (by omega) (by omega) (by omega) (by omega) (by simp)) ?_
      repeat' (conv => whnf
               first
                 | refine PairK.mk (by kernel_rfl) ?_
                 | refine And.intro (by decide) ?_
                 | refine And.intro rfl ?_
                 | refine And.intro (List.cons_ne_nil _ _) ?_
                 | refine And.intro (Nat.le_of_ble_eq_true rfl) ?_
                 | refine And.intro (by omega) ?_
                 | refine And.intro (by simp only [List.length_map, List.length_append, List.length_cons, List.length_nil]; omega) ?_
                 | refine And.intro (by simpa only [List.length_map, List.length_append, List.length_cons, List.length_nil] using rfl) ?_
                 | refine And.intro (Eq.symm (List.length_map _)) ?_
                 | refine And.intro (all_map (fun _ => rfl)) ?_
                 | refine And.intro (cells_map (fun _ => rfl)) ?_
                 | refine And.intro (rows_map (fun _ => rfl) (fun _ => rfl)) ?_
                 | refine And.intro (okRows_one rfl rfl) ?_
                 | refine And.intro (okRows_all rfl) ?_
                 | refine boolF_t (beq_self_eq_true _) ?_
                 | refine Exists.intro _ (And.intro (map_get (by assumption)) ?_)
                 | refine Exists.intro _ (And.intro (Eq.refl (α := Option D) _) ?_)
                 | refine Exists.intro _ (And.intro (⟨(List.length_map _).symm⟩) ?_)
                 | refine Exists.intro _ (And.intro (⟨len_one⟩) ?_)
                 | refine Exists.intro _ (And.intro (⟨len_two⟩) ?_)
                 | refine Exists.intro _ (And.intro (⟨len_three⟩) ?_)
                 | refine Exists.intro _ (And.intro (⟨len_four⟩) ?_)
                 | refine Exists.intro _ (And.intro (⟨lenl_1⟩) ?_)
                 | refine Exists.intro _ (And.intro (⟨lenl_2⟩) ?_)
                 | refine Exists.intro _ (And.intro (⟨lenl_3⟩) ?_)
                 | refine Exists.intro _ (And.intro (⟨lenl_4⟩) ?_)
                 | refine Exists.intro _ (And.intro (⟨len_more⟩) ?_)
                 | refine Exists.intro _ (And.intro (⟨map_slice⟩) ?_)
                 | refine Exists.intro _ (And.intro (⟨List.map_take⟩) ?_)
                 | refine Exists.intro _ (And.intro (⟨List.map_drop⟩) ?_)
                 | refine Exists.intro _ (And.intro (⟨map_full'⟩) ?_)
                 | refine Exists.intro _ (And.intro (⟨map_full⟩) ?_)
                 | refine Exists.intro _ (And.intro (⟨map_snoc⟩) ?_)
                 | refine Exists.intro _ (And.intro (⟨List.map_append⟩) ?_)
                 | refine Exists.intro _ (And.intro (⟨Eq.refl (α := List D) _⟩) ?_)
                 | refine Exists.intro _ (And.intro (⟨Eq.refl (α := Int) _⟩) (And.intro (by omega) ?_))
                 | refine Exists.intro (0) (And.intro (⟨rfl⟩) (And.intro (Nat.zero_le _) ?_))
                 | refine Exists.intro _ (And.intro (⟨nc1⟩) (And.intro (by omega) ?_))
                 | refine Exists.intro _ (Exists.intro _ (And.intro (⟨Eq.refl (α := Int) _⟩) (And.intro (⟨Eq.refl (α := Int) _⟩) (And.intro (by omega) (And.intro (by omega) ?_)))))
                 | refine Exists.intro _ (Exists.intro _ (And.intro (⟨Eq.refl (α := Nat) _⟩) (And.intro (⟨Eq.refl (α := Nat) _⟩) ?_)))
                 | refine Exists.intro _ (And.intro (⟨Eq.refl (α := Nat) _⟩) ?_)
                 | refine Exists.intro _ (And.intro (u32and (by omega) (by omega)) ?_)
                 | refine Exists.intro _ (And.intro (u32or (by omega) (by omega)) ?_)
                 | refine Exists.intro _ (And.intro (u32xor (by omega) (by omega)) ?_)
                 | refine Exists.intro _ (And.intro (u8xor (by omega) (by omega)) ?_)
                 | refine Exists.intro _ (And.intro (u64and (by omega) (by omega)) ?_)
                 | refine Exists.intro _ (And.intro (u64or (by omega) (by omega)) ?_)
                 | refine Exists.intro _ (And.intro (u64xor (by omega) (by omega)) ?_)
                 | refine Exists.intro _ (And.intro (w64 (by omega) (by omega)) ?_)
                 | refine Exists.intro _ (And.intro (u32add (by omega)) ?_)
                 | refine Exists.intro _ (And.intro (u64add (by omega)) ?_)
                 | refine Exists.intro _ (And.intro (u8w (by omega)) ?_)
                 | refine Exists.intro _ (And.intro (u32w (by omega)) ?_)
                 | refine Exists.intro _ (And.intro (u64w (by omega)) ?_)
                 | refine Exists.intro _ (And.intro (u8m) ?_)
                 | refine Exists.intro _ (And.intro (u64i (by omega) (by omega)) ?_)
                 | refine Exists.intro _ (And.intro (min_int) ?_)
                 | refine Exists.intro _ (And.intro (max_int) ?_)
                 | refine Exists.intro _ (And.intro (imin) ?_)
                 | refine Exists.intro _ (And.intro (imax) ?_)
                 | refine Pure.call (f33_ok _) ?_
                 | refine Pure.locK (f33_ok _) ?_
                 | refine Pure.call (f34_ok _) ?_
                 | refine Pure.locK (f34_ok _) ?_
                 | refine boolF_not ?_
                 | refine boolF_dect rfl ?_
                 | refine boolF_dect (by assumption) ?_
                 | refine boolF_decf (by assumption) ?_
                 | refine boolF_dect (by omega) ?_
                 | refine boolF_decf (by omega) ?_
                 | refine boolF_beqt (by omega) ?_
                 | refine boolF_beqf (by omega) ?_
                 | refine boolF_bnet (by omega) ?_
                 | refine boolF_bnef (by omega) ?_
                 | refine boolF_nbeqt (by omega) ?_
                 | refine boolF_nbeqf (by omega) ?_
                 | refine boolF_nbnet (by omega) ?_
                 | refine boolF_nbnef (by omega) ?_
                 | refine boolF_t (by assumption) ?_
                 | refine boolF_f (by assumption) ?_
                 | refine boolF_dec (fun _ => ?_) (fun _ => ?_)
                 | refine boolF_beq (fun _ => ?_) (fun _ => ?_)
                 | refine boolF_bne (fun _ => ?_) (fun _ => ?_)
                 | refine boolF_nbeq (fun _ => ?_) (fun _ => ?_)
                 | refine boolF_nbne (fun _ => ?_) (fun _ => ?_)
                 | refine boolF_leq (fun _ => ?_) (fun _ => ?_)
                 | refine Both.mk ?_ ?_)
      all_goals (conv => whnf)
      exact ⟨Told.refl⟩
    · rw [if_pos (by omega)]
      exact ⟨Told.wk wk_zero⟩
  · rw [moveM, if_pos hr]
    rw [findM_not hr] at h24
    repeat' (conv => whnf
             first
               | refine PairK.mk (by kernel_rfl) ?_
               | refine And.intro (by decide) ?_
               | refine And.intro rfl ?_
               | refine And.intro (List.cons_ne_nil _ _) ?_
               | refine And.intro (Nat.le_of_ble_eq_true rfl) ?_
               | refine And.intro (by omega) ?_
               | refine And.intro (by simp only [List.length_map, List.length_append, List.length_cons, List.length_nil]; omega) ?_
               | refine And.intro (by simpa only [List.length_map, List.length_append, List.length_cons, List.length_nil] using rfl) ?_
               | refine And.intro (Eq.symm (List.length_map _)) ?_
               | refine And.intro (all_map (fun _ => rfl)) ?_
               | refine And.intro (cells_map (fun _ => rfl)) ?_
               | refine And.intro (rows_map (fun _ => rfl) (fun _ => rfl)) ?_
               | refine And.intro (okRows_one rfl rfl) ?_
               | refine And.intro (okRows_all rfl) ?_
               | refine boolF_t (beq_self_eq_true _) ?_
               | refine Exists.intro _ (And.intro (map_get (by assumption)) ?_)
               | refine Exists.intro _ (And.intro (Eq.refl (α := Option D) _) ?_)
               | refine Exists.intro _ (And.intro (⟨(List.length_map _).symm⟩) ?_)
               | refine Exists.intro _ (And.intro (⟨len_one⟩) ?_)
               | refine Exists.intro _ (And.intro (⟨len_two⟩) ?_)
               | refine Exists.intro _ (And.intro (⟨len_three⟩) ?_)
               | refine Exists.intro _ (And.intro (⟨len_four⟩) ?_)
               | refine Exists.intro _ (And.intro (⟨lenl_1⟩) ?_)
               | refine Exists.intro _ (And.intro (⟨lenl_2⟩) ?_)
               | refine Exists.intro _ (And.intro (⟨lenl_3⟩) ?_)
               | refine Exists.intro _ (And.intro (⟨lenl_4⟩) ?_)
               | refine Exists.intro _ (And.intro (⟨len_more⟩) ?_)
               | refine Exists.intro _ (And.intro (⟨map_slice⟩) ?_)
               | refine Exists.intro _ (And.intro (⟨List.map_take⟩) ?_)
               | refine Exists.intro _ (And.intro (⟨List.map_drop⟩) ?_)
               | refine Exists.intro _ (And.intro (⟨map_full'⟩) ?_)
               | refine Exists.intro _ (And.intro (⟨map_full⟩) ?_)
               | refine Exists.intro _ (And.intro (⟨map_snoc⟩) ?_)
               | refine Exists.intro _ (And.intro (⟨List.map_append⟩) ?_)
               | refine Exists.intro _ (And.intro (⟨Eq.refl (α := List D) _⟩) ?_)
               | refine Exists.intro _ (And.intro (⟨Eq.refl (α := Int) _⟩) (And.intro (by omega) ?_))
               | refine Exists.intro (0) (And.intro (⟨rfl⟩) (And.intro (Nat.zero_le _) ?_))
               | refine Exists.intro _ (And.intro (⟨nc1⟩) (And.intro (by omega) ?_))
               | refine Exists.intro _ (Exists.intro _ (And.intro (⟨Eq.refl (α := Int) _⟩) (And.intro (⟨Eq.refl (α := Int) _⟩) (And.intro (by omega) (And.intro (by omega) ?_)))))
               | refine Exists.intro _ (Exists.intro _ (And.intro (⟨Eq.refl (α := Nat) _⟩) (And.intro (⟨Eq.refl (α := Nat) _⟩) ?_)))
               | refine Exists.intro _ (And.intro (⟨Eq.refl (α := Nat) _⟩) ?_)
               | refine Exists.intro _ (And.intro (u32and (by omega) (by omega)) ?_)
               | refine Exists.intro _ (And.intro (u32or (by omega) (by omega)) ?_)
               | refine Exists.intro _ (And.intro (u32xor (by omega) (by omega)) ?_)
               | refine Exists.intro _ (And.intro (u8xor (by omega) (by omega)) ?_)
               | refine Exists.intro _ (And.intro (u64and (by omega) (by omega)) ?_)
               | refine Exists.intro _ (And.intro (u64or (by omega) (by omega)) ?_)
               | refine Exists.intro _ (And.intro (u64xor (by omega) (by omega)) ?_)
               | refine Exists.intro _ (And.intro (w64 (by omega) (by omega)) ?_)
               | refine Exists.intro _ (And.intro (u32add (by omega)) ?_)
               | refine Exists.intro _ (And.intro (u64add (by omega)) ?_)
               | refine Exists.intro _ (And.intro (u8w (by omega)) ?_)
               | refine Exists.intro _ (And.intro (u32w (by omega)) ?_)
               | refine Exists.intro _ (And.intro (u64w (by omega)) ?_)
               | refine Exists.intro _ (And.intro (u8m) ?_)
               | refine Exists.intro _ (And.intro (u64i (by omega) (by omega)) ?_)
               | refine Exists.intro _ (And.intro (min_int) ?_)
               | refine Exists.intro _ (And.intro (max_int) ?_)
               | refine Exists.intro _ (And.intro (imin) ?_)
               | refine Exists.intro _ (And.intro (imax) ?_)
               | refine Pure.call (f33_ok _) ?_
               | refine Pure.locK (f33_ok _) ?_
               | refine Pure.call (f34_ok _) ?_
               | refine Pure.locK (f34_ok _) ?_
               | refine boolF_not ?_
               | refine boolF_dect rfl ?_
               | refine boolF_dect (by assumption) ?_
               | refine boolF_decf (by assumption) ?_
               | refine boolF_dect (by omega) ?_
               | refine boolF_decf (by omega) ?_
               | refine boolF_beqt (by omega) ?_
               | refine boolF_beqf (by omega) ?_
               | refine boolF_bnet (by omega) ?_
               | refine boolF_bnef (by omega) ?_
               | refine boolF_nbeqt (by omega) ?_
               | refine boolF_nbeqf (by omega) ?_
               | refine boolF_nbnet (by omega) ?_
               | refine boolF_nbnef (by omega) ?_
               | refine boolF_t (by assumption) ?_
               | refine boolF_f (by assumption) ?_
               | refine boolF_dec (fun _ => ?_) (fun _ => ?_)
               | refine boolF_beq (fun _ => ?_) (fun _ => ?_)
               | refine boolF_bne (fun _ => ?_) (fun _ => ?_)
               | refine boolF_nbeq (fun _ => ?_) (fun _ => ?_)
               | refine boolF_nbne (fun _ => ?_) (fun _ => ?_)
               | refine boolF_leq (fun _ => ?_) (fun _ => ?_)
               | refine Both.mk ?_ ?_)
    all_goals (conv => whnf)
    refine Pure.call h24 ?_
    repeat' (conv => whnf
             first
               | refine PairK.mk (by kernel_rfl) ?_
               | refine And.intro (by decide) ?_
               | refine And.intro rfl ?_
               | refine And.intro (List.cons_ne_nil _ _) ?_
               | refine And.intro (Nat.le_of_ble_eq_true rfl) ?_
               | refine And.intro (by omega) ?_
               | refine And.intro (by simp only [List.length_map, List.length_append, List.length_cons, List.length_nil]; omega) ?_
               | refine And.intro (by simpa only [List.length_map, List.length_append, List.length_cons, List.length_nil] using rfl) ?_
               | refine And.intro (Eq.symm (List.length_map _)) ?_
               | refine And.intro (all_map (fun _ => rfl)) ?_
               | refine And.intro (cells_map (fun _ => rfl)) ?_
               | refine And.intro (rows_map (fun _ => rfl) (fun _ => rfl)) ?_
               | refine And.intro (okRows_one rfl rfl) ?_
               | refine And.intro (okRows_all rfl) ?_
               | refine boolF_t (beq_self_eq_true _) ?_
               | refine Exists.intro _ (And.intro (map_get (by assumption)) ?_)
               | refine Exists.intro _ (And.intro (Eq.refl (α := Option D) _) ?_)
               | refine Exists.intro _ (And.intro (⟨(List.length_map _).symm⟩) ?_)
               | refine Exists.intro _ (And.intro (⟨len_one⟩) ?_)
               | refine Exists.intro _ (And.intro (⟨len_two⟩) ?_)
               | refine Exists.intro _ (And.intro (⟨len_three⟩) ?_)
               | refine Exists.intro _ (And.intro (⟨len_four⟩) ?_)
               | refine Exists.intro _ (And.intro (⟨lenl_1⟩) ?_)
               | refine Exists.intro _ (And.intro (⟨lenl_2⟩) ?_)
               | refine Exists.intro _ (And.intro (⟨lenl_3⟩) ?_)
               | refine Exists.intro _ (And.intro (⟨lenl_4⟩) ?_)
               | refine Exists.intro _ (And.intro (⟨len_more⟩) ?_)
               | refine Exists.intro _ (And.intro (⟨map_slice⟩) ?_)
               | refine Exists.intro _ (And.intro (⟨List.map_take⟩) ?_)
               | refine Exists.intro _ (And.intro (⟨List.map_drop⟩) ?_)
               | refine Exists.intro _ (And.intro (⟨map_full'⟩) ?_)
               | refine Exists.intro _ (And.intro (⟨map_full⟩) ?_)
               | refine Exists.intro _ (And.intro (⟨map_snoc⟩) ?_)
               | refine Exists.intro _ (And.intro (⟨List.map_append⟩) ?_)
               | refine Exists.intro _ (And.intro (⟨Eq.refl (α := List D) _⟩) ?_)
               | refine Exists.intro _ (And.intro (⟨Eq.refl (α := Int) _⟩) (And.intro (by omega) ?_))
               | refine Exists.intro (0) (And.intro (⟨rfl⟩) (And.intro (Nat.zero_le _) ?_))
               | refine Exists.intro _ (And.intro (⟨nc1⟩) (And.intro (by omega) ?_))
               | refine Exists.intro _ (Exists.intro _ (And.intro (⟨Eq.refl (α := Int) _⟩) (And.intro (⟨Eq.refl (α := Int) _⟩) (And.intro (by omega) (And.intro (by omega) ?_)))))
               | refine Exists.intro _ (Exists.intro _ (And.intro (⟨Eq.refl (α := Nat) _⟩) (And.intro (⟨Eq.refl (α := Nat) _⟩) ?_)))
               | refine Exists.intro _ (And.intro (⟨Eq.refl (α := Nat) _⟩) ?_)
               | refine Exists.intro _ (And.intro (u32and (by omega) (by omega)) ?_)
               | refine Exists.intro _ (And.intro (u32or (by omega) (by omega)) ?_)
               | refine Exists.intro _ (And.intro (u32xor (by omega) (by omega)) ?_)
               | refine Exists.intro _ (And.intro (u8xor (by omega) (by omega)) ?_)
               | refine Exists.intro _ (And.intro (u64and (by omega) (by omega)) ?_)
               | refine Exists.intro _ (And.intro (u64or (by omega) (by omega)) ?_)
               | refine Exists.intro _ (And.intro (u64xor (by omega) (by omega)) ?_)
               | refine Exists.intro _ (And.intro (w64 (by omega) (by omega)) ?_)
               | refine Exists.intro _ (And.intro (u32add (by omega)) ?_)
               | refine Exists.intro _ (And.intro (u64add (by omega)) ?_)
               | refine Exists.intro _ (And.intro (u8w (by omega)) ?_)
               | refine Exists.intro _ (And.intro (u32w (by omega)) ?_)
               | refine Exists.intro _ (And.intro (u64w (by omega)) ?_)
               | refine Exists.intro _ (And.intro (u8m) ?_)
               | refine Exists.intro _ (And.intro (u64i (by omega) (by omega)) ?_)
               | refine Exists.intro _ (And.intro (min_int) ?_)
               | refine Exists.intro _ (And.intro (max_int) ?_)
               | refine Exists.intro _ (And.intro (imin) ?_)
               | refine Exists.intro _ (And.intro (imax) ?_)
               | refine Pure.call (f33_ok _) ?_
               | refine Pure.locK (f33_ok _) ?_
               | refine Pure.call (f34_ok _) ?_
               | refine Pure.locK (f34_ok _) ?_
               | refine boolF_not ?_
               | refine boolF_dect rfl ?_
               | refine boolF_dect (by assumption) ?_
               | refine boolF_decf (by assumption) ?_
               | refine boolF_dect (by omega) ?_
               | refine boolF_decf (by omega) ?_
               | refine boolF_beqt (by omega) ?_
               | refine boolF_beqf (by omega) ?_
               | refine boolF_bnet (by omega) ?_
               | refine boolF_bnef (by omega) ?_
               | refine boolF_nbeqt (by omega) ?_
               | refine boolF_nbeqf (by omega) ?_
               | refine boolF_nbnet (by omega) ?_
               | refine boolF_nbnef (by omega) ?_
               | refine boolF_t (by assumption) ?_
               | refine boolF_f (by assumption) ?_
               | refine boolF_dec (fun _ => ?_) (fun _ => ?_)
               | refine boolF_beq (fun _ => ?_) (fun _ => ?_)
               | refine boolF_bne (fun _ => ?_) (fun _ => ?_)
               | refine boolF_nbeq (fun _ => ?_) (fun _ => ?_)
               | refine boolF_nbne (fun _ => ?_) (fun _ => ?_)
               | refine boolF_leq (fun _ => ?_) (fun _ => ?_)
               | refine Both.mk ?_ ?_)
    all_goals (conv => whnf)
    exact ⟨Told.wk wk_zero⟩

theorem f29_ok (m : T24) (b c : Int) (hm : ok25 m) (hb : ok3 b) : Pure Try.prog 29 [d25 m, d3 b, d3 c] (.tup [d25 (moveM m b c).1, d3 (moveM m b c).2]) := by
  refine Pure.ofT ⟨sc25 _ _, trivial, trivial, trivial⟩ ⟨sc25 _ _, trivial, trivial⟩ ?_
  refine CallsIn.of_exec tab_ok mixed Try.func29 rfl rfl [] [] ?_
  have h25 := f25_ok m b hm hb
  by_cases hr : rightP m
  · by_cases hrange : b < 0 ∨ m.n_ ≤ b
    · rw [moveM, if_neg (fun h => h hr), if_pos hrange]
      rw [findM_out hr hrange] at h25
      repeat' (conv => whnf
               first
                 | refine PairK.mk (by kernel_rfl) ?_
                 | refine Exists.intro _ (And.intro (map_at (by omega) hx) ?_)
                 | refine And.intro (by decide) ?_
                 | refine And.intro rfl ?_
                 | refine And.intro (List.cons_ne_nil _ _) ?_
                 | refine And.intro (Nat.le_of_ble_eq_true rfl) ?_
                 | refine And.intro (by omega) ?_
                 | refine And.intro (by simp only [List.length_map, List.length_append, List.length_cons, List.length_nil]; omega) ?_
                 | refine And.intro (by simpa only [List.length_map, List.length_append, List.length_cons, List.length_nil] using rfl) ?_
                 | refine And.intro (Eq.symm (List.length_map _)) ?_
                 | refine And.intro (all_map (fun _ => rfl)) ?_
                 | refine And.intro (cells_map (fun _ => rfl)) ?_
                 | refine And.intro (rows_map (fun _ => rfl) (fun _ => rfl)) ?_
                 | refine And.intro (okRows_one rfl rfl) ?_
                 | refine And.intro (okRows_all rfl) ?_
                 | refine boolF_t (beq_self_eq_true _) ?_
                 | refine Exists.intro _ (And.intro (map_get (by assumption)) ?_)
                 | refine Exists.intro _ (And.intro (Eq.refl (α := Option D) _) ?_)
                 | refine Exists.intro _ (And.intro (⟨(List.length_map _).symm⟩) ?_)
                 | refine Exists.intro _ (And.intro (⟨len_one⟩) ?_)
                 | refine Exists.intro _ (And.intro (⟨len_two⟩) ?_)
                 | refine Exists.intro _ (And.intro (⟨len_three⟩) ?_)
                 | refine Exists.intro _ (And.intro (⟨len_four⟩) ?_)
                 | refine Exists.intro _ (And.intro (⟨lenl_1⟩) ?_)
                 | refine Exists.intro _ (And.intro (⟨lenl_2⟩) ?_)
                 | refine Exists.intro _ (And.intro (⟨lenl_3⟩) ?_)
                 | refine Exists.intro _ (And.intro (⟨lenl_4⟩) ?_)
                 | refine Exists.intro _ (And.intro (⟨len_more⟩) ?_)
                 | refine Exists.intro _ (And.intro (⟨map_slice⟩) ?_)
                 | refine Exists.intro _ (And.intro (⟨List.map_take⟩) ?_)
                 | refine Exists.intro _ (And.intro (⟨List.map_drop⟩) ?_)
                 | refine Exists.intro _ (And.intro (⟨map_full'⟩) ?_)
                 | refine Exists.intro _ (And.intro (⟨map_full⟩) ?_)
                 | refine Exists.intro _ (And.intro (⟨map_snoc⟩) ?_)
                 | refine Exists.intro _ (And.intro (⟨List.map_append⟩) ?_)
                 | refine Exists.intro _ (And.intro (⟨Eq.refl (α := List D) _⟩) ?_)
                 | refine Exists.intro _ (And.intro (⟨Eq.refl (α := Int) _⟩) (And.intro (by omega) ?_))
                 | refine Exists.intro (0) (And.intro (⟨rfl⟩) (And.intro (Nat.zero_le _) ?_))
                 | refine Exists.intro _ (And.intro (⟨nc1⟩) (And.intro (by omega) ?_))
                 | refine Exists.intro _ (Exists.intro _ (And.intro (⟨Eq.refl (α := Int) _⟩) (And.intro (⟨Eq.refl (α := Int) _⟩) (And.intro (by omega) (And.intro (by omega) ?_)))))
                 | refine Exists.intro _ (Exists.intro _ (And.intro (⟨Eq.refl (α := Nat) _⟩) (And.intro (⟨Eq.refl (α := Nat) _⟩) ?_)))
                 | refine Exists.intro _ (And.intro (⟨Eq.refl (α := Nat) _⟩) ?_)
                 | refine Exists.intro _ (And.intro (u32and (by omega) (by omega)) ?_)
                 | refine Exists.intro _ (And.intro (u32or (by omega) (by omega)) ?_)
                 | refine Exists.intro _ (And.intro (u32xor (by omega) (by omega)) ?_)
                 | refine Exists.intro _ (And.intro (u8xor (by omega) (by omega)) ?_)
                 | refine Exists.intro _ (And.intro (u64and (by omega) (by omega)) ?_)
                 | refine Exists.intro _ (And.intro (u64or (by omega) (by omega)) ?_)
                 | refine Exists.intro _ (And.intro (u64xor (by omega) (by omega)) ?_)
                 | refine Exists.intro _ (And.intro (w64 (by omega) (by omega)) ?_)
                 | refine Exists.intro _ (And.intro (u32add (by omega)) ?_)
                 | refine Exists.intro _ (And.intro (u64add (by omega)) ?_)
                 | refine Exists.intro _ (And.intro (u8w (by omega)) ?_)
                 | refine Exists.intro _ (And.intro (u32w (by omega)) ?_)
                 | refine Exists.intro _ (And.intro (u64w (by omega)) ?_)
                 | refine Exists.intro _ (And.intro (u8m) ?_)
                 | refine Exists.intro _ (And.intro (u64i (by omega) (by omega)) ?_)
                 | refine Exists.intro _ (And.intro (min_int) ?_)
                 | refine Exists.intro _ (And.intro (max_int) ?_)
                 | refine Exists.intro _ (And.intro (imin) ?_)
                 | refine Exists.intro _ (And.intro (imax) ?_)
                 | refine Pure.call (f33_ok _) ?_
                 | refine Pure.locK (f33_ok _) ?_
                 | refine Pure.call (f34_ok _) ?_
                 | refine Pure.locK (f34_ok _) ?_
                 | refine boolF_not ?_
                 | refine boolF_dect rfl ?_
                 | refine boolF_dect (by assumption) ?_
                 | refine boolF_decf (by assumption) ?_
                 | refine boolF_dect (by omega) ?_
                 | refine boolF_decf (by omega) ?_
                 | refine boolF_beqt (by omega) ?_
                 | refine boolF_beqf (by omega) ?_
                 | refine boolF_bnet (by omega) ?_
                 | refine boolF_bnef (by omega) ?_
                 | refine boolF_nbeqt (by omega) ?_
                 | refine boolF_nbeqf (by omega) ?_
                 | refine boolF_nbnet (by omega) ?_
                 | refine boolF_nbnef (by omega) ?_
                 | refine boolF_t (by assumption) ?_
                 | refine boolF_f (by assumption) ?_
                 | refine boolF_dec (fun _ => ?_) (fun _ => ?_)
                 | refine boolF_beq (fun _ => ?_) (fun _ => ?_)
                 | refine boolF_bne (fun _ => ?_) (fun _ => ?_)
                 | refine boolF_nbeq (fun _ => ?_) (fun _ => ?_)
                 | refine boolF_nbne (fun _ => ?_) (fun _ => ?_)
                 | refine boolF_leq (fun _ => ?_) (fun _ => ?_)
                 | refine Both.mk ?_ ?_)
      all_goals (conv => whnf)
      refine Pure.call h25 ?_
      repeat' (conv => whnf
               first
                 | refine PairK.mk (by kernel_rfl) ?_
                 | refine Exists.intro _ (And.intro (map_at (by omega) hx) ?_)
                 | refine And.intro (by decide) ?_
                 | refine And.intro rfl ?_
                 | refine And.intro (List.cons_ne_nil _ _) ?_
                 | refine And.intro (Nat.le_of_ble_eq_true rfl) ?_
                 | refine And.intro (by omega) ?_
                 | refine And.intro (by simp only [List.length_map, List.length_append, List.length_cons, List.length_nil]; omega) ?_
                 | refine And.intro (by simpa only [List.length_map, List.length_append, List.length_cons, List.length_nil] using rfl) ?_
                 | refine And.intro (Eq.symm (List.length_map _)) ?_
                 | refine And.intro (all_map (fun _ => rfl)) ?_
                 | refine And.intro (cells_map (fun _ => rfl)) ?_
                 | refine And.intro (rows_map (fun _ => rfl) (fun _ => rfl)) ?_
                 | refine And.intro (okRows_one rfl rfl) ?_
                 | refine And.intro (okRows_all rfl) ?_
                 | refine boolF_t (beq_self_eq_true _) ?_
                 | refine Exists.intro _ (And.intro (map_get (by assumption)) ?_)
                 | refine Exists.intro _ (And.intro (Eq.refl (α := Option D) _) ?_)
                 | refine Exists.intro _ (And.intro (⟨(List.length_map _).symm⟩) ?_)
                 | refine Exists.intro _ (And.intro (⟨len_one⟩) ?_)
                 | refine Exists.intro _ (And.intro (⟨len_two⟩) ?_)
                 | refine Exists.intro _ (And.intro (⟨len_three⟩) ?_)
                 | refine Exists.intro _ (And.intro (⟨len_four⟩) ?_)
                 | refine Exists.intro _ (And.intro (⟨lenl_1⟩) ?_)
                 | refine Exists.intro _ (And.intro (⟨lenl_2⟩) ?_)
                 | refine Exists.intro _ (And.intro (⟨lenl_3⟩) ?_)
                 | refine Exists.intro _ (And.intro (⟨lenl_4⟩) ?_)
                 | refine Exists.intro _ (And.intro (⟨len_more⟩) ?_)
                 | refine Exists.intro _ (And.intro (⟨map_slice⟩) ?_)
                 | refine Exists.intro _ (And.intro (⟨List.map_take⟩) ?_)
                 | refine Exists.intro _ (And.intro (⟨List.map_drop⟩) ?_)
                 | refine Exists.intro _ (And.intro (⟨map_full'⟩) ?_)
                 | refine Exists.intro _ (And.intro (⟨map_full⟩) ?_)
                 | refine Exists.intro _ (And.intro (⟨map_snoc⟩) ?_)
                 | refine Exists.intro _ (And.intro (⟨List.map_append⟩) ?_)
                 | refine Exists.intro _ (And.intro (⟨Eq.refl (α := List D) _⟩) ?_)
                 | refine Exists.intro _ (And.intro (⟨Eq.refl (α := Int) _⟩) (And.intro (by omega) ?_))
                 | refine Exists.intro (0) (And.intro (⟨rfl⟩) (And.intro (Nat.zero_le _) ?_))
                 | refine Exists.intro _ (And.intro (⟨nc1⟩) (And.intro (by omega) ?_))
                 | refine Exists.intro _ (Exists.intro _ (And.intro (⟨Eq.refl (α := Int) _⟩) (And.intro (⟨Eq.refl (α := Int) _⟩) (And.intro (by omega) (And.intro (by omega) ?_)))))
                 | refine Exists.intro _ (Exists.intro _ (And.intro (⟨Eq.refl (α := Nat) _⟩) (And.intro (⟨Eq.refl (α := Nat) _⟩) ?_)))
                 | refine Exists.intro _ (And.intro (⟨Eq.refl (α := Nat) _⟩) ?_)
                 | refine Exists.intro _ (And.intro (u32and (by omega) (by omega)) ?_)
                 | refine Exists.intro _ (And.intro (u32or (by omega) (by omega)) ?_)
                 | refine Exists.intro _ (And.intro (u32xor (by omega) (by omega)) ?_)
                 | refine Exists.intro _ (And.intro (u8xor (by omega) (by omega)) ?_)
                 | refine Exists.intro _ (And.intro (u64and (by omega) (by omega)) ?_)
                 | refine Exists.intro _ (And.intro (u64or (by omega) (by omega)) ?_)
                 | refine Exists.intro _ (And.intro (u64xor (by omega) (by omega)) ?_)
                 | refine Exists.intro _ (And.intro (w64 (by omega) (by omega)) ?_)
                 | refine Exists.intro _ (And.intro (u32add (by omega)) ?_)
                 | refine Exists.intro _ (And.intro (u64add (by omega)) ?_)
                 | refine Exists.intro _ (And.intro (u8w (by omega)) ?_)
                 | refine Exists.intro _ (And.intro (u32w (by omega)) ?_)
                 | refine Exists.intro _ (And.intro (u64w (by omega)) ?_)
                 | refine Exists.intro _ (And.intro (u8m) ?_)
                 | refine Exists.intro _ (And.intro (u64i (by omega) (by omega)) ?_)
                 | refine Exists.intro _ (And.intro (min_int) ?_)
                 | refine Exists.intro _ (And.intro (max_int) ?_)
                 | refine Exists.intro _ (And.intro (imin) ?_)
                 | refine Exists.intro _ (And.intro (imax) ?_)
                 | refine Pure.call (f33_ok _) ?_
                 | refine Pure.locK (f33_ok _) ?_
                 | refine Pure.call (f34_ok _) ?_
                 | refine Pure.locK (f34_ok _) ?_
                 | refine boolF_not ?_
                 | refine boolF_dect rfl ?_
                 | refine boolF_dect (by assumption) ?_
                 | refine boolF_decf (by assumption) ?_
                 | refine boolF_dect (by omega) ?_
                 | refine boolF_decf (by omega) ?_
                 | refine boolF_beqt (by omega) ?_
                 | refine boolF_beqf (by omega) ?_
                 | refine boolF_bnet (by omega) ?_
                 | refine boolF_bnef (by omega) ?_
                 | refine boolF_nbeqt (by omega) ?_
                 | refine boolF_nbeqf (by omega) ?_
                 | refine boolF_nbnet (by omega) ?_
                 | refine boolF_nbnef (by omega) ?_
                 | refine boolF_t (by assumption) ?_
                 | refine boolF_f (by assumption) ?_
                 | refine boolF_dec (fun _ => ?_) (fun _ => ?_)
                 | refine boolF_beq (fun _ => ?_) (fun _ => ?_)
                 | refine boolF_bne (fun _ => ?_) (fun _ => ?_)
                 | refine boolF_nbeq (fun _ => ?_) (fun _ => ?_)
                 | refine boolF_nbne (fun _ => ?_) (fun _ => ?_)
                 | refine boolF_leq (fun _ => ?_) (fun _ => ?_)
                 | refine Both.mk ?_ ?_)
      all_goals (conv => whnf)
      exact ⟨Told.wk wk_zero⟩
    obtain ⟨i, x, e1, hx, e3, e4, e5, e6, e7, e8, e9, e10⟩ := find_spec hr (b := b) (by omega) (by omega)
    have e11 := at13_eq hr (by omega) (by omega) e1 hx
    have hi := (List.getElem?_eq_some_iff.mp hx).1
    have hv := hr.2.1
    have hl := hr.2.2.2.2.1
    rw [moveM, if_neg (fun h => h hr), if_neg hrange, e11]
    dsimp only
    rw [e1] at h25
    dsimp only at h25
    repeat' (conv => whnf
             first
               | refine PairK.mk (by kernel_rfl) ?_
               | refine Exists.intro _ (And.intro (map_at (by omega) hx) ?_)
               | refine And.intro (by decide) ?_
               | refine And.intro rfl ?_
               | refine And.intro (List.cons_ne_nil _ _) ?_
               | refine And.intro (Nat.le_of_ble_eq_true rfl) ?_
               | refine And.intro (by omega) ?_
               | refine And.intro (by simp only [List.length_map, List.length_append, List.length_cons, List.length_nil]; omega) ?_
               | refine And.intro (by simpa only [List.length_map, List.length_append, List.length_cons, List.length_nil] using rfl) ?_
               | refine And.intro (Eq.symm (List.length_map _)) ?_
               | refine And.intro (all_map (fun _ => rfl)) ?_
               | refine And.intro (cells_map (fun _ => rfl)) ?_
               | refine And.intro (rows_map (fun _ => rfl) (fun _ => rfl)) ?_
               | refine And.intro (okRows_one rfl rfl) ?_
               | refine And.intro (okRows_all rfl) ?_
               | refine boolF_t (beq_self_eq_true _) ?_
               | refine Exists.intro _ (And.intro (map_get (by assumption)) ?_)
               | refine Exists.intro _ (And.intro (Eq.refl (α := Option D) _) ?_)
               | refine Exists.intro _ (And.intro (⟨(List.length_map _).symm⟩) ?_)
               | refine Exists.intro _ (And.intro (⟨len_one⟩) ?_)
               | refine Exists.intro _ (And.intro (⟨len_two⟩) ?_)
               | refine Exists.intro _ (And.intro (⟨len_three⟩) ?_)
               | refine Exists.intro _ (And.intro (⟨len_four⟩) ?_)
               | refine Exists.intro _ (And.intro (⟨lenl_1⟩) ?_)
               | refine Exists.intro _ (And.intro (⟨lenl_2⟩) ?_)
               | refine Exists.intro _ (And.intro (⟨lenl_3⟩) ?_)
               | refine Exists.intro _ (And.intro (⟨lenl_4⟩) ?_)
               | refine Exists.intro _ (And.intro (⟨len_more⟩) ?_)
               | refine Exists.intro _ (And.intro (⟨map_slice⟩) ?_)
               | refine Exists.intro _ (And.intro (⟨List.map_take⟩) ?_)
               | refine Exists.intro _ (And.intro (⟨List.map_drop⟩) ?_)
               | refine Exists.intro _ (And.intro (⟨map_full'⟩) ?_)
               | refine Exists.intro _ (And.intro (⟨map_full⟩) ?_)
               | refine Exists.intro _ (And.intro (⟨map_snoc⟩) ?_)
               | refine Exists.intro _ (And.intro (⟨List.map_append⟩) ?_)
               | refine Exists.intro _ (And.intro (⟨Eq.refl (α := List D) _⟩) ?_)
               | refine Exists.intro _ (And.intro (⟨Eq.refl (α := Int) _⟩) (And.intro (by omega) ?_))
               | refine Exists.intro (0) (And.intro (⟨rfl⟩) (And.intro (Nat.zero_le _) ?_))
               | refine Exists.intro _ (And.intro (⟨nc1⟩) (And.intro (by omega) ?_))
               | refine Exists.intro _ (Exists.intro _ (And.intro (⟨Eq.refl (α := Int) _⟩) (And.intro (⟨Eq.refl (α := Int) _⟩) (And.intro (by omega) (And.intro (by omega) ?_)))))
               | refine Exists.intro _ (Exists.intro _ (And.intro (⟨Eq.refl (α := Nat) _⟩) (And.intro (⟨Eq.refl (α := Nat) _⟩) ?_)))
               | refine Exists.intro _ (And.intro (⟨Eq.refl (α := Nat) _⟩) ?_)
               | refine Exists.intro _ (And.intro (u32and (by omega) (by omega)) ?_)
               | refine Exists.intro _ (And.intro (u32or (by omega) (by omega)) ?_)
               | refine Exists.intro _ (And.intro (u32xor (by omega) (by omega)) ?_)
               | refine Exists.intro _ (And.intro (u8xor (by omega) (by omega)) ?_)
               | refine Exists.intro _ (And.intro (u64and (by omega) (by omega)) ?_)
               | refine Exists.intro _ (And.intro (u64or (by omega) (by omega)) ?_)
               | refine Exists.intro _ (And.intro (u64xor (by omega) (by omega)) ?_)
               | refine Exists.intro _ (And.intro (w64 (by omega) (by omega)) ?_)
               | refine Exists.intro _ (And.intro (u32add (by omega)) ?_)
               | refine Exists.intro _ (And.intro (u64add (by omega)) ?_)
               | refine Exists.intro _ (And.intro (u8w (by omega)) ?_)
               | refine Exists.intro _ (And.intro (u32w (by omega)) ?_)
               | refine Exists.intro _ (And.intro (u64w (by omega)) ?_)
               | refine Exists.intro _ (And.intro (u8m) ?_)
               | refine Exists.intro _ (And.intro (u64i (by omega) (by omega)) ?_)
               | refine Exists.intro _ (And.intro (min_int) ?_)
               | refine Exists.intro _ (And.intro (max_int) ?_)
               | refine Exists.intro _ (And.intro (imin) ?_)
               | refine Exists.intro _ (And.intro (imax) ?_)
               | refine Pure.call (f33_ok _) ?_
               | refine Pure.locK (f33_ok _) ?_
               | refine Pure.call (f34_ok _) ?_
               | refine Pure.locK (f34_ok _) ?_
               | refine boolF_not ?_
               | refine boolF_dect rfl ?_
               | refine boolF_dect (by assumption) ?_
               | refine boolF_decf (by assumption) ?_
               | refine boolF_dect (by omega) ?_
               | refine boolF_decf (by omega) ?_
               | refine boolF_beqt (by omega) ?_
               | refine boolF_beqf (by omega) ?_
               | refine boolF_bnet (by omega) ?_
               | refine boolF_bnef (by omega) ?_
               | refine boolF_nbeqt (by omega) ?_
               | refine boolF_nbeqf (by omega) ?_
               | refine boolF_nbnet (by omega) ?_
               | refine boolF_nbnef (by omega) ?_
               | refine boolF_t (by assumption) ?_
               | refine boolF_f (by assumption) ?_
               | refine boolF_dec (fun _ => ?_) (fun _ => ?_)
               | refine boolF_beq (fun _ => ?_) (fun _ => ?_)
               | refine boolF_bne (fun _ => ?_) (fun _ => ?_)
               | refine boolF_nbeq (fun _ => ?_) (fun _ => ?_)
               | refine boolF_nbne (fun _ => ?_) (fun _ => ?_)
               | refine boolF_leq (fun _ => ?_) (fun _ => ?_)
               | refine Both.mk ?_ ?_)
    all_goals (conv => whnf)
    refine Pure.call h25 ?_
    repeat' (conv => whnf
             first
               | refine PairK.mk (by kernel_rfl) ?_
               | refine Exists.intro _ (And.intro (map_at (by omega) hx) ?_)
               | refine And.intro (by decide) ?_
               | refine And.intro rfl ?_
               | refine And.intro (List.cons_ne_nil _ _) ?_
               | refine And.intro (Nat.le_of_ble_eq_true rfl) ?_
               | refine And.intro (by omega) ?_
               | refine And.intro (by simp only [List.length_map, List.length_append, List.length_cons, List.length_nil]; omega) ?_
               | refine And.intro (by simpa only [List.length_map, List.length_append, List.length_cons, List.length_nil] using rfl) ?_
               | refine And.intro (Eq.symm (List.length_map _)) ?_
               | refine And.intro (all_map (fun _ => rfl)) ?_
               | refine And.intro (cells_map (fun _ => rfl)) ?_
               | refine And.intro (rows_map (fun _ => rfl) (fun _ => rfl)) ?_
               | refine And.intro (okRows_one rfl rfl) ?_
               | refine And.intro (okRows_all rfl) ?_
               | refine boolF_t (beq_self_eq_true _) ?_
               | refine Exists.intro _ (And.intro (map_get (by assumption)) ?_)
               | refine Exists.intro _ (And.intro (Eq.refl (α := Option D) _) ?_)
               | refine Exists.intro _ (And.intro (⟨(List.length_map _).symm⟩) ?_)
               | refine Exists.intro _ (And.intro (⟨len_one⟩) ?_)
               | refine Exists.intro _ (And.intro (⟨len_two⟩) ?_)
               | refine Exists.intro _ (And.intro (⟨len_three⟩) ?_)
               | refine Exists.intro _ (And.intro (⟨len_four⟩) ?_)
               | refine Exists.intro _ (And.intro (⟨lenl_1⟩) ?_)
               | refine Exists.intro _ (And.intro (⟨lenl_2⟩) ?_)
               | refine Exists.intro _ (And.intro (⟨lenl_3⟩) ?_)
               | refine Exists.intro _ (And.intro (⟨lenl_4⟩) ?_)
               | refine Exists.intro _ (And.intro (⟨len_more⟩) ?_)
               | refine Exists.intro _ (And.intro (⟨map_slice⟩) ?_)
               | refine Exists.intro _ (And.intro (⟨List.map_take⟩) ?_)
               | refine Exists.intro _ (And.intro (⟨List.map_drop⟩) ?_)
               | refine Exists.intro _ (And.intro (⟨map_full'⟩) ?_)
               | refine Exists.intro _ (And.intro (⟨map_full⟩) ?_)
               | refine Exists.intro _ (And.intro (⟨map_snoc⟩) ?_)
               | refine Exists.intro _ (And.intro (⟨List.map_append⟩) ?_)
               | refine Exists.intro _ (And.intro (⟨Eq.refl (α := List D) _⟩) ?_)
               | refine Exists.intro _ (And.intro (⟨Eq.refl (α := Int) _⟩) (And.intro (by omega) ?_))
               | refine Exists.intro (0) (And.intro (⟨rfl⟩) (And.intro (Nat.zero_le _) ?_))
               | refine Exists.intro _ (And.intro (⟨nc1⟩) (And.intro (by omega) ?_))
               | refine Exists.intro _ (Exists.intro _ (And.intro (⟨Eq.refl (α := Int) _⟩) (And.intro (⟨Eq.refl (α := Int) _⟩) (And.intro (by omega) (And.intro (by omega) ?_)))))
               | refine Exists.intro _ (Exists.intro _ (And.intro (⟨Eq.refl (α := Nat) _⟩) (And.intro (⟨Eq.refl (α := Nat) _⟩) ?_)))
               | refine Exists.intro _ (And.intro (⟨Eq.refl (α := Nat) _⟩) ?_)
               | refine Exists.intro _ (And.intro (u32and (by omega) (by omega)) ?_)
               | refine Exists.intro _ (And.intro (u32or (by omega) (by omega)) ?_)
               | refine Exists.intro _ (And.intro (u32xor (by omega) (by omega)) ?_)
               | refine Exists.intro _ (And.intro (u8xor (by omega) (by omega)) ?_)
               | refine Exists.intro _ (And.intro (u64and (by omega) (by omega)) ?_)
               | refine Exists.intro _ (And.intro (u64or (by omega) (by omega)) ?_)
               | refine Exists.intro _ (And.intro (u64xor (by omega) (by omega)) ?_)
               | refine Exists.intro _ (And.intro (w64 (by omega) (by omega)) ?_)
               | refine Exists.intro _ (And.intro (u32add (by omega)) ?_)
               | refine Exists.intro _ (And.intro (u64add (by omega)) ?_)
               | refine Exists.intro _ (And.intro (u8w (by omega)) ?_)
               | refine Exists.intro _ (And.intro (u32w (by omega)) ?_)
               | refine Exists.intro _ (And.intro (u64w (by omega)) ?_)
               | refine Exists.intro _ (And.intro (u8m) ?_)
               | refine Exists.intro _ (And.intro (u64i (by omega) (by omega)) ?_)
               | refine Exists.intro _ (And.intro (min_int) ?_)
               | refine Exists.intro _ (And.intro (max_int) ?_)
               | refine Exists.intro _ (And.intro (imin) ?_)
               | refine Exists.intro _ (And.intro (imax) ?_)
               | refine Pure.call (f33_ok _) ?_
               | refine Pure.locK (f33_ok _) ?_
               | refine Pure.call (f34_ok _) ?_
               | refine Pure.locK (f34_ok _) ?_
               | refine boolF_not ?_
               | refine boolF_dect rfl ?_
               | refine boolF_dect (by assumption) ?_
               | refine boolF_decf (by assumption) ?_
               | refine boolF_dect (by omega) ?_
               | refine boolF_decf (by omega) ?_
               | refine boolF_beqt (by omega) ?_
               | refine boolF_beqf (by omega) ?_
               | refine boolF_bnet (by omega) ?_
               | refine boolF_bnef (by omega) ?_
               | refine boolF_nbeqt (by omega) ?_
               | refine boolF_nbeqf (by omega) ?_
               | refine boolF_nbnet (by omega) ?_
               | refine boolF_nbnef (by omega) ?_
               | refine boolF_t (by assumption) ?_
               | refine boolF_f (by assumption) ?_
               | refine boolF_dec (fun _ => ?_) (fun _ => ?_)
               | refine boolF_beq (fun _ => ?_) (fun _ => ?_)
               | refine boolF_bne (fun _ => ?_) (fun _ => ?_)
               | refine boolF_nbeq (fun _ => ?_) (fun _ => ?_)
               | refine boolF_nbne (fun _ => ?_) (fun _ => ?_)
               | refine boolF_leq (fun _ => ?_) (fun _ => ?_)
               | refine Both.mk ?_ ?_)
    all_goals (conv => whnf)
    · rw [if_neg (by omega), if_pos (by assumption)]
      exact ⟨Told.wk wk_zero⟩
    · rw [if_neg (by omega), if_neg (by omega)]
      have hset : (m.pieces_.take i ++ [⟨x.from_, x.to_, c⟩] ++ m.pieces_.drop (i + 1)) = m.pieces_.set i ⟨x.from_, x.to_, c⟩ := by
        rw [List.set_eq_take_append_cons_drop, if_pos hi, List.append_assoc]; rfl
      have hrow : ∀ d : D, setRow false (m.pieces_.map r59) (0 + ((i : Nat) : Int).toNat) d = (m.pieces_.map r59).set i d := fun d => by
        rw [setRow_eq, Nat.zero_add, Int.toNat_natCast]
      have hmap : (m.pieces_.map r59).set i (.agg [d3 x.from_, d3 x.to_, d3 c]) = (m.pieces_.set i ⟨x.from_, x.to_, c⟩).map r59 := by
        rw [List.map_set]; rfl
      rw [hset]
      by_cases hfar : 1099511627776 ≤ m.version_
      · rw [next_far hfar]
        refine PureH.call (f39_far m 0 m.pieces_.length ((m.pieces_.set i ⟨x.from_, x.to_, c⟩).map r59) (scr59 _ _) hm hfar) 1 (by rw [← hmap, ← hrow]; rfl) ?_
        repeat' (conv => whnf
                 first
                   | refine PairK.mk (by kernel_rfl) ?_
                   | refine Exists.intro _ (And.intro (map_at (by omega) hx) ?_)
                   | refine And.intro (by decide) ?_
                   | refine And.intro rfl ?_
                   | refine And.intro (List.cons_ne_nil _ _) ?_
                   | refine And.intro (Nat.le_of_ble_eq_true rfl) ?_
                   | refine And.intro (by omega) ?_
                   | refine And.intro (by simp only [List.length_map, List.length_append, List.length_cons, List.length_nil]; omega) ?_
                   | refine And.intro (by simpa only [List.length_map, List.length_append, List.length_cons, List.length_nil] using rfl) ?_
                   | refine And.intro (Eq.symm (List.length_map _)) ?_
                   | refine And.intro (all_map (fun _ => rfl)) ?_
                   | refine And.intro (cells_map (fun _ => rfl)) ?_
                   | refine And.intro (rows_map (fun _ => rfl) (fun _ => rfl)) ?_
                   | refine And.intro (okRows_one rfl rfl) ?_
                   | refine And.intro (okRows_all rfl) ?_
                   | refine boolF_t (beq_self_eq_true _) ?_
                   | refine Exists.intro _ (And.intro (map_get (by assumption)) ?_)
                   | refine Exists.intro _ (And.intro (Eq.refl (α := Option D) _) ?_)
                   | refine Exists.intro _ (And.intro (⟨(List.length_map _).symm⟩) ?_)
                   | refine Exists.intro _ (And.intro (⟨len_one⟩) ?_)
                   | refine Exists.intro _ (And.intro (⟨len_two⟩) ?_)
                   | refine Exists.intro _ (And.intro (⟨len_three⟩) ?_)
                   | refine Exists.intro _ (And.intro (⟨len_four⟩) ?_)
                   | refine Exists.intro _ (And.intro (⟨lenl_1⟩) ?_)
                   | refine Exists.intro _ (And.intro (⟨lenl_2⟩) ?_)
                   | refine Exists.intro _ (And.intro (⟨lenl_3⟩) ?_)
                   | refine Exists.intro _ (And.intro (⟨lenl_4⟩) ?_)
                   | refine Exists.intro _ (And.intro (⟨len_more⟩) ?_)
                   | refine Exists.intro _ (And.intro (⟨map_slice⟩) ?_)
                   | refine Exists.intro _ (And.intro (⟨List.map_take⟩) ?_)
                   | refine Exists.intro _ (And.intro (⟨List.map_drop⟩) ?_)
                   | refine Exists.intro _ (And.intro (⟨map_full'⟩) ?_)
                   | refine Exists.intro _ (And.intro (⟨map_full⟩) ?_)
                   | refine Exists.intro _ (And.intro (⟨map_snoc⟩) ?_)
                   | refine Exists.intro _ (And.intro (⟨List.map_append⟩) ?_)
                   | refine Exists.intro _ (And.intro (⟨Eq.refl (α := List D) _⟩) ?_)
                   | refine Exists.intro _ (And.intro (⟨Eq.refl (α := Int) _⟩) (And.intro (by omega) ?_))
                   | refine Exists.intro (0) (And.intro (⟨rfl⟩) (And.intro (Nat.zero_le _) ?_))
                   | refine Exists.intro _ (And.intro (⟨nc1⟩) (And.intro (by omega) ?_))
                   | refine Exists.intro _ (Exists.intro _ (And.intro (⟨Eq.refl (α := Int) _⟩) (And.intro (⟨Eq.refl (α := Int) _⟩) (And.intro (by omega) (And.intro (by omega) ?_)))))
                   | refine Exists.intro _ (Exists.intro _ (And.intro (⟨Eq.refl (α := Nat) _⟩) (And.intro (⟨Eq.refl (α := Nat) _⟩) ?_)))
                   | refine Exists.intro _ (And.intro (⟨Eq.refl (α := Nat) _⟩) ?_)
                   | refine Exists.intro _ (And.intro (u32and (by omega) (by omega)) ?_)
                   | refine Exists.intro _ (And.intro (u32or (by omega) (by omega)) ?_)
                   | refine Exists.intro _ (And.intro (u32xor (by omega) (by omega)) ?_)
                   | refine Exists.intro _ (And.intro (u8xor (by omega) (by omega)) ?_)
                   | refine Exists.intro _ (And.intro (u64and (by omega) (by omega)) ?_)
                   | refine Exists.intro _ (And.intro (u64or (by omega) (by omega)) ?_)
                   | refine Exists.intro _ (And.intro (u64xor (by omega) (by omega)) ?_)
                   | refine Exists.intro _ (And.intro (w64 (by omega) (by omega)) ?_)
                   | refine Exists.intro _ (And.intro (u32add (by omega)) ?_)
                   | refine Exists.intro _ (And.intro (u64add (by omega)) ?_)
                   | refine Exists.intro _ (And.intro (u8w (by omega)) ?_)
                   | refine Exists.intro _ (And.intro (u32w (by omega)) ?_)
                   | refine Exists.intro _ (And.intro (u64w (by omega)) ?_)
                   | refine Exists.intro _ (And.intro (u8m) ?_)
                   | refine Exists.intro _ (And.intro (u64i (by omega) (by omega)) ?_)
                   | refine Exists.intro _ (And.intro (min_int) ?_)
                   | refine Exists.intro _ (And.intro (max_int) ?_)
                   | refine Exists.intro _ (And.intro (imin) ?_)
                   | refine Exists.intro _ (And.intro (imax) ?_)
                   | refine Pure.call (f33_ok _) ?_
                   | refine Pure.locK (f33_ok _) ?_
                   | refine Pure.call (f34_ok _) ?_
                   | refine Pure.locK (f34_ok _) ?_
                   | refine boolF_not ?_
                   | refine boolF_dect rfl ?_
                   | refine boolF_dect (by assumption) ?_
                   | refine boolF_decf (by assumption) ?_
                   | refine boolF_dect (by omega) ?_
                   | refine boolF_decf (by omega) ?_
                   | refine boolF_beqt (by omega) ?_
                   | refine boolF_beqf (by omega) ?_
                   | refine boolF_bnet (by omega) ?_
                   | refine boolF_bnef (by omega) ?_
                   | refine boolF_nbeqt (by omega) ?_
                   | refine boolF_nbeqf (by omega) ?_
                   | refine boolF_nbnet (by omega) ?_
                   | refine boolF_nbnef (by omega) ?_
                   | refine boolF_t (by assumption) ?_
                   | refine boolF_f (by assumption) ?_
                   | refine boolF_dec (fun _ => ?_) (fun _ => ?_)
                   | refine boolF_beq (fun _ => ?_) (fun _ => ?_)
                   | refine boolF_bne (fun _ => ?_) (fun _ => ?_)
                   | refine boolF_nbeq (fun _ => ?_) (fun _ => ?_)
                   | refine boolF_nbne (fun _ => ?_) (fun _ => ?_)
                   | refine boolF_leq (fun _ => ?_) (fun _ => ?_)
                   | refine Both.mk ?_ ?_)
        all_goals (conv => whnf)
        exact ⟨Told.wk wk_zero⟩
      · rw [next_near hfar]
        refine PureH.call (f39_ok m 0 m.pieces_.length ((m.pieces_.set i ⟨x.from_, x.to_, c⟩).map r59) (scr59 _ _) hm hfar) 1 (by rw [← hmap, ← hrow]; rfl) ?_
        repeat' (conv => whnf
                 first
                   | refine PairK.mk (by kernel_rfl) ?_
                   | refine Exists.intro _ (And.intro (map_at (by omega) hx) ?_)
                   | refine And.intro (by decide) ?_
                   | refine And.intro rfl ?_
                   | refine And.intro (List.cons_ne_nil _ _) ?_
                   | refine And.intro (Nat.le_of_ble_eq_true rfl) ?_
                   | refine And.intro (by omega) ?_
                   | refine And.intro (by simp only [List.length_map, List.length_append, List.length_cons, List.length_nil]; omega) ?_
                   | refine And.intro (by simpa only [List.length_map, List.length_append, List.length_cons, List.length_nil] using rfl) ?_
                   | refine And.intro (Eq.symm (List.length_map _)) ?_
                   | refine And.intro (all_map (fun _ => rfl)) ?_
                   | refine And.intro (cells_map (fun _ => rfl)) ?_
                   | refine And.intro (rows_map (fun _ => rfl) (fun _ => rfl)) ?_
                   | refine And.intro (okRows_one rfl rfl) ?_
                   | refine And.intro (okRows_all rfl) ?_
                   | refine boolF_t (beq_self_eq_true _) ?_
                   | refine Exists.intro _ (And.intro (map_get (by assumption)) ?_)
                   | refine Exists.intro _ (And.intro (Eq.refl (α := Option D) _) ?_)
                   | refine Exists.intro _ (And.intro (⟨(List.length_map _).symm⟩) ?_)
                   | refine Exists.intro _ (And.intro (⟨len_one⟩) ?_)
                   | refine Exists.intro _ (And.intro (⟨len_two⟩) ?_)
                   | refine Exists.intro _ (And.intro (⟨len_three⟩) ?_)
                   | refine Exists.intro _ (And.intro (⟨len_four⟩) ?_)
                   | refine Exists.intro _ (And.intro (⟨lenl_1⟩) ?_)
                   | refine Exists.intro _ (And.intro (⟨lenl_2⟩) ?_)
                   | refine Exists.intro _ (And.intro (⟨lenl_3⟩) ?_)
                   | refine Exists.intro _ (And.intro (⟨lenl_4⟩) ?_)
                   | refine Exists.intro _ (And.intro (⟨len_more⟩) ?_)
                   | refine Exists.intro _ (And.intro (⟨map_slice⟩) ?_)
                   | refine Exists.intro _ (And.intro (⟨List.map_take⟩) ?_)
                   | refine Exists.intro _ (And.intro (⟨List.map_drop⟩) ?_)
                   | refine Exists.intro _ (And.intro (⟨map_full'⟩) ?_)
                   | refine Exists.intro _ (And.intro (⟨map_full⟩) ?_)
                   | refine Exists.intro _ (And.intro (⟨map_snoc⟩) ?_)
                   | refine Exists.intro _ (And.intro (⟨List.map_append⟩) ?_)
                   | refine Exists.intro _ (And.intro (⟨Eq.refl (α := List D) _⟩) ?_)
                   | refine Exists.intro _ (And.intro (⟨Eq.refl (α := Int) _⟩) (And.intro (by omega) ?_))
                   | refine Exists.intro (0) (And.intro (⟨rfl⟩) (And.intro (Nat.zero_le _) ?_))
                   | refine Exists.intro _ (And.intro (⟨nc1⟩) (And.intro (by omega) ?_))
                   | refine Exists.intro _ (Exists.intro _ (And.intro (⟨Eq.refl (α := Int) _⟩) (And.intro (⟨Eq.refl (α := Int) _⟩) (And.intro (by omega) (And.intro (by omega) ?_)))))
                   | refine Exists.intro _ (Exists.intro _ (And.intro (⟨Eq.refl (α := Nat) _⟩) (And.intro (⟨Eq.refl (α := Nat) _⟩) ?_)))
                   | refine Exists.intro _ (And.intro (⟨Eq.refl (α := Nat) _⟩) ?_)
                   | refine Exists.intro _ (And.intro (u32and (by omega) (by omega)) ?_)
                   | refine Exists.intro _ (And.intro (u32or (by omega) (by omega)) ?_)
                   | refine Exists.intro _ (And.intro (u32xor (by omega) (by omega)) ?_)
                   | refine Exists.intro _ (And.intro (u8xor (by omega) (by omega)) ?_)
                   | refine Exists.intro _ (And.intro (u64and (by omega) (by omega)) ?_)
                   | refine Exists.intro _ (And.intro (u64or (by omega) (by omega)) ?_)
                   | refine Exists.intro _ (And.intro (u64xor (by omega) (by omega)) ?_)
                   | refine Exists.intro _ (And.intro (w64 (by omega) (by omega)) ?_)
                   | refine Exists.intro _ (And.intro (u32add (by omega)) ?_)
                   | refine Exists.intro _ (And.intro (u64add (by omega)) ?_)
                   | refine Exists.intro _ (And.intro (u8w (by omega)) ?_)
                   | refine Exists.intro _ (And.intro (u32w (by omega)) ?_)
                   | refine Exists.intro _ (And.intro (u64w (by omega)) ?_)
                   | refine Exists.intro _ (And.intro (u8m) ?_)
                   | refine Exists.intro _ (And.intro (u64i (by omega) (by omega)) ?_)
                   | refine Exists.intro _ (And.intro (min_int) ?_)
                   | refine Exists.intro _ (And.intro (max_int) ?_)
                   | refine Exists.intro _ (And.intro (imin) ?_)
                   | refine Exists.intro _ (And.intro (imax) ?_)
                   | refine Pure.call (f33_ok _) ?_
                   | refine Pure.locK (f33_ok _) ?_
                   | refine Pure.call (f34_ok _) ?_
                   | refine Pure.locK (f34_ok _) ?_
                   | refine boolF_not ?_
                   | refine boolF_dect rfl ?_
                   | refine boolF_dect (by assumption) ?_
                   | refine boolF_decf (by assumption) ?_
                   | refine boolF_dect (by omega) ?_
                   | refine boolF_decf (by omega) ?_
                   | refine boolF_beqt (by omega) ?_
                   | refine boolF_beqf (by omega) ?_
                   | refine boolF_bnet (by omega) ?_
                   | refine boolF_bnef (by omega) ?_
                   | refine boolF_nbeqt (by omega) ?_
                   | refine boolF_nbeqf (by omega) ?_
                   | refine boolF_nbnet (by omega) ?_
                   | refine boolF_nbnef (by omega) ?_
                   | refine boolF_t (by assumption) ?_
                   | refine boolF_f (by assumption) ?_
                   | refine boolF_dec (fun _ => ?_) (fun _ => ?_)
                   | refine boolF_beq (fun _ => ?_) (fun _ => ?_)
                   | refine boolF_bne (fun _ => ?_) (fun _ => ?_)
                   | refine boolF_nbeq (fun _ => ?_) (fun _ => ?_)
                   | refine boolF_nbne (fun _ => ?_) (fun _ => ?_)
                   | refine boolF_leq (fun _ => ?_) (fun _ => ?_)
                   | refine Both.mk ?_ ?_)
        all_goals (conv => whnf)
        refine ⟨told_next (by rw [List.length_set]) ?_⟩
        rw [← hmap, ← hrow]; rfl
    · rw [if_pos (by omega)]
      exact ⟨Told.wk wk_zero⟩
  · rw [moveM, if_pos hr]
    rw [findM_not hr] at h25
    repeat' (conv => whnf
             first
               | refine PairK.mk (by kernel_rfl) ?_
               | refine Exists.intro _ (And.intro (map_at (by omega) hx) ?_)
               | refine And.intro (by decide) ?_
               | refine And.intro rfl ?_
               | refine And.intro (List.cons_ne_nil _ _) ?_
               | refine And.intro (Nat.le_of_ble_eq_true rfl) ?_
               | refine And.intro (by omega) ?_
               | refine And.intro (by simp only [List.length_map, List.length_append, List.length_cons, List.length_nil]; omega) ?_
               | refine And.intro (by simpa only [List.length_map, List.length_append, List.length_cons, List.length_nil] using rfl) ?_
               | refine And.intro (Eq.symm (List.length_map _)) ?_
               | refine And.intro (all_map (fun _ => rfl)) ?_
               | refine And.intro (cells_map (fun _ => rfl)) ?_
               | refine And.intro (rows_map (fun _ => rfl) (fun _ => rfl)) ?_
               | refine And.intro (okRows_one rfl rfl) ?_
               | refine And.intro (okRows_all rfl) ?_
               | refine boolF_t (beq_self_eq_true _) ?_
               | refine Exists.intro _ (And.intro (map_get (by assumption)) ?_)
               | refine Exists.intro _ (And.intro (Eq.refl (α := Option D) _) ?_)
               | refine Exists.intro _ (And.intro (⟨(List.length_map _).symm⟩) ?_)
               | refine Exists.intro _ (And.intro (⟨len_one⟩) ?_)
               | refine Exists.intro _ (And.intro (⟨len_two⟩) ?_)
               | refine Exists.intro _ (And.intro (⟨len_three⟩) ?_)
               | refine Exists.intro _ (And.intro (⟨len_four⟩) ?_)
               | refine Exists.intro _ (And.intro (⟨lenl_1⟩) ?_)
               | refine Exists.intro _ (And.intro (⟨lenl_2⟩) ?_)
               | refine Exists.intro _ (And.intro (⟨lenl_3⟩) ?_)
               | refine Exists.intro _ (And.intro (⟨lenl_4⟩) ?_)
               | refine Exists.intro _ (And.intro (⟨len_more⟩) ?_)
               | refine Exists.intro _ (And.intro (⟨map_slice⟩) ?_)
               | refine Exists.intro _ (And.intro (⟨List.map_take⟩) ?_)
               | refine Exists.intro _ (And.intro (⟨List.map_drop⟩) ?_)
               | refine Exists.intro _ (And.intro (⟨map_full'⟩) ?_)
               | refine Exists.intro _ (And.intro (⟨map_full⟩) ?_)
               | refine Exists.intro _ (And.intro (⟨map_snoc⟩) ?_)
               | refine Exists.intro _ (And.intro (⟨List.map_append⟩) ?_)
               | refine Exists.intro _ (And.intro (⟨Eq.refl (α := List D) _⟩) ?_)
               | refine Exists.intro _ (And.intro (⟨Eq.refl (α := Int) _⟩) (And.intro (by omega) ?_))
               | refine Exists.intro (0) (And.intro (⟨rfl⟩) (And.intro (Nat.zero_le _) ?_))
               | refine Exists.intro _ (And.intro (⟨nc1⟩) (And.intro (by omega) ?_))
               | refine Exists.intro _ (Exists.intro _ (And.intro (⟨Eq.refl (α := Int) _⟩) (And.intro (⟨Eq.refl (α := Int) _⟩) (And.intro (by omega) (And.intro (by omega) ?_)))))
               | refine Exists.intro _ (Exists.intro _ (And.intro (⟨Eq.refl (α := Nat) _⟩) (And.intro (⟨Eq.refl (α := Nat) _⟩) ?_)))
               | refine Exists.intro _ (And.intro (⟨Eq.refl (α := Nat) _⟩) ?_)
               | refine Exists.intro _ (And.intro (u32and (by omega) (by omega)) ?_)
               | refine Exists.intro _ (And.intro (u32or (by omega) (by omega)) ?_)
               | refine Exists.intro _ (And.intro (u32xor (by omega) (by omega)) ?_)
               | refine Exists.intro _ (And.intro (u8xor (by omega) (by omega)) ?_)
               | refine Exists.intro _ (And.intro (u64and (by omega) (by omega)) ?_)
               | refine Exists.intro _ (And.intro (u64or (by omega) (by omega)) ?_)
               | refine Exists.intro _ (And.intro (u64xor (by omega) (by omega)) ?_)
               | refine Exists.intro _ (And.intro (w64 (by omega) (by omega)) ?_)
               | refine Exists.intro _ (And.intro (u32add (by omega)) ?_)
               | refine Exists.intro _ (And.intro (u64add (by omega)) ?_)
               | refine Exists.intro _ (And.intro (u8w (by omega)) ?_)
               | refine Exists.intro _ (And.intro (u32w (by omega)) ?_)
               | refine Exists.intro _ (And.intro (u64w (by omega)) ?_)
               | refine Exists.intro _ (And.intro (u8m) ?_)
               | refine Exists.intro _ (And.intro (u64i (by omega) (by omega)) ?_)
               | refine Exists.intro _ (And.intro (min_int) ?_)
               | refine Exists.intro _ (And.intro (max_int) ?_)
               | refine Exists.intro _ (And.intro (imin) ?_)
               | refine Exists.intro _ (And.intro (imax) ?_)
               | refine Pure.call (f33_ok _) ?_
               | refine Pure.locK (f33_ok _) ?_
               | refine Pure.call (f34_ok _) ?_
               | refine Pure.locK (f34_ok _) ?_
               | refine boolF_not ?_
               | refine boolF_dect rfl ?_
               | refine boolF_dect (by assumption) ?_
               | refine boolF_decf (by assumption) ?_
               | refine boolF_dect (by omega) ?_
               | refine boolF_decf (by omega) ?_
               | refine boolF_beqt (by omega) ?_
               | refine boolF_beqf (by omega) ?_
               | refine boolF_bnet (by omega) ?_
               | refine boolF_bnef (by omega) ?_
               | refine boolF_nbeqt (by omega) ?_
               | refine boolF_nbeqf (by omega) ?_
               | refine boolF_nbnet (by omega) ?_
               | refine boolF_nbnef (by omega) ?_
               | refine boolF_t (by assumption) ?_
               | refine boolF_f (by assumption) ?_
               | refine boolF_dec (fun _ => ?_) (fun _ => ?_)
               | refine boolF_beq (fun _ => ?_) (fun _ => ?_)
               | refine boolF_bne (fun _ => ?_) (fun _ => ?_)
               | refine boolF_nbeq (fun _ => ?_) (fun _ => ?_)
               | refine boolF_nbne (fun _ => ?_) (fun _ => ?_)
               | refine boolF_leq (fun _ => ?_) (fun _ => ?_)
               | refine Both.mk ?_ ?_)
    all_goals (conv => whnf)
    refine Pure.call h25 ?_
    repeat' (conv => whnf
             first
               | refine PairK.mk (by kernel_rfl) ?_
               | refine Exists.intro _ (And.intro (map_at (by omega) hx) ?_)
               | refine And.intro (by decide) ?_
               | refine And.intro rfl ?_
               | refine And.intro (List.cons_ne_nil _ _) ?_
               | refine And.intro (Nat.le_of_ble_eq_true rfl) ?_
               | refine And.intro (by omega) ?_
               | refine And.intro (by simp only [List.length_map, List.length_append, List.length_cons, List.length_nil]; omega) ?_
               | refine And.intro (by simpa only [List.length_map, List.length_append, List.length_cons, List.length_nil] using rfl) ?_
               | refine And.intro (Eq.symm (List.length_map _)) ?_
               | refine And.intro (all_map (fun _ => rfl)) ?_
               | refine And.intro (cells_map (fun _ => rfl)) ?_
               | refine And.intro (rows_map (fun _ => rfl) (fun _ => rfl)) ?_
               | refine And.intro (okRows_one rfl rfl) ?_
               | refine And.intro (okRows_all rfl) ?_
               | refine boolF_t (beq_self_eq_true _) ?_
               | refine Exists.intro _ (And.intro (map_get (by assumption)) ?_)
               | refine Exists.intro _ (And.intro (Eq.refl (α := Option D) _) ?_)
               | refine Exists.intro _ (And.intro (⟨(List.length_map _).symm⟩) ?_)
               | refine Exists.intro _ (And.intro (⟨len_one⟩) ?_)
               | refine Exists.intro _ (And.intro (⟨len_two⟩) ?_)
               | refine Exists.intro _ (And.intro (⟨len_three⟩) ?_)
               | refine Exists.intro _ (And.intro (⟨len_four⟩) ?_)
               | refine Exists.intro _ (And.intro (⟨lenl_1⟩) ?_)
               | refine Exists.intro _ (And.intro (⟨lenl_2⟩) ?_)
               | refine Exists.intro _ (And.intro (⟨lenl_3⟩) ?_)
               | refine Exists.intro _ (And.intro (⟨lenl_4⟩) ?_)
               | refine Exists.intro _ (And.intro (⟨len_more⟩) ?_)
               | refine Exists.intro _ (And.intro (⟨map_slice⟩) ?_)
               | refine Exists.intro _ (And.intro (⟨List.map_take⟩) ?_)
               | refine Exists.intro _ (And.intro (⟨List.map_drop⟩) ?_)
               | refine Exists.intro _ (And.intro (⟨map_full'⟩) ?_)
               | refine Exists.intro _ (And.intro (⟨map_full⟩) ?_)
               | refine Exists.intro _ (And.intro (⟨map_snoc⟩) ?_)
               | refine Exists.intro _ (And.intro (⟨List.map_append⟩) ?_)
               | refine Exists.intro _ (And.intro (⟨Eq.refl (α := List D) _⟩) ?_)
               | refine Exists.intro _ (And.intro (⟨Eq.refl (α := Int) _⟩) (And.intro (by omega) ?_))
               | refine Exists.intro (0) (And.intro (⟨rfl⟩) (And.intro (Nat.zero_le _) ?_))
               | refine Exists.intro _ (And.intro (⟨nc1⟩) (And.intro (by omega) ?_))
               | refine Exists.intro _ (Exists.intro _ (And.intro (⟨Eq.refl (α := Int) _⟩) (And.intro (⟨Eq.refl (α := Int) _⟩) (And.intro (by omega) (And.intro (by omega) ?_)))))
               | refine Exists.intro _ (Exists.intro _ (And.intro (⟨Eq.refl (α := Nat) _⟩) (And.intro (⟨Eq.refl (α := Nat) _⟩) ?_)))
               | refine Exists.intro _ (And.intro (⟨Eq.refl (α := Nat) _⟩) ?_)
               | refine Exists.intro _ (And.intro (u32and (by omega) (by omega)) ?_)
               | refine Exists.intro _ (And.intro (u32or (by omega) (by omega)) ?_)
               | refine Exists.intro _ (And.intro (u32xor (by omega) (by omega)) ?_)
               | refine Exists.intro _ (And.intro (u8xor (by omega) (by omega)) ?_)
               | refine Exists.intro _ (And.intro (u64and (by omega) (by omega)) ?_)
               | refine Exists.intro _ (And.intro (u64or (by omega) (by omega)) ?_)
               | refine Exists.intro _ (And.intro (u64xor (by omega) (by omega)) ?_)
               | refine Exists.intro _ (And.intro (w64 (by omega) (by omega)) ?_)
               | refine Exists.intro _ (And.intro (u32add (by omega)) ?_)
               | refine Exists.intro _ (And.intro (u64add (by omega)) ?_)
               | refine Exists.intro _ (And.intro (u8w (by omega)) ?_)
               | refine Exists.intro _ (And.intro (u32w (by omega)) ?_)
               | refine Exists.intro _ (And.intro (u64w (by omega)) ?_)
               | refine Exists.intro _ (And.intro (u8m) ?_)
               | refine Exists.intro _ (And.intro (u64i (by omega) (by omega)) ?_)
               | refine Exists.intro _ (And.intro (min_int) ?_)
               | refine Exists.intro _ (And.intro (max_int) ?_)
               | refine Exists.intro _ (And.intro (imin) ?_)
               | refine Exists.intro _ (And.intro (imax) ?_)
               | refine Pure.call (f33_ok _) ?_
               | refine Pure.locK (f33_ok _) ?_
               | refine Pure.call (f34_ok _) ?_
               | refine Pure.locK (f34_ok _) ?_
               | refine boolF_not ?_
               | refine boolF_dect rfl ?_
               | refine boolF_dect (by assumption) ?_
               | refine boolF_decf (by assumption) ?_
               | refine boolF_dect (by omega) ?_
               | refine boolF_decf (by omega) ?_
               | refine boolF_beqt (by omega) ?_
               | refine boolF_beqf (by omega) ?_
               | refine boolF_bnet (by omega) ?_
               | refine boolF_bnef (by omega) ?_
               | refine boolF_nbeqt (by omega) ?_
               | refine boolF_nbeqf (by omega) ?_
               | refine boolF_nbnet (by omega) ?_
               | refine boolF_nbnef (by omega) ?_
               | refine boolF_t (by assumption) ?_
               | refine boolF_f (by assumption) ?_
               | refine boolF_dec (fun _ => ?_) (fun _ => ?_)
               | refine boolF_beq (fun _ => ?_) (fun _ => ?_)
               | refine boolF_bne (fun _ => ?_) (fun _ => ?_)
               | refine boolF_nbeq (fun _ => ?_) (fun _ => ?_)
               | refine boolF_nbne (fun _ => ?_) (fun _ => ?_)
               | refine boolF_leq (fun _ => ?_) (fun _ => ?_)
               | refine Both.mk ?_ ?_)
    all_goals (conv => whnf)
    exact ⟨Told.wk wk_zero⟩

end Go.Proofs.Ytgcllbcpdcfkmaa

