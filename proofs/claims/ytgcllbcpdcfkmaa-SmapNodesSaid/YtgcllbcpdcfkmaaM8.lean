import Derived.Test.YtgcllbcpdcfkmaaM7
namespace Go.Proofs.Ytgcllbcpdcfkmaa
open Go.A
set_option linter.unusedVariables false
set_option linter.unusedSimpArgs false
set_option linter.unnecessarySimpa false
attribute [local irreducible] IntKind.wrap bitsI
set_option maxRecDepth 100000
set_option maxHeartbeats 4000000

def mergeM (m : T24) (b : Int) : T24 × Int :=
  if ¬ rightP m then (⟨0, 0, []⟩, 1) else if b < 0 ∨ m.n_ ≤ b then (⟨0, 0, []⟩, 9) else
  match at13 m b with
  | none => (⟨0, 0, []⟩, 1)
  | some (i, x) => if i = 0 ∨ x.from_ ≠ b then (⟨0, 0, []⟩, 9) else
    match m.pieces_[i - 1]? with
    | none => (⟨0, 0, []⟩, 1)
    | some y => if y.node_ ≠ x.node_ then (⟨0, 0, []⟩, 1) else nextM m (m.pieces_.take (i - 1) ++ [⟨y.from_, x.to_, x.node_⟩] ++ m.pieces_.drop (i + 1))

theorem findM_out {m : T24} {b : Int} (hr : rightP m) (h : b < 0 ∨ m.n_ ≤ b) : findM m b = (0, 9) := by rw [findM, if_pos hr, if_pos h]
theorem findM_not {m : T24} {b : Int} (hr : ¬ rightP m) : findM m b = (0, 1) := by rw [findM, if_neg hr]


theorem f23_ok (m : T24) (b : Int) (hm : ok25 m) (hb : ok3 b) : Pure Try.prog 23 [d25 m, d3 b] (.tup [d25 (mergeM m b).1, d3 (mergeM m b).2]) := by
  refine Pure.ofT ⟨sc25 _ _, trivial, trivial⟩ ⟨sc25 _ _, trivial, trivial⟩ ?_
  refine CallsIn.of_exec tab_ok mixed Try.func23 rfl rfl [] [] ?_
  by_cases hr : rightP m
  · by_cases hrange : b < 0 ∨ m.n_ ≤ b
    · rw [mergeM, if_neg (fun h => h hr), if_pos hrange]
      repeat' (conv => whnf
               first
                 | refine PairK.mk (by kernel_rfl) ?_
                 | refine Exists.intro _ (And.intro (map_at (by omega) hy) ?_)
                 | refine Exists.intro (k) (And.intro (⟨by omega⟩) (And.intro (by omega) ?_))
                 | refine And.intro (by decide) ?_
                 | refine And.intro rfl ?_
                 | refine And.intro (List.cons_ne_nil _ _) ?_
                 | refine And.intro (Nat.le_of_ble_eq_true rfl) ?_
                 | refine And.intro (by omega) ?_
                 | refine And.intro (by simp only [List.length_map, List.length_append, List.length_cons, List.length_nil]; omega) ?_
                 | refine And.intro (by simpa only [List.length_map, List.length_append, List.length_cons, List.length_nil] using rfl) ?_
                 | refine And.intro (Eq.symm (List.length_map _)) ?_
                 | refine And.intro (all_map (fun _ => rfl)) ?_
                 | refine And.intro (cells_map (fun _ => rfl)) ?_
                 | refine And.intro (rows_map (fun _ => rfl) (fun _ => rfl)) ?_
                 | refine And.intro (okRows_one rfl rfl) ?_
                 | refine And.intro (okRows_all rfl) ?_
                 | refine boolF_t (beq_self_eq_true _) ?_
                 | refine Exists.intro _ (And.intro (map_get (by assumption)) ?_)
                 | refine Exists.intro _ (And.intro (Eq.refl (α := Option D) _) ?_)
                 | refine Exists.intro _ (And.intro (⟨(List.length_map _).symm⟩) ?_)
                 | refine Exists.intro _ (And.intro (⟨len_one⟩) ?_)
                 | refine Exists.intro _ (And.intro (⟨len_two⟩) ?_)
                 | refine Exists.intro _ (And.intro (⟨len_three⟩) ?_)
                 | refine Exists.intro _ (And.intro (⟨len_four⟩) ?_)
                 | refine Exists.intro _ (And.intro (⟨lenl_1⟩) ?_)
                 | refine Exists.intro _ (And.intro (⟨lenl_2⟩) ?_)
                 | refine Exists.intro _ (And.intro (⟨lenl_3⟩) ?_)
                 | refine Exists.intro _ (And.intro (⟨lenl_4⟩) ?_)
                 | refine Exists.intro _ (And.intro (⟨len_more⟩) ?_)
                 | refine Exists.intro _ (And.intro (⟨map_slice⟩) ?_)
                 | refine Exists.intro _ (And.intro (⟨List.map_take⟩) ?_)
                 | refine Exists.intro _ (And.intro (⟨List.map_drop⟩) ?_)
                 | refine Exists.intro _ (And.intro (⟨map_full'⟩) ?_)
                 | refine Exists.intro _ (And.intro (⟨map_full⟩) ?_)
                 | refine Exists.intro _ (And.intro (⟨map_snoc⟩) ?_)
                 | refine Exists.intro _ (And.intro (⟨List.map_append⟩) ?_)
                 | refine Exists.intro _ (And.intro (⟨Eq.refl (α := List D) _⟩) ?_)
                 | refine Exists.intro _ (And.intro (⟨Eq.refl (α := Int) _⟩) (And.intro (by omega) ?_))
                 | refine Exists.intro (0) (And.intro (⟨rfl⟩) (And.intro (Nat.zero_le _) ?_))
                 | refine Exists.intro _ (And.intro (⟨nc1⟩) (And.intro (by omega) ?_))
                 | refine Exists.intro _ (Exists.intro _ (And.intro (⟨Eq.refl (α := Int) _⟩) (And.intro (⟨Eq.refl (α := Int) _⟩) (And.intro (by omega) (And.intro (by omega) ?_)))))
                 | refine Exists.intro _ (Exists.intro _ (And.intro (⟨Eq.refl (α := Nat) _⟩) (And.intro (⟨Eq.refl (α := Nat) _⟩) ?_)))
                 | refine Exists.intro _ (And.intro (⟨Eq.refl (α := Nat) _⟩) ?_)
                 | refine Exists.intro _ (And.intro (u32and (by omega) (by omega)) ?_)
                 | refine Exists.intro _ (And.intro (u32or (by omega) (by omega)) ?_)
                 | refine Exists.intro _ (And.intro (u32xor (by omega) (by omega)) ?_)
                 | refine Exists.intro _ (And.intro (u8xor (by omega) (by omega)) ?_)
                 | refine Exists.intro _ (And.intro (u64and (by omega) (by omega)) ?_)
                 | refine Exists.intro _ (And.intro (u64or (by omega) (by omega)) ?_)
                 | refine Exists.intro _ (And.intro (u64xor (by omega) (by omega)) ?_)
                 | refine Exists.intro _ (And.intro (w64 (by omega) (by omega)) ?_)
                 | refine Exists.intro _ (And.intro (u32add (by omega)) ?_)
                 | refine Exists.intro _ (And.intro (u64add (by omega)) ?_)
                 | refine Exists.intro _ (And.intro (u8w (by omega)) ?_)
                 | refine Exists.intro _ (And.intro (u32w (by omega)) ?_)
                 | refine Exists.intro _ (And.intro (u64w (by omega)) ?_)
                 | refine Exists.intro _ (And.intro (u8m) ?_)
                 | refine Exists.intro _ (And.intro (u64i (by omega) (by omega)) ?_)
                 | refine Exists.intro _ (And.intro (min_int) ?_)
                 | refine Exists.intro _ (And.intro (max_int) ?_)
                 | refine Exists.intro _ (And.intro (imin) ?_)
                 | refine Exists.intro _ (And.intro (imax) ?_)
                 | refine boolF_not ?_
                 | refine boolF_dect rfl ?_
                 | refine boolF_dect (by assumption) ?_
                 | refine boolF_decf (by assumption) ?_
                 | refine boolF_dect (by omega) ?_
                 | refine boolF_decf (by omega) ?_
                 | refine boolF_beqt (by omega) ?_
                 | refine boolF_beqf (by omega) ?_
                 | refine boolF_bnet (by omega) ?_
                 | refine boolF_bnef (by omega) ?_
                 | refine boolF_nbeqt (by omega) ?_
                 | refine boolF_nbeqf (by omega) ?_
                 | refine boolF_nbnet (by omega) ?_
                 | refine boolF_nbnef (by omega) ?_
                 | refine boolF_t (by assumption) ?_
                 | refine boolF_f (by assumption) ?_
                 | refine boolF_dec (fun _ => ?_) (fun _ => ?_)
                 | refine boolF_beq (fun _ => ?_) (fun _ => ?_)
                 | refine boolF_bne (fun _ => ?_) (fun _ => ?_)
                 | refine boolF_nbeq (fun _ => ?_) (fun _ => ?_)
                 | refine boolF_nbne (fun _ => ?_) (fun _ => ?_)
                 | refine boolF_leq (fun _ => ?_) (fun _ => ?_)
                 | refine Both.mk ?_ ?_)
      all_goals (conv => whnf)
      refine Pure.call (f24_ok _ _ hm hb) ?_
      rw [findM_out hr hrange]
      repeat' (conv => whnf
               first
                 | refine PairK.mk (by kernel_rfl) ?_
                 | refine Exists.intro _ (And.intro (map_at (by omega) hy) ?_)
                 | refine Exists.intro (k) (And.intro (⟨by omega⟩) (And.intro (by omega) ?_))
                 | refine And.intro (by decide) ?_
                 | refine And.intro rfl ?_
                 | refine And.intro (List.cons_ne_nil _ _) ?_
                 | refine And.intro (Nat.le_of_ble_eq_true rfl) ?_
                 | refine And.intro (by omega) ?_
                 | refine And.intro (by simp only [List.length_map, List.length_append, List.length_cons, List.length_nil]; omega) ?_
                 | refine And.intro (by simpa only [List.length_map, List.length_append, List.length_cons, List.length_nil] using rfl) ?_
                 | refine And.intro (Eq.symm (List.length_map _)) ?_
                 | refine And.intro (all_map (fun _ => rfl)) ?_
                 | refine And.intro (cells_map (fun _ => rfl)) ?_
                 | refine And.intro (rows_map (fun _ => rfl) (fun _ => rfl)) ?_
                 | refine And.intro (okRows_one rfl rfl) ?_
                 | refine And.intro (okRows_all rfl) ?_
                 | refine boolF_t (beq_self_eq_true _) ?_
                 | refine Exists.intro _ (And.intro (map_get (by assumption)) ?_)
                 | refine Exists.intro _ (And.intro (Eq.refl (α := Option D) _) ?_)
                 | refine Exists.intro _ (And.intro (⟨(List.length_map _).symm⟩) ?_)
                 | refine Exists.intro _ (And.intro (⟨len_one⟩) ?_)
                 | refine Exists.intro _ (And.intro (⟨len_two⟩) ?_)
                 | refine Exists.intro _ (And.intro (⟨len_three⟩) ?_)
                 | refine Exists.intro _ (And.intro (⟨len_four⟩) ?_)
                 | refine Exists.intro _ (And.intro (⟨lenl_1⟩) ?_)
                 | refine Exists.intro _ (And.intro (⟨lenl_2⟩) ?_)
                 | refine Exists.intro _ (And.intro (⟨lenl_3⟩) ?_)
                 | refine Exists.intro _ (And.intro (⟨lenl_4⟩) ?_)
                 | refine Exists.intro _ (And.intro (⟨len_more⟩) ?_)
                 | refine Exists.intro _ (And.intro (⟨map_slice⟩) ?_)
                 | refine Exists.intro _ (And.intro (⟨List.map_take⟩) ?_)
                 | refine Exists.intro _ (And.intro (⟨List.map_drop⟩) ?_)
                 | refine Exists.intro _ (And.intro (⟨map_full'⟩) ?_)
                 | refine Exists.intro _ (And.intro (⟨map_full⟩) ?_)
                 | refine Exists.intro _ (And.intro (⟨map_snoc⟩) ?_)
                 | refine Exists.intro _ (And.intro (⟨List.map_append⟩) ?_)
                 | refine Exists.intro _ (And.intro (⟨Eq.refl (α := List D) _⟩) ?_)
                 | refine Exists.intro _ (And.intro (⟨Eq.refl (α := Int) _⟩) (And.intro (by omega) ?_))
                 | refine Exists.intro (0) (And.intro (⟨rfl⟩) (And.intro (Nat.zero_le _) ?_))
                 | refine Exists.intro _ (And.intro (⟨nc1⟩) (And.intro (by omega) ?_))
                 | refine Exists.intro _ (Exists.intro _ (And.intro (⟨Eq.refl (α := Int) _⟩) (And.intro (⟨Eq.refl (α := Int) _⟩) (And.intro (by omega) (And.intro (by omega) ?_)))))
                 | refine Exists.intro _ (Exists.intro _ (And.intro (⟨Eq.refl (α := Nat) _⟩) (And.intro (⟨Eq.refl (α := Nat) _⟩) ?_)))
                 | refine Exists.intro _ (And.intro (⟨Eq.refl (α := Nat) _⟩) ?_)
                 | refine Exists.intro _ (And.intro (u32and (by omega) (by omega)) ?_)
                 | refine Exists.intro _ (And.intro (u32or (by omega) (by omega)) ?_)
                 | refine Exists.intro _ (And.intro (u32xor (by omega) (by omega)) ?_)
                 | refine Exists.intro _ (And.intro (u8xor (by omega) (by omega)) ?_)
                 | refine Exists.intro _ (And.intro (u64and (by omega) (by omega)) ?_)
                 | refine Exists.intro _ (And.intro (u64or (by omega) (by omega)) ?_)
                 | refine Exists.intro _ (And.intro (u64xor (by omega) (by omega)) ?_)
                 | refine Exists.intro _ (And.intro (w64 (by omega) (by omega)) ?_)
                 | refine Exists.intro _ (And.intro (u32add (by omega)) ?_)
                 | refine Exists.intro _ (And.intro (u64add (by omega)) ?_)
                 | refine Exists.intro _ (And.intro (u8w (by omega)) ?_)
                 | refine Exists.intro _ (And.intro (u32w (by omega)) ?_)
                 | refine Exists.intro _ (And.intro (u64w (by omega)) ?_)
                 | refine Exists.intro _ (And.intro (u8m) ?_)
                 | refine Exists.intro _ (And.intro (u64i (by omega) (by omega)) ?_)
                 | refine Exists.intro _ (And.intro (min_int) ?_)
                 | refine Exists.intro _ (And.intro (max_int) ?_)
                 | refine Exists.intro _ (And.intro (imin) ?_)
                 | refine Exists.intro _ (And.intro (imax) ?_)
                 | refine boolF_not ?_
                 | refine boolF_dect rfl ?_
                 | refine boolF_dect (by assumption) ?_
                 | refine boolF_decf (by assumption) ?_
                 | refine boolF_dect (by omega) ?_
                 | refine boolF_decf (by omega) ?_
                 | refine boolF_beqt (by omega) ?_
                 | refine boolF_beqf (by omega) ?_
                 | refine boolF_bnet (by omega) ?_
                 | refine boolF_bnef (by omega) ?_
                 | refine boolF_nbeqt (by omega) ?_
                 | refine boolF_nbeqf (by omega) ?_
                 | refine boolF_nbnet (by omega) ?_
                 | refine boolF_nbnef (by omega) ?_
                 | refine boolF_t (by assumption) ?_
                 | refine boolF_f (by assumption) ?_
                 | refine boolF_dec (fun _ => ?_) (fun _ => ?_)
                 | refine boolF_beq (fun _ => ?_) (fun _ => ?_)
                 | refine boolF_bne (fun _ => ?_) (fun _ => ?_)
                 | refine boolF_nbeq (fun _ => ?_) (fun _ => ?_)
                 | refine boolF_nbne (fun _ => ?_) (fun _ => ?_)
                 | refine boolF_leq (fun _ => ?_) (fun _ => ?_)
                 | refine Both.mk ?_ ?_)
      all_goals (conv => whnf)
      exact ⟨Told.wk wk_zero⟩
    obtain ⟨i, x, e1, hx, e3, e4, e5, e6, e7, e8, e9, e10⟩ := find_spec hr (b := b) (by omega) (by omega)
    have e11 := at13_eq hr (by omega) (by omega) e1 hx
    have hi := (List.getElem?_eq_some_iff.mp hx).1
    have hv := hr.2.1
    have hl := hr.2.2.2.2.1
    rw [mergeM, if_neg (fun h => h hr), if_neg hrange, e11]
    dsimp only
    by_cases hi0 : i = 0
    · rw [if_pos (.inl hi0)]
      repeat' (conv => whnf
               first
                 | refine PairK.mk (by kernel_rfl) ?_
                 | refine Exists.intro _ (And.intro (map_at (by omega) hy) ?_)
                 | refine Exists.intro (k) (And.intro (⟨by omega⟩) (And.intro (by omega) ?_))
                 | refine And.intro (by decide) ?_
                 | refine And.intro rfl ?_
                 | refine And.intro (List.cons_ne_nil _ _) ?_
                 | refine And.intro (Nat.le_of_ble_eq_true rfl) ?_
                 | refine And.intro (by omega) ?_
                 | refine And.intro (by simp only [List.length_map, List.length_append, List.length_cons, List.length_nil]; omega) ?_
                 | refine And.intro (by simpa only [List.length_map, List.length_append, List.length_cons, List.length_nil] using rfl) ?_
                 | refine And.intro (Eq.symm (List.length_map _)) ?_
                 | refine And.intro (all_map (fun _ => rfl)) ?_
                 | refine And.intro (cells_map (fun _ => rfl)) ?_
                 | refine And.intro (rows_map (fun _ => rfl) (fun _ => rfl)) ?_
                 | refine And.intro (okRows_one rfl rfl) ?_
                 | refine And.intro (okRows_all rfl) ?_
                 | refine boolF_t (beq_self_eq_true _) ?_
                 | refine Exists.intro _ (And.intro (map_get (by assumption)) ?_)
                 | refine Exists.intro _ (And.intro (Eq.refl (α := Option D) _) ?_)
                 | refine Exists.intro _ (And.intro (⟨(List.length_map _).symm⟩) ?_)
                 | refine Exists.intro _ (And.intro (⟨len_one⟩) ?_)
                 | refine Exists.intro _ (And.intro (⟨len_two⟩) ?_)
                 | refine Exists.intro _ (And.intro (⟨len_three⟩) ?_)
                 | refine Exists.intro _ (And.intro (⟨len_four⟩) ?_)
                 | refine Exists.intro _ (And.intro (⟨lenl_1⟩) ?_)
                 | refine Exists.intro _ (And.intro (⟨lenl_2⟩) ?_)
                 | refine Exists.intro _ (And.intro (⟨lenl_3⟩) ?_)
                 | refine Exists.intro _ (And.intro (⟨lenl_4⟩) ?_)
                 | refine Exists.intro _ (And.intro (⟨len_more⟩) ?_)
                 | refine Exists.intro _ (And.intro (⟨map_slice⟩) ?_)
                 | refine Exists.intro _ (And.intro (⟨List.map_take⟩) ?_)
                 | refine Exists.intro _ (And.intro (⟨List.map_drop⟩) ?_)
                 | refine Exists.intro _ (And.intro (⟨map_full'⟩) ?_)
                 | refine Exists.intro _ (And.intro (⟨map_full⟩) ?_)
                 | refine Exists.intro _ (And.intro (⟨map_snoc⟩) ?_)
                 | refine Exists.intro _ (And.intro (⟨List.map_append⟩) ?_)
                 | refine Exists.intro _ (And.intro (⟨Eq.refl (α := List D) _⟩) ?_)
                 | refine Exists.intro _ (And.intro (⟨Eq.refl (α := Int) _⟩) (And.intro (by omega) ?_))
                 | refine Exists.intro (0) (And.intro (⟨rfl⟩) (And.intro (Nat.zero_le _) ?_))
                 | refine Exists.intro _ (And.intro (⟨nc1⟩) (And.intro (by omega) ?_))
                 | refine Exists.intro _ (Exists.intro _ (And.intro (⟨Eq.refl (α := Int) _⟩) (And.intro (⟨Eq.refl (α := Int) _⟩) (And.intro (by omega) (And.intro (by omega) ?_)))))
                 | refine Exists.intro _ (Exists.intro _ (And.intro (⟨Eq.refl (α := Nat) _⟩) (And.intro (⟨Eq.refl (α := Nat) _⟩) ?_)))
                 | refine Exists.intro _ (And.intro (⟨Eq.refl (α := Nat) _⟩) ?_)
                 | refine Exists.intro _ (And.intro (u32and (by omega) (by omega)) ?_)
                 | refine Exists.intro _ (And.intro (u32or (by omega) (by omega)) ?_)
                 | refine Exists.intro _ (And.intro (u32xor (by omega) (by omega)) ?_)
                 | refine Exists.intro _ (And.intro (u8xor (by omega) (by omega)) ?_)
                 | refine Exists.intro _ (And.intro (u64and (by omega) (by omega)) ?_)
                 | refine Exists.intro _ (And.intro (u64or (by omega) (by omega)) ?_)
                 | refine Exists.intro _ (And.intro (u64xor (by omega) (by omega)) ?_)
                 | refine Exists.intro _ (And.intro (w64 (by omega) (by omega)) ?_)
                 | refine Exists.intro _ (And.intro (u32add (by omega)) ?_)
                 | refine Exists.intro _ (And.intro (u64add (by omega)) ?_)
                 | refine Exists.intro _ (And.intro (u8w (by omega)) ?_)
                 | refine Exists.intro _ (And.intro (u32w (by omega)) ?_)
                 | refine Exists.intro _ (And.intro (u64w (by omega)) ?_)
                 | refine Exists.intro _ (And.intro (u8m) ?_)
                 | refine Exists.intro _ (And.intro (u64i (by omega) (by omega)) ?_)
                 | refine Exists.intro _ (And.intro (min_int) ?_)
                 | refine Exists.intro _ (And.intro (max_int) ?_)
                 | refine Exists.intro _ (And.intro (imin) ?_)
                 | refine Exists.intro _ (And.intro (imax) ?_)
                 | refine boolF_not ?_
                 | refine boolF_dect rfl ?_
                 | refine boolF_dect (by assumption) ?_
                 | refine boolF_decf (by assumption) ?_
                 | refine boolF_dect (by omega) ?_
                 | refine boolF_decf (by omega) ?_
                 | refine boolF_beqt (by omega) ?_
                 | refine boolF_beqf (by omega) ?_
                 | refine boolF_bnet (by omega) ?_
                 | refine boolF_bnef (by omega) ?_
                 | refine boolF_nbeqt (by omega) ?_
                 | refine boolF_nbeqf (by omega) ?_
                 | refine boolF_nbnet (by omega) ?_
                 | refine boolF_nbnef (by omega) ?_
                 | refine boolF_t (by assumption) ?_
                 | refine boolF_f (by assumption) ?_
                 | refine boolF_dec (fun _ => ?_) (fun _ => ?_)
                 | refine boolF_beq (fun _ => ?_) (fun _ => ?_)
                 | refine boolF_bne (fun _ => ?_) (fun _ => ?_)
                 | refine boolF_nbeq (fun _ => ?_) (fun _ => ?_)
                 | refine boolF_nbne (fun _ => ?_) (fun _ => ?_)
                 | refine boolF_leq (fun _ => ?_) (fun _ => ?_)
                 | refine Both.mk ?_ ?_)
      all_goals (conv => whnf)
      refine Pure.call (f24_ok _ _ hm hb) ?_
      rw [e1]
      repeat' (conv => whnf
               first
                 | refine PairK.mk (by kernel_rfl) ?_
                 | refine Exists.intro _ (And.intro (map_at (by omega) hy) ?_)
                 | refine Exists.intro (k) (And.intro (⟨by omega⟩) (And.intro (by omega) ?_))
                 | refine And.intro (by decide) ?_
                 | refine And.intro rfl ?_
                 | refine And.intro (List.cons_ne_nil _ _) ?_
                 | refine And.intro (Nat.le_of_ble_eq_true rfl) ?_
                 | refine And.intro (by omega) ?_
                 | refine And.intro (by simp only [List.length_map, List.length_append, List.length_cons, List.length_nil]; omega) ?_
                 | refine And.intro (by simpa only [List.length_map, List.length_append, List.length_cons, List.length_nil] using rfl) ?_
                 | refine And.intro (Eq.symm (List.length_map _)) ?_
                 | refine And.intro (all_map (fun _ => rfl)) ?_
                 | refine And.intro (cells_map (fun _ => rfl)) ?_
                 | refine And.intro (rows_map (fun _ => rfl) (fun _ => rfl)) ?_
                 | refine And.intro (okRows_one rfl rfl) ?_
                 | refine And.intro (okRows_all rfl) ?_
                 | refine boolF_t (beq_self_eq_true _) ?_
                 | refine Exists.intro _ (And.intro (map_get (by assumption)) ?_)
                 | refine Exists.intro _ (And.intro (Eq.refl (α := Option D) _) ?_)
                 | refine Exists.intro _ (And.intro (⟨(List.length_map _).symm⟩) ?_)
                 | refine Exists.intro _ (And.intro (⟨len_one⟩) ?_)
                 | refine Exists.intro _ (And.intro (⟨len_two⟩) ?_)
                 | refine Exists.intro _ (And.intro (⟨len_three⟩) ?_)
                 | refine Exists.intro _ (And.intro (⟨len_four⟩) ?_)
                 | refine Exists.intro _ (And.intro (⟨lenl_1⟩) ?_)
                 | refine Exists.intro _ (And.intro (⟨lenl_2⟩) ?_)
                 | refine Exists.intro _ (And.intro (⟨lenl_3⟩) ?_)
                 | refine Exists.intro _ (And.intro (⟨lenl_4⟩) ?_)
                 | refine Exists.intro _ (And.intro (⟨len_more⟩) ?_)
                 | refine Exists.intro _ (And.intro (⟨map_slice⟩) ?_)
                 | refine Exists.intro _ (And.intro (⟨List.map_take⟩) ?_)
                 | refine Exists.intro _ (And.intro (⟨List.map_drop⟩) ?_)
                 | refine Exists.intro _ (And.intro (⟨map_full'⟩) ?_)
                 | refine Exists.intro _ (And.intro (⟨map_full⟩) ?_)
                 | refine Exists.intro _ (And.intro (⟨map_snoc⟩) ?_)
                 | refine Exists.intro _ (And.intro (⟨List.map_append⟩) ?_)
                 | refine Exists.intro _ (And.intro (⟨Eq.refl (α := List D) _⟩) ?_)
                 | refine Exists.intro _ (And.intro (⟨Eq.refl (α := Int) _⟩) (And.intro (by omega) ?_))
                 | refine Exists.intro (0) (And.intro (⟨rfl⟩) (And.intro (Nat.zero_le _) ?_))
                 | refine Exists.intro _ (And.intro (⟨nc1⟩) (And.intro (by omega) ?_))
                 | refine Exists.intro _ (Exists.intro _ (And.intro (⟨Eq.refl (α := Int) _⟩) (And.intro (⟨Eq.refl (α := Int) _⟩) (And.intro (by omega) (And.intro (by omega) ?_)))))
                 | refine Exists.intro _ (Exists.intro _ (And.intro (⟨Eq.refl (α := Nat) _⟩) (And.intro (⟨Eq.refl (α := Nat) _⟩) ?_)))
                 | refine Exists.intro _ (And.intro (⟨Eq.refl (α := Nat) _⟩) ?_)
                 | refine Exists.intro _ (And.intro (u32and (by omega) (by omega)) ?_)
                 | refine Exists.intro _ (And.intro (u32or (by omega) (by omega)) ?_)
                 | refine Exists.intro _ (And.intro (u32xor (by omega) (by omega)) ?_)
                 | refine Exists.intro _ (And.intro (u8xor (by omega) (by omega)) ?_)
                 | refine Exists.intro _ (And.intro (u64and (by omega) (by omega)) ?_)
                 | refine Exists.intro _ (And.intro (u64or (by omega) (by omega)) ?_)
                 | refine Exists.intro _ (And.intro (u64xor (by omega) (by omega)) ?_)
                 | refine Exists.intro _ (And.intro (w64 (by omega) (by omega)) ?_)
                 | refine Exists.intro _ (And.intro (u32add (by omega)) ?_)
                 | refine Exists.intro _ (And.intro (u64add (by omega)) ?_)
                 | refine Exists.intro _ (And.intro (u8w (by omega)) ?_)
                 | refine Exists.intro _ (And.intro (u32w (by omega)) ?_)
                 | refine Exists.intro _ (And.intro (u64w (by omega)) ?_)
                 | refine Exists.intro _ (And.intro (u8m) ?_)
                 | refine Exists.intro _ (And.intro (u64i (by omega) (by omega)) ?_)
                 | refine Exists.intro _ (And.intro (min_int) ?_)
                 | refine Exists.intro _ (And.intro (max_int) ?_)
                 | refine Exists.intro _ (And.intro (imin) ?_)
                 | refine Exists.intro _ (And.intro (imax) ?_)
                 | refine boolF_not ?_
                 | refine boolF_dect rfl ?_
                 | refine boolF_dect (by assumption) ?_
                 | refine boolF_decf (by assumption) ?_
                 | refine boolF_dect (by omega) ?_
                 | refine boolF_decf (by omega) ?_
                 | refine boolF_beqt (by omega) ?_
                 | refine boolF_beqf (by omega) ?_
                 | refine boolF_bnet (by omega) ?_
                 | refine boolF_bnef (by omega) ?_
                 | refine boolF_nbeqt (by omega) ?_
                 | refine boolF_nbeqf (by omega) ?_
                 | refine boolF_nbnet (by omega) ?_
                 | refine boolF_nbnef (by omega) ?_
                 | refine boolF_t (by assumption) ?_
                 | refine boolF_f (by assumption) ?_
                 | refine boolF_dec (fun _ => ?_) (fun _ => ?_)
                 | refine boolF_beq (fun _ => ?_) (fun _ => ?_)
                 | refine boolF_bne (fun _ => ?_) (fun _ => ?_)
                 | refine boolF_nbeq (fun _ => ?_) (fun _ => ?_)
                 | refine boolF_nbne (fun _ => ?_) (fun _ => ?_)
                 | refine boolF_leq (fun _ => ?_) (fun _ => ?_)
                 | refine Both.mk ?_ ?_)
      all_goals (conv => whnf)
      exact ⟨Told.wk wk_zero⟩
    obtain ⟨k, hk⟩ : ∃ k, i = k + 1 := ⟨i - 1, by omega⟩
    have hi1 : (i : Int) - 1 = (k : Int) := by omega
    have hk1 : i - 1 = k := by omega
    obtain ⟨y, hy⟩ := at_lt (l := m.pieces_) (i := k) (by omega)
    rw [hk1, hy]
    dsimp only
    repeat' (conv => whnf
             first
               | refine PairK.mk (by kernel_rfl) ?_
               | refine Exists.intro _ (And.intro (map_at (by omega) hy) ?_)
               | refine Exists.intro (k) (And.intro (⟨by omega⟩) (And.intro (by omega) ?_))
               | refine And.intro (by decide) ?_
               | refine And.intro rfl ?_
               | refine And.intro (List.cons_ne_nil _ _) ?_
               | refine And.intro (Nat.le_of_ble_eq_true rfl) ?_
               | refine And.intro (by omega) ?_
               | refine And.intro (by simp only [List.length_map, List.length_append, List.length_cons, List.length_nil]; omega) ?_
               | refine And.intro (by simpa only [List.length_map, List.length_append, List.length_cons, List.length_nil] using rfl) ?_
               | refine And.intro (Eq.symm (List.length_map _)) ?_
               | refine And.intro (all_map (fun _ => rfl)) ?_
               | refine And.intro (cells_map (fun _ => rfl)) ?_
               | refine And.intro (rows_map (fun _ => rfl) (fun _ => rfl)) ?_
               | refine And.intro (okRows_one rfl rfl) ?_
               | refine And.intro (okRows_all rfl) ?_
               | refine boolF_t (beq_self_eq_true _) ?_
               | refine Exists.intro _ (And.intro (map_get (by assumption)) ?_)
               | refine Exists.intro _ (And.intro (Eq.refl (α := Option D) _) ?_)
               | refine Exists.intro _ (And.intro (⟨(List.length_map _).symm⟩) ?_)
               | refine Exists.intro _ (And.intro (⟨len_one⟩) ?_)
               | refine Exists.intro _ (And.intro (⟨len_two⟩) ?_)
               | refine Exists.intro _ (And.intro (⟨len_three⟩) ?_)
               | refine Exists.intro _ (And.intro (⟨len_four⟩) ?_)
               | refine Exists.intro _ (And.intro (⟨lenl_1⟩) ?_)
               | refine Exists.intro _ (And.intro (⟨lenl_2⟩) ?_)
               | refine Exists.intro _ (And.intro (⟨lenl_3⟩) ?_)
               | refine Exists.intro _ (And.intro (⟨lenl_4⟩) ?_)
               | refine Exists.intro _ (And.intro (⟨len_more⟩) ?_)
               | refine Exists.intro _ (And.intro (⟨map_slice⟩) ?_)
               | refine Exists.intro _ (And.intro (⟨List.map_take⟩) ?_)
               | refine Exists.intro _ (And.intro (⟨List.map_drop⟩) ?_)
               | refine Exists.intro _ (And.intro (⟨map_full'⟩) ?_)
               | refine Exists.intro _ (And.intro (⟨map_full⟩) ?_)
               | refine Exists.intro _ (And.intro (⟨map_snoc⟩) ?_)
               | refine Exists.intro _ (And.intro (⟨List.map_append⟩) ?_)
               | refine Exists.intro _ (And.intro (⟨Eq.refl (α := List D) _⟩) ?_)
               | refine Exists.intro _ (And.intro (⟨Eq.refl (α := Int) _⟩) (And.intro (by omega) ?_))
               | refine Exists.intro (0) (And.intro (⟨rfl⟩) (And.intro (Nat.zero_le _) ?_))
               | refine Exists.intro _ (And.intro (⟨nc1⟩) (And.intro (by omega) ?_))
               | refine Exists.intro _ (Exists.intro _ (And.intro (⟨Eq.refl (α := Int) _⟩) (And.intro (⟨Eq.refl (α := Int) _⟩) (And.intro (by omega) (And.intro (by omega) ?_)))))
               | refine Exists.intro _ (Exists.intro _ (And.intro (⟨Eq.refl (α := Nat) _⟩) (And.intro (⟨Eq.refl (α := Nat) _⟩) ?_)))
               | refine Exists.intro _ (And.intro (⟨Eq.refl (α := Nat) _⟩) ?_)
               | refine Exists.intro _ (And.intro (u32and (by omega) (by omega)) ?_)
               | refine Exists.intro _ (And.intro (u32or (by omega) (by omega)) ?_)
               | refine Exists.intro _ (And.intro (u32xor (by omega) (by omega)) ?_)
               | refine Exists.intro _ (And.intro (u8xor (by omega) (by omega)) ?_)
               | refine Exists.intro _ (And.intro (u64and (by omega) (by omega)) ?_)
               | refine Exists.intro _ (And.intro (u64or (by omega) (by omega)) ?_)
               | refine Exists.intro _ (And.intro (u64xor (by omega) (by omega)) ?_)
               | refine Exists.intro _ (And.intro (w64 (by omega) (by omega)) ?_)
               | refine Exists.intro _ (And.intro (u32add (by omega)) ?_)
               | refine Exists.intro _ (And.intro (u64add (by omega)) ?_)
               | refine Exists.intro _ (And.intro (u8w (by omega)) ?_)
               | refine Exists.intro _ (And.intro (u32w (by omega)) ?_)
               | refine Exists.intro _ (And.intro (u64w (by omega)) ?_)
               | refine Exists.intro _ (And.intro (u8m) ?_)
               | refine Exists.intro _ (And.intro (u64i (by omega) (by omega)) ?_)
               | refine Exists.intro _ (And.intro (min_int) ?_)
               | refine Exists.intro _ (And.intro (max_int) ?_)
               | refine Exists.intro _ (And.intro (imin) ?_)
               | refine Exists.intro _ (And.intro (imax) ?_)
               | refine boolF_not ?_
               | refine boolF_dect rfl ?_
               | refine boolF_dect (by assumption) ?_
               | refine boolF_decf (by assumption) ?_
               | refine boolF_dect (by omega) ?_
               | refine boolF_decf (by omega) ?_
               | refine boolF_beqt (by omega) ?_
               | refine boolF_beqf (by omega) ?_
               | refine boolF_bnet (by omega) ?_
               | refine boolF_bnef (by omega) ?_
               | refine boolF_nbeqt (by omega) ?_
               | refine boolF_nbeqf (by omega) ?_
               | refine boolF_nbnet (by omega) ?_
               | refine boolF_nbnef (by omega) ?_
               | refine boolF_t (by assumption) ?_
               | refine boolF_f (by assumption) ?_
               | refine boolF_dec (fun _ => ?_) (fun _ => ?_)
               | refine boolF_beq (fun _ => ?_) (fun _ => ?_)
               | refine boolF_bne (fun _ => ?_) (fun _ => ?_)
               | refine boolF_nbeq (fun _ => ?_) (fun _ => ?_)
               | refine boolF_nbne (fun _ => ?_) (fun _ => ?_)
               | refine boolF_leq (fun _ => ?_) (fun _ => ?_)
               | refine Both.mk ?_ ?_)
    all_goals (conv => whnf)
    have h24 := f24_ok m b hm hb
    rw [e1] at h24
    refine Pure.call h24 ?_
    repeat' (conv => whnf
             first
               | refine PairK.mk (by kernel_rfl) ?_
               | refine Exists.intro _ (And.intro (map_at (by omega) hy) ?_)
               | refine Exists.intro (k) (And.intro (⟨by omega⟩) (And.intro (by omega) ?_))
               | refine And.intro (by decide) ?_
               | refine And.intro rfl ?_
               | refine And.intro (List.cons_ne_nil _ _) ?_
               | refine And.intro (Nat.le_of_ble_eq_true rfl) ?_
               | refine And.intro (by omega) ?_
               | refine And.intro (by simp only [List.length_map, List.length_append, List.length_cons, List.length_nil]; omega) ?_
               | refine And.intro (by simpa only [List.length_map, List.length_append, List.length_cons, List.length_nil] using rfl) ?_
               | refine And.intro (Eq.symm (List.length_map _)) ?_
               | refine And.intro (all_map (fun _ => rfl)) ?_
               | refine And.intro (cells_map (fun _ => rfl)) ?_
               | refine And.intro (rows_map (fun _ => rfl) (fun _ => rfl)) ?_
               | refine And.intro (okRows_one rfl rfl) ?_
               | refine And.intro (okRows_all rfl) ?_
               | refine boolF_t (beq_self_eq_true _) ?_
               | refine Exists.intro _ (And.intro (map_get (by assumption)) ?_)
               | refine Exists.intro _ (And.intro (Eq.refl (α := Option D) _) ?_)
               | refine Exists.intro _ (And.intro (⟨(List.length_map _).symm⟩) ?_)
               | refine Exists.intro _ (And.intro (⟨len_one⟩) ?_)
               | refine Exists.intro _ (And.intro (⟨len_two⟩) ?_)
               | refine Exists.intro _ (And.intro (⟨len_three⟩) ?_)
               | refine Exists.intro _ (And.intro (⟨len_four⟩) ?_)
               | refine Exists.intro _ (And.intro (⟨lenl_1⟩) ?_)
               | refine Exists.intro _ (And.intro (⟨lenl_2⟩) ?_)
               | refine Exists.intro _ (And.intro (⟨lenl_3⟩) ?_)
               | refine Exists.intro _ (And.intro (⟨lenl_4⟩) ?_)
               | refine Exists.intro _ (And.intro (⟨len_more⟩) ?_)
               | refine Exists.intro _ (And.intro (⟨map_slice⟩) ?_)
               | refine Exists.intro _ (And.intro (⟨List.map_take⟩) ?_)
               | refine Exists.intro _ (And.intro (⟨List.map_drop⟩) ?_)
               | refine Exists.intro _ (And.intro (⟨map_full'⟩) ?_)
               | refine Exists.intro _ (And.intro (⟨map_full⟩) ?_)
               | refine Exists.intro _ (And.intro (⟨map_snoc⟩) ?_)
               | refine Exists.intro _ (And.intro (⟨List.map_append⟩) ?_)
               | refine Exists.intro _ (And.intro (⟨Eq.refl (α := List D) _⟩) ?_)
               | refine Exists.intro _ (And.intro (⟨Eq.refl (α := Int) _⟩) (And.intro (by omega) ?_))
               | refine Exists.intro (0) (And.intro (⟨rfl⟩) (And.intro (Nat.zero_le _) ?_))
               | refine Exists.intro _ (And.intro (⟨nc1⟩) (And.intro (by omega) ?_))
               | refine Exists.intro _ (Exists.intro _ (And.intro (⟨Eq.refl (α := Int) _⟩) (And.intro (⟨Eq.refl (α := Int) _⟩) (And.intro (by omega) (And.intro (by omega) ?_)))))
               | refine Exists.intro _ (Exists.intro _ (And.intro (⟨Eq.refl (α := Nat) _⟩) (And.intro (⟨Eq.refl (α := Nat) _⟩) ?_)))
               | refine Exists.intro _ (And.intro (⟨Eq.refl (α := Nat) _⟩) ?_)
               | refine Exists.intro _ (And.intro (u32and (by omega) (by omega)) ?_)
               | refine Exists.intro _ (And.intro (u32or (by omega) (by omega)) ?_)
               | refine Exists.intro _ (And.intro (u32xor (by omega) (by omega)) ?_)
               | refine Exists.intro _ (And.intro (u8xor (by omega) (by omega)) ?_)
               | refine Exists.intro _ (And.intro (u64and (by omega) (by omega)) ?_)
               | refine Exists.intro _ (And.intro (u64or (by omega) (by omega)) ?_)
               | refine Exists.intro _ (And.intro (u64xor (by omega) (by omega)) ?_)
               | refine Exists.intro _ (And.intro (w64 (by omega) (by omega)) ?_)
               | refine Exists.intro _ (And.intro (u32add (by omega)) ?_)
               | refine Exists.intro _ (And.intro (u64add (by omega)) ?_)
               | refine Exists.intro _ (And.intro (u8w (by omega)) ?_)
               | refine Exists.intro _ (And.intro (u32w (by omega)) ?_)
               | refine Exists.intro _ (And.intro (u64w (by omega)) ?_)
               | refine Exists.intro _ (And.intro (u8m) ?_)
               | refine Exists.intro _ (And.intro (u64i (by omega) (by omega)) ?_)
               | refine Exists.intro _ (And.intro (min_int) ?_)
               | refine Exists.intro _ (And.intro (max_int) ?_)
               | refine Exists.intro _ (And.intro (imin) ?_)
               | refine Exists.intro _ (And.intro (imax) ?_)
               | refine boolF_not ?_
               | refine boolF_dect rfl ?_
               | refine boolF_dect (by assumption) ?_
               | refine boolF_decf (by assumption) ?_
               | refine boolF_dect (by omega) ?_
               | refine boolF_decf (by omega) ?_
               | refine boolF_beqt (by omega) ?_
               | refine boolF_beqf (by omega) ?_
               | refine boolF_bnet (by omega) ?_
               | refine boolF_bnef (by omega) ?_
               | refine boolF_nbeqt (by omega) ?_
               | refine boolF_nbeqf (by omega) ?_
               | refine boolF_nbnet (by omega) ?_
               | refine boolF_nbnef (by omega) ?_
               | refine boolF_t (by assumption) ?_
               | refine boolF_f (by assumption) ?_
               | refine boolF_dec (fun _ => ?_) (fun _ => ?_)
               | refine boolF_beq (fun _ => ?_) (fun _ => ?_)
               | refine boolF_bne (fun _ => ?_) (fun _ => ?_)
               | refine boolF_nbeq (fun _ => ?_) (fun _ => ?_)
               | refine boolF_nbne (fun _ => ?_) (fun _ => ?_)
               | refine boolF_leq (fun _ => ?_) (fun _ => ?_)
               | refine Both.mk ?_ ?_)
    all_goals (conv => whnf)
    · rw [if_neg (by omega), if_neg (by omega), hi1]
      refine Pure.locK (f36_ok m k (i + 1) [⟨y.from_, x.to_, x.node_⟩] hm (by omega) (by omega) (by omega) (by omega) (by simp)) ?_
      repeat' (conv => whnf
               first
                 | refine PairK.mk (by kernel_rfl) ?_
                 | refine Exists.intro _ (And.intro (map_at (by omega) hy) ?_)
                 | refine Exists.intro (k) (And.intro (⟨by omega⟩) (And.intro (by omega) ?_))
                 | refine And.intro (by decide) ?_
                 | refine And.intro rfl ?_
                 | refine And.intro (List.cons_ne_nil _ _) ?_
                 | refine And.intro (Nat.le_of_ble_eq_true rfl) ?_
                 | refine And.intro (by omega) ?_
                 | refine And.intro (by simp only [List.length_map, List.length_append, List.length_cons, List.length_nil]; omega) ?_
                 | refine And.intro (by simpa only [List.length_map, List.length_append, List.length_cons, List.length_nil] using rfl) ?_
                 | refine And.intro (Eq.symm (List.length_map _)) ?_
                 | refine And.intro (all_map (fun _ => rfl)) ?_
                 | refine And.intro (cells_map (fun _ => rfl)) ?_
                 | refine And.intro (rows_map (fun _ => rfl) (fun _ => rfl)) ?_
                 | refine And.intro (okRows_one rfl rfl) ?_
                 | refine And.intro (okRows_all rfl) ?_
                 | refine boolF_t (beq_self_eq_true _) ?_
                 | refine Exists.intro _ (And.intro (map_get (by assumption)) ?_)
                 | refine Exists.intro _ (And.intro (Eq.refl (α := Option D) _) ?_)
                 | refine Exists.intro _ (And.intro (⟨(List.length_map _).symm⟩) ?_)
                 | refine Exists.intro _ (And.intro (⟨len_one⟩) ?_)
                 | refine Exists.intro _ (And.intro (⟨len_two⟩) ?_)
                 | refine Exists.intro _ (And.intro (⟨len_three⟩) ?_)
                 | refine Exists.intro _ (And.intro (⟨len_four⟩) ?_)
                 | refine Exists.intro _ (And.intro (⟨lenl_1⟩) ?_)
                 | refine Exists.intro _ (And.intro (⟨lenl_2⟩) ?_)
                 | refine Exists.intro _ (And.intro (⟨lenl_3⟩) ?_)
                 | refine Exists.intro _ (And.intro (⟨lenl_4⟩) ?_)
                 | refine Exists.intro _ (And.intro (⟨len_more⟩) ?_)
                 | refine Exists.intro _ (And.intro (⟨map_slice⟩) ?_)
                 | refine Exists.intro _ (And.intro (⟨List.map_take⟩) ?_)
                 | refine Exists.intro _ (And.intro (⟨List.map_drop⟩) ?_)
                 | refine Exists.intro _ (And.intro (⟨map_full'⟩) ?_)
                 | refine Exists.intro _ (And.intro (⟨map_full⟩) ?_)
                 | refine Exists.intro _ (And.intro (⟨map_snoc⟩) ?_)
                 | refine Exists.intro _ (And.intro (⟨List.map_append⟩) ?_)
                 | refine Exists.intro _ (And.intro (⟨Eq.refl (α := List D) _⟩) ?_)
                 | refine Exists.intro _ (And.intro (⟨Eq.refl (α := Int) _⟩) (And.intro (by omega) ?_))
                 | refine Exists.intro (0) (And.intro (⟨rfl⟩) (And.intro (Nat.zero_le _) ?_))
                 | refine Exists.intro _ (And.intro (⟨nc1⟩) (And.intro (by omega) ?_))
                 | refine Exists.intro _ (Exists.intro _ (And.intro (⟨Eq.refl (α := Int) _⟩) (And.intro (⟨Eq.refl (α := Int) _⟩) (And.intro (by omega) (And.intro (by omega) ?_)))))
                 | refine Exists.intro _ (Exists.intro _ (And.intro (⟨Eq.refl (α := Nat) _⟩) (And.intro (⟨Eq.refl (α := Nat) _⟩) ?_)))
                 | refine Exists.intro _ (And.intro (⟨Eq.refl (α := Nat) _⟩) ?_)
                 | refine Exists.intro _ (And.intro (u32and (by omega) (by omega)) ?_)
                 | refine Exists.intro _ (And.intro (u32or (by omega) (by omega)) ?_)
                 | refine Exists.intro _ (And.intro (u32xor (by omega) (by omega)) ?_)
                 | refine Exists.intro _ (And.intro (u8xor (by omega) (by omega)) ?_)
                 | refine Exists.intro _ (And.intro (u64and (by omega) (by omega)) ?_)
                 | refine Exists.intro _ (And.intro (u64or (by omega) (by omega)) ?_)
                 | refine Exists.intro _ (And.intro (u64xor (by omega) (by omega)) ?_)
                 | refine Exists.intro _ (And.intro (w64 (by omega) (by omega)) ?_)
                 | refine Exists.intro _ (And.intro (u32add (by omega)) ?_)
                 | refine Exists.intro _ (And.intro (u64add (by omega)) ?_)
                 | refine Exists.intro _ (And.intro (u8w (by omega)) ?_)
                 | refine Exists.intro _ (And.intro (u32w (by omega)) ?_)
                 | refine Exists.intro _ (And.intro (u64w (by omega)) ?_)
                 | refine Exists.intro _ (And.intro (u8m) ?_)
                 | refine Exists.intro _ (And.intro (u64i (by omega) (by omega)) ?_)
                 | refine Exists.intro _ (And.intro (min_int) ?_)
                 | refine Exists.intro _ (And.intro (max_int) ?_)
                 | refine Exists.intro _ (And.intro (imin) ?_)
                 | refine Exists.intro _ (And.intro (imax) ?_)
                 | refine boolF_not ?_
                 | refine boolF_dect rfl ?_
                 | refine boolF_dect (by assumption) ?_
                 | refine boolF_decf (by assumption) ?_
                 | refine boolF_dect (by omega) ?_
                 | refine boolF_decf (by omega) ?_
                 | refine boolF_beqt (by omega) ?_
                 | refine boolF_beqf (by omega) ?_
                 | refine boolF_bnet (by omega) ?_
                 | refine boolF_bnef (by omega) ?_
                 | refine boolF_nbeqt (by omega) ?_
                 | refine boolF_nbeqf (by omega) ?_
                 | refine boolF_nbnet (by omega) ?_
                 | refine boolF_nbnef (by omega) ?_
                 | refine boolF_t (by assumption) ?_
                 | refine boolF_f (by assumption) ?_
                 | refine boolF_dec (fun _ => ?_) (fun _ => ?_)
                 | refine boolF_beq (fun _ => ?_) (fun _ => ?_)
                 | refine boolF_bne (fun _ => ?_) (fun _ => ?_)
                 | refine boolF_nbeq (fun _ => ?_) (fun _ => ?_)
                 | refine boolF_nbne (fun _ => ?_) (fun _ => ?_)
                 | refine boolF_leq (fun _ => ?_) (fun _ => ?_)
                 | refine Both.mk ?_ ?_)
      all_goals (conv => whnf)
      exact ⟨Told.refl⟩
    · rw [if_neg (by omega), if_pos (by omega)]
      exact ⟨Told.wk wk_zero⟩
    · rw [if_pos (by omega)]
      exact ⟨Told.wk wk_zero⟩
  · rw [mergeM, if_pos hr]
    repeat' (conv => whnf
             first
               | refine PairK.mk (by kernel_rfl) ?_
               | refine Exists.intro _ (And.intro (map_at (by omega) hy) ?_)
               | refine Exists.intro (k) (And.intro (⟨by omega⟩) (And.intro (by omega) ?_))
               | refine And.intro (by decide) ?_
               | refine And.intro rfl ?_
               | refine And.intro (List.cons_ne_nil _ _) ?_
               | refine And.intro (Nat.le_of_ble_eq_true rfl) ?_
               | refine And.intro (by omega) ?_
               | refine And.intro (by simp only [List.length_map, List.length_append, List.length_cons, List.length_nil]; omega) ?_
               | refine And.intro (by simpa only [List.length_map, List.length_append, List.length_cons, List.length_nil] using rfl) ?_
               | refine And.intro (Eq.symm (List.length_map _)) ?_
               | refine And.intro (all_map (fun _ => rfl)) ?_
               | refine And.intro (cells_map (fun _ => rfl)) ?_
               | refine And.intro (rows_map (fun _ => rfl) (fun _ => rfl)) ?_
               | refine And.intro (okRows_one rfl rfl) ?_
               | refine And.intro (okRows_all rfl) ?_
               | refine boolF_t (beq_self_eq_true _) ?_
               | refine Exists.intro _ (And.intro (map_get (by assumption)) ?_)
               | refine Exists.intro _ (And.intro (Eq.refl (α := Option D) _) ?_)
               | refine Exists.intro _ (And.intro (⟨(List.length_map _).symm⟩) ?_)
               | refine Exists.intro _ (And.intro (⟨len_one⟩) ?_)
               | refine Exists.intro _ (And.intro (⟨len_two⟩) ?_)
               | refine Exists.intro _ (And.intro (⟨len_three⟩) ?_)
               | refine Exists.intro _ (And.intro (⟨len_four⟩) ?_)
               | refine Exists.intro _ (And.intro (⟨lenl_1⟩) ?_)
               | refine Exists.intro _ (And.intro (⟨lenl_2⟩) ?_)
               | refine Exists.intro _ (And.intro (⟨lenl_3⟩) ?_)
               | refine Exists.intro _ (And.intro (⟨lenl_4⟩) ?_)
               | refine Exists.intro _ (And.intro (⟨len_more⟩) ?_)
               | refine Exists.intro _ (And.intro (⟨map_slice⟩) ?_)
               | refine Exists.intro _ (And.intro (⟨List.map_take⟩) ?_)
               | refine Exists.intro _ (And.intro (⟨List.map_drop⟩) ?_)
               | refine Exists.intro _ (And.intro (⟨map_full'⟩) ?_)
               | refine Exists.intro _ (And.intro (⟨map_full⟩) ?_)
               | refine Exists.intro _ (And.intro (⟨map_snoc⟩) ?_)
               | refine Exists.intro _ (And.intro (⟨List.map_append⟩) ?_)
               | refine Exists.intro _ (And.intro (⟨Eq.refl (α := List D) _⟩) ?_)
               | refine Exists.intro _ (And.intro (⟨Eq.refl (α := Int) _⟩) (And.intro (by omega) ?_))
               | refine Exists.intro (0) (And.intro (⟨rfl⟩) (And.intro (Nat.zero_le _) ?_))
               | refine Exists.intro _ (And.intro (⟨nc1⟩) (And.intro (by omega) ?_))
               | refine Exists.intro _ (Exists.intro _ (And.intro (⟨Eq.refl (α := Int) _⟩) (And.intro (⟨Eq.refl (α := Int) _⟩) (And.intro (by omega) (And.intro (by omega) ?_)))))
               | refine Exists.intro _ (Exists.intro _ (And.intro (⟨Eq.refl (α := Nat) _⟩) (And.intro (⟨Eq.refl (α := Nat) _⟩) ?_)))
               | refine Exists.intro _ (And.intro (⟨Eq.refl (α := Nat) _⟩) ?_)
               | refine Exists.intro _ (And.intro (u32and (by omega) (by omega)) ?_)
               | refine Exists.intro _ (And.intro (u32or (by omega) (by omega)) ?_)
               | refine Exists.intro _ (And.intro (u32xor (by omega) (by omega)) ?_)
               | refine Exists.intro _ (And.intro (u8xor (by omega) (by omega)) ?_)
               | refine Exists.intro _ (And.intro (u64and (by omega) (by omega)) ?_)
               | refine Exists.intro _ (And.intro (u64or (by omega) (by omega)) ?_)
               | refine Exists.intro _ (And.intro (u64xor (by omega) (by omega)) ?_)
               | refine Exists.intro _ (And.intro (w64 (by omega) (by omega)) ?_)
               | refine Exists.intro _ (And.intro (u32add (by omega)) ?_)
               | refine Exists.intro _ (And.intro (u64add (by omega)) ?_)
               | refine Exists.intro _ (And.intro (u8w (by omega)) ?_)
               | refine Exists.intro _ (And.intro (u32w (by omega)) ?_)
               | refine Exists.intro _ (And.intro (u64w (by omega)) ?_)
               | refine Exists.intro _ (And.intro (u8m) ?_)
               | refine Exists.intro _ (And.intro (u64i (by omega) (by omega)) ?_)
               | refine Exists.intro _ (And.intro (min_int) ?_)
               | refine Exists.intro _ (And.intro (max_int) ?_)
               | refine Exists.intro _ (And.intro (imin) ?_)
               | refine Exists.intro _ (And.intro (imax) ?_)
               | refine boolF_not ?_
               | refine boolF_dect rfl ?_
               | refine boolF_dect (by assumption) ?_
               | refine boolF_decf (by assumption) ?_
               | refine boolF_dect (by omega) ?_
               | refine boolF_decf (by omega) ?_
               | refine boolF_beqt (by omega) ?_
               | refine boolF_beqf (by omega) ?_
               | refine boolF_bnet (by omega) ?_
               | refine boolF_bnef (by omega) ?_
               | refine boolF_nbeqt (by omega) ?_
               | refine boolF_nbeqf (by omega) ?_
               | refine boolF_nbnet (by omega) ?_
               | refine boolF_nbnef (by omega) ?_
               | refine boolF_t (by assumption) ?_
               | refine boolF_f (by assumption) ?_
               | refine boolF_dec (fun _ => ?_) (fun _ => ?_)
               | refine boolF_beq (fun _ => ?_) (fun _ => ?_)
               | refine boolF_bne (fun _ => ?_) (fun _ => ?_)
               | refine boolF_nbeq (fun _ => ?_) (fun _ => ?_)
               | refine boolF_nbne (fun _ => ?_) (fun _ => ?_)
               | refine boolF_leq (fun _ => ?_) (fun _ => ?_)
               | refine Both.mk ?_ ?_)
    all_goals (conv => whnf)
    refine Pure.call (f24_ok _ _ hm hb) ?_
    rw [findM_not hr]
    repeat' (conv => whnf
             first
               | refine PairK.mk (by kernel_rfl) ?_
               | refine Exists.intro _ (And.intro (map_at (by omega) hy) ?_)
               | refine Exists.intro (k) (And.intro (⟨by omega⟩) (And.intro (by omega) ?_))
               | refine And.intro (by decide) ?_
               | refine And.intro rfl ?_
               | refine And.intro (List.cons_ne_nil _ _) ?_
               | refine And.intro (Nat.le_of_ble_eq_true rfl) ?_
               | refine And.intro (by omega) ?_
               | refine And.intro (by simp only [List.length_map, List.length_append, List.length_cons, List.length_nil]; omega) ?_
               | refine And.intro (by simpa only [List.length_map, List.length_append, List.length_cons, List.length_nil] using rfl) ?_
               | refine And.intro (Eq.symm (List.length_map _)) ?_
               | refine And.intro (all_map (fun _ => rfl)) ?_
               | refine And.intro (cells_map (fun _ => rfl)) ?_
               | refine And.intro (rows_map (fun _ => rfl) (fun _ => rfl)) ?_
               | refine And.intro (okRows_one rfl rfl) ?_
               | refine And.intro (okRows_all rfl) ?_
               | refine boolF_t (beq_self_eq_true _) ?_
               | refine Exists.intro _ (And.intro (map_get (by assumption)) ?_)
               | refine Exists.intro _ (And.intro (Eq.refl (α := Option D) _) ?_)
               | refine Exists.intro _ (And.intro (⟨(List.length_map _).symm⟩) ?_)
               | refine Exists.intro _ (And.intro (⟨len_one⟩) ?_)
               | refine Exists.intro _ (And.intro (⟨len_two⟩) ?_)
               | refine Exists.intro _ (And.intro (⟨len_three⟩) ?_)
               | refine Exists.intro _ (And.intro (⟨len_four⟩) ?_)
               | refine Exists.intro _ (And.intro (⟨lenl_1⟩) ?_)
               | refine Exists.intro _ (And.intro (⟨lenl_2⟩) ?_)
               | refine Exists.intro _ (And.intro (⟨lenl_3⟩) ?_)
               | refine Exists.intro _ (And.intro (⟨lenl_4⟩) ?_)
               | refine Exists.intro _ (And.intro (⟨len_more⟩) ?_)
               | refine Exists.intro _ (And.intro (⟨map_slice⟩) ?_)
               | refine Exists.intro _ (And.intro (⟨List.map_take⟩) ?_)
               | refine Exists.intro _ (And.intro (⟨List.map_drop⟩) ?_)
               | refine Exists.intro _ (And.intro (⟨map_full'⟩) ?_)
               | refine Exists.intro _ (And.intro (⟨map_full⟩) ?_)
               | refine Exists.intro _ (And.intro (⟨map_snoc⟩) ?_)
               | refine Exists.intro _ (And.intro (⟨List.map_append⟩) ?_)
               | refine Exists.intro _ (And.intro (⟨Eq.refl (α := List D) _⟩) ?_)
               | refine Exists.intro _ (And.intro (⟨Eq.refl (α := Int) _⟩) (And.intro (by omega) ?_))
               | refine Exists.intro (0) (And.intro (⟨rfl⟩) (And.intro (Nat.zero_le _) ?_))
               | refine Exists.intro _ (And.intro (⟨nc1⟩) (And.intro (by omega) ?_))
               | refine Exists.intro _ (Exists.intro _ (And.intro (⟨Eq.refl (α := Int) _⟩) (And.intro (⟨Eq.refl (α := Int) _⟩) (And.intro (by omega) (And.intro (by omega) ?_)))))
               | refine Exists.intro _ (Exists.intro _ (And.intro (⟨Eq.refl (α := Nat) _⟩) (And.intro (⟨Eq.refl (α := Nat) _⟩) ?_)))
               | refine Exists.intro _ (And.intro (⟨Eq.refl (α := Nat) _⟩) ?_)
               | refine Exists.intro _ (And.intro (u32and (by omega) (by omega)) ?_)
               | refine Exists.intro _ (And.intro (u32or (by omega) (by omega)) ?_)
               | refine Exists.intro _ (And.intro (u32xor (by omega) (by omega)) ?_)
               | refine Exists.intro _ (And.intro (u8xor (by omega) (by omega)) ?_)
               | refine Exists.intro _ (And.intro (u64and (by omega) (by omega)) ?_)
               | refine Exists.intro _ (And.intro (u64or (by omega) (by omega)) ?_)
               | refine Exists.intro _ (And.intro (u64xor (by omega) (by omega)) ?_)
               | refine Exists.intro _ (And.intro (w64 (by omega) (by omega)) ?_)
               | refine Exists.intro _ (And.intro (u32add (by omega)) ?_)
               | refine Exists.intro _ (And.intro (u64add (by omega)) ?_)
               | refine Exists.intro _ (And.intro (u8w (by omega)) ?_)
               | refine Exists.intro _ (And.intro (u32w (by omega)) ?_)
               | refine Exists.intro _ (And.intro (u64w (by omega)) ?_)
               | refine Exists.intro _ (And.intro (u8m) ?_)
               | refine Exists.intro _ (And.intro (u64i (by omega) (by omega)) ?_)
               | refine Exists.intro _ (And.intro (min_int) ?_)
               | refine Exists.intro _ (And.intro (max_int) ?_)
               | refine Exists.intro _ (And.intro (imin) ?_)
               | refine Exists.intro _ (And.intro (imax) ?_)
               | refine boolF_not ?_
               | refine boolF_dect rfl ?_
               | refine boolF_dect (by assumption) ?_
               | refine boolF_decf (by assumption) ?_
               | refine boolF_dect (by omega) ?_
               | refine boolF_decf (by omega) ?_
               | refine boolF_beqt (by omega) ?_
               | refine boolF_beqf (by omega) ?_
               | refine boolF_bnet (by omega) ?_
               | refine boolF_bnef (by omega) ?_
               | refine boolF_nbeqt (by omega) ?_
               | refine boolF_nbeqf (by omega) ?_
               | refine boolF_nbnet (by omega) ?_
               | refine boolF_nbnef (by omega) ?_
               | refine boolF_t (by assumption) ?_
               | refine boolF_f (by assumption) ?_
               | refine boolF_dec (fun _ => ?_) (fun _ => ?_)
               | refine boolF_beq (fun _ => ?_) (fun _ => ?_)
               | refine boolF_bne (fun _ => ?_) (fun _ => ?_)
               | refine boolF_nbeq (fun _ => ?_) (fun _ => ?_)
               | refine boolF_nbne (fun _ => ?_) (fun _ => ?_)
               | refine boolF_leq (fun _ => ?_) (fun _ => ?_)
               | refine Both.mk ?_ ?_)
    all_goals (conv => whnf)
    exact ⟨Told.wk wk_zero⟩

end Go.Proofs.Ytgcllbcpdcfkmaa

