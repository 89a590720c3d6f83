import Derived.Test.YtgcllbcpdcfkmaaM4
namespace Go.Proofs.Ytgcllbcpdcfkmaa
open Go.A
set_option linter.unusedVariables false
set_option linter.unusedSimpArgs false
set_option linter.unnecessarySimpa false
attribute [local irreducible] IntKind.wrap bitsI
set_option maxRecDepth 100000


theorem f11_ok (n : Int) (a : List Int) (hn : ok3 n) (ha : ok22 a) : Pure Try.prog 11 [d3 n, d22 a] (.tup [d25 (newM n a).1, d3 (newM n a).2]) := by
  have hlen : a.length ≤ 140737488351232 := by have := ha.2; simp [td3] at this; omega
  refine Pure.ofT ⟨trivial, sc22 _ _, trivial⟩ ⟨sc25 _ _, trivial, trivial⟩ ?_
  refine CallsIn.of_exec tab_ok mixed Try.func11 rfl rfl [] [] ?_
  repeat' (conv => whnf
           first
             | refine PairK.mk (by kernel_rfl) ?_
             | refine And.intro (by decide) ?_
             | refine And.intro rfl ?_
             | refine And.intro (List.cons_ne_nil _ _) ?_
             | refine And.intro (Nat.le_of_ble_eq_true rfl) ?_
             | refine And.intro (by omega) ?_
             | refine And.intro (by simp only [List.length_map, List.length_append, List.length_cons, List.length_nil]; omega) ?_
             | refine And.intro (by simpa only [List.length_map, List.length_append, List.length_cons, List.length_nil] using rfl) ?_
             | refine And.intro (Eq.symm (List.length_map _)) ?_
             | refine And.intro (all_map (fun _ => rfl)) ?_
             | refine And.intro (cells_map (fun _ => rfl)) ?_
             | refine And.intro (rows_map (fun _ => rfl) (fun _ => rfl)) ?_
             | refine And.intro (okRows_one rfl rfl) ?_
             | refine And.intro (okRows_all rfl) ?_
             | refine boolF_t (beq_self_eq_true _) ?_
             | refine Exists.intro _ (And.intro (map_get (by assumption)) ?_)
             | refine Exists.intro _ (And.intro (Eq.refl (α := Option D) _) ?_)
             | refine Exists.intro _ (And.intro (⟨(List.length_map _).symm⟩) ?_)
             | refine Exists.intro _ (And.intro (⟨len_one⟩) ?_)
             | refine Exists.intro _ (And.intro (⟨len_two⟩) ?_)
             | refine Exists.intro _ (And.intro (⟨len_three⟩) ?_)
             | refine Exists.intro _ (And.intro (⟨len_four⟩) ?_)
             | refine Exists.intro _ (And.intro (⟨lenl_1⟩) ?_)
             | refine Exists.intro _ (And.intro (⟨lenl_2⟩) ?_)
             | refine Exists.intro _ (And.intro (⟨lenl_3⟩) ?_)
             | refine Exists.intro _ (And.intro (⟨lenl_4⟩) ?_)
             | refine Exists.intro _ (And.intro (⟨len_more⟩) ?_)
             | refine Exists.intro _ (And.intro (⟨map_slice⟩) ?_)
             | refine Exists.intro _ (And.intro (⟨List.map_take⟩) ?_)
             | refine Exists.intro _ (And.intro (⟨List.map_drop⟩) ?_)
             | refine Exists.intro _ (And.intro (⟨map_full'⟩) ?_)
             | refine Exists.intro _ (And.intro (⟨map_full⟩) ?_)
             | refine Exists.intro _ (And.intro (⟨map_snoc⟩) ?_)
             | refine Exists.intro _ (And.intro (⟨List.map_append⟩) ?_)
             | refine Exists.intro _ (And.intro (⟨Eq.refl (α := List D) _⟩) ?_)
             | refine Exists.intro _ (And.intro (⟨Eq.refl (α := Int) _⟩) (And.intro (by omega) ?_))
             | refine Exists.intro (0) (And.intro (⟨rfl⟩) (And.intro (Nat.zero_le _) ?_))
             | refine Exists.intro _ (And.intro (⟨nc1⟩) (And.intro (by omega) ?_))
             | refine Exists.intro _ (Exists.intro _ (And.intro (⟨Eq.refl (α := Int) _⟩) (And.intro (⟨Eq.refl (α := Int) _⟩) (And.intro (by omega) (And.intro (by omega) ?_)))))
             | refine Exists.intro _ (Exists.intro _ (And.intro (⟨Eq.refl (α := Nat) _⟩) (And.intro (⟨Eq.refl (α := Nat) _⟩) ?_)))
             | refine Exists.intro _ (And.intro (⟨Eq.refl (α := Nat) _⟩) ?_)
             | refine Exists.intro _ (And.intro (u32and (by omega) (by omega)) ?_)
             | refine Exists.intro _ (And.intro (u32or (by omega) (by omega)) ?_)
             | refine Exists.intro _ (And.intro (u32xor (by omega) (by omega)) ?_)
             | refine Exists.intro _ (And.intro (u8xor (by omega) (by omega)) ?_)
             | refine Exists.intro _ (And.intro (u64and (by omega) (by omega)) ?_)
             | refine Exists.intro _ (And.intro (u64or (by omega) (by omega)) ?_)
             | refine Exists.intro _ (And.intro (u64xor (by omega) (by omega)) ?_)
             | refine Exists.intro _ (And.intro (w64 (by omega) (by omega)) ?_)
             | refine Exists.intro _ (And.intro (u32add (by omega)) ?_)
             | refine Exists.intro _ (And.intro (u64add (by omega)) ?_)
             | refine Exists.intro _ (And.intro (u8w (by omega)) ?_)
             | refine Exists.intro _ (And.intro (u32w (by omega)) ?_)
             | refine Exists.intro _ (And.intro (u64w (by omega)) ?_)
             | refine Exists.intro _ (And.intro (u8m) ?_)
             | refine Exists.intro _ (And.intro (u64i (by omega) (by omega)) ?_)
             | refine Exists.intro _ (And.intro (min_int) ?_)
             | refine Exists.intro _ (And.intro (max_int) ?_)
             | refine Exists.intro _ (And.intro (imin) ?_)
             | refine Exists.intro _ (And.intro (imax) ?_)
             | refine Pure.call (f34_ok _) ?_
             | refine Pure.locK (f34_ok _) ?_
             | refine boolF_not ?_
             | refine boolF_dect rfl ?_
             | refine boolF_dect (by assumption) ?_
             | refine boolF_decf (by assumption) ?_
             | refine boolF_dect (by omega) ?_
             | refine boolF_decf (by omega) ?_
             | refine boolF_beqt (by omega) ?_
             | refine boolF_beqf (by omega) ?_
             | refine boolF_bnet (by omega) ?_
             | refine boolF_bnef (by omega) ?_
             | refine boolF_nbeqt (by omega) ?_
             | refine boolF_nbeqf (by omega) ?_
             | refine boolF_nbnet (by omega) ?_
             | refine boolF_nbnef (by omega) ?_
             | refine boolF_t (by assumption) ?_
             | refine boolF_f (by assumption) ?_
             | refine boolF_dec (fun _ => ?_) (fun _ => ?_)
             | refine boolF_beq (fun _ => ?_) (fun _ => ?_)
             | refine boolF_bne (fun _ => ?_) (fun _ => ?_)
             | refine boolF_nbeq (fun _ => ?_) (fun _ => ?_)
             | refine boolF_nbne (fun _ => ?_) (fun _ => ?_)
             | refine boolF_leq (fun _ => ?_) (fun _ => ?_)
             | refine Both.mk ?_ ?_)
  all_goals (conv => whnf)
  · rw [newM_1 (by omega)]; exact ⟨Told.wk wk_zero⟩
  · rw [newM_1 (by omega)]; exact ⟨Told.wk wk_zero⟩
  · rw [newM_1 (by omega)]; exact ⟨Told.wk wk_zero⟩
  refine W_loopG (ι := Nat) (fun i => ⟨(d3 n :: d22 a :: D.undef :: D.undef :: .p 0 0 0 0 :: D.undef :: .int .i64 (i:Int) :: D.undef :: D.undef :: D.undef :: D.undef :: D.undef :: D.undef :: D.undef :: D.undef :: D.undef :: D.undef :: D.undef :: D.undef :: D.undef :: D.undef :: D.undef :: D.undef :: D.undef :: D.undef :: D.undef :: D.undef :: D.undef :: D.undef :: D.undef :: D.undef :: D.undef :: D.undef :: D.undef :: D.undef :: D.undef :: D.undef :: D.undef :: D.undef :: D.undef :: D.undef :: D.undef :: D.undef :: D.undef :: D.undef :: D.undef :: D.undef :: D.undef :: D.undef :: D.undef :: D.undef :: D.undef :: D.undef :: D.undef :: D.undef :: D.undef :: D.undef :: D.undef :: D.undef :: D.undef :: D.undef :: D.undef :: D.undef :: D.undef :: D.undef :: D.undef :: D.undef :: D.undef :: D.undef :: D.undef :: D.undef :: D.undef :: D.undef :: D.undef :: D.undef :: D.undef :: D.undef :: D.undef :: D.undef :: D.undef :: []), [.arr 0 3 [.agg [.int .i64 0, .int .i64 0, .nils]]]⟩) (fun i => a.length - i)
    (fun i => i ≤ a.length ∧ ∀ x ∈ a.take i, 0 ≤ x ∧ x < 16) 0 (Ghost.hold [0,1,4,6] rfl) ⟨Nat.zero_le _, by simp⟩ ?_
  rintro i ⟨h1, h2⟩
  refine exec_ok tab_ok mixed 1000 (bx := [true]) (own := []) ?_
  rcases Nat.lt_or_ge i a.length with h | h
  · obtain ⟨x, hx⟩ := at_lt h
    repeat' (conv => whnf
             first
               | refine PairK.mk (by kernel_rfl) ?_
               | refine And.intro (by decide) ?_
               | refine And.intro rfl ?_
               | refine And.intro (List.cons_ne_nil _ _) ?_
               | refine And.intro (Nat.le_of_ble_eq_true rfl) ?_
               | refine And.intro (by omega) ?_
               | refine And.intro (by simp only [List.length_map, List.length_append, List.length_cons, List.length_nil]; omega) ?_
               | refine And.intro (by simpa only [List.length_map, List.length_append, List.length_cons, List.length_nil] using rfl) ?_
               | refine And.intro (Eq.symm (List.length_map _)) ?_
               | refine And.intro (all_map (fun _ => rfl)) ?_
               | refine And.intro (cells_map (fun _ => rfl)) ?_
               | refine And.intro (rows_map (fun _ => rfl) (fun _ => rfl)) ?_
               | refine And.intro (okRows_one rfl rfl) ?_
               | refine And.intro (okRows_all rfl) ?_
               | refine boolF_t (beq_self_eq_true _) ?_
               | refine Exists.intro _ (And.intro (map_get (by assumption)) ?_)
               | refine Exists.intro _ (And.intro (Eq.refl (α := Option D) _) ?_)
               | refine Exists.intro _ (And.intro (⟨(List.length_map _).symm⟩) ?_)
               | refine Exists.intro _ (And.intro (⟨len_one⟩) ?_)
               | refine Exists.intro _ (And.intro (⟨len_two⟩) ?_)
               | refine Exists.intro _ (And.intro (⟨len_three⟩) ?_)
               | refine Exists.intro _ (And.intro (⟨len_four⟩) ?_)
               | refine Exists.intro _ (And.intro (⟨lenl_1⟩) ?_)
               | refine Exists.intro _ (And.intro (⟨lenl_2⟩) ?_)
               | refine Exists.intro _ (And.intro (⟨lenl_3⟩) ?_)
               | refine Exists.intro _ (And.intro (⟨lenl_4⟩) ?_)
               | refine Exists.intro _ (And.intro (⟨len_more⟩) ?_)
               | refine Exists.intro _ (And.intro (⟨map_slice⟩) ?_)
               | refine Exists.intro _ (And.intro (⟨List.map_take⟩) ?_)
               | refine Exists.intro _ (And.intro (⟨List.map_drop⟩) ?_)
               | refine Exists.intro _ (And.intro (⟨map_full'⟩) ?_)
               | refine Exists.intro _ (And.intro (⟨map_full⟩) ?_)
               | refine Exists.intro _ (And.intro (⟨map_snoc⟩) ?_)
               | refine Exists.intro _ (And.intro (⟨List.map_append⟩) ?_)
               | refine Exists.intro _ (And.intro (⟨Eq.refl (α := List D) _⟩) ?_)
               | refine Exists.intro _ (And.intro (⟨Eq.refl (α := Int) _⟩) (And.intro (by omega) ?_))
               | refine Exists.intro (0) (And.intro (⟨rfl⟩) (And.intro (Nat.zero_le _) ?_))
               | refine Exists.intro _ (And.intro (⟨nc1⟩) (And.intro (by omega) ?_))
               | refine Exists.intro _ (Exists.intro _ (And.intro (⟨Eq.refl (α := Int) _⟩) (And.intro (⟨Eq.refl (α := Int) _⟩) (And.intro (by omega) (And.intro (by omega) ?_)))))
               | refine Exists.intro _ (Exists.intro _ (And.intro (⟨Eq.refl (α := Nat) _⟩) (And.intro (⟨Eq.refl (α := Nat) _⟩) ?_)))
               | refine Exists.intro _ (And.intro (⟨Eq.refl (α := Nat) _⟩) ?_)
               | refine Exists.intro _ (And.intro (u32and (by omega) (by omega)) ?_)
               | refine Exists.intro _ (And.intro (u32or (by omega) (by omega)) ?_)
               | refine Exists.intro _ (And.intro (u32xor (by omega) (by omega)) ?_)
               | refine Exists.intro _ (And.intro (u8xor (by omega) (by omega)) ?_)
               | refine Exists.intro _ (And.intro (u64and (by omega) (by omega)) ?_)
               | refine Exists.intro _ (And.intro (u64or (by omega) (by omega)) ?_)
               | refine Exists.intro _ (And.intro (u64xor (by omega) (by omega)) ?_)
               | refine Exists.intro _ (And.intro (w64 (by omega) (by omega)) ?_)
               | refine Exists.intro _ (And.intro (u32add (by omega)) ?_)
               | refine Exists.intro _ (And.intro (u64add (by omega)) ?_)
               | refine Exists.intro _ (And.intro (u8w (by omega)) ?_)
               | refine Exists.intro _ (And.intro (u32w (by omega)) ?_)
               | refine Exists.intro _ (And.intro (u64w (by omega)) ?_)
               | refine Exists.intro _ (And.intro (u8m) ?_)
               | refine Exists.intro _ (And.intro (u64i (by omega) (by omega)) ?_)
               | refine Exists.intro _ (And.intro (min_int) ?_)
               | refine Exists.intro _ (And.intro (max_int) ?_)
               | refine Exists.intro _ (And.intro (imin) ?_)
               | refine Exists.intro _ (And.intro (imax) ?_)
               | refine Pure.call (f34_ok _) ?_
               | refine Pure.locK (f34_ok _) ?_
               | refine boolF_not ?_
               | refine boolF_dect rfl ?_
               | refine boolF_dect (by assumption) ?_
               | refine boolF_decf (by assumption) ?_
               | refine boolF_dect (by omega) ?_
               | refine boolF_decf (by omega) ?_
               | refine boolF_beqt (by omega) ?_
               | refine boolF_beqf (by omega) ?_
               | refine boolF_bnet (by omega) ?_
               | refine boolF_bnef (by omega) ?_
               | refine boolF_nbeqt (by omega) ?_
               | refine boolF_nbeqf (by omega) ?_
               | refine boolF_nbnet (by omega) ?_
               | refine boolF_nbnef (by omega) ?_
               | refine boolF_t (by assumption) ?_
               | refine boolF_f (by assumption) ?_
               | refine boolF_dec (fun _ => ?_) (fun _ => ?_)
               | refine boolF_beq (fun _ => ?_) (fun _ => ?_)
               | refine boolF_bne (fun _ => ?_) (fun _ => ?_)
               | refine boolF_nbeq (fun _ => ?_) (fun _ => ?_)
               | refine boolF_nbne (fun _ => ?_) (fun _ => ?_)
               | refine boolF_leq (fun _ => ?_) (fun _ => ?_)
               | refine Both.mk ?_ ?_)
    all_goals (conv => whnf)
    · refine ⟨i + 1, Ghost.hold [0,1,4,6] rfl, ⟨by omega, ?_⟩, by omega⟩
      rw [take_snoc hx]
      intro y hy
      rcases List.mem_append.mp hy with hy | hy
      · exact h2 y hy
      · simp at hy; subst hy; assumption
    · rename_i hne
      rw [newM_1 (.inr (.inr (.inr (fun hh => hne (hh x (List.mem_of_getElem? hx))))))]
      exact ⟨Told.wk wk_zero⟩
  rw [List.take_of_length_le h] at h2
  repeat' (conv => whnf
           first
             | refine PairK.mk (by kernel_rfl) ?_
             | refine And.intro (by decide) ?_
             | refine And.intro rfl ?_
             | refine And.intro (List.cons_ne_nil _ _) ?_
             | refine And.intro (Nat.le_of_ble_eq_true rfl) ?_
             | refine And.intro (by omega) ?_
             | refine And.intro (by simp only [List.length_map, List.length_append, List.length_cons, List.length_nil]; omega) ?_
             | refine And.intro (by simpa only [List.length_map, List.length_append, List.length_cons, List.length_nil] using rfl) ?_
             | refine And.intro (Eq.symm (List.length_map _)) ?_
             | refine And.intro (all_map (fun _ => rfl)) ?_
             | refine And.intro (cells_map (fun _ => rfl)) ?_
             | refine And.intro (rows_map (fun _ => rfl) (fun _ => rfl)) ?_
             | refine And.intro (okRows_one rfl rfl) ?_
             | refine And.intro (okRows_all rfl) ?_
             | refine boolF_t (beq_self_eq_true _) ?_
             | refine Exists.intro _ (And.intro (map_get (by assumption)) ?_)
             | refine Exists.intro _ (And.intro (Eq.refl (α := Option D) _) ?_)
             | refine Exists.intro _ (And.intro (⟨(List.length_map _).symm⟩) ?_)
             | refine Exists.intro _ (And.intro (⟨len_one⟩) ?_)
             | refine Exists.intro _ (And.intro (⟨len_two⟩) ?_)
             | refine Exists.intro _ (And.intro (⟨len_three⟩) ?_)
             | refine Exists.intro _ (And.intro (⟨len_four⟩) ?_)
             | refine Exists.intro _ (And.intro (⟨lenl_1⟩) ?_)
             | refine Exists.intro _ (And.intro (⟨lenl_2⟩) ?_)
             | refine Exists.intro _ (And.intro (⟨lenl_3⟩) ?_)
             | refine Exists.intro _ (And.intro (⟨lenl_4⟩) ?_)
             | refine Exists.intro _ (And.intro (⟨len_more⟩) ?_)
             | refine Exists.intro _ (And.intro (⟨map_slice⟩) ?_)
             | refine Exists.intro _ (And.intro (⟨List.map_take⟩) ?_)
             | refine Exists.intro _ (And.intro (⟨List.map_drop⟩) ?_)
             | refine Exists.intro _ (And.intro (⟨map_full'⟩) ?_)
             | refine Exists.intro _ (And.intro (⟨map_full⟩) ?_)
             | refine Exists.intro _ (And.intro (⟨map_snoc⟩) ?_)
             | refine Exists.intro _ (And.intro (⟨List.map_append⟩) ?_)
             | refine Exists.intro _ (And.intro (⟨Eq.refl (α := List D) _⟩) ?_)
             | refine Exists.intro _ (And.intro (⟨Eq.refl (α := Int) _⟩) (And.intro (by omega) ?_))
             | refine Exists.intro (0) (And.intro (⟨rfl⟩) (And.intro (Nat.zero_le _) ?_))
             | refine Exists.intro _ (And.intro (⟨nc1⟩) (And.intro (by omega) ?_))
             | refine Exists.intro _ (Exists.intro _ (And.intro (⟨Eq.refl (α := Int) _⟩) (And.intro (⟨Eq.refl (α := Int) _⟩) (And.intro (by omega) (And.intro (by omega) ?_)))))
             | refine Exists.intro _ (Exists.intro _ (And.intro (⟨Eq.refl (α := Nat) _⟩) (And.intro (⟨Eq.refl (α := Nat) _⟩) ?_)))
             | refine Exists.intro _ (And.intro (⟨Eq.refl (α := Nat) _⟩) ?_)
             | refine Exists.intro _ (And.intro (u32and (by omega) (by omega)) ?_)
             | refine Exists.intro _ (And.intro (u32or (by omega) (by omega)) ?_)
             | refine Exists.intro _ (And.intro (u32xor (by omega) (by omega)) ?_)
             | refine Exists.intro _ (And.intro (u8xor (by omega) (by omega)) ?_)
             | refine Exists.intro _ (And.intro (u64and (by omega) (by omega)) ?_)
             | refine Exists.intro _ (And.intro (u64or (by omega) (by omega)) ?_)
             | refine Exists.intro _ (And.intro (u64xor (by omega) (by omega)) ?_)
             | refine Exists.intro _ (And.intro (w64 (by omega) (by omega)) ?_)
             | refine Exists.intro _ (And.intro (u32add (by omega)) ?_)
             | refine Exists.intro _ (And.intro (u64add (by omega)) ?_)
             | refine Exists.intro _ (And.intro (u8w (by omega)) ?_)
             | refine Exists.intro _ (And.intro (u32w (by omega)) ?_)
             | refine Exists.intro _ (And.intro (u64w (by omega)) ?_)
             | refine Exists.intro _ (And.intro (u8m) ?_)
             | refine Exists.intro _ (And.intro (u64i (by omega) (by omega)) ?_)
             | refine Exists.intro _ (And.intro (min_int) ?_)
             | refine Exists.intro _ (And.intro (max_int) ?_)
             | refine Exists.intro _ (And.intro (imin) ?_)
             | refine Exists.intro _ (And.intro (imax) ?_)
             | refine Pure.call (f34_ok _) ?_
             | refine Pure.locK (f34_ok _) ?_
             | refine boolF_not ?_
             | refine boolF_dect rfl ?_
             | refine boolF_dect (by assumption) ?_
             | refine boolF_decf (by assumption) ?_
             | refine boolF_dect (by omega) ?_
             | refine boolF_decf (by omega) ?_
             | refine boolF_beqt (by omega) ?_
             | refine boolF_beqf (by omega) ?_
             | refine boolF_bnet (by omega) ?_
             | refine boolF_bnef (by omega) ?_
             | refine boolF_nbeqt (by omega) ?_
             | refine boolF_nbeqf (by omega) ?_
             | refine boolF_nbnet (by omega) ?_
             | refine boolF_nbnef (by omega) ?_
             | refine boolF_t (by assumption) ?_
             | refine boolF_f (by assumption) ?_
             | refine boolF_dec (fun _ => ?_) (fun _ => ?_)
             | refine boolF_beq (fun _ => ?_) (fun _ => ?_)
             | refine boolF_bne (fun _ => ?_) (fun _ => ?_)
             | refine boolF_nbeq (fun _ => ?_) (fun _ => ?_)
             | refine boolF_nbne (fun _ => ?_) (fun _ => ?_)
             | refine boolF_leq (fun _ => ?_) (fun _ => ?_)
             | refine Both.mk ?_ ?_)
  all_goals (conv => whnf)
  all_goals have hok : ¬ (n < 1 ∨ 1024 < n ∨ a.length = 0 ∨ ¬ ∀ x ∈ a, 0 ≤ x ∧ x < 16) := by simp only [not_or]; exact ⟨by assumption, by assumption, by omega, fun hh => hh h2⟩
  · rw [newM_6 hok (by omega)]; exact ⟨Told.wk wk_zero⟩
  · rw [newM_6 hok (by omega)]; exact ⟨Told.wk wk_zero⟩
  rw [newM_0 hok (by omega)]
  obtain ⟨b1, b2, b3, b4, b5, b6⟩ := piece_bd (n := n) (k := a.length) (by omega) (by omega) (by omega)
  refine W_loopG (ι := Nat) (fun i => ⟨(d3 n :: d22 a :: D.undef :: D.undef :: .p 0 0 0 0 :: D.undef :: D.undef :: .int .i64 (a.length:Int) :: .p 1 0 0 0 :: .int .i64 ((i:Int) * n.tdiv a.length + min (i:Int) (n.tmod a.length)) :: .int .i64 (i:Int) :: D.undef :: D.undef :: D.undef :: D.undef :: D.undef :: D.undef :: D.undef :: D.undef :: D.undef :: D.undef :: D.undef :: D.undef :: D.undef :: D.undef :: D.undef :: D.undef :: D.undef :: D.undef :: D.undef :: D.undef :: D.undef :: D.undef :: D.undef :: D.undef :: D.undef :: D.undef :: D.undef :: D.undef :: D.undef :: D.undef :: D.undef :: D.undef :: D.undef :: D.undef :: D.undef :: D.undef :: D.undef :: D.undef :: D.undef :: D.undef :: D.undef :: D.undef :: D.undef :: D.undef :: D.undef :: D.undef :: D.undef :: D.undef :: D.undef :: D.undef :: D.undef :: D.undef :: D.undef :: D.undef :: D.undef :: D.undef :: D.undef :: D.undef :: D.undef :: D.undef :: D.undef :: D.undef :: D.undef :: D.undef :: D.undef :: D.undef :: D.undef :: D.undef :: D.undef :: []), [.arr 0 3 [.agg [.int .i64 0, .int .i64 0, .nils]], .arr 0 3 [.agg [.int .i64 1, .int .i64 n, .h 2 i 0 i]], .arr i 3 ((piecesTo n a.length a i).map r59)]⟩) (fun i => a.length - i)
    (fun i => i ≤ a.length) 0 ((Ghost.hold (s1 := (d3 n :: d22 a :: D.undef :: D.undef :: .p 0 0 0 0 :: D.undef :: D.undef :: .int .i64 (a.length:Int) :: .p 1 0 0 0 :: .int .i64 ((0:Int) * n.tdiv a.length + min (0:Int) (n.tmod a.length)) :: .int .i64 0 :: D.undef :: D.undef :: D.undef :: D.undef :: D.undef :: D.undef :: D.undef :: D.undef :: D.undef :: D.undef :: D.undef :: D.undef :: D.undef :: D.undef :: D.undef :: D.undef :: D.undef :: D.undef :: D.undef :: D.undef :: D.undef :: D.undef :: D.undef :: D.undef :: D.undef :: D.undef :: D.undef :: D.undef :: D.undef :: D.undef :: D.undef :: D.undef :: D.undef :: D.undef :: D.undef :: D.undef :: D.undef :: D.undef :: D.undef :: D.undef :: D.undef :: D.undef :: D.undef :: D.undef :: D.undef :: D.undef :: D.undef :: D.undef :: D.undef :: D.undef :: D.undef :: D.undef :: D.undef :: D.undef :: D.undef :: D.undef :: D.undef :: D.undef :: D.undef :: D.undef :: D.undef :: D.undef :: D.undef :: D.undef :: D.undef :: D.undef :: D.undef :: D.undef :: D.undef :: [])) [0,1,4,7,8,9,10] (by rw [Int.zero_mul, Int.min_eq_left b3]; rfl)).trans (Ghost.matO (o := 1) (rows' := [.agg [.int .i64 1, .int .i64 n, .h 2 0 0 0]]) rfl (.cons (.agg (.cons .refl (.cons .refl (.cons .nil .nil)))) .nil))) (Nat.zero_le _) ?_
  intro i h1
  refine exec_ok tab_ok mixed 1000 (bx := [true, true, false]) (own := []) ?_
  rcases Nat.lt_or_ge i a.length with h | h
  · obtain ⟨x, hx⟩ := at_lt h
    obtain ⟨c1, c2, c3, c4⟩ := b6 i h
    have hpl := piecesTo_len (n := n) (k := a.length) h1
    repeat' (conv => whnf
             first
               | refine PairK.mk (by kernel_rfl) ?_
               | refine And.intro (by decide) ?_
               | refine And.intro rfl ?_
               | refine And.intro (List.cons_ne_nil _ _) ?_
               | refine And.intro (Nat.le_of_ble_eq_true rfl) ?_
               | refine And.intro (by omega) ?_
               | refine And.intro (by simp only [List.length_map, List.length_append, List.length_cons, List.length_nil]; omega) ?_
               | refine And.intro (by simpa only [List.length_map, List.length_append, List.length_cons, List.length_nil] using rfl) ?_
               | refine And.intro (Eq.symm (List.length_map _)) ?_
               | refine And.intro (all_map (fun _ => rfl)) ?_
               | refine And.intro (cells_map (fun _ => rfl)) ?_
               | refine And.intro (rows_map (fun _ => rfl) (fun _ => rfl)) ?_
               | refine And.intro (okRows_one rfl rfl) ?_
               | refine And.intro (okRows_all rfl) ?_
               | refine boolF_t (beq_self_eq_true _) ?_
               | refine Exists.intro _ (And.intro (map_get (by assumption)) ?_)
               | refine Exists.intro _ (And.intro (Eq.refl (α := Option D) _) ?_)
               | refine Exists.intro _ (And.intro (⟨(List.length_map _).symm⟩) ?_)
               | refine Exists.intro _ (And.intro (⟨len_one⟩) ?_)
               | refine Exists.intro _ (And.intro (⟨len_two⟩) ?_)
               | refine Exists.intro _ (And.intro (⟨len_three⟩) ?_)
               | refine Exists.intro _ (And.intro (⟨len_four⟩) ?_)
               | refine Exists.intro _ (And.intro (⟨lenl_1⟩) ?_)
               | refine Exists.intro _ (And.intro (⟨lenl_2⟩) ?_)
               | refine Exists.intro _ (And.intro (⟨lenl_3⟩) ?_)
               | refine Exists.intro _ (And.intro (⟨lenl_4⟩) ?_)
               | refine Exists.intro _ (And.intro (⟨len_more⟩) ?_)
               | refine Exists.intro _ (And.intro (⟨map_slice⟩) ?_)
               | refine Exists.intro _ (And.intro (⟨List.map_take⟩) ?_)
               | refine Exists.intro _ (And.intro (⟨List.map_drop⟩) ?_)
               | refine Exists.intro _ (And.intro (⟨map_full'⟩) ?_)
               | refine Exists.intro _ (And.intro (⟨map_full⟩) ?_)
               | refine Exists.intro _ (And.intro (⟨map_snoc⟩) ?_)
               | refine Exists.intro _ (And.intro (⟨List.map_append⟩) ?_)
               | refine Exists.intro _ (And.intro (⟨Eq.refl (α := List D) _⟩) ?_)
               | refine Exists.intro _ (And.intro (⟨Eq.refl (α := Int) _⟩) (And.intro (by omega) ?_))
               | refine Exists.intro (0) (And.intro (⟨rfl⟩) (And.intro (Nat.zero_le _) ?_))
               | refine Exists.intro _ (And.intro (⟨nc1⟩) (And.intro (by omega) ?_))
               | refine Exists.intro _ (Exists.intro _ (And.intro (⟨Eq.refl (α := Int) _⟩) (And.intro (⟨Eq.refl (α := Int) _⟩) (And.intro (by omega) (And.intro (by omega) ?_)))))
               | refine Exists.intro _ (Exists.intro _ (And.intro (⟨Eq.refl (α := Nat) _⟩) (And.intro (⟨Eq.refl (α := Nat) _⟩) ?_)))
               | refine Exists.intro _ (And.intro (⟨Eq.refl (α := Nat) _⟩) ?_)
               | refine Exists.intro _ (And.intro (u32and (by omega) (by omega)) ?_)
               | refine Exists.intro _ (And.intro (u32or (by omega) (by omega)) ?_)
               | refine Exists.intro _ (And.intro (u32xor (by omega) (by omega)) ?_)
               | refine Exists.intro _ (And.intro (u8xor (by omega) (by omega)) ?_)
               | refine Exists.intro _ (And.intro (u64and (by omega) (by omega)) ?_)
               | refine Exists.intro _ (And.intro (u64or (by omega) (by omega)) ?_)
               | refine Exists.intro _ (And.intro (u64xor (by omega) (by omega)) ?_)
               | refine Exists.intro _ (And.intro (w64 (by omega) (by omega)) ?_)
               | refine Exists.intro _ (And.intro (u32add (by omega)) ?_)
               | refine Exists.intro _ (And.intro (u64add (by omega)) ?_)
               | refine Exists.intro _ (And.intro (u8w (by omega)) ?_)
               | refine Exists.intro _ (And.intro (u32w (by omega)) ?_)
               | refine Exists.intro _ (And.intro (u64w (by omega)) ?_)
               | refine Exists.intro _ (And.intro (u8m) ?_)
               | refine Exists.intro _ (And.intro (u64i (by omega) (by omega)) ?_)
               | refine Exists.intro _ (And.intro (min_int) ?_)
               | refine Exists.intro _ (And.intro (max_int) ?_)
               | refine Exists.intro _ (And.intro (imin) ?_)
               | refine Exists.intro _ (And.intro (imax) ?_)
               | refine Pure.call (f34_ok _) ?_
               | refine Pure.locK (f34_ok _) ?_
               | refine boolF_not ?_
               | refine boolF_dect rfl ?_
               | refine boolF_dect (by assumption) ?_
               | refine boolF_decf (by assumption) ?_
               | refine boolF_dect (by omega) ?_
               | refine boolF_decf (by omega) ?_
               | refine boolF_beqt (by omega) ?_
               | refine boolF_beqf (by omega) ?_
               | refine boolF_bnet (by omega) ?_
               | refine boolF_bnef (by omega) ?_
               | refine boolF_nbeqt (by omega) ?_
               | refine boolF_nbeqf (by omega) ?_
               | refine boolF_nbnet (by omega) ?_
               | refine boolF_nbnef (by omega) ?_
               | refine boolF_t (by assumption) ?_
               | refine boolF_f (by assumption) ?_
               | refine boolF_dec (fun _ => ?_) (fun _ => ?_)
               | refine boolF_beq (fun _ => ?_) (fun _ => ?_)
               | refine boolF_bne (fun _ => ?_) (fun _ => ?_)
               | refine boolF_nbeq (fun _ => ?_) (fun _ => ?_)
               | refine boolF_nbne (fun _ => ?_) (fun _ => ?_)
               | refine boolF_leq (fun _ => ?_) (fun _ => ?_)
               | refine Both.mk ?_ ?_)
    all_goals (conv => whnf)
    · refine ⟨i + 1, Ghost.hold [0,1,4,7,8,9,10] ?_, by omega, by omega⟩
      have e : ((i + 1 : Nat) : Int) * n.tdiv a.length + min ((i + 1 : Nat) : Int) (n.tmod a.length) = (i : Int) * n.tdiv a.length + min (i : Int) (n.tmod a.length) + n.tdiv a.length + 1 := by
        rw [show ((i + 1 : Nat) : Int) = (i : Int) + 1 from rfl, c3]; omega
      have e2 : pieceAt n a.length i x = ⟨(i : Int) * n.tdiv a.length + min (i : Int) (n.tmod a.length), (i : Int) * n.tdiv a.length + min (i : Int) (n.tmod a.length) + n.tdiv a.length + 1, x⟩ := by rw [← e]; rfl
      rw [piecesTo_succ hx, List.map_append, e, e2]
      rfl
    · refine ⟨i + 1, Ghost.hold [0,1,4,7,8,9,10] ?_, by omega, by omega⟩
      have e : ((i + 1 : Nat) : Int) * n.tdiv a.length + min ((i + 1 : Nat) : Int) (n.tmod a.length) = (i : Int) * n.tdiv a.length + min (i : Int) (n.tmod a.length) + n.tdiv a.length := by
        rw [show ((i + 1 : Nat) : Int) = (i : Int) + 1 from rfl, c3]; omega
      have e2 : pieceAt n a.length i x = ⟨(i : Int) * n.tdiv a.length + min (i : Int) (n.tmod a.length), (i : Int) * n.tdiv a.length + min (i : Int) (n.tmod a.length) + n.tdiv a.length, x⟩ := by rw [← e]; rfl
      rw [piecesTo_succ hx, List.map_append, e, e2]
      rfl
  · repeat' (conv => whnf
             first
               | refine PairK.mk (by kernel_rfl) ?_
               | refine And.intro (by decide) ?_
               | refine And.intro rfl ?_
               | refine And.intro (List.cons_ne_nil _ _) ?_
               | refine And.intro (Nat.le_of_ble_eq_true rfl) ?_
               | refine And.intro (by omega) ?_
               | refine And.intro (by simp only [List.length_map, List.length_append, List.length_cons, List.length_nil]; omega) ?_
               | refine And.intro (by simpa only [List.length_map, List.length_append, List.length_cons, List.length_nil] using rfl) ?_
               | refine And.intro (Eq.symm (List.length_map _)) ?_
               | refine And.intro (all_map (fun _ => rfl)) ?_
               | refine And.intro (cells_map (fun _ => rfl)) ?_
               | refine And.intro (rows_map (fun _ => rfl) (fun _ => rfl)) ?_
               | refine And.intro (okRows_one rfl rfl) ?_
               | refine And.intro (okRows_all rfl) ?_
               | refine boolF_t (beq_self_eq_true _) ?_
               | refine Exists.intro _ (And.intro (map_get (by assumption)) ?_)
               | refine Exists.intro _ (And.intro (Eq.refl (α := Option D) _) ?_)
               | refine Exists.intro _ (And.intro (⟨(List.length_map _).symm⟩) ?_)
               | refine Exists.intro _ (And.intro (⟨len_one⟩) ?_)
               | refine Exists.intro _ (And.intro (⟨len_two⟩) ?_)
               | refine Exists.intro _ (And.intro (⟨len_three⟩) ?_)
               | refine Exists.intro _ (And.intro (⟨len_four⟩) ?_)
               | refine Exists.intro _ (And.intro (⟨lenl_1⟩) ?_)
               | refine Exists.intro _ (And.intro (⟨lenl_2⟩) ?_)
               | refine Exists.intro _ (And.intro (⟨lenl_3⟩) ?_)
               | refine Exists.intro _ (And.intro (⟨lenl_4⟩) ?_)
               | refine Exists.intro _ (And.intro (⟨len_more⟩) ?_)
               | refine Exists.intro _ (And.intro (⟨map_slice⟩) ?_)
               | refine Exists.intro _ (And.intro (⟨List.map_take⟩) ?_)
               | refine Exists.intro _ (And.intro (⟨List.map_drop⟩) ?_)
               | refine Exists.intro _ (And.intro (⟨map_full'⟩) ?_)
               | refine Exists.intro _ (And.intro (⟨map_full⟩) ?_)
               | refine Exists.intro _ (And.intro (⟨map_snoc⟩) ?_)
               | refine Exists.intro _ (And.intro (⟨List.map_append⟩) ?_)
               | refine Exists.intro _ (And.intro (⟨Eq.refl (α := List D) _⟩) ?_)
               | refine Exists.intro _ (And.intro (⟨Eq.refl (α := Int) _⟩) (And.intro (by omega) ?_))
               | refine Exists.intro (0) (And.intro (⟨rfl⟩) (And.intro (Nat.zero_le _) ?_))
               | refine Exists.intro _ (And.intro (⟨nc1⟩) (And.intro (by omega) ?_))
               | refine Exists.intro _ (Exists.intro _ (And.intro (⟨Eq.refl (α := Int) _⟩) (And.intro (⟨Eq.refl (α := Int) _⟩) (And.intro (by omega) (And.intro (by omega) ?_)))))
               | refine Exists.intro _ (Exists.intro _ (And.intro (⟨Eq.refl (α := Nat) _⟩) (And.intro (⟨Eq.refl (α := Nat) _⟩) ?_)))
               | refine Exists.intro _ (And.intro (⟨Eq.refl (α := Nat) _⟩) ?_)
               | refine Exists.intro _ (And.intro (u32and (by omega) (by omega)) ?_)
               | refine Exists.intro _ (And.intro (u32or (by omega) (by omega)) ?_)
               | refine Exists.intro _ (And.intro (u32xor (by omega) (by omega)) ?_)
               | refine Exists.intro _ (And.intro (u8xor (by omega) (by omega)) ?_)
               | refine Exists.intro _ (And.intro (u64and (by omega) (by omega)) ?_)
               | refine Exists.intro _ (And.intro (u64or (by omega) (by omega)) ?_)
               | refine Exists.intro _ (And.intro (u64xor (by omega) (by omega)) ?_)
               | refine Exists.intro _ (And.intro (w64 (by omega) (by omega)) ?_)
               | refine Exists.intro _ (And.intro (u32add (by omega)) ?_)
               | refine Exists.intro _ (And.intro (u64add (by omega)) ?_)
               | refine Exists.intro _ (And.intro (u8w (by omega)) ?_)
               | refine Exists.intro _ (And.intro (u32w (by omega)) ?_)
               | refine Exists.intro _ (And.intro (u64w (by omega)) ?_)
               | refine Exists.intro _ (And.intro (u8m) ?_)
               | refine Exists.intro _ (And.intro (u64i (by omega) (by omega)) ?_)
               | refine Exists.intro _ (And.intro (min_int) ?_)
               | refine Exists.intro _ (And.intro (max_int) ?_)
               | refine Exists.intro _ (And.intro (imin) ?_)
               | refine Exists.intro _ (And.intro (imax) ?_)
               | refine Pure.call (f34_ok _) ?_
               | refine Pure.locK (f34_ok _) ?_
               | refine boolF_not ?_
               | refine boolF_dect rfl ?_
               | refine boolF_dect (by assumption) ?_
               | refine boolF_decf (by assumption) ?_
               | refine boolF_dect (by omega) ?_
               | refine boolF_decf (by omega) ?_
               | refine boolF_beqt (by omega) ?_
               | refine boolF_beqf (by omega) ?_
               | refine boolF_bnet (by omega) ?_
               | refine boolF_bnef (by omega) ?_
               | refine boolF_nbeqt (by omega) ?_
               | refine boolF_nbeqf (by omega) ?_
               | refine boolF_nbnet (by omega) ?_
               | refine boolF_nbnef (by omega) ?_
               | refine boolF_t (by assumption) ?_
               | refine boolF_f (by assumption) ?_
               | refine boolF_dec (fun _ => ?_) (fun _ => ?_)
               | refine boolF_beq (fun _ => ?_) (fun _ => ?_)
               | refine boolF_bne (fun _ => ?_) (fun _ => ?_)
               | refine boolF_nbeq (fun _ => ?_) (fun _ => ?_)
               | refine boolF_nbne (fun _ => ?_) (fun _ => ?_)
               | refine boolF_leq (fun _ => ?_) (fun _ => ?_)
               | refine Both.mk ?_ ?_)
    all_goals (conv => whnf)
    obtain rfl : i = a.length := by omega
    exact ⟨Told.frz' 2 rfl (.tup (.cons (.agg (.cons (.refl _) (.cons (.refl _) (.cons (.h (all_take (piecesTo_len (Nat.le_refl _)).symm)) .nil)))) (.cons (.refl _) .nil))) Told.refl⟩

theorem f38_ok (b : Int) (p : T58) : Pure Try.prog 38 [d59 p, .pe [d3 b]] (.bool (decide (b < p.to_))) := by
  refine Pure.of ⟨by simp [d59, c59, D.sc, scs, d3], by simp [D.sc, scs, d3], trivial⟩ trivial ?_
  refine CallsIn.of_exec tab_ok mixed Try.func38 rfl rfl [] [] ?_
  repeat' (conv => whnf
           first
             | refine PairK.mk (by kernel_rfl) ?_
             | refine And.intro (by decide) ?_
             | refine And.intro rfl ?_
             | refine And.intro (List.cons_ne_nil _ _) ?_
             | refine And.intro (Nat.le_of_ble_eq_true rfl) ?_
             | refine And.intro (by omega) ?_
             | refine And.intro (by simp only [List.length_map, List.length_append, List.length_cons, List.length_nil]; omega) ?_
             | refine And.intro (by simpa only [List.length_map, List.length_append, List.length_cons, List.length_nil] using rfl) ?_
             | refine And.intro (Eq.symm (List.length_map _)) ?_
             | refine And.intro (all_map (fun _ => rfl)) ?_
             | refine And.intro (cells_map (fun _ => rfl)) ?_
             | refine And.intro (rows_map (fun _ => rfl) (fun _ => rfl)) ?_
             | refine And.intro (okRows_one rfl rfl) ?_
             | refine And.intro (okRows_all rfl) ?_
             | refine boolF_t (beq_self_eq_true _) ?_
             | refine Exists.intro _ (And.intro (map_get (by assumption)) ?_)
             | refine Exists.intro _ (And.intro (Eq.refl (α := Option D) _) ?_)
             | refine Exists.intro _ (And.intro (⟨(List.length_map _).symm⟩) ?_)
             | refine Exists.intro _ (And.intro (⟨len_one⟩) ?_)
             | refine Exists.intro _ (And.intro (⟨len_two⟩) ?_)
             | refine Exists.intro _ (And.intro (⟨len_three⟩) ?_)
             | refine Exists.intro _ (And.intro (⟨len_four⟩) ?_)
             | refine Exists.intro _ (And.intro (⟨lenl_1⟩) ?_)
             | refine Exists.intro _ (And.intro (⟨lenl_2⟩) ?_)
             | refine Exists.intro _ (And.intro (⟨lenl_3⟩) ?_)
             | refine Exists.intro _ (And.intro (⟨lenl_4⟩) ?_)
             | refine Exists.intro _ (And.intro (⟨len_more⟩) ?_)
             | refine Exists.intro _ (And.intro (⟨map_slice⟩) ?_)
             | refine Exists.intro _ (And.intro (⟨List.map_take⟩) ?_)
             | refine Exists.intro _ (And.intro (⟨List.map_drop⟩) ?_)
             | refine Exists.intro _ (And.intro (⟨map_full'⟩) ?_)
             | refine Exists.intro _ (And.intro (⟨map_full⟩) ?_)
             | refine Exists.intro _ (And.intro (⟨map_snoc⟩) ?_)
             | refine Exists.intro _ (And.intro (⟨List.map_append⟩) ?_)
             | refine Exists.intro _ (And.intro (⟨Eq.refl (α := List D) _⟩) ?_)
             | refine Exists.intro _ (And.intro (⟨Eq.refl (α := Int) _⟩) (And.intro (by omega) ?_))
             | refine Exists.intro (0) (And.intro (⟨rfl⟩) (And.intro (Nat.zero_le _) ?_))
             | refine Exists.intro _ (And.intro (⟨nc1⟩) (And.intro (by omega) ?_))
             | refine Exists.intro _ (Exists.intro _ (And.intro (⟨Eq.refl (α := Int) _⟩) (And.intro (⟨Eq.refl (α := Int) _⟩) (And.intro (by omega) (And.intro (by omega) ?_)))))
             | refine Exists.intro _ (Exists.intro _ (And.intro (⟨Eq.refl (α := Nat) _⟩) (And.intro (⟨Eq.refl (α := Nat) _⟩) ?_)))
             | refine Exists.intro _ (And.intro (⟨Eq.refl (α := Nat) _⟩) ?_)
             | refine Exists.intro _ (And.intro (u32and (by omega) (by omega)) ?_)
             | refine Exists.intro _ (And.intro (u32or (by omega) (by omega)) ?_)
             | refine Exists.intro _ (And.intro (u32xor (by omega) (by omega)) ?_)
             | refine Exists.intro _ (And.intro (u8xor (by omega) (by omega)) ?_)
             | refine Exists.intro _ (And.intro (u64and (by omega) (by omega)) ?_)
             | refine Exists.intro _ (And.intro (u64or (by omega) (by omega)) ?_)
             | refine Exists.intro _ (And.intro (u64xor (by omega) (by omega)) ?_)
             | refine Exists.intro _ (And.intro (w64 (by omega) (by omega)) ?_)
             | refine Exists.intro _ (And.intro (u32add (by omega)) ?_)
             | refine Exists.intro _ (And.intro (u64add (by omega)) ?_)
             | refine Exists.intro _ (And.intro (u8w (by omega)) ?_)
             | refine Exists.intro _ (And.intro (u32w (by omega)) ?_)
             | refine Exists.intro _ (And.intro (u64w (by omega)) ?_)
             | refine Exists.intro _ (And.intro (u8m) ?_)
             | refine Exists.intro _ (And.intro (u64i (by omega) (by omega)) ?_)
             | refine Exists.intro _ (And.intro (min_int) ?_)
             | refine Exists.intro _ (And.intro (max_int) ?_)
             | refine Exists.intro _ (And.intro (imin) ?_)
             | refine Exists.intro _ (And.intro (imax) ?_)
             | refine Pure.call (f34_ok _) ?_
             | refine Pure.locK (f34_ok _) ?_
             | refine boolF_not ?_
             | refine boolF_dect rfl ?_
             | refine boolF_dect (by assumption) ?_
             | refine boolF_decf (by assumption) ?_
             | refine boolF_dect (by omega) ?_
             | refine boolF_decf (by omega) ?_
             | refine boolF_beqt (by omega) ?_
             | refine boolF_beqf (by omega) ?_
             | refine boolF_bnet (by omega) ?_
             | refine boolF_bnef (by omega) ?_
             | refine boolF_nbeqt (by omega) ?_
             | refine boolF_nbeqf (by omega) ?_
             | refine boolF_nbnet (by omega) ?_
             | refine boolF_nbnef (by omega) ?_
             | refine boolF_t (by assumption) ?_
             | refine boolF_f (by assumption) ?_
             | refine boolF_dec (fun _ => ?_) (fun _ => ?_)
             | refine boolF_beq (fun _ => ?_) (fun _ => ?_)
             | refine boolF_bne (fun _ => ?_) (fun _ => ?_)
             | refine boolF_nbeq (fun _ => ?_) (fun _ => ?_)
             | refine boolF_nbne (fun _ => ?_) (fun _ => ?_)
             | refine boolF_leq (fun _ => ?_) (fun _ => ?_)
             | refine Both.mk ?_ ?_)
  all_goals (conv => whnf)
  all_goals (first
    | exact ⟨rfl⟩
    | exact ⟨bool_t (by omega)⟩
    | exact ⟨bool_f (by omega)⟩
    | exact ⟨bool_iff (by omega)⟩
    | exact ⟨bool_beq (by omega)⟩
    | exact ⟨bool_bne (by omega)⟩
    | exact ⟨bool_not (by omega)⟩)

def pieceIx (b : Int) (k : Int) : List T58 → Int
  | [] => -1
  | x :: l => if b < x.to_ then k else pieceIx b (k + 1) l


theorem f37_ok (b : Int) (a : List T58) (ha : ok23 a) : Pure Try.prog 37 [d23 a, .fn 38 [.pe [d3 b]]] (.int .i64 (pieceIx b 0 a)) := by
  have hlen : a.length ≤ 140737488351232 := by have := ha.2; simp [td59] at this; omega
  refine Pure.of ⟨sc23 _ _, by simp [D.sc, scs, d3], trivial⟩ trivial ?_
  refine CallsIn.of_exec tab_ok mixed Try.func37 rfl rfl [] [] ?_
  repeat' (conv => whnf
           first
             | refine PairK.mk (by kernel_rfl) ?_
             | refine And.intro (by decide) ?_
             | refine And.intro rfl ?_
             | refine And.intro (List.cons_ne_nil _ _) ?_
             | refine And.intro (Nat.le_of_ble_eq_true rfl) ?_
             | refine And.intro (by omega) ?_
             | refine And.intro (by simp only [List.length_map, List.length_append, List.length_cons, List.length_nil]; omega) ?_
             | refine And.intro (by simpa only [List.length_map, List.length_append, List.length_cons, List.length_nil] using rfl) ?_
             | refine And.intro (Eq.symm (List.length_map _)) ?_
             | refine And.intro (all_map (fun _ => rfl)) ?_
             | refine And.intro (cells_map (fun _ => rfl)) ?_
             | refine And.intro (rows_map (fun _ => rfl) (fun _ => rfl)) ?_
             | refine And.intro (okRows_one rfl rfl) ?_
             | refine And.intro (okRows_all rfl) ?_
             | refine boolF_t (beq_self_eq_true _) ?_
             | refine Exists.intro _ (And.intro (map_get (by assumption)) ?_)
             | refine Exists.intro _ (And.intro (Eq.refl (α := Option D) _) ?_)
             | refine Exists.intro _ (And.intro (⟨(List.length_map _).symm⟩) ?_)
             | refine Exists.intro _ (And.intro (⟨len_one⟩) ?_)
             | refine Exists.intro _ (And.intro (⟨len_two⟩) ?_)
             | refine Exists.intro _ (And.intro (⟨len_three⟩) ?_)
             | refine Exists.intro _ (And.intro (⟨len_four⟩) ?_)
             | refine Exists.intro _ (And.intro (⟨lenl_1⟩) ?_)
             | refine Exists.intro _ (And.intro (⟨lenl_2⟩) ?_)
             | refine Exists.intro _ (And.intro (⟨lenl_3⟩) ?_)
             | refine Exists.intro _ (And.intro (⟨lenl_4⟩) ?_)
             | refine Exists.intro _ (And.intro (⟨len_more⟩) ?_)
             | refine Exists.intro _ (And.intro (⟨map_slice⟩) ?_)
             | refine Exists.intro _ (And.intro (⟨List.map_take⟩) ?_)
             | refine Exists.intro _ (And.intro (⟨List.map_drop⟩) ?_)
             | refine Exists.intro _ (And.intro (⟨map_full'⟩) ?_)
             | refine Exists.intro _ (And.intro (⟨map_full⟩) ?_)
             | refine Exists.intro _ (And.intro (⟨map_snoc⟩) ?_)
             | refine Exists.intro _ (And.intro (⟨List.map_append⟩) ?_)
             | refine Exists.intro _ (And.intro (⟨Eq.refl (α := List D) _⟩) ?_)
             | refine Exists.intro _ (And.intro (⟨Eq.refl (α := Int) _⟩) (And.intro (by omega) ?_))
             | refine Exists.intro (0) (And.intro (⟨rfl⟩) (And.intro (Nat.zero_le _) ?_))
             | refine Exists.intro _ (And.intro (⟨nc1⟩) (And.intro (by omega) ?_))
             | refine Exists.intro _ (Exists.intro _ (And.intro (⟨Eq.refl (α := Int) _⟩) (And.intro (⟨Eq.refl (α := Int) _⟩) (And.intro (by omega) (And.intro (by omega) ?_)))))
             | refine Exists.intro _ (Exists.intro _ (And.intro (⟨Eq.refl (α := Nat) _⟩) (And.intro (⟨Eq.refl (α := Nat) _⟩) ?_)))
             | refine Exists.intro _ (And.intro (⟨Eq.refl (α := Nat) _⟩) ?_)
             | refine Exists.intro _ (And.intro (u32and (by omega) (by omega)) ?_)
             | refine Exists.intro _ (And.intro (u32or (by omega) (by omega)) ?_)
             | refine Exists.intro _ (And.intro (u32xor (by omega) (by omega)) ?_)
             | refine Exists.intro _ (And.intro (u8xor (by omega) (by omega)) ?_)
             | refine Exists.intro _ (And.intro (u64and (by omega) (by omega)) ?_)
             | refine Exists.intro _ (And.intro (u64or (by omega) (by omega)) ?_)
             | refine Exists.intro _ (And.intro (u64xor (by omega) (by omega)) ?_)
             | refine Exists.intro _ (And.intro (w64 (by omega) (by omega)) ?_)
             | refine Exists.intro _ (And.intro (u32add (by omega)) ?_)
             | refine Exists.intro _ (And.intro (u64add (by omega)) ?_)
             | refine Exists.intro _ (And.intro (u8w (by omega)) ?_)
             | refine Exists.intro _ (And.intro (u32w (by omega)) ?_)
             | refine Exists.intro _ (And.intro (u64w (by omega)) ?_)
             | refine Exists.intro _ (And.intro (u8m) ?_)
             | refine Exists.intro _ (And.intro (u64i (by omega) (by omega)) ?_)
             | refine Exists.intro _ (And.intro (min_int) ?_)
             | refine Exists.intro _ (And.intro (max_int) ?_)
             | refine Exists.intro _ (And.intro (imin) ?_)
             | refine Exists.intro _ (And.intro (imax) ?_)
             | refine Pure.call (f38_ok _ _) ?_
             | refine Pure.locK (f38_ok _ _) ?_
             | refine boolF_not ?_
             | refine boolF_dect rfl ?_
             | refine boolF_dect (by assumption) ?_
             | refine boolF_decf (by assumption) ?_
             | refine boolF_dect (by omega) ?_
             | refine boolF_decf (by omega) ?_
             | refine boolF_beqt (by omega) ?_
             | refine boolF_beqf (by omega) ?_
             | refine boolF_bnet (by omega) ?_
             | refine boolF_bnef (by omega) ?_
             | refine boolF_nbeqt (by omega) ?_
             | refine boolF_nbeqf (by omega) ?_
             | refine boolF_nbnet (by omega) ?_
             | refine boolF_nbnef (by omega) ?_
             | refine boolF_t (by assumption) ?_
             | refine boolF_f (by assumption) ?_
             | refine boolF_dec (fun _ => ?_) (fun _ => ?_)
             | refine boolF_beq (fun _ => ?_) (fun _ => ?_)
             | refine boolF_bne (fun _ => ?_) (fun _ => ?_)
             | refine boolF_nbeq (fun _ => ?_) (fun _ => ?_)
             | refine boolF_nbne (fun _ => ?_) (fun _ => ?_)
             | refine boolF_leq (fun _ => ?_) (fun _ => ?_)
             | refine Both.mk ?_ ?_)
  all_goals (conv => whnf)
  refine W_loopG (ι := Nat) (fun i => ⟨(d23 a :: .fn 38 [.pe [d3 b]] :: D.undef :: D.undef :: D.undef :: D.undef :: D.undef :: .int .i64 (a.length:Int) :: .int .i64 (i:Int) :: D.undef :: D.undef :: D.undef :: D.undef :: D.undef :: D.undef :: D.undef :: D.undef :: D.undef :: D.undef :: []), []⟩) (fun i => a.length - i)
    (fun i => i ≤ a.length ∧ pieceIx b i (a.drop i) = pieceIx b 0 a) 0 (Ghost.hold [0,1,7,8] rfl) ⟨Nat.zero_le _, rfl⟩ ?_
  rintro i ⟨h1, h2⟩
  refine exec_ok tab_ok mixed 1000 (bx := [true]) (own := []) ?_
  rcases Nat.lt_or_ge i a.length with h | h
  · obtain ⟨x, hx⟩ := at_lt h
    rw [drop_of_get hx, pieceIx] at h2
    repeat' (conv => whnf
             first
               | refine PairK.mk (by kernel_rfl) ?_
               | refine And.intro (by decide) ?_
               | refine And.intro rfl ?_
               | refine And.intro (List.cons_ne_nil _ _) ?_
               | refine And.intro (Nat.le_of_ble_eq_true rfl) ?_
               | refine And.intro (by omega) ?_
               | refine And.intro (by simp only [List.length_map, List.length_append, List.length_cons, List.length_nil]; omega) ?_
               | refine And.intro (by simpa only [List.length_map, List.length_append, List.length_cons, List.length_nil] using rfl) ?_
               | refine And.intro (Eq.symm (List.length_map _)) ?_
               | refine And.intro (all_map (fun _ => rfl)) ?_
               | refine And.intro (cells_map (fun _ => rfl)) ?_
               | refine And.intro (rows_map (fun _ => rfl) (fun _ => rfl)) ?_
               | refine And.intro (okRows_one rfl rfl) ?_
               | refine And.intro (okRows_all rfl) ?_
               | refine boolF_t (beq_self_eq_true _) ?_
               | refine Exists.intro _ (And.intro (map_get (by assumption)) ?_)
               | refine Exists.intro _ (And.intro (Eq.refl (α := Option D) _) ?_)
               | refine Exists.intro _ (And.intro (⟨(List.length_map _).symm⟩) ?_)
               | refine Exists.intro _ (And.intro (⟨len_one⟩) ?_)
               | refine Exists.intro _ (And.intro (⟨len_two⟩) ?_)
               | refine Exists.intro _ (And.intro (⟨len_three⟩) ?_)
               | refine Exists.intro _ (And.intro (⟨len_four⟩) ?_)
               | refine Exists.intro _ (And.intro (⟨lenl_1⟩) ?_)
               | refine Exists.intro _ (And.intro (⟨lenl_2⟩) ?_)
               | refine Exists.intro _ (And.intro (⟨lenl_3⟩) ?_)
               | refine Exists.intro _ (And.intro (⟨lenl_4⟩) ?_)
               | refine Exists.intro _ (And.intro (⟨len_more⟩) ?_)
               | refine Exists.intro _ (And.intro (⟨map_slice⟩) ?_)
               | refine Exists.intro _ (And.intro (⟨List.map_take⟩) ?_)
               | refine Exists.intro _ (And.intro (⟨List.map_drop⟩) ?_)
               | refine Exists.intro _ (And.intro (⟨map_full'⟩) ?_)
               | refine Exists.intro _ (And.intro (⟨map_full⟩) ?_)
               | refine Exists.intro _ (And.intro (⟨map_snoc⟩) ?_)
               | refine Exists.intro _ (And.intro (⟨List.map_append⟩) ?_)
               | refine Exists.intro _ (And.intro (⟨Eq.refl (α := List D) _⟩) ?_)
               | refine Exists.intro _ (And.intro (⟨Eq.refl (α := Int) _⟩) (And.intro (by omega) ?_))
               | refine Exists.intro (0) (And.intro (⟨rfl⟩) (And.intro (Nat.zero_le _) ?_))
               | refine Exists.intro _ (And.intro (⟨nc1⟩) (And.intro (by omega) ?_))
               | refine Exists.intro _ (Exists.intro _ (And.intro (⟨Eq.refl (α := Int) _⟩) (And.intro (⟨Eq.refl (α := Int) _⟩) (And.intro (by omega) (And.intro (by omega) ?_)))))
               | refine Exists.intro _ (Exists.intro _ (And.intro (⟨Eq.refl (α := Nat) _⟩) (And.intro (⟨Eq.refl (α := Nat) _⟩) ?_)))
               | refine Exists.intro _ (And.intro (⟨Eq.refl (α := Nat) _⟩) ?_)
               | refine Exists.intro _ (And.intro (u32and (by omega) (by omega)) ?_)
               | refine Exists.intro _ (And.intro (u32or (by omega) (by omega)) ?_)
               | refine Exists.intro _ (And.intro (u32xor (by omega) (by omega)) ?_)
               | refine Exists.intro _ (And.intro (u8xor (by omega) (by omega)) ?_)
               | refine Exists.intro _ (And.intro (u64and (by omega) (by omega)) ?_)
               | refine Exists.intro _ (And.intro (u64or (by omega) (by omega)) ?_)
               | refine Exists.intro _ (And.intro (u64xor (by omega) (by omega)) ?_)
               | refine Exists.intro _ (And.intro (w64 (by omega) (by omega)) ?_)
               | refine Exists.intro _ (And.intro (u32add (by omega)) ?_)
               | refine Exists.intro _ (And.intro (u64add (by omega)) ?_)
               | refine Exists.intro _ (And.intro (u8w (by omega)) ?_)
               | refine Exists.intro _ (And.intro (u32w (by omega)) ?_)
               | refine Exists.intro _ (And.intro (u64w (by omega)) ?_)
               | refine Exists.intro _ (And.intro (u8m) ?_)
               | refine Exists.intro _ (And.intro (u64i (by omega) (by omega)) ?_)
               | refine Exists.intro _ (And.intro (min_int) ?_)
               | refine Exists.intro _ (And.intro (max_int) ?_)
               | refine Exists.intro _ (And.intro (imin) ?_)
               | refine Exists.intro _ (And.intro (imax) ?_)
               | refine Pure.call (f38_ok _ _) ?_
               | refine Pure.locK (f38_ok _ _) ?_
               | refine boolF_not ?_
               | refine boolF_dect rfl ?_
               | refine boolF_dect (by assumption) ?_
               | refine boolF_decf (by assumption) ?_
               | refine boolF_dect (by omega) ?_
               | refine boolF_decf (by omega) ?_
               | refine boolF_beqt (by omega) ?_
               | refine boolF_beqf (by omega) ?_
               | refine boolF_bnet (by omega) ?_
               | refine boolF_bnef (by omega) ?_
               | refine boolF_nbeqt (by omega) ?_
               | refine boolF_nbeqf (by omega) ?_
               | refine boolF_nbnet (by omega) ?_
               | refine boolF_nbnef (by omega) ?_
               | refine boolF_t (by assumption) ?_
               | refine boolF_f (by assumption) ?_
               | refine boolF_dec (fun _ => ?_) (fun _ => ?_)
               | refine boolF_beq (fun _ => ?_) (fun _ => ?_)
               | refine boolF_bne (fun _ => ?_) (fun _ => ?_)
               | refine boolF_nbeq (fun _ => ?_) (fun _ => ?_)
               | refine boolF_nbne (fun _ => ?_) (fun _ => ?_)
               | refine boolF_leq (fun _ => ?_) (fun _ => ?_)
               | refine Both.mk ?_ ?_)
    all_goals (conv => whnf)
    · rw [if_pos (by assumption)] at h2
      rw [← h2]
      exact ⟨rfl⟩
    · rw [if_neg (by assumption)] at h2
      exact ⟨i + 1, Ghost.hold [0,1,7,8] rfl, ⟨by omega, h2⟩, by omega⟩
  · rw [List.drop_of_length_le h, pieceIx] at h2
    rw [← h2]
    repeat' (conv => whnf
             first
               | refine PairK.mk (by kernel_rfl) ?_
               | refine And.intro (by decide) ?_
               | refine And.intro rfl ?_
               | refine And.intro (List.cons_ne_nil _ _) ?_
               | refine And.intro (Nat.le_of_ble_eq_true rfl) ?_
               | refine And.intro (by omega) ?_
               | refine And.intro (by simp only [List.length_map, List.length_append, List.length_cons, List.length_nil]; omega) ?_
               | refine And.intro (by simpa only [List.length_map, List.length_append, List.length_cons, List.length_nil] using rfl) ?_
               | refine And.intro (Eq.symm (List.length_map _)) ?_
               | refine And.intro (all_map (fun _ => rfl)) ?_
               | refine And.intro (cells_map (fun _ => rfl)) ?_
               | refine And.intro (rows_map (fun _ => rfl) (fun _ => rfl)) ?_
               | refine And.intro (okRows_one rfl rfl) ?_
               | refine And.intro (okRows_all rfl) ?_
               | refine boolF_t (beq_self_eq_true _) ?_
               | refine Exists.intro _ (And.intro (map_get (by assumption)) ?_)
               | refine Exists.intro _ (And.intro (Eq.refl (α := Option D) _) ?_)
               | refine Exists.intro _ (And.intro (⟨(List.length_map _).symm⟩) ?_)
               | refine Exists.intro _ (And.intro (⟨len_one⟩) ?_)
               | refine Exists.intro _ (And.intro (⟨len_two⟩) ?_)
               | refine Exists.intro _ (And.intro (⟨len_three⟩) ?_)
               | refine Exists.intro _ (And.intro (⟨len_four⟩) ?_)
               | refine Exists.intro _ (And.intro (⟨lenl_1⟩) ?_)
               | refine Exists.intro _ (And.intro (⟨lenl_2⟩) ?_)
               | refine Exists.intro _ (And.intro (⟨lenl_3⟩) ?_)
               | refine Exists.intro _ (And.intro (⟨lenl_4⟩) ?_)
               | refine Exists.intro _ (And.intro (⟨len_more⟩) ?_)
               | refine Exists.intro _ (And.intro (⟨map_slice⟩) ?_)
               | refine Exists.intro _ (And.intro (⟨List.map_take⟩) ?_)
               | refine Exists.intro _ (And.intro (⟨List.map_drop⟩) ?_)
               | refine Exists.intro _ (And.intro (⟨map_full'⟩) ?_)
               | refine Exists.intro _ (And.intro (⟨map_full⟩) ?_)
               | refine Exists.intro _ (And.intro (⟨map_snoc⟩) ?_)
               | refine Exists.intro _ (And.intro (⟨List.map_append⟩) ?_)
               | refine Exists.intro _ (And.intro (⟨Eq.refl (α := List D) _⟩) ?_)
               | refine Exists.intro _ (And.intro (⟨Eq.refl (α := Int) _⟩) (And.intro (by omega) ?_))
               | refine Exists.intro (0) (And.intro (⟨rfl⟩) (And.intro (Nat.zero_le _) ?_))
               | refine Exists.intro _ (And.intro (⟨nc1⟩) (And.intro (by omega) ?_))
               | refine Exists.intro _ (Exists.intro _ (And.intro (⟨Eq.refl (α := Int) _⟩) (And.intro (⟨Eq.refl (α := Int) _⟩) (And.intro (by omega) (And.intro (by omega) ?_)))))
               | refine Exists.intro _ (Exists.intro _ (And.intro (⟨Eq.refl (α := Nat) _⟩) (And.intro (⟨Eq.refl (α := Nat) _⟩) ?_)))
               | refine Exists.intro _ (And.intro (⟨Eq.refl (α := Nat) _⟩) ?_)
               | refine Exists.intro _ (And.intro (u32and (by omega) (by omega)) ?_)
               | refine Exists.intro _ (And.intro (u32or (by omega) (by omega)) ?_)
               | refine Exists.intro _ (And.intro (u32xor (by omega) (by omega)) ?_)
               | refine Exists.intro _ (And.intro (u8xor (by omega) (by omega)) ?_)
               | refine Exists.intro _ (And.intro (u64and (by omega) (by omega)) ?_)
               | refine Exists.intro _ (And.intro (u64or (by omega) (by omega)) ?_)
               | refine Exists.intro _ (And.intro (u64xor (by omega) (by omega)) ?_)
               | refine Exists.intro _ (And.intro (w64 (by omega) (by omega)) ?_)
               | refine Exists.intro _ (And.intro (u32add (by omega)) ?_)
               | refine Exists.intro _ (And.intro (u64add (by omega)) ?_)
               | refine Exists.intro _ (And.intro (u8w (by omega)) ?_)
               | refine Exists.intro _ (And.intro (u32w (by omega)) ?_)
               | refine Exists.intro _ (And.intro (u64w (by omega)) ?_)
               | refine Exists.intro _ (And.intro (u8m) ?_)
               | refine Exists.intro _ (And.intro (u64i (by omega) (by omega)) ?_)
               | refine Exists.intro _ (And.intro (min_int) ?_)
               | refine Exists.intro _ (And.intro (max_int) ?_)
               | refine Exists.intro _ (And.intro (imin) ?_)
               | refine Exists.intro _ (And.intro (imax) ?_)
               | refine Pure.call (f38_ok _ _) ?_
               | refine Pure.locK (f38_ok _ _) ?_
               | refine boolF_not ?_
               | refine boolF_dect rfl ?_
               | refine boolF_dect (by assumption) ?_
               | refine boolF_decf (by assumption) ?_
               | refine boolF_dect (by omega) ?_
               | refine boolF_decf (by omega) ?_
               | refine boolF_beqt (by omega) ?_
               | refine boolF_beqf (by omega) ?_
               | refine boolF_bnet (by omega) ?_
               | refine boolF_bnef (by omega) ?_
               | refine boolF_nbeqt (by omega) ?_
               | refine boolF_nbeqf (by omega) ?_
               | refine boolF_nbnet (by omega) ?_
               | refine boolF_nbnef (by omega) ?_
               | refine boolF_t (by assumption) ?_
               | refine boolF_f (by assumption) ?_
               | refine boolF_dec (fun _ => ?_) (fun _ => ?_)
               | refine boolF_beq (fun _ => ?_) (fun _ => ?_)
               | refine boolF_bne (fun _ => ?_) (fun _ => ?_)
               | refine boolF_nbeq (fun _ => ?_) (fun _ => ?_)
               | refine boolF_nbne (fun _ => ?_) (fun _ => ?_)
               | refine boolF_leq (fun _ => ?_) (fun _ => ?_)
               | refine Both.mk ?_ ?_)
    all_goals (conv => whnf)
    all_goals (first
      | exact ⟨rfl⟩
      | exact ⟨bool_t (by omega)⟩
      | exact ⟨bool_f (by omega)⟩
      | exact ⟨bool_iff (by omega)⟩
      | exact ⟨bool_beq (by omega)⟩
      | exact ⟨bool_bne (by omega)⟩
      | exact ⟨bool_not (by omega)⟩)

def findM (m : T24) (b : Int) : Int × Int :=
  if rightP m then (if b < 0 ∨ m.n_ ≤ b then (0, 9) else (pieceIx b 0 m.pieces_, 0)) else (0, 1)


theorem f24_ok (m : T24) (b : Int) (hm : ok25 m) (hb : ok3 b) : Pure Try.prog 24 [d25 m, d3 b] (.tup [d3 (findM m b).1, d3 (findM m b).2]) := by
  refine Pure.of ⟨sc25 _ _, trivial, trivial⟩ ⟨trivial, trivial, trivial⟩ ?_
  refine CallsIn.of_exec tab_ok mixed Try.func24 rfl rfl [] [] ?_
  repeat' (conv => whnf
           first
             | refine PairK.mk (by kernel_rfl) ?_
             | refine And.intro (by decide) ?_
             | refine And.intro rfl ?_
             | refine And.intro (List.cons_ne_nil _ _) ?_
             | refine And.intro (Nat.le_of_ble_eq_true rfl) ?_
             | refine And.intro (by omega) ?_
             | refine And.intro (by simp only [List.length_map, List.length_append, List.length_cons, List.length_nil]; omega) ?_
             | refine And.intro (by simpa only [List.length_map, List.length_append, List.length_cons, List.length_nil] using rfl) ?_
             | refine And.intro (Eq.symm (List.length_map _)) ?_
             | refine And.intro (all_map (fun _ => rfl)) ?_
             | refine And.intro (cells_map (fun _ => rfl)) ?_
             | refine And.intro (rows_map (fun _ => rfl) (fun _ => rfl)) ?_
             | refine And.intro (okRows_one rfl rfl) ?_
             | refine And.intro (okRows_all rfl) ?_
             | refine boolF_t (beq_self_eq_true _) ?_
             | refine Exists.intro _ (And.intro (map_get (by assumption)) ?_)
             | refine Exists.intro _ (And.intro (Eq.refl (α := Option D) _) ?_)
             | refine Exists.intro _ (And.intro (⟨(List.length_map _).symm⟩) ?_)
             | refine Exists.intro _ (And.intro (⟨len_one⟩) ?_)
             | refine Exists.intro _ (And.intro (⟨len_two⟩) ?_)
             | refine Exists.intro _ (And.intro (⟨len_three⟩) ?_)
             | refine Exists.intro _ (And.intro (⟨len_four⟩) ?_)
             | refine Exists.intro _ (And.intro (⟨lenl_1⟩) ?_)
             | refine Exists.intro _ (And.intro (⟨lenl_2⟩) ?_)
             | refine Exists.intro _ (And.intro (⟨lenl_3⟩) ?_)
             | refine Exists.intro _ (And.intro (⟨lenl_4⟩) ?_)
             | refine Exists.intro _ (And.intro (⟨len_more⟩) ?_)
             | refine Exists.intro _ (And.intro (⟨map_slice⟩) ?_)
             | refine Exists.intro _ (And.intro (⟨List.map_take⟩) ?_)
             | refine Exists.intro _ (And.intro (⟨List.map_drop⟩) ?_)
             | refine Exists.intro _ (And.intro (⟨map_full'⟩) ?_)
             | refine Exists.intro _ (And.intro (⟨map_full⟩) ?_)
             | refine Exists.intro _ (And.intro (⟨map_snoc⟩) ?_)
             | refine Exists.intro _ (And.intro (⟨List.map_append⟩) ?_)
             | refine Exists.intro _ (And.intro (⟨Eq.refl (α := List D) _⟩) ?_)
             | refine Exists.intro _ (And.intro (⟨Eq.refl (α := Int) _⟩) (And.intro (by omega) ?_))
             | refine Exists.intro (0) (And.intro (⟨rfl⟩) (And.intro (Nat.zero_le _) ?_))
             | refine Exists.intro _ (And.intro (⟨nc1⟩) (And.intro (by omega) ?_))
             | refine Exists.intro _ (Exists.intro _ (And.intro (⟨Eq.refl (α := Int) _⟩) (And.intro (⟨Eq.refl (α := Int) _⟩) (And.intro (by omega) (And.intro (by omega) ?_)))))
             | refine Exists.intro _ (Exists.intro _ (And.intro (⟨Eq.refl (α := Nat) _⟩) (And.intro (⟨Eq.refl (α := Nat) _⟩) ?_)))
             | refine Exists.intro _ (And.intro (⟨Eq.refl (α := Nat) _⟩) ?_)
             | refine Exists.intro _ (And.intro (u32and (by omega) (by omega)) ?_)
             | refine Exists.intro _ (And.intro (u32or (by omega) (by omega)) ?_)
             | refine Exists.intro _ (And.intro (u32xor (by omega) (by omega)) ?_)
             | refine Exists.intro _ (And.intro (u8xor (by omega) (by omega)) ?_)
             | refine Exists.intro _ (And.intro (u64and (by omega) (by omega)) ?_)
             | refine Exists.intro _ (And.intro (u64or (by omega) (by omega)) ?_)
             | refine Exists.intro _ (And.intro (u64xor (by omega) (by omega)) ?_)
             | refine Exists.intro _ (And.intro (w64 (by omega) (by omega)) ?_)
             | refine Exists.intro _ (And.intro (u32add (by omega)) ?_)
             | refine Exists.intro _ (And.intro (u64add (by omega)) ?_)
             | refine Exists.intro _ (And.intro (u8w (by omega)) ?_)
             | refine Exists.intro _ (And.intro (u32w (by omega)) ?_)
             | refine Exists.intro _ (And.intro (u64w (by omega)) ?_)
             | refine Exists.intro _ (And.intro (u8m) ?_)
             | refine Exists.intro _ (And.intro (u64i (by omega) (by omega)) ?_)
             | refine Exists.intro _ (And.intro (min_int) ?_)
             | refine Exists.intro _ (And.intro (max_int) ?_)
             | refine Exists.intro _ (And.intro (imin) ?_)
             | refine Exists.intro _ (And.intro (imax) ?_)
             | refine Pure.call (f14_ok _ hm) ?_
             | refine Pure.locK (f14_ok _ hm) ?_
             | refine Pure.call (f37_ok _ _ hm.2.2) ?_
             | refine Pure.locK (f37_ok _ _ hm.2.2) ?_
             | refine boolF_not ?_
             | refine boolF_dect rfl ?_
             | refine boolF_dect (by assumption) ?_
             | refine boolF_decf (by assumption) ?_
             | refine boolF_dect (by omega) ?_
             | refine boolF_decf (by omega) ?_
             | refine boolF_beqt (by omega) ?_
             | refine boolF_beqf (by omega) ?_
             | refine boolF_bnet (by omega) ?_
             | refine boolF_bnef (by omega) ?_
             | refine boolF_nbeqt (by omega) ?_
             | refine boolF_nbeqf (by omega) ?_
             | refine boolF_nbnet (by omega) ?_
             | refine boolF_nbnef (by omega) ?_
             | refine boolF_t (by assumption) ?_
             | refine boolF_f (by assumption) ?_
             | refine boolF_dec (fun _ => ?_) (fun _ => ?_)
             | refine boolF_beq (fun _ => ?_) (fun _ => ?_)
             | refine boolF_bne (fun _ => ?_) (fun _ => ?_)
             | refine boolF_nbeq (fun _ => ?_) (fun _ => ?_)
             | refine boolF_nbne (fun _ => ?_) (fun _ => ?_)
             | refine boolF_leq (fun _ => ?_) (fun _ => ?_)
             | refine Both.mk ?_ ?_)
  all_goals (conv => whnf)
  · rw [findM, if_pos (by assumption), if_pos (by omega)]; exact ⟨rfl⟩
  · rw [findM, if_pos (by assumption), if_pos (by omega)]; exact ⟨rfl⟩
  · rw [findM, if_pos (by assumption), if_neg (by omega)]; exact ⟨rfl⟩
  · rw [findM, if_neg (by assumption)]; exact ⟨rfl⟩

theorem new_alive : newM 10 [0, 1, 2] = (⟨1, 10, [⟨0, 4, 0⟩, ⟨4, 7, 1⟩, ⟨7, 10, 2⟩]⟩, 0) := by decide
theorem okm_alive : ok25 ⟨1, 10, [⟨0, 4, 0⟩, ⟨4, 7, 1⟩, ⟨7, 10, 2⟩]⟩ := by simp [ok25, ok3, ok23, ok59, td59]
theorem find_alive : findM ⟨1, 10, [⟨0, 4, 0⟩, ⟨4, 7, 1⟩, ⟨7, 10, 2⟩]⟩ 6 = (1, 0) := by decide
theorem right_alive : decide (rightP ⟨1, 10, [⟨0, 4, 0⟩, ⟨4, 7, 1⟩, ⟨7, 10, 2⟩]⟩) = true := by decide

theorem f18_ok : Pure Try.prog 18 [] (.bool true) := by
  refine Pure.of trivial trivial ?_
  refine CallsIn.of_exec tab_ok mixed Try.func18 rfl rfl [] [] ?_
  repeat' (conv => whnf
           first
             | refine PairK.mk (by kernel_rfl) ?_
             | refine And.intro (by decide) ?_
             | refine And.intro rfl ?_
             | refine And.intro (List.cons_ne_nil _ _) ?_
             | refine And.intro (Nat.le_of_ble_eq_true rfl) ?_
             | refine And.intro (by omega) ?_
             | refine And.intro (by simp only [List.length_map, List.length_append, List.length_cons, List.length_nil]; omega) ?_
             | refine And.intro (by simpa only [List.length_map, List.length_append, List.length_cons, List.length_nil] using rfl) ?_
             | refine And.intro (Eq.symm (List.length_map _)) ?_
             | refine And.intro (all_map (fun _ => rfl)) ?_
             | refine And.intro (cells_map (fun _ => rfl)) ?_
             | refine And.intro (rows_map (fun _ => rfl) (fun _ => rfl)) ?_
             | refine And.intro (okRows_one rfl rfl) ?_
             | refine And.intro (okRows_all rfl) ?_
             | refine boolF_t (beq_self_eq_true _) ?_
             | refine Exists.intro _ (And.intro (map_get (by assumption)) ?_)
             | refine Exists.intro _ (And.intro (Eq.refl (α := Option D) _) ?_)
             | refine Exists.intro _ (And.intro (⟨(List.length_map _).symm⟩) ?_)
             | refine Exists.intro _ (And.intro (⟨len_one⟩) ?_)
             | refine Exists.intro _ (And.intro (⟨len_two⟩) ?_)
             | refine Exists.intro _ (And.intro (⟨len_three⟩) ?_)
             | refine Exists.intro _ (And.intro (⟨len_four⟩) ?_)
             | refine Exists.intro _ (And.intro (⟨lenl_1⟩) ?_)
             | refine Exists.intro _ (And.intro (⟨lenl_2⟩) ?_)
             | refine Exists.intro _ (And.intro (⟨lenl_3⟩) ?_)
             | refine Exists.intro _ (And.intro (⟨lenl_4⟩) ?_)
             | refine Exists.intro _ (And.intro (⟨len_more⟩) ?_)
             | refine Exists.intro _ (And.intro (⟨map_slice⟩) ?_)
             | refine Exists.intro _ (And.intro (⟨List.map_take⟩) ?_)
             | refine Exists.intro _ (And.intro (⟨List.map_drop⟩) ?_)
             | refine Exists.intro _ (And.intro (⟨map_full'⟩) ?_)
             | refine Exists.intro _ (And.intro (⟨map_full⟩) ?_)
             | refine Exists.intro _ (And.intro (⟨map_snoc⟩) ?_)
             | refine Exists.intro _ (And.intro (⟨List.map_append⟩) ?_)
             | refine Exists.intro _ (And.intro (⟨Eq.refl (α := List D) _⟩) ?_)
             | refine Exists.intro _ (And.intro (⟨Eq.refl (α := Int) _⟩) (And.intro (by omega) ?_))
             | refine Exists.intro (0) (And.intro (⟨rfl⟩) (And.intro (Nat.zero_le _) ?_))
             | refine Exists.intro _ (And.intro (⟨nc1⟩) (And.intro (by omega) ?_))
             | refine Exists.intro _ (Exists.intro _ (And.intro (⟨Eq.refl (α := Int) _⟩) (And.intro (⟨Eq.refl (α := Int) _⟩) (And.intro (by omega) (And.intro (by omega) ?_)))))
             | refine Exists.intro _ (Exists.intro _ (And.intro (⟨Eq.refl (α := Nat) _⟩) (And.intro (⟨Eq.refl (α := Nat) _⟩) ?_)))
             | refine Exists.intro _ (And.intro (⟨Eq.refl (α := Nat) _⟩) ?_)
             | refine Exists.intro _ (And.intro (u32and (by omega) (by omega)) ?_)
             | refine Exists.intro _ (And.intro (u32or (by omega) (by omega)) ?_)
             | refine Exists.intro _ (And.intro (u32xor (by omega) (by omega)) ?_)
             | refine Exists.intro _ (And.intro (u8xor (by omega) (by omega)) ?_)
             | refine Exists.intro _ (And.intro (u64and (by omega) (by omega)) ?_)
             | refine Exists.intro _ (And.intro (u64or (by omega) (by omega)) ?_)
             | refine Exists.intro _ (And.intro (u64xor (by omega) (by omega)) ?_)
             | refine Exists.intro _ (And.intro (w64 (by omega) (by omega)) ?_)
             | refine Exists.intro _ (And.intro (u32add (by omega)) ?_)
             | refine Exists.intro _ (And.intro (u64add (by omega)) ?_)
             | refine Exists.intro _ (And.intro (u8w (by omega)) ?_)
             | refine Exists.intro _ (And.intro (u32w (by omega)) ?_)
             | refine Exists.intro _ (And.intro (u64w (by omega)) ?_)
             | refine Exists.intro _ (And.intro (u8m) ?_)
             | refine Exists.intro _ (And.intro (u64i (by omega) (by omega)) ?_)
             | refine Exists.intro _ (And.intro (min_int) ?_)
             | refine Exists.intro _ (And.intro (max_int) ?_)
             | refine Exists.intro _ (And.intro (imin) ?_)
             | refine Exists.intro _ (And.intro (imax) ?_)
             | refine Pure.call (f14_ok _ hm) ?_
             | refine Pure.locK (f14_ok _ hm) ?_
             | refine Pure.call (f37_ok _ _ hm.2.2) ?_
             | refine Pure.locK (f37_ok _ _ hm.2.2) ?_
             | refine boolF_not ?_
             | refine boolF_dect rfl ?_
             | refine boolF_dect (by assumption) ?_
             | refine boolF_decf (by assumption) ?_
             | refine boolF_dect (by omega) ?_
             | refine boolF_decf (by omega) ?_
             | refine boolF_beqt (by omega) ?_
             | refine boolF_beqf (by omega) ?_
             | refine boolF_bnet (by omega) ?_
             | refine boolF_bnef (by omega) ?_
             | refine boolF_nbeqt (by omega) ?_
             | refine boolF_nbeqf (by omega) ?_
             | refine boolF_nbnet (by omega) ?_
             | refine boolF_nbnef (by omega) ?_
             | refine boolF_t (by assumption) ?_
             | refine boolF_f (by assumption) ?_
             | refine boolF_dec (fun _ => ?_) (fun _ => ?_)
             | refine boolF_beq (fun _ => ?_) (fun _ => ?_)
             | refine boolF_bne (fun _ => ?_) (fun _ => ?_)
             | refine boolF_nbeq (fun _ => ?_) (fun _ => ?_)
             | refine boolF_nbne (fun _ => ?_) (fun _ => ?_)
             | refine boolF_leq (fun _ => ?_) (fun _ => ?_)
             | refine Both.mk ?_ ?_)
  all_goals (conv => whnf)
  refine Pure.call (f10_ok 10 [0, 1, 2] (by simp [ok3]) (by simp [ok22, ok3, td3])) ?_
  rw [new_alive]
  repeat' (conv => whnf
           first
             | refine PairK.mk (by kernel_rfl) ?_
             | refine And.intro (by decide) ?_
             | refine And.intro rfl ?_
             | refine And.intro (List.cons_ne_nil _ _) ?_
             | refine And.intro (Nat.le_of_ble_eq_true rfl) ?_
             | refine And.intro (by omega) ?_
             | refine And.intro (by simp only [List.length_map, List.length_append, List.length_cons, List.length_nil]; omega) ?_
             | refine And.intro (by simpa only [List.length_map, List.length_append, List.length_cons, List.length_nil] using rfl) ?_
             | refine And.intro (Eq.symm (List.length_map _)) ?_
             | refine And.intro (all_map (fun _ => rfl)) ?_
             | refine And.intro (cells_map (fun _ => rfl)) ?_
             | refine And.intro (rows_map (fun _ => rfl) (fun _ => rfl)) ?_
             | refine And.intro (okRows_one rfl rfl) ?_
             | refine And.intro (okRows_all rfl) ?_
             | refine boolF_t (beq_self_eq_true _) ?_
             | refine Exists.intro _ (And.intro (map_get (by assumption)) ?_)
             | refine Exists.intro _ (And.intro (Eq.refl (α := Option D) _) ?_)
             | refine Exists.intro _ (And.intro (⟨(List.length_map _).symm⟩) ?_)
             | refine Exists.intro _ (And.intro (⟨len_one⟩) ?_)
             | refine Exists.intro _ (And.intro (⟨len_two⟩) ?_)
             | refine Exists.intro _ (And.intro (⟨len_three⟩) ?_)
             | refine Exists.intro _ (And.intro (⟨len_four⟩) ?_)
             | refine Exists.intro _ (And.intro (⟨lenl_1⟩) ?_)
             | refine Exists.intro _ (And.intro (⟨lenl_2⟩) ?_)
             | refine Exists.intro _ (And.intro (⟨lenl_3⟩) ?_)
             | refine Exists.intro _ (And.intro (⟨lenl_4⟩) ?_)
             | refine Exists.intro _ (And.intro (⟨len_more⟩) ?_)
             | refine Exists.intro _ (And.intro (⟨map_slice⟩) ?_)
             | refine Exists.intro _ (And.intro (⟨List.map_take⟩) ?_)
             | refine Exists.intro _ (And.intro (⟨List.map_drop⟩) ?_)
             | refine Exists.intro _ (And.intro (⟨map_full'⟩) ?_)
             | refine Exists.intro _ (And.intro (⟨map_full⟩) ?_)
             | refine Exists.intro _ (And.intro (⟨map_snoc⟩) ?_)
             | refine Exists.intro _ (And.intro (⟨List.map_append⟩) ?_)
             | refine Exists.intro _ (And.intro (⟨Eq.refl (α := List D) _⟩) ?_)
             | refine Exists.intro _ (And.intro (⟨Eq.refl (α := Int) _⟩) (And.intro (by omega) ?_))
             | refine Exists.intro (0) (And.intro (⟨rfl⟩) (And.intro (Nat.zero_le _) ?_))
             | refine Exists.intro _ (And.intro (⟨nc1⟩) (And.intro (by omega) ?_))
             | refine Exists.intro _ (Exists.intro _ (And.intro (⟨Eq.refl (α := Int) _⟩) (And.intro (⟨Eq.refl (α := Int) _⟩) (And.intro (by omega) (And.intro (by omega) ?_)))))
             | refine Exists.intro _ (Exists.intro _ (And.intro (⟨Eq.refl (α := Nat) _⟩) (And.intro (⟨Eq.refl (α := Nat) _⟩) ?_)))
             | refine Exists.intro _ (And.intro (⟨Eq.refl (α := Nat) _⟩) ?_)
             | refine Exists.intro _ (And.intro (u32and (by omega) (by omega)) ?_)
             | refine Exists.intro _ (And.intro (u32or (by omega) (by omega)) ?_)
             | refine Exists.intro _ (And.intro (u32xor (by omega) (by omega)) ?_)
             | refine Exists.intro _ (And.intro (u8xor (by omega) (by omega)) ?_)
             | refine Exists.intro _ (And.intro (u64and (by omega) (by omega)) ?_)
             | refine Exists.intro _ (And.intro (u64or (by omega) (by omega)) ?_)
             | refine Exists.intro _ (And.intro (u64xor (by omega) (by omega)) ?_)
             | refine Exists.intro _ (And.intro (w64 (by omega) (by omega)) ?_)
             | refine Exists.intro _ (And.intro (u32add (by omega)) ?_)
             | refine Exists.intro _ (And.intro (u64add (by omega)) ?_)
             | refine Exists.intro _ (And.intro (u8w (by omega)) ?_)
             | refine Exists.intro _ (And.intro (u32w (by omega)) ?_)
             | refine Exists.intro _ (And.intro (u64w (by omega)) ?_)
             | refine Exists.intro _ (And.intro (u8m) ?_)
             | refine Exists.intro _ (And.intro (u64i (by omega) (by omega)) ?_)
             | refine Exists.intro _ (And.intro (min_int) ?_)
             | refine Exists.intro _ (And.intro (max_int) ?_)
             | refine Exists.intro _ (And.intro (imin) ?_)
             | refine Exists.intro _ (And.intro (imax) ?_)
             | refine Pure.call (f14_ok _ hm) ?_
             | refine Pure.locK (f14_ok _ hm) ?_
             | refine Pure.call (f37_ok _ _ hm.2.2) ?_
             | refine Pure.locK (f37_ok _ _ hm.2.2) ?_
             | refine boolF_not ?_
             | refine boolF_dect rfl ?_
             | refine boolF_dect (by assumption) ?_
             | refine boolF_decf (by assumption) ?_
             | refine boolF_dect (by omega) ?_
             | refine boolF_decf (by omega) ?_
             | refine boolF_beqt (by omega) ?_
             | refine boolF_beqf (by omega) ?_
             | refine boolF_bnet (by omega) ?_
             | refine boolF_bnef (by omega) ?_
             | refine boolF_nbeqt (by omega) ?_
             | refine boolF_nbeqf (by omega) ?_
             | refine boolF_nbnet (by omega) ?_
             | refine boolF_nbnef (by omega) ?_
             | refine boolF_t (by assumption) ?_
             | refine boolF_f (by assumption) ?_
             | refine boolF_dec (fun _ => ?_) (fun _ => ?_)
             | refine boolF_beq (fun _ => ?_) (fun _ => ?_)
             | refine boolF_bne (fun _ => ?_) (fun _ => ?_)
             | refine boolF_nbeq (fun _ => ?_) (fun _ => ?_)
             | refine boolF_nbne (fun _ => ?_) (fun _ => ?_)
             | refine boolF_leq (fun _ => ?_) (fun _ => ?_)
             | refine Both.mk ?_ ?_)
  all_goals (conv => whnf)
  refine Pure.call (f24_ok _ 6 okm_alive (by simp [ok3])) ?_
  rw [find_alive]
  repeat' (conv => whnf
           first
             | refine PairK.mk (by kernel_rfl) ?_
             | refine And.intro (by decide) ?_
             | refine And.intro rfl ?_
             | refine And.intro (List.cons_ne_nil _ _) ?_
             | refine And.intro (Nat.le_of_ble_eq_true rfl) ?_
             | refine And.intro (by omega) ?_
             | refine And.intro (by simp only [List.length_map, List.length_append, List.length_cons, List.length_nil]; omega) ?_
             | refine And.intro (by simpa only [List.length_map, List.length_append, List.length_cons, List.length_nil] using rfl) ?_
             | refine And.intro (Eq.symm (List.length_map _)) ?_
             | refine And.intro (all_map (fun _ => rfl)) ?_
             | refine And.intro (cells_map (fun _ => rfl)) ?_
             | refine And.intro (rows_map (fun _ => rfl) (fun _ => rfl)) ?_
             | refine And.intro (okRows_one rfl rfl) ?_
             | refine And.intro (okRows_all rfl) ?_
             | refine boolF_t (beq_self_eq_true _) ?_
             | refine Exists.intro _ (And.intro (map_get (by assumption)) ?_)
             | refine Exists.intro _ (And.intro (Eq.refl (α := Option D) _) ?_)
             | refine Exists.intro _ (And.intro (⟨(List.length_map _).symm⟩) ?_)
             | refine Exists.intro _ (And.intro (⟨len_one⟩) ?_)
             | refine Exists.intro _ (And.intro (⟨len_two⟩) ?_)
             | refine Exists.intro _ (And.intro (⟨len_three⟩) ?_)
             | refine Exists.intro _ (And.intro (⟨len_four⟩) ?_)
             | refine Exists.intro _ (And.intro (⟨lenl_1⟩) ?_)
             | refine Exists.intro _ (And.intro (⟨lenl_2⟩) ?_)
             | refine Exists.intro _ (And.intro (⟨lenl_3⟩) ?_)
             | refine Exists.intro _ (And.intro (⟨lenl_4⟩) ?_)
             | refine Exists.intro _ (And.intro (⟨len_more⟩) ?_)
             | refine Exists.intro _ (And.intro (⟨map_slice⟩) ?_)
             | refine Exists.intro _ (And.intro (⟨List.map_take⟩) ?_)
             | refine Exists.intro _ (And.intro (⟨List.map_drop⟩) ?_)
             | refine Exists.intro _ (And.intro (⟨map_full'⟩) ?_)
             | refine Exists.intro _ (And.intro (⟨map_full⟩) ?_)
             | refine Exists.intro _ (And.intro (⟨map_snoc⟩) ?_)
             | refine Exists.intro _ (And.intro (⟨List.map_append⟩) ?_)
             | refine Exists.intro _ (And.intro (⟨Eq.refl (α := List D) _⟩) ?_)
             | refine Exists.intro _ (And.intro (⟨Eq.refl (α := Int) _⟩) (And.intro (by omega) ?_))
             | refine Exists.intro (0) (And.intro (⟨rfl⟩) (And.intro (Nat.zero_le _) ?_))
             | refine Exists.intro _ (And.intro (⟨nc1⟩) (And.intro (by omega) ?_))
             | refine Exists.intro _ (Exists.intro _ (And.intro (⟨Eq.refl (α := Int) _⟩) (And.intro (⟨Eq.refl (α := Int) _⟩) (And.intro (by omega) (And.intro (by omega) ?_)))))
             | refine Exists.intro _ (Exists.intro _ (And.intro (⟨Eq.refl (α := Nat) _⟩) (And.intro (⟨Eq.refl (α := Nat) _⟩) ?_)))
             | refine Exists.intro _ (And.intro (⟨Eq.refl (α := Nat) _⟩) ?_)
             | refine Exists.intro _ (And.intro (u32and (by omega) (by omega)) ?_)
             | refine Exists.intro _ (And.intro (u32or (by omega) (by omega)) ?_)
             | refine Exists.intro _ (And.intro (u32xor (by omega) (by omega)) ?_)
             | refine Exists.intro _ (And.intro (u8xor (by omega) (by omega)) ?_)
             | refine Exists.intro _ (And.intro (u64and (by omega) (by omega)) ?_)
             | refine Exists.intro _ (And.intro (u64or (by omega) (by omega)) ?_)
             | refine Exists.intro _ (And.intro (u64xor (by omega) (by omega)) ?_)
             | refine Exists.intro _ (And.intro (w64 (by omega) (by omega)) ?_)
             | refine Exists.intro _ (And.intro (u32add (by omega)) ?_)
             | refine Exists.intro _ (And.intro (u64add (by omega)) ?_)
             | refine Exists.intro _ (And.intro (u8w (by omega)) ?_)
             | refine Exists.intro _ (And.intro (u32w (by omega)) ?_)
             | refine Exists.intro _ (And.intro (u64w (by omega)) ?_)
             | refine Exists.intro _ (And.intro (u8m) ?_)
             | refine Exists.intro _ (And.intro (u64i (by omega) (by omega)) ?_)
             | refine Exists.intro _ (And.intro (min_int) ?_)
             | refine Exists.intro _ (And.intro (max_int) ?_)
             | refine Exists.intro _ (And.intro (imin) ?_)
             | refine Exists.intro _ (And.intro (imax) ?_)
             | refine Pure.call (f14_ok _ hm) ?_
             | refine Pure.locK (f14_ok _ hm) ?_
             | refine Pure.call (f37_ok _ _ hm.2.2) ?_
             | refine Pure.locK (f37_ok _ _ hm.2.2) ?_
             | refine boolF_not ?_
             | refine boolF_dect rfl ?_
             | refine boolF_dect (by assumption) ?_
             | refine boolF_decf (by assumption) ?_
             | refine boolF_dect (by omega) ?_
             | refine boolF_decf (by omega) ?_
             | refine boolF_beqt (by omega) ?_
             | refine boolF_beqf (by omega) ?_
             | refine boolF_bnet (by omega) ?_
             | refine boolF_bnef (by omega) ?_
             | refine boolF_nbeqt (by omega) ?_
             | refine boolF_nbeqf (by omega) ?_
             | refine boolF_nbnet (by omega) ?_
             | refine boolF_nbnef (by omega) ?_
             | refine boolF_t (by assumption) ?_
             | refine boolF_f (by assumption) ?_
             | refine boolF_dec (fun _ => ?_) (fun _ => ?_)
             | refine boolF_beq (fun _ => ?_) (fun _ => ?_)
             | refine boolF_bne (fun _ => ?_) (fun _ => ?_)
             | refine boolF_nbeq (fun _ => ?_) (fun _ => ?_)
             | refine boolF_nbne (fun _ => ?_) (fun _ => ?_)
             | refine boolF_leq (fun _ => ?_) (fun _ => ?_)
             | refine Both.mk ?_ ?_)
  all_goals (conv => whnf)
  refine Pure.call (f21_ok [⟨0, 4, 0⟩, ⟨4, 7, 1⟩, ⟨7, 10, 2⟩] [⟨0, 4, 0⟩, ⟨4, 7, 1⟩, ⟨7, 10, 2⟩] okm_alive.2.2 okm_alive.2.2) ?_
  repeat' (conv => whnf
           first
             | refine PairK.mk (by kernel_rfl) ?_
             | refine And.intro (by decide) ?_
             | refine And.intro rfl ?_
             | refine And.intro (List.cons_ne_nil _ _) ?_
             | refine And.intro (Nat.le_of_ble_eq_true rfl) ?_
             | refine And.intro (by omega) ?_
             | refine And.intro (by simp only [List.length_map, List.length_append, List.length_cons, List.length_nil]; omega) ?_
             | refine And.intro (by simpa only [List.length_map, List.length_append, List.length_cons, List.length_nil] using rfl) ?_
             | refine And.intro (Eq.symm (List.length_map _)) ?_
             | refine And.intro (all_map (fun _ => rfl)) ?_
             | refine And.intro (cells_map (fun _ => rfl)) ?_
             | refine And.intro (rows_map (fun _ => rfl) (fun _ => rfl)) ?_
             | refine And.intro (okRows_one rfl rfl) ?_
             | refine And.intro (okRows_all rfl) ?_
             | refine boolF_t (beq_self_eq_true _) ?_
             | refine Exists.intro _ (And.intro (map_get (by assumption)) ?_)
             | refine Exists.intro _ (And.intro (Eq.refl (α := Option D) _) ?_)
             | refine Exists.intro _ (And.intro (⟨(List.length_map _).symm⟩) ?_)
             | refine Exists.intro _ (And.intro (⟨len_one⟩) ?_)
             | refine Exists.intro _ (And.intro (⟨len_two⟩) ?_)
             | refine Exists.intro _ (And.intro (⟨len_three⟩) ?_)
             | refine Exists.intro _ (And.intro (⟨len_four⟩) ?_)
             | refine Exists.intro _ (And.intro (⟨lenl_1⟩) ?_)
             | refine Exists.intro _ (And.intro (⟨lenl_2⟩) ?_)
             | refine Exists.intro _ (And.intro (⟨lenl_3⟩) ?_)
             | refine Exists.intro _ (And.intro (⟨lenl_4⟩) ?_)
             | refine Exists.intro _ (And.intro (⟨len_more⟩) ?_)
             | refine Exists.intro _ (And.intro (⟨map_slice⟩) ?_)
             | refine Exists.intro _ (And.intro (⟨List.map_take⟩) ?_)
             | refine Exists.intro _ (And.intro (⟨List.map_drop⟩) ?_)
             | refine Exists.intro _ (And.intro (⟨map_full'⟩) ?_)
             | refine Exists.intro _ (And.intro (⟨map_full⟩) ?_)
             | refine Exists.intro _ (And.intro (⟨map_snoc⟩) ?_)
             | refine Exists.intro _ (And.intro (⟨List.map_append⟩) ?_)
             | refine Exists.intro _ (And.intro (⟨Eq.refl (α := List D) _⟩) ?_)
             | refine Exists.intro _ (And.intro (⟨Eq.refl (α := Int) _⟩) (And.intro (by omega) ?_))
             | refine Exists.intro (0) (And.intro (⟨rfl⟩) (And.intro (Nat.zero_le _) ?_))
             | refine Exists.intro _ (And.intro (⟨nc1⟩) (And.intro (by omega) ?_))
             | refine Exists.intro _ (Exists.intro _ (And.intro (⟨Eq.refl (α := Int) _⟩) (And.intro (⟨Eq.refl (α := Int) _⟩) (And.intro (by omega) (And.intro (by omega) ?_)))))
             | refine Exists.intro _ (Exists.intro _ (And.intro (⟨Eq.refl (α := Nat) _⟩) (And.intro (⟨Eq.refl (α := Nat) _⟩) ?_)))
             | refine Exists.intro _ (And.intro (⟨Eq.refl (α := Nat) _⟩) ?_)
             | refine Exists.intro _ (And.intro (u32and (by omega) (by omega)) ?_)
             | refine Exists.intro _ (And.intro (u32or (by omega) (by omega)) ?_)
             | refine Exists.intro _ (And.intro (u32xor (by omega) (by omega)) ?_)
             | refine Exists.intro _ (And.intro (u8xor (by omega) (by omega)) ?_)
             | refine Exists.intro _ (And.intro (u64and (by omega) (by omega)) ?_)
             | refine Exists.intro _ (And.intro (u64or (by omega) (by omega)) ?_)
             | refine Exists.intro _ (And.intro (u64xor (by omega) (by omega)) ?_)
             | refine Exists.intro _ (And.intro (w64 (by omega) (by omega)) ?_)
             | refine Exists.intro _ (And.intro (u32add (by omega)) ?_)
             | refine Exists.intro _ (And.intro (u64add (by omega)) ?_)
             | refine Exists.intro _ (And.intro (u8w (by omega)) ?_)
             | refine Exists.intro _ (And.intro (u32w (by omega)) ?_)
             | refine Exists.intro _ (And.intro (u64w (by omega)) ?_)
             | refine Exists.intro _ (And.intro (u8m) ?_)
             | refine Exists.intro _ (And.intro (u64i (by omega) (by omega)) ?_)
             | refine Exists.intro _ (And.intro (min_int) ?_)
             | refine Exists.intro _ (And.intro (max_int) ?_)
             | refine Exists.intro _ (And.intro (imin) ?_)
             | refine Exists.intro _ (And.intro (imax) ?_)
             | refine Pure.call (f14_ok _ hm) ?_
             | refine Pure.locK (f14_ok _ hm) ?_
             | refine Pure.call (f37_ok _ _ hm.2.2) ?_
             | refine Pure.locK (f37_ok _ _ hm.2.2) ?_
             | refine boolF_not ?_
             | refine boolF_dect rfl ?_
             | refine boolF_dect (by assumption) ?_
             | refine boolF_decf (by assumption) ?_
             | refine boolF_dect (by omega) ?_
             | refine boolF_decf (by omega) ?_
             | refine boolF_beqt (by omega) ?_
             | refine boolF_beqf (by omega) ?_
             | refine boolF_bnet (by omega) ?_
             | refine boolF_bnef (by omega) ?_
             | refine boolF_nbeqt (by omega) ?_
             | refine boolF_nbeqf (by omega) ?_
             | refine boolF_nbnet (by omega) ?_
             | refine boolF_nbnef (by omega) ?_
             | refine boolF_t (by assumption) ?_
             | refine boolF_f (by assumption) ?_
             | refine boolF_dec (fun _ => ?_) (fun _ => ?_)
             | refine boolF_beq (fun _ => ?_) (fun _ => ?_)
             | refine boolF_bne (fun _ => ?_) (fun _ => ?_)
             | refine boolF_nbeq (fun _ => ?_) (fun _ => ?_)
             | refine boolF_nbne (fun _ => ?_) (fun _ => ?_)
             | refine boolF_leq (fun _ => ?_) (fun _ => ?_)
             | refine Both.mk ?_ ?_)
  all_goals (conv => whnf)
  refine Pure.call (f14_ok _ okm_alive) ?_
  rw [right_alive]
  repeat' (conv => whnf
           first
             | refine PairK.mk (by kernel_rfl) ?_
             | refine And.intro (by decide) ?_
             | refine And.intro rfl ?_
             | refine And.intro (List.cons_ne_nil _ _) ?_
             | refine And.intro (Nat.le_of_ble_eq_true rfl) ?_
             | refine And.intro (by omega) ?_
             | refine And.intro (by simp only [List.length_map, List.length_append, List.length_cons, List.length_nil]; omega) ?_
             | refine And.intro (by simpa only [List.length_map, List.length_append, List.length_cons, List.length_nil] using rfl) ?_
             | refine And.intro (Eq.symm (List.length_map _)) ?_
             | refine And.intro (all_map (fun _ => rfl)) ?_
             | refine And.intro (cells_map (fun _ => rfl)) ?_
             | refine And.intro (rows_map (fun _ => rfl) (fun _ => rfl)) ?_
             | refine And.intro (okRows_one rfl rfl) ?_
             | refine And.intro (okRows_all rfl) ?_
             | refine boolF_t (beq_self_eq_true _) ?_
             | refine Exists.intro _ (And.intro (map_get (by assumption)) ?_)
             | refine Exists.intro _ (And.intro (Eq.refl (α := Option D) _) ?_)
             | refine Exists.intro _ (And.intro (⟨(List.length_map _).symm⟩) ?_)
             | refine Exists.intro _ (And.intro (⟨len_one⟩) ?_)
             | refine Exists.intro _ (And.intro (⟨len_two⟩) ?_)
             | refine Exists.intro _ (And.intro (⟨len_three⟩) ?_)
             | refine Exists.intro _ (And.intro (⟨len_four⟩) ?_)
             | refine Exists.intro _ (And.intro (⟨lenl_1⟩) ?_)
             | refine Exists.intro _ (And.intro (⟨lenl_2⟩) ?_)
             | refine Exists.intro _ (And.intro (⟨lenl_3⟩) ?_)
             | refine Exists.intro _ (And.intro (⟨lenl_4⟩) ?_)
             | refine Exists.intro _ (And.intro (⟨len_more⟩) ?_)
             | refine Exists.intro _ (And.intro (⟨map_slice⟩) ?_)
             | refine Exists.intro _ (And.intro (⟨List.map_take⟩) ?_)
             | refine Exists.intro _ (And.intro (⟨List.map_drop⟩) ?_)
             | refine Exists.intro _ (And.intro (⟨map_full'⟩) ?_)
             | refine Exists.intro _ (And.intro (⟨map_full⟩) ?_)
             | refine Exists.intro _ (And.intro (⟨map_snoc⟩) ?_)
             | refine Exists.intro _ (And.intro (⟨List.map_append⟩) ?_)
             | refine Exists.intro _ (And.intro (⟨Eq.refl (α := List D) _⟩) ?_)
             | refine Exists.intro _ (And.intro (⟨Eq.refl (α := Int) _⟩) (And.intro (by omega) ?_))
             | refine Exists.intro (0) (And.intro (⟨rfl⟩) (And.intro (Nat.zero_le _) ?_))
             | refine Exists.intro _ (And.intro (⟨nc1⟩) (And.intro (by omega) ?_))
             | refine Exists.intro _ (Exists.intro _ (And.intro (⟨Eq.refl (α := Int) _⟩) (And.intro (⟨Eq.refl (α := Int) _⟩) (And.intro (by omega) (And.intro (by omega) ?_)))))
             | refine Exists.intro _ (Exists.intro _ (And.intro (⟨Eq.refl (α := Nat) _⟩) (And.intro (⟨Eq.refl (α := Nat) _⟩) ?_)))
             | refine Exists.intro _ (And.intro (⟨Eq.refl (α := Nat) _⟩) ?_)
             | refine Exists.intro _ (And.intro (u32and (by omega) (by omega)) ?_)
             | refine Exists.intro _ (And.intro (u32or (by omega) (by omega)) ?_)
             | refine Exists.intro _ (And.intro (u32xor (by omega) (by omega)) ?_)
             | refine Exists.intro _ (And.intro (u8xor (by omega) (by omega)) ?_)
             | refine Exists.intro _ (And.intro (u64and (by omega) (by omega)) ?_)
             | refine Exists.intro _ (And.intro (u64or (by omega) (by omega)) ?_)
             | refine Exists.intro _ (And.intro (u64xor (by omega) (by omega)) ?_)
             | refine Exists.intro _ (And.intro (w64 (by omega) (by omega)) ?_)
             | refine Exists.intro _ (And.intro (u32add (by omega)) ?_)
             | refine Exists.intro _ (And.intro (u64add (by omega)) ?_)
             | refine Exists.intro _ (And.intro (u8w (by omega)) ?_)
             | refine Exists.intro _ (And.intro (u32w (by omega)) ?_)
             | refine Exists.intro _ (And.intro (u64w (by omega)) ?_)
             | refine Exists.intro _ (And.intro (u8m) ?_)
             | refine Exists.intro _ (And.intro (u64i (by omega) (by omega)) ?_)
             | refine Exists.intro _ (And.intro (min_int) ?_)
             | refine Exists.intro _ (And.intro (max_int) ?_)
             | refine Exists.intro _ (And.intro (imin) ?_)
             | refine Exists.intro _ (And.intro (imax) ?_)
             | refine Pure.call (f14_ok _ hm) ?_
             | refine Pure.locK (f14_ok _ hm) ?_
             | refine Pure.call (f37_ok _ _ hm.2.2) ?_
             | refine Pure.locK (f37_ok _ _ hm.2.2) ?_
             | refine boolF_not ?_
             | refine boolF_dect rfl ?_
             | refine boolF_dect (by assumption) ?_
             | refine boolF_decf (by assumption) ?_
             | refine boolF_dect (by omega) ?_
             | refine boolF_decf (by omega) ?_
             | refine boolF_beqt (by omega) ?_
             | refine boolF_beqf (by omega) ?_
             | refine boolF_bnet (by omega) ?_
             | refine boolF_bnef (by omega) ?_
             | refine boolF_nbeqt (by omega) ?_
             | refine boolF_nbeqf (by omega) ?_
             | refine boolF_nbnet (by omega) ?_
             | refine boolF_nbnef (by omega) ?_
             | refine boolF_t (by assumption) ?_
             | refine boolF_f (by assumption) ?_
             | refine boolF_dec (fun _ => ?_) (fun _ => ?_)
             | refine boolF_beq (fun _ => ?_) (fun _ => ?_)
             | refine boolF_bne (fun _ => ?_) (fun _ => ?_)
             | refine boolF_nbeq (fun _ => ?_) (fun _ => ?_)
             | refine boolF_nbne (fun _ => ?_) (fun _ => ?_)
             | refine boolF_leq (fun _ => ?_) (fun _ => ?_)
             | refine Both.mk ?_ ?_)
  all_goals (conv => whnf)
  all_goals (first
    | exact ⟨rfl⟩
    | exact ⟨bool_t (by omega)⟩
    | exact ⟨bool_f (by omega)⟩
    | exact ⟨bool_iff (by omega)⟩
    | exact ⟨bool_beq (by omega)⟩
    | exact ⟨bool_bne (by omega)⟩
    | exact ⟨bool_not (by omega)⟩)

theorem piecesTo_ok {n : Int} {a : List Int} (h1 : 1 ≤ n) (h2 : n ≤ 1024) (ha : ok22 a) : ∀ {i : Nat}, i ≤ a.length → ∀ p ∈ piecesTo n a.length a i, ok59 p
  | 0, _, p, hp => by simp [piecesTo] at hp
  | i + 1, hi, p, hp => by
    obtain ⟨x, hx⟩ := at_lt (l := a) (i := i) (by omega)
    rw [piecesTo_succ hx] at hp
    rcases List.mem_append.mp hp with hp | hp
    · exact piecesTo_ok h1 h2 ha (by omega) p hp
    · simp only [List.mem_singleton] at hp
      subst hp
      obtain ⟨b1, b2, b3, b4, b5, b6⟩ := piece_bd (n := n) (k := a.length) h1 h2 (by omega)
      obtain ⟨c1, c2, c3, c4⟩ := b6 i (by omega)
      have hx3 := ha.1 x (List.mem_of_getElem? hx)
      have hb := b4
      simp only [ok3] at hx3
      have hm : 0 ≤ (a.length : Int) * n.tdiv a.length := Int.mul_nonneg (by omega) b1
      refine ⟨?_, ?_, hx3⟩
      · simp only [pieceAt, ok3]; omega
      · simp only [pieceAt, ok3]; omega

theorem newM_ok {n : Int} {a : List Int} (hn : ok3 n) (ha : ok22 a) : ok25 (newM n a).1 ∧ ok3 (newM n a).2 := by
  unfold newM
  split
  · exact ⟨⟨by simp [ok3], by simp [ok3], by simp [ok23]⟩, by simp [ok3]⟩
  · split
    · exact ⟨⟨by simp [ok3], by simp [ok3], by simp [ok23]⟩, by simp [ok3]⟩
    · refine ⟨⟨by simp [ok3], hn, ?_, ?_⟩, by simp [ok3]⟩
      · exact piecesTo_ok (by omega) (by omega) ha (Nat.le_refl _)
      · simp only [piecesTo_len (Nat.le_refl _), td59]; omega


theorem smapMakes_true (n : Int) (a : List Int) (m : T24) (h0 : ok3 n) (h1 : ok22 a) (h2 : ok25 m) : CallsIn Try.prog 3 [d3 n, d22 a, d25 m] [] fun r _ => r = .bool true := by
  have hk := newM_ok h0 h1
  refine CallsIn.of_exec tab_ok mixed Try.func3 rfl rfl [] [] ?_
  repeat' (conv => whnf
           first
             | refine PairK.mk (by kernel_rfl) ?_
             | refine And.intro (by decide) ?_
             | refine And.intro rfl ?_
             | refine And.intro (List.cons_ne_nil _ _) ?_
             | refine And.intro (Nat.le_of_ble_eq_true rfl) ?_
             | refine And.intro (by omega) ?_
             | refine And.intro (by simp only [List.length_map, List.length_append, List.length_cons, List.length_nil]; omega) ?_
             | refine And.intro (by simpa only [List.length_map, List.length_append, List.length_cons, List.length_nil] using rfl) ?_
             | refine And.intro (Eq.symm (List.length_map _)) ?_
             | refine And.intro (all_map (fun _ => rfl)) ?_
             | refine And.intro (cells_map (fun _ => rfl)) ?_
             | refine And.intro (rows_map (fun _ => rfl) (fun _ => rfl)) ?_
             | refine And.intro (okRows_one rfl rfl) ?_
             | refine And.intro (okRows_all rfl) ?_
             | refine boolF_t (beq_self_eq_true _) ?_
             | refine Exists.intro _ (And.intro (map_get (by assumption)) ?_)
             | refine Exists.intro _ (And.intro (Eq.refl (α := Option D) _) ?_)
             | refine Exists.intro _ (And.intro (⟨(List.length_map _).symm⟩) ?_)
             | refine Exists.intro _ (And.intro (⟨len_one⟩) ?_)
             | refine Exists.intro _ (And.intro (⟨len_two⟩) ?_)
             | refine Exists.intro _ (And.intro (⟨len_three⟩) ?_)
             | refine Exists.intro _ (And.intro (⟨len_four⟩) ?_)
             | refine Exists.intro _ (And.intro (⟨lenl_1⟩) ?_)
             | refine Exists.intro _ (And.intro (⟨lenl_2⟩) ?_)
             | refine Exists.intro _ (And.intro (⟨lenl_3⟩) ?_)
             | refine Exists.intro _ (And.intro (⟨lenl_4⟩) ?_)
             | refine Exists.intro _ (And.intro (⟨len_more⟩) ?_)
             | refine Exists.intro _ (And.intro (⟨map_slice⟩) ?_)
             | refine Exists.intro _ (And.intro (⟨List.map_take⟩) ?_)
             | refine Exists.intro _ (And.intro (⟨List.map_drop⟩) ?_)
             | refine Exists.intro _ (And.intro (⟨map_full'⟩) ?_)
             | refine Exists.intro _ (And.intro (⟨map_full⟩) ?_)
             | refine Exists.intro _ (And.intro (⟨map_snoc⟩) ?_)
             | refine Exists.intro _ (And.intro (⟨List.map_append⟩) ?_)
             | refine Exists.intro _ (And.intro (⟨Eq.refl (α := List D) _⟩) ?_)
             | refine Exists.intro _ (And.intro (⟨Eq.refl (α := Int) _⟩) (And.intro (by omega) ?_))
             | refine Exists.intro (0) (And.intro (⟨rfl⟩) (And.intro (Nat.zero_le _) ?_))
             | refine Exists.intro _ (And.intro (⟨nc1⟩) (And.intro (by omega) ?_))
             | refine Exists.intro _ (Exists.intro _ (And.intro (⟨Eq.refl (α := Int) _⟩) (And.intro (⟨Eq.refl (α := Int) _⟩) (And.intro (by omega) (And.intro (by omega) ?_)))))
             | refine Exists.intro _ (Exists.intro _ (And.intro (⟨Eq.refl (α := Nat) _⟩) (And.intro (⟨Eq.refl (α := Nat) _⟩) ?_)))
             | refine Exists.intro _ (And.intro (⟨Eq.refl (α := Nat) _⟩) ?_)
             | refine Exists.intro _ (And.intro (u32and (by omega) (by omega)) ?_)
             | refine Exists.intro _ (And.intro (u32or (by omega) (by omega)) ?_)
             | refine Exists.intro _ (And.intro (u32xor (by omega) (by omega)) ?_)
             | refine Exists.intro _ (And.intro (u8xor (by omega) (by omega)) ?_)
             | refine Exists.intro _ (And.intro (u64and (by omega) (by omega)) ?_)
             | refine Exists.intro _ (And.intro (u64or (by omega) (by omega)) ?_)
             | refine Exists.intro _ (And.intro (u64xor (by omega) (by omega)) ?_)
             | refine Exists.intro _ (And.intro (w64 (by omega) (by omega)) ?_)
             | refine Exists.intro _ (And.intro (u32add (by omega)) ?_)
             | refine Exists.intro _ (And.intro (u64add (by omega)) ?_)
             | refine Exists.intro _ (And.intro (u8w (by omega)) ?_)
             | refine Exists.intro _ (And.intro (u32w (by omega)) ?_)
             | refine Exists.intro _ (And.intro (u64w (by omega)) ?_)
             | refine Exists.intro _ (And.intro (u8m) ?_)
             | refine Exists.intro _ (And.intro (u64i (by omega) (by omega)) ?_)
             | refine Exists.intro _ (And.intro (min_int) ?_)
             | refine Exists.intro _ (And.intro (max_int) ?_)
             | refine Exists.intro _ (And.intro (imin) ?_)
             | refine Exists.intro _ (And.intro (imax) ?_)
             | refine Pure.call (f13_ok _) ?_
             | refine Pure.locK (f13_ok _) ?_
             | refine Pure.call (f15_ok _) ?_
             | refine Pure.locK (f15_ok _) ?_
             | refine Pure.call (f14_ok _ h2) ?_
             | refine Pure.locK (f14_ok _ h2) ?_
             | refine Pure.call (f16_ok _ h2) ?_
             | refine Pure.locK (f16_ok _ h2) ?_
             | refine Pure.call (f12_ok _ _ h2 hk.1) ?_
             | refine Pure.locK (f12_ok _ _ h2 hk.1) ?_
             | refine Pure.call (f12_ok _ _ hk.1 hk.1) ?_
             | refine Pure.locK (f12_ok _ _ hk.1 hk.1) ?_
             | refine Pure.call (f17_ok _ _ h2 hk.1) ?_
             | refine Pure.locK (f17_ok _ _ h2 hk.1) ?_
             | refine Pure.call (f17_ok _ _ h2 h2) ?_
             | refine Pure.locK (f17_ok _ _ h2 h2) ?_
             | refine Pure.call (f18_ok) ?_
             | refine Pure.locK (f18_ok) ?_
             | refine boolF_not ?_
             | refine boolF_dect rfl ?_
             | refine boolF_dect (by assumption) ?_
             | refine boolF_decf (by assumption) ?_
             | refine boolF_dect (by omega) ?_
             | refine boolF_decf (by omega) ?_
             | refine boolF_beqt (by omega) ?_
             | refine boolF_beqf (by omega) ?_
             | refine boolF_bnet (by omega) ?_
             | refine boolF_bnef (by omega) ?_
             | refine boolF_nbeqt (by omega) ?_
             | refine boolF_nbeqf (by omega) ?_
             | refine boolF_nbnet (by omega) ?_
             | refine boolF_nbnef (by omega) ?_
             | refine boolF_t (by assumption) ?_
             | refine boolF_f (by assumption) ?_
             | refine boolF_dec (fun _ => ?_) (fun _ => ?_)
             | refine boolF_beq (fun _ => ?_) (fun _ => ?_)
             | refine boolF_bne (fun _ => ?_) (fun _ => ?_)
             | refine boolF_nbeq (fun _ => ?_) (fun _ => ?_)
             | refine boolF_nbne (fun _ => ?_) (fun _ => ?_)
             | refine boolF_leq (fun _ => ?_) (fun _ => ?_)
             | refine Both.mk ?_ ?_)
  all_goals (conv => whnf)
  refine Pure.call (f10_ok n a h0 h1) ?_
  repeat' (conv => whnf
           first
             | refine PairK.mk (by kernel_rfl) ?_
             | refine And.intro (by decide) ?_
             | refine And.intro rfl ?_
             | refine And.intro (List.cons_ne_nil _ _) ?_
             | refine And.intro (Nat.le_of_ble_eq_true rfl) ?_
             | refine And.intro (by omega) ?_
             | refine And.intro (by simp only [List.length_map, List.length_append, List.length_cons, List.length_nil]; omega) ?_
             | refine And.intro (by simpa only [List.length_map, List.length_append, List.length_cons, List.length_nil] using rfl) ?_
             | refine And.intro (Eq.symm (List.length_map _)) ?_
             | refine And.intro (all_map (fun _ => rfl)) ?_
             | refine And.intro (cells_map (fun _ => rfl)) ?_
             | refine And.intro (rows_map (fun _ => rfl) (fun _ => rfl)) ?_
             | refine And.intro (okRows_one rfl rfl) ?_
             | refine And.intro (okRows_all rfl) ?_
             | refine boolF_t (beq_self_eq_true _) ?_
             | refine Exists.intro _ (And.intro (map_get (by assumption)) ?_)
             | refine Exists.intro _ (And.intro (Eq.refl (α := Option D) _) ?_)
             | refine Exists.intro _ (And.intro (⟨(List.length_map _).symm⟩) ?_)
             | refine Exists.intro _ (And.intro (⟨len_one⟩) ?_)
             | refine Exists.intro _ (And.intro (⟨len_two⟩) ?_)
             | refine Exists.intro _ (And.intro (⟨len_three⟩) ?_)
             | refine Exists.intro _ (And.intro (⟨len_four⟩) ?_)
             | refine Exists.intro _ (And.intro (⟨lenl_1⟩) ?_)
             | refine Exists.intro _ (And.intro (⟨lenl_2⟩) ?_)
             | refine Exists.intro _ (And.intro (⟨lenl_3⟩) ?_)
             | refine Exists.intro _ (And.intro (⟨lenl_4⟩) ?_)
             | refine Exists.intro _ (And.intro (⟨len_more⟩) ?_)
             | refine Exists.intro _ (And.intro (⟨map_slice⟩) ?_)
             | refine Exists.intro _ (And.intro (⟨List.map_take⟩) ?_)
             | refine Exists.intro _ (And.intro (⟨List.map_drop⟩) ?_)
             | refine Exists.intro _ (And.intro (⟨map_full'⟩) ?_)
             | refine Exists.intro _ (And.intro (⟨map_full⟩) ?_)
             | refine Exists.intro _ (And.intro (⟨map_snoc⟩) ?_)
             | refine Exists.intro _ (And.intro (⟨List.map_append⟩) ?_)
             | refine Exists.intro _ (And.intro (⟨Eq.refl (α := List D) _⟩) ?_)
             | refine Exists.intro _ (And.intro (⟨Eq.refl (α := Int) _⟩) (And.intro (by omega) ?_))
             | refine Exists.intro (0) (And.intro (⟨rfl⟩) (And.intro (Nat.zero_le _) ?_))
             | refine Exists.intro _ (And.intro (⟨nc1⟩) (And.intro (by omega) ?_))
             | refine Exists.intro _ (Exists.intro _ (And.intro (⟨Eq.refl (α := Int) _⟩) (And.intro (⟨Eq.refl (α := Int) _⟩) (And.intro (by omega) (And.intro (by omega) ?_)))))
             | refine Exists.intro _ (Exists.intro _ (And.intro (⟨Eq.refl (α := Nat) _⟩) (And.intro (⟨Eq.refl (α := Nat) _⟩) ?_)))
             | refine Exists.intro _ (And.intro (⟨Eq.refl (α := Nat) _⟩) ?_)
             | refine Exists.intro _ (And.intro (u32and (by omega) (by omega)) ?_)
             | refine Exists.intro _ (And.intro (u32or (by omega) (by omega)) ?_)
             | refine Exists.intro _ (And.intro (u32xor (by omega) (by omega)) ?_)
             | refine Exists.intro _ (And.intro (u8xor (by omega) (by omega)) ?_)
             | refine Exists.intro _ (And.intro (u64and (by omega) (by omega)) ?_)
             | refine Exists.intro _ (And.intro (u64or (by omega) (by omega)) ?_)
             | refine Exists.intro _ (And.intro (u64xor (by omega) (by omega)) ?_)
             | refine Exists.intro _ (And.intro (w64 (by omega) (by omega)) ?_)
             | refine Exists.intro _ (And.intro (u32add (by omega)) ?_)
             | refine Exists.intro _ (And.intro (u64add (by omega)) ?_)
             | refine Exists.intro _ (And.intro (u8w (by omega)) ?_)
             | refine Exists.intro _ (And.intro (u32w (by omega)) ?_)
             | refine Exists.intro _ (And.intro (u64w (by omega)) ?_)
             | refine Exists.intro _ (And.intro (u8m) ?_)
             | refine Exists.intro _ (And.intro (u64i (by omega) (by omega)) ?_)
             | refine Exists.intro _ (And.intro (min_int) ?_)
             | refine Exists.intro _ (And.intro (max_int) ?_)
             | refine Exists.intro _ (And.intro (imin) ?_)
             | refine Exists.intro _ (And.intro (imax) ?_)
             | refine Pure.call (f13_ok _) ?_
             | refine Pure.locK (f13_ok _) ?_
             | refine Pure.call (f15_ok _) ?_
             | refine Pure.locK (f15_ok _) ?_
             | refine Pure.call (f14_ok _ h2) ?_
             | refine Pure.locK (f14_ok _ h2) ?_
             | refine Pure.call (f16_ok _ h2) ?_
             | refine Pure.locK (f16_ok _ h2) ?_
             | refine Pure.call (f12_ok _ _ h2 hk.1) ?_
             | refine Pure.locK (f12_ok _ _ h2 hk.1) ?_
             | refine Pure.call (f12_ok _ _ hk.1 hk.1) ?_
             | refine Pure.locK (f12_ok _ _ hk.1 hk.1) ?_
             | refine Pure.call (f17_ok _ _ h2 hk.1) ?_
             | refine Pure.locK (f17_ok _ _ h2 hk.1) ?_
             | refine Pure.call (f17_ok _ _ h2 h2) ?_
             | refine Pure.locK (f17_ok _ _ h2 h2) ?_
             | refine Pure.call (f18_ok) ?_
             | refine Pure.locK (f18_ok) ?_
             | refine boolF_not ?_
             | refine boolF_dect rfl ?_
             | refine boolF_dect (by assumption) ?_
             | refine boolF_decf (by assumption) ?_
             | refine boolF_dect (by omega) ?_
             | refine boolF_decf (by omega) ?_
             | refine boolF_beqt (by omega) ?_
             | refine boolF_beqf (by omega) ?_
             | refine boolF_bnet (by omega) ?_
             | refine boolF_bnef (by omega) ?_
             | refine boolF_nbeqt (by omega) ?_
             | refine boolF_nbeqf (by omega) ?_
             | refine boolF_nbnet (by omega) ?_
             | refine boolF_nbnef (by omega) ?_
             | refine boolF_t (by assumption) ?_
             | refine boolF_f (by assumption) ?_
             | refine boolF_dec (fun _ => ?_) (fun _ => ?_)
             | refine boolF_beq (fun _ => ?_) (fun _ => ?_)
             | refine boolF_bne (fun _ => ?_) (fun _ => ?_)
             | refine boolF_nbeq (fun _ => ?_) (fun _ => ?_)
             | refine boolF_nbne (fun _ => ?_) (fun _ => ?_)
             | refine boolF_leq (fun _ => ?_) (fun _ => ?_)
             | refine Both.mk ?_ ?_)
  all_goals (conv => whnf)
  refine Pure.call (f11_ok n a h0 h1) ?_
  repeat' (conv => whnf
           first
             | refine PairK.mk (by kernel_rfl) ?_
             | refine And.intro (by decide) ?_
             | refine And.intro rfl ?_
             | refine And.intro (List.cons_ne_nil _ _) ?_
             | refine And.intro (Nat.le_of_ble_eq_true rfl) ?_
             | refine And.intro (by omega) ?_
             | refine And.intro (by simp only [List.length_map, List.length_append, List.length_cons, List.length_nil]; omega) ?_
             | refine And.intro (by simpa only [List.length_map, List.length_append, List.length_cons, List.length_nil] using rfl) ?_
             | refine And.intro (Eq.symm (List.length_map _)) ?_
             | refine And.intro (all_map (fun _ => rfl)) ?_
             | refine And.intro (cells_map (fun _ => rfl)) ?_
             | refine And.intro (rows_map (fun _ => rfl) (fun _ => rfl)) ?_
             | refine And.intro (okRows_one rfl rfl) ?_
             | refine And.intro (okRows_all rfl) ?_
             | refine boolF_t (beq_self_eq_true _) ?_
             | refine Exists.intro _ (And.intro (map_get (by assumption)) ?_)
             | refine Exists.intro _ (And.intro (Eq.refl (α := Option D) _) ?_)
             | refine Exists.intro _ (And.intro (⟨(List.length_map _).symm⟩) ?_)
             | refine Exists.intro _ (And.intro (⟨len_one⟩) ?_)
             | refine Exists.intro _ (And.intro (⟨len_two⟩) ?_)
             | refine Exists.intro _ (And.intro (⟨len_three⟩) ?_)
             | refine Exists.intro _ (And.intro (⟨len_four⟩) ?_)
             | refine Exists.intro _ (And.intro (⟨lenl_1⟩) ?_)
             | refine Exists.intro _ (And.intro (⟨lenl_2⟩) ?_)
             | refine Exists.intro _ (And.intro (⟨lenl_3⟩) ?_)
             | refine Exists.intro _ (And.intro (⟨lenl_4⟩) ?_)
             | refine Exists.intro _ (And.intro (⟨len_more⟩) ?_)
             | refine Exists.intro _ (And.intro (⟨map_slice⟩) ?_)
             | refine Exists.intro _ (And.intro (⟨List.map_take⟩) ?_)
             | refine Exists.intro _ (And.intro (⟨List.map_drop⟩) ?_)
             | refine Exists.intro _ (And.intro (⟨map_full'⟩) ?_)
             | refine Exists.intro _ (And.intro (⟨map_full⟩) ?_)
             | refine Exists.intro _ (And.intro (⟨map_snoc⟩) ?_)
             | refine Exists.intro _ (And.intro (⟨List.map_append⟩) ?_)
             | refine Exists.intro _ (And.intro (⟨Eq.refl (α := List D) _⟩) ?_)
             | refine Exists.intro _ (And.intro (⟨Eq.refl (α := Int) _⟩) (And.intro (by omega) ?_))
             | refine Exists.intro (0) (And.intro (⟨rfl⟩) (And.intro (Nat.zero_le _) ?_))
             | refine Exists.intro _ (And.intro (⟨nc1⟩) (And.intro (by omega) ?_))
             | refine Exists.intro _ (Exists.intro _ (And.intro (⟨Eq.refl (α := Int) _⟩) (And.intro (⟨Eq.refl (α := Int) _⟩) (And.intro (by omega) (And.intro (by omega) ?_)))))
             | refine Exists.intro _ (Exists.intro _ (And.intro (⟨Eq.refl (α := Nat) _⟩) (And.intro (⟨Eq.refl (α := Nat) _⟩) ?_)))
             | refine Exists.intro _ (And.intro (⟨Eq.refl (α := Nat) _⟩) ?_)
             | refine Exists.intro _ (And.intro (u32and (by omega) (by omega)) ?_)
             | refine Exists.intro _ (And.intro (u32or (by omega) (by omega)) ?_)
             | refine Exists.intro _ (And.intro (u32xor (by omega) (by omega)) ?_)
             | refine Exists.intro _ (And.intro (u8xor (by omega) (by omega)) ?_)
             | refine Exists.intro _ (And.intro (u64and (by omega) (by omega)) ?_)
             | refine Exists.intro _ (And.intro (u64or (by omega) (by omega)) ?_)
             | refine Exists.intro _ (And.intro (u64xor (by omega) (by omega)) ?_)
             | refine Exists.intro _ (And.intro (w64 (by omega) (by omega)) ?_)
             | refine Exists.intro _ (And.intro (u32add (by omega)) ?_)
             | refine Exists.intro _ (And.intro (u64add (by omega)) ?_)
             | refine Exists.intro _ (And.intro (u8w (by omega)) ?_)
             | refine Exists.intro _ (And.intro (u32w (by omega)) ?_)
             | refine Exists.intro _ (And.intro (u64w (by omega)) ?_)
             | refine Exists.intro _ (And.intro (u8m) ?_)
             | refine Exists.intro _ (And.intro (u64i (by omega) (by omega)) ?_)
             | refine Exists.intro _ (And.intro (min_int) ?_)
             | refine Exists.intro _ (And.intro (max_int) ?_)
             | refine Exists.intro _ (And.intro (imin) ?_)
             | refine Exists.intro _ (And.intro (imax) ?_)
             | refine Pure.call (f13_ok _) ?_
             | refine Pure.locK (f13_ok _) ?_
             | refine Pure.call (f15_ok _) ?_
             | refine Pure.locK (f15_ok _) ?_
             | refine Pure.call (f14_ok _ h2) ?_
             | refine Pure.locK (f14_ok _ h2) ?_
             | refine Pure.call (f16_ok _ h2) ?_
             | refine Pure.locK (f16_ok _ h2) ?_
             | refine Pure.call (f12_ok _ _ h2 hk.1) ?_
             | refine Pure.locK (f12_ok _ _ h2 hk.1) ?_
             | refine Pure.call (f12_ok _ _ hk.1 hk.1) ?_
             | refine Pure.locK (f12_ok _ _ hk.1 hk.1) ?_
             | refine Pure.call (f17_ok _ _ h2 hk.1) ?_
             | refine Pure.locK (f17_ok _ _ h2 hk.1) ?_
             | refine Pure.call (f17_ok _ _ h2 h2) ?_
             | refine Pure.locK (f17_ok _ _ h2 h2) ?_
             | refine Pure.call (f18_ok) ?_
             | refine Pure.locK (f18_ok) ?_
             | refine boolF_not ?_
             | refine boolF_dect rfl ?_
             | refine boolF_dect (by assumption) ?_
             | refine boolF_decf (by assumption) ?_
             | refine boolF_dect (by omega) ?_
             | refine boolF_decf (by omega) ?_
             | refine boolF_beqt (by omega) ?_
             | refine boolF_beqf (by omega) ?_
             | refine boolF_bnet (by omega) ?_
             | refine boolF_bnef (by omega) ?_
             | refine boolF_nbeqt (by omega) ?_
             | refine boolF_nbeqf (by omega) ?_
             | refine boolF_nbnet (by omega) ?_
             | refine boolF_nbnef (by omega) ?_
             | refine boolF_t (by assumption) ?_
             | refine boolF_f (by assumption) ?_
             | refine boolF_dec (fun _ => ?_) (fun _ => ?_)
             | refine boolF_beq (fun _ => ?_) (fun _ => ?_)
             | refine boolF_bne (fun _ => ?_) (fun _ => ?_)
             | refine boolF_nbeq (fun _ => ?_) (fun _ => ?_)
             | refine boolF_nbne (fun _ => ?_) (fun _ => ?_)
             | refine boolF_leq (fun _ => ?_) (fun _ => ?_)
             | refine Both.mk ?_ ?_)
  all_goals (conv => whnf)
  all_goals (first
    | exact ⟨rfl⟩
    | exact ⟨bool_t (by omega)⟩
    | exact ⟨bool_f (by omega)⟩
    | exact ⟨bool_iff (by omega)⟩
    | exact ⟨bool_beq (by omega)⟩
    | exact ⟨bool_bne (by omega)⟩
    | exact ⟨bool_not (by omega)⟩)

end Go.Proofs.Ytgcllbcpdcfkmaa

