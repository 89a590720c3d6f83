import Derived.Test.YtgcllbcpdcfkmaaM14
namespace Go.Proofs.Ytgcllbcpdcfkmaa
open Go.A
set_option linter.unusedVariables false
set_option linter.unusedSimpArgs false
set_option linter.unnecessarySimpa false
attribute [local irreducible] IntKind.wrap bitsI
set_option maxRecDepth 100000
set_option maxHeartbeats 4000000


theorem smapNodes_true (m : T24) (b c : Int) (h0 : ok25 m) (h1 : ok3 b) (h2 : ok3 c) : CallsIn Try.prog 8 [d25 m, d3 b, d3 c] [] fun r _ => r = .bool true := by
  have k1 := splitM_ok h0 h1
  have k2 := mergeM_ok h0 h1
  have k3 := moveM_ok h0 h1 h2
  have o1 := split_one m b
  have o2 := merge_one m b
  have o3 := move_one m b c
  have n1 : (splitM m b).2 = 0 → ∀ j : Int, 0 ≤ j → nodeL j (splitM m b).1.pieces_ = nodeL j m.pieces_ := fun h j hj => split_node h hj
  have n2 : (mergeM m b).2 = 0 → ∀ j : Int, 0 ≤ j → nodeL j (mergeM m b).1.pieces_ = nodeL j m.pieces_ := fun h j hj => merge_node h hj
  have n3 := fun h => move_node (m := m) (b := b) (c := c) h
  refine CallsIn.of_exec tab_ok mixed Try.func8 rfl rfl [] [] ?_
  by_cases hr : rightP m
  · repeat' (conv => whnf
             first
               | refine PairK.mk (by kernel_rfl) ?_
               | refine And.intro (by decide) ?_
               | refine And.intro rfl ?_
               | refine And.intro (List.cons_ne_nil _ _) ?_
               | refine And.intro (Nat.le_of_ble_eq_true rfl) ?_
               | refine And.intro (by omega) ?_
               | refine And.intro (by simp only [List.length_map, List.length_append, List.length_cons, List.length_nil]; omega) ?_
               | refine And.intro (by simpa only [List.length_map, List.length_append, List.length_cons, List.length_nil] using rfl) ?_
               | refine And.intro (Eq.symm (List.length_map _)) ?_
               | refine And.intro (all_map (fun _ => rfl)) ?_
               | refine And.intro (cells_map (fun _ => rfl)) ?_
               | refine And.intro (rows_map (fun _ => rfl) (fun _ => rfl)) ?_
               | refine And.intro (okRows_one rfl rfl) ?_
               | refine And.intro (okRows_all rfl) ?_
               | refine boolF_t (beq_self_eq_true _) ?_
               | refine Exists.intro _ (And.intro (map_get (by assumption)) ?_)
               | refine Exists.intro _ (And.intro (Eq.refl (α := Option D) _) ?_)
               | refine Exists.intro _ (And.intro (⟨(List.length_map _).symm⟩) ?_)
               | refine Exists.intro _ (And.intro (⟨len_one⟩) ?_)
               | refine Exists.intro _ (And.intro (⟨len_two⟩) ?_)
               | refine Exists.intro _ (And.intro (⟨len_three⟩) ?_)
               | refine Exists.intro _ (And.intro (⟨len_four⟩) ?_)
               | refine Exists.intro _ (And.intro (⟨lenl_1⟩) ?_)
               | refine Exists.intro _ (And.intro (⟨lenl_2⟩) ?_)
               | refine Exists.intro _ (And.intro (⟨lenl_3⟩) ?_)
               | refine Exists.intro _ (And.intro (⟨lenl_4⟩) ?_)
               | refine Exists.intro _ (And.intro (⟨len_more⟩) ?_)
               | refine Exists.intro _ (And.intro (⟨map_slice⟩) ?_)
               | refine Exists.intro _ (And.intro (⟨List.map_take⟩) ?_)
               | refine Exists.intro _ (And.intro (⟨List.map_drop⟩) ?_)
               | refine Exists.intro _ (And.intro (⟨map_full'⟩) ?_)
               | refine Exists.intro _ (And.intro (⟨map_full⟩) ?_)
               | refine Exists.intro _ (And.intro (⟨map_snoc⟩) ?_)
               | refine Exists.intro _ (And.intro (⟨List.map_append⟩) ?_)
               | refine Exists.intro _ (And.intro (⟨Eq.refl (α := List D) _⟩) ?_)
               | refine Exists.intro _ (And.intro (⟨Eq.refl (α := Int) _⟩) (And.intro (by omega) ?_))
               | refine Exists.intro (0) (And.intro (⟨rfl⟩) (And.intro (Nat.zero_le _) ?_))
               | refine Exists.intro _ (And.intro (⟨nc1⟩) (And.intro (by omega) ?_))
               | refine Exists.intro _ (Exists.intro _ (And.intro (⟨Eq.refl (α := Int) _⟩) (And.intro (⟨Eq.refl (α := Int) _⟩) (And.intro (by omega) (And.intro (by omega) ?_)))))
               | refine Exists.intro _ (Exists.intro _ (And.intro (⟨Eq.refl (α := Nat) _⟩) (And.intro (⟨Eq.refl (α := Nat) _⟩) ?_)))
               | refine Exists.intro _ (And.intro (⟨Eq.refl (α := Nat) _⟩) ?_)
               | refine Exists.intro _ (And.intro (u32and (by omega) (by omega)) ?_)
               | refine Exists.intro _ (And.intro (u32or (by omega) (by omega)) ?_)
               | refine Exists.intro _ (And.intro (u32xor (by omega) (by omega)) ?_)
               | refine Exists.intro _ (And.intro (u8xor (by omega) (by omega)) ?_)
               | refine Exists.intro _ (And.intro (u64and (by omega) (by omega)) ?_)
               | refine Exists.intro _ (And.intro (u64or (by omega) (by omega)) ?_)
               | refine Exists.intro _ (And.intro (u64xor (by omega) (by omega)) ?_)
               | refine Exists.intro _ (And.intro (w64 (by omega) (by omega)) ?_)
               | refine Exists.intro _ (And.intro (u32add (by omega)) ?_)
               | refine Exists.intro _ (And.intro (u64add (by omega)) ?_)
               | refine Exists.intro _ (And.intro (u8w (by omega)) ?_)
               | refine Exists.intro _ (And.intro (u32w (by omega)) ?_)
               | refine Exists.intro _ (And.intro (u64w (by omega)) ?_)
               | refine Exists.intro _ (And.intro (u8m) ?_)
               | refine Exists.intro _ (And.intro (u64i (by omega) (by omega)) ?_)
               | refine Exists.intro _ (And.intro (min_int) ?_)
               | refine Exists.intro _ (And.intro (max_int) ?_)
               | refine Exists.intro _ (And.intro (imin) ?_)
               | refine Exists.intro _ (And.intro (imax) ?_)
               | refine Pure.call (f13_ok _) ?_
               | refine Pure.locK (f13_ok _) ?_
               | refine Pure.call (f15_ok _) ?_
               | refine Pure.locK (f15_ok _) ?_
               | refine Pure.call (f16_ok _ h0) ?_
               | refine Pure.locK (f16_ok _ h0) ?_
               | refine Pure.call (f22_ok _ _ h0 h1) ?_
               | refine Pure.locK (f22_ok _ _ h0 h1) ?_
               | refine Pure.call (f23_ok _ _ h0 h1) ?_
               | refine Pure.locK (f23_ok _ _ h0 h1) ?_
               | refine Pure.call (f28_ok _ _ _ h0 h1) ?_
               | refine Pure.locK (f28_ok _ _ _ h0 h1) ?_
               | refine Pure.call (f18_ok) ?_
               | refine Pure.locK (f18_ok) ?_
               | refine boolF_not ?_
               | refine boolF_dect rfl ?_
               | refine boolF_dect (by assumption) ?_
               | refine boolF_decf (by assumption) ?_
               | refine boolF_dect (by omega) ?_
               | refine boolF_decf (by omega) ?_
               | refine boolF_beqt (by omega) ?_
               | refine boolF_beqf (by omega) ?_
               | refine boolF_bnet (by omega) ?_
               | refine boolF_bnef (by omega) ?_
               | refine boolF_nbeqt (by omega) ?_
               | refine boolF_nbeqf (by omega) ?_
               | refine boolF_nbnet (by omega) ?_
               | refine boolF_nbnef (by omega) ?_
               | refine boolF_t (by assumption) ?_
               | refine boolF_f (by assumption) ?_
               | refine boolF_dec (fun _ => ?_) (fun _ => ?_)
               | refine boolF_beq (fun _ => ?_) (fun _ => ?_)
               | refine boolF_bne (fun _ => ?_) (fun _ => ?_)
               | refine boolF_nbeq (fun _ => ?_) (fun _ => ?_)
               | refine boolF_nbne (fun _ => ?_) (fun _ => ?_)
               | refine boolF_leq (fun _ => ?_) (fun _ => ?_)
               | refine Both.mk ?_ ?_)
    all_goals (conv => whnf)
    obtain ⟨A, hA⟩ : ∃ A, A = splitM m b := ⟨_, rfl⟩
    obtain ⟨B, hB⟩ : ∃ B, B = mergeM m b := ⟨_, rfl⟩
    obtain ⟨C, hC⟩ : ∃ C, C = moveM m b c := ⟨_, rfl⟩
    rw [← hA] at k1 o1 n1 ⊢
    rw [← hB] at k2 o2 n2 ⊢
    rw [← hC] at k3 o3 n3 ⊢
    have hn1 := hr.2.2.1
    have hn2 := hr.2.2.2.1
    refine W_loopG (ι := Nat) (fun i => ⟨(D.undef :: d3 b :: d3 c :: .pe (c25 m) :: D.undef :: D.undef :: D.undef :: .p 0 0 0 0 :: d3 A.2 :: .p 1 0 0 0 :: d3 B.2 :: .p 2 0 0 0 :: d3 C.2 :: D.undef :: D.undef :: D.undef :: D.undef :: D.undef :: D.undef :: D.undef :: D.undef :: D.undef :: D.undef :: D.undef :: D.undef :: D.undef :: D.undef :: D.undef :: D.undef :: D.undef :: D.undef :: D.undef :: D.undef :: D.undef :: D.undef :: D.undef :: D.undef :: D.undef :: D.undef :: D.undef :: D.undef :: D.undef :: D.undef :: D.undef :: D.undef :: d3 m.n_ :: .int .i64 (i:Int) :: D.undef :: D.undef :: D.undef :: D.undef :: D.undef :: D.undef :: D.undef :: D.undef :: D.undef :: D.undef :: D.undef :: D.undef :: D.undef :: D.undef :: D.undef :: D.undef :: D.undef :: D.undef :: D.undef :: D.undef :: D.undef :: D.undef :: D.undef :: D.undef :: D.undef :: D.undef :: D.undef :: D.undef :: D.undef :: D.undef :: D.undef :: D.undef :: D.undef :: D.undef :: D.undef :: D.undef :: D.undef :: D.undef :: D.undef :: D.undef :: D.undef :: D.undef :: D.undef :: D.undef :: D.undef :: D.undef :: D.undef :: D.undef :: D.undef :: D.undef :: D.undef :: D.undef :: D.undef :: D.undef :: D.undef :: D.undef :: D.undef :: D.undef :: D.undef :: D.undef :: D.undef :: D.undef :: D.undef :: D.undef :: D.undef :: D.undef :: D.undef :: D.undef :: D.undef :: D.undef :: D.undef :: D.undef :: D.undef :: D.undef :: D.undef :: D.undef :: []), [.arr 0 3 [d25 A.1], .arr 0 3 [d25 B.1], .arr 0 3 [d25 C.1]]⟩) (fun i => (m.n_ - i).toNat)
      (fun i => (i : Int) ≤ m.n_) 0 (Ghost.hold [1, 2, 3, 7, 8, 9, 10, 11, 12, 45, 46] rfl) (by show ((0 : Nat) : Int) ≤ m.n_; omega) ?_
    intro i hi
    refine exec_ok tab_ok mixed 1000 (bx := [true, true, true]) (own := []) ?_
    by_cases h : (i : Int) < m.n_
    · have g0 := f30_ok m i h0 hr (by omega) h
      have g1 : A.2 = 0 → Pure Try.prog 30 [d25 A.1, d3 (i : Int)] (d3 (nodeL i m.pieces_)) := fun e => by
        obtain ⟨q1, q2, q3⟩ := o1.1 e
        have := f30_ok A.1 i k1.1 q1 (by omega) (by omega)
        rw [n1 e _ (by omega)] at this; exact this
      have g2 : B.2 = 0 → Pure Try.prog 30 [d25 B.1, d3 (i : Int)] (d3 (nodeL i m.pieces_)) := fun e => by
        obtain ⟨q1, q2, q3⟩ := o2.1 e
        have := f30_ok B.1 i k2.1 q1 (by omega) (by omega)
        rw [n2 e _ (by omega)] at this; exact this
      have hfin : ∀ j : Nat, j = i + 1 → (j : Int) ≤ m.n_ ∧ (m.n_ - (j : Int)).toNat < (m.n_ - (i : Int)).toNat := fun j hj => by omega
      by_cases hC0 : C.2 = 0
      · obtain ⟨q1, q2, q3, k, x, e1, hx, hnode⟩ := n3 hC0
        have g3 : Pure Try.prog 30 [d25 C.1, d3 (i : Int)] (d3 (if x.from_ ≤ (i : Int) ∧ (i : Int) < x.to_ then c else nodeL i m.pieces_)) := by
          obtain ⟨p1, p2, p3⟩ := o3.1 hC0
          have := f30_ok C.1 i k3.1 p1 (by omega) (by omega)
          rw [hnode _ (by omega)] at this; exact this
        have h25 := f25_ok m b h0 h1
        rw [e1] at h25
        dsimp only at h25
        by_cases hin : x.from_ ≤ (i : Int) ∧ (i : Int) < x.to_
        · rw [if_pos hin] at g3
          repeat' (conv => whnf
                   first
                     | refine PairK.mk (by kernel_rfl) ?_
                     | refine And.intro (by decide) ?_
                     | refine And.intro rfl ?_
                     | refine And.intro (List.cons_ne_nil _ _) ?_
                     | refine And.intro (Nat.le_of_ble_eq_true rfl) ?_
                     | refine And.intro (by omega) ?_
                     | refine And.intro (by simp only [List.length_map, List.length_append, List.length_cons, List.length_nil]; omega) ?_
                     | refine And.intro (by simpa only [List.length_map, List.length_append, List.length_cons, List.length_nil] using rfl) ?_
                     | refine And.intro (Eq.symm (List.length_map _)) ?_
                     | refine And.intro (all_map (fun _ => rfl)) ?_
                     | refine And.intro (cells_map (fun _ => rfl)) ?_
                     | refine And.intro (rows_map (fun _ => rfl) (fun _ => rfl)) ?_
                     | refine And.intro (okRows_one rfl rfl) ?_
                     | refine And.intro (okRows_all rfl) ?_
                     | refine boolF_t (beq_self_eq_true _) ?_
                     | refine Exists.intro _ (And.intro (map_get (by assumption)) ?_)
                     | refine Exists.intro _ (And.intro (Eq.refl (α := Option D) _) ?_)
                     | refine Exists.intro _ (And.intro (⟨(List.length_map _).symm⟩) ?_)
                     | refine Exists.intro _ (And.intro (⟨len_one⟩) ?_)
                     | refine Exists.intro _ (And.intro (⟨len_two⟩) ?_)
                     | refine Exists.intro _ (And.intro (⟨len_three⟩) ?_)
                     | refine Exists.intro _ (And.intro (⟨len_four⟩) ?_)
                     | refine Exists.intro _ (And.intro (⟨lenl_1⟩) ?_)
                     | refine Exists.intro _ (And.intro (⟨lenl_2⟩) ?_)
                     | refine Exists.intro _ (And.intro (⟨lenl_3⟩) ?_)
                     | refine Exists.intro _ (And.intro (⟨lenl_4⟩) ?_)
                     | refine Exists.intro _ (And.intro (⟨len_more⟩) ?_)
                     | refine Exists.intro _ (And.intro (⟨map_slice⟩) ?_)
                     | refine Exists.intro _ (And.intro (⟨List.map_take⟩) ?_)
                     | refine Exists.intro _ (And.intro (⟨List.map_drop⟩) ?_)
                     | refine Exists.intro _ (And.intro (⟨map_full'⟩) ?_)
                     | refine Exists.intro _ (And.intro (⟨map_full⟩) ?_)
                     | refine Exists.intro _ (And.intro (⟨map_snoc⟩) ?_)
                     | refine Exists.intro _ (And.intro (⟨List.map_append⟩) ?_)
                     | refine Exists.intro _ (And.intro (⟨Eq.refl (α := List D) _⟩) ?_)
                     | refine Exists.intro _ (And.intro (⟨Eq.refl (α := Int) _⟩) (And.intro (by omega) ?_))
                     | refine Exists.intro (0) (And.intro (⟨rfl⟩) (And.intro (Nat.zero_le _) ?_))
                     | refine Exists.intro _ (And.intro (⟨nc1⟩) (And.intro (by omega) ?_))
                     | refine Exists.intro _ (Exists.intro _ (And.intro (⟨Eq.refl (α := Int) _⟩) (And.intro (⟨Eq.refl (α := Int) _⟩) (And.intro (by omega) (And.intro (by omega) ?_)))))
                     | refine Exists.intro _ (Exists.intro _ (And.intro (⟨Eq.refl (α := Nat) _⟩) (And.intro (⟨Eq.refl (α := Nat) _⟩) ?_)))
                     | refine Exists.intro _ (And.intro (⟨Eq.refl (α := Nat) _⟩) ?_)
                     | refine Exists.intro _ (And.intro (u32and (by omega) (by omega)) ?_)
                     | refine Exists.intro _ (And.intro (u32or (by omega) (by omega)) ?_)
                     | refine Exists.intro _ (And.intro (u32xor (by omega) (by omega)) ?_)
                     | refine Exists.intro _ (And.intro (u8xor (by omega) (by omega)) ?_)
                     | refine Exists.intro _ (And.intro (u64and (by omega) (by omega)) ?_)
                     | refine Exists.intro _ (And.intro (u64or (by omega) (by omega)) ?_)
                     | refine Exists.intro _ (And.intro (u64xor (by omega) (by omega)) ?_)
                     | refine Exists.intro _ (And.intro (w64 (by omega) (by omega)) ?_)
                     | refine Exists.intro _ (And.intro (u32add (by omega)) ?_)
                     | refine Exists.intro _ (And.intro (u64add (by omega)) ?_)
                     | refine Exists.intro _ (And.intro (u8w (by omega)) ?_)
                     | refine Exists.intro _ (And.intro (u32w (by omega)) ?_)
                     | refine Exists.intro _ (And.intro (u64w (by omega)) ?_)
                     | refine Exists.intro _ (And.intro (u8m) ?_)
                     | refine Exists.intro _ (And.intro (u64i (by omega) (by omega)) ?_)
                     | refine Exists.intro _ (And.intro (min_int) ?_)
                     | refine Exists.intro _ (And.intro (max_int) ?_)
                     | refine Exists.intro _ (And.intro (imin) ?_)
                     | refine Exists.intro _ (And.intro (imax) ?_)
                     | refine Pure.call (g0) ?_
                     | refine Pure.locK (g0) ?_
                     | refine Pure.call (g1 (by assumption)) ?_
                     | refine Pure.locK (g1 (by assumption)) ?_
                     | refine Pure.call (g2 (by assumption)) ?_
                     | refine Pure.locK (g2 (by assumption)) ?_
                     | refine Pure.call (f13_ok _) ?_
                     | refine Pure.locK (f13_ok _) ?_
                     | refine Pure.call (h25) ?_
                     | refine Pure.locK (h25) ?_
                     | refine Pure.call (g3) ?_
                     | refine Pure.locK (g3) ?_
                     | refine boolF_not ?_
                     | refine boolF_dect rfl ?_
                     | refine boolF_dect (by assumption) ?_
                     | refine boolF_decf (by assumption) ?_
                     | refine boolF_dect (by omega) ?_
                     | refine boolF_decf (by omega) ?_
                     | refine boolF_beqt (by omega) ?_
                     | refine boolF_beqf (by omega) ?_
                     | refine boolF_bnet (by omega) ?_
                     | refine boolF_bnef (by omega) ?_
                     | refine boolF_nbeqt (by omega) ?_
                     | refine boolF_nbeqf (by omega) ?_
                     | refine boolF_nbnet (by omega) ?_
                     | refine boolF_nbnef (by omega) ?_
                     | refine boolF_t (by assumption) ?_
                     | refine boolF_f (by assumption) ?_
                     | refine boolF_dec (fun _ => ?_) (fun _ => ?_)
                     | refine boolF_beq (fun _ => ?_) (fun _ => ?_)
                     | refine boolF_bne (fun _ => ?_) (fun _ => ?_)
                     | refine boolF_nbeq (fun _ => ?_) (fun _ => ?_)
                     | refine boolF_nbne (fun _ => ?_) (fun _ => ?_)
                     | refine boolF_leq (fun _ => ?_) (fun _ => ?_)
                     | refine Both.mk ?_ ?_)
          all_goals (conv => whnf)
          all_goals exact ⟨i + 1, Ghost.hold [1, 2, 3, 7, 8, 9, 10, 11, 12, 45, 46] rfl, (hfin _ rfl).1, (hfin _ rfl).2⟩
        · rw [if_neg hin] at g3
          repeat' (conv => whnf
                   first
                     | refine PairK.mk (by kernel_rfl) ?_
                     | refine And.intro (by decide) ?_
                     | refine And.intro rfl ?_
                     | refine And.intro (List.cons_ne_nil _ _) ?_
                     | refine And.intro (Nat.le_of_ble_eq_true rfl) ?_
                     | refine And.intro (by omega) ?_
                     | refine And.intro (by simp only [List.length_map, List.length_append, List.length_cons, List.length_nil]; omega) ?_
                     | refine And.intro (by simpa only [List.length_map, List.length_append, List.length_cons, List.length_nil] using rfl) ?_
                     | refine And.intro (Eq.symm (List.length_map _)) ?_
                     | refine And.intro (all_map (fun _ => rfl)) ?_
                     | refine And.intro (cells_map (fun _ => rfl)) ?_
                     | refine And.intro (rows_map (fun _ => rfl) (fun _ => rfl)) ?_
                     | refine And.intro (okRows_one rfl rfl) ?_
                     | refine And.intro (okRows_all rfl) ?_
                     | refine boolF_t (beq_self_eq_true _) ?_
                     | refine Exists.intro _ (And.intro (map_get (by assumption)) ?_)
                     | refine Exists.intro _ (And.intro (Eq.refl (α := Option D) _) ?_)
                     | refine Exists.intro _ (And.intro (⟨(List.length_map _).symm⟩) ?_)
                     | refine Exists.intro _ (And.intro (⟨len_one⟩) ?_)
                     | refine Exists.intro _ (And.intro (⟨len_two⟩) ?_)
                     | refine Exists.intro _ (And.intro (⟨len_three⟩) ?_)
                     | refine Exists.intro _ (And.intro (⟨len_four⟩) ?_)
                     | refine Exists.intro _ (And.intro (⟨lenl_1⟩) ?_)
                     | refine Exists.intro _ (And.intro (⟨lenl_2⟩) ?_)
                     | refine Exists.intro _ (And.intro (⟨lenl_3⟩) ?_)
                     | refine Exists.intro _ (And.intro (⟨lenl_4⟩) ?_)
                     | refine Exists.intro _ (And.intro (⟨len_more⟩) ?_)
                     | refine Exists.intro _ (And.intro (⟨map_slice⟩) ?_)
                     | refine Exists.intro _ (And.intro (⟨List.map_take⟩) ?_)
                     | refine Exists.intro _ (And.intro (⟨List.map_drop⟩) ?_)
                     | refine Exists.intro _ (And.intro (⟨map_full'⟩) ?_)
                     | refine Exists.intro _ (And.intro (⟨map_full⟩) ?_)
                     | refine Exists.intro _ (And.intro (⟨map_snoc⟩) ?_)
                     | refine Exists.intro _ (And.intro (⟨List.map_append⟩) ?_)
                     | refine Exists.intro _ (And.intro (⟨Eq.refl (α := List D) _⟩) ?_)
                     | refine Exists.intro _ (And.intro (⟨Eq.refl (α := Int) _⟩) (And.intro (by omega) ?_))
                     | refine Exists.intro (0) (And.intro (⟨rfl⟩) (And.intro (Nat.zero_le _) ?_))
                     | refine Exists.intro _ (And.intro (⟨nc1⟩) (And.intro (by omega) ?_))
                     | refine Exists.intro _ (Exists.intro _ (And.intro (⟨Eq.refl (α := Int) _⟩) (And.intro (⟨Eq.refl (α := Int) _⟩) (And.intro (by omega) (And.intro (by omega) ?_)))))
                     | refine Exists.intro _ (Exists.intro _ (And.intro (⟨Eq.refl (α := Nat) _⟩) (And.intro (⟨Eq.refl (α := Nat) _⟩) ?_)))
                     | refine Exists.intro _ (And.intro (⟨Eq.refl (α := Nat) _⟩) ?_)
                     | refine Exists.intro _ (And.intro (u32and (by omega) (by omega)) ?_)
                     | refine Exists.intro _ (And.intro (u32or (by omega) (by omega)) ?_)
                     | refine Exists.intro _ (And.intro (u32xor (by omega) (by omega)) ?_)
                     | refine Exists.intro _ (And.intro (u8xor (by omega) (by omega)) ?_)
                     | refine Exists.intro _ (And.intro (u64and (by omega) (by omega)) ?_)
                     | refine Exists.intro _ (And.intro (u64or (by omega) (by omega)) ?_)
                     | refine Exists.intro _ (And.intro (u64xor (by omega) (by omega)) ?_)
                     | refine Exists.intro _ (And.intro (w64 (by omega) (by omega)) ?_)
                     | refine Exists.intro _ (And.intro (u32add (by omega)) ?_)
                     | refine Exists.intro _ (And.intro (u64add (by omega)) ?_)
                     | refine Exists.intro _ (And.intro (u8w (by omega)) ?_)
                     | refine Exists.intro _ (And.intro (u32w (by omega)) ?_)
                     | refine Exists.intro _ (And.intro (u64w (by omega)) ?_)
                     | refine Exists.intro _ (And.intro (u8m) ?_)
                     | refine Exists.intro _ (And.intro (u64i (by omega) (by omega)) ?_)
                     | refine Exists.intro _ (And.intro (min_int) ?_)
                     | refine Exists.intro _ (And.intro (max_int) ?_)
                     | refine Exists.intro _ (And.intro (imin) ?_)
                     | refine Exists.intro _ (And.intro (imax) ?_)
                     | refine Pure.call (g0) ?_
                     | refine Pure.locK (g0) ?_
                     | refine Pure.call (g1 (by assumption)) ?_
                     | refine Pure.locK (g1 (by assumption)) ?_
                     | refine Pure.call (g2 (by assumption)) ?_
                     | refine Pure.locK (g2 (by assumption)) ?_
                     | refine Pure.call (f13_ok _) ?_
                     | refine Pure.locK (f13_ok _) ?_
                     | refine Pure.call (h25) ?_
                     | refine Pure.locK (h25) ?_
                     | refine Pure.call (g3) ?_
                     | refine Pure.locK (g3) ?_
                     | refine boolF_not ?_
                     | refine boolF_dect rfl ?_
                     | refine boolF_dect (by assumption) ?_
                     | refine boolF_decf (by assumption) ?_
                     | refine boolF_dect (by omega) ?_
                     | refine boolF_decf (by omega) ?_
                     | refine boolF_beqt (by omega) ?_
                     | refine boolF_beqf (by omega) ?_
                     | refine boolF_bnet (by omega) ?_
                     | refine boolF_bnef (by omega) ?_
                     | refine boolF_nbeqt (by omega) ?_
                     | refine boolF_nbeqf (by omega) ?_
                     | refine boolF_nbnet (by omega) ?_
                     | refine boolF_nbnef (by omega) ?_
                     | refine boolF_t (by assumption) ?_
                     | refine boolF_f (by assumption) ?_
                     | refine boolF_dec (fun _ => ?_) (fun _ => ?_)
                     | refine boolF_beq (fun _ => ?_) (fun _ => ?_)
                     | refine boolF_bne (fun _ => ?_) (fun _ => ?_)
                     | refine boolF_nbeq (fun _ => ?_) (fun _ => ?_)
                     | refine boolF_nbne (fun _ => ?_) (fun _ => ?_)
                     | refine boolF_leq (fun _ => ?_) (fun _ => ?_)
                     | refine Both.mk ?_ ?_)
          all_goals (conv => whnf)
          all_goals exact ⟨i + 1, Ghost.hold [1, 2, 3, 7, 8, 9, 10, 11, 12, 45, 46] rfl, (hfin _ rfl).1, (hfin _ rfl).2⟩
      · repeat' (conv => whnf
                 first
                   | refine PairK.mk (by kernel_rfl) ?_
                   | refine And.intro (by decide) ?_
                   | refine And.intro rfl ?_
                   | refine And.intro (List.cons_ne_nil _ _) ?_
                   | refine And.intro (Nat.le_of_ble_eq_true rfl) ?_
                   | refine And.intro (by omega) ?_
                   | refine And.intro (by simp only [List.length_map, List.length_append, List.length_cons, List.length_nil]; omega) ?_
                   | refine And.intro (by simpa only [List.length_map, List.length_append, List.length_cons, List.length_nil] using rfl) ?_
                   | refine And.intro (Eq.symm (List.length_map _)) ?_
                   | refine And.intro (all_map (fun _ => rfl)) ?_
                   | refine And.intro (cells_map (fun _ => rfl)) ?_
                   | refine And.intro (rows_map (fun _ => rfl) (fun _ => rfl)) ?_
                   | refine And.intro (okRows_one rfl rfl) ?_
                   | refine And.intro (okRows_all rfl) ?_
                   | refine boolF_t (beq_self_eq_true _) ?_
                   | refine Exists.intro _ (And.intro (map_get (by assumption)) ?_)
                   | refine Exists.intro _ (And.intro (Eq.refl (α := Option D) _) ?_)
                   | refine Exists.intro _ (And.intro (⟨(List.length_map _).symm⟩) ?_)
                   | refine Exists.intro _ (And.intro (⟨len_one⟩) ?_)
                   | refine Exists.intro _ (And.intro (⟨len_two⟩) ?_)
                   | refine Exists.intro _ (And.intro (⟨len_three⟩) ?_)
                   | refine Exists.intro _ (And.intro (⟨len_four⟩) ?_)
                   | refine Exists.intro _ (And.intro (⟨lenl_1⟩) ?_)
                   | refine Exists.intro _ (And.intro (⟨lenl_2⟩) ?_)
                   | refine Exists.intro _ (And.intro (⟨lenl_3⟩) ?_)
                   | refine Exists.intro _ (And.intro (⟨lenl_4⟩) ?_)
                   | refine Exists.intro _ (And.intro (⟨len_more⟩) ?_)
                   | refine Exists.intro _ (And.intro (⟨map_slice⟩) ?_)
                   | refine Exists.intro _ (And.intro (⟨List.map_take⟩) ?_)
                   | refine Exists.intro _ (And.intro (⟨List.map_drop⟩) ?_)
                   | refine Exists.intro _ (And.intro (⟨map_full'⟩) ?_)
                   | refine Exists.intro _ (And.intro (⟨map_full⟩) ?_)
                   | refine Exists.intro _ (And.intro (⟨map_snoc⟩) ?_)
                   | refine Exists.intro _ (And.intro (⟨List.map_append⟩) ?_)
                   | refine Exists.intro _ (And.intro (⟨Eq.refl (α := List D) _⟩) ?_)
                   | refine Exists.intro _ (And.intro (⟨Eq.refl (α := Int) _⟩) (And.intro (by omega) ?_))
                   | refine Exists.intro (0) (And.intro (⟨rfl⟩) (And.intro (Nat.zero_le _) ?_))
                   | refine Exists.intro _ (And.intro (⟨nc1⟩) (And.intro (by omega) ?_))
                   | refine Exists.intro _ (Exists.intro _ (And.intro (⟨Eq.refl (α := Int) _⟩) (And.intro (⟨Eq.refl (α := Int) _⟩) (And.intro (by omega) (And.intro (by omega) ?_)))))
                   | refine Exists.intro _ (Exists.intro _ (And.intro (⟨Eq.refl (α := Nat) _⟩) (And.intro (⟨Eq.refl (α := Nat) _⟩) ?_)))
                   | refine Exists.intro _ (And.intro (⟨Eq.refl (α := Nat) _⟩) ?_)
                   | refine Exists.intro _ (And.intro (u32and (by omega) (by omega)) ?_)
                   | refine Exists.intro _ (And.intro (u32or (by omega) (by omega)) ?_)
                   | refine Exists.intro _ (And.intro (u32xor (by omega) (by omega)) ?_)
                   | refine Exists.intro _ (And.intro (u8xor (by omega) (by omega)) ?_)
                   | refine Exists.intro _ (And.intro (u64and (by omega) (by omega)) ?_)
                   | refine Exists.intro _ (And.intro (u64or (by omega) (by omega)) ?_)
                   | refine Exists.intro _ (And.intro (u64xor (by omega) (by omega)) ?_)
                   | refine Exists.intro _ (And.intro (w64 (by omega) (by omega)) ?_)
                   | refine Exists.intro _ (And.intro (u32add (by omega)) ?_)
                   | refine Exists.intro _ (And.intro (u64add (by omega)) ?_)
                   | refine Exists.intro _ (And.intro (u8w (by omega)) ?_)
                   | refine Exists.intro _ (And.intro (u32w (by omega)) ?_)
                   | refine Exists.intro _ (And.intro (u64w (by omega)) ?_)
                   | refine Exists.intro _ (And.intro (u8m) ?_)
                   | refine Exists.intro _ (And.intro (u64i (by omega) (by omega)) ?_)
                   | refine Exists.intro _ (And.intro (min_int) ?_)
                   | refine Exists.intro _ (And.intro (max_int) ?_)
                   | refine Exists.intro _ (And.intro (imin) ?_)
                   | refine Exists.intro _ (And.intro (imax) ?_)
                   | refine Pure.call (g0) ?_
                   | refine Pure.locK (g0) ?_
                   | refine Pure.call (g1 (by assumption)) ?_
                   | refine Pure.locK (g1 (by assumption)) ?_
                   | refine Pure.call (g2 (by assumption)) ?_
                   | refine Pure.locK (g2 (by assumption)) ?_
                   | refine Pure.call (f13_ok _) ?_
                   | refine Pure.locK (f13_ok _) ?_
                   | refine Pure.call (h25) ?_
                   | refine Pure.locK (h25) ?_
                   | refine Pure.call (g3) ?_
                   | refine Pure.locK (g3) ?_
                   | refine boolF_not ?_
                   | refine boolF_dect rfl ?_
                   | refine boolF_dect (by assumption) ?_
                   | refine boolF_decf (by assumption) ?_
                   | refine boolF_dect (by omega) ?_
                   | refine boolF_decf (by omega) ?_
                   | refine boolF_beqt (by omega) ?_
                   | refine boolF_beqf (by omega) ?_
                   | refine boolF_bnet (by omega) ?_
                   | refine boolF_bnef (by omega) ?_
                   | refine boolF_nbeqt (by omega) ?_
                   | refine boolF_nbeqf (by omega) ?_
                   | refine boolF_nbnet (by omega) ?_
                   | refine boolF_nbnef (by omega) ?_
                   | refine boolF_t (by assumption) ?_
                   | refine boolF_f (by assumption) ?_
                   | refine boolF_dec (fun _ => ?_) (fun _ => ?_)
                   | refine boolF_beq (fun _ => ?_) (fun _ => ?_)
                   | refine boolF_bne (fun _ => ?_) (fun _ => ?_)
                   | refine boolF_nbeq (fun _ => ?_) (fun _ => ?_)
                   | refine boolF_nbne (fun _ => ?_) (fun _ => ?_)
                   | refine boolF_leq (fun _ => ?_) (fun _ => ?_)
                   | refine Both.mk ?_ ?_)
        all_goals (conv => whnf)
        all_goals exact ⟨i + 1, Ghost.hold [1, 2, 3, 7, 8, 9, 10, 11, 12, 45, 46] rfl, (hfin _ rfl).1, (hfin _ rfl).2⟩
    · repeat' (conv => whnf
               first
                 | refine PairK.mk (by kernel_rfl) ?_
                 | refine And.intro (by decide) ?_
                 | refine And.intro rfl ?_
                 | refine And.intro (List.cons_ne_nil _ _) ?_
                 | refine And.intro (Nat.le_of_ble_eq_true rfl) ?_
                 | refine And.intro (by omega) ?_
                 | refine And.intro (by simp only [List.length_map, List.length_append, List.length_cons, List.length_nil]; omega) ?_
                 | refine And.intro (by simpa only [List.length_map, List.length_append, List.length_cons, List.length_nil] using rfl) ?_
                 | refine And.intro (Eq.symm (List.length_map _)) ?_
                 | refine And.intro (all_map (fun _ => rfl)) ?_
                 | refine And.intro (cells_map (fun _ => rfl)) ?_
                 | refine And.intro (rows_map (fun _ => rfl) (fun _ => rfl)) ?_
                 | refine And.intro (okRows_one rfl rfl) ?_
                 | refine And.intro (okRows_all rfl) ?_
                 | refine boolF_t (beq_self_eq_true _) ?_
                 | refine Exists.intro _ (And.intro (map_get (by assumption)) ?_)
                 | refine Exists.intro _ (And.intro (Eq.refl (α := Option D) _) ?_)
                 | refine Exists.intro _ (And.intro (⟨(List.length_map _).symm⟩) ?_)
                 | refine Exists.intro _ (And.intro (⟨len_one⟩) ?_)
                 | refine Exists.intro _ (And.intro (⟨len_two⟩) ?_)
                 | refine Exists.intro _ (And.intro (⟨len_three⟩) ?_)
                 | refine Exists.intro _ (And.intro (⟨len_four⟩) ?_)
                 | refine Exists.intro _ (And.intro (⟨lenl_1⟩) ?_)
                 | refine Exists.intro _ (And.intro (⟨lenl_2⟩) ?_)
                 | refine Exists.intro _ (And.intro (⟨lenl_3⟩) ?_)
                 | refine Exists.intro _ (And.intro (⟨lenl_4⟩) ?_)
                 | refine Exists.intro _ (And.intro (⟨len_more⟩) ?_)
                 | refine Exists.intro _ (And.intro (⟨map_slice⟩) ?_)
                 | refine Exists.intro _ (And.intro (⟨List.map_take⟩) ?_)
                 | refine Exists.intro _ (And.intro (⟨List.map_drop⟩) ?_)
                 | refine Exists.intro _ (And.intro (⟨map_full'⟩) ?_)
                 | refine Exists.intro _ (And.intro (⟨map_full⟩) ?_)
                 | refine Exists.intro _ (And.intro (⟨map_snoc⟩) ?_)
                 | refine Exists.intro _ (And.intro (⟨List.map_append⟩) ?_)
                 | refine Exists.intro _ (And.intro (⟨Eq.refl (α := List D) _⟩) ?_)
                 | refine Exists.intro _ (And.intro (⟨Eq.refl (α := Int) _⟩) (And.intro (by omega) ?_))
                 | refine Exists.intro (0) (And.intro (⟨rfl⟩) (And.intro (Nat.zero_le _) ?_))
                 | refine Exists.intro _ (And.intro (⟨nc1⟩) (And.intro (by omega) ?_))
                 | refine Exists.intro _ (Exists.intro _ (And.intro (⟨Eq.refl (α := Int) _⟩) (And.intro (⟨Eq.refl (α := Int) _⟩) (And.intro (by omega) (And.intro (by omega) ?_)))))
                 | refine Exists.intro _ (Exists.intro _ (And.intro (⟨Eq.refl (α := Nat) _⟩) (And.intro (⟨Eq.refl (α := Nat) _⟩) ?_)))
                 | refine Exists.intro _ (And.intro (⟨Eq.refl (α := Nat) _⟩) ?_)
                 | refine Exists.intro _ (And.intro (u32and (by omega) (by omega)) ?_)
                 | refine Exists.intro _ (And.intro (u32or (by omega) (by omega)) ?_)
                 | refine Exists.intro _ (And.intro (u32xor (by omega) (by omega)) ?_)
                 | refine Exists.intro _ (And.intro (u8xor (by omega) (by omega)) ?_)
                 | refine Exists.intro _ (And.intro (u64and (by omega) (by omega)) ?_)
                 | refine Exists.intro _ (And.intro (u64or (by omega) (by omega)) ?_)
                 | refine Exists.intro _ (And.intro (u64xor (by omega) (by omega)) ?_)
                 | refine Exists.intro _ (And.intro (w64 (by omega) (by omega)) ?_)
                 | refine Exists.intro _ (And.intro (u32add (by omega)) ?_)
                 | refine Exists.intro _ (And.intro (u64add (by omega)) ?_)
                 | refine Exists.intro _ (And.intro (u8w (by omega)) ?_)
                 | refine Exists.intro _ (And.intro (u32w (by omega)) ?_)
                 | refine Exists.intro _ (And.intro (u64w (by omega)) ?_)
                 | refine Exists.intro _ (And.intro (u8m) ?_)
                 | refine Exists.intro _ (And.intro (u64i (by omega) (by omega)) ?_)
                 | refine Exists.intro _ (And.intro (min_int) ?_)
                 | refine Exists.intro _ (And.intro (max_int) ?_)
                 | refine Exists.intro _ (And.intro (imin) ?_)
                 | refine Exists.intro _ (And.intro (imax) ?_)
                 | refine Pure.call (g0) ?_
                 | refine Pure.locK (g0) ?_
                 | refine Pure.call (g1 (by assumption)) ?_
                 | refine Pure.locK (g1 (by assumption)) ?_
                 | refine Pure.call (g2 (by assumption)) ?_
                 | refine Pure.locK (g2 (by assumption)) ?_
                 | refine Pure.call (f13_ok _) ?_
                 | refine Pure.locK (f13_ok _) ?_
                 | refine Pure.call (h25) ?_
                 | refine Pure.locK (h25) ?_
                 | refine Pure.call (g3) ?_
                 | refine Pure.locK (g3) ?_
                 | refine boolF_not ?_
                 | refine boolF_dect rfl ?_
                 | refine boolF_dect (by assumption) ?_
                 | refine boolF_decf (by assumption) ?_
                 | refine boolF_dect (by omega) ?_
                 | refine boolF_decf (by omega) ?_
                 | refine boolF_beqt (by omega) ?_
                 | refine boolF_beqf (by omega) ?_
                 | refine boolF_bnet (by omega) ?_
                 | refine boolF_bnef (by omega) ?_
                 | refine boolF_nbeqt (by omega) ?_
                 | refine boolF_nbeqf (by omega) ?_
                 | refine boolF_nbnet (by omega) ?_
                 | refine boolF_nbnef (by omega) ?_
                 | refine boolF_t (by assumption) ?_
                 | refine boolF_f (by assumption) ?_
                 | refine boolF_dec (fun _ => ?_) (fun _ => ?_)
                 | refine boolF_beq (fun _ => ?_) (fun _ => ?_)
                 | refine boolF_bne (fun _ => ?_) (fun _ => ?_)
                 | refine boolF_nbeq (fun _ => ?_) (fun _ => ?_)
                 | refine boolF_nbne (fun _ => ?_) (fun _ => ?_)
                 | refine boolF_leq (fun _ => ?_) (fun _ => ?_)
                 | refine Both.mk ?_ ?_)
      all_goals (conv => whnf)
      refine Pure.call f18_ok ?_
      repeat' (conv => whnf
               first
                 | refine PairK.mk (by kernel_rfl) ?_
                 | refine And.intro (by decide) ?_
                 | refine And.intro rfl ?_
                 | refine And.intro (List.cons_ne_nil _ _) ?_
                 | refine And.intro (Nat.le_of_ble_eq_true rfl) ?_
                 | refine And.intro (by omega) ?_
                 | refine And.intro (by simp only [List.length_map, List.length_append, List.length_cons, List.length_nil]; omega) ?_
                 | refine And.intro (by simpa only [List.length_map, List.length_append, List.length_cons, List.length_nil] using rfl) ?_
                 | refine And.intro (Eq.symm (List.length_map _)) ?_
                 | refine And.intro (all_map (fun _ => rfl)) ?_
                 | refine And.intro (cells_map (fun _ => rfl)) ?_
                 | refine And.intro (rows_map (fun _ => rfl) (fun _ => rfl)) ?_
                 | refine And.intro (okRows_one rfl rfl) ?_
                 | refine And.intro (okRows_all rfl) ?_
                 | refine boolF_t (beq_self_eq_true _) ?_
                 | refine Exists.intro _ (And.intro (map_get (by assumption)) ?_)
                 | refine Exists.intro _ (And.intro (Eq.refl (α := Option D) _) ?_)
                 | refine Exists.intro _ (And.intro (⟨(List.length_map _).symm⟩) ?_)
                 | refine Exists.intro _ (And.intro (⟨len_one⟩) ?_)
                 | refine Exists.intro _ (And.intro (⟨len_two⟩) ?_)
                 | refine Exists.intro _ (And.intro (⟨len_three⟩) ?_)
                 | refine Exists.intro _ (And.intro (⟨len_four⟩) ?_)
                 | refine Exists.intro _ (And.intro (⟨lenl_1⟩) ?_)
                 | refine Exists.intro _ (And.intro (⟨lenl_2⟩) ?_)
                 | refine Exists.intro _ (And.intro (⟨lenl_3⟩) ?_)
                 | refine Exists.intro _ (And.intro (⟨lenl_4⟩) ?_)
                 | refine Exists.intro _ (And.intro (⟨len_more⟩) ?_)
                 | refine Exists.intro _ (And.intro (⟨map_slice⟩) ?_)
                 | refine Exists.intro _ (And.intro (⟨List.map_take⟩) ?_)
                 | refine Exists.intro _ (And.intro (⟨List.map_drop⟩) ?_)
                 | refine Exists.intro _ (And.intro (⟨map_full'⟩) ?_)
                 | refine Exists.intro _ (And.intro (⟨map_full⟩) ?_)
                 | refine Exists.intro _ (And.intro (⟨map_snoc⟩) ?_)
                 | refine Exists.intro _ (And.intro (⟨List.map_append⟩) ?_)
                 | refine Exists.intro _ (And.intro (⟨Eq.refl (α := List D) _⟩) ?_)
                 | refine Exists.intro _ (And.intro (⟨Eq.refl (α := Int) _⟩) (And.intro (by omega) ?_))
                 | refine Exists.intro (0) (And.intro (⟨rfl⟩) (And.intro (Nat.zero_le _) ?_))
                 | refine Exists.intro _ (And.intro (⟨nc1⟩) (And.intro (by omega) ?_))
                 | refine Exists.intro _ (Exists.intro _ (And.intro (⟨Eq.refl (α := Int) _⟩) (And.intro (⟨Eq.refl (α := Int) _⟩) (And.intro (by omega) (And.intro (by omega) ?_)))))
                 | refine Exists.intro _ (Exists.intro _ (And.intro (⟨Eq.refl (α := Nat) _⟩) (And.intro (⟨Eq.refl (α := Nat) _⟩) ?_)))
                 | refine Exists.intro _ (And.intro (⟨Eq.refl (α := Nat) _⟩) ?_)
                 | refine Exists.intro _ (And.intro (u32and (by omega) (by omega)) ?_)
                 | refine Exists.intro _ (And.intro (u32or (by omega) (by omega)) ?_)
                 | refine Exists.intro _ (And.intro (u32xor (by omega) (by omega)) ?_)
                 | refine Exists.intro _ (And.intro (u8xor (by omega) (by omega)) ?_)
                 | refine Exists.intro _ (And.intro (u64and (by omega) (by omega)) ?_)
                 | refine Exists.intro _ (And.intro (u64or (by omega) (by omega)) ?_)
                 | refine Exists.intro _ (And.intro (u64xor (by omega) (by omega)) ?_)
                 | refine Exists.intro _ (And.intro (w64 (by omega) (by omega)) ?_)
                 | refine Exists.intro _ (And.intro (u32add (by omega)) ?_)
                 | refine Exists.intro _ (And.intro (u64add (by omega)) ?_)
                 | refine Exists.intro _ (And.intro (u8w (by omega)) ?_)
                 | refine Exists.intro _ (And.intro (u32w (by omega)) ?_)
                 | refine Exists.intro _ (And.intro (u64w (by omega)) ?_)
                 | refine Exists.intro _ (And.intro (u8m) ?_)
                 | refine Exists.intro _ (And.intro (u64i (by omega) (by omega)) ?_)
                 | refine Exists.intro _ (And.intro (min_int) ?_)
                 | refine Exists.intro _ (And.intro (max_int) ?_)
                 | refine Exists.intro _ (And.intro (imin) ?_)
                 | refine Exists.intro _ (And.intro (imax) ?_)
                 | refine Pure.call (g0) ?_
                 | refine Pure.locK (g0) ?_
                 | refine Pure.call (g1 (by assumption)) ?_
                 | refine Pure.locK (g1 (by assumption)) ?_
                 | refine Pure.call (g2 (by assumption)) ?_
                 | refine Pure.locK (g2 (by assumption)) ?_
                 | refine Pure.call (f13_ok _) ?_
                 | refine Pure.locK (f13_ok _) ?_
                 | refine Pure.call (h25) ?_
                 | refine Pure.locK (h25) ?_
                 | refine Pure.call (g3) ?_
                 | refine Pure.locK (g3) ?_
                 | refine boolF_not ?_
                 | refine boolF_dect rfl ?_
                 | refine boolF_dect (by assumption) ?_
                 | refine boolF_decf (by assumption) ?_
                 | refine boolF_dect (by omega) ?_
                 | refine boolF_decf (by omega) ?_
                 | refine boolF_beqt (by omega) ?_
                 | refine boolF_beqf (by omega) ?_
                 | refine boolF_bnet (by omega) ?_
                 | refine boolF_bnef (by omega) ?_
                 | refine boolF_nbeqt (by omega) ?_
                 | refine boolF_nbeqf (by omega) ?_
                 | refine boolF_nbnet (by omega) ?_
                 | refine boolF_nbnef (by omega) ?_
                 | refine boolF_t (by assumption) ?_
                 | refine boolF_f (by assumption) ?_
                 | refine boolF_dec (fun _ => ?_) (fun _ => ?_)
                 | refine boolF_beq (fun _ => ?_) (fun _ => ?_)
                 | refine boolF_bne (fun _ => ?_) (fun _ => ?_)
                 | refine boolF_nbeq (fun _ => ?_) (fun _ => ?_)
                 | refine boolF_nbne (fun _ => ?_) (fun _ => ?_)
                 | refine boolF_leq (fun _ => ?_) (fun _ => ?_)
                 | refine Both.mk ?_ ?_)
      all_goals (conv => whnf)
      exact ⟨rfl⟩
  · skip
    repeat' (conv => whnf
             first
               | refine PairK.mk (by kernel_rfl) ?_
               | refine And.intro (by decide) ?_
               | refine And.intro rfl ?_
               | refine And.intro (List.cons_ne_nil _ _) ?_
               | refine And.intro (Nat.le_of_ble_eq_true rfl) ?_
               | refine And.intro (by omega) ?_
               | refine And.intro (by simp only [List.length_map, List.length_append, List.length_cons, List.length_nil]; omega) ?_
               | refine And.intro (by simpa only [List.length_map, List.length_append, List.length_cons, List.length_nil] using rfl) ?_
               | refine And.intro (Eq.symm (List.length_map _)) ?_
               | refine And.intro (all_map (fun _ => rfl)) ?_
               | refine And.intro (cells_map (fun _ => rfl)) ?_
               | refine And.intro (rows_map (fun _ => rfl) (fun _ => rfl)) ?_
               | refine And.intro (okRows_one rfl rfl) ?_
               | refine And.intro (okRows_all rfl) ?_
               | refine boolF_t (beq_self_eq_true _) ?_
               | refine Exists.intro _ (And.intro (map_get (by assumption)) ?_)
               | refine Exists.intro _ (And.intro (Eq.refl (α := Option D) _) ?_)
               | refine Exists.intro _ (And.intro (⟨(List.length_map _).symm⟩) ?_)
               | refine Exists.intro _ (And.intro (⟨len_one⟩) ?_)
               | refine Exists.intro _ (And.intro (⟨len_two⟩) ?_)
               | refine Exists.intro _ (And.intro (⟨len_three⟩) ?_)
               | refine Exists.intro _ (And.intro (⟨len_four⟩) ?_)
               | refine Exists.intro _ (And.intro (⟨lenl_1⟩) ?_)
               | refine Exists.intro _ (And.intro (⟨lenl_2⟩) ?_)
               | refine Exists.intro _ (And.intro (⟨lenl_3⟩) ?_)
               | refine Exists.intro _ (And.intro (⟨lenl_4⟩) ?_)
               | refine Exists.intro _ (And.intro (⟨len_more⟩) ?_)
               | refine Exists.intro _ (And.intro (⟨map_slice⟩) ?_)
               | refine Exists.intro _ (And.intro (⟨List.map_take⟩) ?_)
               | refine Exists.intro _ (And.intro (⟨List.map_drop⟩) ?_)
               | refine Exists.intro _ (And.intro (⟨map_full'⟩) ?_)
               | refine Exists.intro _ (And.intro (⟨map_full⟩) ?_)
               | refine Exists.intro _ (And.intro (⟨map_snoc⟩) ?_)
               | refine Exists.intro _ (And.intro (⟨List.map_append⟩) ?_)
               | refine Exists.intro _ (And.intro (⟨Eq.refl (α := List D) _⟩) ?_)
               | refine Exists.intro _ (And.intro (⟨Eq.refl (α := Int) _⟩) (And.intro (by omega) ?_))
               | refine Exists.intro (0) (And.intro (⟨rfl⟩) (And.intro (Nat.zero_le _) ?_))
               | refine Exists.intro _ (And.intro (⟨nc1⟩) (And.intro (by omega) ?_))
               | refine Exists.intro _ (Exists.intro _ (And.intro (⟨Eq.refl (α := Int) _⟩) (And.intro (⟨Eq.refl (α := Int) _⟩) (And.intro (by omega) (And.intro (by omega) ?_)))))
               | refine Exists.intro _ (Exists.intro _ (And.intro (⟨Eq.refl (α := Nat) _⟩) (And.intro (⟨Eq.refl (α := Nat) _⟩) ?_)))
               | refine Exists.intro _ (And.intro (⟨Eq.refl (α := Nat) _⟩) ?_)
               | refine Exists.intro _ (And.intro (u32and (by omega) (by omega)) ?_)
               | refine Exists.intro _ (And.intro (u32or (by omega) (by omega)) ?_)
               | refine Exists.intro _ (And.intro (u32xor (by omega) (by omega)) ?_)
               | refine Exists.intro _ (And.intro (u8xor (by omega) (by omega)) ?_)
               | refine Exists.intro _ (And.intro (u64and (by omega) (by omega)) ?_)
               | refine Exists.intro _ (And.intro (u64or (by omega) (by omega)) ?_)
               | refine Exists.intro _ (And.intro (u64xor (by omega) (by omega)) ?_)
               | refine Exists.intro _ (And.intro (w64 (by omega) (by omega)) ?_)
               | refine Exists.intro _ (And.intro (u32add (by omega)) ?_)
               | refine Exists.intro _ (And.intro (u64add (by omega)) ?_)
               | refine Exists.intro _ (And.intro (u8w (by omega)) ?_)
               | refine Exists.intro _ (And.intro (u32w (by omega)) ?_)
               | refine Exists.intro _ (And.intro (u64w (by omega)) ?_)
               | refine Exists.intro _ (And.intro (u8m) ?_)
               | refine Exists.intro _ (And.intro (u64i (by omega) (by omega)) ?_)
               | refine Exists.intro _ (And.intro (min_int) ?_)
               | refine Exists.intro _ (And.intro (max_int) ?_)
               | refine Exists.intro _ (And.intro (imin) ?_)
               | refine Exists.intro _ (And.intro (imax) ?_)
               | refine Pure.call (f16_ok _ h0) ?_
               | refine Pure.locK (f16_ok _ h0) ?_
               | refine Pure.call (f18_ok) ?_
               | refine Pure.locK (f18_ok) ?_
               | refine boolF_not ?_
               | refine boolF_dect rfl ?_
               | refine boolF_dect (by assumption) ?_
               | refine boolF_decf (by assumption) ?_
               | refine boolF_dect (by omega) ?_
               | refine boolF_decf (by omega) ?_
               | refine boolF_beqt (by omega) ?_
               | refine boolF_beqf (by omega) ?_
               | refine boolF_bnet (by omega) ?_
               | refine boolF_bnef (by omega) ?_
               | refine boolF_nbeqt (by omega) ?_
               | refine boolF_nbeqf (by omega) ?_
               | refine boolF_nbnet (by omega) ?_
               | refine boolF_nbnef (by omega) ?_
               | refine boolF_t (by assumption) ?_
               | refine boolF_f (by assumption) ?_
               | refine boolF_dec (fun _ => ?_) (fun _ => ?_)
               | refine boolF_beq (fun _ => ?_) (fun _ => ?_)
               | refine boolF_bne (fun _ => ?_) (fun _ => ?_)
               | refine boolF_nbeq (fun _ => ?_) (fun _ => ?_)
               | refine boolF_nbne (fun _ => ?_) (fun _ => ?_)
               | refine boolF_leq (fun _ => ?_) (fun _ => ?_)
               | refine Both.mk ?_ ?_)
    all_goals (conv => whnf)
    exact ⟨rfl⟩

end Go.Proofs.Ytgcllbcpdcfkmaa

