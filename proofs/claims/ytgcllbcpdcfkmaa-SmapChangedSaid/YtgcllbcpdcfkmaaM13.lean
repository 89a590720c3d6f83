import Derived.Test.YtgcllbcpdcfkmaaM12
namespace Go.Proofs.Ytgcllbcpdcfkmaa
open Go.A
set_option linter.unusedVariables false
set_option linter.unusedSimpArgs false
set_option linter.unnecessarySimpa false
attribute [local irreducible] IntKind.wrap bitsI
set_option maxRecDepth 100000
set_option maxHeartbeats 4000000

def OneP (m : T24) (p : T24 × Int) : Prop := (p.2 = 0 → rightP p.1 ∧ p.1.version_ = m.version_ + 1 ∧ p.1.n_ = m.n_) ∧ (p.2 ≠ 0 → p.1 = ⟨0, 0, []⟩)

theorem one_z {m : T24} {e : Int} (h : e ≠ 0) : OneP m (⟨0, 0, []⟩, e) := ⟨fun h' => absurd h' h, fun _ => rfl⟩

theorem one_next {m : T24} {l : List T58} (hr : rightP m) (hl : l.length ≤ 16) (he : endsAt 0 l = some m.n_) : OneP m (nextM m l) := by
  rw [nextM]
  split
  · exact one_z (by decide)
  · have h1 := hr.1
    refine ⟨fun _ => ⟨⟨?_, ?_, hr.2.2.1, hr.2.2.2.1, hl, he⟩, rfl, rfl⟩, fun h => absurd rfl h⟩
    · dsimp only; omega
    · dsimp only; omega

theorem split_one (m : T24) (b : Int) : OneP m (splitM m b) := by
  by_cases hr : rightP m ∧ 1 ≤ b ∧ b < m.n_
  · obtain ⟨hr, h1, h2⟩ := hr
    obtain ⟨i, x, e1, e11, hx, e3, e4, e5, e6, e7, e8, e9, e10⟩ := at13_spec hr (b := b) (by omega) h2
    have hi := (List.getElem?_eq_some_iff.mp hx).1
    have hl := hr.2.2.2.2.1
    rw [splitM, if_neg (fun h => h.elim (fun h => h hr) (fun h => by omega)), e11]
    dsimp only
    split
    · exact one_z (by decide)
    · split
      · exact one_z (by decide)
      · refine one_next hr ?_ ?_
        · simp only [List.length_append, List.length_take, List.length_drop, List.length_cons, List.length_nil]; omega
        · rw [mid_ends (mid := [x]) (mid' := [⟨x.from_, b, x.node_⟩, ⟨b, x.to_, x.node_⟩]) (l2 := m.pieces_.drop (i + 1)) e5 (y := x.to_) (by simp [endsAt]; omega) (by simp [endsAt]; omega), ← split_list hx]
          exact hr.2.2.2.2.2
  · rw [splitM_out hr]; exact one_z (by decide)

theorem ends_two {l : List T58} {i : Nat} {x y : T58} {n : Int} (he : endsAt 0 l = some n) (hx : l[i + 1]? = some x) (hy : l[i]? = some y) : endsAt 0 (l.take i) = some y.from_ ∧ endsAt y.from_ [y, x] = some x.to_ := by
  have hl := split_list2 hx hy
  rw [hl, List.append_assoc, endsAt_append] at he
  cases h1 : endsAt 0 (l.take i) with
  | none => rw [h1] at he; cases he
  | some c =>
    rw [h1, Option.bind_some, endsAt_append] at he
    cases h2 : endsAt c [y, x] with
    | none => rw [h2] at he; cases he
    | some d =>
      have h3 := h2
      simp only [endsAt] at h2
      split at h2
      · rename_i hc
        split at h2
        · rename_i hd
          have := Option.some.inj h2
          subst this
          rw [hc.1]
          exact ⟨rfl, h3⟩
        · cases h2
      · cases h2

theorem merge_one (m : T24) (b : Int) : OneP m (mergeM m b) := by
  rw [mergeM]
  split
  · exact one_z (by decide)
  · rename_i hr
    have hr : rightP m := Classical.byContradiction hr
    split
    · exact one_z (by decide)
    · obtain ⟨i, x, e1, e11, hx, e3, e4, e5, e6, e7, e8, e9, e10⟩ := at13_spec hr (b := b) (by omega) (by omega)
      have hi := (List.getElem?_eq_some_iff.mp hx).1
      have hl := hr.2.2.2.2.1
      rw [e11]
      dsimp only
      split
      · exact one_z (by decide)
      · obtain ⟨k, hk⟩ : ∃ k, i = k + 1 := ⟨i - 1, by omega⟩
        obtain ⟨y, hy⟩ := at_lt (l := m.pieces_) (i := k) (by omega)
        subst hk
        rw [show k + 1 - 1 = k from rfl, hy]
        dsimp only
        split
        · exact one_z (by decide)
        · rename_i hn
          obtain ⟨g1, g2⟩ := ends_two hr.2.2.2.2.2 hx hy
          have g3 : y.from_ < x.to_ := by
            simp only [endsAt] at g2
            split at g2
            · split at g2
              · omega
              · cases g2
            · cases g2
          refine one_next hr ?_ ?_
          · simp only [List.length_append, List.length_take, List.length_drop, List.length_cons, List.length_nil]; omega
          · rw [mid_ends (mid := [y, x]) (mid' := [⟨y.from_, x.to_, x.node_⟩]) (l2 := m.pieces_.drop (k + 1 + 1)) g1 g2 (by simp [endsAt]; omega), ← split_list2 hx hy]
            exact hr.2.2.2.2.2

theorem move_one (m : T24) (b c : Int) : OneP m (moveM m b c) := by
  rw [moveM]
  split
  · exact one_z (by decide)
  · rename_i hr
    have hr : rightP m := Classical.byContradiction hr
    split
    · exact one_z (by decide)
    · split
      · exact one_z (by decide)
      · obtain ⟨i, x, e1, e11, hx, e3, e4, e5, e6, e7, e8, e9, e10⟩ := at13_spec hr (b := b) (by omega) (by omega)
        have hi := (List.getElem?_eq_some_iff.mp hx).1
        have hl := hr.2.2.2.2.1
        rw [e11]
        dsimp only
        split
        · exact one_z (by decide)
        · refine one_next hr ?_ ?_
          · simp only [List.length_append, List.length_take, List.length_drop, List.length_cons, List.length_nil]; omega
          · rw [mid_ends (mid := [x]) (mid' := [⟨x.from_, x.to_, c⟩]) (l2 := m.pieces_.drop (i + 1)) e5 (y := x.to_) (by simp [endsAt]; omega) (by simp [endsAt]; omega), ← split_list hx]
            exact hr.2.2.2.2.2


theorem smapOne_true (m : T24) (b c : Int) (h0 : ok25 m) (h1 : ok3 b) (h2 : ok3 c) : CallsIn Try.prog 7 [d25 m, d3 b, d3 c] [] fun r _ => r = .bool true := by
  have k1 := splitM_ok h0 h1
  have k2 := mergeM_ok h0 h1
  have k3 := moveM_ok h0 h1 h2
  have o1 := split_one m b
  have o2 := merge_one m b
  have o3 := move_one m b c
  have hv := h0.1
  simp only [ok3] at hv
  refine CallsIn.of_exec tab_ok mixed Try.func7 rfl rfl [] [] ?_
  repeat' ((conv => whnf); first
    | refine PairK.mk (by kernel_rfl) ?_ | refine Exists.intro _ (And.intro (hes) ?_) | refine And.intro (by decide) ?_ | refine And.intro rfl ?_ | refine And.intro (List.cons_ne_nil _ _) ?_ | refine And.intro (Nat.le_of_ble_eq_true rfl) ?_ | refine And.intro (by omega) ?_ | refine And.intro (by simp only [List.length_map, List.length_append, List.length_cons, List.length_nil]; omega) ?_ | refine And.intro (by simpa only [List.length_map, List.length_append, List.length_cons, List.length_nil] using rfl) ?_ | refine And.intro (Eq.symm (List.length_map _)) ?_
    | refine And.intro (all_map (fun _ => rfl)) ?_ | refine And.intro (cells_map (fun _ => rfl)) ?_ | refine And.intro (rows_map (fun _ => rfl) (fun _ => rfl)) ?_ | refine And.intro (okRows_one rfl rfl) ?_ | refine And.intro (okRows_all rfl) ?_ | refine boolF_t (beq_self_eq_true _) ?_ | refine Exists.intro _ (And.intro (map_get (by assumption)) ?_) | refine Exists.intro _ (And.intro (Eq.refl (α := Option D) _) ?_) | refine Exists.intro _ (And.intro (⟨(List.length_map _).symm⟩) ?_) | refine Exists.intro _ (And.intro (⟨len_one⟩) ?_) | refine Exists.intro _ (And.intro (⟨len_two⟩) ?_)
    | refine Exists.intro _ (And.intro (⟨len_three⟩) ?_) | refine Exists.intro _ (And.intro (⟨len_four⟩) ?_) | refine Exists.intro _ (And.intro (⟨lenl_1⟩) ?_) | refine Exists.intro _ (And.intro (⟨lenl_2⟩) ?_) | refine Exists.intro _ (And.intro (⟨lenl_3⟩) ?_) | refine Exists.intro _ (And.intro (⟨lenl_4⟩) ?_) | refine Exists.intro _ (And.intro (⟨len_more⟩) ?_) | refine Exists.intro _ (And.intro (⟨map_slice⟩) ?_) | refine Exists.intro _ (And.intro (⟨List.map_take⟩) ?_) | refine Exists.intro _ (And.intro (⟨List.map_drop⟩) ?_) | refine Exists.intro _ (And.intro (⟨map_full'⟩) ?_)
    | refine Exists.intro _ (And.intro (⟨map_full⟩) ?_) | refine Exists.intro _ (And.intro (⟨map_snoc⟩) ?_) | refine Exists.intro _ (And.intro (⟨List.map_append⟩) ?_) | refine Exists.intro _ (And.intro (⟨Eq.refl (α := List D) _⟩) ?_) | refine Exists.intro _ (And.intro (⟨Eq.refl (α := Int) _⟩) (And.intro (by omega) ?_)) | refine Exists.intro (0) (And.intro (⟨rfl⟩) (And.intro (Nat.zero_le _) ?_)) | refine Exists.intro _ (And.intro (⟨nc1⟩) (And.intro (by omega) ?_))
    | refine Exists.intro _ (Exists.intro _ (And.intro (⟨Eq.refl (α := Int) _⟩) (And.intro (⟨Eq.refl (α := Int) _⟩) (And.intro (by omega) (And.intro (by omega) ?_))))) | refine Exists.intro _ (Exists.intro _ (And.intro (⟨Eq.refl (α := Nat) _⟩) (And.intro (⟨Eq.refl (α := Nat) _⟩) ?_))) | refine Exists.intro _ (And.intro (⟨Eq.refl (α := Nat) _⟩) ?_) | refine Exists.intro _ (And.intro (w64 (by omega) (by omega)) ?_) | refine Exists.intro _ (And.intro (imin) ?_) | refine Exists.intro _ (And.intro (imax) ?_) | refine Pure.call (f13_ok _) ?_ | refine Pure.locK (f13_ok _) ?_
    | refine Pure.call (f15_ok _) ?_ | refine Pure.locK (f15_ok _) ?_ | refine Pure.call (f22_ok _ _ h0 h1) ?_ | refine Pure.locK (f22_ok _ _ h0 h1) ?_ | refine Pure.call (f23_ok _ _ h0 h1) ?_ | refine Pure.locK (f23_ok _ _ h0 h1) ?_ | refine Pure.call (f28_ok _ _ _ h0 h1) ?_ | refine Pure.locK (f28_ok _ _ _ h0 h1) ?_ | refine Pure.call (f18_ok) ?_ | refine Pure.locK (f18_ok) ?_ | refine Pure.call (f16_ok _ hx5) ?_ | refine Pure.locK (f16_ok _ hx5) ?_ | refine Pure.call (f12_ok _ _ hx5 (z_ok 0 (by simp [ok3])).1) ?_ | refine Pure.locK (f12_ok _ _ hx5 (z_ok 0 (by simp [ok3])).1) ?_
    | refine boolF_not ?_ | refine boolF_dect rfl ?_ | refine boolF_dect (by assumption) ?_ | refine boolF_decf (by assumption) ?_ | refine boolF_dect (by omega) ?_ | refine boolF_decf (by omega) ?_ | refine boolF_beqt (by omega) ?_ | refine boolF_beqf (by omega) ?_ | refine boolF_bnet (by omega) ?_ | refine boolF_bnef (by omega) ?_ | refine boolF_t (by assumption) ?_ | refine boolF_f (by assumption) ?_ | refine boolF_dec (fun _ => ?_) (fun _ => ?_) | refine boolF_beq (fun _ => ?_) (fun _ => ?_) | refine boolF_bne (fun _ => ?_) (fun _ => ?_) | refine boolF_leq (fun _ => ?_) (fun _ => ?_)
    | refine Both.mk ?_ ?_)
  all_goals (conv => whnf)
  obtain ⟨A, hA⟩ : ∃ A, A = splitM m b := ⟨_, rfl⟩
  obtain ⟨B, hB⟩ : ∃ B, B = mergeM m b := ⟨_, rfl⟩
  obtain ⟨C, hC⟩ : ∃ C, C = moveM m b c := ⟨_, rfl⟩
  rw [← hA] at k1 o1 ⊢
  rw [← hB] at k2 o2 ⊢
  rw [← hC] at k3 o3 ⊢
  obtain ⟨xs, hxs⟩ : ∃ xs : List T24, xs = [A.1, B.1, C.1] := ⟨_, rfl⟩
  have hall : ∀ (i : Nat) x e, xs[i]? = some x → [A.2, B.2, C.2][i]? = some e → OneP m (x, e) ∧ ok25 x := fun i x e hx he => by
    subst hxs
    match i, hx, he with
    | 0, hx, he => simp at hx he; subst hx he; exact ⟨o1, k1.1⟩
    | 1, hx, he => simp at hx he; subst hx he; exact ⟨o2, k2.1⟩
    | 2, hx, he => simp at hx he; subst hx he; exact ⟨o3, k3.1⟩
    | _ + 3, hx, he => simp at hx
  have hlen : xs.length = 3 := by rw [hxs]; rfl
  refine W_loopG (ι := Nat) (fun i => ⟨(D.undef :: D.undef :: D.undef :: .pe (c25 m) :: D.undef :: D.undef :: D.undef :: D.undef :: d3 A.2 :: D.undef :: d3 B.2 :: D.undef :: d3 C.2 :: D.undef :: D.undef :: D.undef :: D.undef :: D.undef :: D.undef :: D.undef :: D.undef :: D.undef :: D.undef :: D.undef :: D.undef :: D.undef :: D.undef :: D.undef :: D.undef :: D.undef :: D.undef :: D.undef :: D.undef :: D.undef :: D.undef :: D.undef :: D.undef :: D.undef :: D.undef :: D.undef :: .sl (xs.map r25) :: .int .i64 3 :: .int .i64 (i:Int) :: D.undef :: D.undef :: D.undef :: D.undef :: D.undef :: D.undef :: D.undef :: D.undef :: D.undef :: D.undef :: D.undef :: D.undef :: D.undef :: D.undef :: D.undef :: D.undef :: D.undef :: D.undef :: D.undef :: D.undef :: D.undef :: D.undef :: D.undef :: D.undef :: D.undef :: D.undef :: D.undef :: D.undef :: D.undef :: D.undef :: D.undef :: D.undef :: D.undef :: D.undef :: D.undef :: D.undef :: D.undef :: D.undef :: []), []⟩) (fun i => 3 - i)
    (fun i => i ≤ 3) 0 (Ghost.back [3, 8, 10, 12, 40, 41, 42] 0 (by rw [hxs]; rfl) rfl (Nat.le_refl _) (by simp [scs, D.sc, d3, c25, sc23, scs_map, r25]) (by simp)) (Nat.zero_le _) ?_
  intro i hi
  refine exec_ok tab_ok mixed 1000 (bx := []) (own := []) ?_
  rcases Nat.lt_or_ge i 3 with h | h
  · obtain ⟨x, hx⟩ := at_lt (l := xs) (i := i) (by omega)
    obtain ⟨e, he⟩ := at_lt (l := [A.2, B.2, C.2]) (i := i) (by simpa using h)
    obtain ⟨hp, hx5⟩ := hall i x e hx he
    have hes : ([A.2, B.2, C.2].map r3)[i]? = some (r3 e) := map_get he
    by_cases he0 : e = 0
    · obtain ⟨q1, q2, q3⟩ := hp.1 he0
      dsimp only at q1 q2 q3
      have qv := q1.2.1
      repeat' ((conv => whnf); first
        | refine PairK.mk (by kernel_rfl) ?_ | refine Exists.intro _ (And.intro (hes) ?_) | refine And.intro (by decide) ?_ | refine And.intro rfl ?_ | refine And.intro (List.cons_ne_nil _ _) ?_ | refine And.intro (Nat.le_of_ble_eq_true rfl) ?_ | refine And.intro (by omega) ?_ | refine And.intro (by simp only [List.length_map, List.length_append, List.length_cons, List.length_nil]; omega) ?_ | refine And.intro (by simpa only [List.length_map, List.length_append, List.length_cons, List.length_nil] using rfl) ?_ | refine And.intro (Eq.symm (List.length_map _)) ?_
        | refine And.intro (all_map (fun _ => rfl)) ?_ | refine And.intro (cells_map (fun _ => rfl)) ?_ | refine And.intro (rows_map (fun _ => rfl) (fun _ => rfl)) ?_ | refine And.intro (okRows_one rfl rfl) ?_ | refine And.intro (okRows_all rfl) ?_ | refine boolF_t (beq_self_eq_true _) ?_ | refine Exists.intro _ (And.intro (map_get (by assumption)) ?_) | refine Exists.intro _ (And.intro (Eq.refl (α := Option D) _) ?_) | refine Exists.intro _ (And.intro (⟨(List.length_map _).symm⟩) ?_) | refine Exists.intro _ (And.intro (⟨len_one⟩) ?_) | refine Exists.intro _ (And.intro (⟨len_two⟩) ?_)
        | refine Exists.intro _ (And.intro (⟨len_three⟩) ?_) | refine Exists.intro _ (And.intro (⟨len_four⟩) ?_) | refine Exists.intro _ (And.intro (⟨lenl_1⟩) ?_) | refine Exists.intro _ (And.intro (⟨lenl_2⟩) ?_) | refine Exists.intro _ (And.intro (⟨lenl_3⟩) ?_) | refine Exists.intro _ (And.intro (⟨lenl_4⟩) ?_) | refine Exists.intro _ (And.intro (⟨len_more⟩) ?_) | refine Exists.intro _ (And.intro (⟨map_slice⟩) ?_) | refine Exists.intro _ (And.intro (⟨List.map_take⟩) ?_) | refine Exists.intro _ (And.intro (⟨List.map_drop⟩) ?_) | refine Exists.intro _ (And.intro (⟨map_full'⟩) ?_)
        | refine Exists.intro _ (And.intro (⟨map_full⟩) ?_) | refine Exists.intro _ (And.intro (⟨map_snoc⟩) ?_) | refine Exists.intro _ (And.intro (⟨List.map_append⟩) ?_) | refine Exists.intro _ (And.intro (⟨Eq.refl (α := List D) _⟩) ?_) | refine Exists.intro _ (And.intro (⟨Eq.refl (α := Int) _⟩) (And.intro (by omega) ?_)) | refine Exists.intro (0) (And.intro (⟨rfl⟩) (And.intro (Nat.zero_le _) ?_)) | refine Exists.intro _ (And.intro (⟨nc1⟩) (And.intro (by omega) ?_))
        | refine Exists.intro _ (Exists.intro _ (And.intro (⟨Eq.refl (α := Int) _⟩) (And.intro (⟨Eq.refl (α := Int) _⟩) (And.intro (by omega) (And.intro (by omega) ?_))))) | refine Exists.intro _ (Exists.intro _ (And.intro (⟨Eq.refl (α := Nat) _⟩) (And.intro (⟨Eq.refl (α := Nat) _⟩) ?_))) | refine Exists.intro _ (And.intro (⟨Eq.refl (α := Nat) _⟩) ?_) | refine Exists.intro _ (And.intro (w64 (by omega) (by omega)) ?_) | refine Exists.intro _ (And.intro (imin) ?_) | refine Exists.intro _ (And.intro (imax) ?_) | refine Pure.call (f13_ok _) ?_ | refine Pure.locK (f13_ok _) ?_
        | refine Pure.call (f15_ok _) ?_ | refine Pure.locK (f15_ok _) ?_ | refine Pure.call (f22_ok _ _ h0 h1) ?_ | refine Pure.locK (f22_ok _ _ h0 h1) ?_ | refine Pure.call (f23_ok _ _ h0 h1) ?_ | refine Pure.locK (f23_ok _ _ h0 h1) ?_ | refine Pure.call (f28_ok _ _ _ h0 h1) ?_ | refine Pure.locK (f28_ok _ _ _ h0 h1) ?_ | refine Pure.call (f18_ok) ?_ | refine Pure.locK (f18_ok) ?_ | refine Pure.call (f16_ok _ hx5) ?_ | refine Pure.locK (f16_ok _ hx5) ?_ | refine Pure.call (f12_ok _ _ hx5 (z_ok 0 (by simp [ok3])).1) ?_ | refine Pure.locK (f12_ok _ _ hx5 (z_ok 0 (by simp [ok3])).1) ?_
        | refine boolF_not ?_ | refine boolF_dect rfl ?_ | refine boolF_dect (by assumption) ?_ | refine boolF_decf (by assumption) ?_ | refine boolF_dect (by omega) ?_ | refine boolF_decf (by omega) ?_ | refine boolF_beqt (by omega) ?_ | refine boolF_beqf (by omega) ?_ | refine boolF_bnet (by omega) ?_ | refine boolF_bnef (by omega) ?_ | refine boolF_t (by assumption) ?_ | refine boolF_f (by assumption) ?_ | refine boolF_dec (fun _ => ?_) (fun _ => ?_) | refine boolF_beq (fun _ => ?_) (fun _ => ?_) | refine boolF_bne (fun _ => ?_) (fun _ => ?_) | refine boolF_leq (fun _ => ?_) (fun _ => ?_)
        | refine Both.mk ?_ ?_)
      all_goals (conv => whnf)
      exact ⟨i + 1, Ghost.back [3, 8, 10, 12, 40, 41, 42] 0 rfl rfl (Nat.le_refl _) (by simp [scs, D.sc, d3, c25, sc23, scs_map, r25]) (by simp), by omega, by omega⟩
    · have q1 := hp.2 he0
      dsimp only at q1
      repeat' ((conv => whnf); first
        | refine PairK.mk (by kernel_rfl) ?_ | refine Exists.intro _ (And.intro (hes) ?_) | refine And.intro (by decide) ?_ | refine And.intro rfl ?_ | refine And.intro (List.cons_ne_nil _ _) ?_ | refine And.intro (Nat.le_of_ble_eq_true rfl) ?_ | refine And.intro (by omega) ?_ | refine And.intro (by simp only [List.length_map, List.length_append, List.length_cons, List.length_nil]; omega) ?_ | refine And.intro (by simpa only [List.length_map, List.length_append, List.length_cons, List.length_nil] using rfl) ?_ | refine And.intro (Eq.symm (List.length_map _)) ?_
        | refine And.intro (all_map (fun _ => rfl)) ?_ | refine And.intro (cells_map (fun _ => rfl)) ?_ | refine And.intro (rows_map (fun _ => rfl) (fun _ => rfl)) ?_ | refine And.intro (okRows_one rfl rfl) ?_ | refine And.intro (okRows_all rfl) ?_ | refine boolF_t (beq_self_eq_true _) ?_ | refine Exists.intro _ (And.intro (map_get (by assumption)) ?_) | refine Exists.intro _ (And.intro (Eq.refl (α := Option D) _) ?_) | refine Exists.intro _ (And.intro (⟨(List.length_map _).symm⟩) ?_) | refine Exists.intro _ (And.intro (⟨len_one⟩) ?_) | refine Exists.intro _ (And.intro (⟨len_two⟩) ?_)
        | refine Exists.intro _ (And.intro (⟨len_three⟩) ?_) | refine Exists.intro _ (And.intro (⟨len_four⟩) ?_) | refine Exists.intro _ (And.intro (⟨lenl_1⟩) ?_) | refine Exists.intro _ (And.intro (⟨lenl_2⟩) ?_) | refine Exists.intro _ (And.intro (⟨lenl_3⟩) ?_) | refine Exists.intro _ (And.intro (⟨lenl_4⟩) ?_) | refine Exists.intro _ (And.intro (⟨len_more⟩) ?_) | refine Exists.intro _ (And.intro (⟨map_slice⟩) ?_) | refine Exists.intro _ (And.intro (⟨List.map_take⟩) ?_) | refine Exists.intro _ (And.intro (⟨List.map_drop⟩) ?_) | refine Exists.intro _ (And.intro (⟨map_full'⟩) ?_)
        | refine Exists.intro _ (And.intro (⟨map_full⟩) ?_) | refine Exists.intro _ (And.intro (⟨map_snoc⟩) ?_) | refine Exists.intro _ (And.intro (⟨List.map_append⟩) ?_) | refine Exists.intro _ (And.intro (⟨Eq.refl (α := List D) _⟩) ?_) | refine Exists.intro _ (And.intro (⟨Eq.refl (α := Int) _⟩) (And.intro (by omega) ?_)) | refine Exists.intro (0) (And.intro (⟨rfl⟩) (And.intro (Nat.zero_le _) ?_)) | refine Exists.intro _ (And.intro (⟨nc1⟩) (And.intro (by omega) ?_))
        | refine Exists.intro _ (Exists.intro _ (And.intro (⟨Eq.refl (α := Int) _⟩) (And.intro (⟨Eq.refl (α := Int) _⟩) (And.intro (by omega) (And.intro (by omega) ?_))))) | refine Exists.intro _ (Exists.intro _ (And.intro (⟨Eq.refl (α := Nat) _⟩) (And.intro (⟨Eq.refl (α := Nat) _⟩) ?_))) | refine Exists.intro _ (And.intro (⟨Eq.refl (α := Nat) _⟩) ?_) | refine Exists.intro _ (And.intro (w64 (by omega) (by omega)) ?_) | refine Exists.intro _ (And.intro (imin) ?_) | refine Exists.intro _ (And.intro (imax) ?_) | refine Pure.call (f13_ok _) ?_ | refine Pure.locK (f13_ok _) ?_
        | refine Pure.call (f15_ok _) ?_ | refine Pure.locK (f15_ok _) ?_ | refine Pure.call (f22_ok _ _ h0 h1) ?_ | refine Pure.locK (f22_ok _ _ h0 h1) ?_ | refine Pure.call (f23_ok _ _ h0 h1) ?_ | refine Pure.locK (f23_ok _ _ h0 h1) ?_ | refine Pure.call (f28_ok _ _ _ h0 h1) ?_ | refine Pure.locK (f28_ok _ _ _ h0 h1) ?_ | refine Pure.call (f18_ok) ?_ | refine Pure.locK (f18_ok) ?_ | refine Pure.call (f16_ok _ hx5) ?_ | refine Pure.locK (f16_ok _ hx5) ?_ | refine Pure.call (f12_ok _ _ hx5 (z_ok 0 (by simp [ok3])).1) ?_ | refine Pure.locK (f12_ok _ _ hx5 (z_ok 0 (by simp [ok3])).1) ?_
        | refine boolF_not ?_ | refine boolF_dect rfl ?_ | refine boolF_dect (by assumption) ?_ | refine boolF_decf (by assumption) ?_ | refine boolF_dect (by omega) ?_ | refine boolF_decf (by omega) ?_ | refine boolF_beqt (by omega) ?_ | refine boolF_beqf (by omega) ?_ | refine boolF_bnet (by omega) ?_ | refine boolF_bnef (by omega) ?_ | refine boolF_t (by assumption) ?_ | refine boolF_f (by assumption) ?_ | refine boolF_dec (fun _ => ?_) (fun _ => ?_) | refine boolF_beq (fun _ => ?_) (fun _ => ?_) | refine boolF_bne (fun _ => ?_) (fun _ => ?_) | refine boolF_leq (fun _ => ?_) (fun _ => ?_)
        | refine Both.mk ?_ ?_)
      all_goals (conv => whnf)
      refine Pure.call ((f12_ok x ⟨0, 0, []⟩ hx5 (z_ok 0 (by simp [ok3])).1).wk (.cons .refl (.cons (.agg (.cons .refl (.cons .refl (.cons .nils .nil)))) .nil))) ?_
      repeat' ((conv => whnf); first
        | refine PairK.mk (by kernel_rfl) ?_ | refine Exists.intro _ (And.intro (hes) ?_) | refine And.intro (by decide) ?_ | refine And.intro rfl ?_ | refine And.intro (List.cons_ne_nil _ _) ?_ | refine And.intro (Nat.le_of_ble_eq_true rfl) ?_ | refine And.intro (by omega) ?_ | refine And.intro (by simp only [List.length_map, List.length_append, List.length_cons, List.length_nil]; omega) ?_ | refine And.intro (by simpa only [List.length_map, List.length_append, List.length_cons, List.length_nil] using rfl) ?_ | refine And.intro (Eq.symm (List.length_map _)) ?_
        | refine And.intro (all_map (fun _ => rfl)) ?_ | refine And.intro (cells_map (fun _ => rfl)) ?_ | refine And.intro (rows_map (fun _ => rfl) (fun _ => rfl)) ?_ | refine And.intro (okRows_one rfl rfl) ?_ | refine And.intro (okRows_all rfl) ?_ | refine boolF_t (beq_self_eq_true _) ?_ | refine Exists.intro _ (And.intro (map_get (by assumption)) ?_) | refine Exists.intro _ (And.intro (Eq.refl (α := Option D) _) ?_) | refine Exists.intro _ (And.intro (⟨(List.length_map _).symm⟩) ?_) | refine Exists.intro _ (And.intro (⟨len_one⟩) ?_) | refine Exists.intro _ (And.intro (⟨len_two⟩) ?_)
        | refine Exists.intro _ (And.intro (⟨len_three⟩) ?_) | refine Exists.intro _ (And.intro (⟨len_four⟩) ?_) | refine Exists.intro _ (And.intro (⟨lenl_1⟩) ?_) | refine Exists.intro _ (And.intro (⟨lenl_2⟩) ?_) | refine Exists.intro _ (And.intro (⟨lenl_3⟩) ?_) | refine Exists.intro _ (And.intro (⟨lenl_4⟩) ?_) | refine Exists.intro _ (And.intro (⟨len_more⟩) ?_) | refine Exists.intro _ (And.intro (⟨map_slice⟩) ?_) | refine Exists.intro _ (And.intro (⟨List.map_take⟩) ?_) | refine Exists.intro _ (And.intro (⟨List.map_drop⟩) ?_) | refine Exists.intro _ (And.intro (⟨map_full'⟩) ?_)
        | refine Exists.intro _ (And.intro (⟨map_full⟩) ?_) | refine Exists.intro _ (And.intro (⟨map_snoc⟩) ?_) | refine Exists.intro _ (And.intro (⟨List.map_append⟩) ?_) | refine Exists.intro _ (And.intro (⟨Eq.refl (α := List D) _⟩) ?_) | refine Exists.intro _ (And.intro (⟨Eq.refl (α := Int) _⟩) (And.intro (by omega) ?_)) | refine Exists.intro (0) (And.intro (⟨rfl⟩) (And.intro (Nat.zero_le _) ?_)) | refine Exists.intro _ (And.intro (⟨nc1⟩) (And.intro (by omega) ?_))
        | refine Exists.intro _ (Exists.intro _ (And.intro (⟨Eq.refl (α := Int) _⟩) (And.intro (⟨Eq.refl (α := Int) _⟩) (And.intro (by omega) (And.intro (by omega) ?_))))) | refine Exists.intro _ (Exists.intro _ (And.intro (⟨Eq.refl (α := Nat) _⟩) (And.intro (⟨Eq.refl (α := Nat) _⟩) ?_))) | refine Exists.intro _ (And.intro (⟨Eq.refl (α := Nat) _⟩) ?_) | refine Exists.intro _ (And.intro (w64 (by omega) (by omega)) ?_) | refine Exists.intro _ (And.intro (imin) ?_) | refine Exists.intro _ (And.intro (imax) ?_) | refine Pure.call (f13_ok _) ?_ | refine Pure.locK (f13_ok _) ?_
        | refine Pure.call (f15_ok _) ?_ | refine Pure.locK (f15_ok _) ?_ | refine Pure.call (f22_ok _ _ h0 h1) ?_ | refine Pure.locK (f22_ok _ _ h0 h1) ?_ | refine Pure.call (f23_ok _ _ h0 h1) ?_ | refine Pure.locK (f23_ok _ _ h0 h1) ?_ | refine Pure.call (f28_ok _ _ _ h0 h1) ?_ | refine Pure.locK (f28_ok _ _ _ h0 h1) ?_ | refine Pure.call (f18_ok) ?_ | refine Pure.locK (f18_ok) ?_ | refine Pure.call (f16_ok _ hx5) ?_ | refine Pure.locK (f16_ok _ hx5) ?_ | refine Pure.call (f12_ok _ _ hx5 (z_ok 0 (by simp [ok3])).1) ?_ | refine Pure.locK (f12_ok _ _ hx5 (z_ok 0 (by simp [ok3])).1) ?_
        | refine boolF_not ?_ | refine boolF_dect rfl ?_ | refine boolF_dect (by assumption) ?_ | refine boolF_decf (by assumption) ?_ | refine boolF_dect (by omega) ?_ | refine boolF_decf (by omega) ?_ | refine boolF_beqt (by omega) ?_ | refine boolF_beqf (by omega) ?_ | refine boolF_bnet (by omega) ?_ | refine boolF_bnef (by omega) ?_ | refine boolF_t (by assumption) ?_ | refine boolF_f (by assumption) ?_ | refine boolF_dec (fun _ => ?_) (fun _ => ?_) | refine boolF_beq (fun _ => ?_) (fun _ => ?_) | refine boolF_bne (fun _ => ?_) (fun _ => ?_) | refine boolF_leq (fun _ => ?_) (fun _ => ?_)
        | refine Both.mk ?_ ?_)
      all_goals (conv => whnf)
      exact ⟨i + 1, Ghost.back [3, 8, 10, 12, 40, 41, 42] 0 rfl rfl (Nat.le_refl _) (by simp [scs, D.sc, d3, c25, sc23, scs_map, r25]) (by simp), by omega, by omega⟩
  · repeat' ((conv => whnf); first
      | refine PairK.mk (by kernel_rfl) ?_ | refine Exists.intro _ (And.intro (hes) ?_) | refine And.intro (by decide) ?_ | refine And.intro rfl ?_ | refine And.intro (List.cons_ne_nil _ _) ?_ | refine And.intro (Nat.le_of_ble_eq_true rfl) ?_ | refine And.intro (by omega) ?_ | refine And.intro (by simp only [List.length_map, List.length_append, List.length_cons, List.length_nil]; omega) ?_ | refine And.intro (by simpa only [List.length_map, List.length_append, List.length_cons, List.length_nil] using rfl) ?_ | refine And.intro (Eq.symm (List.length_map _)) ?_
      | refine And.intro (all_map (fun _ => rfl)) ?_ | refine And.intro (cells_map (fun _ => rfl)) ?_ | refine And.intro (rows_map (fun _ => rfl) (fun _ => rfl)) ?_ | refine And.intro (okRows_one rfl rfl) ?_ | refine And.intro (okRows_all rfl) ?_ | refine boolF_t (beq_self_eq_true _) ?_ | refine Exists.intro _ (And.intro (map_get (by assumption)) ?_) | refine Exists.intro _ (And.intro (Eq.refl (α := Option D) _) ?_) | refine Exists.intro _ (And.intro (⟨(List.length_map _).symm⟩) ?_) | refine Exists.intro _ (And.intro (⟨len_one⟩) ?_) | refine Exists.intro _ (And.intro (⟨len_two⟩) ?_)
      | refine Exists.intro _ (And.intro (⟨len_three⟩) ?_) | refine Exists.intro _ (And.intro (⟨len_four⟩) ?_) | refine Exists.intro _ (And.intro (⟨lenl_1⟩) ?_) | refine Exists.intro _ (And.intro (⟨lenl_2⟩) ?_) | refine Exists.intro _ (And.intro (⟨lenl_3⟩) ?_) | refine Exists.intro _ (And.intro (⟨lenl_4⟩) ?_) | refine Exists.intro _ (And.intro (⟨len_more⟩) ?_) | refine Exists.intro _ (And.intro (⟨map_slice⟩) ?_) | refine Exists.intro _ (And.intro (⟨List.map_take⟩) ?_) | refine Exists.intro _ (And.intro (⟨List.map_drop⟩) ?_) | refine Exists.intro _ (And.intro (⟨map_full'⟩) ?_)
      | refine Exists.intro _ (And.intro (⟨map_full⟩) ?_) | refine Exists.intro _ (And.intro (⟨map_snoc⟩) ?_) | refine Exists.intro _ (And.intro (⟨List.map_append⟩) ?_) | refine Exists.intro _ (And.intro (⟨Eq.refl (α := List D) _⟩) ?_) | refine Exists.intro _ (And.intro (⟨Eq.refl (α := Int) _⟩) (And.intro (by omega) ?_)) | refine Exists.intro (0) (And.intro (⟨rfl⟩) (And.intro (Nat.zero_le _) ?_)) | refine Exists.intro _ (And.intro (⟨nc1⟩) (And.intro (by omega) ?_))
      | refine Exists.intro _ (Exists.intro _ (And.intro (⟨Eq.refl (α := Int) _⟩) (And.intro (⟨Eq.refl (α := Int) _⟩) (And.intro (by omega) (And.intro (by omega) ?_))))) | refine Exists.intro _ (Exists.intro _ (And.intro (⟨Eq.refl (α := Nat) _⟩) (And.intro (⟨Eq.refl (α := Nat) _⟩) ?_))) | refine Exists.intro _ (And.intro (⟨Eq.refl (α := Nat) _⟩) ?_) | refine Exists.intro _ (And.intro (w64 (by omega) (by omega)) ?_) | refine Exists.intro _ (And.intro (imin) ?_) | refine Exists.intro _ (And.intro (imax) ?_) | refine Pure.call (f13_ok _) ?_ | refine Pure.locK (f13_ok _) ?_
      | refine Pure.call (f15_ok _) ?_ | refine Pure.locK (f15_ok _) ?_ | refine Pure.call (f22_ok _ _ h0 h1) ?_ | refine Pure.locK (f22_ok _ _ h0 h1) ?_ | refine Pure.call (f23_ok _ _ h0 h1) ?_ | refine Pure.locK (f23_ok _ _ h0 h1) ?_ | refine Pure.call (f28_ok _ _ _ h0 h1) ?_ | refine Pure.locK (f28_ok _ _ _ h0 h1) ?_ | refine Pure.call (f18_ok) ?_ | refine Pure.locK (f18_ok) ?_ | refine Pure.call (f16_ok _ hx5) ?_ | refine Pure.locK (f16_ok _ hx5) ?_ | refine Pure.call (f12_ok _ _ hx5 (z_ok 0 (by simp [ok3])).1) ?_ | refine Pure.locK (f12_ok _ _ hx5 (z_ok 0 (by simp [ok3])).1) ?_
      | refine boolF_not ?_ | refine boolF_dect rfl ?_ | refine boolF_dect (by assumption) ?_ | refine boolF_decf (by assumption) ?_ | refine boolF_dect (by omega) ?_ | refine boolF_decf (by omega) ?_ | refine boolF_beqt (by omega) ?_ | refine boolF_beqf (by omega) ?_ | refine boolF_bnet (by omega) ?_ | refine boolF_bnef (by omega) ?_ | refine boolF_t (by assumption) ?_ | refine boolF_f (by assumption) ?_ | refine boolF_dec (fun _ => ?_) (fun _ => ?_) | refine boolF_beq (fun _ => ?_) (fun _ => ?_) | refine boolF_bne (fun _ => ?_) (fun _ => ?_) | refine boolF_leq (fun _ => ?_) (fun _ => ?_)
      | refine Both.mk ?_ ?_)
    all_goals (conv => whnf)
    exact ⟨rfl⟩

end Go.Proofs.Ytgcllbcpdcfkmaa

