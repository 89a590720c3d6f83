import Derived.Test.YtgcllbcpdcfkmaaM13
namespace Go.Proofs.Ytgcllbcpdcfkmaa
open Go.A
set_option linter.unusedVariables false
set_option linter.unusedSimpArgs false
set_option linter.unnecessarySimpa false
attribute [local irreducible] IntKind.wrap bitsI
set_option maxRecDepth 100000
set_option maxHeartbeats 4000000

theorem pieceIx_ge (b : Int) : ∀ (l : List T58) (k : Int), pieceIx b k l = -1 ∨ k ≤ pieceIx b k l
  | [], k => .inl rfl
  | x :: l, k => by
    rw [pieceIx]
    split
    · exact .inr (Int.le_refl _)
    · rcases pieceIx_ge b l (k + 1) with h | h
      · exact .inl h
      · exact .inr (by omega)

theorem nodeL_ix (b : Int) : ∀ (l : List T58) (k i : Nat) (x : T58), pieceIx b (k : Int) l = ((k + i : Nat) : Int) → l[i]? = some x → nodeL b l = x.node_
  | [], k, i, x, h, hx => by simp at hx
  | y :: l, k, i, x, h, hx => by
    rw [pieceIx] at h
    rw [nodeL]
    split at h
    · rename_i hb
      obtain rfl : i = 0 := by omega
      simp at hx; subst hx
      rw [if_pos hb]
    · rename_i hb
      rw [if_neg hb]
      have := pieceIx_ge b l (k + 1)
      obtain ⟨j, rfl⟩ : ∃ j, i = j + 1 := ⟨i - 1, by omega⟩
      exact nodeL_ix b l (k + 1) j x (by rw [show ((k + 1 : Nat) : Int) = (k : Int) + 1 from rfl, h]; congr 1; omega) (by simpa using hx)

theorem nodeL_spec {m : T24} {b : Int} {i : Nat} {x : T58} (hr : rightP m) (h0 : 0 ≤ b) (h1 : b < m.n_) (e1 : findM m b = ((i : Int), 0)) (hx : m.pieces_[i]? = some x) : nodeL b m.pieces_ = x.node_ := by
  rw [findM, if_pos hr, if_neg (by omega)] at e1
  have e : pieceIx b 0 m.pieces_ = (i : Int) := congrArg Prod.fst e1
  exact nodeL_ix b m.pieces_ 0 i x (by rw [Nat.zero_add]; exact e) hx

theorem f30_ok (m : T24) (b : Int) (hm : ok25 m) (hr : rightP m) (h0 : 0 ≤ b) (h1 : b < m.n_) : Pure Try.prog 30 [d25 m, d3 b] (d3 (nodeL b m.pieces_)) := by
  have hb : ok3 b := by have := hr.2.2.2.1; simp only [ok3]; omega
  refine Pure.of ⟨sc25 _ _, trivial, trivial⟩ trivial ?_
  refine CallsIn.of_exec tab_ok mixed Try.func30 rfl rfl [] [] ?_
  obtain ⟨i, x, e1, hx, _⟩ := find_spec hr h0 h1
  rw [nodeL_spec hr h0 h1 e1 hx]
  have h25 := f25_ok m b hm hb
  rw [e1] at h25
  dsimp only at h25
  repeat' ((conv => whnf); first
    | refine PairK.mk (by kernel_rfl) ?_ | refine And.intro (by decide) ?_ | refine And.intro rfl ?_ | refine And.intro (List.cons_ne_nil _ _) ?_ | refine And.intro (Nat.le_of_ble_eq_true rfl) ?_ | refine And.intro (by omega) ?_ | refine And.intro (by simp only [List.length_map, List.length_append, List.length_cons, List.length_nil]; omega) ?_ | refine And.intro (by simpa only [List.length_map, List.length_append, List.length_cons, List.length_nil] using rfl) ?_ | refine And.intro (Eq.symm (List.length_map _)) ?_ | refine And.intro (all_map (fun _ => rfl)) ?_
    | refine And.intro (cells_map (fun _ => rfl)) ?_ | refine And.intro (rows_map (fun _ => rfl) (fun _ => rfl)) ?_ | refine And.intro (okRows_one rfl rfl) ?_ | refine And.intro (okRows_all rfl) ?_ | refine boolF_t (beq_self_eq_true _) ?_ | refine Exists.intro _ (And.intro (map_get (by assumption)) ?_) | refine Exists.intro _ (And.intro (Eq.refl (α := Option D) _) ?_) | refine Exists.intro _ (And.intro (⟨(List.length_map _).symm⟩) ?_) | refine Exists.intro _ (And.intro (⟨len_one⟩) ?_) | refine Exists.intro _ (And.intro (⟨len_two⟩) ?_) | refine Exists.intro _ (And.intro (⟨len_three⟩) ?_)
    | refine Exists.intro _ (And.intro (⟨len_four⟩) ?_) | refine Exists.intro _ (And.intro (⟨lenl_1⟩) ?_) | refine Exists.intro _ (And.intro (⟨lenl_2⟩) ?_) | refine Exists.intro _ (And.intro (⟨lenl_3⟩) ?_) | refine Exists.intro _ (And.intro (⟨lenl_4⟩) ?_) | refine Exists.intro _ (And.intro (⟨len_more⟩) ?_) | refine Exists.intro _ (And.intro (⟨map_slice⟩) ?_) | refine Exists.intro _ (And.intro (⟨List.map_take⟩) ?_) | refine Exists.intro _ (And.intro (⟨List.map_drop⟩) ?_) | refine Exists.intro _ (And.intro (⟨map_full'⟩) ?_) | refine Exists.intro _ (And.intro (⟨map_full⟩) ?_)
    | refine Exists.intro _ (And.intro (⟨map_snoc⟩) ?_) | refine Exists.intro _ (And.intro (⟨List.map_append⟩) ?_) | refine Exists.intro _ (And.intro (⟨Eq.refl (α := List D) _⟩) ?_) | refine Exists.intro _ (And.intro (⟨Eq.refl (α := Int) _⟩) (And.intro (by omega) ?_)) | refine Exists.intro (0) (And.intro (⟨rfl⟩) (And.intro (Nat.zero_le _) ?_)) | refine Exists.intro _ (And.intro (⟨nc1⟩) (And.intro (by omega) ?_)) | refine Exists.intro _ (Exists.intro _ (And.intro (⟨Eq.refl (α := Int) _⟩) (And.intro (⟨Eq.refl (α := Int) _⟩) (And.intro (by omega) (And.intro (by omega) ?_)))))
    | refine Exists.intro _ (Exists.intro _ (And.intro (⟨Eq.refl (α := Nat) _⟩) (And.intro (⟨Eq.refl (α := Nat) _⟩) ?_))) | refine Exists.intro _ (And.intro (⟨Eq.refl (α := Nat) _⟩) ?_) | refine Exists.intro _ (And.intro (w64 (by omega) (by omega)) ?_) | refine Exists.intro _ (And.intro (imin) ?_) | refine Exists.intro _ (And.intro (imax) ?_) | refine boolF_not ?_ | refine boolF_dect rfl ?_ | refine boolF_dect (by assumption) ?_ | refine boolF_decf (by assumption) ?_ | refine boolF_dect (by omega) ?_ | refine boolF_decf (by omega) ?_ | refine boolF_beqt (by omega) ?_
    | refine boolF_beqf (by omega) ?_ | refine boolF_bnet (by omega) ?_ | refine boolF_bnef (by omega) ?_ | refine boolF_t (by assumption) ?_ | refine boolF_f (by assumption) ?_ | refine boolF_dec (fun _ => ?_) (fun _ => ?_) | refine boolF_beq (fun _ => ?_) (fun _ => ?_) | refine boolF_bne (fun _ => ?_) (fun _ => ?_) | refine boolF_leq (fun _ => ?_) (fun _ => ?_) | refine Both.mk ?_ ?_)
  all_goals (conv => whnf)
  refine Pure.call h25 ?_
  repeat' ((conv => whnf); first
    | refine PairK.mk (by kernel_rfl) ?_ | refine And.intro (by decide) ?_ | refine And.intro rfl ?_ | refine And.intro (List.cons_ne_nil _ _) ?_ | refine And.intro (Nat.le_of_ble_eq_true rfl) ?_ | refine And.intro (by omega) ?_ | refine And.intro (by simp only [List.length_map, List.length_append, List.length_cons, List.length_nil]; omega) ?_ | refine And.intro (by simpa only [List.length_map, List.length_append, List.length_cons, List.length_nil] using rfl) ?_ | refine And.intro (Eq.symm (List.length_map _)) ?_ | refine And.intro (all_map (fun _ => rfl)) ?_
    | refine And.intro (cells_map (fun _ => rfl)) ?_ | refine And.intro (rows_map (fun _ => rfl) (fun _ => rfl)) ?_ | refine And.intro (okRows_one rfl rfl) ?_ | refine And.intro (okRows_all rfl) ?_ | refine boolF_t (beq_self_eq_true _) ?_ | refine Exists.intro _ (And.intro (map_get (by assumption)) ?_) | refine Exists.intro _ (And.intro (Eq.refl (α := Option D) _) ?_) | refine Exists.intro _ (And.intro (⟨(List.length_map _).symm⟩) ?_) | refine Exists.intro _ (And.intro (⟨len_one⟩) ?_) | refine Exists.intro _ (And.intro (⟨len_two⟩) ?_) | refine Exists.intro _ (And.intro (⟨len_three⟩) ?_)
    | refine Exists.intro _ (And.intro (⟨len_four⟩) ?_) | refine Exists.intro _ (And.intro (⟨lenl_1⟩) ?_) | refine Exists.intro _ (And.intro (⟨lenl_2⟩) ?_) | refine Exists.intro _ (And.intro (⟨lenl_3⟩) ?_) | refine Exists.intro _ (And.intro (⟨lenl_4⟩) ?_) | refine Exists.intro _ (And.intro (⟨len_more⟩) ?_) | refine Exists.intro _ (And.intro (⟨map_slice⟩) ?_) | refine Exists.intro _ (And.intro (⟨List.map_take⟩) ?_) | refine Exists.intro _ (And.intro (⟨List.map_drop⟩) ?_) | refine Exists.intro _ (And.intro (⟨map_full'⟩) ?_) | refine Exists.intro _ (And.intro (⟨map_full⟩) ?_)
    | refine Exists.intro _ (And.intro (⟨map_snoc⟩) ?_) | refine Exists.intro _ (And.intro (⟨List.map_append⟩) ?_) | refine Exists.intro _ (And.intro (⟨Eq.refl (α := List D) _⟩) ?_) | refine Exists.intro _ (And.intro (⟨Eq.refl (α := Int) _⟩) (And.intro (by omega) ?_)) | refine Exists.intro (0) (And.intro (⟨rfl⟩) (And.intro (Nat.zero_le _) ?_)) | refine Exists.intro _ (And.intro (⟨nc1⟩) (And.intro (by omega) ?_)) | refine Exists.intro _ (Exists.intro _ (And.intro (⟨Eq.refl (α := Int) _⟩) (And.intro (⟨Eq.refl (α := Int) _⟩) (And.intro (by omega) (And.intro (by omega) ?_)))))
    | refine Exists.intro _ (Exists.intro _ (And.intro (⟨Eq.refl (α := Nat) _⟩) (And.intro (⟨Eq.refl (α := Nat) _⟩) ?_))) | refine Exists.intro _ (And.intro (⟨Eq.refl (α := Nat) _⟩) ?_) | refine Exists.intro _ (And.intro (w64 (by omega) (by omega)) ?_) | refine Exists.intro _ (And.intro (imin) ?_) | refine Exists.intro _ (And.intro (imax) ?_) | refine boolF_not ?_ | refine boolF_dect rfl ?_ | refine boolF_dect (by assumption) ?_ | refine boolF_decf (by assumption) ?_ | refine boolF_dect (by omega) ?_ | refine boolF_decf (by omega) ?_ | refine boolF_beqt (by omega) ?_
    | refine boolF_beqf (by omega) ?_ | refine boolF_bnet (by omega) ?_ | refine boolF_bnef (by omega) ?_ | refine boolF_t (by assumption) ?_ | refine boolF_f (by assumption) ?_ | refine boolF_dec (fun _ => ?_) (fun _ => ?_) | refine boolF_beq (fun _ => ?_) (fun _ => ?_) | refine boolF_bne (fun _ => ?_) (fun _ => ?_) | refine boolF_leq (fun _ => ?_) (fun _ => ?_) | refine Both.mk ?_ ?_)
  all_goals (conv => whnf)
  exact ⟨rfl⟩

theorem split_node {m : T24} {b : Int} (h : (splitM m b).2 = 0) {j : Int} (hj : 0 ≤ j) : nodeL j (splitM m b).1.pieces_ = nodeL j m.pieces_ := by
  obtain ⟨hr, h1, h2, hv, hl, i, x, hx, e3, e4, e5, e6, e7, e⟩ := split_case h
  rw [e]
  show nodeL j (m.pieces_.take i ++ _ ++ _) = _
  rw [mid_node (mid := [x]) (mid' := [⟨x.from_, b, x.node_⟩, ⟨b, x.to_, x.node_⟩]) e5 (y := x.to_) (by simp [endsAt]; omega) (by simp [endsAt]; omega) hj (fun g1 g2 => by
    simp only [nodeL]; rw [if_pos g2]; split <;> rfl), ← split_list hx]

theorem next_zero {m : T24} {l : List T58} (h : (nextM m l).2 = 0) : (nextM m l).1 = ⟨m.version_ + 1, m.n_, l⟩ := by
  rw [nextM] at h ⊢
  split at h
  · cases h
  · rename_i hv; rw [if_neg hv]

theorem merge_node {m : T24} {b : Int} (h : (mergeM m b).2 = 0) {j : Int} (hj : 0 ≤ j) : nodeL j (mergeM m b).1.pieces_ = nodeL j m.pieces_ := by
  rw [mergeM] at h ⊢
  split at h
  · cases h
  · rename_i hr
    rw [if_neg hr]
    have hr : rightP m := Classical.byContradiction hr
    split at h
    · cases h
    · rename_i hrange
      rw [if_neg hrange]
      obtain ⟨i, x, e1, e11, hx, e3, e4, e5, e6, e7, e8, e9, e10⟩ := at13_spec hr (b := b) (by omega) (by omega)
      rw [e11] at h ⊢
      dsimp only at h ⊢
      split at h
      · cases h
      · rename_i h9
        rw [if_neg h9]
        obtain ⟨k, hk⟩ : ∃ k, i = k + 1 := ⟨i - 1, by omega⟩
        obtain ⟨y, hy⟩ := at_lt (l := m.pieces_) (i := k) (by have := (List.getElem?_eq_some_iff.mp hx).1; omega)
        subst hk
        rw [show k + 1 - 1 = k from rfl, hy] at h ⊢
        dsimp only at h ⊢
        split at h
        · cases h
        · rename_i hn
          rw [if_neg hn, next_zero h]
          obtain ⟨g1, g2⟩ := ends_two hr.2.2.2.2.2 hx hy
          have g3 : y.from_ < x.to_ := by
            simp only [endsAt] at g2
            split at g2
            · split at g2
              · omega
              · cases g2
            · cases g2
          show nodeL j (m.pieces_.take k ++ _ ++ _) = _
          have hn' : y.node_ = x.node_ := by omega
          rw [mid_node (mid := [y, x]) (mid' := [⟨y.from_, x.to_, x.node_⟩]) g1 g2 (by simp [endsAt]; omega) hj (fun q1 q2 => by
            simp only [nodeL, hn']; rw [if_pos q2]; split <;> rfl), ← split_list2 hx hy]

theorem move_node {m : T24} {b c : Int} (h : (moveM m b c).2 = 0) : rightP m ∧ 0 ≤ b ∧ b < m.n_ ∧ ∃ (i : Nat) (x : T58), findM m b = ((i : Int), 0) ∧ m.pieces_[i]? = some x ∧ ∀ j : Int, 0 ≤ j → nodeL j (moveM m b c).1.pieces_ = if x.from_ ≤ j ∧ j < x.to_ then c else nodeL j m.pieces_ := by
  rw [moveM] at h ⊢
  split at h
  · cases h
  · rename_i hr
    rw [if_neg hr]
    have hr : rightP m := Classical.byContradiction hr
    split at h
    · cases h
    · rename_i hrange
      rw [if_neg hrange]
      split at h
      · cases h
      · rename_i hc
        rw [if_neg hc]
        obtain ⟨i, x, e1, e11, hx, e3, e4, e5, e6, e7, e8, e9, e10⟩ := at13_spec hr (b := b) (by omega) (by omega)
        rw [e11] at h ⊢
        dsimp only at h ⊢
        split at h
        · cases h
        · rename_i hn
          rw [if_neg hn, next_zero h]
          refine ⟨hr, by omega, by omega, i, x, e1, hx, fun j hj => ?_⟩
          show nodeL j (m.pieces_.take i ++ [⟨x.from_, x.to_, c⟩] ++ m.pieces_.drop (i + 1)) = _
          have hl := split_list hx
          have g1 : endsAt x.from_ [(⟨x.from_, x.to_, c⟩ : T58)] = some x.to_ := by simp [endsAt]; omega
          have g2 : endsAt x.from_ [x] = some x.to_ := by simp [endsAt]; omega
          have hm : nodeL j m.pieces_ = nodeL j (m.pieces_.take i ++ [x] ++ m.pieces_.drop (i + 1)) := by rw [← hl]
          rw [hm, List.append_assoc, List.append_assoc, nodeL_append e5 hj, nodeL_append e5 hj]
          by_cases q1 : j < x.from_
          · rw [if_pos q1, if_pos q1, if_neg (by omega)]
          · rw [if_neg q1, if_neg q1, nodeL_append g1 (by omega), nodeL_append g2 (by omega)]
            by_cases q2 : j < x.to_
            · rw [if_pos q2, if_pos ⟨by omega, q2⟩, nodeL, if_pos q2]
            · rw [if_neg q2, if_neg q2, if_neg (by omega)]

end Go.Proofs.Ytgcllbcpdcfkmaa

