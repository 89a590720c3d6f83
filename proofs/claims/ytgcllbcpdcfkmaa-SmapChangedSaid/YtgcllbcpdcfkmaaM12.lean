import Derived.Test.YtgcllbcpdcfkmaaM11
namespace Go.Proofs.Ytgcllbcpdcfkmaa
open Go.A
set_option linter.unusedVariables false
set_option linter.unusedSimpArgs false
set_option linter.unnecessarySimpa false
attribute [local irreducible] IntKind.wrap bitsI
set_option maxRecDepth 100000
set_option maxHeartbeats 4000000

theorem endsAt_append : ∀ (l1 l2 : List T58) (a : Int), endsAt a (l1 ++ l2) = (endsAt a l1).bind fun b => endsAt b l2
  | [], l2, a => rfl
  | x :: l1, l2, a => by
    simp only [List.cons_append, endsAt]
    split
    · exact endsAt_append l1 l2 _
    · rfl

theorem pieceIx_append {b : Int} : ∀ {l1 l2 : List T58} {a c : Int} {k : Nat}, endsAt a l1 = some c → c ≤ b → pieceIx b (k : Int) (l1 ++ l2) = pieceIx b ((k + l1.length : Nat) : Int) l2
  | [], l2, a, c, k, _, _ => rfl
  | x :: l1, l2, a, c, k, h, hb => by
    simp only [endsAt] at h
    split at h
    · have := endsAt_le h
      rw [List.cons_append, pieceIx, if_neg (by omega), show (k : Int) + 1 = ((k + 1 : Nat) : Int) from rfl, pieceIx_append h hb]
      congr 1
      simp only [List.length_cons]; omega
    · cases h

def nodeL (b : Int) : List T58 → Int
  | [] => 0
  | x :: l => if b < x.to_ then x.node_ else nodeL b l

theorem nodeL_append {b : Int} : ∀ {l1 l2 : List T58} {a c : Int}, endsAt a l1 = some c → a ≤ b → nodeL b (l1 ++ l2) = if b < c then nodeL b l1 else nodeL b l2
  | [], l2, a, c, h, hb => by
    simp only [endsAt, Option.some.injEq] at h
    rw [if_neg (by omega)]; rfl
  | x :: l1, l2, a, c, h, hb => by
    simp only [endsAt] at h
    split at h
    · have hle := endsAt_le h
      rw [List.cons_append, nodeL]
      by_cases hx : b < x.to_
      · rw [if_pos hx, if_pos (by omega), nodeL, if_pos hx]
      · rw [if_neg hx, nodeL_append h (by omega)]
        split
        · rw [nodeL, if_neg hx]
        · rfl
    · cases h

/-- What stands in the middle may be another, if it leads as far. -/
theorem mid_ends {l1 mid mid' l2 : List T58} {a x y : Int} (h1 : endsAt a l1 = some x) (h2 : endsAt x mid = some y) (h3 : endsAt x mid' = some y) : endsAt a (l1 ++ mid' ++ l2) = endsAt a (l1 ++ mid ++ l2) := by
  simp only [List.append_assoc, endsAt_append, h1, Option.bind_some, h2, h3]

theorem mid_node {l1 mid mid' l2 : List T58} {a x y b : Int} (h1 : endsAt a l1 = some x) (h2 : endsAt x mid = some y) (h3 : endsAt x mid' = some y) (hb : a ≤ b) (hn : x ≤ b → b < y → nodeL b mid' = nodeL b mid) : nodeL b (l1 ++ mid' ++ l2) = nodeL b (l1 ++ mid ++ l2) := by
  rw [List.append_assoc, List.append_assoc, nodeL_append h1 hb, nodeL_append h1 hb]
  split
  · rfl
  · rw [nodeL_append h2 (by omega), nodeL_append h3 (by omega)]
    split
    · exact hn (by omega) (by assumption)
    · rfl

theorem split_list {l : List T58} {i : Nat} {x : T58} (hx : l[i]? = some x) : l = l.take i ++ [x] ++ l.drop (i + 1) := by
  rw [← take_snoc hx, List.take_append_drop]

theorem split_list2 {l : List T58} {i : Nat} {x y : T58} (hx : l[i + 1]? = some x) (hy : l[i]? = some y) : l = l.take i ++ [y, x] ++ l.drop (i + 2) := by
  have h := split_list hx
  rw [take_snoc hy] at h
  rw [show l.take i ++ [y, x] = l.take i ++ [y] ++ [x] by simp]
  exact h

theorem at13_spec {m : T24} {b : Int} (hr : rightP m) (h0 : 0 ≤ b) (h1 : b < m.n_) : ∃ (i : Nat) (x : T58), findM m b = ((i : Int), 0) ∧ at13 m b = some (i, x) ∧ m.pieces_[i]? = some x ∧ x.from_ ≤ b ∧ b < x.to_ ∧ endsAt 0 (m.pieces_.take i) = some x.from_ ∧ 0 ≤ x.node_ ∧ x.node_ < 16 ∧ (i = 0 → x.from_ = 0) ∧ 0 ≤ x.from_ ∧ x.to_ ≤ m.n_ := by
  obtain ⟨i, x, e1, hx, e3⟩ := find_spec hr h0 h1
  exact ⟨i, x, e1, at13_eq hr h0 h1 e1 hx, hx, e3⟩

/-- What a map that is made is. -/
theorem split_case {m : T24} {b : Int} (h : (splitM m b).2 = 0) : rightP m ∧ 1 ≤ b ∧ b < m.n_ ∧ m.version_ < 1099511627776 ∧ m.pieces_.length < 16 ∧ ∃ (i : Nat) (x : T58), m.pieces_[i]? = some x ∧ x.from_ < b ∧ b < x.to_ ∧ endsAt 0 (m.pieces_.take i) = some x.from_ ∧ 0 ≤ x.node_ ∧ x.node_ < 16 ∧
    (splitM m b).1 = ⟨m.version_ + 1, m.n_, m.pieces_.take i ++ [⟨x.from_, b, x.node_⟩, ⟨b, x.to_, x.node_⟩] ++ m.pieces_.drop (i + 1)⟩ := by
  by_cases hr : rightP m ∧ 1 ≤ b ∧ b < m.n_
  · obtain ⟨hr, h1, h2⟩ := hr
    obtain ⟨i, x, e1, e11, hx, e3, e4, e5, e6, e7, e8, e9, e10⟩ := at13_spec hr (b := b) (by omega) h2
    rw [splitM, if_neg (fun h => h.elim (fun h => h hr) (fun h => by omega)), e11] at h ⊢
    dsimp only at h ⊢
    split at h
    · cases h
    · rename_i hne
      split at h
      · cases h
      · rename_i h16
        have hl := hr.2.2.2.2.1
        rw [if_neg hne, if_neg h16]
        unfold nextM at h ⊢
        split at h
        · cases h
        · rename_i hv
          rw [if_neg hv]
          exact ⟨hr, h1, h2, by omega, by omega, i, x, hx, by omega, e4, e5, e6, e7, rfl⟩
  · rw [splitM_out hr] at h; cases h

theorem split_right {m : T24} {b : Int} (h : (splitM m b).2 = 0) : rightP (splitM m b).1 ∧ (splitM m b).1.version_ = m.version_ + 1 ∧ (splitM m b).1.n_ = m.n_ := by
  obtain ⟨hr, h1, h2, hv, hl, i, x, hx, e3, e4, e5, e6, e7, e⟩ := split_case h
  rw [e]
  have hi := (List.getElem?_eq_some_iff.mp hx).1
  have hm := mid_ends (mid := [x]) (mid' := [⟨x.from_, b, x.node_⟩, ⟨b, x.to_, x.node_⟩]) (l2 := m.pieces_.drop (i + 1)) e5 (y := x.to_) (by simp [endsAt]; omega) (by simp [endsAt]; omega)
  refine ⟨⟨?_, ?_, hr.2.2.1, hr.2.2.2.1, ?_, ?_⟩, rfl, rfl⟩
  · have := hr.1; dsimp only; omega
  · dsimp only; omega
  · simp only [List.length_append, List.length_take, List.length_drop, List.length_cons, List.length_nil]; omega
  · show endsAt 0 (m.pieces_.take i ++ _ ++ _) = _
    rw [hm, ← split_list hx]; exact hr.2.2.2.2.2

theorem split_merge {m : T24} {b : Int} (h : (splitM m b).2 = 0) (hv2 : (splitM m b).1.version_ < 1099511627776) : mergeM (splitM m b).1 b = (⟨m.version_ + 2, m.n_, m.pieces_⟩, 0) := by
  obtain ⟨hra, _, hn⟩ := split_right h
  obtain ⟨hr, h1, h2, hv, hl, i, x, hx, e3, e4, e5, e6, e7, e⟩ := split_case h
  have hi := (List.getElem?_eq_some_iff.mp hx).1
  have hti : (m.pieces_.take i).length = i := by rw [List.length_take]; omega
  rw [e] at hra hv2 ⊢
  obtain ⟨a, ha⟩ : ∃ a : T24, a = ⟨m.version_ + 1, m.n_, m.pieces_.take i ++ [⟨x.from_, b, x.node_⟩, ⟨b, x.to_, x.node_⟩] ++ m.pieces_.drop (i + 1)⟩ := ⟨_, rfl⟩
  rw [← ha] at hra hv2 ⊢
  have hpa : a.pieces_ = m.pieces_.take i ++ ⟨x.from_, b, x.node_⟩ :: ⟨b, x.to_, x.node_⟩ :: m.pieces_.drop (i + 1) := by rw [ha, List.append_assoc]; rfl
  have ex : pieceIx b 0 a.pieces_ = ((i + 1 : Nat) : Int) := by
    rw [hpa, show (0 : Int) = ((0 : Nat) : Int) from rfl, pieceIx_append e5 (by omega), pieceIx, if_neg (by dsimp only; omega), pieceIx, if_pos (by dsimp only; omega), hti]
    simp
  have g1 : a.pieces_[i + 1]? = some ⟨b, x.to_, x.node_⟩ := by
    rw [hpa, List.getElem?_append_right (by omega), hti]
    simp
  have g0 : a.pieces_[i]? = some ⟨x.from_, b, x.node_⟩ := by
    rw [hpa, List.getElem?_append_right (by omega), hti]
    simp
  have ea : at13 a b = some (i + 1, ⟨b, x.to_, x.node_⟩) := by
    simp only [at13, ex, Int.toNat_natCast, g1]
  have gt : a.pieces_.take i = m.pieces_.take i := by
    rw [hpa, List.take_append_of_le_length (by omega), List.take_take]; simp
  have gd : a.pieces_.drop (i + 2) = m.pieces_.drop (i + 1) := by
    rw [hpa, show i + 2 = (m.pieces_.take i).length + 2 by omega, List.drop_append]
    simp
  have hn' : a.n_ = m.n_ := by rw [ha]
  have hv' : a.version_ = m.version_ + 1 := by rw [ha]
  rw [mergeM, if_neg (fun h => h hra), if_neg (by omega), ea]
  dsimp only
  rw [if_neg (by simp), show i + 1 - 1 = i from rfl, g0]
  dsimp only
  rw [if_neg (by simp), show i + 1 + 1 = i + 2 from rfl, gt, gd, nextM, if_neg (by omega), hn', hv']
  rw [show ([⟨x.from_, x.to_, x.node_⟩] : List T58) = [x] from rfl, ← split_list hx]
  congr 2
  omega


theorem smapBack_true (m : T24) (b : Int) (h0 : ok25 m) (h1 : ok3 b) : CallsIn Try.prog 5 [d25 m, d3 b] [] fun r _ => r = .bool true := by
  have k1 := (splitM_ok h0 h1).1
  have k2 := (mergeM_ok k1 h1).1
  have hv := h0.1
  simp only [ok3] at hv
  refine CallsIn.of_exec tab_ok mixed Try.func5 rfl rfl [] [] ?_
  repeat' ((conv => whnf); first
    | refine PairK.mk (by kernel_rfl) ?_ | refine And.intro (by decide) ?_ | refine And.intro rfl ?_ | refine And.intro (List.cons_ne_nil _ _) ?_ | refine And.intro (Nat.le_of_ble_eq_true rfl) ?_ | refine And.intro (by omega) ?_ | refine And.intro (by simp only [List.length_map, List.length_append, List.length_cons, List.length_nil]; omega) ?_ | refine And.intro (by simpa only [List.length_map, List.length_append, List.length_cons, List.length_nil] using rfl) ?_ | refine And.intro (Eq.symm (List.length_map _)) ?_ | refine And.intro (all_map (fun _ => rfl)) ?_
    | refine And.intro (cells_map (fun _ => rfl)) ?_ | refine And.intro (rows_map (fun _ => rfl) (fun _ => rfl)) ?_ | refine And.intro (okRows_one rfl rfl) ?_ | refine And.intro (okRows_all rfl) ?_ | refine boolF_t (beq_self_eq_true _) ?_ | refine Exists.intro _ (And.intro (map_get (by assumption)) ?_) | refine Exists.intro _ (And.intro (Eq.refl (α := Option D) _) ?_) | refine Exists.intro _ (And.intro (⟨(List.length_map _).symm⟩) ?_) | refine Exists.intro _ (And.intro (⟨len_one⟩) ?_) | refine Exists.intro _ (And.intro (⟨len_two⟩) ?_) | refine Exists.intro _ (And.intro (⟨len_three⟩) ?_)
    | refine Exists.intro _ (And.intro (⟨len_four⟩) ?_) | refine Exists.intro _ (And.intro (⟨lenl_1⟩) ?_) | refine Exists.intro _ (And.intro (⟨lenl_2⟩) ?_) | refine Exists.intro _ (And.intro (⟨lenl_3⟩) ?_) | refine Exists.intro _ (And.intro (⟨lenl_4⟩) ?_) | refine Exists.intro _ (And.intro (⟨len_more⟩) ?_) | refine Exists.intro _ (And.intro (⟨map_slice⟩) ?_) | refine Exists.intro _ (And.intro (⟨List.map_take⟩) ?_) | refine Exists.intro _ (And.intro (⟨List.map_drop⟩) ?_) | refine Exists.intro _ (And.intro (⟨map_full'⟩) ?_) | refine Exists.intro _ (And.intro (⟨map_full⟩) ?_)
    | refine Exists.intro _ (And.intro (⟨map_snoc⟩) ?_) | refine Exists.intro _ (And.intro (⟨List.map_append⟩) ?_) | refine Exists.intro _ (And.intro (⟨Eq.refl (α := List D) _⟩) ?_) | refine Exists.intro _ (And.intro (⟨Eq.refl (α := Int) _⟩) (And.intro (by omega) ?_)) | refine Exists.intro (0) (And.intro (⟨rfl⟩) (And.intro (Nat.zero_le _) ?_)) | refine Exists.intro _ (And.intro (⟨nc1⟩) (And.intro (by omega) ?_)) | refine Exists.intro _ (Exists.intro _ (And.intro (⟨Eq.refl (α := Int) _⟩) (And.intro (⟨Eq.refl (α := Int) _⟩) (And.intro (by omega) (And.intro (by omega) ?_)))))
    | refine Exists.intro _ (Exists.intro _ (And.intro (⟨Eq.refl (α := Nat) _⟩) (And.intro (⟨Eq.refl (α := Nat) _⟩) ?_))) | refine Exists.intro _ (And.intro (⟨Eq.refl (α := Nat) _⟩) ?_) | refine Exists.intro _ (And.intro (w64 (by omega) (by omega)) ?_) | refine Exists.intro _ (And.intro (imin) ?_) | refine Exists.intro _ (And.intro (imax) ?_) | refine Pure.call (f15_ok _) ?_ | refine Pure.locK (f15_ok _) ?_ | refine Pure.call (f22_ok _ _ h0 h1) ?_ | refine Pure.locK (f22_ok _ _ h0 h1) ?_ | refine Pure.call (f23_ok _ _ k1 h1) ?_ | refine Pure.locK (f23_ok _ _ k1 h1) ?_
    | refine Pure.call (f18_ok) ?_ | refine Pure.locK (f18_ok) ?_ | refine boolF_not ?_ | refine boolF_dect rfl ?_ | refine boolF_dect (by assumption) ?_ | refine boolF_decf (by assumption) ?_ | refine boolF_dect (by omega) ?_ | refine boolF_decf (by omega) ?_ | refine boolF_beqt (by omega) ?_ | refine boolF_beqf (by omega) ?_ | refine boolF_bnet (by omega) ?_ | refine boolF_bnef (by omega) ?_ | refine boolF_t (by assumption) ?_ | refine boolF_f (by assumption) ?_ | refine boolF_dec (fun _ => ?_) (fun _ => ?_) | refine boolF_beq (fun _ => ?_) (fun _ => ?_)
    | refine boolF_bne (fun _ => ?_) (fun _ => ?_) | refine boolF_leq (fun _ => ?_) (fun _ => ?_) | refine Both.mk ?_ ?_)
  all_goals (conv => whnf)
  · exact ⟨rfl⟩
  · rename_i hs hf hm
    have em := split_merge hs (by omega)
    rw [em]
    dsimp only
    refine Pure.call (f21_ok m.pieces_ m.pieces_ h0.2.2 h0.2.2) ?_
    have hv2 := (split_case hs).2.2.2.1
    repeat' ((conv => whnf); first
      | refine PairK.mk (by kernel_rfl) ?_ | refine And.intro (by decide) ?_ | refine And.intro rfl ?_ | refine And.intro (List.cons_ne_nil _ _) ?_ | refine And.intro (Nat.le_of_ble_eq_true rfl) ?_ | refine And.intro (by omega) ?_ | refine And.intro (by simp only [List.length_map, List.length_append, List.length_cons, List.length_nil]; omega) ?_ | refine And.intro (by simpa only [List.length_map, List.length_append, List.length_cons, List.length_nil] using rfl) ?_ | refine And.intro (Eq.symm (List.length_map _)) ?_ | refine And.intro (all_map (fun _ => rfl)) ?_
      | refine And.intro (cells_map (fun _ => rfl)) ?_ | refine And.intro (rows_map (fun _ => rfl) (fun _ => rfl)) ?_ | refine And.intro (okRows_one rfl rfl) ?_ | refine And.intro (okRows_all rfl) ?_ | refine boolF_t (beq_self_eq_true _) ?_ | refine Exists.intro _ (And.intro (map_get (by assumption)) ?_) | refine Exists.intro _ (And.intro (Eq.refl (α := Option D) _) ?_) | refine Exists.intro _ (And.intro (⟨(List.length_map _).symm⟩) ?_) | refine Exists.intro _ (And.intro (⟨len_one⟩) ?_) | refine Exists.intro _ (And.intro (⟨len_two⟩) ?_) | refine Exists.intro _ (And.intro (⟨len_three⟩) ?_)
      | refine Exists.intro _ (And.intro (⟨len_four⟩) ?_) | refine Exists.intro _ (And.intro (⟨lenl_1⟩) ?_) | refine Exists.intro _ (And.intro (⟨lenl_2⟩) ?_) | refine Exists.intro _ (And.intro (⟨lenl_3⟩) ?_) | refine Exists.intro _ (And.intro (⟨lenl_4⟩) ?_) | refine Exists.intro _ (And.intro (⟨len_more⟩) ?_) | refine Exists.intro _ (And.intro (⟨map_slice⟩) ?_) | refine Exists.intro _ (And.intro (⟨List.map_take⟩) ?_) | refine Exists.intro _ (And.intro (⟨List.map_drop⟩) ?_) | refine Exists.intro _ (And.intro (⟨map_full'⟩) ?_) | refine Exists.intro _ (And.intro (⟨map_full⟩) ?_)
      | refine Exists.intro _ (And.intro (⟨map_snoc⟩) ?_) | refine Exists.intro _ (And.intro (⟨List.map_append⟩) ?_) | refine Exists.intro _ (And.intro (⟨Eq.refl (α := List D) _⟩) ?_) | refine Exists.intro _ (And.intro (⟨Eq.refl (α := Int) _⟩) (And.intro (by omega) ?_)) | refine Exists.intro (0) (And.intro (⟨rfl⟩) (And.intro (Nat.zero_le _) ?_)) | refine Exists.intro _ (And.intro (⟨nc1⟩) (And.intro (by omega) ?_)) | refine Exists.intro _ (Exists.intro _ (And.intro (⟨Eq.refl (α := Int) _⟩) (And.intro (⟨Eq.refl (α := Int) _⟩) (And.intro (by omega) (And.intro (by omega) ?_)))))
      | refine Exists.intro _ (Exists.intro _ (And.intro (⟨Eq.refl (α := Nat) _⟩) (And.intro (⟨Eq.refl (α := Nat) _⟩) ?_))) | refine Exists.intro _ (And.intro (⟨Eq.refl (α := Nat) _⟩) ?_) | refine Exists.intro _ (And.intro (w64 (by omega) (by omega)) ?_) | refine Exists.intro _ (And.intro (imin) ?_) | refine Exists.intro _ (And.intro (imax) ?_) | refine Pure.call (f15_ok _) ?_ | refine Pure.locK (f15_ok _) ?_ | refine Pure.call (f22_ok _ _ h0 h1) ?_ | refine Pure.locK (f22_ok _ _ h0 h1) ?_ | refine Pure.call (f23_ok _ _ k1 h1) ?_ | refine Pure.locK (f23_ok _ _ k1 h1) ?_
      | refine Pure.call (f18_ok) ?_ | refine Pure.locK (f18_ok) ?_ | refine boolF_not ?_ | refine boolF_dect rfl ?_ | refine boolF_dect (by assumption) ?_ | refine boolF_decf (by assumption) ?_ | refine boolF_dect (by omega) ?_ | refine boolF_decf (by omega) ?_ | refine boolF_beqt (by omega) ?_ | refine boolF_beqf (by omega) ?_ | refine boolF_bnet (by omega) ?_ | refine boolF_bnef (by omega) ?_ | refine boolF_t (by assumption) ?_ | refine boolF_f (by assumption) ?_ | refine boolF_dec (fun _ => ?_) (fun _ => ?_) | refine boolF_beq (fun _ => ?_) (fun _ => ?_)
      | refine boolF_bne (fun _ => ?_) (fun _ => ?_) | refine boolF_leq (fun _ => ?_) (fun _ => ?_) | refine Both.mk ?_ ?_)
    all_goals (conv => whnf)
    exact ⟨rfl⟩
  · rename_i hs hf hm
    have em := split_merge hs (by omega)
    exact absurd (by rw [em]) hm
  · exact ⟨rfl⟩

end Go.Proofs.Ytgcllbcpdcfkmaa

