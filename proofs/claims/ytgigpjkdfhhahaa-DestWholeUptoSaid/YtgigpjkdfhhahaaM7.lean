import Derived.Test.YtgigpjkdfhhahaaD20
namespace Go.Proofs.Ytgigpjkdfhhahaa.M
open Go.A
set_option linter.unusedVariables false
set_option linter.unusedSimpArgs false
set_option linter.unnecessarySimpa false
attribute [local irreducible] IntKind.wrap bitsI
set_option maxRecDepth 100000
set_option maxHeartbeats 4000000

theorem pieceIx_spec (b : Int) : ∀ (l : List T50) (a n : Int) (k : Nat), endsAt a l = some n → a ≤ b → b < n → ∃ (i : Nat) (x : T50), pieceIx b (k : Int) l = ((k + i : Nat) : Int) ∧ l[i]? = some x ∧ x.from_ ≤ b ∧ b < x.to_ ∧ endsAt a (l.take i) = some x.from_ ∧ 0 ≤ x.node_ ∧ x.node_ < 16 ∧ (i = 0 → x.from_ = a) ∧ a ≤ x.from_ ∧ x.to_ ≤ n
  | [], a, n, k, h, h1, h2 => by simp [endsAt] at h; omega
  | x :: l, a, n, k, h, h1, h2 => by
    simp only [endsAt] at h
    split at h
    · rename_i hc
      by_cases hb : b < x.to_
      · refine ⟨0, x, by rw [pieceIx, if_pos hb]; rfl, rfl, by omega, hb, ?_, by omega, by omega, fun _ => by omega, by omega, ?_⟩
        · simp only [List.take_zero, endsAt]; rw [hc.1]
        · exact endsAt_le h
      · obtain ⟨i, y, e1, e2, e3, e4, e5, e6, e7, e8, e9, e10⟩ := pieceIx_spec b l x.to_ n (k + 1) h (by omega) h2
        refine ⟨i + 1, y, ?_, by simpa using e2, e3, e4, ?_, e6, e7, fun h => by omega, by omega, e10⟩
        · rw [pieceIx, if_neg hb]
          rw [show (k : Int) + 1 = ((k + 1 : Nat) : Int) from rfl, e1]
          congr 1; omega
        · rw [List.take_succ_cons, endsAt, if_pos hc]; exact e5
    · cases h

theorem find_spec {m : T23} {b : Int} (hr : rightP m) (h0 : 0 ≤ b) (h1 : b < m.n_) : ∃ (i : Nat) (x : T50), findM m b = ((i : Int), 0) ∧ m.pieces_[i]? = some x ∧ x.from_ ≤ b ∧ b < x.to_ ∧ endsAt 0 (m.pieces_.take i) = some x.from_ ∧ 0 ≤ x.node_ ∧ x.node_ < 16 ∧ (i = 0 → x.from_ = 0) ∧ 0 ≤ x.from_ ∧ x.to_ ≤ m.n_ := by
  obtain ⟨i, x, e1, e2, e3, e4, e5, e6, e7, e8, e9, e10⟩ := pieceIx_spec b m.pieces_ 0 m.n_ 0 hr.2.2.2.2.2 h0 h1
  refine ⟨i, x, ?_, e2, e3, e4, e5, e6, e7, e8, e9, e10⟩
  rw [findM, if_pos hr, if_neg (by omega)]
  simp only [Nat.zero_add] at e1
  rw [← e1]; rfl
def nodeL (b : Int) : List T50 → Int
  | [] => 0
  | x :: l => if b < x.to_ then x.node_ else nodeL b l
theorem pieceIx_ge (b : Int) : ∀ (l : List T50) (k : Int), pieceIx b k l = -1 ∨ k ≤ pieceIx b k l
  | [], k => .inl rfl
  | x :: l, k => by
    rw [pieceIx]
    split
    · exact .inr (Int.le_refl _)
    · rcases pieceIx_ge b l (k + 1) with h | h
      · exact .inl h
      · exact .inr (by omega)

theorem nodeL_ix (b : Int) : ∀ (l : List T50) (k i : Nat) (x : T50), pieceIx b (k : Int) l = ((k + i : Nat) : Int) → l[i]? = some x → nodeL b l = x.node_
  | [], k, i, x, h, hx => by simp at hx
  | y :: l, k, i, x, h, hx => by
    rw [pieceIx] at h
    rw [nodeL]
    split at h
    · rename_i hb
      obtain rfl : i = 0 := by omega
      simp at hx; subst hx
      rw [if_pos hb]
    · rename_i hb
      rw [if_neg hb]
      have := pieceIx_ge b l (k + 1)
      obtain ⟨j, rfl⟩ : ∃ j, i = j + 1 := ⟨i - 1, by omega⟩
      exact nodeL_ix b l (k + 1) j x (by rw [show ((k + 1 : Nat) : Int) = (k : Int) + 1 from rfl, h]; congr 1; omega) (by simpa using hx)

theorem nodeL_spec {m : T23} {b : Int} {i : Nat} {x : T50} (hr : rightP m) (h0 : 0 ≤ b) (h1 : b < m.n_) (e1 : findM m b = ((i : Int), 0)) (hx : m.pieces_[i]? = some x) : nodeL b m.pieces_ = x.node_ := by
  rw [findM, if_pos hr, if_neg (by omega)] at e1
  have e : pieceIx b 0 m.pieces_ = (i : Int) := congrArg Prod.fst e1
  exact nodeL_ix b m.pieces_ 0 i x (by rw [Nat.zero_add]; exact e) hx

theorem f20_ok (m : T23) (b : Int) (hm : ok24 m) (hr : rightP m) (h0 : 0 ≤ b) (h1 : b < m.n_) : Pure Try.prog 20 [d24 m, d3 b] (d3 (nodeL b m.pieces_)) := by
  have hb : ok3 b := by have := hr.2.2.2.1; simp only [ok3]; omega
  refine Pure.of ⟨sc24 _ _, trivial, trivial⟩ trivial ?_
  refine Go.A.CallsIn.of_exec tab_ok mixed Try.func20 rfl rfl [] [] ?_
  obtain ⟨i, x, e1, hx, _⟩ := find_spec hr h0 h1
  rw [nodeL_spec hr h0 h1 e1 hx]
  have h25 := f48_ok m b hm hb
  rw [e1] at h25
  dsimp only at h25
  repeat' ((conv => whnf); first
    | refine PairK.mk (by kernel_rfl) ?_ | refine And.intro (by decide) ?_ | refine And.intro rfl ?_ | refine And.intro (List.cons_ne_nil _ _) ?_ | refine And.intro (Nat.le_of_ble_eq_true rfl) ?_ | refine And.intro (by omega) ?_ | refine And.intro (by simp only [List.length_map, List.length_append, List.length_cons, List.length_nil]; omega) ?_ | refine And.intro (by simpa only [List.length_map, List.length_append, List.length_cons, List.length_nil] using rfl) ?_ | refine And.intro (Eq.symm (List.length_map _)) ?_ | refine And.intro (all_map (fun _ => rfl)) ?_
    | refine And.intro (cells_map (fun _ => rfl)) ?_ | refine And.intro (rows_map (fun _ => rfl) (fun _ => rfl)) ?_ | refine And.intro (okRows_one rfl rfl) ?_ | refine And.intro (okRows_all rfl) ?_ | refine boolF_t (beq_self_eq_true _) ?_ | refine Exists.intro _ (And.intro (map_get (by assumption)) ?_) | refine Exists.intro _ (And.intro (Eq.refl (α := Option D) _) ?_) | refine Exists.intro _ (And.intro (⟨(List.length_map _).symm⟩) ?_) | refine Exists.intro _ (And.intro (⟨len_one⟩) ?_) | refine Exists.intro _ (And.intro (⟨len_two⟩) ?_) | refine Exists.intro _ (And.intro (⟨len_three⟩) ?_)
    | refine Exists.intro _ (And.intro (⟨len_four⟩) ?_) | refine Exists.intro _ (And.intro (⟨lenl_1⟩) ?_) | refine Exists.intro _ (And.intro (⟨lenl_2⟩) ?_) | refine Exists.intro _ (And.intro (⟨lenl_3⟩) ?_) | refine Exists.intro _ (And.intro (⟨lenl_4⟩) ?_) | refine Exists.intro _ (And.intro (⟨len_more⟩) ?_) | refine Exists.intro _ (And.intro (⟨map_slice⟩) ?_) | refine Exists.intro _ (And.intro (⟨List.map_take⟩) ?_) | refine Exists.intro _ (And.intro (⟨List.map_drop⟩) ?_) | refine Exists.intro _ (And.intro (⟨map_full'⟩) ?_) | refine Exists.intro _ (And.intro (⟨map_full⟩) ?_)
    | refine Exists.intro _ (And.intro (⟨map_snoc⟩) ?_) | refine Exists.intro _ (And.intro (⟨List.map_append⟩) ?_) | refine Exists.intro _ (And.intro (⟨Eq.refl (α := List D) _⟩) ?_) | refine Exists.intro _ (And.intro (⟨Eq.refl (α := Int) _⟩) (And.intro (by omega) ?_)) | refine Exists.intro (0) (And.intro (⟨rfl⟩) (And.intro (Nat.zero_le _) ?_)) | refine Exists.intro _ (And.intro (⟨nc1⟩) (And.intro (by omega) ?_)) | refine Exists.intro _ (Exists.intro _ (And.intro (⟨Eq.refl (α := Int) _⟩) (And.intro (⟨Eq.refl (α := Int) _⟩) (And.intro (by omega) (And.intro (by omega) ?_)))))
    | refine Exists.intro _ (Exists.intro _ (And.intro (⟨Eq.refl (α := Nat) _⟩) (And.intro (⟨Eq.refl (α := Nat) _⟩) ?_))) | refine Exists.intro _ (And.intro (⟨Eq.refl (α := Nat) _⟩) ?_) | refine Exists.intro _ (And.intro (u32and (by omega) (by omega)) ?_) | refine Exists.intro _ (And.intro (u32or (by omega) (by omega)) ?_) | refine Exists.intro _ (And.intro (u32xor (by omega) (by omega)) ?_) | refine Exists.intro _ (And.intro (u8xor (by omega) (by omega)) ?_) | refine Exists.intro _ (And.intro (u64and (by omega) (by omega)) ?_) | refine Exists.intro _ (And.intro (u64or (by omega) (by omega)) ?_)
    | refine Exists.intro _ (And.intro (u64xor (by omega) (by omega)) ?_) | refine Exists.intro _ (And.intro (w64 (by omega) (by omega)) ?_) | refine Exists.intro _ (And.intro (u32add (by omega)) ?_) | refine Exists.intro _ (And.intro (u64add (by omega)) ?_) | refine Exists.intro _ (And.intro (u8w (by omega)) ?_) | refine Exists.intro _ (And.intro (u32w (by omega)) ?_) | refine Exists.intro _ (And.intro (u64w (by omega)) ?_) | refine Exists.intro _ (And.intro (u8m) ?_) | refine Exists.intro _ (And.intro (u64i (by omega) (by omega)) ?_) | refine Exists.intro _ (And.intro (min_int) ?_)
    | refine Exists.intro _ (And.intro (max_int) ?_) | refine Exists.intro _ (And.intro (imin) ?_) | refine Exists.intro _ (And.intro (imax) ?_) | refine boolF_not ?_ | refine boolF_dect rfl ?_ | refine boolF_dect (by assumption) ?_ | refine boolF_decf (by assumption) ?_ | refine boolF_dect (by omega) ?_ | refine boolF_decf (by omega) ?_ | refine boolF_beqt (by omega) ?_ | refine boolF_beqf (by omega) ?_ | refine boolF_bnet (by omega) ?_ | refine boolF_bnef (by omega) ?_ | refine boolF_nbeqt (by omega) ?_ | refine boolF_nbeqf (by omega) ?_ | refine boolF_nbnet (by omega) ?_
    | refine boolF_nbnef (by omega) ?_ | refine boolF_t (by assumption) ?_ | refine boolF_f (by assumption) ?_ | refine boolF_dec (fun _ => ?_) (fun _ => ?_) | refine boolF_beq (fun _ => ?_) (fun _ => ?_) | refine boolF_bne (fun _ => ?_) (fun _ => ?_) | refine boolF_nbeq (fun _ => ?_) (fun _ => ?_) | refine boolF_nbne (fun _ => ?_) (fun _ => ?_) | refine boolF_leq (fun _ => ?_) (fun _ => ?_) | refine Both.mk ?_ ?_)
  all_goals (conv => whnf)
  refine Pure.call h25 ?_
  repeat' ((conv => whnf); first
    | refine PairK.mk (by kernel_rfl) ?_ | refine And.intro (by decide) ?_ | refine And.intro rfl ?_ | refine And.intro (List.cons_ne_nil _ _) ?_ | refine And.intro (Nat.le_of_ble_eq_true rfl) ?_ | refine And.intro (by omega) ?_ | refine And.intro (by simp only [List.length_map, List.length_append, List.length_cons, List.length_nil]; omega) ?_ | refine And.intro (by simpa only [List.length_map, List.length_append, List.length_cons, List.length_nil] using rfl) ?_ | refine And.intro (Eq.symm (List.length_map _)) ?_ | refine And.intro (all_map (fun _ => rfl)) ?_
    | refine And.intro (cells_map (fun _ => rfl)) ?_ | refine And.intro (rows_map (fun _ => rfl) (fun _ => rfl)) ?_ | refine And.intro (okRows_one rfl rfl) ?_ | refine And.intro (okRows_all rfl) ?_ | refine boolF_t (beq_self_eq_true _) ?_ | refine Exists.intro _ (And.intro (map_get (by assumption)) ?_) | refine Exists.intro _ (And.intro (Eq.refl (α := Option D) _) ?_) | refine Exists.intro _ (And.intro (⟨(List.length_map _).symm⟩) ?_) | refine Exists.intro _ (And.intro (⟨len_one⟩) ?_) | refine Exists.intro _ (And.intro (⟨len_two⟩) ?_) | refine Exists.intro _ (And.intro (⟨len_three⟩) ?_)
    | refine Exists.intro _ (And.intro (⟨len_four⟩) ?_) | refine Exists.intro _ (And.intro (⟨lenl_1⟩) ?_) | refine Exists.intro _ (And.intro (⟨lenl_2⟩) ?_) | refine Exists.intro _ (And.intro (⟨lenl_3⟩) ?_) | refine Exists.intro _ (And.intro (⟨lenl_4⟩) ?_) | refine Exists.intro _ (And.intro (⟨len_more⟩) ?_) | refine Exists.intro _ (And.intro (⟨map_slice⟩) ?_) | refine Exists.intro _ (And.intro (⟨List.map_take⟩) ?_) | refine Exists.intro _ (And.intro (⟨List.map_drop⟩) ?_) | refine Exists.intro _ (And.intro (⟨map_full'⟩) ?_) | refine Exists.intro _ (And.intro (⟨map_full⟩) ?_)
    | refine Exists.intro _ (And.intro (⟨map_snoc⟩) ?_) | refine Exists.intro _ (And.intro (⟨List.map_append⟩) ?_) | refine Exists.intro _ (And.intro (⟨Eq.refl (α := List D) _⟩) ?_) | refine Exists.intro _ (And.intro (⟨Eq.refl (α := Int) _⟩) (And.intro (by omega) ?_)) | refine Exists.intro (0) (And.intro (⟨rfl⟩) (And.intro (Nat.zero_le _) ?_)) | refine Exists.intro _ (And.intro (⟨nc1⟩) (And.intro (by omega) ?_)) | refine Exists.intro _ (Exists.intro _ (And.intro (⟨Eq.refl (α := Int) _⟩) (And.intro (⟨Eq.refl (α := Int) _⟩) (And.intro (by omega) (And.intro (by omega) ?_)))))
    | refine Exists.intro _ (Exists.intro _ (And.intro (⟨Eq.refl (α := Nat) _⟩) (And.intro (⟨Eq.refl (α := Nat) _⟩) ?_))) | refine Exists.intro _ (And.intro (⟨Eq.refl (α := Nat) _⟩) ?_) | refine Exists.intro _ (And.intro (u32and (by omega) (by omega)) ?_) | refine Exists.intro _ (And.intro (u32or (by omega) (by omega)) ?_) | refine Exists.intro _ (And.intro (u32xor (by omega) (by omega)) ?_) | refine Exists.intro _ (And.intro (u8xor (by omega) (by omega)) ?_) | refine Exists.intro _ (And.intro (u64and (by omega) (by omega)) ?_) | refine Exists.intro _ (And.intro (u64or (by omega) (by omega)) ?_)
    | refine Exists.intro _ (And.intro (u64xor (by omega) (by omega)) ?_) | refine Exists.intro _ (And.intro (w64 (by omega) (by omega)) ?_) | refine Exists.intro _ (And.intro (u32add (by omega)) ?_) | refine Exists.intro _ (And.intro (u64add (by omega)) ?_) | refine Exists.intro _ (And.intro (u8w (by omega)) ?_) | refine Exists.intro _ (And.intro (u32w (by omega)) ?_) | refine Exists.intro _ (And.intro (u64w (by omega)) ?_) | refine Exists.intro _ (And.intro (u8m) ?_) | refine Exists.intro _ (And.intro (u64i (by omega) (by omega)) ?_) | refine Exists.intro _ (And.intro (min_int) ?_)
    | refine Exists.intro _ (And.intro (max_int) ?_) | refine Exists.intro _ (And.intro (imin) ?_) | refine Exists.intro _ (And.intro (imax) ?_) | refine boolF_not ?_ | refine boolF_dect rfl ?_ | refine boolF_dect (by assumption) ?_ | refine boolF_decf (by assumption) ?_ | refine boolF_dect (by omega) ?_ | refine boolF_decf (by omega) ?_ | refine boolF_beqt (by omega) ?_ | refine boolF_beqf (by omega) ?_ | refine boolF_bnet (by omega) ?_ | refine boolF_bnef (by omega) ?_ | refine boolF_nbeqt (by omega) ?_ | refine boolF_nbeqf (by omega) ?_ | refine boolF_nbnet (by omega) ?_
    | refine boolF_nbnef (by omega) ?_ | refine boolF_t (by assumption) ?_ | refine boolF_f (by assumption) ?_ | refine boolF_dec (fun _ => ?_) (fun _ => ?_) | refine boolF_beq (fun _ => ?_) (fun _ => ?_) | refine boolF_bne (fun _ => ?_) (fun _ => ?_) | refine boolF_nbeq (fun _ => ?_) (fun _ => ?_) | refine boolF_nbne (fun _ => ?_) (fun _ => ?_) | refine boolF_leq (fun _ => ?_) (fun _ => ?_) | refine Both.mk ?_ ?_)
  all_goals (conv => whnf)
  exact ⟨rfl⟩

/-- The volume of pieces, each of its node's. -/
def wholeV (mk : Nat → List Nat) (l : List T50) : List Nat := (l.map fun p => ((mk p.node_.toNat).drop p.from_.toNat).take (p.to_ - p.from_).toNat).flatten
theorem whole_at {mk : Nat → List Nat} {N : Nat} : ∀ (l : List T50) (a : Nat), endsAt (a : Int) l = some (N : Int) → (∀ p ∈ l, (mk p.node_.toNat).length = N) → ∀ i, a ≤ i → i < N → (wholeV mk l)[i - a]? = (mk (nodeL (i : Int) l).toNat)[i]?
  | [], a, h, _, i, h1, h2 => by
    simp only [endsAt, Option.some.injEq] at h
    omega
  | p :: l, a, h, hl, i, h1, h2 => by
    simp only [endsAt] at h
    split at h
    · rename_i hc
      obtain ⟨c1, c2, c3, c4⟩ := hc
      have hle := endsAt_le h
      obtain ⟨t, ht⟩ := Int.eq_ofNat_of_zero_le (show 0 ≤ p.to_ by omega)
      have hpl := hl p List.mem_cons_self
      have e : wholeV mk (p :: l) = ((mk p.node_.toNat).drop p.from_.toNat).take (p.to_ - p.from_).toNat ++ wholeV mk l := by simp [wholeV]
      have hlen : (((mk p.node_.toNat).drop p.from_.toNat).take (p.to_ - p.from_).toNat).length = t - a := by
        rw [List.length_take, List.length_drop, hpl]; omega
      rw [e, nodeL]
      by_cases hi : (i : Int) < p.to_
      · rw [if_pos hi, List.getElem?_append_left (by omega), List.getElem?_take, if_pos (by omega), List.getElem?_drop]
        congr 1
        omega
      · rw [if_neg hi, List.getElem?_append_right (by omega), hlen, show i - a - (t - a) = i - t by omega]
        rw [ht] at h
        exact whole_at l t h (fun q hq => hl q (List.mem_cons_of_mem _ hq)) i (by omega) h2
    · cases h
theorem ends_node : ∀ {l : List T50} {a N : Int}, endsAt a l = some N → ∀ p ∈ l, 0 ≤ p.node_ ∧ p.node_ < 16
  | [], _, _, _, p, hp => by cases hp
  | x :: l, a, N, h, p, hp => by
    simp only [endsAt] at h
    split at h
    · rename_i hc
      rcases List.mem_cons.mp hp with rfl | hp
      · exact ⟨hc.2.2.1, hc.2.2.2⟩
      · exact ends_node h p hp
    · cases h
theorem whole_len {mk : Nat → List Nat} {N : Nat} : ∀ (l : List T50) (a : Nat), endsAt (a : Int) l = some (N : Int) → (∀ p ∈ l, (mk p.node_.toNat).length = N) → (wholeV mk l).length + a = N
  | [], a, h, _ => by
    simp only [endsAt, Option.some.injEq] at h
    simp [wholeV]; omega
  | p :: l, a, h, hl => by
    simp only [endsAt] at h
    split at h
    · rename_i hc
      obtain ⟨c1, c2, c3, c4⟩ := hc
      have hle := endsAt_le h
      obtain ⟨t, ht⟩ := Int.eq_ofNat_of_zero_le (show 0 ≤ p.to_ by omega)
      have hpl := hl p List.mem_cons_self
      have e : wholeV mk (p :: l) = ((mk p.node_.toNat).drop p.from_.toNat).take (p.to_ - p.from_).toNat ++ wholeV mk l := by simp [wholeV]
      rw [ht] at h
      have ih := whole_len l t h (fun q hq => hl q (List.mem_cons_of_mem _ hq))
      rw [e, List.length_append, List.length_take, List.length_drop, hpl]
      omega
    · cases h

end Go.Proofs.Ytgigpjkdfhhahaa.M

