import Derived.Test.YtgcllbcpdcfkmaaM6
namespace Go.Proofs.Ytgcllbcpdcfkmaa
open Go.A
set_option linter.unusedVariables false
set_option linter.unusedSimpArgs false
set_option linter.unnecessarySimpa false
attribute [local irreducible] IntKind.wrap bitsI
set_option maxRecDepth 100000

theorem pieceIx_spec (b : Int) : ∀ (l : List T58) (a n : Int) (k : Nat), endsAt a l = some n → a ≤ b → b < n → ∃ (i : Nat) (x : T58), pieceIx b (k : Int) l = ((k + i : Nat) : Int) ∧ l[i]? = some x ∧ x.from_ ≤ b ∧ b < x.to_ ∧ endsAt a (l.take i) = some x.from_ ∧ 0 ≤ x.node_ ∧ x.node_ < 16 ∧ (i = 0 → x.from_ = a) ∧ a ≤ x.from_ ∧ x.to_ ≤ n
  | [], a, n, k, h, h1, h2 => by simp [endsAt] at h; omega
  | x :: l, a, n, k, h, h1, h2 => by
    simp only [endsAt] at h
    split at h
    · rename_i hc
      by_cases hb : b < x.to_
      · refine ⟨0, x, by rw [pieceIx, if_pos hb]; rfl, rfl, by omega, hb, ?_, by omega, by omega, fun _ => by omega, by omega, ?_⟩
        · simp only [List.take_zero, endsAt]; rw [hc.1]
        · exact endsAt_le h
      · obtain ⟨i, y, e1, e2, e3, e4, e5, e6, e7, e8, e9, e10⟩ := pieceIx_spec b l x.to_ n (k + 1) h (by omega) h2
        refine ⟨i + 1, y, ?_, by simpa using e2, e3, e4, ?_, e6, e7, fun h => by omega, by omega, e10⟩
        · rw [pieceIx, if_neg hb]
          rw [show (k : Int) + 1 = ((k + 1 : Nat) : Int) from rfl, e1]
          congr 1; omega
        · rw [List.take_succ_cons, endsAt, if_pos hc]; exact e5
    · cases h

theorem find_spec {m : T24} {b : Int} (hr : rightP m) (h0 : 0 ≤ b) (h1 : b < m.n_) : ∃ (i : Nat) (x : T58), findM m b = ((i : Int), 0) ∧ m.pieces_[i]? = some x ∧ x.from_ ≤ b ∧ b < x.to_ ∧ endsAt 0 (m.pieces_.take i) = some x.from_ ∧ 0 ≤ x.node_ ∧ x.node_ < 16 ∧ (i = 0 → x.from_ = 0) ∧ 0 ≤ x.from_ ∧ x.to_ ≤ m.n_ := by
  obtain ⟨i, x, e1, e2, e3, e4, e5, e6, e7, e8, e9, e10⟩ := pieceIx_spec b m.pieces_ 0 m.n_ 0 hr.2.2.2.2.2 h0 h1
  refine ⟨i, x, ?_, e2, e3, e4, e5, e6, e7, e8, e9, e10⟩
  rw [findM, if_pos hr, if_neg (by omega)]
  simp only [Nat.zero_add] at e1
  rw [← e1]; rfl

/-- The number of a block's piece, and the piece. -/
def at13 (m : T24) (b : Int) : Option (Nat × T58) := match m.pieces_[(pieceIx b 0 m.pieces_).toNat]? with | some x => some ((pieceIx b 0 m.pieces_).toNat, x) | none => none

theorem at13_eq {m : T24} {b : Int} (hr : rightP m) (h0 : 0 ≤ b) (h1 : b < m.n_) {i : Nat} {x : T58} (e1 : findM m b = ((i : Int), 0)) (e2 : m.pieces_[i]? = some x) : at13 m b = some (i, x) := by
  rw [findM, if_pos hr, if_neg (by omega)] at e1
  have e : pieceIx b 0 m.pieces_ = (i : Int) := congrArg Prod.fst e1
  simp only [at13, e, Int.toNat_natCast, e2]

def splitM (m : T24) (b : Int) : T24 × Int :=
  if ¬ rightP m ∨ b < 1 ∨ m.n_ ≤ b then (⟨0, 0, []⟩, 1) else
  match at13 m b with
  | none => (⟨0, 0, []⟩, 1)
  | some (i, x) => if x.from_ = b then (⟨0, 0, []⟩, 10) else if m.pieces_.length = 16 then (⟨0, 0, []⟩, 6)
    else nextM m (m.pieces_.take i ++ [⟨x.from_, b, x.node_⟩, ⟨b, x.to_, x.node_⟩] ++ m.pieces_.drop (i + 1))

theorem f22_ok (m : T24) (b : Int) (hm : ok25 m) (hb : ok3 b) : Pure Try.prog 22 [d25 m, d3 b] (.tup [d25 (splitM m b).1, d3 (splitM m b).2]) := by
  refine Pure.ofT ⟨sc25 _ _, trivial, trivial⟩ ⟨sc25 _ _, trivial, trivial⟩ ?_
  refine CallsIn.of_exec tab_ok mixed Try.func22 rfl rfl [] [] ?_
  by_cases hr : rightP m ∧ 0 ≤ b ∧ b < m.n_
  · obtain ⟨hr, h0, h1⟩ := hr
    obtain ⟨i, x, e1, hx, e3, e4, e5, e6, e7, e8, e9, e10⟩ := find_spec hr h0 h1
    have e11 := at13_eq hr h0 h1 e1 hx
    have hi := (List.getElem?_eq_some_iff.mp hx).1
    have hv := hr.2.1
    have hl := hr.2.2.2.2.1
    repeat' (conv => whnf
             first
               | refine PairK.mk (by kernel_rfl) ?_
               | refine And.intro (by decide) ?_
               | refine And.intro rfl ?_
               | refine And.intro (List.cons_ne_nil _ _) ?_
               | refine And.intro (Nat.le_of_ble_eq_true rfl) ?_
               | refine And.intro (by omega) ?_
               | refine And.intro (by simp only [List.length_map, List.length_append, List.length_cons, List.length_nil]; omega) ?_
               | refine And.intro (by simpa only [List.length_map, List.length_append, List.length_cons, List.length_nil] using rfl) ?_
               | refine And.intro (Eq.symm (List.length_map _)) ?_
               | refine And.intro (all_map (fun _ => rfl)) ?_
               | refine And.intro (cells_map (fun _ => rfl)) ?_
               | refine And.intro (rows_map (fun _ => rfl) (fun _ => rfl)) ?_
               | refine And.intro (okRows_one rfl rfl) ?_
               | refine And.intro (okRows_all rfl) ?_
               | refine boolF_t (beq_self_eq_true _) ?_
               | refine Exists.intro _ (And.intro (map_get (by assumption)) ?_)
               | refine Exists.intro _ (And.intro (Eq.refl (α := Option D) _) ?_)
               | refine Exists.intro _ (And.intro (⟨(List.length_map _).symm⟩) ?_)
               | refine Exists.intro _ (And.intro (⟨len_one⟩) ?_)
               | refine Exists.intro _ (And.intro (⟨len_two⟩) ?_)
               | refine Exists.intro _ (And.intro (⟨len_three⟩) ?_)
               | refine Exists.intro _ (And.intro (⟨len_four⟩) ?_)
               | refine Exists.intro _ (And.intro (⟨lenl_1⟩) ?_)
               | refine Exists.intro _ (And.intro (⟨lenl_2⟩) ?_)
               | refine Exists.intro _ (And.intro (⟨lenl_3⟩) ?_)
               | refine Exists.intro _ (And.intro (⟨lenl_4⟩) ?_)
               | refine Exists.intro _ (And.intro (⟨len_more⟩) ?_)
               | refine Exists.intro _ (And.intro (⟨map_slice⟩) ?_)
               | refine Exists.intro _ (And.intro (⟨List.map_take⟩) ?_)
               | refine Exists.intro _ (And.intro (⟨List.map_drop⟩) ?_)
               | refine Exists.intro _ (And.intro (⟨map_full'⟩) ?_)
               | refine Exists.intro _ (And.intro (⟨map_full⟩) ?_)
               | refine Exists.intro _ (And.intro (⟨map_snoc⟩) ?_)
               | refine Exists.intro _ (And.intro (⟨List.map_append⟩) ?_)
               | refine Exists.intro _ (And.intro (⟨Eq.refl (α := List D) _⟩) ?_)
               | refine Exists.intro _ (And.intro (⟨Eq.refl (α := Int) _⟩) (And.intro (by omega) ?_))
               | refine Exists.intro (0) (And.intro (⟨rfl⟩) (And.intro (Nat.zero_le _) ?_))
               | refine Exists.intro _ (And.intro (⟨nc1⟩) (And.intro (by omega) ?_))
               | refine Exists.intro _ (Exists.intro _ (And.intro (⟨Eq.refl (α := Int) _⟩) (And.intro (⟨Eq.refl (α := Int) _⟩) (And.intro (by omega) (And.intro (by omega) ?_)))))
               | refine Exists.intro _ (Exists.intro _ (And.intro (⟨Eq.refl (α := Nat) _⟩) (And.intro (⟨Eq.refl (α := Nat) _⟩) ?_)))
               | refine Exists.intro _ (And.intro (⟨Eq.refl (α := Nat) _⟩) ?_)
               | refine Exists.intro _ (And.intro (u32and (by omega) (by omega)) ?_)
               | refine Exists.intro _ (And.intro (u32or (by omega) (by omega)) ?_)
               | refine Exists.intro _ (And.intro (u32xor (by omega) (by omega)) ?_)
               | refine Exists.intro _ (And.intro (u8xor (by omega) (by omega)) ?_)
               | refine Exists.intro _ (And.intro (u64and (by omega) (by omega)) ?_)
               | refine Exists.intro _ (And.intro (u64or (by omega) (by omega)) ?_)
               | refine Exists.intro _ (And.intro (u64xor (by omega) (by omega)) ?_)
               | refine Exists.intro _ (And.intro (w64 (by omega) (by omega)) ?_)
               | refine Exists.intro _ (And.intro (u32add (by omega)) ?_)
               | refine Exists.intro _ (And.intro (u64add (by omega)) ?_)
               | refine Exists.intro _ (And.intro (u8w (by omega)) ?_)
               | refine Exists.intro _ (And.intro (u32w (by omega)) ?_)
               | refine Exists.intro _ (And.intro (u64w (by omega)) ?_)
               | refine Exists.intro _ (And.intro (u8m) ?_)
               | refine Exists.intro _ (And.intro (u64i (by omega) (by omega)) ?_)
               | refine Exists.intro _ (And.intro (min_int) ?_)
               | refine Exists.intro _ (And.intro (max_int) ?_)
               | refine Exists.intro _ (And.intro (imin) ?_)
               | refine Exists.intro _ (And.intro (imax) ?_)
               | refine boolF_not ?_
               | refine boolF_dect rfl ?_
               | refine boolF_dect (by assumption) ?_
               | refine boolF_decf (by assumption) ?_
               | refine boolF_dect (by omega) ?_
               | refine boolF_decf (by omega) ?_
               | refine boolF_beqt (by omega) ?_
               | refine boolF_beqf (by omega) ?_
               | refine boolF_bnet (by omega) ?_
               | refine boolF_bnef (by omega) ?_
               | refine boolF_nbeqt (by omega) ?_
               | refine boolF_nbeqf (by omega) ?_
               | refine boolF_nbnet (by omega) ?_
               | refine boolF_nbnef (by omega) ?_
               | refine boolF_t (by assumption) ?_
               | refine boolF_f (by assumption) ?_
               | refine boolF_dec (fun _ => ?_) (fun _ => ?_)
               | refine boolF_beq (fun _ => ?_) (fun _ => ?_)
               | refine boolF_bne (fun _ => ?_) (fun _ => ?_)
               | refine boolF_nbeq (fun _ => ?_) (fun _ => ?_)
               | refine boolF_nbne (fun _ => ?_) (fun _ => ?_)
               | refine boolF_leq (fun _ => ?_) (fun _ => ?_)
               | refine Both.mk ?_ ?_)
    all_goals (conv => whnf)
    refine Pure.call (f24_ok _ _ hm hb) ?_
    rw [e1]
    by_cases hb0 : b = 0
    · rw [splitM, if_pos (.inr (by omega))]
      repeat' (conv => whnf
               first
                 | refine PairK.mk (by kernel_rfl) ?_
                 | refine And.intro (by decide) ?_
                 | refine And.intro rfl ?_
                 | refine And.intro (List.cons_ne_nil _ _) ?_
                 | refine And.intro (Nat.le_of_ble_eq_true rfl) ?_
                 | refine And.intro (by omega) ?_
                 | refine And.intro (by simp only [List.length_map, List.length_append, List.length_cons, List.length_nil]; omega) ?_
                 | refine And.intro (by simpa only [List.length_map, List.length_append, List.length_cons, List.length_nil] using rfl) ?_
                 | refine And.intro (Eq.symm (List.length_map _)) ?_
                 | refine And.intro (all_map (fun _ => rfl)) ?_
                 | refine And.intro (cells_map (fun _ => rfl)) ?_
                 | refine And.intro (rows_map (fun _ => rfl) (fun _ => rfl)) ?_
                 | refine And.intro (okRows_one rfl rfl) ?_
                 | refine And.intro (okRows_all rfl) ?_
                 | refine boolF_t (beq_self_eq_true _) ?_
                 | refine Exists.intro _ (And.intro (map_get (by assumption)) ?_)
                 | refine Exists.intro _ (And.intro (Eq.refl (α := Option D) _) ?_)
                 | refine Exists.intro _ (And.intro (⟨(List.length_map _).symm⟩) ?_)
                 | refine Exists.intro _ (And.intro (⟨len_one⟩) ?_)
                 | refine Exists.intro _ (And.intro (⟨len_two⟩) ?_)
                 | refine Exists.intro _ (And.intro (⟨len_three⟩) ?_)
                 | refine Exists.intro _ (And.intro (⟨len_four⟩) ?_)
                 | refine Exists.intro _ (And.intro (⟨lenl_1⟩) ?_)
                 | refine Exists.intro _ (And.intro (⟨lenl_2⟩) ?_)
                 | refine Exists.intro _ (And.intro (⟨lenl_3⟩) ?_)
                 | refine Exists.intro _ (And.intro (⟨lenl_4⟩) ?_)
                 | refine Exists.intro _ (And.intro (⟨len_more⟩) ?_)
                 | refine Exists.intro _ (And.intro (⟨map_slice⟩) ?_)
                 | refine Exists.intro _ (And.intro (⟨List.map_take⟩) ?_)
                 | refine Exists.intro _ (And.intro (⟨List.map_drop⟩) ?_)
                 | refine Exists.intro _ (And.intro (⟨map_full'⟩) ?_)
                 | refine Exists.intro _ (And.intro (⟨map_full⟩) ?_)
                 | refine Exists.intro _ (And.intro (⟨map_snoc⟩) ?_)
                 | refine Exists.intro _ (And.intro (⟨List.map_append⟩) ?_)
                 | refine Exists.intro _ (And.intro (⟨Eq.refl (α := List D) _⟩) ?_)
                 | refine Exists.intro _ (And.intro (⟨Eq.refl (α := Int) _⟩) (And.intro (by omega) ?_))
                 | refine Exists.intro (0) (And.intro (⟨rfl⟩) (And.intro (Nat.zero_le _) ?_))
                 | refine Exists.intro _ (And.intro (⟨nc1⟩) (And.intro (by omega) ?_))
                 | refine Exists.intro _ (Exists.intro _ (And.intro (⟨Eq.refl (α := Int) _⟩) (And.intro (⟨Eq.refl (α := Int) _⟩) (And.intro (by omega) (And.intro (by omega) ?_)))))
                 | refine Exists.intro _ (Exists.intro _ (And.intro (⟨Eq.refl (α := Nat) _⟩) (And.intro (⟨Eq.refl (α := Nat) _⟩) ?_)))
                 | refine Exists.intro _ (And.intro (⟨Eq.refl (α := Nat) _⟩) ?_)
                 | refine Exists.intro _ (And.intro (u32and (by omega) (by omega)) ?_)
                 | refine Exists.intro _ (And.intro (u32or (by omega) (by omega)) ?_)
                 | refine Exists.intro _ (And.intro (u32xor (by omega) (by omega)) ?_)
                 | refine Exists.intro _ (And.intro (u8xor (by omega) (by omega)) ?_)
                 | refine Exists.intro _ (And.intro (u64and (by omega) (by omega)) ?_)
                 | refine Exists.intro _ (And.intro (u64or (by omega) (by omega)) ?_)
                 | refine Exists.intro _ (And.intro (u64xor (by omega) (by omega)) ?_)
                 | refine Exists.intro _ (And.intro (w64 (by omega) (by omega)) ?_)
                 | refine Exists.intro _ (And.intro (u32add (by omega)) ?_)
                 | refine Exists.intro _ (And.intro (u64add (by omega)) ?_)
                 | refine Exists.intro _ (And.intro (u8w (by omega)) ?_)
                 | refine Exists.intro _ (And.intro (u32w (by omega)) ?_)
                 | refine Exists.intro _ (And.intro (u64w (by omega)) ?_)
                 | refine Exists.intro _ (And.intro (u8m) ?_)
                 | refine Exists.intro _ (And.intro (u64i (by omega) (by omega)) ?_)
                 | refine Exists.intro _ (And.intro (min_int) ?_)
                 | refine Exists.intro _ (And.intro (max_int) ?_)
                 | refine Exists.intro _ (And.intro (imin) ?_)
                 | refine Exists.intro _ (And.intro (imax) ?_)
                 | refine boolF_not ?_
                 | refine boolF_dect rfl ?_
                 | refine boolF_dect (by assumption) ?_
                 | refine boolF_decf (by assumption) ?_
                 | refine boolF_dect (by omega) ?_
                 | refine boolF_decf (by omega) ?_
                 | refine boolF_beqt (by omega) ?_
                 | refine boolF_beqf (by omega) ?_
                 | refine boolF_bnet (by omega) ?_
                 | refine boolF_bnef (by omega) ?_
                 | refine boolF_nbeqt (by omega) ?_
                 | refine boolF_nbeqf (by omega) ?_
                 | refine boolF_nbnet (by omega) ?_
                 | refine boolF_nbnef (by omega) ?_
                 | refine boolF_t (by assumption) ?_
                 | refine boolF_f (by assumption) ?_
                 | refine boolF_dec (fun _ => ?_) (fun _ => ?_)
                 | refine boolF_beq (fun _ => ?_) (fun _ => ?_)
                 | refine boolF_bne (fun _ => ?_) (fun _ => ?_)
                 | refine boolF_nbeq (fun _ => ?_) (fun _ => ?_)
                 | refine boolF_nbne (fun _ => ?_) (fun _ => ?_)
                 | refine boolF_leq (fun _ => ?_) (fun _ => ?_)
                 | refine Both.mk ?_ ?_)
      all_goals (conv => whnf)
      exact ⟨Told.wk wk_zero⟩
    rw [splitM, if_neg (fun h => h.elim (fun h => h hr) (fun h => by omega)), e11]
    dsimp only
    repeat' (conv => whnf
             first
               | refine PairK.mk (by kernel_rfl) ?_
               | refine And.intro (by decide) ?_
               | refine And.intro rfl ?_
               | refine And.intro (List.cons_ne_nil _ _) ?_
               | refine And.intro (Nat.le_of_ble_eq_true rfl) ?_
               | refine And.intro (by omega) ?_
               | refine And.intro (by simp only [List.length_map, List.length_append, List.length_cons, List.length_nil]; omega) ?_
               | refine And.intro (by simpa only [List.length_map, List.length_append, List.length_cons, List.length_nil] using rfl) ?_
               | refine And.intro (Eq.symm (List.length_map _)) ?_
               | refine And.intro (all_map (fun _ => rfl)) ?_
               | refine And.intro (cells_map (fun _ => rfl)) ?_
               | refine And.intro (rows_map (fun _ => rfl) (fun _ => rfl)) ?_
               | refine And.intro (okRows_one rfl rfl) ?_
               | refine And.intro (okRows_all rfl) ?_
               | refine boolF_t (beq_self_eq_true _) ?_
               | refine Exists.intro _ (And.intro (map_get (by assumption)) ?_)
               | refine Exists.intro _ (And.intro (Eq.refl (α := Option D) _) ?_)
               | refine Exists.intro _ (And.intro (⟨(List.length_map _).symm⟩) ?_)
               | refine Exists.intro _ (And.intro (⟨len_one⟩) ?_)
               | refine Exists.intro _ (And.intro (⟨len_two⟩) ?_)
               | refine Exists.intro _ (And.intro (⟨len_three⟩) ?_)
               | refine Exists.intro _ (And.intro (⟨len_four⟩) ?_)
               | refine Exists.intro _ (And.intro (⟨lenl_1⟩) ?_)
               | refine Exists.intro _ (And.intro (⟨lenl_2⟩) ?_)
               | refine Exists.intro _ (And.intro (⟨lenl_3⟩) ?_)
               | refine Exists.intro _ (And.intro (⟨lenl_4⟩) ?_)
               | refine Exists.intro _ (And.intro (⟨len_more⟩) ?_)
               | refine Exists.intro _ (And.intro (⟨map_slice⟩) ?_)
               | refine Exists.intro _ (And.intro (⟨List.map_take⟩) ?_)
               | refine Exists.intro _ (And.intro (⟨List.map_drop⟩) ?_)
               | refine Exists.intro _ (And.intro (⟨map_full'⟩) ?_)
               | refine Exists.intro _ (And.intro (⟨map_full⟩) ?_)
               | refine Exists.intro _ (And.intro (⟨map_snoc⟩) ?_)
               | refine Exists.intro _ (And.intro (⟨List.map_append⟩) ?_)
               | refine Exists.intro _ (And.intro (⟨Eq.refl (α := List D) _⟩) ?_)
               | refine Exists.intro _ (And.intro (⟨Eq.refl (α := Int) _⟩) (And.intro (by omega) ?_))
               | refine Exists.intro (0) (And.intro (⟨rfl⟩) (And.intro (Nat.zero_le _) ?_))
               | refine Exists.intro _ (And.intro (⟨nc1⟩) (And.intro (by omega) ?_))
               | refine Exists.intro _ (Exists.intro _ (And.intro (⟨Eq.refl (α := Int) _⟩) (And.intro (⟨Eq.refl (α := Int) _⟩) (And.intro (by omega) (And.intro (by omega) ?_)))))
               | refine Exists.intro _ (Exists.intro _ (And.intro (⟨Eq.refl (α := Nat) _⟩) (And.intro (⟨Eq.refl (α := Nat) _⟩) ?_)))
               | refine Exists.intro _ (And.intro (⟨Eq.refl (α := Nat) _⟩) ?_)
               | refine Exists.intro _ (And.intro (u32and (by omega) (by omega)) ?_)
               | refine Exists.intro _ (And.intro (u32or (by omega) (by omega)) ?_)
               | refine Exists.intro _ (And.intro (u32xor (by omega) (by omega)) ?_)
               | refine Exists.intro _ (And.intro (u8xor (by omega) (by omega)) ?_)
               | refine Exists.intro _ (And.intro (u64and (by omega) (by omega)) ?_)
               | refine Exists.intro _ (And.intro (u64or (by omega) (by omega)) ?_)
               | refine Exists.intro _ (And.intro (u64xor (by omega) (by omega)) ?_)
               | refine Exists.intro _ (And.intro (w64 (by omega) (by omega)) ?_)
               | refine Exists.intro _ (And.intro (u32add (by omega)) ?_)
               | refine Exists.intro _ (And.intro (u64add (by omega)) ?_)
               | refine Exists.intro _ (And.intro (u8w (by omega)) ?_)
               | refine Exists.intro _ (And.intro (u32w (by omega)) ?_)
               | refine Exists.intro _ (And.intro (u64w (by omega)) ?_)
               | refine Exists.intro _ (And.intro (u8m) ?_)
               | refine Exists.intro _ (And.intro (u64i (by omega) (by omega)) ?_)
               | refine Exists.intro _ (And.intro (min_int) ?_)
               | refine Exists.intro _ (And.intro (max_int) ?_)
               | refine Exists.intro _ (And.intro (imin) ?_)
               | refine Exists.intro _ (And.intro (imax) ?_)
               | refine boolF_not ?_
               | refine boolF_dect rfl ?_
               | refine boolF_dect (by assumption) ?_
               | refine boolF_decf (by assumption) ?_
               | refine boolF_dect (by omega) ?_
               | refine boolF_decf (by omega) ?_
               | refine boolF_beqt (by omega) ?_
               | refine boolF_beqf (by omega) ?_
               | refine boolF_bnet (by omega) ?_
               | refine boolF_bnef (by omega) ?_
               | refine boolF_nbeqt (by omega) ?_
               | refine boolF_nbeqf (by omega) ?_
               | refine boolF_nbnet (by omega) ?_
               | refine boolF_nbnef (by omega) ?_
               | refine boolF_t (by assumption) ?_
               | refine boolF_f (by assumption) ?_
               | refine boolF_dec (fun _ => ?_) (fun _ => ?_)
               | refine boolF_beq (fun _ => ?_) (fun _ => ?_)
               | refine boolF_bne (fun _ => ?_) (fun _ => ?_)
               | refine boolF_nbeq (fun _ => ?_) (fun _ => ?_)
               | refine boolF_nbne (fun _ => ?_) (fun _ => ?_)
               | refine boolF_leq (fun _ => ?_) (fun _ => ?_)
               | refine Both.mk ?_ ?_)
    all_goals (conv => whnf)
    · rw [if_pos (by omega)]; exact ⟨Told.wk wk_zero⟩
    · rw [if_neg (by omega), if_pos (by omega)]; exact ⟨Told.wk wk_zero⟩
    · refine Pure.call (f36_ok m i (i + 1) [⟨x.from_, b, x.node_⟩, ⟨b, x.to_, x.node_⟩] hm (by omega) (by omega) (by omega) (by omega) (by simp)) ?_
      repeat' (conv => whnf
               first
                 | refine PairK.mk (by kernel_rfl) ?_
                 | refine And.intro (by decide) ?_
                 | refine And.intro rfl ?_
                 | refine And.intro (List.cons_ne_nil _ _) ?_
                 | refine And.intro (Nat.le_of_ble_eq_true rfl) ?_
                 | refine And.intro (by omega) ?_
                 | refine And.intro (by simp only [List.length_map, List.length_append, List.length_cons, List.length_nil]; omega) ?_
                 | refine And.intro (by simpa only [List.length_map, List.length_append, List.length_cons, List.length_nil] using rfl) ?_
                 | refine And.intro (Eq.symm (List.length_map _)) ?_
                 | refine And.intro (all_map (fun _ => rfl)) ?_
                 | refine And.intro (cells_map (fun _ => rfl)) ?_
                 | refine And.intro (rows_map (fun _ => rfl) (fun _ => rfl)) ?_
                 | refine And.intro (okRows_one rfl rfl) ?_
                 | refine And.intro (okRows_all rfl) ?_
                 | refine boolF_t (beq_self_eq_true _) ?_
                 | refine Exists.intro _ (And.intro (map_get (by assumption)) ?_)
                 | refine Exists.intro _ (And.intro (Eq.refl (α := Option D) _) ?_)
                 | refine Exists.intro _ (And.intro (⟨(List.length_map _).symm⟩) ?_)
                 | refine Exists.intro _ (And.intro (⟨len_one⟩) ?_)
                 | refine Exists.intro _ (And.intro (⟨len_two⟩) ?_)
                 | refine Exists.intro _ (And.intro (⟨len_three⟩) ?_)
                 | refine Exists.intro _ (And.intro (⟨len_four⟩) ?_)
                 | refine Exists.intro _ (And.intro (⟨lenl_1⟩) ?_)
                 | refine Exists.intro _ (And.intro (⟨lenl_2⟩) ?_)
                 | refine Exists.intro _ (And.intro (⟨lenl_3⟩) ?_)
                 | refine Exists.intro _ (And.intro (⟨lenl_4⟩) ?_)
                 | refine Exists.intro _ (And.intro (⟨len_more⟩) ?_)
                 | refine Exists.intro _ (And.intro (⟨map_slice⟩) ?_)
                 | refine Exists.intro _ (And.intro (⟨List.map_take⟩) ?_)
                 | refine Exists.intro _ (And.intro (⟨List.map_drop⟩) ?_)
                 | refine Exists.intro _ (And.intro (⟨map_full'⟩) ?_)
                 | refine Exists.intro _ (And.intro (⟨map_full⟩) ?_)
                 | refine Exists.intro _ (And.intro (⟨map_snoc⟩) ?_)
                 | refine Exists.intro _ (And.intro (⟨List.map_append⟩) ?_)
                 | refine Exists.intro _ (And.intro (⟨Eq.refl (α := List D) _⟩) ?_)
                 | refine Exists.intro _ (And.intro (⟨Eq.refl (α := Int) _⟩) (And.intro (by omega) ?_))
                 | refine Exists.intro (0) (And.intro (⟨rfl⟩) (And.intro (Nat.zero_le _) ?_))
                 | refine Exists.intro _ (And.intro (⟨nc1⟩) (And.intro (by omega) ?_))
                 | refine Exists.intro _ (Exists.intro _ (And.intro (⟨Eq.refl (α := Int) _⟩) (And.intro (⟨Eq.refl (α := Int) _⟩) (And.intro (by omega) (And.intro (by omega) ?_)))))
                 | refine Exists.intro _ (Exists.intro _ (And.intro (⟨Eq.refl (α := Nat) _⟩) (And.intro (⟨Eq.refl (α := Nat) _⟩) ?_)))
                 | refine Exists.intro _ (And.intro (⟨Eq.refl (α := Nat) _⟩) ?_)
                 | refine Exists.intro _ (And.intro (u32and (by omega) (by omega)) ?_)
                 | refine Exists.intro _ (And.intro (u32or (by omega) (by omega)) ?_)
                 | refine Exists.intro _ (And.intro (u32xor (by omega) (by omega)) ?_)
                 | refine Exists.intro _ (And.intro (u8xor (by omega) (by omega)) ?_)
                 | refine Exists.intro _ (And.intro (u64and (by omega) (by omega)) ?_)
                 | refine Exists.intro _ (And.intro (u64or (by omega) (by omega)) ?_)
                 | refine Exists.intro _ (And.intro (u64xor (by omega) (by omega)) ?_)
                 | refine Exists.intro _ (And.intro (w64 (by omega) (by omega)) ?_)
                 | refine Exists.intro _ (And.intro (u32add (by omega)) ?_)
                 | refine Exists.intro _ (And.intro (u64add (by omega)) ?_)
                 | refine Exists.intro _ (And.intro (u8w (by omega)) ?_)
                 | refine Exists.intro _ (And.intro (u32w (by omega)) ?_)
                 | refine Exists.intro _ (And.intro (u64w (by omega)) ?_)
                 | refine Exists.intro _ (And.intro (u8m) ?_)
                 | refine Exists.intro _ (And.intro (u64i (by omega) (by omega)) ?_)
                 | refine Exists.intro _ (And.intro (min_int) ?_)
                 | refine Exists.intro _ (And.intro (max_int) ?_)
                 | refine Exists.intro _ (And.intro (imin) ?_)
                 | refine Exists.intro _ (And.intro (imax) ?_)
                 | refine boolF_not ?_
                 | refine boolF_dect rfl ?_
                 | refine boolF_dect (by assumption) ?_
                 | refine boolF_decf (by assumption) ?_
                 | refine boolF_dect (by omega) ?_
                 | refine boolF_decf (by omega) ?_
                 | refine boolF_beqt (by omega) ?_
                 | refine boolF_beqf (by omega) ?_
                 | refine boolF_bnet (by omega) ?_
                 | refine boolF_bnef (by omega) ?_
                 | refine boolF_nbeqt (by omega) ?_
                 | refine boolF_nbeqf (by omega) ?_
                 | refine boolF_nbnet (by omega) ?_
                 | refine boolF_nbnef (by omega) ?_
                 | refine boolF_t (by assumption) ?_
                 | refine boolF_f (by assumption) ?_
                 | refine boolF_dec (fun _ => ?_) (fun _ => ?_)
                 | refine boolF_beq (fun _ => ?_) (fun _ => ?_)
                 | refine boolF_bne (fun _ => ?_) (fun _ => ?_)
                 | refine boolF_nbeq (fun _ => ?_) (fun _ => ?_)
                 | refine boolF_nbne (fun _ => ?_) (fun _ => ?_)
                 | refine boolF_leq (fun _ => ?_) (fun _ => ?_)
                 | refine Both.mk ?_ ?_)
      all_goals (conv => whnf)
      rw [if_neg (by omega), if_neg (by omega)]
      exact ⟨Told.refl⟩
  · have e : splitM m b = (⟨0, 0, []⟩, 1) := by
      rw [splitM, if_pos]
      by_cases h : rightP m
      · exact .inr (by have : ¬ (0 ≤ b ∧ b < m.n_) := fun h' => hr ⟨h, h'⟩; omega)
      · exact .inl h
    have hf : (findM m b).2 ≠ 0 := by
      rw [findM]; split
      · rename_i h
        rw [if_pos (by have : ¬ (0 ≤ b ∧ b < m.n_) := fun h' => hr ⟨h, h'⟩; omega)]; decide
      · decide
    rw [e]
    repeat' (conv => whnf
             first
               | refine PairK.mk (by kernel_rfl) ?_
               | refine And.intro (by decide) ?_
               | refine And.intro rfl ?_
               | refine And.intro (List.cons_ne_nil _ _) ?_
               | refine And.intro (Nat.le_of_ble_eq_true rfl) ?_
               | refine And.intro (by omega) ?_
               | refine And.intro (by simp only [List.length_map, List.length_append, List.length_cons, List.length_nil]; omega) ?_
               | refine And.intro (by simpa only [List.length_map, List.length_append, List.length_cons, List.length_nil] using rfl) ?_
               | refine And.intro (Eq.symm (List.length_map _)) ?_
               | refine And.intro (all_map (fun _ => rfl)) ?_
               | refine And.intro (cells_map (fun _ => rfl)) ?_
               | refine And.intro (rows_map (fun _ => rfl) (fun _ => rfl)) ?_
               | refine And.intro (okRows_one rfl rfl) ?_
               | refine And.intro (okRows_all rfl) ?_
               | refine boolF_t (beq_self_eq_true _) ?_
               | refine Exists.intro _ (And.intro (map_get (by assumption)) ?_)
               | refine Exists.intro _ (And.intro (Eq.refl (α := Option D) _) ?_)
               | refine Exists.intro _ (And.intro (⟨(List.length_map _).symm⟩) ?_)
               | refine Exists.intro _ (And.intro (⟨len_one⟩) ?_)
               | refine Exists.intro _ (And.intro (⟨len_two⟩) ?_)
               | refine Exists.intro _ (And.intro (⟨len_three⟩) ?_)
               | refine Exists.intro _ (And.intro (⟨len_four⟩) ?_)
               | refine Exists.intro _ (And.intro (⟨lenl_1⟩) ?_)
               | refine Exists.intro _ (And.intro (⟨lenl_2⟩) ?_)
               | refine Exists.intro _ (And.intro (⟨lenl_3⟩) ?_)
               | refine Exists.intro _ (And.intro (⟨lenl_4⟩) ?_)
               | refine Exists.intro _ (And.intro (⟨len_more⟩) ?_)
               | refine Exists.intro _ (And.intro (⟨map_slice⟩) ?_)
               | refine Exists.intro _ (And.intro (⟨List.map_take⟩) ?_)
               | refine Exists.intro _ (And.intro (⟨List.map_drop⟩) ?_)
               | refine Exists.intro _ (And.intro (⟨map_full'⟩) ?_)
               | refine Exists.intro _ (And.intro (⟨map_full⟩) ?_)
               | refine Exists.intro _ (And.intro (⟨map_snoc⟩) ?_)
               | refine Exists.intro _ (And.intro (⟨List.map_append⟩) ?_)
               | refine Exists.intro _ (And.intro (⟨Eq.refl (α := List D) _⟩) ?_)
               | refine Exists.intro _ (And.intro (⟨Eq.refl (α := Int) _⟩) (And.intro (by omega) ?_))
               | refine Exists.intro (0) (And.intro (⟨rfl⟩) (And.intro (Nat.zero_le _) ?_))
               | refine Exists.intro _ (And.intro (⟨nc1⟩) (And.intro (by omega) ?_))
               | refine Exists.intro _ (Exists.intro _ (And.intro (⟨Eq.refl (α := Int) _⟩) (And.intro (⟨Eq.refl (α := Int) _⟩) (And.intro (by omega) (And.intro (by omega) ?_)))))
               | refine Exists.intro _ (Exists.intro _ (And.intro (⟨Eq.refl (α := Nat) _⟩) (And.intro (⟨Eq.refl (α := Nat) _⟩) ?_)))
               | refine Exists.intro _ (And.intro (⟨Eq.refl (α := Nat) _⟩) ?_)
               | refine Exists.intro _ (And.intro (u32and (by omega) (by omega)) ?_)
               | refine Exists.intro _ (And.intro (u32or (by omega) (by omega)) ?_)
               | refine Exists.intro _ (And.intro (u32xor (by omega) (by omega)) ?_)
               | refine Exists.intro _ (And.intro (u8xor (by omega) (by omega)) ?_)
               | refine Exists.intro _ (And.intro (u64and (by omega) (by omega)) ?_)
               | refine Exists.intro _ (And.intro (u64or (by omega) (by omega)) ?_)
               | refine Exists.intro _ (And.intro (u64xor (by omega) (by omega)) ?_)
               | refine Exists.intro _ (And.intro (w64 (by omega) (by omega)) ?_)
               | refine Exists.intro _ (And.intro (u32add (by omega)) ?_)
               | refine Exists.intro _ (And.intro (u64add (by omega)) ?_)
               | refine Exists.intro _ (And.intro (u8w (by omega)) ?_)
               | refine Exists.intro _ (And.intro (u32w (by omega)) ?_)
               | refine Exists.intro _ (And.intro (u64w (by omega)) ?_)
               | refine Exists.intro _ (And.intro (u8m) ?_)
               | refine Exists.intro _ (And.intro (u64i (by omega) (by omega)) ?_)
               | refine Exists.intro _ (And.intro (min_int) ?_)
               | refine Exists.intro _ (And.intro (max_int) ?_)
               | refine Exists.intro _ (And.intro (imin) ?_)
               | refine Exists.intro _ (And.intro (imax) ?_)
               | refine boolF_not ?_
               | refine boolF_dect rfl ?_
               | refine boolF_dect (by assumption) ?_
               | refine boolF_decf (by assumption) ?_
               | refine boolF_dect (by omega) ?_
               | refine boolF_decf (by omega) ?_
               | refine boolF_beqt (by omega) ?_
               | refine boolF_beqf (by omega) ?_
               | refine boolF_bnet (by omega) ?_
               | refine boolF_bnef (by omega) ?_
               | refine boolF_nbeqt (by omega) ?_
               | refine boolF_nbeqf (by omega) ?_
               | refine boolF_nbnet (by omega) ?_
               | refine boolF_nbnef (by omega) ?_
               | refine boolF_t (by assumption) ?_
               | refine boolF_f (by assumption) ?_
               | refine boolF_dec (fun _ => ?_) (fun _ => ?_)
               | refine boolF_beq (fun _ => ?_) (fun _ => ?_)
               | refine boolF_bne (fun _ => ?_) (fun _ => ?_)
               | refine boolF_nbeq (fun _ => ?_) (fun _ => ?_)
               | refine boolF_nbne (fun _ => ?_) (fun _ => ?_)
               | refine boolF_leq (fun _ => ?_) (fun _ => ?_)
               | refine Both.mk ?_ ?_)
    all_goals (conv => whnf)
    refine Pure.call (f24_ok _ _ hm hb) ?_
    repeat' (conv => whnf
             first
               | refine PairK.mk (by kernel_rfl) ?_
               | refine And.intro (by decide) ?_
               | refine And.intro rfl ?_
               | refine And.intro (List.cons_ne_nil _ _) ?_
               | refine And.intro (Nat.le_of_ble_eq_true rfl) ?_
               | refine And.intro (by omega) ?_
               | refine And.intro (by simp only [List.length_map, List.length_append, List.length_cons, List.length_nil]; omega) ?_
               | refine And.intro (by simpa only [List.length_map, List.length_append, List.length_cons, List.length_nil] using rfl) ?_
               | refine And.intro (Eq.symm (List.length_map _)) ?_
               | refine And.intro (all_map (fun _ => rfl)) ?_
               | refine And.intro (cells_map (fun _ => rfl)) ?_
               | refine And.intro (rows_map (fun _ => rfl) (fun _ => rfl)) ?_
               | refine And.intro (okRows_one rfl rfl) ?_
               | refine And.intro (okRows_all rfl) ?_
               | refine boolF_t (beq_self_eq_true _) ?_
               | refine Exists.intro _ (And.intro (map_get (by assumption)) ?_)
               | refine Exists.intro _ (And.intro (Eq.refl (α := Option D) _) ?_)
               | refine Exists.intro _ (And.intro (⟨(List.length_map _).symm⟩) ?_)
               | refine Exists.intro _ (And.intro (⟨len_one⟩) ?_)
               | refine Exists.intro _ (And.intro (⟨len_two⟩) ?_)
               | refine Exists.intro _ (And.intro (⟨len_three⟩) ?_)
               | refine Exists.intro _ (And.intro (⟨len_four⟩) ?_)
               | refine Exists.intro _ (And.intro (⟨lenl_1⟩) ?_)
               | refine Exists.intro _ (And.intro (⟨lenl_2⟩) ?_)
               | refine Exists.intro _ (And.intro (⟨lenl_3⟩) ?_)
               | refine Exists.intro _ (And.intro (⟨lenl_4⟩) ?_)
               | refine Exists.intro _ (And.intro (⟨len_more⟩) ?_)
               | refine Exists.intro _ (And.intro (⟨map_slice⟩) ?_)
               | refine Exists.intro _ (And.intro (⟨List.map_take⟩) ?_)
               | refine Exists.intro _ (And.intro (⟨List.map_drop⟩) ?_)
               | refine Exists.intro _ (And.intro (⟨map_full'⟩) ?_)
               | refine Exists.intro _ (And.intro (⟨map_full⟩) ?_)
               | refine Exists.intro _ (And.intro (⟨map_snoc⟩) ?_)
               | refine Exists.intro _ (And.intro (⟨List.map_append⟩) ?_)
               | refine Exists.intro _ (And.intro (⟨Eq.refl (α := List D) _⟩) ?_)
               | refine Exists.intro _ (And.intro (⟨Eq.refl (α := Int) _⟩) (And.intro (by omega) ?_))
               | refine Exists.intro (0) (And.intro (⟨rfl⟩) (And.intro (Nat.zero_le _) ?_))
               | refine Exists.intro _ (And.intro (⟨nc1⟩) (And.intro (by omega) ?_))
               | refine Exists.intro _ (Exists.intro _ (And.intro (⟨Eq.refl (α := Int) _⟩) (And.intro (⟨Eq.refl (α := Int) _⟩) (And.intro (by omega) (And.intro (by omega) ?_)))))
               | refine Exists.intro _ (Exists.intro _ (And.intro (⟨Eq.refl (α := Nat) _⟩) (And.intro (⟨Eq.refl (α := Nat) _⟩) ?_)))
               | refine Exists.intro _ (And.intro (⟨Eq.refl (α := Nat) _⟩) ?_)
               | refine Exists.intro _ (And.intro (u32and (by omega) (by omega)) ?_)
               | refine Exists.intro _ (And.intro (u32or (by omega) (by omega)) ?_)
               | refine Exists.intro _ (And.intro (u32xor (by omega) (by omega)) ?_)
               | refine Exists.intro _ (And.intro (u8xor (by omega) (by omega)) ?_)
               | refine Exists.intro _ (And.intro (u64and (by omega) (by omega)) ?_)
               | refine Exists.intro _ (And.intro (u64or (by omega) (by omega)) ?_)
               | refine Exists.intro _ (And.intro (u64xor (by omega) (by omega)) ?_)
               | refine Exists.intro _ (And.intro (w64 (by omega) (by omega)) ?_)
               | refine Exists.intro _ (And.intro (u32add (by omega)) ?_)
               | refine Exists.intro _ (And.intro (u64add (by omega)) ?_)
               | refine Exists.intro _ (And.intro (u8w (by omega)) ?_)
               | refine Exists.intro _ (And.intro (u32w (by omega)) ?_)
               | refine Exists.intro _ (And.intro (u64w (by omega)) ?_)
               | refine Exists.intro _ (And.intro (u8m) ?_)
               | refine Exists.intro _ (And.intro (u64i (by omega) (by omega)) ?_)
               | refine Exists.intro _ (And.intro (min_int) ?_)
               | refine Exists.intro _ (And.intro (max_int) ?_)
               | refine Exists.intro _ (And.intro (imin) ?_)
               | refine Exists.intro _ (And.intro (imax) ?_)
               | refine boolF_not ?_
               | refine boolF_dect rfl ?_
               | refine boolF_dect (by assumption) ?_
               | refine boolF_decf (by assumption) ?_
               | refine boolF_dect (by omega) ?_
               | refine boolF_decf (by omega) ?_
               | refine boolF_beqt (by omega) ?_
               | refine boolF_beqf (by omega) ?_
               | refine boolF_bnet (by omega) ?_
               | refine boolF_bnef (by omega) ?_
               | refine boolF_nbeqt (by omega) ?_
               | refine boolF_nbeqf (by omega) ?_
               | refine boolF_nbnet (by omega) ?_
               | refine boolF_nbnef (by omega) ?_
               | refine boolF_t (by assumption) ?_
               | refine boolF_f (by assumption) ?_
               | refine boolF_dec (fun _ => ?_) (fun _ => ?_)
               | refine boolF_beq (fun _ => ?_) (fun _ => ?_)
               | refine boolF_bne (fun _ => ?_) (fun _ => ?_)
               | refine boolF_nbeq (fun _ => ?_) (fun _ => ?_)
               | refine boolF_nbne (fun _ => ?_) (fun _ => ?_)
               | refine boolF_leq (fun _ => ?_) (fun _ => ?_)
               | refine Both.mk ?_ ?_)
    all_goals (conv => whnf)
    exact ⟨Told.wk wk_zero⟩

theorem splitM_out {m : T24} {b : Int} (h : ¬ (rightP m ∧ 1 ≤ b ∧ b < m.n_)) : splitM m b = (⟨0, 0, []⟩, 1) := by
  rw [splitM, if_pos]
  by_cases hr : rightP m
  · exact .inr (by have : ¬ (1 ≤ b ∧ b < m.n_) := fun h' => h ⟨hr, h'⟩; omega)
  · exact .inl hr

theorem next_far {m : T24} {l : List T58} (hv : 1099511627776 ≤ m.version_) : nextM m l = (⟨0, 0, []⟩, 6) := if_pos hv
theorem next_near {m : T24} {l : List T58} (hv : ¬ 1099511627776 ≤ m.version_) : nextM m l = (⟨m.version_ + 1, m.n_, l⟩, 0) := if_neg hv

theorem told_next {m : T24} {o ver n : Nat} {l : List T58} {H : List AObj} (hn : n = l.length) (ho : H[o]? = some (.arr ver 3 (l.map r59))) :
    Go.A.Told (.tup [.agg [d3 (m.version_ + 1), d3 m.n_, .h o ver 0 n], .int .i64 0]) H (.tup [d25 ⟨m.version_ + 1, m.n_, l⟩, d3 0]) :=
  Told.frz o ho (.tup (.cons (.agg (.cons (.refl _) (.cons (.refl _) (.cons (.h (all_take hn)) .nil)))) (.cons (.refl _) .nil)))


theorem f26_ok (m : T24) (b : Int) (hm : ok25 m) (hb : ok3 b) : Pure Try.prog 26 [d25 m, d3 b] (.tup [d25 (splitM m b).1, d3 (splitM m b).2]) := by
  refine Pure.ofT ⟨sc25 _ _, trivial, trivial⟩ ⟨sc25 _ _, trivial, trivial⟩ ?_
  refine CallsIn.of_exec tab_ok mixed Try.func26 rfl rfl [] [] ?_
  by_cases hr : rightP m
  · repeat' (conv => whnf
             first
               | refine PairK.mk (by kernel_rfl) ?_
               | refine And.intro (by decide) ?_
               | refine And.intro rfl ?_
               | refine And.intro (List.cons_ne_nil _ _) ?_
               | refine And.intro (Nat.le_of_ble_eq_true rfl) ?_
               | refine And.intro (by omega) ?_
               | refine And.intro (by simp only [List.length_map, List.length_append, List.length_cons, List.length_nil]; omega) ?_
               | refine And.intro (by simpa only [List.length_map, List.length_append, List.length_cons, List.length_nil] using rfl) ?_
               | refine And.intro (Eq.symm (List.length_map _)) ?_
               | refine And.intro (all_map (fun _ => rfl)) ?_
               | refine And.intro (cells_map (fun _ => rfl)) ?_
               | refine And.intro (rows_map (fun _ => rfl) (fun _ => rfl)) ?_
               | refine And.intro (okRows_one rfl rfl) ?_
               | refine And.intro (okRows_all rfl) ?_
               | refine boolF_t (beq_self_eq_true _) ?_
               | refine Exists.intro _ (And.intro (map_get (by assumption)) ?_)
               | refine Exists.intro _ (And.intro (Eq.refl (α := Option D) _) ?_)
               | refine Exists.intro _ (And.intro (⟨(List.length_map _).symm⟩) ?_)
               | refine Exists.intro _ (And.intro (⟨len_one⟩) ?_)
               | refine Exists.intro _ (And.intro (⟨len_two⟩) ?_)
               | refine Exists.intro _ (And.intro (⟨len_three⟩) ?_)
               | refine Exists.intro _ (And.intro (⟨len_four⟩) ?_)
               | refine Exists.intro _ (And.intro (⟨lenl_1⟩) ?_)
               | refine Exists.intro _ (And.intro (⟨lenl_2⟩) ?_)
               | refine Exists.intro _ (And.intro (⟨lenl_3⟩) ?_)
               | refine Exists.intro _ (And.intro (⟨lenl_4⟩) ?_)
               | refine Exists.intro _ (And.intro (⟨len_more⟩) ?_)
               | refine Exists.intro _ (And.intro (⟨map_slice⟩) ?_)
               | refine Exists.intro _ (And.intro (⟨List.map_take⟩) ?_)
               | refine Exists.intro _ (And.intro (⟨List.map_drop⟩) ?_)
               | refine Exists.intro _ (And.intro (⟨map_full'⟩) ?_)
               | refine Exists.intro _ (And.intro (⟨map_full⟩) ?_)
               | refine Exists.intro _ (And.intro (⟨map_snoc⟩) ?_)
               | refine Exists.intro _ (And.intro (⟨List.map_append⟩) ?_)
               | refine Exists.intro _ (And.intro (⟨Eq.refl (α := List D) _⟩) ?_)
               | refine Exists.intro _ (And.intro (⟨Eq.refl (α := Int) _⟩) (And.intro (by omega) ?_))
               | refine Exists.intro (0) (And.intro (⟨rfl⟩) (And.intro (Nat.zero_le _) ?_))
               | refine Exists.intro _ (And.intro (⟨nc1⟩) (And.intro (by omega) ?_))
               | refine Exists.intro _ (Exists.intro _ (And.intro (⟨Eq.refl (α := Int) _⟩) (And.intro (⟨Eq.refl (α := Int) _⟩) (And.intro (by omega) (And.intro (by omega) ?_)))))
               | refine Exists.intro _ (Exists.intro _ (And.intro (⟨Eq.refl (α := Nat) _⟩) (And.intro (⟨Eq.refl (α := Nat) _⟩) ?_)))
               | refine Exists.intro _ (And.intro (⟨Eq.refl (α := Nat) _⟩) ?_)
               | refine Exists.intro _ (And.intro (u32and (by omega) (by omega)) ?_)
               | refine Exists.intro _ (And.intro (u32or (by omega) (by omega)) ?_)
               | refine Exists.intro _ (And.intro (u32xor (by omega) (by omega)) ?_)
               | refine Exists.intro _ (And.intro (u8xor (by omega) (by omega)) ?_)
               | refine Exists.intro _ (And.intro (u64and (by omega) (by omega)) ?_)
               | refine Exists.intro _ (And.intro (u64or (by omega) (by omega)) ?_)
               | refine Exists.intro _ (And.intro (u64xor (by omega) (by omega)) ?_)
               | refine Exists.intro _ (And.intro (w64 (by omega) (by omega)) ?_)
               | refine Exists.intro _ (And.intro (u32add (by omega)) ?_)
               | refine Exists.intro _ (And.intro (u64add (by omega)) ?_)
               | refine Exists.intro _ (And.intro (u8w (by omega)) ?_)
               | refine Exists.intro _ (And.intro (u32w (by omega)) ?_)
               | refine Exists.intro _ (And.intro (u64w (by omega)) ?_)
               | refine Exists.intro _ (And.intro (u8m) ?_)
               | refine Exists.intro _ (And.intro (u64i (by omega) (by omega)) ?_)
               | refine Exists.intro _ (And.intro (min_int) ?_)
               | refine Exists.intro _ (And.intro (max_int) ?_)
               | refine Exists.intro _ (And.intro (imin) ?_)
               | refine Exists.intro _ (And.intro (imax) ?_)
               | refine Pure.call (f16_ok _ hm) ?_
               | refine Pure.locK (f16_ok _ hm) ?_
               | refine boolF_not ?_
               | refine boolF_dect rfl ?_
               | refine boolF_dect (by assumption) ?_
               | refine boolF_decf (by assumption) ?_
               | refine boolF_dect (by omega) ?_
               | refine boolF_decf (by omega) ?_
               | refine boolF_beqt (by omega) ?_
               | refine boolF_beqf (by omega) ?_
               | refine boolF_bnet (by omega) ?_
               | refine boolF_bnef (by omega) ?_
               | refine boolF_nbeqt (by omega) ?_
               | refine boolF_nbeqf (by omega) ?_
               | refine boolF_nbnet (by omega) ?_
               | refine boolF_nbnef (by omega) ?_
               | refine boolF_t (by assumption) ?_
               | refine boolF_f (by assumption) ?_
               | refine boolF_dec (fun _ => ?_) (fun _ => ?_)
               | refine boolF_beq (fun _ => ?_) (fun _ => ?_)
               | refine boolF_bne (fun _ => ?_) (fun _ => ?_)
               | refine boolF_nbeq (fun _ => ?_) (fun _ => ?_)
               | refine boolF_nbne (fun _ => ?_) (fun _ => ?_)
               | refine boolF_leq (fun _ => ?_) (fun _ => ?_)
               | refine Both.mk ?_ ?_)
    all_goals (conv => whnf)
    · rw [splitM_out (by omega)]; exact ⟨Told.wk wk_zero⟩
    · rw [splitM_out (by omega)]; exact ⟨Told.wk wk_zero⟩
    · refine Pure.call (f25_ok _ _ hm hb) ?_
      obtain ⟨i, x, e1, hx, e3, e4, e5, e6, e7, e8, e9, e10⟩ := find_spec hr (b := b) (by omega) (by omega)
      have e11 := at13_eq hr (by omega) (by omega) e1 hx
      have hi := (List.getElem?_eq_some_iff.mp hx).1
      have hv := hr.2.1
      have hl := hr.2.2.2.2.1
      have hti : (m.pieces_.take i).length = i := by rw [List.length_take]; omega
      have hdi : (m.pieces_.drop (i + 1)).length = m.pieces_.length - (i + 1) := List.length_drop
      rw [e1]
      rw [splitM, if_neg (fun h => h.elim (fun h => h hr) (fun h => by omega)), e11]
      dsimp only
      repeat' (conv => whnf
               first
                 | refine PairK.mk (by kernel_rfl) ?_
                 | refine And.intro (by decide) ?_
                 | refine And.intro rfl ?_
                 | refine And.intro (List.cons_ne_nil _ _) ?_
                 | refine And.intro (Nat.le_of_ble_eq_true rfl) ?_
                 | refine And.intro (by omega) ?_
                 | refine And.intro (by simp only [List.length_map, List.length_append, List.length_cons, List.length_nil]; omega) ?_
                 | refine And.intro (by simpa only [List.length_map, List.length_append, List.length_cons, List.length_nil] using rfl) ?_
                 | refine And.intro (Eq.symm (List.length_map _)) ?_
                 | refine And.intro (all_map (fun _ => rfl)) ?_
                 | refine And.intro (cells_map (fun _ => rfl)) ?_
                 | refine And.intro (rows_map (fun _ => rfl) (fun _ => rfl)) ?_
                 | refine And.intro (okRows_one rfl rfl) ?_
                 | refine And.intro (okRows_all rfl) ?_
                 | refine boolF_t (beq_self_eq_true _) ?_
                 | refine Exists.intro _ (And.intro (map_get (by assumption)) ?_)
                 | refine Exists.intro _ (And.intro (Eq.refl (α := Option D) _) ?_)
                 | refine Exists.intro _ (And.intro (⟨(List.length_map _).symm⟩) ?_)
                 | refine Exists.intro _ (And.intro (⟨len_one⟩) ?_)
                 | refine Exists.intro _ (And.intro (⟨len_two⟩) ?_)
                 | refine Exists.intro _ (And.intro (⟨len_three⟩) ?_)
                 | refine Exists.intro _ (And.intro (⟨len_four⟩) ?_)
                 | refine Exists.intro _ (And.intro (⟨lenl_1⟩) ?_)
                 | refine Exists.intro _ (And.intro (⟨lenl_2⟩) ?_)
                 | refine Exists.intro _ (And.intro (⟨lenl_3⟩) ?_)
                 | refine Exists.intro _ (And.intro (⟨lenl_4⟩) ?_)
                 | refine Exists.intro _ (And.intro (⟨len_more⟩) ?_)
                 | refine Exists.intro _ (And.intro (⟨map_slice⟩) ?_)
                 | refine Exists.intro _ (And.intro (⟨List.map_take⟩) ?_)
                 | refine Exists.intro _ (And.intro (⟨List.map_drop⟩) ?_)
                 | refine Exists.intro _ (And.intro (⟨map_full'⟩) ?_)
                 | refine Exists.intro _ (And.intro (⟨map_full⟩) ?_)
                 | refine Exists.intro _ (And.intro (⟨map_snoc⟩) ?_)
                 | refine Exists.intro _ (And.intro (⟨List.map_append⟩) ?_)
                 | refine Exists.intro _ (And.intro (⟨Eq.refl (α := List D) _⟩) ?_)
                 | refine Exists.intro _ (And.intro (⟨Eq.refl (α := Int) _⟩) (And.intro (by omega) ?_))
                 | refine Exists.intro (0) (And.intro (⟨rfl⟩) (And.intro (Nat.zero_le _) ?_))
                 | refine Exists.intro _ (And.intro (⟨nc1⟩) (And.intro (by omega) ?_))
                 | refine Exists.intro _ (Exists.intro _ (And.intro (⟨Eq.refl (α := Int) _⟩) (And.intro (⟨Eq.refl (α := Int) _⟩) (And.intro (by omega) (And.intro (by omega) ?_)))))
                 | refine Exists.intro _ (Exists.intro _ (And.intro (⟨Eq.refl (α := Nat) _⟩) (And.intro (⟨Eq.refl (α := Nat) _⟩) ?_)))
                 | refine Exists.intro _ (And.intro (⟨Eq.refl (α := Nat) _⟩) ?_)
                 | refine Exists.intro _ (And.intro (u32and (by omega) (by omega)) ?_)
                 | refine Exists.intro _ (And.intro (u32or (by omega) (by omega)) ?_)
                 | refine Exists.intro _ (And.intro (u32xor (by omega) (by omega)) ?_)
                 | refine Exists.intro _ (And.intro (u8xor (by omega) (by omega)) ?_)
                 | refine Exists.intro _ (And.intro (u64and (by omega) (by omega)) ?_)
                 | refine Exists.intro _ (And.intro (u64or (by omega) (by omega)) ?_)
                 | refine Exists.intro _ (And.intro (u64xor (by omega) (by omega)) ?_)
                 | refine Exists.intro _ (And.intro (w64 (by omega) (by omega)) ?_)
                 | refine Exists.intro _ (And.intro (u32add (by omega)) ?_)
                 | refine Exists.intro _ (And.intro (u64add (by omega)) ?_)
                 | refine Exists.intro _ (And.intro (u8w (by omega)) ?_)
                 | refine Exists.intro _ (And.intro (u32w (by omega)) ?_)
                 | refine Exists.intro _ (And.intro (u64w (by omega)) ?_)
                 | refine Exists.intro _ (And.intro (u8m) ?_)
                 | refine Exists.intro _ (And.intro (u64i (by omega) (by omega)) ?_)
                 | refine Exists.intro _ (And.intro (min_int) ?_)
                 | refine Exists.intro _ (And.intro (max_int) ?_)
                 | refine Exists.intro _ (And.intro (imin) ?_)
                 | refine Exists.intro _ (And.intro (imax) ?_)
                 | refine Pure.call (f16_ok _ hm) ?_
                 | refine Pure.locK (f16_ok _ hm) ?_
                 | refine boolF_not ?_
                 | refine boolF_dect rfl ?_
                 | refine boolF_dect (by assumption) ?_
                 | refine boolF_decf (by assumption) ?_
                 | refine boolF_dect (by omega) ?_
                 | refine boolF_decf (by omega) ?_
                 | refine boolF_beqt (by omega) ?_
                 | refine boolF_beqf (by omega) ?_
                 | refine boolF_bnet (by omega) ?_
                 | refine boolF_bnef (by omega) ?_
                 | refine boolF_nbeqt (by omega) ?_
                 | refine boolF_nbeqf (by omega) ?_
                 | refine boolF_nbnet (by omega) ?_
                 | refine boolF_nbnef (by omega) ?_
                 | refine boolF_t (by assumption) ?_
                 | refine boolF_f (by assumption) ?_
                 | refine boolF_dec (fun _ => ?_) (fun _ => ?_)
                 | refine boolF_beq (fun _ => ?_) (fun _ => ?_)
                 | refine boolF_bne (fun _ => ?_) (fun _ => ?_)
                 | refine boolF_nbeq (fun _ => ?_) (fun _ => ?_)
                 | refine boolF_nbne (fun _ => ?_) (fun _ => ?_)
                 | refine boolF_leq (fun _ => ?_) (fun _ => ?_)
                 | refine Both.mk ?_ ?_)
      all_goals (conv => whnf)
      · rw [if_pos (by omega)]; exact ⟨Told.wk wk_zero⟩
      · rw [if_neg (by omega), if_pos (by omega)]; exact ⟨Told.wk wk_zero⟩
      · rw [if_neg (by omega), if_neg (by omega)]
        by_cases hfar : 1099511627776 ≤ m.version_
        · rw [next_far hfar]
          refine PureH.locK (f39_far m 3 ((m.pieces_.take i).length + 2 + (m.pieces_.drop (i + 1)).length) ((m.pieces_.take i ++ [(⟨x.from_, b, x.node_⟩ : T58), ⟨b, x.to_, x.node_⟩] ++ m.pieces_.drop (i + 1)).map r59) (scr59 _ _) hm hfar) 2 (by rw [List.map_append, List.map_append]; rfl) ?_
          repeat' (conv => whnf
                   first
                     | refine PairK.mk (by kernel_rfl) ?_
                     | refine And.intro (by decide) ?_
                     | refine And.intro rfl ?_
                     | refine And.intro (List.cons_ne_nil _ _) ?_
                     | refine And.intro (Nat.le_of_ble_eq_true rfl) ?_
                     | refine And.intro (by omega) ?_
                     | refine And.intro (by simp only [List.length_map, List.length_append, List.length_cons, List.length_nil]; omega) ?_
                     | refine And.intro (by simpa only [List.length_map, List.length_append, List.length_cons, List.length_nil] using rfl) ?_
                     | refine And.intro (Eq.symm (List.length_map _)) ?_
                     | refine And.intro (all_map (fun _ => rfl)) ?_
                     | refine And.intro (cells_map (fun _ => rfl)) ?_
                     | refine And.intro (rows_map (fun _ => rfl) (fun _ => rfl)) ?_
                     | refine And.intro (okRows_one rfl rfl) ?_
                     | refine And.intro (okRows_all rfl) ?_
                     | refine boolF_t (beq_self_eq_true _) ?_
                     | refine Exists.intro _ (And.intro (map_get (by assumption)) ?_)
                     | refine Exists.intro _ (And.intro (Eq.refl (α := Option D) _) ?_)
                     | refine Exists.intro _ (And.intro (⟨(List.length_map _).symm⟩) ?_)
                     | refine Exists.intro _ (And.intro (⟨len_one⟩) ?_)
                     | refine Exists.intro _ (And.intro (⟨len_two⟩) ?_)
                     | refine Exists.intro _ (And.intro (⟨len_three⟩) ?_)
                     | refine Exists.intro _ (And.intro (⟨len_four⟩) ?_)
                     | refine Exists.intro _ (And.intro (⟨lenl_1⟩) ?_)
                     | refine Exists.intro _ (And.intro (⟨lenl_2⟩) ?_)
                     | refine Exists.intro _ (And.intro (⟨lenl_3⟩) ?_)
                     | refine Exists.intro _ (And.intro (⟨lenl_4⟩) ?_)
                     | refine Exists.intro _ (And.intro (⟨len_more⟩) ?_)
                     | refine Exists.intro _ (And.intro (⟨map_slice⟩) ?_)
                     | refine Exists.intro _ (And.intro (⟨List.map_take⟩) ?_)
                     | refine Exists.intro _ (And.intro (⟨List.map_drop⟩) ?_)
                     | refine Exists.intro _ (And.intro (⟨map_full'⟩) ?_)
                     | refine Exists.intro _ (And.intro (⟨map_full⟩) ?_)
                     | refine Exists.intro _ (And.intro (⟨map_snoc⟩) ?_)
                     | refine Exists.intro _ (And.intro (⟨List.map_append⟩) ?_)
                     | refine Exists.intro _ (And.intro (⟨Eq.refl (α := List D) _⟩) ?_)
                     | refine Exists.intro _ (And.intro (⟨Eq.refl (α := Int) _⟩) (And.intro (by omega) ?_))
                     | refine Exists.intro (0) (And.intro (⟨rfl⟩) (And.intro (Nat.zero_le _) ?_))
                     | refine Exists.intro _ (And.intro (⟨nc1⟩) (And.intro (by omega) ?_))
                     | refine Exists.intro _ (Exists.intro _ (And.intro (⟨Eq.refl (α := Int) _⟩) (And.intro (⟨Eq.refl (α := Int) _⟩) (And.intro (by omega) (And.intro (by omega) ?_)))))
                     | refine Exists.intro _ (Exists.intro _ (And.intro (⟨Eq.refl (α := Nat) _⟩) (And.intro (⟨Eq.refl (α := Nat) _⟩) ?_)))
                     | refine Exists.intro _ (And.intro (⟨Eq.refl (α := Nat) _⟩) ?_)
                     | refine Exists.intro _ (And.intro (u32and (by omega) (by omega)) ?_)
                     | refine Exists.intro _ (And.intro (u32or (by omega) (by omega)) ?_)
                     | refine Exists.intro _ (And.intro (u32xor (by omega) (by omega)) ?_)
                     | refine Exists.intro _ (And.intro (u8xor (by omega) (by omega)) ?_)
                     | refine Exists.intro _ (And.intro (u64and (by omega) (by omega)) ?_)
                     | refine Exists.intro _ (And.intro (u64or (by omega) (by omega)) ?_)
                     | refine Exists.intro _ (And.intro (u64xor (by omega) (by omega)) ?_)
                     | refine Exists.intro _ (And.intro (w64 (by omega) (by omega)) ?_)
                     | refine Exists.intro _ (And.intro (u32add (by omega)) ?_)
                     | refine Exists.intro _ (And.intro (u64add (by omega)) ?_)
                     | refine Exists.intro _ (And.intro (u8w (by omega)) ?_)
                     | refine Exists.intro _ (And.intro (u32w (by omega)) ?_)
                     | refine Exists.intro _ (And.intro (u64w (by omega)) ?_)
                     | refine Exists.intro _ (And.intro (u8m) ?_)
                     | refine Exists.intro _ (And.intro (u64i (by omega) (by omega)) ?_)
                     | refine Exists.intro _ (And.intro (min_int) ?_)
                     | refine Exists.intro _ (And.intro (max_int) ?_)
                     | refine Exists.intro _ (And.intro (imin) ?_)
                     | refine Exists.intro _ (And.intro (imax) ?_)
                     | refine Pure.call (f16_ok _ hm) ?_
                     | refine Pure.locK (f16_ok _ hm) ?_
                     | refine boolF_not ?_
                     | refine boolF_dect rfl ?_
                     | refine boolF_dect (by assumption) ?_
                     | refine boolF_decf (by assumption) ?_
                     | refine boolF_dect (by omega) ?_
                     | refine boolF_decf (by omega) ?_
                     | refine boolF_beqt (by omega) ?_
                     | refine boolF_beqf (by omega) ?_
                     | refine boolF_bnet (by omega) ?_
                     | refine boolF_bnef (by omega) ?_
                     | refine boolF_nbeqt (by omega) ?_
                     | refine boolF_nbeqf (by omega) ?_
                     | refine boolF_nbnet (by omega) ?_
                     | refine boolF_nbnef (by omega) ?_
                     | refine boolF_t (by assumption) ?_
                     | refine boolF_f (by assumption) ?_
                     | refine boolF_dec (fun _ => ?_) (fun _ => ?_)
                     | refine boolF_beq (fun _ => ?_) (fun _ => ?_)
                     | refine boolF_bne (fun _ => ?_) (fun _ => ?_)
                     | refine boolF_nbeq (fun _ => ?_) (fun _ => ?_)
                     | refine boolF_nbne (fun _ => ?_) (fun _ => ?_)
                     | refine boolF_leq (fun _ => ?_) (fun _ => ?_)
                     | refine Both.mk ?_ ?_)
          all_goals (conv => whnf)
          exact ⟨Told.wk wk_zero⟩
        · rw [next_near hfar]
          refine PureH.locK (f39_ok m 3 ((m.pieces_.take i).length + 2 + (m.pieces_.drop (i + 1)).length) ((m.pieces_.take i ++ [(⟨x.from_, b, x.node_⟩ : T58), ⟨b, x.to_, x.node_⟩] ++ m.pieces_.drop (i + 1)).map r59) (scr59 _ _) hm hfar) 2 (by rw [List.map_append, List.map_append]; rfl) ?_
          repeat' (conv => whnf
                   first
                     | refine PairK.mk (by kernel_rfl) ?_
                     | refine And.intro (by decide) ?_
                     | refine And.intro rfl ?_
                     | refine And.intro (List.cons_ne_nil _ _) ?_
                     | refine And.intro (Nat.le_of_ble_eq_true rfl) ?_
                     | refine And.intro (by omega) ?_
                     | refine And.intro (by simp only [List.length_map, List.length_append, List.length_cons, List.length_nil]; omega) ?_
                     | refine And.intro (by simpa only [List.length_map, List.length_append, List.length_cons, List.length_nil] using rfl) ?_
                     | refine And.intro (Eq.symm (List.length_map _)) ?_
                     | refine And.intro (all_map (fun _ => rfl)) ?_
                     | refine And.intro (cells_map (fun _ => rfl)) ?_
                     | refine And.intro (rows_map (fun _ => rfl) (fun _ => rfl)) ?_
                     | refine And.intro (okRows_one rfl rfl) ?_
                     | refine And.intro (okRows_all rfl) ?_
                     | refine boolF_t (beq_self_eq_true _) ?_
                     | refine Exists.intro _ (And.intro (map_get (by assumption)) ?_)
                     | refine Exists.intro _ (And.intro (Eq.refl (α := Option D) _) ?_)
                     | refine Exists.intro _ (And.intro (⟨(List.length_map _).symm⟩) ?_)
                     | refine Exists.intro _ (And.intro (⟨len_one⟩) ?_)
                     | refine Exists.intro _ (And.intro (⟨len_two⟩) ?_)
                     | refine Exists.intro _ (And.intro (⟨len_three⟩) ?_)
                     | refine Exists.intro _ (And.intro (⟨len_four⟩) ?_)
                     | refine Exists.intro _ (And.intro (⟨lenl_1⟩) ?_)
                     | refine Exists.intro _ (And.intro (⟨lenl_2⟩) ?_)
                     | refine Exists.intro _ (And.intro (⟨lenl_3⟩) ?_)
                     | refine Exists.intro _ (And.intro (⟨lenl_4⟩) ?_)
                     | refine Exists.intro _ (And.intro (⟨len_more⟩) ?_)
                     | refine Exists.intro _ (And.intro (⟨map_slice⟩) ?_)
                     | refine Exists.intro _ (And.intro (⟨List.map_take⟩) ?_)
                     | refine Exists.intro _ (And.intro (⟨List.map_drop⟩) ?_)
                     | refine Exists.intro _ (And.intro (⟨map_full'⟩) ?_)
                     | refine Exists.intro _ (And.intro (⟨map_full⟩) ?_)
                     | refine Exists.intro _ (And.intro (⟨map_snoc⟩) ?_)
                     | refine Exists.intro _ (And.intro (⟨List.map_append⟩) ?_)
                     | refine Exists.intro _ (And.intro (⟨Eq.refl (α := List D) _⟩) ?_)
                     | refine Exists.intro _ (And.intro (⟨Eq.refl (α := Int) _⟩) (And.intro (by omega) ?_))
                     | refine Exists.intro (0) (And.intro (⟨rfl⟩) (And.intro (Nat.zero_le _) ?_))
                     | refine Exists.intro _ (And.intro (⟨nc1⟩) (And.intro (by omega) ?_))
                     | refine Exists.intro _ (Exists.intro _ (And.intro (⟨Eq.refl (α := Int) _⟩) (And.intro (⟨Eq.refl (α := Int) _⟩) (And.intro (by omega) (And.intro (by omega) ?_)))))
                     | refine Exists.intro _ (Exists.intro _ (And.intro (⟨Eq.refl (α := Nat) _⟩) (And.intro (⟨Eq.refl (α := Nat) _⟩) ?_)))
                     | refine Exists.intro _ (And.intro (⟨Eq.refl (α := Nat) _⟩) ?_)
                     | refine Exists.intro _ (And.intro (u32and (by omega) (by omega)) ?_)
                     | refine Exists.intro _ (And.intro (u32or (by omega) (by omega)) ?_)
                     | refine Exists.intro _ (And.intro (u32xor (by omega) (by omega)) ?_)
                     | refine Exists.intro _ (And.intro (u8xor (by omega) (by omega)) ?_)
                     | refine Exists.intro _ (And.intro (u64and (by omega) (by omega)) ?_)
                     | refine Exists.intro _ (And.intro (u64or (by omega) (by omega)) ?_)
                     | refine Exists.intro _ (And.intro (u64xor (by omega) (by omega)) ?_)
                     | refine Exists.intro _ (And.intro (w64 (by omega) (by omega)) ?_)
                     | refine Exists.intro _ (And.intro (u32add (by omega)) ?_)
                     | refine Exists.intro _ (And.intro (u64add (by omega)) ?_)
                     | refine Exists.intro _ (And.intro (u8w (by omega)) ?_)
                     | refine Exists.intro _ (And.intro (u32w (by omega)) ?_)
                     | refine Exists.intro _ (And.intro (u64w (by omega)) ?_)
                     | refine Exists.intro _ (And.intro (u8m) ?_)
                     | refine Exists.intro _ (And.intro (u64i (by omega) (by omega)) ?_)
                     | refine Exists.intro _ (And.intro (min_int) ?_)
                     | refine Exists.intro _ (And.intro (max_int) ?_)
                     | refine Exists.intro _ (And.intro (imin) ?_)
                     | refine Exists.intro _ (And.intro (imax) ?_)
                     | refine Pure.call (f16_ok _ hm) ?_
                     | refine Pure.locK (f16_ok _ hm) ?_
                     | refine boolF_not ?_
                     | refine boolF_dect rfl ?_
                     | refine boolF_dect (by assumption) ?_
                     | refine boolF_decf (by assumption) ?_
                     | refine boolF_dect (by omega) ?_
                     | refine boolF_decf (by omega) ?_
                     | refine boolF_beqt (by omega) ?_
                     | refine boolF_beqf (by omega) ?_
                     | refine boolF_bnet (by omega) ?_
                     | refine boolF_bnef (by omega) ?_
                     | refine boolF_nbeqt (by omega) ?_
                     | refine boolF_nbeqf (by omega) ?_
                     | refine boolF_nbnet (by omega) ?_
                     | refine boolF_nbnef (by omega) ?_
                     | refine boolF_t (by assumption) ?_
                     | refine boolF_f (by assumption) ?_
                     | refine boolF_dec (fun _ => ?_) (fun _ => ?_)
                     | refine boolF_beq (fun _ => ?_) (fun _ => ?_)
                     | refine boolF_bne (fun _ => ?_) (fun _ => ?_)
                     | refine boolF_nbeq (fun _ => ?_) (fun _ => ?_)
                     | refine boolF_nbne (fun _ => ?_) (fun _ => ?_)
                     | refine boolF_leq (fun _ => ?_) (fun _ => ?_)
                     | refine Both.mk ?_ ?_)
          all_goals (conv => whnf)
          refine ⟨told_next (by simp only [List.length_append, List.length_cons, List.length_nil]) ?_⟩
          rw [List.map_append, List.map_append]; rfl
  · rw [splitM_out (fun h => hr h.1)]
    repeat' (conv => whnf
             first
               | refine PairK.mk (by kernel_rfl) ?_
               | refine And.intro (by decide) ?_
               | refine And.intro rfl ?_
               | refine And.intro (List.cons_ne_nil _ _) ?_
               | refine And.intro (Nat.le_of_ble_eq_true rfl) ?_
               | refine And.intro (by omega) ?_
               | refine And.intro (by simp only [List.length_map, List.length_append, List.length_cons, List.length_nil]; omega) ?_
               | refine And.intro (by simpa only [List.length_map, List.length_append, List.length_cons, List.length_nil] using rfl) ?_
               | refine And.intro (Eq.symm (List.length_map _)) ?_
               | refine And.intro (all_map (fun _ => rfl)) ?_
               | refine And.intro (cells_map (fun _ => rfl)) ?_
               | refine And.intro (rows_map (fun _ => rfl) (fun _ => rfl)) ?_
               | refine And.intro (okRows_one rfl rfl) ?_
               | refine And.intro (okRows_all rfl) ?_
               | refine boolF_t (beq_self_eq_true _) ?_
               | refine Exists.intro _ (And.intro (map_get (by assumption)) ?_)
               | refine Exists.intro _ (And.intro (Eq.refl (α := Option D) _) ?_)
               | refine Exists.intro _ (And.intro (⟨(List.length_map _).symm⟩) ?_)
               | refine Exists.intro _ (And.intro (⟨len_one⟩) ?_)
               | refine Exists.intro _ (And.intro (⟨len_two⟩) ?_)
               | refine Exists.intro _ (And.intro (⟨len_three⟩) ?_)
               | refine Exists.intro _ (And.intro (⟨len_four⟩) ?_)
               | refine Exists.intro _ (And.intro (⟨lenl_1⟩) ?_)
               | refine Exists.intro _ (And.intro (⟨lenl_2⟩) ?_)
               | refine Exists.intro _ (And.intro (⟨lenl_3⟩) ?_)
               | refine Exists.intro _ (And.intro (⟨lenl_4⟩) ?_)
               | refine Exists.intro _ (And.intro (⟨len_more⟩) ?_)
               | refine Exists.intro _ (And.intro (⟨map_slice⟩) ?_)
               | refine Exists.intro _ (And.intro (⟨List.map_take⟩) ?_)
               | refine Exists.intro _ (And.intro (⟨List.map_drop⟩) ?_)
               | refine Exists.intro _ (And.intro (⟨map_full'⟩) ?_)
               | refine Exists.intro _ (And.intro (⟨map_full⟩) ?_)
               | refine Exists.intro _ (And.intro (⟨map_snoc⟩) ?_)
               | refine Exists.intro _ (And.intro (⟨List.map_append⟩) ?_)
               | refine Exists.intro _ (And.intro (⟨Eq.refl (α := List D) _⟩) ?_)
               | refine Exists.intro _ (And.intro (⟨Eq.refl (α := Int) _⟩) (And.intro (by omega) ?_))
               | refine Exists.intro (0) (And.intro (⟨rfl⟩) (And.intro (Nat.zero_le _) ?_))
               | refine Exists.intro _ (And.intro (⟨nc1⟩) (And.intro (by omega) ?_))
               | refine Exists.intro _ (Exists.intro _ (And.intro (⟨Eq.refl (α := Int) _⟩) (And.intro (⟨Eq.refl (α := Int) _⟩) (And.intro (by omega) (And.intro (by omega) ?_)))))
               | refine Exists.intro _ (Exists.intro _ (And.intro (⟨Eq.refl (α := Nat) _⟩) (And.intro (⟨Eq.refl (α := Nat) _⟩) ?_)))
               | refine Exists.intro _ (And.intro (⟨Eq.refl (α := Nat) _⟩) ?_)
               | refine Exists.intro _ (And.intro (u32and (by omega) (by omega)) ?_)
               | refine Exists.intro _ (And.intro (u32or (by omega) (by omega)) ?_)
               | refine Exists.intro _ (And.intro (u32xor (by omega) (by omega)) ?_)
               | refine Exists.intro _ (And.intro (u8xor (by omega) (by omega)) ?_)
               | refine Exists.intro _ (And.intro (u64and (by omega) (by omega)) ?_)
               | refine Exists.intro _ (And.intro (u64or (by omega) (by omega)) ?_)
               | refine Exists.intro _ (And.intro (u64xor (by omega) (by omega)) ?_)
               | refine Exists.intro _ (And.intro (w64 (by omega) (by omega)) ?_)
               | refine Exists.intro _ (And.intro (u32add (by omega)) ?_)
               | refine Exists.intro _ (And.intro (u64add (by omega)) ?_)
               | refine Exists.intro _ (And.intro (u8w (by omega)) ?_)
               | refine Exists.intro _ (And.intro (u32w (by omega)) ?_)
               | refine Exists.intro _ (And.intro (u64w (by omega)) ?_)
               | refine Exists.intro _ (And.intro (u8m) ?_)
               | refine Exists.intro _ (And.intro (u64i (by omega) (by omega)) ?_)
               | refine Exists.intro _ (And.intro (min_int) ?_)
               | refine Exists.intro _ (And.intro (max_int) ?_)
               | refine Exists.intro _ (And.intro (imin) ?_)
               | refine Exists.intro _ (And.intro (imax) ?_)
               | refine Pure.call (f16_ok _ hm) ?_
               | refine Pure.locK (f16_ok _ hm) ?_
               | refine boolF_not ?_
               | refine boolF_dect rfl ?_
               | refine boolF_dect (by assumption) ?_
               | refine boolF_decf (by assumption) ?_
               | refine boolF_dect (by omega) ?_
               | refine boolF_decf (by omega) ?_
               | refine boolF_beqt (by omega) ?_
               | refine boolF_beqf (by omega) ?_
               | refine boolF_bnet (by omega) ?_
               | refine boolF_bnef (by omega) ?_
               | refine boolF_nbeqt (by omega) ?_
               | refine boolF_nbeqf (by omega) ?_
               | refine boolF_nbnet (by omega) ?_
               | refine boolF_nbnef (by omega) ?_
               | refine boolF_t (by assumption) ?_
               | refine boolF_f (by assumption) ?_
               | refine boolF_dec (fun _ => ?_) (fun _ => ?_)
               | refine boolF_beq (fun _ => ?_) (fun _ => ?_)
               | refine boolF_bne (fun _ => ?_) (fun _ => ?_)
               | refine boolF_nbeq (fun _ => ?_) (fun _ => ?_)
               | refine boolF_nbne (fun _ => ?_) (fun _ => ?_)
               | refine boolF_leq (fun _ => ?_) (fun _ => ?_)
               | refine Both.mk ?_ ?_)
    all_goals (conv => whnf)
    exact ⟨Told.wk wk_zero⟩

end Go.Proofs.Ytgcllbcpdcfkmaa

