import Derived.Test.YtgcllbcpdcfkmaaM5
namespace Go.Proofs.Ytgcllbcpdcfkmaa
open Go.A
set_option linter.unusedVariables false
set_option linter.unusedSimpArgs false
set_option linter.unnecessarySimpa false
attribute [local irreducible] IntKind.wrap bitsI
set_option maxRecDepth 100000

def d68 (ps : List (List T58)) : D := .sl (ps.map r23)
theorem sc68 (k : Nat) (l : List (List T58)) : (d68 l).sc k := by
  simp only [D.sc, d68, scs_map]
  intro x _; exact sc23 k x
theorem scr59 (k : Nat) (l : List T58) : scs k (l.map r59) := by rw [scs_map]; intro x _; simp [r59, c59, D.sc, d3, scs]

theorem f42_ok (n : Nat) (hn : n ≤ 1000000) : Owned Try.prog 42 [.nils, .int .i64 (n : Int)] 3 [] := by
  refine Owned.of ⟨trivial, trivial, trivial⟩ trivial ?_
  refine CallsIn.of_exec tab_ok mixed Try.func42 rfl rfl [] [] ?_
  repeat' (conv => whnf
           first
             | refine PairK.mk (by kernel_rfl) ?_
             | refine And.intro (by decide) ?_
             | refine And.intro rfl ?_
             | refine And.intro (List.cons_ne_nil _ _) ?_
             | refine And.intro (Nat.le_of_ble_eq_true rfl) ?_
             | refine And.intro (by omega) ?_
             | refine And.intro (by simp only [List.length_map, List.length_append, List.length_cons, List.length_nil]; omega) ?_
             | refine And.intro (by simpa only [List.length_map, List.length_append, List.length_cons, List.length_nil] using rfl) ?_
             | refine And.intro (Eq.symm (List.length_map _)) ?_
             | refine And.intro (all_map (fun _ => rfl)) ?_
             | refine And.intro (cells_map (fun _ => rfl)) ?_
             | refine And.intro (rows_map (fun _ => rfl) (fun _ => rfl)) ?_
             | refine And.intro (okRows_one rfl rfl) ?_
             | refine And.intro (okRows_all rfl) ?_
             | refine boolF_t (beq_self_eq_true _) ?_
             | refine Exists.intro _ (And.intro (map_get (by assumption)) ?_)
             | refine Exists.intro _ (And.intro (Eq.refl (α := Option D) _) ?_)
             | refine Exists.intro _ (And.intro (⟨(List.length_map _).symm⟩) ?_)
             | refine Exists.intro _ (And.intro (⟨len_one⟩) ?_)
             | refine Exists.intro _ (And.intro (⟨len_two⟩) ?_)
             | refine Exists.intro _ (And.intro (⟨len_three⟩) ?_)
             | refine Exists.intro _ (And.intro (⟨len_four⟩) ?_)
             | refine Exists.intro _ (And.intro (⟨lenl_1⟩) ?_)
             | refine Exists.intro _ (And.intro (⟨lenl_2⟩) ?_)
             | refine Exists.intro _ (And.intro (⟨lenl_3⟩) ?_)
             | refine Exists.intro _ (And.intro (⟨lenl_4⟩) ?_)
             | refine Exists.intro _ (And.intro (⟨len_more⟩) ?_)
             | refine Exists.intro _ (And.intro (⟨map_slice⟩) ?_)
             | refine Exists.intro _ (And.intro (⟨List.map_take⟩) ?_)
             | refine Exists.intro _ (And.intro (⟨List.map_drop⟩) ?_)
             | refine Exists.intro _ (And.intro (⟨map_full'⟩) ?_)
             | refine Exists.intro _ (And.intro (⟨map_full⟩) ?_)
             | refine Exists.intro _ (And.intro (⟨map_snoc⟩) ?_)
             | refine Exists.intro _ (And.intro (⟨List.map_append⟩) ?_)
             | refine Exists.intro _ (And.intro (⟨Eq.refl (α := List D) _⟩) ?_)
             | refine Exists.intro _ (And.intro (⟨Eq.refl (α := Int) _⟩) (And.intro (by omega) ?_))
             | refine Exists.intro (0) (And.intro (⟨rfl⟩) (And.intro (Nat.zero_le _) ?_))
             | refine Exists.intro _ (And.intro (⟨nc1⟩) (And.intro (by omega) ?_))
             | refine Exists.intro _ (Exists.intro _ (And.intro (⟨Eq.refl (α := Int) _⟩) (And.intro (⟨Eq.refl (α := Int) _⟩) (And.intro (by omega) (And.intro (by omega) ?_)))))
             | refine Exists.intro _ (Exists.intro _ (And.intro (⟨Eq.refl (α := Nat) _⟩) (And.intro (⟨Eq.refl (α := Nat) _⟩) ?_)))
             | refine Exists.intro _ (And.intro (⟨Eq.refl (α := Nat) _⟩) ?_)
             | refine Exists.intro _ (And.intro (u32and (by omega) (by omega)) ?_)
             | refine Exists.intro _ (And.intro (u32or (by omega) (by omega)) ?_)
             | refine Exists.intro _ (And.intro (u32xor (by omega) (by omega)) ?_)
             | refine Exists.intro _ (And.intro (u8xor (by omega) (by omega)) ?_)
             | refine Exists.intro _ (And.intro (u64and (by omega) (by omega)) ?_)
             | refine Exists.intro _ (And.intro (u64or (by omega) (by omega)) ?_)
             | refine Exists.intro _ (And.intro (u64xor (by omega) (by omega)) ?_)
             | refine Exists.intro _ (And.intro (w64 (by omega) (by omega)) ?_)
             | refine Exists.intro _ (And.intro (u32add (by omega)) ?_)
             | refine Exists.intro _ (And.intro (u64add (by omega)) ?_)
             | refine Exists.intro _ (And.intro (u8w (by omega)) ?_)
             | refine Exists.intro _ (And.intro (u32w (by omega)) ?_)
             | refine Exists.intro _ (And.intro (u64w (by omega)) ?_)
             | refine Exists.intro _ (And.intro (u8m) ?_)
             | refine Exists.intro _ (And.intro (u64i (by omega) (by omega)) ?_)
             | refine Exists.intro _ (And.intro (min_int) ?_)
             | refine Exists.intro _ (And.intro (max_int) ?_)
             | refine Exists.intro _ (And.intro (imin) ?_)
             | refine Exists.intro _ (And.intro (imax) ?_)
             | refine boolF_not ?_
             | refine boolF_dect rfl ?_
             | refine boolF_dect (by assumption) ?_
             | refine boolF_decf (by assumption) ?_
             | refine boolF_dect (by omega) ?_
             | refine boolF_decf (by omega) ?_
             | refine boolF_beqt (by omega) ?_
             | refine boolF_beqf (by omega) ?_
             | refine boolF_bnet (by omega) ?_
             | refine boolF_bnef (by omega) ?_
             | refine boolF_nbeqt (by omega) ?_
             | refine boolF_nbeqf (by omega) ?_
             | refine boolF_nbnet (by omega) ?_
             | refine boolF_nbnef (by omega) ?_
             | refine boolF_t (by assumption) ?_
             | refine boolF_f (by assumption) ?_
             | refine boolF_dec (fun _ => ?_) (fun _ => ?_)
             | refine boolF_beq (fun _ => ?_) (fun _ => ?_)
             | refine boolF_bne (fun _ => ?_) (fun _ => ?_)
             | refine boolF_nbeq (fun _ => ?_) (fun _ => ?_)
             | refine boolF_nbne (fun _ => ?_) (fun _ => ?_)
             | refine boolF_leq (fun _ => ?_) (fun _ => ?_)
             | refine Both.mk ?_ ?_)
  all_goals (conv => whnf)
  · exact ⟨1, Ghost.trim (o := 0) (t := 0) rfl rfl⟩
  · exact ⟨0, Ghost.mat (t := 0) rfl⟩

theorem f41_ok (ps : List (List T58)) (hp : ps.length ≤ 1000000) (hl : ps.flatten.length ≤ 1000000) : Owned Try.prog 41 [d68 ps] 3 (ps.flatten.map r59) := by
  have hpre : ∀ i, ((ps.take i).flatten).length ≤ ps.flatten.length := fun i => by
    have : ps.flatten = (ps.take i).flatten ++ (ps.drop i).flatten := by rw [← List.flatten_append, List.take_append_drop]
    rw [this, List.length_append]; omega
  have hstep : ∀ i x, ps[i]? = some x → (ps.take (i + 1)).flatten = (ps.take i).flatten ++ x := fun i x h => by
    rw [take_snoc h, List.flatten_append]; simp
  refine Owned.of ⟨sc68 _ _, trivial⟩ (scr59 _ _) ?_
  refine CallsIn.of_exec tab_ok mixed Try.func41 rfl rfl [] [] ?_
  repeat' (conv => whnf
           first
             | refine PairK.mk (by kernel_rfl) ?_
             | refine And.intro (by decide) ?_
             | refine And.intro rfl ?_
             | refine And.intro (List.cons_ne_nil _ _) ?_
             | refine And.intro (Nat.le_of_ble_eq_true rfl) ?_
             | refine And.intro (by omega) ?_
             | refine And.intro (by simp only [List.length_map, List.length_append, List.length_cons, List.length_nil]; omega) ?_
             | refine And.intro (by simpa only [List.length_map, List.length_append, List.length_cons, List.length_nil] using rfl) ?_
             | refine And.intro (Eq.symm (List.length_map _)) ?_
             | refine And.intro (all_map (fun _ => rfl)) ?_
             | refine And.intro (cells_map (fun _ => rfl)) ?_
             | refine And.intro (rows_map (fun _ => rfl) (fun _ => rfl)) ?_
             | refine And.intro (okRows_one rfl rfl) ?_
             | refine And.intro (okRows_all rfl) ?_
             | refine boolF_t (beq_self_eq_true _) ?_
             | refine Exists.intro _ (And.intro (map_get (by assumption)) ?_)
             | refine Exists.intro _ (And.intro (Eq.refl (α := Option D) _) ?_)
             | refine Exists.intro _ (And.intro (⟨(List.length_map _).symm⟩) ?_)
             | refine Exists.intro _ (And.intro (⟨len_one⟩) ?_)
             | refine Exists.intro _ (And.intro (⟨len_two⟩) ?_)
             | refine Exists.intro _ (And.intro (⟨len_three⟩) ?_)
             | refine Exists.intro _ (And.intro (⟨len_four⟩) ?_)
             | refine Exists.intro _ (And.intro (⟨lenl_1⟩) ?_)
             | refine Exists.intro _ (And.intro (⟨lenl_2⟩) ?_)
             | refine Exists.intro _ (And.intro (⟨lenl_3⟩) ?_)
             | refine Exists.intro _ (And.intro (⟨lenl_4⟩) ?_)
             | refine Exists.intro _ (And.intro (⟨len_more⟩) ?_)
             | refine Exists.intro _ (And.intro (⟨map_slice⟩) ?_)
             | refine Exists.intro _ (And.intro (⟨List.map_take⟩) ?_)
             | refine Exists.intro _ (And.intro (⟨List.map_drop⟩) ?_)
             | refine Exists.intro _ (And.intro (⟨map_full'⟩) ?_)
             | refine Exists.intro _ (And.intro (⟨map_full⟩) ?_)
             | refine Exists.intro _ (And.intro (⟨map_snoc⟩) ?_)
             | refine Exists.intro _ (And.intro (⟨List.map_append⟩) ?_)
             | refine Exists.intro _ (And.intro (⟨Eq.refl (α := List D) _⟩) ?_)
             | refine Exists.intro _ (And.intro (⟨Eq.refl (α := Int) _⟩) (And.intro (by omega) ?_))
             | refine Exists.intro (0) (And.intro (⟨rfl⟩) (And.intro (Nat.zero_le _) ?_))
             | refine Exists.intro _ (And.intro (⟨nc1⟩) (And.intro (by omega) ?_))
             | refine Exists.intro _ (Exists.intro _ (And.intro (⟨Eq.refl (α := Int) _⟩) (And.intro (⟨Eq.refl (α := Int) _⟩) (And.intro (by omega) (And.intro (by omega) ?_)))))
             | refine Exists.intro _ (Exists.intro _ (And.intro (⟨Eq.refl (α := Nat) _⟩) (And.intro (⟨Eq.refl (α := Nat) _⟩) ?_)))
             | refine Exists.intro _ (And.intro (⟨Eq.refl (α := Nat) _⟩) ?_)
             | refine Exists.intro _ (And.intro (u32and (by omega) (by omega)) ?_)
             | refine Exists.intro _ (And.intro (u32or (by omega) (by omega)) ?_)
             | refine Exists.intro _ (And.intro (u32xor (by omega) (by omega)) ?_)
             | refine Exists.intro _ (And.intro (u8xor (by omega) (by omega)) ?_)
             | refine Exists.intro _ (And.intro (u64and (by omega) (by omega)) ?_)
             | refine Exists.intro _ (And.intro (u64or (by omega) (by omega)) ?_)
             | refine Exists.intro _ (And.intro (u64xor (by omega) (by omega)) ?_)
             | refine Exists.intro _ (And.intro (w64 (by omega) (by omega)) ?_)
             | refine Exists.intro _ (And.intro (u32add (by omega)) ?_)
             | refine Exists.intro _ (And.intro (u64add (by omega)) ?_)
             | refine Exists.intro _ (And.intro (u8w (by omega)) ?_)
             | refine Exists.intro _ (And.intro (u32w (by omega)) ?_)
             | refine Exists.intro _ (And.intro (u64w (by omega)) ?_)
             | refine Exists.intro _ (And.intro (u8m) ?_)
             | refine Exists.intro _ (And.intro (u64i (by omega) (by omega)) ?_)
             | refine Exists.intro _ (And.intro (min_int) ?_)
             | refine Exists.intro _ (And.intro (max_int) ?_)
             | refine Exists.intro _ (And.intro (imin) ?_)
             | refine Exists.intro _ (And.intro (imax) ?_)
             | refine boolF_not ?_
             | refine boolF_dect rfl ?_
             | refine boolF_dect (by assumption) ?_
             | refine boolF_decf (by assumption) ?_
             | refine boolF_dect (by omega) ?_
             | refine boolF_decf (by omega) ?_
             | refine boolF_beqt (by omega) ?_
             | refine boolF_beqf (by omega) ?_
             | refine boolF_bnet (by omega) ?_
             | refine boolF_bnef (by omega) ?_
             | refine boolF_nbeqt (by omega) ?_
             | refine boolF_nbeqf (by omega) ?_
             | refine boolF_nbnet (by omega) ?_
             | refine boolF_nbnef (by omega) ?_
             | refine boolF_t (by assumption) ?_
             | refine boolF_f (by assumption) ?_
             | refine boolF_dec (fun _ => ?_) (fun _ => ?_)
             | refine boolF_beq (fun _ => ?_) (fun _ => ?_)
             | refine boolF_bne (fun _ => ?_) (fun _ => ?_)
             | refine boolF_nbeq (fun _ => ?_) (fun _ => ?_)
             | refine boolF_nbne (fun _ => ?_) (fun _ => ?_)
             | refine boolF_leq (fun _ => ?_) (fun _ => ?_)
             | refine Both.mk ?_ ?_)
  all_goals (conv => whnf)
  refine W_loopG (ι := Nat) (fun i => ⟨(d68 ps :: D.undef :: D.undef :: .int .i64 ((ps.take i).flatten.length : Int) :: D.undef :: D.undef :: D.undef :: D.undef :: D.undef :: d68 ps :: .int .i64 (ps.length:Int) :: .int .i64 (i:Int) :: D.undef :: D.undef :: D.undef :: D.undef :: D.undef :: D.undef :: D.undef :: D.undef :: D.undef :: D.undef :: D.undef :: D.undef :: D.undef :: D.undef :: D.undef :: D.undef :: D.undef :: D.undef :: D.undef :: D.undef :: D.undef :: D.undef :: D.undef :: D.undef :: []), []⟩) (fun i => ps.length - i)
    (fun i => i ≤ ps.length) 0 (Ghost.hold [0,3,9,10,11] rfl) (Nat.zero_le _) ?_
  intro i h1
  refine exec_ok tab_ok mixed 1000 (bx := [true]) (own := []) ?_
  rcases Nat.lt_or_ge i ps.length with h | h
  · obtain ⟨x, hx⟩ := at_lt h
    have e1 := hstep i x hx
    have e2 := hpre (i + 1)
    rw [e1, List.length_append] at e2
    repeat' (conv => whnf
             first
               | refine PairK.mk (by kernel_rfl) ?_
               | refine And.intro (by decide) ?_
               | refine And.intro rfl ?_
               | refine And.intro (List.cons_ne_nil _ _) ?_
               | refine And.intro (Nat.le_of_ble_eq_true rfl) ?_
               | refine And.intro (by omega) ?_
               | refine And.intro (by simp only [List.length_map, List.length_append, List.length_cons, List.length_nil]; omega) ?_
               | refine And.intro (by simpa only [List.length_map, List.length_append, List.length_cons, List.length_nil] using rfl) ?_
               | refine And.intro (Eq.symm (List.length_map _)) ?_
               | refine And.intro (all_map (fun _ => rfl)) ?_
               | refine And.intro (cells_map (fun _ => rfl)) ?_
               | refine And.intro (rows_map (fun _ => rfl) (fun _ => rfl)) ?_
               | refine And.intro (okRows_one rfl rfl) ?_
               | refine And.intro (okRows_all rfl) ?_
               | refine boolF_t (beq_self_eq_true _) ?_
               | refine Exists.intro _ (And.intro (map_get (by assumption)) ?_)
               | refine Exists.intro _ (And.intro (Eq.refl (α := Option D) _) ?_)
               | refine Exists.intro _ (And.intro (⟨(List.length_map _).symm⟩) ?_)
               | refine Exists.intro _ (And.intro (⟨len_one⟩) ?_)
               | refine Exists.intro _ (And.intro (⟨len_two⟩) ?_)
               | refine Exists.intro _ (And.intro (⟨len_three⟩) ?_)
               | refine Exists.intro _ (And.intro (⟨len_four⟩) ?_)
               | refine Exists.intro _ (And.intro (⟨lenl_1⟩) ?_)
               | refine Exists.intro _ (And.intro (⟨lenl_2⟩) ?_)
               | refine Exists.intro _ (And.intro (⟨lenl_3⟩) ?_)
               | refine Exists.intro _ (And.intro (⟨lenl_4⟩) ?_)
               | refine Exists.intro _ (And.intro (⟨len_more⟩) ?_)
               | refine Exists.intro _ (And.intro (⟨map_slice⟩) ?_)
               | refine Exists.intro _ (And.intro (⟨List.map_take⟩) ?_)
               | refine Exists.intro _ (And.intro (⟨List.map_drop⟩) ?_)
               | refine Exists.intro _ (And.intro (⟨map_full'⟩) ?_)
               | refine Exists.intro _ (And.intro (⟨map_full⟩) ?_)
               | refine Exists.intro _ (And.intro (⟨map_snoc⟩) ?_)
               | refine Exists.intro _ (And.intro (⟨List.map_append⟩) ?_)
               | refine Exists.intro _ (And.intro (⟨Eq.refl (α := List D) _⟩) ?_)
               | refine Exists.intro _ (And.intro (⟨Eq.refl (α := Int) _⟩) (And.intro (by omega) ?_))
               | refine Exists.intro (0) (And.intro (⟨rfl⟩) (And.intro (Nat.zero_le _) ?_))
               | refine Exists.intro _ (And.intro (⟨nc1⟩) (And.intro (by omega) ?_))
               | refine Exists.intro _ (Exists.intro _ (And.intro (⟨Eq.refl (α := Int) _⟩) (And.intro (⟨Eq.refl (α := Int) _⟩) (And.intro (by omega) (And.intro (by omega) ?_)))))
               | refine Exists.intro _ (Exists.intro _ (And.intro (⟨Eq.refl (α := Nat) _⟩) (And.intro (⟨Eq.refl (α := Nat) _⟩) ?_)))
               | refine Exists.intro _ (And.intro (⟨Eq.refl (α := Nat) _⟩) ?_)
               | refine Exists.intro _ (And.intro (u32and (by omega) (by omega)) ?_)
               | refine Exists.intro _ (And.intro (u32or (by omega) (by omega)) ?_)
               | refine Exists.intro _ (And.intro (u32xor (by omega) (by omega)) ?_)
               | refine Exists.intro _ (And.intro (u8xor (by omega) (by omega)) ?_)
               | refine Exists.intro _ (And.intro (u64and (by omega) (by omega)) ?_)
               | refine Exists.intro _ (And.intro (u64or (by omega) (by omega)) ?_)
               | refine Exists.intro _ (And.intro (u64xor (by omega) (by omega)) ?_)
               | refine Exists.intro _ (And.intro (w64 (by omega) (by omega)) ?_)
               | refine Exists.intro _ (And.intro (u32add (by omega)) ?_)
               | refine Exists.intro _ (And.intro (u64add (by omega)) ?_)
               | refine Exists.intro _ (And.intro (u8w (by omega)) ?_)
               | refine Exists.intro _ (And.intro (u32w (by omega)) ?_)
               | refine Exists.intro _ (And.intro (u64w (by omega)) ?_)
               | refine Exists.intro _ (And.intro (u8m) ?_)
               | refine Exists.intro _ (And.intro (u64i (by omega) (by omega)) ?_)
               | refine Exists.intro _ (And.intro (min_int) ?_)
               | refine Exists.intro _ (And.intro (max_int) ?_)
               | refine Exists.intro _ (And.intro (imin) ?_)
               | refine Exists.intro _ (And.intro (imax) ?_)
               | refine boolF_not ?_
               | refine boolF_dect rfl ?_
               | refine boolF_dect (by assumption) ?_
               | refine boolF_decf (by assumption) ?_
               | refine boolF_dect (by omega) ?_
               | refine boolF_decf (by omega) ?_
               | refine boolF_beqt (by omega) ?_
               | refine boolF_beqf (by omega) ?_
               | refine boolF_bnet (by omega) ?_
               | refine boolF_bnef (by omega) ?_
               | refine boolF_nbeqt (by omega) ?_
               | refine boolF_nbeqf (by omega) ?_
               | refine boolF_nbnet (by omega) ?_
               | refine boolF_nbnef (by omega) ?_
               | refine boolF_t (by assumption) ?_
               | refine boolF_f (by assumption) ?_
               | refine boolF_dec (fun _ => ?_) (fun _ => ?_)
               | refine boolF_beq (fun _ => ?_) (fun _ => ?_)
               | refine boolF_bne (fun _ => ?_) (fun _ => ?_)
               | refine boolF_nbeq (fun _ => ?_) (fun _ => ?_)
               | refine boolF_nbne (fun _ => ?_) (fun _ => ?_)
               | refine boolF_leq (fun _ => ?_) (fun _ => ?_)
               | refine Both.mk ?_ ?_)
    all_goals (conv => whnf)
    refine ⟨i + 1, Ghost.hold [0,3,9,10,11] ?_, by omega, by omega⟩
    rw [e1, List.length_append]
    rfl
  rw [List.take_of_length_le h]
  repeat' (conv => whnf
           first
             | refine PairK.mk (by kernel_rfl) ?_
             | refine And.intro (by decide) ?_
             | refine And.intro rfl ?_
             | refine And.intro (List.cons_ne_nil _ _) ?_
             | refine And.intro (Nat.le_of_ble_eq_true rfl) ?_
             | refine And.intro (by omega) ?_
             | refine And.intro (by simp only [List.length_map, List.length_append, List.length_cons, List.length_nil]; omega) ?_
             | refine And.intro (by simpa only [List.length_map, List.length_append, List.length_cons, List.length_nil] using rfl) ?_
             | refine And.intro (Eq.symm (List.length_map _)) ?_
             | refine And.intro (all_map (fun _ => rfl)) ?_
             | refine And.intro (cells_map (fun _ => rfl)) ?_
             | refine And.intro (rows_map (fun _ => rfl) (fun _ => rfl)) ?_
             | refine And.intro (okRows_one rfl rfl) ?_
             | refine And.intro (okRows_all rfl) ?_
             | refine boolF_t (beq_self_eq_true _) ?_
             | refine Exists.intro _ (And.intro (map_get (by assumption)) ?_)
             | refine Exists.intro _ (And.intro (Eq.refl (α := Option D) _) ?_)
             | refine Exists.intro _ (And.intro (⟨(List.length_map _).symm⟩) ?_)
             | refine Exists.intro _ (And.intro (⟨len_one⟩) ?_)
             | refine Exists.intro _ (And.intro (⟨len_two⟩) ?_)
             | refine Exists.intro _ (And.intro (⟨len_three⟩) ?_)
             | refine Exists.intro _ (And.intro (⟨len_four⟩) ?_)
             | refine Exists.intro _ (And.intro (⟨lenl_1⟩) ?_)
             | refine Exists.intro _ (And.intro (⟨lenl_2⟩) ?_)
             | refine Exists.intro _ (And.intro (⟨lenl_3⟩) ?_)
             | refine Exists.intro _ (And.intro (⟨lenl_4⟩) ?_)
             | refine Exists.intro _ (And.intro (⟨len_more⟩) ?_)
             | refine Exists.intro _ (And.intro (⟨map_slice⟩) ?_)
             | refine Exists.intro _ (And.intro (⟨List.map_take⟩) ?_)
             | refine Exists.intro _ (And.intro (⟨List.map_drop⟩) ?_)
             | refine Exists.intro _ (And.intro (⟨map_full'⟩) ?_)
             | refine Exists.intro _ (And.intro (⟨map_full⟩) ?_)
             | refine Exists.intro _ (And.intro (⟨map_snoc⟩) ?_)
             | refine Exists.intro _ (And.intro (⟨List.map_append⟩) ?_)
             | refine Exists.intro _ (And.intro (⟨Eq.refl (α := List D) _⟩) ?_)
             | refine Exists.intro _ (And.intro (⟨Eq.refl (α := Int) _⟩) (And.intro (by omega) ?_))
             | refine Exists.intro (0) (And.intro (⟨rfl⟩) (And.intro (Nat.zero_le _) ?_))
             | refine Exists.intro _ (And.intro (⟨nc1⟩) (And.intro (by omega) ?_))
             | refine Exists.intro _ (Exists.intro _ (And.intro (⟨Eq.refl (α := Int) _⟩) (And.intro (⟨Eq.refl (α := Int) _⟩) (And.intro (by omega) (And.intro (by omega) ?_)))))
             | refine Exists.intro _ (Exists.intro _ (And.intro (⟨Eq.refl (α := Nat) _⟩) (And.intro (⟨Eq.refl (α := Nat) _⟩) ?_)))
             | refine Exists.intro _ (And.intro (⟨Eq.refl (α := Nat) _⟩) ?_)
             | refine Exists.intro _ (And.intro (u32and (by omega) (by omega)) ?_)
             | refine Exists.intro _ (And.intro (u32or (by omega) (by omega)) ?_)
             | refine Exists.intro _ (And.intro (u32xor (by omega) (by omega)) ?_)
             | refine Exists.intro _ (And.intro (u8xor (by omega) (by omega)) ?_)
             | refine Exists.intro _ (And.intro (u64and (by omega) (by omega)) ?_)
             | refine Exists.intro _ (And.intro (u64or (by omega) (by omega)) ?_)
             | refine Exists.intro _ (And.intro (u64xor (by omega) (by omega)) ?_)
             | refine Exists.intro _ (And.intro (w64 (by omega) (by omega)) ?_)
             | refine Exists.intro _ (And.intro (u32add (by omega)) ?_)
             | refine Exists.intro _ (And.intro (u64add (by omega)) ?_)
             | refine Exists.intro _ (And.intro (u8w (by omega)) ?_)
             | refine Exists.intro _ (And.intro (u32w (by omega)) ?_)
             | refine Exists.intro _ (And.intro (u64w (by omega)) ?_)
             | refine Exists.intro _ (And.intro (u8m) ?_)
             | refine Exists.intro _ (And.intro (u64i (by omega) (by omega)) ?_)
             | refine Exists.intro _ (And.intro (min_int) ?_)
             | refine Exists.intro _ (And.intro (max_int) ?_)
             | refine Exists.intro _ (And.intro (imin) ?_)
             | refine Exists.intro _ (And.intro (imax) ?_)
             | refine boolF_not ?_
             | refine boolF_dect rfl ?_
             | refine boolF_dect (by assumption) ?_
             | refine boolF_decf (by assumption) ?_
             | refine boolF_dect (by omega) ?_
             | refine boolF_decf (by omega) ?_
             | refine boolF_beqt (by omega) ?_
             | refine boolF_beqf (by omega) ?_
             | refine boolF_bnet (by omega) ?_
             | refine boolF_bnef (by omega) ?_
             | refine boolF_nbeqt (by omega) ?_
             | refine boolF_nbeqf (by omega) ?_
             | refine boolF_nbnet (by omega) ?_
             | refine boolF_nbnef (by omega) ?_
             | refine boolF_t (by assumption) ?_
             | refine boolF_f (by assumption) ?_
             | refine boolF_dec (fun _ => ?_) (fun _ => ?_)
             | refine boolF_beq (fun _ => ?_) (fun _ => ?_)
             | refine boolF_bne (fun _ => ?_) (fun _ => ?_)
             | refine boolF_nbeq (fun _ => ?_) (fun _ => ?_)
             | refine boolF_nbne (fun _ => ?_) (fun _ => ?_)
             | refine boolF_leq (fun _ => ?_) (fun _ => ?_)
             | refine Both.mk ?_ ?_)
  all_goals (conv => whnf)
  refine Owned.call (f42_ok _ hl) (fun ver => ?_)
  repeat' (conv => whnf
           first
             | refine PairK.mk (by kernel_rfl) ?_
             | refine And.intro (by decide) ?_
             | refine And.intro rfl ?_
             | refine And.intro (List.cons_ne_nil _ _) ?_
             | refine And.intro (Nat.le_of_ble_eq_true rfl) ?_
             | refine And.intro (by omega) ?_
             | refine And.intro (by simp only [List.length_map, List.length_append, List.length_cons, List.length_nil]; omega) ?_
             | refine And.intro (by simpa only [List.length_map, List.length_append, List.length_cons, List.length_nil] using rfl) ?_
             | refine And.intro (Eq.symm (List.length_map _)) ?_
             | refine And.intro (all_map (fun _ => rfl)) ?_
             | refine And.intro (cells_map (fun _ => rfl)) ?_
             | refine And.intro (rows_map (fun _ => rfl) (fun _ => rfl)) ?_
             | refine And.intro (okRows_one rfl rfl) ?_
             | refine And.intro (okRows_all rfl) ?_
             | refine boolF_t (beq_self_eq_true _) ?_
             | refine Exists.intro _ (And.intro (map_get (by assumption)) ?_)
             | refine Exists.intro _ (And.intro (Eq.refl (α := Option D) _) ?_)
             | refine Exists.intro _ (And.intro (⟨(List.length_map _).symm⟩) ?_)
             | refine Exists.intro _ (And.intro (⟨len_one⟩) ?_)
             | refine Exists.intro _ (And.intro (⟨len_two⟩) ?_)
             | refine Exists.intro _ (And.intro (⟨len_three⟩) ?_)
             | refine Exists.intro _ (And.intro (⟨len_four⟩) ?_)
             | refine Exists.intro _ (And.intro (⟨lenl_1⟩) ?_)
             | refine Exists.intro _ (And.intro (⟨lenl_2⟩) ?_)
             | refine Exists.intro _ (And.intro (⟨lenl_3⟩) ?_)
             | refine Exists.intro _ (And.intro (⟨lenl_4⟩) ?_)
             | refine Exists.intro _ (And.intro (⟨len_more⟩) ?_)
             | refine Exists.intro _ (And.intro (⟨map_slice⟩) ?_)
             | refine Exists.intro _ (And.intro (⟨List.map_take⟩) ?_)
             | refine Exists.intro _ (And.intro (⟨List.map_drop⟩) ?_)
             | refine Exists.intro _ (And.intro (⟨map_full'⟩) ?_)
             | refine Exists.intro _ (And.intro (⟨map_full⟩) ?_)
             | refine Exists.intro _ (And.intro (⟨map_snoc⟩) ?_)
             | refine Exists.intro _ (And.intro (⟨List.map_append⟩) ?_)
             | refine Exists.intro _ (And.intro (⟨Eq.refl (α := List D) _⟩) ?_)
             | refine Exists.intro _ (And.intro (⟨Eq.refl (α := Int) _⟩) (And.intro (by omega) ?_))
             | refine Exists.intro (0) (And.intro (⟨rfl⟩) (And.intro (Nat.zero_le _) ?_))
             | refine Exists.intro _ (And.intro (⟨nc1⟩) (And.intro (by omega) ?_))
             | refine Exists.intro _ (Exists.intro _ (And.intro (⟨Eq.refl (α := Int) _⟩) (And.intro (⟨Eq.refl (α := Int) _⟩) (And.intro (by omega) (And.intro (by omega) ?_)))))
             | refine Exists.intro _ (Exists.intro _ (And.intro (⟨Eq.refl (α := Nat) _⟩) (And.intro (⟨Eq.refl (α := Nat) _⟩) ?_)))
             | refine Exists.intro _ (And.intro (⟨Eq.refl (α := Nat) _⟩) ?_)
             | refine Exists.intro _ (And.intro (u32and (by omega) (by omega)) ?_)
             | refine Exists.intro _ (And.intro (u32or (by omega) (by omega)) ?_)
             | refine Exists.intro _ (And.intro (u32xor (by omega) (by omega)) ?_)
             | refine Exists.intro _ (And.intro (u8xor (by omega) (by omega)) ?_)
             | refine Exists.intro _ (And.intro (u64and (by omega) (by omega)) ?_)
             | refine Exists.intro _ (And.intro (u64or (by omega) (by omega)) ?_)
             | refine Exists.intro _ (And.intro (u64xor (by omega) (by omega)) ?_)
             | refine Exists.intro _ (And.intro (w64 (by omega) (by omega)) ?_)
             | refine Exists.intro _ (And.intro (u32add (by omega)) ?_)
             | refine Exists.intro _ (And.intro (u64add (by omega)) ?_)
             | refine Exists.intro _ (And.intro (u8w (by omega)) ?_)
             | refine Exists.intro _ (And.intro (u32w (by omega)) ?_)
             | refine Exists.intro _ (And.intro (u64w (by omega)) ?_)
             | refine Exists.intro _ (And.intro (u8m) ?_)
             | refine Exists.intro _ (And.intro (u64i (by omega) (by omega)) ?_)
             | refine Exists.intro _ (And.intro (min_int) ?_)
             | refine Exists.intro _ (And.intro (max_int) ?_)
             | refine Exists.intro _ (And.intro (imin) ?_)
             | refine Exists.intro _ (And.intro (imax) ?_)
             | refine boolF_not ?_
             | refine boolF_dect rfl ?_
             | refine boolF_dect (by assumption) ?_
             | refine boolF_decf (by assumption) ?_
             | refine boolF_dect (by omega) ?_
             | refine boolF_decf (by omega) ?_
             | refine boolF_beqt (by omega) ?_
             | refine boolF_beqf (by omega) ?_
             | refine boolF_bnet (by omega) ?_
             | refine boolF_bnef (by omega) ?_
             | refine boolF_nbeqt (by omega) ?_
             | refine boolF_nbeqf (by omega) ?_
             | refine boolF_nbnet (by omega) ?_
             | refine boolF_nbnef (by omega) ?_
             | refine boolF_t (by assumption) ?_
             | refine boolF_f (by assumption) ?_
             | refine boolF_dec (fun _ => ?_) (fun _ => ?_)
             | refine boolF_beq (fun _ => ?_) (fun _ => ?_)
             | refine boolF_bne (fun _ => ?_) (fun _ => ?_)
             | refine boolF_nbeq (fun _ => ?_) (fun _ => ?_)
             | refine boolF_nbne (fun _ => ?_) (fun _ => ?_)
             | refine boolF_leq (fun _ => ?_) (fun _ => ?_)
             | refine Both.mk ?_ ?_)
  all_goals (conv => whnf)
  refine W_loopG (ι := Nat) (fun i => ⟨(D.undef :: D.undef :: D.undef :: D.undef :: D.undef :: D.undef :: .h 0 (ver + i) 0 (ps.take i).flatten.length :: D.undef :: D.undef :: D.undef :: D.undef :: D.undef :: D.undef :: D.undef :: D.undef :: D.undef :: D.undef :: D.undef :: D.undef :: D.undef :: D.undef :: D.undef :: D.undef :: D.undef :: D.undef :: d68 ps :: .int .i64 (ps.length:Int) :: .int .i64 (i:Int) :: D.undef :: D.undef :: D.undef :: D.undef :: D.undef :: D.undef :: D.undef :: D.undef :: []), [.arr (ver + i) 3 ((ps.take i).flatten.map r59)]⟩) (fun i => ps.length - i)
    (fun i => i ≤ ps.length) 0 (Ghost.hold [6,25,26,27] rfl) (Nat.zero_le _) ?_
  clear h h1 i
  intro i h1
  refine exec_ok tab_ok mixed 1000 (bx := [false]) (own := []) ?_
  rcases Nat.lt_or_ge i ps.length with h | h
  · obtain ⟨x, hx⟩ := at_lt h
    have e1 := hstep i x hx
    have e2 := hpre (i + 1)
    rw [e1, List.length_append] at e2
    repeat' (conv => whnf
             first
               | refine PairK.mk (by kernel_rfl) ?_
               | refine And.intro (by decide) ?_
               | refine And.intro rfl ?_
               | refine And.intro (List.cons_ne_nil _ _) ?_
               | refine And.intro (Nat.le_of_ble_eq_true rfl) ?_
               | refine And.intro (by omega) ?_
               | refine And.intro (by simp only [List.length_map, List.length_append, List.length_cons, List.length_nil]; omega) ?_
               | refine And.intro (by simpa only [List.length_map, List.length_append, List.length_cons, List.length_nil] using rfl) ?_
               | refine And.intro (Eq.symm (List.length_map _)) ?_
               | refine And.intro (all_map (fun _ => rfl)) ?_
               | refine And.intro (cells_map (fun _ => rfl)) ?_
               | refine And.intro (rows_map (fun _ => rfl) (fun _ => rfl)) ?_
               | refine And.intro (okRows_one rfl rfl) ?_
               | refine And.intro (okRows_all rfl) ?_
               | refine boolF_t (beq_self_eq_true _) ?_
               | refine Exists.intro _ (And.intro (map_get (by assumption)) ?_)
               | refine Exists.intro _ (And.intro (Eq.refl (α := Option D) _) ?_)
               | refine Exists.intro _ (And.intro (⟨(List.length_map _).symm⟩) ?_)
               | refine Exists.intro _ (And.intro (⟨len_one⟩) ?_)
               | refine Exists.intro _ (And.intro (⟨len_two⟩) ?_)
               | refine Exists.intro _ (And.intro (⟨len_three⟩) ?_)
               | refine Exists.intro _ (And.intro (⟨len_four⟩) ?_)
               | refine Exists.intro _ (And.intro (⟨lenl_1⟩) ?_)
               | refine Exists.intro _ (And.intro (⟨lenl_2⟩) ?_)
               | refine Exists.intro _ (And.intro (⟨lenl_3⟩) ?_)
               | refine Exists.intro _ (And.intro (⟨lenl_4⟩) ?_)
               | refine Exists.intro _ (And.intro (⟨len_more⟩) ?_)
               | refine Exists.intro _ (And.intro (⟨map_slice⟩) ?_)
               | refine Exists.intro _ (And.intro (⟨List.map_take⟩) ?_)
               | refine Exists.intro _ (And.intro (⟨List.map_drop⟩) ?_)
               | refine Exists.intro _ (And.intro (⟨map_full'⟩) ?_)
               | refine Exists.intro _ (And.intro (⟨map_full⟩) ?_)
               | refine Exists.intro _ (And.intro (⟨map_snoc⟩) ?_)
               | refine Exists.intro _ (And.intro (⟨List.map_append⟩) ?_)
               | refine Exists.intro _ (And.intro (⟨Eq.refl (α := List D) _⟩) ?_)
               | refine Exists.intro _ (And.intro (⟨Eq.refl (α := Int) _⟩) (And.intro (by omega) ?_))
               | refine Exists.intro (0) (And.intro (⟨rfl⟩) (And.intro (Nat.zero_le _) ?_))
               | refine Exists.intro _ (And.intro (⟨nc1⟩) (And.intro (by omega) ?_))
               | refine Exists.intro _ (Exists.intro _ (And.intro (⟨Eq.refl (α := Int) _⟩) (And.intro (⟨Eq.refl (α := Int) _⟩) (And.intro (by omega) (And.intro (by omega) ?_)))))
               | refine Exists.intro _ (Exists.intro _ (And.intro (⟨Eq.refl (α := Nat) _⟩) (And.intro (⟨Eq.refl (α := Nat) _⟩) ?_)))
               | refine Exists.intro _ (And.intro (⟨Eq.refl (α := Nat) _⟩) ?_)
               | refine Exists.intro _ (And.intro (u32and (by omega) (by omega)) ?_)
               | refine Exists.intro _ (And.intro (u32or (by omega) (by omega)) ?_)
               | refine Exists.intro _ (And.intro (u32xor (by omega) (by omega)) ?_)
               | refine Exists.intro _ (And.intro (u8xor (by omega) (by omega)) ?_)
               | refine Exists.intro _ (And.intro (u64and (by omega) (by omega)) ?_)
               | refine Exists.intro _ (And.intro (u64or (by omega) (by omega)) ?_)
               | refine Exists.intro _ (And.intro (u64xor (by omega) (by omega)) ?_)
               | refine Exists.intro _ (And.intro (w64 (by omega) (by omega)) ?_)
               | refine Exists.intro _ (And.intro (u32add (by omega)) ?_)
               | refine Exists.intro _ (And.intro (u64add (by omega)) ?_)
               | refine Exists.intro _ (And.intro (u8w (by omega)) ?_)
               | refine Exists.intro _ (And.intro (u32w (by omega)) ?_)
               | refine Exists.intro _ (And.intro (u64w (by omega)) ?_)
               | refine Exists.intro _ (And.intro (u8m) ?_)
               | refine Exists.intro _ (And.intro (u64i (by omega) (by omega)) ?_)
               | refine Exists.intro _ (And.intro (min_int) ?_)
               | refine Exists.intro _ (And.intro (max_int) ?_)
               | refine Exists.intro _ (And.intro (imin) ?_)
               | refine Exists.intro _ (And.intro (imax) ?_)
               | refine boolF_not ?_
               | refine boolF_dect rfl ?_
               | refine boolF_dect (by assumption) ?_
               | refine boolF_decf (by assumption) ?_
               | refine boolF_dect (by omega) ?_
               | refine boolF_decf (by omega) ?_
               | refine boolF_beqt (by omega) ?_
               | refine boolF_beqf (by omega) ?_
               | refine boolF_bnet (by omega) ?_
               | refine boolF_bnef (by omega) ?_
               | refine boolF_nbeqt (by omega) ?_
               | refine boolF_nbeqf (by omega) ?_
               | refine boolF_nbnet (by omega) ?_
               | refine boolF_nbnef (by omega) ?_
               | refine boolF_t (by assumption) ?_
               | refine boolF_f (by assumption) ?_
               | refine boolF_dec (fun _ => ?_) (fun _ => ?_)
               | refine boolF_beq (fun _ => ?_) (fun _ => ?_)
               | refine boolF_bne (fun _ => ?_) (fun _ => ?_)
               | refine boolF_nbeq (fun _ => ?_) (fun _ => ?_)
               | refine boolF_nbne (fun _ => ?_) (fun _ => ?_)
               | refine boolF_leq (fun _ => ?_) (fun _ => ?_)
               | refine Both.mk ?_ ?_)
    all_goals (conv => whnf)
    refine ⟨i + 1, Ghost.hold [6,25,26,27] ?_, by omega, by omega⟩
    rw [e1, List.length_append, List.map_append]
    rfl
  rw [List.take_of_length_le h]
  repeat' (conv => whnf
           first
             | refine PairK.mk (by kernel_rfl) ?_
             | refine And.intro (by decide) ?_
             | refine And.intro rfl ?_
             | refine And.intro (List.cons_ne_nil _ _) ?_
             | refine And.intro (Nat.le_of_ble_eq_true rfl) ?_
             | refine And.intro (by omega) ?_
             | refine And.intro (by simp only [List.length_map, List.length_append, List.length_cons, List.length_nil]; omega) ?_
             | refine And.intro (by simpa only [List.length_map, List.length_append, List.length_cons, List.length_nil] using rfl) ?_
             | refine And.intro (Eq.symm (List.length_map _)) ?_
             | refine And.intro (all_map (fun _ => rfl)) ?_
             | refine And.intro (cells_map (fun _ => rfl)) ?_
             | refine And.intro (rows_map (fun _ => rfl) (fun _ => rfl)) ?_
             | refine And.intro (okRows_one rfl rfl) ?_
             | refine And.intro (okRows_all rfl) ?_
             | refine boolF_t (beq_self_eq_true _) ?_
             | refine Exists.intro _ (And.intro (map_get (by assumption)) ?_)
             | refine Exists.intro _ (And.intro (Eq.refl (α := Option D) _) ?_)
             | refine Exists.intro _ (And.intro (⟨(List.length_map _).symm⟩) ?_)
             | refine Exists.intro _ (And.intro (⟨len_one⟩) ?_)
             | refine Exists.intro _ (And.intro (⟨len_two⟩) ?_)
             | refine Exists.intro _ (And.intro (⟨len_three⟩) ?_)
             | refine Exists.intro _ (And.intro (⟨len_four⟩) ?_)
             | refine Exists.intro _ (And.intro (⟨lenl_1⟩) ?_)
             | refine Exists.intro _ (And.intro (⟨lenl_2⟩) ?_)
             | refine Exists.intro _ (And.intro (⟨lenl_3⟩) ?_)
             | refine Exists.intro _ (And.intro (⟨lenl_4⟩) ?_)
             | refine Exists.intro _ (And.intro (⟨len_more⟩) ?_)
             | refine Exists.intro _ (And.intro (⟨map_slice⟩) ?_)
             | refine Exists.intro _ (And.intro (⟨List.map_take⟩) ?_)
             | refine Exists.intro _ (And.intro (⟨List.map_drop⟩) ?_)
             | refine Exists.intro _ (And.intro (⟨map_full'⟩) ?_)
             | refine Exists.intro _ (And.intro (⟨map_full⟩) ?_)
             | refine Exists.intro _ (And.intro (⟨map_snoc⟩) ?_)
             | refine Exists.intro _ (And.intro (⟨List.map_append⟩) ?_)
             | refine Exists.intro _ (And.intro (⟨Eq.refl (α := List D) _⟩) ?_)
             | refine Exists.intro _ (And.intro (⟨Eq.refl (α := Int) _⟩) (And.intro (by omega) ?_))
             | refine Exists.intro (0) (And.intro (⟨rfl⟩) (And.intro (Nat.zero_le _) ?_))
             | refine Exists.intro _ (And.intro (⟨nc1⟩) (And.intro (by omega) ?_))
             | refine Exists.intro _ (Exists.intro _ (And.intro (⟨Eq.refl (α := Int) _⟩) (And.intro (⟨Eq.refl (α := Int) _⟩) (And.intro (by omega) (And.intro (by omega) ?_)))))
             | refine Exists.intro _ (Exists.intro _ (And.intro (⟨Eq.refl (α := Nat) _⟩) (And.intro (⟨Eq.refl (α := Nat) _⟩) ?_)))
             | refine Exists.intro _ (And.intro (⟨Eq.refl (α := Nat) _⟩) ?_)
             | refine Exists.intro _ (And.intro (u32and (by omega) (by omega)) ?_)
             | refine Exists.intro _ (And.intro (u32or (by omega) (by omega)) ?_)
             | refine Exists.intro _ (And.intro (u32xor (by omega) (by omega)) ?_)
             | refine Exists.intro _ (And.intro (u8xor (by omega) (by omega)) ?_)
             | refine Exists.intro _ (And.intro (u64and (by omega) (by omega)) ?_)
             | refine Exists.intro _ (And.intro (u64or (by omega) (by omega)) ?_)
             | refine Exists.intro _ (And.intro (u64xor (by omega) (by omega)) ?_)
             | refine Exists.intro _ (And.intro (w64 (by omega) (by omega)) ?_)
             | refine Exists.intro _ (And.intro (u32add (by omega)) ?_)
             | refine Exists.intro _ (And.intro (u64add (by omega)) ?_)
             | refine Exists.intro _ (And.intro (u8w (by omega)) ?_)
             | refine Exists.intro _ (And.intro (u32w (by omega)) ?_)
             | refine Exists.intro _ (And.intro (u64w (by omega)) ?_)
             | refine Exists.intro _ (And.intro (u8m) ?_)
             | refine Exists.intro _ (And.intro (u64i (by omega) (by omega)) ?_)
             | refine Exists.intro _ (And.intro (min_int) ?_)
             | refine Exists.intro _ (And.intro (max_int) ?_)
             | refine Exists.intro _ (And.intro (imin) ?_)
             | refine Exists.intro _ (And.intro (imax) ?_)
             | refine boolF_not ?_
             | refine boolF_dect rfl ?_
             | refine boolF_dect (by assumption) ?_
             | refine boolF_decf (by assumption) ?_
             | refine boolF_dect (by omega) ?_
             | refine boolF_decf (by omega) ?_
             | refine boolF_beqt (by omega) ?_
             | refine boolF_beqf (by omega) ?_
             | refine boolF_bnet (by omega) ?_
             | refine boolF_bnef (by omega) ?_
             | refine boolF_nbeqt (by omega) ?_
             | refine boolF_nbeqf (by omega) ?_
             | refine boolF_nbnet (by omega) ?_
             | refine boolF_nbnef (by omega) ?_
             | refine boolF_t (by assumption) ?_
             | refine boolF_f (by assumption) ?_
             | refine boolF_dec (fun _ => ?_) (fun _ => ?_)
             | refine boolF_beq (fun _ => ?_) (fun _ => ?_)
             | refine boolF_bne (fun _ => ?_) (fun _ => ?_)
             | refine boolF_nbeq (fun _ => ?_) (fun _ => ?_)
             | refine boolF_nbne (fun _ => ?_) (fun _ => ?_)
             | refine boolF_leq (fun _ => ?_) (fun _ => ?_)
             | refine Both.mk ?_ ?_)
  all_goals (conv => whnf)
  refine ⟨ver + i, Ghost.hold [0] ?_⟩
  rw [List.length_map]
  rfl

def nextM (m : T24) (l : List T58) : T24 × Int := if 1099511627776 ≤ m.version_ then (⟨0, 0, []⟩, 6) else (⟨m.version_ + 1, m.n_, l⟩, 0)

theorem f36_ok (m : T24) (a b : Nat) (l : List T58) (hm : ok25 m) (hv : m.version_ ≤ 1099511627776) (hmp : m.pieces_.length ≤ 16) (ha : a ≤ m.pieces_.length) (hb : b ≤ m.pieces_.length) (hl : l.length ≤ 16) :
    Pure Try.prog 36 [d25 m, .int .i64 (a : Int), .int .i64 (b : Int), d23 l] (.tup [d25 (nextM m (m.pieces_.take a ++ l ++ m.pieces_.drop b)).1, d3 (nextM m (m.pieces_.take a ++ l ++ m.pieces_.drop b)).2]) := by
  have hv0 := hm.1
  simp only [ok3] at hv0
  refine Pure.ofT ⟨sc25 _ _, trivial, trivial, sc23 _ _, trivial⟩ ⟨sc25 _ _, trivial, trivial⟩ ?_
  refine CallsIn.of_exec tab_ok mixed Try.func36 rfl rfl [] [] ?_
  repeat' (conv => whnf
           first
             | refine PairK.mk (by kernel_rfl) ?_
             | refine And.intro (by decide) ?_
             | refine And.intro rfl ?_
             | refine And.intro (List.cons_ne_nil _ _) ?_
             | refine And.intro (Nat.le_of_ble_eq_true rfl) ?_
             | refine And.intro (by omega) ?_
             | refine And.intro (by simp only [List.length_map, List.length_append, List.length_cons, List.length_nil]; omega) ?_
             | refine And.intro (by simpa only [List.length_map, List.length_append, List.length_cons, List.length_nil] using rfl) ?_
             | refine And.intro (Eq.symm (List.length_map _)) ?_
             | refine And.intro (all_map (fun _ => rfl)) ?_
             | refine And.intro (cells_map (fun _ => rfl)) ?_
             | refine And.intro (rows_map (fun _ => rfl) (fun _ => rfl)) ?_
             | refine And.intro (okRows_one rfl rfl) ?_
             | refine And.intro (okRows_all rfl) ?_
             | refine boolF_t (beq_self_eq_true _) ?_
             | refine Exists.intro _ (And.intro (map_get (by assumption)) ?_)
             | refine Exists.intro _ (And.intro (Eq.refl (α := Option D) _) ?_)
             | refine Exists.intro _ (And.intro (⟨(List.length_map _).symm⟩) ?_)
             | refine Exists.intro _ (And.intro (⟨len_one⟩) ?_)
             | refine Exists.intro _ (And.intro (⟨len_two⟩) ?_)
             | refine Exists.intro _ (And.intro (⟨len_three⟩) ?_)
             | refine Exists.intro _ (And.intro (⟨len_four⟩) ?_)
             | refine Exists.intro _ (And.intro (⟨lenl_1⟩) ?_)
             | refine Exists.intro _ (And.intro (⟨lenl_2⟩) ?_)
             | refine Exists.intro _ (And.intro (⟨lenl_3⟩) ?_)
             | refine Exists.intro _ (And.intro (⟨lenl_4⟩) ?_)
             | refine Exists.intro _ (And.intro (⟨len_more⟩) ?_)
             | refine Exists.intro _ (And.intro (⟨map_slice⟩) ?_)
             | refine Exists.intro _ (And.intro (⟨List.map_take⟩) ?_)
             | refine Exists.intro _ (And.intro (⟨List.map_drop⟩) ?_)
             | refine Exists.intro _ (And.intro (⟨map_full'⟩) ?_)
             | refine Exists.intro _ (And.intro (⟨map_full⟩) ?_)
             | refine Exists.intro _ (And.intro (⟨map_snoc⟩) ?_)
             | refine Exists.intro _ (And.intro (⟨List.map_append⟩) ?_)
             | refine Exists.intro _ (And.intro (⟨Eq.refl (α := List D) _⟩) ?_)
             | refine Exists.intro _ (And.intro (⟨Eq.refl (α := Int) _⟩) (And.intro (by omega) ?_))
             | refine Exists.intro (0) (And.intro (⟨rfl⟩) (And.intro (Nat.zero_le _) ?_))
             | refine Exists.intro _ (And.intro (⟨nc1⟩) (And.intro (by omega) ?_))
             | refine Exists.intro _ (Exists.intro _ (And.intro (⟨Eq.refl (α := Int) _⟩) (And.intro (⟨Eq.refl (α := Int) _⟩) (And.intro (by omega) (And.intro (by omega) ?_)))))
             | refine Exists.intro _ (Exists.intro _ (And.intro (⟨Eq.refl (α := Nat) _⟩) (And.intro (⟨Eq.refl (α := Nat) _⟩) ?_)))
             | refine Exists.intro _ (And.intro (⟨Eq.refl (α := Nat) _⟩) ?_)
             | refine Exists.intro _ (And.intro (u32and (by omega) (by omega)) ?_)
             | refine Exists.intro _ (And.intro (u32or (by omega) (by omega)) ?_)
             | refine Exists.intro _ (And.intro (u32xor (by omega) (by omega)) ?_)
             | refine Exists.intro _ (And.intro (u8xor (by omega) (by omega)) ?_)
             | refine Exists.intro _ (And.intro (u64and (by omega) (by omega)) ?_)
             | refine Exists.intro _ (And.intro (u64or (by omega) (by omega)) ?_)
             | refine Exists.intro _ (And.intro (u64xor (by omega) (by omega)) ?_)
             | refine Exists.intro _ (And.intro (w64 (by omega) (by omega)) ?_)
             | refine Exists.intro _ (And.intro (u32add (by omega)) ?_)
             | refine Exists.intro _ (And.intro (u64add (by omega)) ?_)
             | refine Exists.intro _ (And.intro (u8w (by omega)) ?_)
             | refine Exists.intro _ (And.intro (u32w (by omega)) ?_)
             | refine Exists.intro _ (And.intro (u64w (by omega)) ?_)
             | refine Exists.intro _ (And.intro (u8m) ?_)
             | refine Exists.intro _ (And.intro (u64i (by omega) (by omega)) ?_)
             | refine Exists.intro _ (And.intro (min_int) ?_)
             | refine Exists.intro _ (And.intro (max_int) ?_)
             | refine Exists.intro _ (And.intro (imin) ?_)
             | refine Exists.intro _ (And.intro (imax) ?_)
             | refine boolF_not ?_
             | refine boolF_dect rfl ?_
             | refine boolF_dect (by assumption) ?_
             | refine boolF_decf (by assumption) ?_
             | refine boolF_dect (by omega) ?_
             | refine boolF_decf (by omega) ?_
             | refine boolF_beqt (by omega) ?_
             | refine boolF_beqf (by omega) ?_
             | refine boolF_bnet (by omega) ?_
             | refine boolF_bnef (by omega) ?_
             | refine boolF_nbeqt (by omega) ?_
             | refine boolF_nbeqf (by omega) ?_
             | refine boolF_nbnet (by omega) ?_
             | refine boolF_nbnef (by omega) ?_
             | refine boolF_t (by assumption) ?_
             | refine boolF_f (by assumption) ?_
             | refine boolF_dec (fun _ => ?_) (fun _ => ?_)
             | refine boolF_beq (fun _ => ?_) (fun _ => ?_)
             | refine boolF_bne (fun _ => ?_) (fun _ => ?_)
             | refine boolF_nbeq (fun _ => ?_) (fun _ => ?_)
             | refine boolF_nbne (fun _ => ?_) (fun _ => ?_)
             | refine boolF_leq (fun _ => ?_) (fun _ => ?_)
             | refine Both.mk ?_ ?_)
  all_goals (conv => whnf)
  · rw [nextM, if_pos (by omega)]; exact ⟨Told.wk wk_zero⟩
  · refine Pure.locK (f41_ok [m.pieces_.take a, l, m.pieces_.drop b] (by simp) (by simp; omega)).pure ?_
    repeat' (conv => whnf
             first
               | refine PairK.mk (by kernel_rfl) ?_
               | refine And.intro (by decide) ?_
               | refine And.intro rfl ?_
               | refine And.intro (List.cons_ne_nil _ _) ?_
               | refine And.intro (Nat.le_of_ble_eq_true rfl) ?_
               | refine And.intro (by omega) ?_
               | refine And.intro (by simp only [List.length_map, List.length_append, List.length_cons, List.length_nil]; omega) ?_
               | refine And.intro (by simpa only [List.length_map, List.length_append, List.length_cons, List.length_nil] using rfl) ?_
               | refine And.intro (Eq.symm (List.length_map _)) ?_
               | refine And.intro (all_map (fun _ => rfl)) ?_
               | refine And.intro (cells_map (fun _ => rfl)) ?_
               | refine And.intro (rows_map (fun _ => rfl) (fun _ => rfl)) ?_
               | refine And.intro (okRows_one rfl rfl) ?_
               | refine And.intro (okRows_all rfl) ?_
               | refine boolF_t (beq_self_eq_true _) ?_
               | refine Exists.intro _ (And.intro (map_get (by assumption)) ?_)
               | refine Exists.intro _ (And.intro (Eq.refl (α := Option D) _) ?_)
               | refine Exists.intro _ (And.intro (⟨(List.length_map _).symm⟩) ?_)
               | refine Exists.intro _ (And.intro (⟨len_one⟩) ?_)
               | refine Exists.intro _ (And.intro (⟨len_two⟩) ?_)
               | refine Exists.intro _ (And.intro (⟨len_three⟩) ?_)
               | refine Exists.intro _ (And.intro (⟨len_four⟩) ?_)
               | refine Exists.intro _ (And.intro (⟨lenl_1⟩) ?_)
               | refine Exists.intro _ (And.intro (⟨lenl_2⟩) ?_)
               | refine Exists.intro _ (And.intro (⟨lenl_3⟩) ?_)
               | refine Exists.intro _ (And.intro (⟨lenl_4⟩) ?_)
               | refine Exists.intro _ (And.intro (⟨len_more⟩) ?_)
               | refine Exists.intro _ (And.intro (⟨map_slice⟩) ?_)
               | refine Exists.intro _ (And.intro (⟨List.map_take⟩) ?_)
               | refine Exists.intro _ (And.intro (⟨List.map_drop⟩) ?_)
               | refine Exists.intro _ (And.intro (⟨map_full'⟩) ?_)
               | refine Exists.intro _ (And.intro (⟨map_full⟩) ?_)
               | refine Exists.intro _ (And.intro (⟨map_snoc⟩) ?_)
               | refine Exists.intro _ (And.intro (⟨List.map_append⟩) ?_)
               | refine Exists.intro _ (And.intro (⟨Eq.refl (α := List D) _⟩) ?_)
               | refine Exists.intro _ (And.intro (⟨Eq.refl (α := Int) _⟩) (And.intro (by omega) ?_))
               | refine Exists.intro (0) (And.intro (⟨rfl⟩) (And.intro (Nat.zero_le _) ?_))
               | refine Exists.intro _ (And.intro (⟨nc1⟩) (And.intro (by omega) ?_))
               | refine Exists.intro _ (Exists.intro _ (And.intro (⟨Eq.refl (α := Int) _⟩) (And.intro (⟨Eq.refl (α := Int) _⟩) (And.intro (by omega) (And.intro (by omega) ?_)))))
               | refine Exists.intro _ (Exists.intro _ (And.intro (⟨Eq.refl (α := Nat) _⟩) (And.intro (⟨Eq.refl (α := Nat) _⟩) ?_)))
               | refine Exists.intro _ (And.intro (⟨Eq.refl (α := Nat) _⟩) ?_)
               | refine Exists.intro _ (And.intro (u32and (by omega) (by omega)) ?_)
               | refine Exists.intro _ (And.intro (u32or (by omega) (by omega)) ?_)
               | refine Exists.intro _ (And.intro (u32xor (by omega) (by omega)) ?_)
               | refine Exists.intro _ (And.intro (u8xor (by omega) (by omega)) ?_)
               | refine Exists.intro _ (And.intro (u64and (by omega) (by omega)) ?_)
               | refine Exists.intro _ (And.intro (u64or (by omega) (by omega)) ?_)
               | refine Exists.intro _ (And.intro (u64xor (by omega) (by omega)) ?_)
               | refine Exists.intro _ (And.intro (w64 (by omega) (by omega)) ?_)
               | refine Exists.intro _ (And.intro (u32add (by omega)) ?_)
               | refine Exists.intro _ (And.intro (u64add (by omega)) ?_)
               | refine Exists.intro _ (And.intro (u8w (by omega)) ?_)
               | refine Exists.intro _ (And.intro (u32w (by omega)) ?_)
               | refine Exists.intro _ (And.intro (u64w (by omega)) ?_)
               | refine Exists.intro _ (And.intro (u8m) ?_)
               | refine Exists.intro _ (And.intro (u64i (by omega) (by omega)) ?_)
               | refine Exists.intro _ (And.intro (min_int) ?_)
               | refine Exists.intro _ (And.intro (max_int) ?_)
               | refine Exists.intro _ (And.intro (imin) ?_)
               | refine Exists.intro _ (And.intro (imax) ?_)
               | refine boolF_not ?_
               | refine boolF_dect rfl ?_
               | refine boolF_dect (by assumption) ?_
               | refine boolF_decf (by assumption) ?_
               | refine boolF_dect (by omega) ?_
               | refine boolF_decf (by omega) ?_
               | refine boolF_beqt (by omega) ?_
               | refine boolF_beqf (by omega) ?_
               | refine boolF_bnet (by omega) ?_
               | refine boolF_bnef (by omega) ?_
               | refine boolF_nbeqt (by omega) ?_
               | refine boolF_nbeqf (by omega) ?_
               | refine boolF_nbnet (by omega) ?_
               | refine boolF_nbnef (by omega) ?_
               | refine boolF_t (by assumption) ?_
               | refine boolF_f (by assumption) ?_
               | refine boolF_dec (fun _ => ?_) (fun _ => ?_)
               | refine boolF_beq (fun _ => ?_) (fun _ => ?_)
               | refine boolF_bne (fun _ => ?_) (fun _ => ?_)
               | refine boolF_nbeq (fun _ => ?_) (fun _ => ?_)
               | refine boolF_nbne (fun _ => ?_) (fun _ => ?_)
               | refine boolF_leq (fun _ => ?_) (fun _ => ?_)
               | refine Both.mk ?_ ?_)
    all_goals (conv => whnf)
    rw [nextM, if_neg (by omega)]
    simp only [List.flatten_cons, List.flatten_nil, List.append_nil, List.append_assoc]
    exact ⟨Told.refl⟩

theorem f39_far (m : T24) (ver n : Nat) (rows : List D) (hr : scs 0 rows) (hm : ok25 m) (hv : 1099511627776 ≤ m.version_) : PureH Try.prog 39 (fun o => [d25 m, .h o ver 0 n]) ver 3 rows
    (fun o => .tup [.agg [.int .i64 0, .int .i64 0, .nils], .int .i64 6]) := by
  refine PureH.of (fun ρ => by simp only [renL, ren]; rw [ren_sc0 _ _ (sc25 0 m)]) (fun ρ => rfl) ⟨sc25 _ _, by simp [D.sc], trivial⟩ hr ?_
  refine CallsIn.of_exec tab_ok mixed Try.func39 rfl rfl [] [] ?_
  repeat' (conv => whnf
           first
             | refine PairK.mk (by kernel_rfl) ?_
             | refine And.intro (by decide) ?_
             | refine And.intro rfl ?_
             | refine And.intro (List.cons_ne_nil _ _) ?_
             | refine And.intro (Nat.le_of_ble_eq_true rfl) ?_
             | refine And.intro (by omega) ?_
             | refine And.intro (by simp only [List.length_map, List.length_append, List.length_cons, List.length_nil]; omega) ?_
             | refine And.intro (by simpa only [List.length_map, List.length_append, List.length_cons, List.length_nil] using rfl) ?_
             | refine And.intro (Eq.symm (List.length_map _)) ?_
             | refine And.intro (all_map (fun _ => rfl)) ?_
             | refine And.intro (cells_map (fun _ => rfl)) ?_
             | refine And.intro (rows_map (fun _ => rfl) (fun _ => rfl)) ?_
             | refine And.intro (okRows_one rfl rfl) ?_
             | refine And.intro (okRows_all rfl) ?_
             | refine boolF_t (beq_self_eq_true _) ?_
             | refine Exists.intro _ (And.intro (map_get (by assumption)) ?_)
             | refine Exists.intro _ (And.intro (Eq.refl (α := Option D) _) ?_)
             | refine Exists.intro _ (And.intro (⟨(List.length_map _).symm⟩) ?_)
             | refine Exists.intro _ (And.intro (⟨len_one⟩) ?_)
             | refine Exists.intro _ (And.intro (⟨len_two⟩) ?_)
             | refine Exists.intro _ (And.intro (⟨len_three⟩) ?_)
             | refine Exists.intro _ (And.intro (⟨len_four⟩) ?_)
             | refine Exists.intro _ (And.intro (⟨lenl_1⟩) ?_)
             | refine Exists.intro _ (And.intro (⟨lenl_2⟩) ?_)
             | refine Exists.intro _ (And.intro (⟨lenl_3⟩) ?_)
             | refine Exists.intro _ (And.intro (⟨lenl_4⟩) ?_)
             | refine Exists.intro _ (And.intro (⟨len_more⟩) ?_)
             | refine Exists.intro _ (And.intro (⟨map_slice⟩) ?_)
             | refine Exists.intro _ (And.intro (⟨List.map_take⟩) ?_)
             | refine Exists.intro _ (And.intro (⟨List.map_drop⟩) ?_)
             | refine Exists.intro _ (And.intro (⟨map_full'⟩) ?_)
             | refine Exists.intro _ (And.intro (⟨map_full⟩) ?_)
             | refine Exists.intro _ (And.intro (⟨map_snoc⟩) ?_)
             | refine Exists.intro _ (And.intro (⟨List.map_append⟩) ?_)
             | refine Exists.intro _ (And.intro (⟨Eq.refl (α := List D) _⟩) ?_)
             | refine Exists.intro _ (And.intro (⟨Eq.refl (α := Int) _⟩) (And.intro (by omega) ?_))
             | refine Exists.intro (0) (And.intro (⟨rfl⟩) (And.intro (Nat.zero_le _) ?_))
             | refine Exists.intro _ (And.intro (⟨nc1⟩) (And.intro (by omega) ?_))
             | refine Exists.intro _ (Exists.intro _ (And.intro (⟨Eq.refl (α := Int) _⟩) (And.intro (⟨Eq.refl (α := Int) _⟩) (And.intro (by omega) (And.intro (by omega) ?_)))))
             | refine Exists.intro _ (Exists.intro _ (And.intro (⟨Eq.refl (α := Nat) _⟩) (And.intro (⟨Eq.refl (α := Nat) _⟩) ?_)))
             | refine Exists.intro _ (And.intro (⟨Eq.refl (α := Nat) _⟩) ?_)
             | refine Exists.intro _ (And.intro (u32and (by omega) (by omega)) ?_)
             | refine Exists.intro _ (And.intro (u32or (by omega) (by omega)) ?_)
             | refine Exists.intro _ (And.intro (u32xor (by omega) (by omega)) ?_)
             | refine Exists.intro _ (And.intro (u8xor (by omega) (by omega)) ?_)
             | refine Exists.intro _ (And.intro (u64and (by omega) (by omega)) ?_)
             | refine Exists.intro _ (And.intro (u64or (by omega) (by omega)) ?_)
             | refine Exists.intro _ (And.intro (u64xor (by omega) (by omega)) ?_)
             | refine Exists.intro _ (And.intro (w64 (by omega) (by omega)) ?_)
             | refine Exists.intro _ (And.intro (u32add (by omega)) ?_)
             | refine Exists.intro _ (And.intro (u64add (by omega)) ?_)
             | refine Exists.intro _ (And.intro (u8w (by omega)) ?_)
             | refine Exists.intro _ (And.intro (u32w (by omega)) ?_)
             | refine Exists.intro _ (And.intro (u64w (by omega)) ?_)
             | refine Exists.intro _ (And.intro (u8m) ?_)
             | refine Exists.intro _ (And.intro (u64i (by omega) (by omega)) ?_)
             | refine Exists.intro _ (And.intro (min_int) ?_)
             | refine Exists.intro _ (And.intro (max_int) ?_)
             | refine Exists.intro _ (And.intro (imin) ?_)
             | refine Exists.intro _ (And.intro (imax) ?_)
             | refine boolF_not ?_
             | refine boolF_dect rfl ?_
             | refine boolF_dect (by assumption) ?_
             | refine boolF_decf (by assumption) ?_
             | refine boolF_dect (by omega) ?_
             | refine boolF_decf (by omega) ?_
             | refine boolF_beqt (by omega) ?_
             | refine boolF_beqf (by omega) ?_
             | refine boolF_bnet (by omega) ?_
             | refine boolF_bnef (by omega) ?_
             | refine boolF_nbeqt (by omega) ?_
             | refine boolF_nbeqf (by omega) ?_
             | refine boolF_nbnet (by omega) ?_
             | refine boolF_nbnef (by omega) ?_
             | refine boolF_t (by assumption) ?_
             | refine boolF_f (by assumption) ?_
             | refine boolF_dec (fun _ => ?_) (fun _ => ?_)
             | refine boolF_beq (fun _ => ?_) (fun _ => ?_)
             | refine boolF_bne (fun _ => ?_) (fun _ => ?_)
             | refine boolF_nbeq (fun _ => ?_) (fun _ => ?_)
             | refine boolF_nbne (fun _ => ?_) (fun _ => ?_)
             | refine boolF_leq (fun _ => ?_) (fun _ => ?_)
             | refine Both.mk ?_ ?_)
  all_goals (conv => whnf)
  exact ⟨Ghost.back [0] 1 rfl rfl (Nat.le_refl _) (by simp [scs, D.sc]) (by simpa [AObj.sc] using scs_le 1 _ hr)⟩

theorem f39_ok (m : T24) (ver n : Nat) (rows : List D) (hr : scs 0 rows) (hm : ok25 m) (hv : ¬ 1099511627776 ≤ m.version_) : PureH Try.prog 39 (fun o => [d25 m, .h o ver 0 n]) ver 3 rows
    (fun o => .tup [.agg [d3 (m.version_ + 1), d3 m.n_, .h o ver 0 n], .int .i64 0]) := by
  refine PureH.of (fun ρ => by simp only [renL, ren]; rw [ren_sc0 _ _ (sc25 0 m)]) (fun ρ => rfl) ⟨sc25 _ _, by simp [D.sc], trivial⟩ hr ?_
  have hv0 := hm.1
  simp only [ok3] at hv0
  refine CallsIn.of_exec tab_ok mixed Try.func39 rfl rfl [] [] ?_
  repeat' (conv => whnf
           first
             | refine PairK.mk (by kernel_rfl) ?_
             | refine And.intro (by decide) ?_
             | refine And.intro rfl ?_
             | refine And.intro (List.cons_ne_nil _ _) ?_
             | refine And.intro (Nat.le_of_ble_eq_true rfl) ?_
             | refine And.intro (by omega) ?_
             | refine And.intro (by simp only [List.length_map, List.length_append, List.length_cons, List.length_nil]; omega) ?_
             | refine And.intro (by simpa only [List.length_map, List.length_append, List.length_cons, List.length_nil] using rfl) ?_
             | refine And.intro (Eq.symm (List.length_map _)) ?_
             | refine And.intro (all_map (fun _ => rfl)) ?_
             | refine And.intro (cells_map (fun _ => rfl)) ?_
             | refine And.intro (rows_map (fun _ => rfl) (fun _ => rfl)) ?_
             | refine And.intro (okRows_one rfl rfl) ?_
             | refine And.intro (okRows_all rfl) ?_
             | refine boolF_t (beq_self_eq_true _) ?_
             | refine Exists.intro _ (And.intro (map_get (by assumption)) ?_)
             | refine Exists.intro _ (And.intro (Eq.refl (α := Option D) _) ?_)
             | refine Exists.intro _ (And.intro (⟨(List.length_map _).symm⟩) ?_)
             | refine Exists.intro _ (And.intro (⟨len_one⟩) ?_)
             | refine Exists.intro _ (And.intro (⟨len_two⟩) ?_)
             | refine Exists.intro _ (And.intro (⟨len_three⟩) ?_)
             | refine Exists.intro _ (And.intro (⟨len_four⟩) ?_)
             | refine Exists.intro _ (And.intro (⟨lenl_1⟩) ?_)
             | refine Exists.intro _ (And.intro (⟨lenl_2⟩) ?_)
             | refine Exists.intro _ (And.intro (⟨lenl_3⟩) ?_)
             | refine Exists.intro _ (And.intro (⟨lenl_4⟩) ?_)
             | refine Exists.intro _ (And.intro (⟨len_more⟩) ?_)
             | refine Exists.intro _ (And.intro (⟨map_slice⟩) ?_)
             | refine Exists.intro _ (And.intro (⟨List.map_take⟩) ?_)
             | refine Exists.intro _ (And.intro (⟨List.map_drop⟩) ?_)
             | refine Exists.intro _ (And.intro (⟨map_full'⟩) ?_)
             | refine Exists.intro _ (And.intro (⟨map_full⟩) ?_)
             | refine Exists.intro _ (And.intro (⟨map_snoc⟩) ?_)
             | refine Exists.intro _ (And.intro (⟨List.map_append⟩) ?_)
             | refine Exists.intro _ (And.intro (⟨Eq.refl (α := List D) _⟩) ?_)
             | refine Exists.intro _ (And.intro (⟨Eq.refl (α := Int) _⟩) (And.intro (by omega) ?_))
             | refine Exists.intro (0) (And.intro (⟨rfl⟩) (And.intro (Nat.zero_le _) ?_))
             | refine Exists.intro _ (And.intro (⟨nc1⟩) (And.intro (by omega) ?_))
             | refine Exists.intro _ (Exists.intro _ (And.intro (⟨Eq.refl (α := Int) _⟩) (And.intro (⟨Eq.refl (α := Int) _⟩) (And.intro (by omega) (And.intro (by omega) ?_)))))
             | refine Exists.intro _ (Exists.intro _ (And.intro (⟨Eq.refl (α := Nat) _⟩) (And.intro (⟨Eq.refl (α := Nat) _⟩) ?_)))
             | refine Exists.intro _ (And.intro (⟨Eq.refl (α := Nat) _⟩) ?_)
             | refine Exists.intro _ (And.intro (u32and (by omega) (by omega)) ?_)
             | refine Exists.intro _ (And.intro (u32or (by omega) (by omega)) ?_)
             | refine Exists.intro _ (And.intro (u32xor (by omega) (by omega)) ?_)
             | refine Exists.intro _ (And.intro (u8xor (by omega) (by omega)) ?_)
             | refine Exists.intro _ (And.intro (u64and (by omega) (by omega)) ?_)
             | refine Exists.intro _ (And.intro (u64or (by omega) (by omega)) ?_)
             | refine Exists.intro _ (And.intro (u64xor (by omega) (by omega)) ?_)
             | refine Exists.intro _ (And.intro (w64 (by omega) (by omega)) ?_)
             | refine Exists.intro _ (And.intro (u32add (by omega)) ?_)
             | refine Exists.intro _ (And.intro (u64add (by omega)) ?_)
             | refine Exists.intro _ (And.intro (u8w (by omega)) ?_)
             | refine Exists.intro _ (And.intro (u32w (by omega)) ?_)
             | refine Exists.intro _ (And.intro (u64w (by omega)) ?_)
             | refine Exists.intro _ (And.intro (u8m) ?_)
             | refine Exists.intro _ (And.intro (u64i (by omega) (by omega)) ?_)
             | refine Exists.intro _ (And.intro (min_int) ?_)
             | refine Exists.intro _ (And.intro (max_int) ?_)
             | refine Exists.intro _ (And.intro (imin) ?_)
             | refine Exists.intro _ (And.intro (imax) ?_)
             | refine boolF_not ?_
             | refine boolF_dect rfl ?_
             | refine boolF_dect (by assumption) ?_
             | refine boolF_decf (by assumption) ?_
             | refine boolF_dect (by omega) ?_
             | refine boolF_decf (by omega) ?_
             | refine boolF_beqt (by omega) ?_
             | refine boolF_beqf (by omega) ?_
             | refine boolF_bnet (by omega) ?_
             | refine boolF_bnef (by omega) ?_
             | refine boolF_nbeqt (by omega) ?_
             | refine boolF_nbeqf (by omega) ?_
             | refine boolF_nbnet (by omega) ?_
             | refine boolF_nbnef (by omega) ?_
             | refine boolF_t (by assumption) ?_
             | refine boolF_f (by assumption) ?_
             | refine boolF_dec (fun _ => ?_) (fun _ => ?_)
             | refine boolF_beq (fun _ => ?_) (fun _ => ?_)
             | refine boolF_bne (fun _ => ?_) (fun _ => ?_)
             | refine boolF_nbeq (fun _ => ?_) (fun _ => ?_)
             | refine boolF_nbne (fun _ => ?_) (fun _ => ?_)
             | refine boolF_leq (fun _ => ?_) (fun _ => ?_)
             | refine Both.mk ?_ ?_)
  all_goals (conv => whnf)
  exact ⟨Ghost.back [0] 1 rfl rfl (Nat.le_refl _) (by simp [scs, D.sc, d3]) (by simpa [AObj.sc] using scs_le 1 _ hr)⟩

theorem endsAt_le : ∀ {l : List T58} {a n : Int}, endsAt a l = some n → a ≤ n
  | [], a, n, h => by simp [endsAt] at h; omega
  | x :: l, a, n, h => by
    simp only [endsAt] at h
    split at h
    · have := endsAt_le h; omega
    · cases h


theorem f25_ok (m : T24) (b : Int) (hm : ok25 m) (hb : ok3 b) : Pure Try.prog 25 [d25 m, d3 b] (.tup [d3 (findM m b).1, d3 (findM m b).2]) := by
  have hlen : m.pieces_.length ≤ 140737488351232 := by have := hm.2.2.2; simp [td59] at this; omega
  refine Pure.of ⟨sc25 _ _, trivial, trivial⟩ ⟨trivial, trivial, trivial⟩ ?_
  refine CallsIn.of_exec tab_ok mixed Try.func25 rfl rfl [] [] ?_
  by_cases hr : rightP m
  · repeat' (conv => whnf
             first
               | refine PairK.mk (by kernel_rfl) ?_
               | refine And.intro (by decide) ?_
               | refine And.intro rfl ?_
               | refine And.intro (List.cons_ne_nil _ _) ?_
               | refine And.intro (Nat.le_of_ble_eq_true rfl) ?_
               | refine And.intro (by omega) ?_
               | refine And.intro (by simp only [List.length_map, List.length_append, List.length_cons, List.length_nil]; omega) ?_
               | refine And.intro (by simpa only [List.length_map, List.length_append, List.length_cons, List.length_nil] using rfl) ?_
               | refine And.intro (Eq.symm (List.length_map _)) ?_
               | refine And.intro (all_map (fun _ => rfl)) ?_
               | refine And.intro (cells_map (fun _ => rfl)) ?_
               | refine And.intro (rows_map (fun _ => rfl) (fun _ => rfl)) ?_
               | refine And.intro (okRows_one rfl rfl) ?_
               | refine And.intro (okRows_all rfl) ?_
               | refine boolF_t (beq_self_eq_true _) ?_
               | refine Exists.intro _ (And.intro (map_get (by assumption)) ?_)
               | refine Exists.intro _ (And.intro (Eq.refl (α := Option D) _) ?_)
               | refine Exists.intro _ (And.intro (⟨(List.length_map _).symm⟩) ?_)
               | refine Exists.intro _ (And.intro (⟨len_one⟩) ?_)
               | refine Exists.intro _ (And.intro (⟨len_two⟩) ?_)
               | refine Exists.intro _ (And.intro (⟨len_three⟩) ?_)
               | refine Exists.intro _ (And.intro (⟨len_four⟩) ?_)
               | refine Exists.intro _ (And.intro (⟨lenl_1⟩) ?_)
               | refine Exists.intro _ (And.intro (⟨lenl_2⟩) ?_)
               | refine Exists.intro _ (And.intro (⟨lenl_3⟩) ?_)
               | refine Exists.intro _ (And.intro (⟨lenl_4⟩) ?_)
               | refine Exists.intro _ (And.intro (⟨len_more⟩) ?_)
               | refine Exists.intro _ (And.intro (⟨map_slice⟩) ?_)
               | refine Exists.intro _ (And.intro (⟨List.map_take⟩) ?_)
               | refine Exists.intro _ (And.intro (⟨List.map_drop⟩) ?_)
               | refine Exists.intro _ (And.intro (⟨map_full'⟩) ?_)
               | refine Exists.intro _ (And.intro (⟨map_full⟩) ?_)
               | refine Exists.intro _ (And.intro (⟨map_snoc⟩) ?_)
               | refine Exists.intro _ (And.intro (⟨List.map_append⟩) ?_)
               | refine Exists.intro _ (And.intro (⟨Eq.refl (α := List D) _⟩) ?_)
               | refine Exists.intro _ (And.intro (⟨Eq.refl (α := Int) _⟩) (And.intro (by omega) ?_))
               | refine Exists.intro (0) (And.intro (⟨rfl⟩) (And.intro (Nat.zero_le _) ?_))
               | refine Exists.intro _ (And.intro (⟨nc1⟩) (And.intro (by omega) ?_))
               | refine Exists.intro _ (Exists.intro _ (And.intro (⟨Eq.refl (α := Int) _⟩) (And.intro (⟨Eq.refl (α := Int) _⟩) (And.intro (by omega) (And.intro (by omega) ?_)))))
               | refine Exists.intro _ (Exists.intro _ (And.intro (⟨Eq.refl (α := Nat) _⟩) (And.intro (⟨Eq.refl (α := Nat) _⟩) ?_)))
               | refine Exists.intro _ (And.intro (⟨Eq.refl (α := Nat) _⟩) ?_)
               | refine Exists.intro _ (And.intro (u32and (by omega) (by omega)) ?_)
               | refine Exists.intro _ (And.intro (u32or (by omega) (by omega)) ?_)
               | refine Exists.intro _ (And.intro (u32xor (by omega) (by omega)) ?_)
               | refine Exists.intro _ (And.intro (u8xor (by omega) (by omega)) ?_)
               | refine Exists.intro _ (And.intro (u64and (by omega) (by omega)) ?_)
               | refine Exists.intro _ (And.intro (u64or (by omega) (by omega)) ?_)
               | refine Exists.intro _ (And.intro (u64xor (by omega) (by omega)) ?_)
               | refine Exists.intro _ (And.intro (w64 (by omega) (by omega)) ?_)
               | refine Exists.intro _ (And.intro (u32add (by omega)) ?_)
               | refine Exists.intro _ (And.intro (u64add (by omega)) ?_)
               | refine Exists.intro _ (And.intro (u8w (by omega)) ?_)
               | refine Exists.intro _ (And.intro (u32w (by omega)) ?_)
               | refine Exists.intro _ (And.intro (u64w (by omega)) ?_)
               | refine Exists.intro _ (And.intro (u8m) ?_)
               | refine Exists.intro _ (And.intro (u64i (by omega) (by omega)) ?_)
               | refine Exists.intro _ (And.intro (min_int) ?_)
               | refine Exists.intro _ (And.intro (max_int) ?_)
               | refine Exists.intro _ (And.intro (imin) ?_)
               | refine Exists.intro _ (And.intro (imax) ?_)
               | refine Pure.call (f16_ok _ hm) ?_
               | refine Pure.locK (f16_ok _ hm) ?_
               | refine boolF_not ?_
               | refine boolF_dect rfl ?_
               | refine boolF_dect (by assumption) ?_
               | refine boolF_decf (by assumption) ?_
               | refine boolF_dect (by omega) ?_
               | refine boolF_decf (by omega) ?_
               | refine boolF_beqt (by omega) ?_
               | refine boolF_beqf (by omega) ?_
               | refine boolF_bnet (by omega) ?_
               | refine boolF_bnef (by omega) ?_
               | refine boolF_nbeqt (by omega) ?_
               | refine boolF_nbeqf (by omega) ?_
               | refine boolF_nbnet (by omega) ?_
               | refine boolF_nbnef (by omega) ?_
               | refine boolF_t (by assumption) ?_
               | refine boolF_f (by assumption) ?_
               | refine boolF_dec (fun _ => ?_) (fun _ => ?_)
               | refine boolF_beq (fun _ => ?_) (fun _ => ?_)
               | refine boolF_bne (fun _ => ?_) (fun _ => ?_)
               | refine boolF_nbeq (fun _ => ?_) (fun _ => ?_)
               | refine boolF_nbne (fun _ => ?_) (fun _ => ?_)
               | refine boolF_leq (fun _ => ?_) (fun _ => ?_)
               | refine Both.mk ?_ ?_)
    all_goals (conv => whnf)
    refine W_loopG (ι := Nat × Int) (fun i => ⟨(D.undef :: d3 b :: .pe (c25 m) :: D.undef :: D.undef :: D.undef :: .int .i64 (i.1:Int) :: D.undef :: D.undef :: D.undef :: D.undef :: D.undef :: D.undef :: D.undef :: D.undef :: D.undef :: D.undef :: D.undef :: D.undef :: D.undef :: D.undef :: D.undef :: D.undef :: D.undef :: D.undef :: D.undef :: D.undef :: D.undef :: D.undef :: D.undef :: D.undef :: D.undef :: D.undef :: D.undef :: D.undef :: D.undef :: []), []⟩) (fun i => m.pieces_.length - i.1)
      (fun i => i.1 ≤ m.pieces_.length ∧ endsAt i.2 (m.pieces_.drop i.1) = some m.n_ ∧ 0 ≤ i.2 ∧ (0 ≤ b → i.2 ≤ b ∧ pieceIx b i.1 (m.pieces_.drop i.1) = pieceIx b 0 m.pieces_)) (0, 0) (Ghost.hold [1,2,6] rfl) ⟨Nat.zero_le _, hr.2.2.2.2.2, Int.le_refl _, fun h => ⟨h, rfl⟩⟩ ?_
    rintro ⟨i, a⟩ ⟨h1, h2, h3, h4⟩
    dsimp only at h1 h2 h3 h4 ⊢
    refine exec_ok tab_ok mixed 1000 (bx := [true]) (own := []) ?_
    rcases Nat.lt_or_ge i m.pieces_.length with h | h
    · obtain ⟨x, hx⟩ := at_lt h
      rw [drop_of_get hx] at h2 h4
      have hc : x.from_ = a ∧ a < x.to_ ∧ 0 ≤ x.node_ ∧ x.node_ < 16 := by
        rw [endsAt] at h2
        split at h2
        · assumption
        · cases h2
      rw [endsAt, if_pos hc] at h2
      have hle := endsAt_le h2
      repeat' (conv => whnf
               first
                 | refine PairK.mk (by kernel_rfl) ?_
                 | refine And.intro (by decide) ?_
                 | refine And.intro rfl ?_
                 | refine And.intro (List.cons_ne_nil _ _) ?_
                 | refine And.intro (Nat.le_of_ble_eq_true rfl) ?_
                 | refine And.intro (by omega) ?_
                 | refine And.intro (by simp only [List.length_map, List.length_append, List.length_cons, List.length_nil]; omega) ?_
                 | refine And.intro (by simpa only [List.length_map, List.length_append, List.length_cons, List.length_nil] using rfl) ?_
                 | refine And.intro (Eq.symm (List.length_map _)) ?_
                 | refine And.intro (all_map (fun _ => rfl)) ?_
                 | refine And.intro (cells_map (fun _ => rfl)) ?_
                 | refine And.intro (rows_map (fun _ => rfl) (fun _ => rfl)) ?_
                 | refine And.intro (okRows_one rfl rfl) ?_
                 | refine And.intro (okRows_all rfl) ?_
                 | refine boolF_t (beq_self_eq_true _) ?_
                 | refine Exists.intro _ (And.intro (map_get (by assumption)) ?_)
                 | refine Exists.intro _ (And.intro (Eq.refl (α := Option D) _) ?_)
                 | refine Exists.intro _ (And.intro (⟨(List.length_map _).symm⟩) ?_)
                 | refine Exists.intro _ (And.intro (⟨len_one⟩) ?_)
                 | refine Exists.intro _ (And.intro (⟨len_two⟩) ?_)
                 | refine Exists.intro _ (And.intro (⟨len_three⟩) ?_)
                 | refine Exists.intro _ (And.intro (⟨len_four⟩) ?_)
                 | refine Exists.intro _ (And.intro (⟨lenl_1⟩) ?_)
                 | refine Exists.intro _ (And.intro (⟨lenl_2⟩) ?_)
                 | refine Exists.intro _ (And.intro (⟨lenl_3⟩) ?_)
                 | refine Exists.intro _ (And.intro (⟨lenl_4⟩) ?_)
                 | refine Exists.intro _ (And.intro (⟨len_more⟩) ?_)
                 | refine Exists.intro _ (And.intro (⟨map_slice⟩) ?_)
                 | refine Exists.intro _ (And.intro (⟨List.map_take⟩) ?_)
                 | refine Exists.intro _ (And.intro (⟨List.map_drop⟩) ?_)
                 | refine Exists.intro _ (And.intro (⟨map_full'⟩) ?_)
                 | refine Exists.intro _ (And.intro (⟨map_full⟩) ?_)
                 | refine Exists.intro _ (And.intro (⟨map_snoc⟩) ?_)
                 | refine Exists.intro _ (And.intro (⟨List.map_append⟩) ?_)
                 | refine Exists.intro _ (And.intro (⟨Eq.refl (α := List D) _⟩) ?_)
                 | refine Exists.intro _ (And.intro (⟨Eq.refl (α := Int) _⟩) (And.intro (by omega) ?_))
                 | refine Exists.intro (0) (And.intro (⟨rfl⟩) (And.intro (Nat.zero_le _) ?_))
                 | refine Exists.intro _ (And.intro (⟨nc1⟩) (And.intro (by omega) ?_))
                 | refine Exists.intro _ (Exists.intro _ (And.intro (⟨Eq.refl (α := Int) _⟩) (And.intro (⟨Eq.refl (α := Int) _⟩) (And.intro (by omega) (And.intro (by omega) ?_)))))
                 | refine Exists.intro _ (Exists.intro _ (And.intro (⟨Eq.refl (α := Nat) _⟩) (And.intro (⟨Eq.refl (α := Nat) _⟩) ?_)))
                 | refine Exists.intro _ (And.intro (⟨Eq.refl (α := Nat) _⟩) ?_)
                 | refine Exists.intro _ (And.intro (u32and (by omega) (by omega)) ?_)
                 | refine Exists.intro _ (And.intro (u32or (by omega) (by omega)) ?_)
                 | refine Exists.intro _ (And.intro (u32xor (by omega) (by omega)) ?_)
                 | refine Exists.intro _ (And.intro (u8xor (by omega) (by omega)) ?_)
                 | refine Exists.intro _ (And.intro (u64and (by omega) (by omega)) ?_)
                 | refine Exists.intro _ (And.intro (u64or (by omega) (by omega)) ?_)
                 | refine Exists.intro _ (And.intro (u64xor (by omega) (by omega)) ?_)
                 | refine Exists.intro _ (And.intro (w64 (by omega) (by omega)) ?_)
                 | refine Exists.intro _ (And.intro (u32add (by omega)) ?_)
                 | refine Exists.intro _ (And.intro (u64add (by omega)) ?_)
                 | refine Exists.intro _ (And.intro (u8w (by omega)) ?_)
                 | refine Exists.intro _ (And.intro (u32w (by omega)) ?_)
                 | refine Exists.intro _ (And.intro (u64w (by omega)) ?_)
                 | refine Exists.intro _ (And.intro (u8m) ?_)
                 | refine Exists.intro _ (And.intro (u64i (by omega) (by omega)) ?_)
                 | refine Exists.intro _ (And.intro (min_int) ?_)
                 | refine Exists.intro _ (And.intro (max_int) ?_)
                 | refine Exists.intro _ (And.intro (imin) ?_)
                 | refine Exists.intro _ (And.intro (imax) ?_)
                 | refine Pure.call (f16_ok _ hm) ?_
                 | refine Pure.locK (f16_ok _ hm) ?_
                 | refine boolF_not ?_
                 | refine boolF_dect rfl ?_
                 | refine boolF_dect (by assumption) ?_
                 | refine boolF_decf (by assumption) ?_
                 | refine boolF_dect (by omega) ?_
                 | refine boolF_decf (by omega) ?_
                 | refine boolF_beqt (by omega) ?_
                 | refine boolF_beqf (by omega) ?_
                 | refine boolF_bnet (by omega) ?_
                 | refine boolF_bnef (by omega) ?_
                 | refine boolF_nbeqt (by omega) ?_
                 | refine boolF_nbeqf (by omega) ?_
                 | refine boolF_nbnet (by omega) ?_
                 | refine boolF_nbnef (by omega) ?_
                 | refine boolF_t (by assumption) ?_
                 | refine boolF_f (by assumption) ?_
                 | refine boolF_dec (fun _ => ?_) (fun _ => ?_)
                 | refine boolF_beq (fun _ => ?_) (fun _ => ?_)
                 | refine boolF_bne (fun _ => ?_) (fun _ => ?_)
                 | refine boolF_nbeq (fun _ => ?_) (fun _ => ?_)
                 | refine boolF_nbne (fun _ => ?_) (fun _ => ?_)
                 | refine boolF_leq (fun _ => ?_) (fun _ => ?_)
                 | refine Both.mk ?_ ?_)
      all_goals (conv => whnf)
      · have e : findM m b = ((i : Int), 0) := by
          rw [findM, if_pos hr, if_neg (by omega), ← (h4 (by omega)).2, pieceIx, if_pos (by omega)]
        rw [e]
        exact ⟨rfl⟩
      all_goals
        refine ⟨(i + 1, x.to_), Ghost.hold [1,2,6] rfl, ⟨by omega, h2, by dsimp only; omega, fun h0 => ?_⟩, by dsimp only; omega⟩
        obtain ⟨g1, g2⟩ := h4 h0
        refine ⟨by dsimp only; omega, ?_⟩
        rw [pieceIx, if_neg (by omega)] at g2
        exact g2
    · rw [List.drop_of_length_le h, endsAt] at h2
      have ha := Option.some.inj h2
      have hb9 : b < 0 ∨ m.n_ ≤ b := by
        by_cases h0 : 0 ≤ b
        · have := (h4 h0).1; omega
        · omega
      have e : findM m b = (0, 9) := by rw [findM, if_pos hr, if_pos hb9]
      rw [e]
      repeat' (conv => whnf
               first
                 | refine PairK.mk (by kernel_rfl) ?_
                 | refine And.intro (by decide) ?_
                 | refine And.intro rfl ?_
                 | refine And.intro (List.cons_ne_nil _ _) ?_
                 | refine And.intro (Nat.le_of_ble_eq_true rfl) ?_
                 | refine And.intro (by omega) ?_
                 | refine And.intro (by simp only [List.length_map, List.length_append, List.length_cons, List.length_nil]; omega) ?_
                 | refine And.intro (by simpa only [List.length_map, List.length_append, List.length_cons, List.length_nil] using rfl) ?_
                 | refine And.intro (Eq.symm (List.length_map _)) ?_
                 | refine And.intro (all_map (fun _ => rfl)) ?_
                 | refine And.intro (cells_map (fun _ => rfl)) ?_
                 | refine And.intro (rows_map (fun _ => rfl) (fun _ => rfl)) ?_
                 | refine And.intro (okRows_one rfl rfl) ?_
                 | refine And.intro (okRows_all rfl) ?_
                 | refine boolF_t (beq_self_eq_true _) ?_
                 | refine Exists.intro _ (And.intro (map_get (by assumption)) ?_)
                 | refine Exists.intro _ (And.intro (Eq.refl (α := Option D) _) ?_)
                 | refine Exists.intro _ (And.intro (⟨(List.length_map _).symm⟩) ?_)
                 | refine Exists.intro _ (And.intro (⟨len_one⟩) ?_)
                 | refine Exists.intro _ (And.intro (⟨len_two⟩) ?_)
                 | refine Exists.intro _ (And.intro (⟨len_three⟩) ?_)
                 | refine Exists.intro _ (And.intro (⟨len_four⟩) ?_)
                 | refine Exists.intro _ (And.intro (⟨lenl_1⟩) ?_)
                 | refine Exists.intro _ (And.intro (⟨lenl_2⟩) ?_)
                 | refine Exists.intro _ (And.intro (⟨lenl_3⟩) ?_)
                 | refine Exists.intro _ (And.intro (⟨lenl_4⟩) ?_)
                 | refine Exists.intro _ (And.intro (⟨len_more⟩) ?_)
                 | refine Exists.intro _ (And.intro (⟨map_slice⟩) ?_)
                 | refine Exists.intro _ (And.intro (⟨List.map_take⟩) ?_)
                 | refine Exists.intro _ (And.intro (⟨List.map_drop⟩) ?_)
                 | refine Exists.intro _ (And.intro (⟨map_full'⟩) ?_)
                 | refine Exists.intro _ (And.intro (⟨map_full⟩) ?_)
                 | refine Exists.intro _ (And.intro (⟨map_snoc⟩) ?_)
                 | refine Exists.intro _ (And.intro (⟨List.map_append⟩) ?_)
                 | refine Exists.intro _ (And.intro (⟨Eq.refl (α := List D) _⟩) ?_)
                 | refine Exists.intro _ (And.intro (⟨Eq.refl (α := Int) _⟩) (And.intro (by omega) ?_))
                 | refine Exists.intro (0) (And.intro (⟨rfl⟩) (And.intro (Nat.zero_le _) ?_))
                 | refine Exists.intro _ (And.intro (⟨nc1⟩) (And.intro (by omega) ?_))
                 | refine Exists.intro _ (Exists.intro _ (And.intro (⟨Eq.refl (α := Int) _⟩) (And.intro (⟨Eq.refl (α := Int) _⟩) (And.intro (by omega) (And.intro (by omega) ?_)))))
                 | refine Exists.intro _ (Exists.intro _ (And.intro (⟨Eq.refl (α := Nat) _⟩) (And.intro (⟨Eq.refl (α := Nat) _⟩) ?_)))
                 | refine Exists.intro _ (And.intro (⟨Eq.refl (α := Nat) _⟩) ?_)
                 | refine Exists.intro _ (And.intro (u32and (by omega) (by omega)) ?_)
                 | refine Exists.intro _ (And.intro (u32or (by omega) (by omega)) ?_)
                 | refine Exists.intro _ (And.intro (u32xor (by omega) (by omega)) ?_)
                 | refine Exists.intro _ (And.intro (u8xor (by omega) (by omega)) ?_)
                 | refine Exists.intro _ (And.intro (u64and (by omega) (by omega)) ?_)
                 | refine Exists.intro _ (And.intro (u64or (by omega) (by omega)) ?_)
                 | refine Exists.intro _ (And.intro (u64xor (by omega) (by omega)) ?_)
                 | refine Exists.intro _ (And.intro (w64 (by omega) (by omega)) ?_)
                 | refine Exists.intro _ (And.intro (u32add (by omega)) ?_)
                 | refine Exists.intro _ (And.intro (u64add (by omega)) ?_)
                 | refine Exists.intro _ (And.intro (u8w (by omega)) ?_)
                 | refine Exists.intro _ (And.intro (u32w (by omega)) ?_)
                 | refine Exists.intro _ (And.intro (u64w (by omega)) ?_)
                 | refine Exists.intro _ (And.intro (u8m) ?_)
                 | refine Exists.intro _ (And.intro (u64i (by omega) (by omega)) ?_)
                 | refine Exists.intro _ (And.intro (min_int) ?_)
                 | refine Exists.intro _ (And.intro (max_int) ?_)
                 | refine Exists.intro _ (And.intro (imin) ?_)
                 | refine Exists.intro _ (And.intro (imax) ?_)
                 | refine Pure.call (f16_ok _ hm) ?_
                 | refine Pure.locK (f16_ok _ hm) ?_
                 | refine boolF_not ?_
                 | refine boolF_dect rfl ?_
                 | refine boolF_dect (by assumption) ?_
                 | refine boolF_decf (by assumption) ?_
                 | refine boolF_dect (by omega) ?_
                 | refine boolF_decf (by omega) ?_
                 | refine boolF_beqt (by omega) ?_
                 | refine boolF_beqf (by omega) ?_
                 | refine boolF_bnet (by omega) ?_
                 | refine boolF_bnef (by omega) ?_
                 | refine boolF_nbeqt (by omega) ?_
                 | refine boolF_nbeqf (by omega) ?_
                 | refine boolF_nbnet (by omega) ?_
                 | refine boolF_nbnef (by omega) ?_
                 | refine boolF_t (by assumption) ?_
                 | refine boolF_f (by assumption) ?_
                 | refine boolF_dec (fun _ => ?_) (fun _ => ?_)
                 | refine boolF_beq (fun _ => ?_) (fun _ => ?_)
                 | refine boolF_bne (fun _ => ?_) (fun _ => ?_)
                 | refine boolF_nbeq (fun _ => ?_) (fun _ => ?_)
                 | refine boolF_nbne (fun _ => ?_) (fun _ => ?_)
                 | refine boolF_leq (fun _ => ?_) (fun _ => ?_)
                 | refine Both.mk ?_ ?_)
      all_goals (conv => whnf)
      exact ⟨rfl⟩
  · have e : findM m b = (0, 1) := by rw [findM, if_neg hr]
    rw [e]
    repeat' (conv => whnf
             first
               | refine PairK.mk (by kernel_rfl) ?_
               | refine And.intro (by decide) ?_
               | refine And.intro rfl ?_
               | refine And.intro (List.cons_ne_nil _ _) ?_
               | refine And.intro (Nat.le_of_ble_eq_true rfl) ?_
               | refine And.intro (by omega) ?_
               | refine And.intro (by simp only [List.length_map, List.length_append, List.length_cons, List.length_nil]; omega) ?_
               | refine And.intro (by simpa only [List.length_map, List.length_append, List.length_cons, List.length_nil] using rfl) ?_
               | refine And.intro (Eq.symm (List.length_map _)) ?_
               | refine And.intro (all_map (fun _ => rfl)) ?_
               | refine And.intro (cells_map (fun _ => rfl)) ?_
               | refine And.intro (rows_map (fun _ => rfl) (fun _ => rfl)) ?_
               | refine And.intro (okRows_one rfl rfl) ?_
               | refine And.intro (okRows_all rfl) ?_
               | refine boolF_t (beq_self_eq_true _) ?_
               | refine Exists.intro _ (And.intro (map_get (by assumption)) ?_)
               | refine Exists.intro _ (And.intro (Eq.refl (α := Option D) _) ?_)
               | refine Exists.intro _ (And.intro (⟨(List.length_map _).symm⟩) ?_)
               | refine Exists.intro _ (And.intro (⟨len_one⟩) ?_)
               | refine Exists.intro _ (And.intro (⟨len_two⟩) ?_)
               | refine Exists.intro _ (And.intro (⟨len_three⟩) ?_)
               | refine Exists.intro _ (And.intro (⟨len_four⟩) ?_)
               | refine Exists.intro _ (And.intro (⟨lenl_1⟩) ?_)
               | refine Exists.intro _ (And.intro (⟨lenl_2⟩) ?_)
               | refine Exists.intro _ (And.intro (⟨lenl_3⟩) ?_)
               | refine Exists.intro _ (And.intro (⟨lenl_4⟩) ?_)
               | refine Exists.intro _ (And.intro (⟨len_more⟩) ?_)
               | refine Exists.intro _ (And.intro (⟨map_slice⟩) ?_)
               | refine Exists.intro _ (And.intro (⟨List.map_take⟩) ?_)
               | refine Exists.intro _ (And.intro (⟨List.map_drop⟩) ?_)
               | refine Exists.intro _ (And.intro (⟨map_full'⟩) ?_)
               | refine Exists.intro _ (And.intro (⟨map_full⟩) ?_)
               | refine Exists.intro _ (And.intro (⟨map_snoc⟩) ?_)
               | refine Exists.intro _ (And.intro (⟨List.map_append⟩) ?_)
               | refine Exists.intro _ (And.intro (⟨Eq.refl (α := List D) _⟩) ?_)
               | refine Exists.intro _ (And.intro (⟨Eq.refl (α := Int) _⟩) (And.intro (by omega) ?_))
               | refine Exists.intro (0) (And.intro (⟨rfl⟩) (And.intro (Nat.zero_le _) ?_))
               | refine Exists.intro _ (And.intro (⟨nc1⟩) (And.intro (by omega) ?_))
               | refine Exists.intro _ (Exists.intro _ (And.intro (⟨Eq.refl (α := Int) _⟩) (And.intro (⟨Eq.refl (α := Int) _⟩) (And.intro (by omega) (And.intro (by omega) ?_)))))
               | refine Exists.intro _ (Exists.intro _ (And.intro (⟨Eq.refl (α := Nat) _⟩) (And.intro (⟨Eq.refl (α := Nat) _⟩) ?_)))
               | refine Exists.intro _ (And.intro (⟨Eq.refl (α := Nat) _⟩) ?_)
               | refine Exists.intro _ (And.intro (u32and (by omega) (by omega)) ?_)
               | refine Exists.intro _ (And.intro (u32or (by omega) (by omega)) ?_)
               | refine Exists.intro _ (And.intro (u32xor (by omega) (by omega)) ?_)
               | refine Exists.intro _ (And.intro (u8xor (by omega) (by omega)) ?_)
               | refine Exists.intro _ (And.intro (u64and (by omega) (by omega)) ?_)
               | refine Exists.intro _ (And.intro (u64or (by omega) (by omega)) ?_)
               | refine Exists.intro _ (And.intro (u64xor (by omega) (by omega)) ?_)
               | refine Exists.intro _ (And.intro (w64 (by omega) (by omega)) ?_)
               | refine Exists.intro _ (And.intro (u32add (by omega)) ?_)
               | refine Exists.intro _ (And.intro (u64add (by omega)) ?_)
               | refine Exists.intro _ (And.intro (u8w (by omega)) ?_)
               | refine Exists.intro _ (And.intro (u32w (by omega)) ?_)
               | refine Exists.intro _ (And.intro (u64w (by omega)) ?_)
               | refine Exists.intro _ (And.intro (u8m) ?_)
               | refine Exists.intro _ (And.intro (u64i (by omega) (by omega)) ?_)
               | refine Exists.intro _ (And.intro (min_int) ?_)
               | refine Exists.intro _ (And.intro (max_int) ?_)
               | refine Exists.intro _ (And.intro (imin) ?_)
               | refine Exists.intro _ (And.intro (imax) ?_)
               | refine Pure.call (f16_ok _ hm) ?_
               | refine Pure.locK (f16_ok _ hm) ?_
               | refine boolF_not ?_
               | refine boolF_dect rfl ?_
               | refine boolF_dect (by assumption) ?_
               | refine boolF_decf (by assumption) ?_
               | refine boolF_dect (by omega) ?_
               | refine boolF_decf (by omega) ?_
               | refine boolF_beqt (by omega) ?_
               | refine boolF_beqf (by omega) ?_
               | refine boolF_bnet (by omega) ?_
               | refine boolF_bnef (by omega) ?_
               | refine boolF_nbeqt (by omega) ?_
               | refine boolF_nbeqf (by omega) ?_
               | refine boolF_nbnet (by omega) ?_
               | refine boolF_nbnef (by omega) ?_
               | refine boolF_t (by assumption) ?_
               | refine boolF_f (by assumption) ?_
               | refine boolF_dec (fun _ => ?_) (fun _ => ?_)
               | refine boolF_beq (fun _ => ?_) (fun _ => ?_)
               | refine boolF_bne (fun _ => ?_) (fun _ => ?_)
               | refine boolF_nbeq (fun _ => ?_) (fun _ => ?_)
               | refine boolF_nbne (fun _ => ?_) (fun _ => ?_)
               | refine boolF_leq (fun _ => ?_) (fun _ => ?_)
               | refine Both.mk ?_ ?_)
    all_goals (conv => whnf)
    exact ⟨rfl⟩

end Go.Proofs.Ytgcllbcpdcfkmaa

