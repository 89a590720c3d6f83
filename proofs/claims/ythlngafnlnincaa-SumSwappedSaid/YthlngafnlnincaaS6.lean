import Derived.Test.YthlngafnlnincaaS5
namespace Go.Proofs.Ythlngafnlnincaa
open Go.A
set_option linter.unusedVariables false
set_option linter.unusedSimpArgs false
set_option linter.unnecessarySimpa false
attribute [local irreducible] IntKind.wrap bitsI
set_option maxRecDepth 100000

theorem sc24 (k : Nat) (l : List Nat) : (d24 l).sc k := by simp [D.sc, d24, scs_map]; intro x _; simp [r5, D.sc, d5]
theorem sc22 (k : Nat) (l : List (List Nat)) : (d22 l).sc k := by
  simp only [D.sc, d22, scs_map]
  intro x _; exact sc24 k x
theorem scr5 (k : Nat) (l : List Nat) : scs k (l.map r5) := by rw [scs_map]; intro x _; simp [r5, D.sc, d5]

def be4 (s : Nat) : List Nat := [s / 16777216 % 256, s / 65536 % 256, s / 256 % 256, s % 256]
theorem be4_ok (s : Nat) : okB (be4 s) := by
  refine ⟨fun x hx => ?_, by simp [be4]⟩
  simp only [be4, List.mem_cons, List.not_mem_nil, or_false] at hx
  simp only [ok5]
  omega

theorem f21_ok (s : Nat) (hs : s < 4294967296) : Pure Try.prog 21 [d23 s] (d24 (be4 s)) := by
  refine Pure.of ⟨trivial, trivial⟩ (sc24 _ _) ?_
  refine CallsIn.of_exec tab_ok mixed Try.func21 rfl rfl [] [] ?_
  repeat' (conv => whnf
           first
             | refine PairK.mk (by kernel_rfl) ?_
             | refine And.intro (by decide) ?_
             | refine And.intro rfl ?_
             | refine And.intro (List.cons_ne_nil _ _) ?_
             | refine And.intro (Nat.le_of_ble_eq_true rfl) ?_
             | refine And.intro (by omega) ?_
             | refine And.intro (by simp only [List.length_map, List.length_append, List.length_cons, List.length_nil]; omega) ?_
             | refine And.intro (by simpa only [List.length_map, List.length_append, List.length_cons, List.length_nil] using rfl) ?_
             | refine And.intro (Eq.symm (List.length_map _)) ?_
             | refine And.intro (all_map (fun _ => rfl)) ?_
             | refine And.intro (cells_map (fun _ => rfl)) ?_
             | refine And.intro (rows_map (fun _ => rfl) (fun _ => rfl)) ?_
             | refine And.intro (okRows_one rfl rfl) ?_
             | refine And.intro (okRows_all rfl) ?_
             | refine boolF_t (beq_self_eq_true _) ?_
             | refine Exists.intro _ (And.intro (map_get (by assumption)) ?_)
             | refine Exists.intro _ (And.intro (Eq.refl (α := Option D) _) ?_)
             | refine Exists.intro _ (And.intro (⟨(List.length_map _).symm⟩) ?_)
             | refine Exists.intro _ (And.intro (⟨len_one⟩) ?_)
             | refine Exists.intro _ (And.intro (⟨len_two⟩) ?_)
             | refine Exists.intro _ (And.intro (⟨len_three⟩) ?_)
             | refine Exists.intro _ (And.intro (⟨len_four⟩) ?_)
             | refine Exists.intro _ (And.intro (⟨lenl_1⟩) ?_)
             | refine Exists.intro _ (And.intro (⟨lenl_2⟩) ?_)
             | refine Exists.intro _ (And.intro (⟨lenl_3⟩) ?_)
             | refine Exists.intro _ (And.intro (⟨lenl_4⟩) ?_)
             | refine Exists.intro _ (And.intro (⟨len_more⟩) ?_)
             | refine Exists.intro _ (And.intro (⟨map_slice⟩) ?_)
             | refine Exists.intro _ (And.intro (⟨List.map_take⟩) ?_)
             | refine Exists.intro _ (And.intro (⟨List.map_drop⟩) ?_)
             | refine Exists.intro _ (And.intro (⟨map_full'⟩) ?_)
             | refine Exists.intro _ (And.intro (⟨map_full⟩) ?_)
             | refine Exists.intro _ (And.intro (⟨map_snoc⟩) ?_)
             | refine Exists.intro _ (And.intro (⟨List.map_append⟩) ?_)
             | refine Exists.intro _ (And.intro (⟨Eq.refl (α := List D) _⟩) ?_)
             | refine Exists.intro _ (And.intro (⟨Eq.refl (α := Int) _⟩) (And.intro (by omega) ?_))
             | refine Exists.intro (0) (And.intro (⟨rfl⟩) (And.intro (Nat.zero_le _) ?_))
             | refine Exists.intro _ (And.intro (⟨nc1⟩) (And.intro (by omega) ?_))
             | refine Exists.intro _ (Exists.intro _ (And.intro (⟨Eq.refl (α := Int) _⟩) (And.intro (⟨Eq.refl (α := Int) _⟩) (And.intro (by omega) (And.intro (by omega) ?_)))))
             | refine Exists.intro _ (Exists.intro _ (And.intro (⟨Eq.refl (α := Nat) _⟩) (And.intro (⟨Eq.refl (α := Nat) _⟩) ?_)))
             | refine Exists.intro _ (And.intro (⟨Eq.refl (α := Nat) _⟩) ?_)
             | refine Exists.intro _ (And.intro (u32and (by omega) (by omega)) ?_)
             | refine Exists.intro _ (And.intro (u32or (by omega) (by omega)) ?_)
             | refine Exists.intro _ (And.intro (u32xor (by omega) (by omega)) ?_)
             | refine Exists.intro _ (And.intro (u8xor (by omega) (by omega)) ?_)
             | refine Exists.intro _ (And.intro (u64and (by omega) (by omega)) ?_)
             | refine Exists.intro _ (And.intro (u64or (by omega) (by omega)) ?_)
             | refine Exists.intro _ (And.intro (u64xor (by omega) (by omega)) ?_)
             | refine Exists.intro _ (And.intro (w64 (by omega) (by omega)) ?_)
             | refine Exists.intro _ (And.intro (u32add (by omega)) ?_)
             | refine Exists.intro _ (And.intro (u64add (by omega)) ?_)
             | refine Exists.intro _ (And.intro (u8w (by omega)) ?_)
             | refine Exists.intro _ (And.intro (u32w (by omega)) ?_)
             | refine Exists.intro _ (And.intro (u64w (by omega)) ?_)
             | refine Exists.intro _ (And.intro (u8m) ?_)
             | refine Exists.intro _ (And.intro (u64i (by omega) (by omega)) ?_)
             | refine Exists.intro _ (And.intro (min_int) ?_)
             | refine Exists.intro _ (And.intro (max_int) ?_)
             | refine Exists.intro _ (And.intro (imin) ?_)
             | refine Exists.intro _ (And.intro (imax) ?_)
             | refine boolF_not ?_
             | refine boolF_dect rfl ?_
             | refine boolF_dect (by assumption) ?_
             | refine boolF_decf (by assumption) ?_
             | refine boolF_dect (by omega) ?_
             | refine boolF_decf (by omega) ?_
             | refine boolF_beqt (by omega) ?_
             | refine boolF_beqf (by omega) ?_
             | refine boolF_bnet (by omega) ?_
             | refine boolF_bnef (by omega) ?_
             | refine boolF_nbeqt (by omega) ?_
             | refine boolF_nbeqf (by omega) ?_
             | refine boolF_nbnet (by omega) ?_
             | refine boolF_nbnef (by omega) ?_
             | refine boolF_t (by assumption) ?_
             | refine boolF_f (by assumption) ?_
             | refine boolF_dec (fun _ => ?_) (fun _ => ?_)
             | refine boolF_beq (fun _ => ?_) (fun _ => ?_)
             | refine boolF_bne (fun _ => ?_) (fun _ => ?_)
             | refine boolF_nbeq (fun _ => ?_) (fun _ => ?_)
             | refine boolF_nbne (fun _ => ?_) (fun _ => ?_)
             | refine boolF_leq (fun _ => ?_) (fun _ => ?_)
             | refine Both.mk ?_ ?_)
  all_goals (conv => whnf)
  have e : s / 16777216 % 256 = s / 16777216 := by omega
  simp only [be4, e]
  exact ⟨rfl⟩

theorem f20_ok (a b : List Nat) (ha : okB a) (hb : okB b) : Pure Try.prog 20 [d24 a, d24 b] (.bool (decide (a = b))) := by
  have hlen : a.length ≤ 140737488355328 := ha.2
  refine Pure.of ⟨sc24 _ _, sc24 _ _, trivial⟩ trivial ?_
  refine CallsIn.of_exec tab_ok mixed Try.func20 rfl rfl [] [] ?_
  repeat' (conv => whnf
           first
             | refine PairK.mk (by kernel_rfl) ?_
             | refine And.intro (by decide) ?_
             | refine And.intro rfl ?_
             | refine And.intro (List.cons_ne_nil _ _) ?_
             | refine And.intro (Nat.le_of_ble_eq_true rfl) ?_
             | refine And.intro (by omega) ?_
             | refine And.intro (by simp only [List.length_map, List.length_append, List.length_cons, List.length_nil]; omega) ?_
             | refine And.intro (by simpa only [List.length_map, List.length_append, List.length_cons, List.length_nil] using rfl) ?_
             | refine And.intro (Eq.symm (List.length_map _)) ?_
             | refine And.intro (all_map (fun _ => rfl)) ?_
             | refine And.intro (cells_map (fun _ => rfl)) ?_
             | refine And.intro (rows_map (fun _ => rfl) (fun _ => rfl)) ?_
             | refine And.intro (okRows_one rfl rfl) ?_
             | refine And.intro (okRows_all rfl) ?_
             | refine boolF_t (beq_self_eq_true _) ?_
             | refine Exists.intro _ (And.intro (map_get (by assumption)) ?_)
             | refine Exists.intro _ (And.intro (Eq.refl (α := Option D) _) ?_)
             | refine Exists.intro _ (And.intro (⟨(List.length_map _).symm⟩) ?_)
             | refine Exists.intro _ (And.intro (⟨len_one⟩) ?_)
             | refine Exists.intro _ (And.intro (⟨len_two⟩) ?_)
             | refine Exists.intro _ (And.intro (⟨len_three⟩) ?_)
             | refine Exists.intro _ (And.intro (⟨len_four⟩) ?_)
             | refine Exists.intro _ (And.intro (⟨lenl_1⟩) ?_)
             | refine Exists.intro _ (And.intro (⟨lenl_2⟩) ?_)
             | refine Exists.intro _ (And.intro (⟨lenl_3⟩) ?_)
             | refine Exists.intro _ (And.intro (⟨lenl_4⟩) ?_)
             | refine Exists.intro _ (And.intro (⟨len_more⟩) ?_)
             | refine Exists.intro _ (And.intro (⟨map_slice⟩) ?_)
             | refine Exists.intro _ (And.intro (⟨List.map_take⟩) ?_)
             | refine Exists.intro _ (And.intro (⟨List.map_drop⟩) ?_)
             | refine Exists.intro _ (And.intro (⟨map_full'⟩) ?_)
             | refine Exists.intro _ (And.intro (⟨map_full⟩) ?_)
             | refine Exists.intro _ (And.intro (⟨map_snoc⟩) ?_)
             | refine Exists.intro _ (And.intro (⟨List.map_append⟩) ?_)
             | refine Exists.intro _ (And.intro (⟨Eq.refl (α := List D) _⟩) ?_)
             | refine Exists.intro _ (And.intro (⟨Eq.refl (α := Int) _⟩) (And.intro (by omega) ?_))
             | refine Exists.intro (0) (And.intro (⟨rfl⟩) (And.intro (Nat.zero_le _) ?_))
             | refine Exists.intro _ (And.intro (⟨nc1⟩) (And.intro (by omega) ?_))
             | refine Exists.intro _ (Exists.intro _ (And.intro (⟨Eq.refl (α := Int) _⟩) (And.intro (⟨Eq.refl (α := Int) _⟩) (And.intro (by omega) (And.intro (by omega) ?_)))))
             | refine Exists.intro _ (Exists.intro _ (And.intro (⟨Eq.refl (α := Nat) _⟩) (And.intro (⟨Eq.refl (α := Nat) _⟩) ?_)))
             | refine Exists.intro _ (And.intro (⟨Eq.refl (α := Nat) _⟩) ?_)
             | refine Exists.intro _ (And.intro (u32and (by omega) (by omega)) ?_)
             | refine Exists.intro _ (And.intro (u32or (by omega) (by omega)) ?_)
             | refine Exists.intro _ (And.intro (u32xor (by omega) (by omega)) ?_)
             | refine Exists.intro _ (And.intro (u8xor (by omega) (by omega)) ?_)
             | refine Exists.intro _ (And.intro (u64and (by omega) (by omega)) ?_)
             | refine Exists.intro _ (And.intro (u64or (by omega) (by omega)) ?_)
             | refine Exists.intro _ (And.intro (u64xor (by omega) (by omega)) ?_)
             | refine Exists.intro _ (And.intro (w64 (by omega) (by omega)) ?_)
             | refine Exists.intro _ (And.intro (u32add (by omega)) ?_)
             | refine Exists.intro _ (And.intro (u64add (by omega)) ?_)
             | refine Exists.intro _ (And.intro (u8w (by omega)) ?_)
             | refine Exists.intro _ (And.intro (u32w (by omega)) ?_)
             | refine Exists.intro _ (And.intro (u64w (by omega)) ?_)
             | refine Exists.intro _ (And.intro (u8m) ?_)
             | refine Exists.intro _ (And.intro (u64i (by omega) (by omega)) ?_)
             | refine Exists.intro _ (And.intro (min_int) ?_)
             | refine Exists.intro _ (And.intro (max_int) ?_)
             | refine Exists.intro _ (And.intro (imin) ?_)
             | refine Exists.intro _ (And.intro (imax) ?_)
             | refine boolF_not ?_
             | refine boolF_dect rfl ?_
             | refine boolF_dect (by assumption) ?_
             | refine boolF_decf (by assumption) ?_
             | refine boolF_dect (by omega) ?_
             | refine boolF_decf (by omega) ?_
             | refine boolF_beqt (by omega) ?_
             | refine boolF_beqf (by omega) ?_
             | refine boolF_bnet (by omega) ?_
             | refine boolF_bnef (by omega) ?_
             | refine boolF_nbeqt (by omega) ?_
             | refine boolF_nbeqf (by omega) ?_
             | refine boolF_nbnet (by omega) ?_
             | refine boolF_nbnef (by omega) ?_
             | refine boolF_t (by assumption) ?_
             | refine boolF_f (by assumption) ?_
             | refine boolF_dec (fun _ => ?_) (fun _ => ?_)
             | refine boolF_beq (fun _ => ?_) (fun _ => ?_)
             | refine boolF_bne (fun _ => ?_) (fun _ => ?_)
             | refine boolF_nbeq (fun _ => ?_) (fun _ => ?_)
             | refine boolF_nbne (fun _ => ?_) (fun _ => ?_)
             | refine boolF_leq (fun _ => ?_) (fun _ => ?_)
             | refine Both.mk ?_ ?_)
  all_goals (conv => whnf)
  all_goals try exact ⟨bool_f (fun hh => by subst hh; omega)⟩
  refine W_loopG (ι := Nat) (fun i => ⟨(d24 a :: d24 b :: D.undef :: D.undef :: D.undef :: D.undef :: D.undef :: D.undef :: D.undef :: D.undef :: D.undef :: D.undef :: .int .i64 (a.length:Int) :: .int .i64 (i:Int) :: D.undef :: D.undef :: D.undef :: D.undef :: D.undef :: D.undef :: D.undef :: D.undef :: D.undef :: D.undef :: D.undef :: D.undef :: []), []⟩) (fun i => a.length - i)
    (fun i => i ≤ a.length ∧ a.take i = b.take i) 0 (Ghost.hold [0,1,12,13] rfl) ⟨Nat.zero_le _, rfl⟩ ?_
  rintro i ⟨h1, h2⟩
  refine exec_ok tab_ok mixed 1000 (bx := [true]) (own := []) ?_
  rcases Nat.lt_or_ge i a.length with h | h
  · obtain ⟨x, hx⟩ := at_lt h
    obtain ⟨y, hy⟩ := at_lt (l := b) (i := i) (by omega)
    repeat' (conv => whnf
             first
               | refine PairK.mk (by kernel_rfl) ?_
               | refine And.intro (by decide) ?_
               | refine And.intro rfl ?_
               | refine And.intro (List.cons_ne_nil _ _) ?_
               | refine And.intro (Nat.le_of_ble_eq_true rfl) ?_
               | refine And.intro (by omega) ?_
               | refine And.intro (by simp only [List.length_map, List.length_append, List.length_cons, List.length_nil]; omega) ?_
               | refine And.intro (by simpa only [List.length_map, List.length_append, List.length_cons, List.length_nil] using rfl) ?_
               | refine And.intro (Eq.symm (List.length_map _)) ?_
               | refine And.intro (all_map (fun _ => rfl)) ?_
               | refine And.intro (cells_map (fun _ => rfl)) ?_
               | refine And.intro (rows_map (fun _ => rfl) (fun _ => rfl)) ?_
               | refine And.intro (okRows_one rfl rfl) ?_
               | refine And.intro (okRows_all rfl) ?_
               | refine boolF_t (beq_self_eq_true _) ?_
               | refine Exists.intro _ (And.intro (map_get (by assumption)) ?_)
               | refine Exists.intro _ (And.intro (Eq.refl (α := Option D) _) ?_)
               | refine Exists.intro _ (And.intro (⟨(List.length_map _).symm⟩) ?_)
               | refine Exists.intro _ (And.intro (⟨len_one⟩) ?_)
               | refine Exists.intro _ (And.intro (⟨len_two⟩) ?_)
               | refine Exists.intro _ (And.intro (⟨len_three⟩) ?_)
               | refine Exists.intro _ (And.intro (⟨len_four⟩) ?_)
               | refine Exists.intro _ (And.intro (⟨lenl_1⟩) ?_)
               | refine Exists.intro _ (And.intro (⟨lenl_2⟩) ?_)
               | refine Exists.intro _ (And.intro (⟨lenl_3⟩) ?_)
               | refine Exists.intro _ (And.intro (⟨lenl_4⟩) ?_)
               | refine Exists.intro _ (And.intro (⟨len_more⟩) ?_)
               | refine Exists.intro _ (And.intro (⟨map_slice⟩) ?_)
               | refine Exists.intro _ (And.intro (⟨List.map_take⟩) ?_)
               | refine Exists.intro _ (And.intro (⟨List.map_drop⟩) ?_)
               | refine Exists.intro _ (And.intro (⟨map_full'⟩) ?_)
               | refine Exists.intro _ (And.intro (⟨map_full⟩) ?_)
               | refine Exists.intro _ (And.intro (⟨map_snoc⟩) ?_)
               | refine Exists.intro _ (And.intro (⟨List.map_append⟩) ?_)
               | refine Exists.intro _ (And.intro (⟨Eq.refl (α := List D) _⟩) ?_)
               | refine Exists.intro _ (And.intro (⟨Eq.refl (α := Int) _⟩) (And.intro (by omega) ?_))
               | refine Exists.intro (0) (And.intro (⟨rfl⟩) (And.intro (Nat.zero_le _) ?_))
               | refine Exists.intro _ (And.intro (⟨nc1⟩) (And.intro (by omega) ?_))
               | refine Exists.intro _ (Exists.intro _ (And.intro (⟨Eq.refl (α := Int) _⟩) (And.intro (⟨Eq.refl (α := Int) _⟩) (And.intro (by omega) (And.intro (by omega) ?_)))))
               | refine Exists.intro _ (Exists.intro _ (And.intro (⟨Eq.refl (α := Nat) _⟩) (And.intro (⟨Eq.refl (α := Nat) _⟩) ?_)))
               | refine Exists.intro _ (And.intro (⟨Eq.refl (α := Nat) _⟩) ?_)
               | refine Exists.intro _ (And.intro (u32and (by omega) (by omega)) ?_)
               | refine Exists.intro _ (And.intro (u32or (by omega) (by omega)) ?_)
               | refine Exists.intro _ (And.intro (u32xor (by omega) (by omega)) ?_)
               | refine Exists.intro _ (And.intro (u8xor (by omega) (by omega)) ?_)
               | refine Exists.intro _ (And.intro (u64and (by omega) (by omega)) ?_)
               | refine Exists.intro _ (And.intro (u64or (by omega) (by omega)) ?_)
               | refine Exists.intro _ (And.intro (u64xor (by omega) (by omega)) ?_)
               | refine Exists.intro _ (And.intro (w64 (by omega) (by omega)) ?_)
               | refine Exists.intro _ (And.intro (u32add (by omega)) ?_)
               | refine Exists.intro _ (And.intro (u64add (by omega)) ?_)
               | refine Exists.intro _ (And.intro (u8w (by omega)) ?_)
               | refine Exists.intro _ (And.intro (u32w (by omega)) ?_)
               | refine Exists.intro _ (And.intro (u64w (by omega)) ?_)
               | refine Exists.intro _ (And.intro (u8m) ?_)
               | refine Exists.intro _ (And.intro (u64i (by omega) (by omega)) ?_)
               | refine Exists.intro _ (And.intro (min_int) ?_)
               | refine Exists.intro _ (And.intro (max_int) ?_)
               | refine Exists.intro _ (And.intro (imin) ?_)
               | refine Exists.intro _ (And.intro (imax) ?_)
               | refine boolF_not ?_
               | refine boolF_dect rfl ?_
               | refine boolF_dect (by assumption) ?_
               | refine boolF_decf (by assumption) ?_
               | refine boolF_dect (by omega) ?_
               | refine boolF_decf (by omega) ?_
               | refine boolF_beqt (by omega) ?_
               | refine boolF_beqf (by omega) ?_
               | refine boolF_bnet (by omega) ?_
               | refine boolF_bnef (by omega) ?_
               | refine boolF_nbeqt (by omega) ?_
               | refine boolF_nbeqf (by omega) ?_
               | refine boolF_nbnet (by omega) ?_
               | refine boolF_nbnef (by omega) ?_
               | refine boolF_t (by assumption) ?_
               | refine boolF_f (by assumption) ?_
               | refine boolF_dec (fun _ => ?_) (fun _ => ?_)
               | refine boolF_beq (fun _ => ?_) (fun _ => ?_)
               | refine boolF_bne (fun _ => ?_) (fun _ => ?_)
               | refine boolF_nbeq (fun _ => ?_) (fun _ => ?_)
               | refine boolF_nbne (fun _ => ?_) (fun _ => ?_)
               | refine boolF_leq (fun _ => ?_) (fun _ => ?_)
               | refine Both.mk ?_ ?_)
    all_goals (conv => whnf)
    · rename_i he
      refine ⟨i + 1, Ghost.hold [0,1,12,13] rfl, ⟨by omega, ?_⟩, by omega⟩
      rw [take_snoc hx, take_snoc hy, h2, he]
    · rename_i hne
      refine ⟨bool_f (fun hh => hne ?_)⟩
      subst hh
      rw [hx] at hy
      exact Option.some.inj hy
  · repeat' (conv => whnf
             first
               | refine PairK.mk (by kernel_rfl) ?_
               | refine And.intro (by decide) ?_
               | refine And.intro rfl ?_
               | refine And.intro (List.cons_ne_nil _ _) ?_
               | refine And.intro (Nat.le_of_ble_eq_true rfl) ?_
               | refine And.intro (by omega) ?_
               | refine And.intro (by simp only [List.length_map, List.length_append, List.length_cons, List.length_nil]; omega) ?_
               | refine And.intro (by simpa only [List.length_map, List.length_append, List.length_cons, List.length_nil] using rfl) ?_
               | refine And.intro (Eq.symm (List.length_map _)) ?_
               | refine And.intro (all_map (fun _ => rfl)) ?_
               | refine And.intro (cells_map (fun _ => rfl)) ?_
               | refine And.intro (rows_map (fun _ => rfl) (fun _ => rfl)) ?_
               | refine And.intro (okRows_one rfl rfl) ?_
               | refine And.intro (okRows_all rfl) ?_
               | refine boolF_t (beq_self_eq_true _) ?_
               | refine Exists.intro _ (And.intro (map_get (by assumption)) ?_)
               | refine Exists.intro _ (And.intro (Eq.refl (α := Option D) _) ?_)
               | refine Exists.intro _ (And.intro (⟨(List.length_map _).symm⟩) ?_)
               | refine Exists.intro _ (And.intro (⟨len_one⟩) ?_)
               | refine Exists.intro _ (And.intro (⟨len_two⟩) ?_)
               | refine Exists.intro _ (And.intro (⟨len_three⟩) ?_)
               | refine Exists.intro _ (And.intro (⟨len_four⟩) ?_)
               | refine Exists.intro _ (And.intro (⟨lenl_1⟩) ?_)
               | refine Exists.intro _ (And.intro (⟨lenl_2⟩) ?_)
               | refine Exists.intro _ (And.intro (⟨lenl_3⟩) ?_)
               | refine Exists.intro _ (And.intro (⟨lenl_4⟩) ?_)
               | refine Exists.intro _ (And.intro (⟨len_more⟩) ?_)
               | refine Exists.intro _ (And.intro (⟨map_slice⟩) ?_)
               | refine Exists.intro _ (And.intro (⟨List.map_take⟩) ?_)
               | refine Exists.intro _ (And.intro (⟨List.map_drop⟩) ?_)
               | refine Exists.intro _ (And.intro (⟨map_full'⟩) ?_)
               | refine Exists.intro _ (And.intro (⟨map_full⟩) ?_)
               | refine Exists.intro _ (And.intro (⟨map_snoc⟩) ?_)
               | refine Exists.intro _ (And.intro (⟨List.map_append⟩) ?_)
               | refine Exists.intro _ (And.intro (⟨Eq.refl (α := List D) _⟩) ?_)
               | refine Exists.intro _ (And.intro (⟨Eq.refl (α := Int) _⟩) (And.intro (by omega) ?_))
               | refine Exists.intro (0) (And.intro (⟨rfl⟩) (And.intro (Nat.zero_le _) ?_))
               | refine Exists.intro _ (And.intro (⟨nc1⟩) (And.intro (by omega) ?_))
               | refine Exists.intro _ (Exists.intro _ (And.intro (⟨Eq.refl (α := Int) _⟩) (And.intro (⟨Eq.refl (α := Int) _⟩) (And.intro (by omega) (And.intro (by omega) ?_)))))
               | refine Exists.intro _ (Exists.intro _ (And.intro (⟨Eq.refl (α := Nat) _⟩) (And.intro (⟨Eq.refl (α := Nat) _⟩) ?_)))
               | refine Exists.intro _ (And.intro (⟨Eq.refl (α := Nat) _⟩) ?_)
               | refine Exists.intro _ (And.intro (u32and (by omega) (by omega)) ?_)
               | refine Exists.intro _ (And.intro (u32or (by omega) (by omega)) ?_)
               | refine Exists.intro _ (And.intro (u32xor (by omega) (by omega)) ?_)
               | refine Exists.intro _ (And.intro (u8xor (by omega) (by omega)) ?_)
               | refine Exists.intro _ (And.intro (u64and (by omega) (by omega)) ?_)
               | refine Exists.intro _ (And.intro (u64or (by omega) (by omega)) ?_)
               | refine Exists.intro _ (And.intro (u64xor (by omega) (by omega)) ?_)
               | refine Exists.intro _ (And.intro (w64 (by omega) (by omega)) ?_)
               | refine Exists.intro _ (And.intro (u32add (by omega)) ?_)
               | refine Exists.intro _ (And.intro (u64add (by omega)) ?_)
               | refine Exists.intro _ (And.intro (u8w (by omega)) ?_)
               | refine Exists.intro _ (And.intro (u32w (by omega)) ?_)
               | refine Exists.intro _ (And.intro (u64w (by omega)) ?_)
               | refine Exists.intro _ (And.intro (u8m) ?_)
               | refine Exists.intro _ (And.intro (u64i (by omega) (by omega)) ?_)
               | refine Exists.intro _ (And.intro (min_int) ?_)
               | refine Exists.intro _ (And.intro (max_int) ?_)
               | refine Exists.intro _ (And.intro (imin) ?_)
               | refine Exists.intro _ (And.intro (imax) ?_)
               | refine boolF_not ?_
               | refine boolF_dect rfl ?_
               | refine boolF_dect (by assumption) ?_
               | refine boolF_decf (by assumption) ?_
               | refine boolF_dect (by omega) ?_
               | refine boolF_decf (by omega) ?_
               | refine boolF_beqt (by omega) ?_
               | refine boolF_beqf (by omega) ?_
               | refine boolF_bnet (by omega) ?_
               | refine boolF_bnef (by omega) ?_
               | refine boolF_nbeqt (by omega) ?_
               | refine boolF_nbeqf (by omega) ?_
               | refine boolF_nbnet (by omega) ?_
               | refine boolF_nbnef (by omega) ?_
               | refine boolF_t (by assumption) ?_
               | refine boolF_f (by assumption) ?_
               | refine boolF_dec (fun _ => ?_) (fun _ => ?_)
               | refine boolF_beq (fun _ => ?_) (fun _ => ?_)
               | refine boolF_bne (fun _ => ?_) (fun _ => ?_)
               | refine boolF_nbeq (fun _ => ?_) (fun _ => ?_)
               | refine boolF_nbne (fun _ => ?_) (fun _ => ?_)
               | refine boolF_leq (fun _ => ?_) (fun _ => ?_)
               | refine Both.mk ?_ ?_)
    all_goals (conv => whnf)
    refine ⟨bool_t ?_⟩
    rw [List.take_of_length_le h, List.take_of_length_le (by omega)] at h2
    exact h2

theorem f24_ok (n : Nat) (hn : n ≤ 140737488355328) : Owned Try.prog 24 [.nils, .int .i64 (n : Int)] 1 [] := by
  refine Owned.of ⟨trivial, trivial, trivial⟩ trivial ?_
  refine CallsIn.of_exec tab_ok mixed Try.func24 rfl rfl [] [] ?_
  repeat' (conv => whnf
           first
             | refine PairK.mk (by kernel_rfl) ?_
             | refine And.intro (by decide) ?_
             | refine And.intro rfl ?_
             | refine And.intro (List.cons_ne_nil _ _) ?_
             | refine And.intro (Nat.le_of_ble_eq_true rfl) ?_
             | refine And.intro (by omega) ?_
             | refine And.intro (by simp only [List.length_map, List.length_append, List.length_cons, List.length_nil]; omega) ?_
             | refine And.intro (by simpa only [List.length_map, List.length_append, List.length_cons, List.length_nil] using rfl) ?_
             | refine And.intro (Eq.symm (List.length_map _)) ?_
             | refine And.intro (all_map (fun _ => rfl)) ?_
             | refine And.intro (cells_map (fun _ => rfl)) ?_
             | refine And.intro (rows_map (fun _ => rfl) (fun _ => rfl)) ?_
             | refine And.intro (okRows_one rfl rfl) ?_
             | refine And.intro (okRows_all rfl) ?_
             | refine boolF_t (beq_self_eq_true _) ?_
             | refine Exists.intro _ (And.intro (map_get (by assumption)) ?_)
             | refine Exists.intro _ (And.intro (Eq.refl (α := Option D) _) ?_)
             | refine Exists.intro _ (And.intro (⟨(List.length_map _).symm⟩) ?_)
             | refine Exists.intro _ (And.intro (⟨len_one⟩) ?_)
             | refine Exists.intro _ (And.intro (⟨len_two⟩) ?_)
             | refine Exists.intro _ (And.intro (⟨len_three⟩) ?_)
             | refine Exists.intro _ (And.intro (⟨len_four⟩) ?_)
             | refine Exists.intro _ (And.intro (⟨lenl_1⟩) ?_)
             | refine Exists.intro _ (And.intro (⟨lenl_2⟩) ?_)
             | refine Exists.intro _ (And.intro (⟨lenl_3⟩) ?_)
             | refine Exists.intro _ (And.intro (⟨lenl_4⟩) ?_)
             | refine Exists.intro _ (And.intro (⟨len_more⟩) ?_)
             | refine Exists.intro _ (And.intro (⟨map_slice⟩) ?_)
             | refine Exists.intro _ (And.intro (⟨List.map_take⟩) ?_)
             | refine Exists.intro _ (And.intro (⟨List.map_drop⟩) ?_)
             | refine Exists.intro _ (And.intro (⟨map_full'⟩) ?_)
             | refine Exists.intro _ (And.intro (⟨map_full⟩) ?_)
             | refine Exists.intro _ (And.intro (⟨map_snoc⟩) ?_)
             | refine Exists.intro _ (And.intro (⟨List.map_append⟩) ?_)
             | refine Exists.intro _ (And.intro (⟨Eq.refl (α := List D) _⟩) ?_)
             | refine Exists.intro _ (And.intro (⟨Eq.refl (α := Int) _⟩) (And.intro (by omega) ?_))
             | refine Exists.intro (0) (And.intro (⟨rfl⟩) (And.intro (Nat.zero_le _) ?_))
             | refine Exists.intro _ (And.intro (⟨nc1⟩) (And.intro (by omega) ?_))
             | refine Exists.intro _ (Exists.intro _ (And.intro (⟨Eq.refl (α := Int) _⟩) (And.intro (⟨Eq.refl (α := Int) _⟩) (And.intro (by omega) (And.intro (by omega) ?_)))))
             | refine Exists.intro _ (Exists.intro _ (And.intro (⟨Eq.refl (α := Nat) _⟩) (And.intro (⟨Eq.refl (α := Nat) _⟩) ?_)))
             | refine Exists.intro _ (And.intro (⟨Eq.refl (α := Nat) _⟩) ?_)
             | refine Exists.intro _ (And.intro (u32and (by omega) (by omega)) ?_)
             | refine Exists.intro _ (And.intro (u32or (by omega) (by omega)) ?_)
             | refine Exists.intro _ (And.intro (u32xor (by omega) (by omega)) ?_)
             | refine Exists.intro _ (And.intro (u8xor (by omega) (by omega)) ?_)
             | refine Exists.intro _ (And.intro (u64and (by omega) (by omega)) ?_)
             | refine Exists.intro _ (And.intro (u64or (by omega) (by omega)) ?_)
             | refine Exists.intro _ (And.intro (u64xor (by omega) (by omega)) ?_)
             | refine Exists.intro _ (And.intro (w64 (by omega) (by omega)) ?_)
             | refine Exists.intro _ (And.intro (u32add (by omega)) ?_)
             | refine Exists.intro _ (And.intro (u64add (by omega)) ?_)
             | refine Exists.intro _ (And.intro (u8w (by omega)) ?_)
             | refine Exists.intro _ (And.intro (u32w (by omega)) ?_)
             | refine Exists.intro _ (And.intro (u64w (by omega)) ?_)
             | refine Exists.intro _ (And.intro (u8m) ?_)
             | refine Exists.intro _ (And.intro (u64i (by omega) (by omega)) ?_)
             | refine Exists.intro _ (And.intro (min_int) ?_)
             | refine Exists.intro _ (And.intro (max_int) ?_)
             | refine Exists.intro _ (And.intro (imin) ?_)
             | refine Exists.intro _ (And.intro (imax) ?_)
             | refine boolF_not ?_
             | refine boolF_dect rfl ?_
             | refine boolF_dect (by assumption) ?_
             | refine boolF_decf (by assumption) ?_
             | refine boolF_dect (by omega) ?_
             | refine boolF_decf (by omega) ?_
             | refine boolF_beqt (by omega) ?_
             | refine boolF_beqf (by omega) ?_
             | refine boolF_bnet (by omega) ?_
             | refine boolF_bnef (by omega) ?_
             | refine boolF_nbeqt (by omega) ?_
             | refine boolF_nbeqf (by omega) ?_
             | refine boolF_nbnet (by omega) ?_
             | refine boolF_nbnef (by omega) ?_
             | refine boolF_t (by assumption) ?_
             | refine boolF_f (by assumption) ?_
             | refine boolF_dec (fun _ => ?_) (fun _ => ?_)
             | refine boolF_beq (fun _ => ?_) (fun _ => ?_)
             | refine boolF_bne (fun _ => ?_) (fun _ => ?_)
             | refine boolF_nbeq (fun _ => ?_) (fun _ => ?_)
             | refine boolF_nbne (fun _ => ?_) (fun _ => ?_)
             | refine boolF_leq (fun _ => ?_) (fun _ => ?_)
             | refine Both.mk ?_ ?_)
  all_goals (conv => whnf)
  · exact ⟨1, Ghost.trim (o := 0) (t := 0) rfl rfl⟩
  · exact ⟨0, Ghost.mat (t := 0) rfl⟩

theorem f22_ok (b : List Nat) (hb : okB b) : Owned Try.prog 22 [d24 b] 1 (b.map r5) := by
  have hlen : b.length ≤ 140737488355328 := hb.2
  refine Owned.of ⟨sc24 _ _, trivial⟩ (scr5 _ _) ?_
  refine CallsIn.of_exec tab_ok mixed Try.func22 rfl rfl [5] [] ?_
  cases b with
  | nil =>
    repeat' (conv => whnf
             first
               | refine PairK.mk (by kernel_rfl) ?_
               | refine And.intro (by decide) ?_
               | refine And.intro rfl ?_
               | refine And.intro (List.cons_ne_nil _ _) ?_
               | refine And.intro (Nat.le_of_ble_eq_true rfl) ?_
               | refine And.intro (by omega) ?_
               | refine And.intro (by simp only [List.length_map, List.length_append, List.length_cons, List.length_nil]; omega) ?_
               | refine And.intro (by simpa only [List.length_map, List.length_append, List.length_cons, List.length_nil] using rfl) ?_
               | refine And.intro (Eq.symm (List.length_map _)) ?_
               | refine And.intro (all_map (fun _ => rfl)) ?_
               | refine And.intro (cells_map (fun _ => rfl)) ?_
               | refine And.intro (rows_map (fun _ => rfl) (fun _ => rfl)) ?_
               | refine And.intro (okRows_one rfl rfl) ?_
               | refine And.intro (okRows_all rfl) ?_
               | refine boolF_t (beq_self_eq_true _) ?_
               | refine Exists.intro _ (And.intro (map_get (by assumption)) ?_)
               | refine Exists.intro _ (And.intro (Eq.refl (α := Option D) _) ?_)
               | refine Exists.intro _ (And.intro (⟨(List.length_map _).symm⟩) ?_)
               | refine Exists.intro _ (And.intro (⟨len_one⟩) ?_)
               | refine Exists.intro _ (And.intro (⟨len_two⟩) ?_)
               | refine Exists.intro _ (And.intro (⟨len_three⟩) ?_)
               | refine Exists.intro _ (And.intro (⟨len_four⟩) ?_)
               | refine Exists.intro _ (And.intro (⟨lenl_1⟩) ?_)
               | refine Exists.intro _ (And.intro (⟨lenl_2⟩) ?_)
               | refine Exists.intro _ (And.intro (⟨lenl_3⟩) ?_)
               | refine Exists.intro _ (And.intro (⟨lenl_4⟩) ?_)
               | refine Exists.intro _ (And.intro (⟨len_more⟩) ?_)
               | refine Exists.intro _ (And.intro (⟨map_slice⟩) ?_)
               | refine Exists.intro _ (And.intro (⟨List.map_take⟩) ?_)
               | refine Exists.intro _ (And.intro (⟨List.map_drop⟩) ?_)
               | refine Exists.intro _ (And.intro (⟨map_full'⟩) ?_)
               | refine Exists.intro _ (And.intro (⟨map_full⟩) ?_)
               | refine Exists.intro _ (And.intro (⟨map_snoc⟩) ?_)
               | refine Exists.intro _ (And.intro (⟨List.map_append⟩) ?_)
               | refine Exists.intro _ (And.intro (⟨Eq.refl (α := List D) _⟩) ?_)
               | refine Exists.intro _ (And.intro (⟨Eq.refl (α := Int) _⟩) (And.intro (by omega) ?_))
               | refine Exists.intro (0) (And.intro (⟨rfl⟩) (And.intro (Nat.zero_le _) ?_))
               | refine Exists.intro _ (And.intro (⟨nc1⟩) (And.intro (by omega) ?_))
               | refine Exists.intro _ (Exists.intro _ (And.intro (⟨Eq.refl (α := Int) _⟩) (And.intro (⟨Eq.refl (α := Int) _⟩) (And.intro (by omega) (And.intro (by omega) ?_)))))
               | refine Exists.intro _ (Exists.intro _ (And.intro (⟨Eq.refl (α := Nat) _⟩) (And.intro (⟨Eq.refl (α := Nat) _⟩) ?_)))
               | refine Exists.intro _ (And.intro (⟨Eq.refl (α := Nat) _⟩) ?_)
               | refine Exists.intro _ (And.intro (u32and (by omega) (by omega)) ?_)
               | refine Exists.intro _ (And.intro (u32or (by omega) (by omega)) ?_)
               | refine Exists.intro _ (And.intro (u32xor (by omega) (by omega)) ?_)
               | refine Exists.intro _ (And.intro (u8xor (by omega) (by omega)) ?_)
               | refine Exists.intro _ (And.intro (u64and (by omega) (by omega)) ?_)
               | refine Exists.intro _ (And.intro (u64or (by omega) (by omega)) ?_)
               | refine Exists.intro _ (And.intro (u64xor (by omega) (by omega)) ?_)
               | refine Exists.intro _ (And.intro (w64 (by omega) (by omega)) ?_)
               | refine Exists.intro _ (And.intro (u32add (by omega)) ?_)
               | refine Exists.intro _ (And.intro (u64add (by omega)) ?_)
               | refine Exists.intro _ (And.intro (u8w (by omega)) ?_)
               | refine Exists.intro _ (And.intro (u32w (by omega)) ?_)
               | refine Exists.intro _ (And.intro (u64w (by omega)) ?_)
               | refine Exists.intro _ (And.intro (u8m) ?_)
               | refine Exists.intro _ (And.intro (u64i (by omega) (by omega)) ?_)
               | refine Exists.intro _ (And.intro (min_int) ?_)
               | refine Exists.intro _ (And.intro (max_int) ?_)
               | refine Exists.intro _ (And.intro (imin) ?_)
               | refine Exists.intro _ (And.intro (imax) ?_)
               | refine boolF_not ?_
               | refine boolF_dect rfl ?_
               | refine boolF_dect (by assumption) ?_
               | refine boolF_decf (by assumption) ?_
               | refine boolF_dect (by omega) ?_
               | refine boolF_decf (by omega) ?_
               | refine boolF_beqt (by omega) ?_
               | refine boolF_beqf (by omega) ?_
               | refine boolF_bnet (by omega) ?_
               | refine boolF_bnef (by omega) ?_
               | refine boolF_nbeqt (by omega) ?_
               | refine boolF_nbeqf (by omega) ?_
               | refine boolF_nbnet (by omega) ?_
               | refine boolF_nbnef (by omega) ?_
               | refine boolF_t (by assumption) ?_
               | refine boolF_f (by assumption) ?_
               | refine boolF_dec (fun _ => ?_) (fun _ => ?_)
               | refine boolF_beq (fun _ => ?_) (fun _ => ?_)
               | refine boolF_bne (fun _ => ?_) (fun _ => ?_)
               | refine boolF_nbeq (fun _ => ?_) (fun _ => ?_)
               | refine boolF_nbne (fun _ => ?_) (fun _ => ?_)
               | refine boolF_leq (fun _ => ?_) (fun _ => ?_)
               | refine Both.mk ?_ ?_)
    all_goals (conv => whnf)
    · exact ⟨0, Ghost.mat (t := 0) rfl⟩
    · exact ⟨1, Ghost.refl _ _ _⟩
  | cons x l =>
    repeat' (conv => whnf
             first
               | refine PairK.mk (by kernel_rfl) ?_
               | refine And.intro (by decide) ?_
               | refine And.intro rfl ?_
               | refine And.intro (List.cons_ne_nil _ _) ?_
               | refine And.intro (Nat.le_of_ble_eq_true rfl) ?_
               | refine And.intro (by omega) ?_
               | refine And.intro (by simp only [List.length_map, List.length_append, List.length_cons, List.length_nil]; omega) ?_
               | refine And.intro (by simpa only [List.length_map, List.length_append, List.length_cons, List.length_nil] using rfl) ?_
               | refine And.intro (Eq.symm (List.length_map _)) ?_
               | refine And.intro (all_map (fun _ => rfl)) ?_
               | refine And.intro (cells_map (fun _ => rfl)) ?_
               | refine And.intro (rows_map (fun _ => rfl) (fun _ => rfl)) ?_
               | refine And.intro (okRows_one rfl rfl) ?_
               | refine And.intro (okRows_all rfl) ?_
               | refine boolF_t (beq_self_eq_true _) ?_
               | refine Exists.intro _ (And.intro (map_get (by assumption)) ?_)
               | refine Exists.intro _ (And.intro (Eq.refl (α := Option D) _) ?_)
               | refine Exists.intro _ (And.intro (⟨(List.length_map _).symm⟩) ?_)
               | refine Exists.intro _ (And.intro (⟨len_one⟩) ?_)
               | refine Exists.intro _ (And.intro (⟨len_two⟩) ?_)
               | refine Exists.intro _ (And.intro (⟨len_three⟩) ?_)
               | refine Exists.intro _ (And.intro (⟨len_four⟩) ?_)
               | refine Exists.intro _ (And.intro (⟨lenl_1⟩) ?_)
               | refine Exists.intro _ (And.intro (⟨lenl_2⟩) ?_)
               | refine Exists.intro _ (And.intro (⟨lenl_3⟩) ?_)
               | refine Exists.intro _ (And.intro (⟨lenl_4⟩) ?_)
               | refine Exists.intro _ (And.intro (⟨len_more⟩) ?_)
               | refine Exists.intro _ (And.intro (⟨map_slice⟩) ?_)
               | refine Exists.intro _ (And.intro (⟨List.map_take⟩) ?_)
               | refine Exists.intro _ (And.intro (⟨List.map_drop⟩) ?_)
               | refine Exists.intro _ (And.intro (⟨map_full'⟩) ?_)
               | refine Exists.intro _ (And.intro (⟨map_full⟩) ?_)
               | refine Exists.intro _ (And.intro (⟨map_snoc⟩) ?_)
               | refine Exists.intro _ (And.intro (⟨List.map_append⟩) ?_)
               | refine Exists.intro _ (And.intro (⟨Eq.refl (α := List D) _⟩) ?_)
               | refine Exists.intro _ (And.intro (⟨Eq.refl (α := Int) _⟩) (And.intro (by omega) ?_))
               | refine Exists.intro (0) (And.intro (⟨rfl⟩) (And.intro (Nat.zero_le _) ?_))
               | refine Exists.intro _ (And.intro (⟨nc1⟩) (And.intro (by omega) ?_))
               | refine Exists.intro _ (Exists.intro _ (And.intro (⟨Eq.refl (α := Int) _⟩) (And.intro (⟨Eq.refl (α := Int) _⟩) (And.intro (by omega) (And.intro (by omega) ?_)))))
               | refine Exists.intro _ (Exists.intro _ (And.intro (⟨Eq.refl (α := Nat) _⟩) (And.intro (⟨Eq.refl (α := Nat) _⟩) ?_)))
               | refine Exists.intro _ (And.intro (⟨Eq.refl (α := Nat) _⟩) ?_)
               | refine Exists.intro _ (And.intro (u32and (by omega) (by omega)) ?_)
               | refine Exists.intro _ (And.intro (u32or (by omega) (by omega)) ?_)
               | refine Exists.intro _ (And.intro (u32xor (by omega) (by omega)) ?_)
               | refine Exists.intro _ (And.intro (u8xor (by omega) (by omega)) ?_)
               | refine Exists.intro _ (And.intro (u64and (by omega) (by omega)) ?_)
               | refine Exists.intro _ (And.intro (u64or (by omega) (by omega)) ?_)
               | refine Exists.intro _ (And.intro (u64xor (by omega) (by omega)) ?_)
               | refine Exists.intro _ (And.intro (w64 (by omega) (by omega)) ?_)
               | refine Exists.intro _ (And.intro (u32add (by omega)) ?_)
               | refine Exists.intro _ (And.intro (u64add (by omega)) ?_)
               | refine Exists.intro _ (And.intro (u8w (by omega)) ?_)
               | refine Exists.intro _ (And.intro (u32w (by omega)) ?_)
               | refine Exists.intro _ (And.intro (u64w (by omega)) ?_)
               | refine Exists.intro _ (And.intro (u8m) ?_)
               | refine Exists.intro _ (And.intro (u64i (by omega) (by omega)) ?_)
               | refine Exists.intro _ (And.intro (min_int) ?_)
               | refine Exists.intro _ (And.intro (max_int) ?_)
               | refine Exists.intro _ (And.intro (imin) ?_)
               | refine Exists.intro _ (And.intro (imax) ?_)
               | refine boolF_not ?_
               | refine boolF_dect rfl ?_
               | refine boolF_dect (by assumption) ?_
               | refine boolF_decf (by assumption) ?_
               | refine boolF_dect (by omega) ?_
               | refine boolF_decf (by omega) ?_
               | refine boolF_beqt (by omega) ?_
               | refine boolF_beqf (by omega) ?_
               | refine boolF_bnet (by omega) ?_
               | refine boolF_bnef (by omega) ?_
               | refine boolF_nbeqt (by omega) ?_
               | refine boolF_nbeqf (by omega) ?_
               | refine boolF_nbnet (by omega) ?_
               | refine boolF_nbnef (by omega) ?_
               | refine boolF_t (by assumption) ?_
               | refine boolF_f (by assumption) ?_
               | refine boolF_dec (fun _ => ?_) (fun _ => ?_)
               | refine boolF_beq (fun _ => ?_) (fun _ => ?_)
               | refine boolF_bne (fun _ => ?_) (fun _ => ?_)
               | refine boolF_nbeq (fun _ => ?_) (fun _ => ?_)
               | refine boolF_nbne (fun _ => ?_) (fun _ => ?_)
               | refine boolF_leq (fun _ => ?_) (fun _ => ?_)
               | refine Both.mk ?_ ?_)
    all_goals (conv => whnf)
    refine ⟨1, Ghost.hold [0] ?_⟩
    rw [Nat.zero_add (x :: l).length, List.length_map]
    rfl

theorem f23_ok (ps : List (List Nat)) (hp : okBs ps) (hl : ps.flatten.length ≤ 140737488355328) : Owned Try.prog 23 [d22 ps] 1 (ps.flatten.map r5) := by
  have hlen : ps.length ≤ 140737488351232 := by have := hp.2; simp [td24] at this; omega
  have hpre : ∀ i, ((ps.take i).flatten).length ≤ ps.flatten.length := fun i => by
    have : ps.flatten = (ps.take i).flatten ++ (ps.drop i).flatten := by rw [← List.flatten_append, List.take_append_drop]
    rw [this, List.length_append]; omega
  have hstep : ∀ i x, ps[i]? = some x → (ps.take (i + 1)).flatten = (ps.take i).flatten ++ x := fun i x h => by
    rw [take_snoc h, List.flatten_append]; simp
  refine Owned.of ⟨sc22 _ _, trivial⟩ (scr5 _ _) ?_
  refine CallsIn.of_exec tab_ok mixed Try.func23 rfl rfl [] [] ?_
  repeat' (conv => whnf
           first
             | refine PairK.mk (by kernel_rfl) ?_
             | refine And.intro (by decide) ?_
             | refine And.intro rfl ?_
             | refine And.intro (List.cons_ne_nil _ _) ?_
             | refine And.intro (Nat.le_of_ble_eq_true rfl) ?_
             | refine And.intro (by omega) ?_
             | refine And.intro (by simp only [List.length_map, List.length_append, List.length_cons, List.length_nil]; omega) ?_
             | refine And.intro (by simpa only [List.length_map, List.length_append, List.length_cons, List.length_nil] using rfl) ?_
             | refine And.intro (Eq.symm (List.length_map _)) ?_
             | refine And.intro (all_map (fun _ => rfl)) ?_
             | refine And.intro (cells_map (fun _ => rfl)) ?_
             | refine And.intro (rows_map (fun _ => rfl) (fun _ => rfl)) ?_
             | refine And.intro (okRows_one rfl rfl) ?_
             | refine And.intro (okRows_all rfl) ?_
             | refine boolF_t (beq_self_eq_true _) ?_
             | refine Exists.intro _ (And.intro (map_get (by assumption)) ?_)
             | refine Exists.intro _ (And.intro (Eq.refl (α := Option D) _) ?_)
             | refine Exists.intro _ (And.intro (⟨(List.length_map _).symm⟩) ?_)
             | refine Exists.intro _ (And.intro (⟨len_one⟩) ?_)
             | refine Exists.intro _ (And.intro (⟨len_two⟩) ?_)
             | refine Exists.intro _ (And.intro (⟨len_three⟩) ?_)
             | refine Exists.intro _ (And.intro (⟨len_four⟩) ?_)
             | refine Exists.intro _ (And.intro (⟨lenl_1⟩) ?_)
             | refine Exists.intro _ (And.intro (⟨lenl_2⟩) ?_)
             | refine Exists.intro _ (And.intro (⟨lenl_3⟩) ?_)
             | refine Exists.intro _ (And.intro (⟨lenl_4⟩) ?_)
             | refine Exists.intro _ (And.intro (⟨len_more⟩) ?_)
             | refine Exists.intro _ (And.intro (⟨map_slice⟩) ?_)
             | refine Exists.intro _ (And.intro (⟨List.map_take⟩) ?_)
             | refine Exists.intro _ (And.intro (⟨List.map_drop⟩) ?_)
             | refine Exists.intro _ (And.intro (⟨map_full'⟩) ?_)
             | refine Exists.intro _ (And.intro (⟨map_full⟩) ?_)
             | refine Exists.intro _ (And.intro (⟨map_snoc⟩) ?_)
             | refine Exists.intro _ (And.intro (⟨List.map_append⟩) ?_)
             | refine Exists.intro _ (And.intro (⟨Eq.refl (α := List D) _⟩) ?_)
             | refine Exists.intro _ (And.intro (⟨Eq.refl (α := Int) _⟩) (And.intro (by omega) ?_))
             | refine Exists.intro (0) (And.intro (⟨rfl⟩) (And.intro (Nat.zero_le _) ?_))
             | refine Exists.intro _ (And.intro (⟨nc1⟩) (And.intro (by omega) ?_))
             | refine Exists.intro _ (Exists.intro _ (And.intro (⟨Eq.refl (α := Int) _⟩) (And.intro (⟨Eq.refl (α := Int) _⟩) (And.intro (by omega) (And.intro (by omega) ?_)))))
             | refine Exists.intro _ (Exists.intro _ (And.intro (⟨Eq.refl (α := Nat) _⟩) (And.intro (⟨Eq.refl (α := Nat) _⟩) ?_)))
             | refine Exists.intro _ (And.intro (⟨Eq.refl (α := Nat) _⟩) ?_)
             | refine Exists.intro _ (And.intro (u32and (by omega) (by omega)) ?_)
             | refine Exists.intro _ (And.intro (u32or (by omega) (by omega)) ?_)
             | refine Exists.intro _ (And.intro (u32xor (by omega) (by omega)) ?_)
             | refine Exists.intro _ (And.intro (u8xor (by omega) (by omega)) ?_)
             | refine Exists.intro _ (And.intro (u64and (by omega) (by omega)) ?_)
             | refine Exists.intro _ (And.intro (u64or (by omega) (by omega)) ?_)
             | refine Exists.intro _ (And.intro (u64xor (by omega) (by omega)) ?_)
             | refine Exists.intro _ (And.intro (w64 (by omega) (by omega)) ?_)
             | refine Exists.intro _ (And.intro (u32add (by omega)) ?_)
             | refine Exists.intro _ (And.intro (u64add (by omega)) ?_)
             | refine Exists.intro _ (And.intro (u8w (by omega)) ?_)
             | refine Exists.intro _ (And.intro (u32w (by omega)) ?_)
             | refine Exists.intro _ (And.intro (u64w (by omega)) ?_)
             | refine Exists.intro _ (And.intro (u8m) ?_)
             | refine Exists.intro _ (And.intro (u64i (by omega) (by omega)) ?_)
             | refine Exists.intro _ (And.intro (min_int) ?_)
             | refine Exists.intro _ (And.intro (max_int) ?_)
             | refine Exists.intro _ (And.intro (imin) ?_)
             | refine Exists.intro _ (And.intro (imax) ?_)
             | refine boolF_not ?_
             | refine boolF_dect rfl ?_
             | refine boolF_dect (by assumption) ?_
             | refine boolF_decf (by assumption) ?_
             | refine boolF_dect (by omega) ?_
             | refine boolF_decf (by omega) ?_
             | refine boolF_beqt (by omega) ?_
             | refine boolF_beqf (by omega) ?_
             | refine boolF_bnet (by omega) ?_
             | refine boolF_bnef (by omega) ?_
             | refine boolF_nbeqt (by omega) ?_
             | refine boolF_nbeqf (by omega) ?_
             | refine boolF_nbnet (by omega) ?_
             | refine boolF_nbnef (by omega) ?_
             | refine boolF_t (by assumption) ?_
             | refine boolF_f (by assumption) ?_
             | refine boolF_dec (fun _ => ?_) (fun _ => ?_)
             | refine boolF_beq (fun _ => ?_) (fun _ => ?_)
             | refine boolF_bne (fun _ => ?_) (fun _ => ?_)
             | refine boolF_nbeq (fun _ => ?_) (fun _ => ?_)
             | refine boolF_nbne (fun _ => ?_) (fun _ => ?_)
             | refine boolF_leq (fun _ => ?_) (fun _ => ?_)
             | refine Both.mk ?_ ?_)
  all_goals (conv => whnf)
  refine W_loopG (ι := Nat) (fun i => ⟨(d22 ps :: D.undef :: D.undef :: .int .i64 ((ps.take i).flatten.length : Int) :: D.undef :: D.undef :: D.undef :: D.undef :: D.undef :: d22 ps :: .int .i64 (ps.length:Int) :: .int .i64 (i:Int) :: D.undef :: D.undef :: D.undef :: D.undef :: D.undef :: D.undef :: D.undef :: D.undef :: D.undef :: D.undef :: D.undef :: D.undef :: D.undef :: D.undef :: D.undef :: D.undef :: D.undef :: D.undef :: D.undef :: D.undef :: D.undef :: D.undef :: D.undef :: D.undef :: []), []⟩) (fun i => ps.length - i)
    (fun i => i ≤ ps.length) 0 (Ghost.hold [0,3,9,10,11] rfl) (Nat.zero_le _) ?_
  intro i h1
  refine exec_ok tab_ok mixed 1000 (bx := [true]) (own := []) ?_
  rcases Nat.lt_or_ge i ps.length with h | h
  · obtain ⟨x, hx⟩ := at_lt h
    have e1 := hstep i x hx
    have e2 := hpre (i + 1)
    rw [e1, List.length_append] at e2
    repeat' (conv => whnf
             first
               | refine PairK.mk (by kernel_rfl) ?_
               | refine And.intro (by decide) ?_
               | refine And.intro rfl ?_
               | refine And.intro (List.cons_ne_nil _ _) ?_
               | refine And.intro (Nat.le_of_ble_eq_true rfl) ?_
               | refine And.intro (by omega) ?_
               | refine And.intro (by simp only [List.length_map, List.length_append, List.length_cons, List.length_nil]; omega) ?_
               | refine And.intro (by simpa only [List.length_map, List.length_append, List.length_cons, List.length_nil] using rfl) ?_
               | refine And.intro (Eq.symm (List.length_map _)) ?_
               | refine And.intro (all_map (fun _ => rfl)) ?_
               | refine And.intro (cells_map (fun _ => rfl)) ?_
               | refine And.intro (rows_map (fun _ => rfl) (fun _ => rfl)) ?_
               | refine And.intro (okRows_one rfl rfl) ?_
               | refine And.intro (okRows_all rfl) ?_
               | refine boolF_t (beq_self_eq_true _) ?_
               | refine Exists.intro _ (And.intro (map_get (by assumption)) ?_)
               | refine Exists.intro _ (And.intro (Eq.refl (α := Option D) _) ?_)
               | refine Exists.intro _ (And.intro (⟨(List.length_map _).symm⟩) ?_)
               | refine Exists.intro _ (And.intro (⟨len_one⟩) ?_)
               | refine Exists.intro _ (And.intro (⟨len_two⟩) ?_)
               | refine Exists.intro _ (And.intro (⟨len_three⟩) ?_)
               | refine Exists.intro _ (And.intro (⟨len_four⟩) ?_)
               | refine Exists.intro _ (And.intro (⟨lenl_1⟩) ?_)
               | refine Exists.intro _ (And.intro (⟨lenl_2⟩) ?_)
               | refine Exists.intro _ (And.intro (⟨lenl_3⟩) ?_)
               | refine Exists.intro _ (And.intro (⟨lenl_4⟩) ?_)
               | refine Exists.intro _ (And.intro (⟨len_more⟩) ?_)
               | refine Exists.intro _ (And.intro (⟨map_slice⟩) ?_)
               | refine Exists.intro _ (And.intro (⟨List.map_take⟩) ?_)
               | refine Exists.intro _ (And.intro (⟨List.map_drop⟩) ?_)
               | refine Exists.intro _ (And.intro (⟨map_full'⟩) ?_)
               | refine Exists.intro _ (And.intro (⟨map_full⟩) ?_)
               | refine Exists.intro _ (And.intro (⟨map_snoc⟩) ?_)
               | refine Exists.intro _ (And.intro (⟨List.map_append⟩) ?_)
               | refine Exists.intro _ (And.intro (⟨Eq.refl (α := List D) _⟩) ?_)
               | refine Exists.intro _ (And.intro (⟨Eq.refl (α := Int) _⟩) (And.intro (by omega) ?_))
               | refine Exists.intro (0) (And.intro (⟨rfl⟩) (And.intro (Nat.zero_le _) ?_))
               | refine Exists.intro _ (And.intro (⟨nc1⟩) (And.intro (by omega) ?_))
               | refine Exists.intro _ (Exists.intro _ (And.intro (⟨Eq.refl (α := Int) _⟩) (And.intro (⟨Eq.refl (α := Int) _⟩) (And.intro (by omega) (And.intro (by omega) ?_)))))
               | refine Exists.intro _ (Exists.intro _ (And.intro (⟨Eq.refl (α := Nat) _⟩) (And.intro (⟨Eq.refl (α := Nat) _⟩) ?_)))
               | refine Exists.intro _ (And.intro (⟨Eq.refl (α := Nat) _⟩) ?_)
               | refine Exists.intro _ (And.intro (u32and (by omega) (by omega)) ?_)
               | refine Exists.intro _ (And.intro (u32or (by omega) (by omega)) ?_)
               | refine Exists.intro _ (And.intro (u32xor (by omega) (by omega)) ?_)
               | refine Exists.intro _ (And.intro (u8xor (by omega) (by omega)) ?_)
               | refine Exists.intro _ (And.intro (u64and (by omega) (by omega)) ?_)
               | refine Exists.intro _ (And.intro (u64or (by omega) (by omega)) ?_)
               | refine Exists.intro _ (And.intro (u64xor (by omega) (by omega)) ?_)
               | refine Exists.intro _ (And.intro (w64 (by omega) (by omega)) ?_)
               | refine Exists.intro _ (And.intro (u32add (by omega)) ?_)
               | refine Exists.intro _ (And.intro (u64add (by omega)) ?_)
               | refine Exists.intro _ (And.intro (u8w (by omega)) ?_)
               | refine Exists.intro _ (And.intro (u32w (by omega)) ?_)
               | refine Exists.intro _ (And.intro (u64w (by omega)) ?_)
               | refine Exists.intro _ (And.intro (u8m) ?_)
               | refine Exists.intro _ (And.intro (u64i (by omega) (by omega)) ?_)
               | refine Exists.intro _ (And.intro (min_int) ?_)
               | refine Exists.intro _ (And.intro (max_int) ?_)
               | refine Exists.intro _ (And.intro (imin) ?_)
               | refine Exists.intro _ (And.intro (imax) ?_)
               | refine boolF_not ?_
               | refine boolF_dect rfl ?_
               | refine boolF_dect (by assumption) ?_
               | refine boolF_decf (by assumption) ?_
               | refine boolF_dect (by omega) ?_
               | refine boolF_decf (by omega) ?_
               | refine boolF_beqt (by omega) ?_
               | refine boolF_beqf (by omega) ?_
               | refine boolF_bnet (by omega) ?_
               | refine boolF_bnef (by omega) ?_
               | refine boolF_nbeqt (by omega) ?_
               | refine boolF_nbeqf (by omega) ?_
               | refine boolF_nbnet (by omega) ?_
               | refine boolF_nbnef (by omega) ?_
               | refine boolF_t (by assumption) ?_
               | refine boolF_f (by assumption) ?_
               | refine boolF_dec (fun _ => ?_) (fun _ => ?_)
               | refine boolF_beq (fun _ => ?_) (fun _ => ?_)
               | refine boolF_bne (fun _ => ?_) (fun _ => ?_)
               | refine boolF_nbeq (fun _ => ?_) (fun _ => ?_)
               | refine boolF_nbne (fun _ => ?_) (fun _ => ?_)
               | refine boolF_leq (fun _ => ?_) (fun _ => ?_)
               | refine Both.mk ?_ ?_)
    all_goals (conv => whnf)
    refine ⟨i + 1, Ghost.hold [0,3,9,10,11] ?_, by omega, by omega⟩
    rw [e1, List.length_append]
    rfl
  rw [List.take_of_length_le h]
  repeat' (conv => whnf
           first
             | refine PairK.mk (by kernel_rfl) ?_
             | refine And.intro (by decide) ?_
             | refine And.intro rfl ?_
             | refine And.intro (List.cons_ne_nil _ _) ?_
             | refine And.intro (Nat.le_of_ble_eq_true rfl) ?_
             | refine And.intro (by omega) ?_
             | refine And.intro (by simp only [List.length_map, List.length_append, List.length_cons, List.length_nil]; omega) ?_
             | refine And.intro (by simpa only [List.length_map, List.length_append, List.length_cons, List.length_nil] using rfl) ?_
             | refine And.intro (Eq.symm (List.length_map _)) ?_
             | refine And.intro (all_map (fun _ => rfl)) ?_
             | refine And.intro (cells_map (fun _ => rfl)) ?_
             | refine And.intro (rows_map (fun _ => rfl) (fun _ => rfl)) ?_
             | refine And.intro (okRows_one rfl rfl) ?_
             | refine And.intro (okRows_all rfl) ?_
             | refine boolF_t (beq_self_eq_true _) ?_
             | refine Exists.intro _ (And.intro (map_get (by assumption)) ?_)
             | refine Exists.intro _ (And.intro (Eq.refl (α := Option D) _) ?_)
             | refine Exists.intro _ (And.intro (⟨(List.length_map _).symm⟩) ?_)
             | refine Exists.intro _ (And.intro (⟨len_one⟩) ?_)
             | refine Exists.intro _ (And.intro (⟨len_two⟩) ?_)
             | refine Exists.intro _ (And.intro (⟨len_three⟩) ?_)
             | refine Exists.intro _ (And.intro (⟨len_four⟩) ?_)
             | refine Exists.intro _ (And.intro (⟨lenl_1⟩) ?_)
             | refine Exists.intro _ (And.intro (⟨lenl_2⟩) ?_)
             | refine Exists.intro _ (And.intro (⟨lenl_3⟩) ?_)
             | refine Exists.intro _ (And.intro (⟨lenl_4⟩) ?_)
             | refine Exists.intro _ (And.intro (⟨len_more⟩) ?_)
             | refine Exists.intro _ (And.intro (⟨map_slice⟩) ?_)
             | refine Exists.intro _ (And.intro (⟨List.map_take⟩) ?_)
             | refine Exists.intro _ (And.intro (⟨List.map_drop⟩) ?_)
             | refine Exists.intro _ (And.intro (⟨map_full'⟩) ?_)
             | refine Exists.intro _ (And.intro (⟨map_full⟩) ?_)
             | refine Exists.intro _ (And.intro (⟨map_snoc⟩) ?_)
             | refine Exists.intro _ (And.intro (⟨List.map_append⟩) ?_)
             | refine Exists.intro _ (And.intro (⟨Eq.refl (α := List D) _⟩) ?_)
             | refine Exists.intro _ (And.intro (⟨Eq.refl (α := Int) _⟩) (And.intro (by omega) ?_))
             | refine Exists.intro (0) (And.intro (⟨rfl⟩) (And.intro (Nat.zero_le _) ?_))
             | refine Exists.intro _ (And.intro (⟨nc1⟩) (And.intro (by omega) ?_))
             | refine Exists.intro _ (Exists.intro _ (And.intro (⟨Eq.refl (α := Int) _⟩) (And.intro (⟨Eq.refl (α := Int) _⟩) (And.intro (by omega) (And.intro (by omega) ?_)))))
             | refine Exists.intro _ (Exists.intro _ (And.intro (⟨Eq.refl (α := Nat) _⟩) (And.intro (⟨Eq.refl (α := Nat) _⟩) ?_)))
             | refine Exists.intro _ (And.intro (⟨Eq.refl (α := Nat) _⟩) ?_)
             | refine Exists.intro _ (And.intro (u32and (by omega) (by omega)) ?_)
             | refine Exists.intro _ (And.intro (u32or (by omega) (by omega)) ?_)
             | refine Exists.intro _ (And.intro (u32xor (by omega) (by omega)) ?_)
             | refine Exists.intro _ (And.intro (u8xor (by omega) (by omega)) ?_)
             | refine Exists.intro _ (And.intro (u64and (by omega) (by omega)) ?_)
             | refine Exists.intro _ (And.intro (u64or (by omega) (by omega)) ?_)
             | refine Exists.intro _ (And.intro (u64xor (by omega) (by omega)) ?_)
             | refine Exists.intro _ (And.intro (w64 (by omega) (by omega)) ?_)
             | refine Exists.intro _ (And.intro (u32add (by omega)) ?_)
             | refine Exists.intro _ (And.intro (u64add (by omega)) ?_)
             | refine Exists.intro _ (And.intro (u8w (by omega)) ?_)
             | refine Exists.intro _ (And.intro (u32w (by omega)) ?_)
             | refine Exists.intro _ (And.intro (u64w (by omega)) ?_)
             | refine Exists.intro _ (And.intro (u8m) ?_)
             | refine Exists.intro _ (And.intro (u64i (by omega) (by omega)) ?_)
             | refine Exists.intro _ (And.intro (min_int) ?_)
             | refine Exists.intro _ (And.intro (max_int) ?_)
             | refine Exists.intro _ (And.intro (imin) ?_)
             | refine Exists.intro _ (And.intro (imax) ?_)
             | refine boolF_not ?_
             | refine boolF_dect rfl ?_
             | refine boolF_dect (by assumption) ?_
             | refine boolF_decf (by assumption) ?_
             | refine boolF_dect (by omega) ?_
             | refine boolF_decf (by omega) ?_
             | refine boolF_beqt (by omega) ?_
             | refine boolF_beqf (by omega) ?_
             | refine boolF_bnet (by omega) ?_
             | refine boolF_bnef (by omega) ?_
             | refine boolF_nbeqt (by omega) ?_
             | refine boolF_nbeqf (by omega) ?_
             | refine boolF_nbnet (by omega) ?_
             | refine boolF_nbnef (by omega) ?_
             | refine boolF_t (by assumption) ?_
             | refine boolF_f (by assumption) ?_
             | refine boolF_dec (fun _ => ?_) (fun _ => ?_)
             | refine boolF_beq (fun _ => ?_) (fun _ => ?_)
             | refine boolF_bne (fun _ => ?_) (fun _ => ?_)
             | refine boolF_nbeq (fun _ => ?_) (fun _ => ?_)
             | refine boolF_nbne (fun _ => ?_) (fun _ => ?_)
             | refine boolF_leq (fun _ => ?_) (fun _ => ?_)
             | refine Both.mk ?_ ?_)
  all_goals (conv => whnf)
  refine Owned.call (f24_ok _ hl) (fun ver => ?_)
  repeat' (conv => whnf
           first
             | refine PairK.mk (by kernel_rfl) ?_
             | refine And.intro (by decide) ?_
             | refine And.intro rfl ?_
             | refine And.intro (List.cons_ne_nil _ _) ?_
             | refine And.intro (Nat.le_of_ble_eq_true rfl) ?_
             | refine And.intro (by omega) ?_
             | refine And.intro (by simp only [List.length_map, List.length_append, List.length_cons, List.length_nil]; omega) ?_
             | refine And.intro (by simpa only [List.length_map, List.length_append, List.length_cons, List.length_nil] using rfl) ?_
             | refine And.intro (Eq.symm (List.length_map _)) ?_
             | refine And.intro (all_map (fun _ => rfl)) ?_
             | refine And.intro (cells_map (fun _ => rfl)) ?_
             | refine And.intro (rows_map (fun _ => rfl) (fun _ => rfl)) ?_
             | refine And.intro (okRows_one rfl rfl) ?_
             | refine And.intro (okRows_all rfl) ?_
             | refine boolF_t (beq_self_eq_true _) ?_
             | refine Exists.intro _ (And.intro (map_get (by assumption)) ?_)
             | refine Exists.intro _ (And.intro (Eq.refl (α := Option D) _) ?_)
             | refine Exists.intro _ (And.intro (⟨(List.length_map _).symm⟩) ?_)
             | refine Exists.intro _ (And.intro (⟨len_one⟩) ?_)
             | refine Exists.intro _ (And.intro (⟨len_two⟩) ?_)
             | refine Exists.intro _ (And.intro (⟨len_three⟩) ?_)
             | refine Exists.intro _ (And.intro (⟨len_four⟩) ?_)
             | refine Exists.intro _ (And.intro (⟨lenl_1⟩) ?_)
             | refine Exists.intro _ (And.intro (⟨lenl_2⟩) ?_)
             | refine Exists.intro _ (And.intro (⟨lenl_3⟩) ?_)
             | refine Exists.intro _ (And.intro (⟨lenl_4⟩) ?_)
             | refine Exists.intro _ (And.intro (⟨len_more⟩) ?_)
             | refine Exists.intro _ (And.intro (⟨map_slice⟩) ?_)
             | refine Exists.intro _ (And.intro (⟨List.map_take⟩) ?_)
             | refine Exists.intro _ (And.intro (⟨List.map_drop⟩) ?_)
             | refine Exists.intro _ (And.intro (⟨map_full'⟩) ?_)
             | refine Exists.intro _ (And.intro (⟨map_full⟩) ?_)
             | refine Exists.intro _ (And.intro (⟨map_snoc⟩) ?_)
             | refine Exists.intro _ (And.intro (⟨List.map_append⟩) ?_)
             | refine Exists.intro _ (And.intro (⟨Eq.refl (α := List D) _⟩) ?_)
             | refine Exists.intro _ (And.intro (⟨Eq.refl (α := Int) _⟩) (And.intro (by omega) ?_))
             | refine Exists.intro (0) (And.intro (⟨rfl⟩) (And.intro (Nat.zero_le _) ?_))
             | refine Exists.intro _ (And.intro (⟨nc1⟩) (And.intro (by omega) ?_))
             | refine Exists.intro _ (Exists.intro _ (And.intro (⟨Eq.refl (α := Int) _⟩) (And.intro (⟨Eq.refl (α := Int) _⟩) (And.intro (by omega) (And.intro (by omega) ?_)))))
             | refine Exists.intro _ (Exists.intro _ (And.intro (⟨Eq.refl (α := Nat) _⟩) (And.intro (⟨Eq.refl (α := Nat) _⟩) ?_)))
             | refine Exists.intro _ (And.intro (⟨Eq.refl (α := Nat) _⟩) ?_)
             | refine Exists.intro _ (And.intro (u32and (by omega) (by omega)) ?_)
             | refine Exists.intro _ (And.intro (u32or (by omega) (by omega)) ?_)
             | refine Exists.intro _ (And.intro (u32xor (by omega) (by omega)) ?_)
             | refine Exists.intro _ (And.intro (u8xor (by omega) (by omega)) ?_)
             | refine Exists.intro _ (And.intro (u64and (by omega) (by omega)) ?_)
             | refine Exists.intro _ (And.intro (u64or (by omega) (by omega)) ?_)
             | refine Exists.intro _ (And.intro (u64xor (by omega) (by omega)) ?_)
             | refine Exists.intro _ (And.intro (w64 (by omega) (by omega)) ?_)
             | refine Exists.intro _ (And.intro (u32add (by omega)) ?_)
             | refine Exists.intro _ (And.intro (u64add (by omega)) ?_)
             | refine Exists.intro _ (And.intro (u8w (by omega)) ?_)
             | refine Exists.intro _ (And.intro (u32w (by omega)) ?_)
             | refine Exists.intro _ (And.intro (u64w (by omega)) ?_)
             | refine Exists.intro _ (And.intro (u8m) ?_)
             | refine Exists.intro _ (And.intro (u64i (by omega) (by omega)) ?_)
             | refine Exists.intro _ (And.intro (min_int) ?_)
             | refine Exists.intro _ (And.intro (max_int) ?_)
             | refine Exists.intro _ (And.intro (imin) ?_)
             | refine Exists.intro _ (And.intro (imax) ?_)
             | refine boolF_not ?_
             | refine boolF_dect rfl ?_
             | refine boolF_dect (by assumption) ?_
             | refine boolF_decf (by assumption) ?_
             | refine boolF_dect (by omega) ?_
             | refine boolF_decf (by omega) ?_
             | refine boolF_beqt (by omega) ?_
             | refine boolF_beqf (by omega) ?_
             | refine boolF_bnet (by omega) ?_
             | refine boolF_bnef (by omega) ?_
             | refine boolF_nbeqt (by omega) ?_
             | refine boolF_nbeqf (by omega) ?_
             | refine boolF_nbnet (by omega) ?_
             | refine boolF_nbnef (by omega) ?_
             | refine boolF_t (by assumption) ?_
             | refine boolF_f (by assumption) ?_
             | refine boolF_dec (fun _ => ?_) (fun _ => ?_)
             | refine boolF_beq (fun _ => ?_) (fun _ => ?_)
             | refine boolF_bne (fun _ => ?_) (fun _ => ?_)
             | refine boolF_nbeq (fun _ => ?_) (fun _ => ?_)
             | refine boolF_nbne (fun _ => ?_) (fun _ => ?_)
             | refine boolF_leq (fun _ => ?_) (fun _ => ?_)
             | refine Both.mk ?_ ?_)
  all_goals (conv => whnf)
  refine W_loopG (ι := Nat) (fun i => ⟨(D.undef :: D.undef :: D.undef :: D.undef :: D.undef :: D.undef :: .h 0 (ver + i) 0 (ps.take i).flatten.length :: D.undef :: D.undef :: D.undef :: D.undef :: D.undef :: D.undef :: D.undef :: D.undef :: D.undef :: D.undef :: D.undef :: D.undef :: D.undef :: D.undef :: D.undef :: D.undef :: D.undef :: D.undef :: d22 ps :: .int .i64 (ps.length:Int) :: .int .i64 (i:Int) :: D.undef :: D.undef :: D.undef :: D.undef :: D.undef :: D.undef :: D.undef :: D.undef :: []), [.arr (ver + i) 1 ((ps.take i).flatten.map r5)]⟩) (fun i => ps.length - i)
    (fun i => i ≤ ps.length) 0 (Ghost.hold [6,25,26,27] rfl) (Nat.zero_le _) ?_
  clear h h1 i
  intro i h1
  refine exec_ok tab_ok mixed 1000 (bx := [false]) (own := []) ?_
  rcases Nat.lt_or_ge i ps.length with h | h
  · obtain ⟨x, hx⟩ := at_lt h
    have e1 := hstep i x hx
    have e2 := hpre (i + 1)
    rw [e1, List.length_append] at e2
    repeat' (conv => whnf
             first
               | refine PairK.mk (by kernel_rfl) ?_
               | refine And.intro (by decide) ?_
               | refine And.intro rfl ?_
               | refine And.intro (List.cons_ne_nil _ _) ?_
               | refine And.intro (Nat.le_of_ble_eq_true rfl) ?_
               | refine And.intro (by omega) ?_
               | refine And.intro (by simp only [List.length_map, List.length_append, List.length_cons, List.length_nil]; omega) ?_
               | refine And.intro (by simpa only [List.length_map, List.length_append, List.length_cons, List.length_nil] using rfl) ?_
               | refine And.intro (Eq.symm (List.length_map _)) ?_
               | refine And.intro (all_map (fun _ => rfl)) ?_
               | refine And.intro (cells_map (fun _ => rfl)) ?_
               | refine And.intro (rows_map (fun _ => rfl) (fun _ => rfl)) ?_
               | refine And.intro (okRows_one rfl rfl) ?_
               | refine And.intro (okRows_all rfl) ?_
               | refine boolF_t (beq_self_eq_true _) ?_
               | refine Exists.intro _ (And.intro (map_get (by assumption)) ?_)
               | refine Exists.intro _ (And.intro (Eq.refl (α := Option D) _) ?_)
               | refine Exists.intro _ (And.intro (⟨(List.length_map _).symm⟩) ?_)
               | refine Exists.intro _ (And.intro (⟨len_one⟩) ?_)
               | refine Exists.intro _ (And.intro (⟨len_two⟩) ?_)
               | refine Exists.intro _ (And.intro (⟨len_three⟩) ?_)
               | refine Exists.intro _ (And.intro (⟨len_four⟩) ?_)
               | refine Exists.intro _ (And.intro (⟨lenl_1⟩) ?_)
               | refine Exists.intro _ (And.intro (⟨lenl_2⟩) ?_)
               | refine Exists.intro _ (And.intro (⟨lenl_3⟩) ?_)
               | refine Exists.intro _ (And.intro (⟨lenl_4⟩) ?_)
               | refine Exists.intro _ (And.intro (⟨len_more⟩) ?_)
               | refine Exists.intro _ (And.intro (⟨map_slice⟩) ?_)
               | refine Exists.intro _ (And.intro (⟨List.map_take⟩) ?_)
               | refine Exists.intro _ (And.intro (⟨List.map_drop⟩) ?_)
               | refine Exists.intro _ (And.intro (⟨map_full'⟩) ?_)
               | refine Exists.intro _ (And.intro (⟨map_full⟩) ?_)
               | refine Exists.intro _ (And.intro (⟨map_snoc⟩) ?_)
               | refine Exists.intro _ (And.intro (⟨List.map_append⟩) ?_)
               | refine Exists.intro _ (And.intro (⟨Eq.refl (α := List D) _⟩) ?_)
               | refine Exists.intro _ (And.intro (⟨Eq.refl (α := Int) _⟩) (And.intro (by omega) ?_))
               | refine Exists.intro (0) (And.intro (⟨rfl⟩) (And.intro (Nat.zero_le _) ?_))
               | refine Exists.intro _ (And.intro (⟨nc1⟩) (And.intro (by omega) ?_))
               | refine Exists.intro _ (Exists.intro _ (And.intro (⟨Eq.refl (α := Int) _⟩) (And.intro (⟨Eq.refl (α := Int) _⟩) (And.intro (by omega) (And.intro (by omega) ?_)))))
               | refine Exists.intro _ (Exists.intro _ (And.intro (⟨Eq.refl (α := Nat) _⟩) (And.intro (⟨Eq.refl (α := Nat) _⟩) ?_)))
               | refine Exists.intro _ (And.intro (⟨Eq.refl (α := Nat) _⟩) ?_)
               | refine Exists.intro _ (And.intro (u32and (by omega) (by omega)) ?_)
               | refine Exists.intro _ (And.intro (u32or (by omega) (by omega)) ?_)
               | refine Exists.intro _ (And.intro (u32xor (by omega) (by omega)) ?_)
               | refine Exists.intro _ (And.intro (u8xor (by omega) (by omega)) ?_)
               | refine Exists.intro _ (And.intro (u64and (by omega) (by omega)) ?_)
               | refine Exists.intro _ (And.intro (u64or (by omega) (by omega)) ?_)
               | refine Exists.intro _ (And.intro (u64xor (by omega) (by omega)) ?_)
               | refine Exists.intro _ (And.intro (w64 (by omega) (by omega)) ?_)
               | refine Exists.intro _ (And.intro (u32add (by omega)) ?_)
               | refine Exists.intro _ (And.intro (u64add (by omega)) ?_)
               | refine Exists.intro _ (And.intro (u8w (by omega)) ?_)
               | refine Exists.intro _ (And.intro (u32w (by omega)) ?_)
               | refine Exists.intro _ (And.intro (u64w (by omega)) ?_)
               | refine Exists.intro _ (And.intro (u8m) ?_)
               | refine Exists.intro _ (And.intro (u64i (by omega) (by omega)) ?_)
               | refine Exists.intro _ (And.intro (min_int) ?_)
               | refine Exists.intro _ (And.intro (max_int) ?_)
               | refine Exists.intro _ (And.intro (imin) ?_)
               | refine Exists.intro _ (And.intro (imax) ?_)
               | refine boolF_not ?_
               | refine boolF_dect rfl ?_
               | refine boolF_dect (by assumption) ?_
               | refine boolF_decf (by assumption) ?_
               | refine boolF_dect (by omega) ?_
               | refine boolF_decf (by omega) ?_
               | refine boolF_beqt (by omega) ?_
               | refine boolF_beqf (by omega) ?_
               | refine boolF_bnet (by omega) ?_
               | refine boolF_bnef (by omega) ?_
               | refine boolF_nbeqt (by omega) ?_
               | refine boolF_nbeqf (by omega) ?_
               | refine boolF_nbnet (by omega) ?_
               | refine boolF_nbnef (by omega) ?_
               | refine boolF_t (by assumption) ?_
               | refine boolF_f (by assumption) ?_
               | refine boolF_dec (fun _ => ?_) (fun _ => ?_)
               | refine boolF_beq (fun _ => ?_) (fun _ => ?_)
               | refine boolF_bne (fun _ => ?_) (fun _ => ?_)
               | refine boolF_nbeq (fun _ => ?_) (fun _ => ?_)
               | refine boolF_nbne (fun _ => ?_) (fun _ => ?_)
               | refine boolF_leq (fun _ => ?_) (fun _ => ?_)
               | refine Both.mk ?_ ?_)
    all_goals (conv => whnf)
    refine ⟨i + 1, Ghost.hold [6,25,26,27] ?_, by omega, by omega⟩
    rw [e1, List.length_append, List.map_append]
    rfl
  rw [List.take_of_length_le h]
  repeat' (conv => whnf
           first
             | refine PairK.mk (by kernel_rfl) ?_
             | refine And.intro (by decide) ?_
             | refine And.intro rfl ?_
             | refine And.intro (List.cons_ne_nil _ _) ?_
             | refine And.intro (Nat.le_of_ble_eq_true rfl) ?_
             | refine And.intro (by omega) ?_
             | refine And.intro (by simp only [List.length_map, List.length_append, List.length_cons, List.length_nil]; omega) ?_
             | refine And.intro (by simpa only [List.length_map, List.length_append, List.length_cons, List.length_nil] using rfl) ?_
             | refine And.intro (Eq.symm (List.length_map _)) ?_
             | refine And.intro (all_map (fun _ => rfl)) ?_
             | refine And.intro (cells_map (fun _ => rfl)) ?_
             | refine And.intro (rows_map (fun _ => rfl) (fun _ => rfl)) ?_
             | refine And.intro (okRows_one rfl rfl) ?_
             | refine And.intro (okRows_all rfl) ?_
             | refine boolF_t (beq_self_eq_true _) ?_
             | refine Exists.intro _ (And.intro (map_get (by assumption)) ?_)
             | refine Exists.intro _ (And.intro (Eq.refl (α := Option D) _) ?_)
             | refine Exists.intro _ (And.intro (⟨(List.length_map _).symm⟩) ?_)
             | refine Exists.intro _ (And.intro (⟨len_one⟩) ?_)
             | refine Exists.intro _ (And.intro (⟨len_two⟩) ?_)
             | refine Exists.intro _ (And.intro (⟨len_three⟩) ?_)
             | refine Exists.intro _ (And.intro (⟨len_four⟩) ?_)
             | refine Exists.intro _ (And.intro (⟨lenl_1⟩) ?_)
             | refine Exists.intro _ (And.intro (⟨lenl_2⟩) ?_)
             | refine Exists.intro _ (And.intro (⟨lenl_3⟩) ?_)
             | refine Exists.intro _ (And.intro (⟨lenl_4⟩) ?_)
             | refine Exists.intro _ (And.intro (⟨len_more⟩) ?_)
             | refine Exists.intro _ (And.intro (⟨map_slice⟩) ?_)
             | refine Exists.intro _ (And.intro (⟨List.map_take⟩) ?_)
             | refine Exists.intro _ (And.intro (⟨List.map_drop⟩) ?_)
             | refine Exists.intro _ (And.intro (⟨map_full'⟩) ?_)
             | refine Exists.intro _ (And.intro (⟨map_full⟩) ?_)
             | refine Exists.intro _ (And.intro (⟨map_snoc⟩) ?_)
             | refine Exists.intro _ (And.intro (⟨List.map_append⟩) ?_)
             | refine Exists.intro _ (And.intro (⟨Eq.refl (α := List D) _⟩) ?_)
             | refine Exists.intro _ (And.intro (⟨Eq.refl (α := Int) _⟩) (And.intro (by omega) ?_))
             | refine Exists.intro (0) (And.intro (⟨rfl⟩) (And.intro (Nat.zero_le _) ?_))
             | refine Exists.intro _ (And.intro (⟨nc1⟩) (And.intro (by omega) ?_))
             | refine Exists.intro _ (Exists.intro _ (And.intro (⟨Eq.refl (α := Int) _⟩) (And.intro (⟨Eq.refl (α := Int) _⟩) (And.intro (by omega) (And.intro (by omega) ?_)))))
             | refine Exists.intro _ (Exists.intro _ (And.intro (⟨Eq.refl (α := Nat) _⟩) (And.intro (⟨Eq.refl (α := Nat) _⟩) ?_)))
             | refine Exists.intro _ (And.intro (⟨Eq.refl (α := Nat) _⟩) ?_)
             | refine Exists.intro _ (And.intro (u32and (by omega) (by omega)) ?_)
             | refine Exists.intro _ (And.intro (u32or (by omega) (by omega)) ?_)
             | refine Exists.intro _ (And.intro (u32xor (by omega) (by omega)) ?_)
             | refine Exists.intro _ (And.intro (u8xor (by omega) (by omega)) ?_)
             | refine Exists.intro _ (And.intro (u64and (by omega) (by omega)) ?_)
             | refine Exists.intro _ (And.intro (u64or (by omega) (by omega)) ?_)
             | refine Exists.intro _ (And.intro (u64xor (by omega) (by omega)) ?_)
             | refine Exists.intro _ (And.intro (w64 (by omega) (by omega)) ?_)
             | refine Exists.intro _ (And.intro (u32add (by omega)) ?_)
             | refine Exists.intro _ (And.intro (u64add (by omega)) ?_)
             | refine Exists.intro _ (And.intro (u8w (by omega)) ?_)
             | refine Exists.intro _ (And.intro (u32w (by omega)) ?_)
             | refine Exists.intro _ (And.intro (u64w (by omega)) ?_)
             | refine Exists.intro _ (And.intro (u8m) ?_)
             | refine Exists.intro _ (And.intro (u64i (by omega) (by omega)) ?_)
             | refine Exists.intro _ (And.intro (min_int) ?_)
             | refine Exists.intro _ (And.intro (max_int) ?_)
             | refine Exists.intro _ (And.intro (imin) ?_)
             | refine Exists.intro _ (And.intro (imax) ?_)
             | refine boolF_not ?_
             | refine boolF_dect rfl ?_
             | refine boolF_dect (by assumption) ?_
             | refine boolF_decf (by assumption) ?_
             | refine boolF_dect (by omega) ?_
             | refine boolF_decf (by omega) ?_
             | refine boolF_beqt (by omega) ?_
             | refine boolF_beqf (by omega) ?_
             | refine boolF_bnet (by omega) ?_
             | refine boolF_bnef (by omega) ?_
             | refine boolF_nbeqt (by omega) ?_
             | refine boolF_nbeqf (by omega) ?_
             | refine boolF_nbnet (by omega) ?_
             | refine boolF_nbnef (by omega) ?_
             | refine boolF_t (by assumption) ?_
             | refine boolF_f (by assumption) ?_
             | refine boolF_dec (fun _ => ?_) (fun _ => ?_)
             | refine boolF_beq (fun _ => ?_) (fun _ => ?_)
             | refine boolF_bne (fun _ => ?_) (fun _ => ?_)
             | refine boolF_nbeq (fun _ => ?_) (fun _ => ?_)
             | refine boolF_nbne (fun _ => ?_) (fun _ => ?_)
             | refine boolF_leq (fun _ => ?_) (fun _ => ?_)
             | refine Both.mk ?_ ?_)
  all_goals (conv => whnf)
  refine ⟨ver + i, Ghost.hold [0] ?_⟩
  rw [List.length_map]
  rfl

end Go.Proofs.Ythlngafnlnincaa

