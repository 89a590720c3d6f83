import Derived.Test.YthlngafnlnincaaS8
namespace Go.Proofs.Ythlngafnlnincaa
open Go.A
set_option linter.unusedVariables false
set_option linter.unusedSimpArgs false
set_option linter.unnecessarySimpa false
attribute [local irreducible] IntKind.wrap bitsI
set_option maxRecDepth 100000
set_option maxHeartbeats 4000000

theorem sumTurned_true (b : List Nat) (t : T39) (h0 : ok24 b) (h1 : ok40 t) : CallsIn Try.prog 7 [d24 b, d40 t] [] fun r _ => r = .bool true := by
  have hl : b.length ≤ 140737488351232 := by have := h0.2; simp [td5] at this; exact this
  replace h0 := ok24.b h0
  have hs := sealB_ok h0 (by omega)
  have hsl := sealB_len b
  have hby := h1.2
  simp only [ok5] at hby
  refine CallsIn.of_execN 13 tab_ok mixed Try.func7 rfl rfl [] [] ?_
  repeat' (conv => whnf
           first
             | refine PairK.mk (by kernel_rfl) ?_
             | refine Exists.intro _ (And.intro (map_at (by omega) hx) ?_)
             | refine And.intro (by decide) ?_
             | refine And.intro rfl ?_
             | refine And.intro (List.cons_ne_nil _ _) ?_
             | refine And.intro (Nat.le_of_ble_eq_true rfl) ?_
             | refine And.intro (by omega) ?_
             | refine And.intro (by simp only [List.length_map, List.length_append, List.length_cons, List.length_nil]; omega) ?_
             | refine And.intro (by simpa only [List.length_map, List.length_append, List.length_cons, List.length_nil] using rfl) ?_
             | refine And.intro (Eq.symm (List.length_map _)) ?_
             | refine And.intro (all_map (fun _ => rfl)) ?_
             | refine And.intro (cells_map (fun _ => rfl)) ?_
             | refine And.intro (rows_map (fun _ => rfl) (fun _ => rfl)) ?_
             | refine And.intro (okRows_one rfl rfl) ?_
             | refine And.intro (okRows_all rfl) ?_
             | refine boolF_t (beq_self_eq_true _) ?_
             | refine Exists.intro _ (And.intro (map_get (by assumption)) ?_)
             | refine Exists.intro _ (And.intro (Eq.refl (α := Option D) _) ?_)
             | refine Exists.intro _ (And.intro (⟨(List.length_map _).symm⟩) ?_)
             | refine Exists.intro _ (And.intro (⟨len_one⟩) ?_)
             | refine Exists.intro _ (And.intro (⟨len_two⟩) ?_)
             | refine Exists.intro _ (And.intro (⟨len_three⟩) ?_)
             | refine Exists.intro _ (And.intro (⟨len_four⟩) ?_)
             | refine Exists.intro _ (And.intro (⟨lenl_1⟩) ?_)
             | refine Exists.intro _ (And.intro (⟨lenl_2⟩) ?_)
             | refine Exists.intro _ (And.intro (⟨lenl_3⟩) ?_)
             | refine Exists.intro _ (And.intro (⟨lenl_4⟩) ?_)
             | refine Exists.intro _ (And.intro (⟨len_more⟩) ?_)
             | refine Exists.intro _ (And.intro (⟨map_slice⟩) ?_)
             | refine Exists.intro _ (And.intro (⟨List.map_take⟩) ?_)
             | refine Exists.intro _ (And.intro (⟨List.map_drop⟩) ?_)
             | refine Exists.intro _ (And.intro (⟨map_full'⟩) ?_)
             | refine Exists.intro _ (And.intro (⟨map_full⟩) ?_)
             | refine Exists.intro _ (And.intro (⟨map_snoc⟩) ?_)
             | refine Exists.intro _ (And.intro (⟨List.map_append⟩) ?_)
             | refine Exists.intro _ (And.intro (⟨Eq.refl (α := List D) _⟩) ?_)
             | refine Exists.intro _ (And.intro (⟨Eq.refl (α := Int) _⟩) (And.intro (by omega) ?_))
             | refine Exists.intro (0) (And.intro (⟨rfl⟩) (And.intro (Nat.zero_le _) ?_))
             | refine Exists.intro _ (And.intro (⟨nc1⟩) (And.intro (by omega) ?_))
             | refine Exists.intro _ (Exists.intro _ (And.intro (⟨Eq.refl (α := Int) _⟩) (And.intro (⟨Eq.refl (α := Int) _⟩) (And.intro (by omega) (And.intro (by omega) ?_)))))
             | refine Exists.intro _ (Exists.intro _ (And.intro (⟨Eq.refl (α := Nat) _⟩) (And.intro (⟨Eq.refl (α := Nat) _⟩) ?_)))
             | refine Exists.intro _ (And.intro (⟨Eq.refl (α := Nat) _⟩) ?_)
             | refine Exists.intro _ (And.intro (u32and (by omega) (by omega)) ?_)
             | refine Exists.intro _ (And.intro (u32or (by omega) (by omega)) ?_)
             | refine Exists.intro _ (And.intro (u32xor (by omega) (by omega)) ?_)
             | refine Exists.intro _ (And.intro (u8xor (by omega) (by omega)) ?_)
             | refine Exists.intro _ (And.intro (u64and (by omega) (by omega)) ?_)
             | refine Exists.intro _ (And.intro (u64or (by omega) (by omega)) ?_)
             | refine Exists.intro _ (And.intro (u64xor (by omega) (by omega)) ?_)
             | refine Exists.intro _ (And.intro (w64 (by omega) (by omega)) ?_)
             | refine Exists.intro _ (And.intro (u32add (by omega)) ?_)
             | refine Exists.intro _ (And.intro (u64add (by omega)) ?_)
             | refine Exists.intro _ (And.intro (u8w (by omega)) ?_)
             | refine Exists.intro _ (And.intro (u32w (by omega)) ?_)
             | refine Exists.intro _ (And.intro (u64w (by omega)) ?_)
             | refine Exists.intro _ (And.intro (u8m) ?_)
             | refine Exists.intro _ (And.intro (u64i (by omega) (by omega)) ?_)
             | refine Exists.intro _ (And.intro (min_int) ?_)
             | refine Exists.intro _ (And.intro (max_int) ?_)
             | refine Exists.intro _ (And.intro (imin) ?_)
             | refine Exists.intro _ (And.intro (imax) ?_)
             | refine boolF_not ?_
             | refine boolF_dect rfl ?_
             | refine boolF_dect (by assumption) ?_
             | refine boolF_decf (by assumption) ?_
             | refine boolF_dect (by omega) ?_
             | refine boolF_decf (by omega) ?_
             | refine boolF_beqt (by omega) ?_
             | refine boolF_beqf (by omega) ?_
             | refine boolF_bnet (by omega) ?_
             | refine boolF_bnef (by omega) ?_
             | refine boolF_nbeqt (by omega) ?_
             | refine boolF_nbeqf (by omega) ?_
             | refine boolF_nbnet (by omega) ?_
             | refine boolF_nbnef (by omega) ?_
             | refine boolF_t (by assumption) ?_
             | refine boolF_f (by assumption) ?_
             | refine boolF_dec (fun _ => ?_) (fun _ => ?_)
             | refine boolF_beq (fun _ => ?_) (fun _ => ?_)
             | refine boolF_bne (fun _ => ?_) (fun _ => ?_)
             | refine boolF_nbeq (fun _ => ?_) (fun _ => ?_)
             | refine boolF_nbne (fun _ => ?_) (fun _ => ?_)
             | refine boolF_leq (fun _ => ?_) (fun _ => ?_)
             | refine Both.mk ?_ ?_)
  all_goals (conv => whnf)
  refine Owned.call (f18_ok b h0 (by omega)) (fun ver => ?_)
  have m1 := Int.tmod_lt_of_pos t.at_ (b := ((List.map r5 (sealB b)).length : Int)) (by rw [List.length_map]; omega)
  have m2 := Int.lt_tmod_of_pos t.at_ (b := ((List.map r5 (sealB b)).length : Int)) (by rw [List.length_map]; omega)
  have m3 : (List.map r5 (sealB b)).length = b.length + 4 := by rw [List.length_map]; omega
  repeat' (conv => whnf
           first
             | refine PairK.mk (by kernel_rfl) ?_
             | refine Exists.intro _ (And.intro (map_at (by omega) hx) ?_)
             | refine And.intro (by decide) ?_
             | refine And.intro rfl ?_
             | refine And.intro (List.cons_ne_nil _ _) ?_
             | refine And.intro (Nat.le_of_ble_eq_true rfl) ?_
             | refine And.intro (by omega) ?_
             | refine And.intro (by simp only [List.length_map, List.length_append, List.length_cons, List.length_nil]; omega) ?_
             | refine And.intro (by simpa only [List.length_map, List.length_append, List.length_cons, List.length_nil] using rfl) ?_
             | refine And.intro (Eq.symm (List.length_map _)) ?_
             | refine And.intro (all_map (fun _ => rfl)) ?_
             | refine And.intro (cells_map (fun _ => rfl)) ?_
             | refine And.intro (rows_map (fun _ => rfl) (fun _ => rfl)) ?_
             | refine And.intro (okRows_one rfl rfl) ?_
             | refine And.intro (okRows_all rfl) ?_
             | refine boolF_t (beq_self_eq_true _) ?_
             | refine Exists.intro _ (And.intro (map_get (by assumption)) ?_)
             | refine Exists.intro _ (And.intro (Eq.refl (α := Option D) _) ?_)
             | refine Exists.intro _ (And.intro (⟨(List.length_map _).symm⟩) ?_)
             | refine Exists.intro _ (And.intro (⟨len_one⟩) ?_)
             | refine Exists.intro _ (And.intro (⟨len_two⟩) ?_)
             | refine Exists.intro _ (And.intro (⟨len_three⟩) ?_)
             | refine Exists.intro _ (And.intro (⟨len_four⟩) ?_)
             | refine Exists.intro _ (And.intro (⟨lenl_1⟩) ?_)
             | refine Exists.intro _ (And.intro (⟨lenl_2⟩) ?_)
             | refine Exists.intro _ (And.intro (⟨lenl_3⟩) ?_)
             | refine Exists.intro _ (And.intro (⟨lenl_4⟩) ?_)
             | refine Exists.intro _ (And.intro (⟨len_more⟩) ?_)
             | refine Exists.intro _ (And.intro (⟨map_slice⟩) ?_)
             | refine Exists.intro _ (And.intro (⟨List.map_take⟩) ?_)
             | refine Exists.intro _ (And.intro (⟨List.map_drop⟩) ?_)
             | refine Exists.intro _ (And.intro (⟨map_full'⟩) ?_)
             | refine Exists.intro _ (And.intro (⟨map_full⟩) ?_)
             | refine Exists.intro _ (And.intro (⟨map_snoc⟩) ?_)
             | refine Exists.intro _ (And.intro (⟨List.map_append⟩) ?_)
             | refine Exists.intro _ (And.intro (⟨Eq.refl (α := List D) _⟩) ?_)
             | refine Exists.intro _ (And.intro (⟨Eq.refl (α := Int) _⟩) (And.intro (by omega) ?_))
             | refine Exists.intro (0) (And.intro (⟨rfl⟩) (And.intro (Nat.zero_le _) ?_))
             | refine Exists.intro _ (And.intro (⟨nc1⟩) (And.intro (by omega) ?_))
             | refine Exists.intro _ (Exists.intro _ (And.intro (⟨Eq.refl (α := Int) _⟩) (And.intro (⟨Eq.refl (α := Int) _⟩) (And.intro (by omega) (And.intro (by omega) ?_)))))
             | refine Exists.intro _ (Exists.intro _ (And.intro (⟨Eq.refl (α := Nat) _⟩) (And.intro (⟨Eq.refl (α := Nat) _⟩) ?_)))
             | refine Exists.intro _ (And.intro (⟨Eq.refl (α := Nat) _⟩) ?_)
             | refine Exists.intro _ (And.intro (u32and (by omega) (by omega)) ?_)
             | refine Exists.intro _ (And.intro (u32or (by omega) (by omega)) ?_)
             | refine Exists.intro _ (And.intro (u32xor (by omega) (by omega)) ?_)
             | refine Exists.intro _ (And.intro (u8xor (by omega) (by omega)) ?_)
             | refine Exists.intro _ (And.intro (u64and (by omega) (by omega)) ?_)
             | refine Exists.intro _ (And.intro (u64or (by omega) (by omega)) ?_)
             | refine Exists.intro _ (And.intro (u64xor (by omega) (by omega)) ?_)
             | refine Exists.intro _ (And.intro (w64 (by omega) (by omega)) ?_)
             | refine Exists.intro _ (And.intro (u32add (by omega)) ?_)
             | refine Exists.intro _ (And.intro (u64add (by omega)) ?_)
             | refine Exists.intro _ (And.intro (u8w (by omega)) ?_)
             | refine Exists.intro _ (And.intro (u32w (by omega)) ?_)
             | refine Exists.intro _ (And.intro (u64w (by omega)) ?_)
             | refine Exists.intro _ (And.intro (u8m) ?_)
             | refine Exists.intro _ (And.intro (u64i (by omega) (by omega)) ?_)
             | refine Exists.intro _ (And.intro (min_int) ?_)
             | refine Exists.intro _ (And.intro (max_int) ?_)
             | refine Exists.intro _ (And.intro (imin) ?_)
             | refine Exists.intro _ (And.intro (imax) ?_)
             | refine boolF_not ?_
             | refine boolF_dect rfl ?_
             | refine boolF_dect (by assumption) ?_
             | refine boolF_decf (by assumption) ?_
             | refine boolF_dect (by omega) ?_
             | refine boolF_decf (by omega) ?_
             | refine boolF_beqt (by omega) ?_
             | refine boolF_beqf (by omega) ?_
             | refine boolF_bnet (by omega) ?_
             | refine boolF_bnef (by omega) ?_
             | refine boolF_nbeqt (by omega) ?_
             | refine boolF_nbeqf (by omega) ?_
             | refine boolF_nbnet (by omega) ?_
             | refine boolF_nbnef (by omega) ?_
             | refine boolF_t (by assumption) ?_
             | refine boolF_f (by assumption) ?_
             | refine boolF_dec (fun _ => ?_) (fun _ => ?_)
             | refine boolF_beq (fun _ => ?_) (fun _ => ?_)
             | refine boolF_bne (fun _ => ?_) (fun _ => ?_)
             | refine boolF_nbeq (fun _ => ?_) (fun _ => ?_)
             | refine boolF_nbne (fun _ => ?_) (fun _ => ?_)
             | refine boolF_leq (fun _ => ?_) (fun _ => ?_)
             | refine Both.mk ?_ ?_)
  all_goals (conv => whnf)
  obtain ⟨L, hL⟩ : ∃ L : Nat, L = (List.map r5 (sealB b)).length := ⟨_, rfl⟩
  obtain ⟨z, hz⟩ : ∃ z, z = (t.at_.tmod ((List.map r5 (sealB b)).length : Int) + ((List.map r5 (sealB b)).length : Int)).tmod ((List.map r5 (sealB b)).length : Int) := ⟨_, rfl⟩
  have z1 : 0 ≤ z := by rw [hz]; exact Int.tmod_nonneg _ (by omega)
  have z2 : z < ((List.map r5 (sealB b)).length : Int) := by rw [hz]; exact Int.tmod_lt_of_pos _ (by omega)
  rw [← hz]
  obtain ⟨k, hk⟩ : ∃ k : Nat, z = (k : Int) := Int.eq_ofNat_of_zero_le z1
  have hk2 : k < (sealB b).length := by omega
  obtain ⟨x, hx⟩ := at_lt hk2
  have hx8 : x < 256 := sealB_lt b h0.1 x (List.mem_of_getElem? hx)
  subst hk
  have hy8 : x ^^^ t.by_ < 256 := Nat.xor_lt_two_pow (n := 8) hx8 hby
  obtain ⟨y, hy⟩ : ∃ y, y = x ^^^ t.by_ := ⟨_, rfl⟩
  have hrow : ∀ (bb : Bool) (d : D), setRow bb ((sealB b).map r5) (0 + ((k : Nat) : Int).toNat) d = ((sealB b).map r5).set k d := fun bb d => by
    rw [setRow_eq, Nat.zero_add, Int.toNat_natCast]
  have hmap : ((sealB b).map r5).set k (.int .u8 ((x ^^^ t.by_ : Nat) : Int)) = ((sealB b).set k y).map r5 := by
    rw [List.map_set, hy]; rfl
  repeat' (conv => whnf
           first
             | refine PairK.mk (by kernel_rfl) ?_
             | refine Exists.intro _ (And.intro (map_at (by omega) hx) ?_)
             | refine And.intro (by decide) ?_
             | refine And.intro rfl ?_
             | refine And.intro (List.cons_ne_nil _ _) ?_
             | refine And.intro (Nat.le_of_ble_eq_true rfl) ?_
             | refine And.intro (by omega) ?_
             | refine And.intro (by simp only [List.length_map, List.length_append, List.length_cons, List.length_nil]; omega) ?_
             | refine And.intro (by simpa only [List.length_map, List.length_append, List.length_cons, List.length_nil] using rfl) ?_
             | refine And.intro (Eq.symm (List.length_map _)) ?_
             | refine And.intro (all_map (fun _ => rfl)) ?_
             | refine And.intro (cells_map (fun _ => rfl)) ?_
             | refine And.intro (rows_map (fun _ => rfl) (fun _ => rfl)) ?_
             | refine And.intro (okRows_one rfl rfl) ?_
             | refine And.intro (okRows_all rfl) ?_
             | refine boolF_t (beq_self_eq_true _) ?_
             | refine Exists.intro _ (And.intro (map_get (by assumption)) ?_)
             | refine Exists.intro _ (And.intro (Eq.refl (α := Option D) _) ?_)
             | refine Exists.intro _ (And.intro (⟨(List.length_map _).symm⟩) ?_)
             | refine Exists.intro _ (And.intro (⟨len_one⟩) ?_)
             | refine Exists.intro _ (And.intro (⟨len_two⟩) ?_)
             | refine Exists.intro _ (And.intro (⟨len_three⟩) ?_)
             | refine Exists.intro _ (And.intro (⟨len_four⟩) ?_)
             | refine Exists.intro _ (And.intro (⟨lenl_1⟩) ?_)
             | refine Exists.intro _ (And.intro (⟨lenl_2⟩) ?_)
             | refine Exists.intro _ (And.intro (⟨lenl_3⟩) ?_)
             | refine Exists.intro _ (And.intro (⟨lenl_4⟩) ?_)
             | refine Exists.intro _ (And.intro (⟨len_more⟩) ?_)
             | refine Exists.intro _ (And.intro (⟨map_slice⟩) ?_)
             | refine Exists.intro _ (And.intro (⟨List.map_take⟩) ?_)
             | refine Exists.intro _ (And.intro (⟨List.map_drop⟩) ?_)
             | refine Exists.intro _ (And.intro (⟨map_full'⟩) ?_)
             | refine Exists.intro _ (And.intro (⟨map_full⟩) ?_)
             | refine Exists.intro _ (And.intro (⟨map_snoc⟩) ?_)
             | refine Exists.intro _ (And.intro (⟨List.map_append⟩) ?_)
             | refine Exists.intro _ (And.intro (⟨Eq.refl (α := List D) _⟩) ?_)
             | refine Exists.intro _ (And.intro (⟨Eq.refl (α := Int) _⟩) (And.intro (by omega) ?_))
             | refine Exists.intro (0) (And.intro (⟨rfl⟩) (And.intro (Nat.zero_le _) ?_))
             | refine Exists.intro _ (And.intro (⟨nc1⟩) (And.intro (by omega) ?_))
             | refine Exists.intro _ (Exists.intro _ (And.intro (⟨Eq.refl (α := Int) _⟩) (And.intro (⟨Eq.refl (α := Int) _⟩) (And.intro (by omega) (And.intro (by omega) ?_)))))
             | refine Exists.intro _ (Exists.intro _ (And.intro (⟨Eq.refl (α := Nat) _⟩) (And.intro (⟨Eq.refl (α := Nat) _⟩) ?_)))
             | refine Exists.intro _ (And.intro (⟨Eq.refl (α := Nat) _⟩) ?_)
             | refine Exists.intro _ (And.intro (u32and (by omega) (by omega)) ?_)
             | refine Exists.intro _ (And.intro (u32or (by omega) (by omega)) ?_)
             | refine Exists.intro _ (And.intro (u32xor (by omega) (by omega)) ?_)
             | refine Exists.intro _ (And.intro (u8xor (by omega) (by omega)) ?_)
             | refine Exists.intro _ (And.intro (u64and (by omega) (by omega)) ?_)
             | refine Exists.intro _ (And.intro (u64or (by omega) (by omega)) ?_)
             | refine Exists.intro _ (And.intro (u64xor (by omega) (by omega)) ?_)
             | refine Exists.intro _ (And.intro (w64 (by omega) (by omega)) ?_)
             | refine Exists.intro _ (And.intro (u32add (by omega)) ?_)
             | refine Exists.intro _ (And.intro (u64add (by omega)) ?_)
             | refine Exists.intro _ (And.intro (u8w (by omega)) ?_)
             | refine Exists.intro _ (And.intro (u32w (by omega)) ?_)
             | refine Exists.intro _ (And.intro (u64w (by omega)) ?_)
             | refine Exists.intro _ (And.intro (u8m) ?_)
             | refine Exists.intro _ (And.intro (u64i (by omega) (by omega)) ?_)
             | refine Exists.intro _ (And.intro (min_int) ?_)
             | refine Exists.intro _ (And.intro (max_int) ?_)
             | refine Exists.intro _ (And.intro (imin) ?_)
             | refine Exists.intro _ (And.intro (imax) ?_)
             | refine boolF_not ?_
             | refine boolF_dect rfl ?_
             | refine boolF_dect (by assumption) ?_
             | refine boolF_decf (by assumption) ?_
             | refine boolF_dect (by omega) ?_
             | refine boolF_decf (by omega) ?_
             | refine boolF_beqt (by omega) ?_
             | refine boolF_beqf (by omega) ?_
             | refine boolF_bnet (by omega) ?_
             | refine boolF_bnef (by omega) ?_
             | refine boolF_nbeqt (by omega) ?_
             | refine boolF_nbeqf (by omega) ?_
             | refine boolF_nbnet (by omega) ?_
             | refine boolF_nbnef (by omega) ?_
             | refine boolF_t (by assumption) ?_
             | refine boolF_f (by assumption) ?_
             | refine boolF_dec (fun _ => ?_) (fun _ => ?_)
             | refine boolF_beq (fun _ => ?_) (fun _ => ?_)
             | refine boolF_bne (fun _ => ?_) (fun _ => ?_)
             | refine boolF_nbeq (fun _ => ?_) (fun _ => ?_)
             | refine boolF_nbne (fun _ => ?_) (fun _ => ?_)
             | refine boolF_leq (fun _ => ?_) (fun _ => ?_)
             | refine Both.mk ?_ ?_)
  all_goals (conv => whnf)
  refine W_ghost (s' := (D.undef :: D.undef :: D.undef :: .pe (c40 t) :: D.undef :: d24 ((sealB b).set k y) :: D.undef :: D.undef :: D.undef :: D.undef :: D.undef :: D.undef :: D.undef :: D.undef :: D.undef :: D.undef :: D.undef :: D.undef :: D.undef :: D.undef :: D.undef :: D.undef :: D.undef :: D.undef :: D.undef :: D.undef :: D.undef :: D.undef :: D.undef :: D.undef :: D.undef :: D.undef :: D.undef :: D.undef :: D.undef :: D.undef :: D.undef :: D.undef :: D.undef :: D.undef :: D.undef :: D.undef :: D.undef :: D.undef :: D.undef :: D.undef :: D.undef :: D.undef :: D.undef :: D.undef :: D.undef :: D.undef :: D.undef :: D.undef :: D.undef :: D.undef :: D.undef :: D.undef :: D.undef :: D.undef :: [])) (H' := [.gone]) ((Ghost.hold [3, 5] rfl).trans (Ghost.frzAt (o := 0) (t := 5) (Nat.zero_le _) (by rw [← hmap, ← hrow]; rfl) rfl (all_take (by rw [List.length_set, List.length_map])))) ?_
  have hc : okB ((sealB b).set k y) := by
    refine ⟨fun z hz => ?_, by rw [List.length_set]; exact hs.2⟩
    rcases List.mem_or_eq_of_mem_set hz with h | h
    · exact hs.1 z h
    · subst h; rw [hy]; exact hy8
  have h15 := f15_ok _ hc
  refine exec_ok tab_ok mixed 1000 (bx := []) (own := []) ?_
  by_cases hby0 : t.by_ = 0
  · have e : (sealB b).set k y = sealB b := by
      rw [hy, hby0, Nat.xor_zero]
      exact set_selfL hx
    rw [e, openB_seal] at h15
    rw [e]
    dsimp only at h15
    have hq : ((0 : Int) == 0) = (t.by_ == 0) := by simp [hby0]
    repeat' (conv => whnf
             first
               | refine PairK.mk (by kernel_rfl) ?_
               | refine Exists.intro _ (And.intro (map_at (by omega) hx) ?_)
               | refine And.intro (by decide) ?_
               | refine And.intro rfl ?_
               | refine And.intro (List.cons_ne_nil _ _) ?_
               | refine And.intro (Nat.le_of_ble_eq_true rfl) ?_
               | refine And.intro (by omega) ?_
               | refine And.intro (by simp only [List.length_map, List.length_append, List.length_cons, List.length_nil]; omega) ?_
               | refine And.intro (by simpa only [List.length_map, List.length_append, List.length_cons, List.length_nil] using rfl) ?_
               | refine And.intro (Eq.symm (List.length_map _)) ?_
               | refine And.intro (all_map (fun _ => rfl)) ?_
               | refine And.intro (cells_map (fun _ => rfl)) ?_
               | refine And.intro (rows_map (fun _ => rfl) (fun _ => rfl)) ?_
               | refine And.intro (okRows_one rfl rfl) ?_
               | refine And.intro (okRows_all rfl) ?_
               | refine boolF_t (beq_self_eq_true _) ?_
               | refine Exists.intro _ (And.intro (map_get (by assumption)) ?_)
               | refine Exists.intro _ (And.intro (Eq.refl (α := Option D) _) ?_)
               | refine Exists.intro _ (And.intro (⟨(List.length_map _).symm⟩) ?_)
               | refine Exists.intro _ (And.intro (⟨len_one⟩) ?_)
               | refine Exists.intro _ (And.intro (⟨len_two⟩) ?_)
               | refine Exists.intro _ (And.intro (⟨len_three⟩) ?_)
               | refine Exists.intro _ (And.intro (⟨len_four⟩) ?_)
               | refine Exists.intro _ (And.intro (⟨lenl_1⟩) ?_)
               | refine Exists.intro _ (And.intro (⟨lenl_2⟩) ?_)
               | refine Exists.intro _ (And.intro (⟨lenl_3⟩) ?_)
               | refine Exists.intro _ (And.intro (⟨lenl_4⟩) ?_)
               | refine Exists.intro _ (And.intro (⟨len_more⟩) ?_)
               | refine Exists.intro _ (And.intro (⟨map_slice⟩) ?_)
               | refine Exists.intro _ (And.intro (⟨List.map_take⟩) ?_)
               | refine Exists.intro _ (And.intro (⟨List.map_drop⟩) ?_)
               | refine Exists.intro _ (And.intro (⟨map_full'⟩) ?_)
               | refine Exists.intro _ (And.intro (⟨map_full⟩) ?_)
               | refine Exists.intro _ (And.intro (⟨map_snoc⟩) ?_)
               | refine Exists.intro _ (And.intro (⟨List.map_append⟩) ?_)
               | refine Exists.intro _ (And.intro (⟨Eq.refl (α := List D) _⟩) ?_)
               | refine Exists.intro _ (And.intro (⟨Eq.refl (α := Int) _⟩) (And.intro (by omega) ?_))
               | refine Exists.intro (0) (And.intro (⟨rfl⟩) (And.intro (Nat.zero_le _) ?_))
               | refine Exists.intro _ (And.intro (⟨nc1⟩) (And.intro (by omega) ?_))
               | refine Exists.intro _ (Exists.intro _ (And.intro (⟨Eq.refl (α := Int) _⟩) (And.intro (⟨Eq.refl (α := Int) _⟩) (And.intro (by omega) (And.intro (by omega) ?_)))))
               | refine Exists.intro _ (Exists.intro _ (And.intro (⟨Eq.refl (α := Nat) _⟩) (And.intro (⟨Eq.refl (α := Nat) _⟩) ?_)))
               | refine Exists.intro _ (And.intro (⟨Eq.refl (α := Nat) _⟩) ?_)
               | refine Exists.intro _ (And.intro (u32and (by omega) (by omega)) ?_)
               | refine Exists.intro _ (And.intro (u32or (by omega) (by omega)) ?_)
               | refine Exists.intro _ (And.intro (u32xor (by omega) (by omega)) ?_)
               | refine Exists.intro _ (And.intro (u8xor (by omega) (by omega)) ?_)
               | refine Exists.intro _ (And.intro (u64and (by omega) (by omega)) ?_)
               | refine Exists.intro _ (And.intro (u64or (by omega) (by omega)) ?_)
               | refine Exists.intro _ (And.intro (u64xor (by omega) (by omega)) ?_)
               | refine Exists.intro _ (And.intro (w64 (by omega) (by omega)) ?_)
               | refine Exists.intro _ (And.intro (u32add (by omega)) ?_)
               | refine Exists.intro _ (And.intro (u64add (by omega)) ?_)
               | refine Exists.intro _ (And.intro (u8w (by omega)) ?_)
               | refine Exists.intro _ (And.intro (u32w (by omega)) ?_)
               | refine Exists.intro _ (And.intro (u64w (by omega)) ?_)
               | refine Exists.intro _ (And.intro (u8m) ?_)
               | refine Exists.intro _ (And.intro (u64i (by omega) (by omega)) ?_)
               | refine Exists.intro _ (And.intro (min_int) ?_)
               | refine Exists.intro _ (And.intro (max_int) ?_)
               | refine Exists.intro _ (And.intro (imin) ?_)
               | refine Exists.intro _ (And.intro (imax) ?_)
               | refine boolF_not ?_
               | refine boolF_dect rfl ?_
               | refine boolF_dect (by assumption) ?_
               | refine boolF_decf (by assumption) ?_
               | refine boolF_dect (by omega) ?_
               | refine boolF_decf (by omega) ?_
               | refine boolF_beqt (by omega) ?_
               | refine boolF_beqf (by omega) ?_
               | refine boolF_bnet (by omega) ?_
               | refine boolF_bnef (by omega) ?_
               | refine boolF_nbeqt (by omega) ?_
               | refine boolF_nbeqf (by omega) ?_
               | refine boolF_nbnet (by omega) ?_
               | refine boolF_nbnef (by omega) ?_
               | refine boolF_t (by assumption) ?_
               | refine boolF_f (by assumption) ?_
               | refine boolF_dec (fun _ => ?_) (fun _ => ?_)
               | refine boolF_beq (fun _ => ?_) (fun _ => ?_)
               | refine boolF_bne (fun _ => ?_) (fun _ => ?_)
               | refine boolF_nbeq (fun _ => ?_) (fun _ => ?_)
               | refine boolF_nbne (fun _ => ?_) (fun _ => ?_)
               | refine boolF_leq (fun _ => ?_) (fun _ => ?_)
               | refine Both.mk ?_ ?_)
    all_goals (conv => whnf)
    refine Pure.call h15 ?_
    repeat' (conv => whnf
             first
               | refine PairK.mk (by kernel_rfl) ?_
               | refine Exists.intro _ (And.intro (map_at (by omega) hx) ?_)
               | refine And.intro (by decide) ?_
               | refine And.intro rfl ?_
               | refine And.intro (List.cons_ne_nil _ _) ?_
               | refine And.intro (Nat.le_of_ble_eq_true rfl) ?_
               | refine And.intro (by omega) ?_
               | refine And.intro (by simp only [List.length_map, List.length_append, List.length_cons, List.length_nil]; omega) ?_
               | refine And.intro (by simpa only [List.length_map, List.length_append, List.length_cons, List.length_nil] using rfl) ?_
               | refine And.intro (Eq.symm (List.length_map _)) ?_
               | refine And.intro (all_map (fun _ => rfl)) ?_
               | refine And.intro (cells_map (fun _ => rfl)) ?_
               | refine And.intro (rows_map (fun _ => rfl) (fun _ => rfl)) ?_
               | refine And.intro (okRows_one rfl rfl) ?_
               | refine And.intro (okRows_all rfl) ?_
               | refine boolF_t (beq_self_eq_true _) ?_
               | refine Exists.intro _ (And.intro (map_get (by assumption)) ?_)
               | refine Exists.intro _ (And.intro (Eq.refl (α := Option D) _) ?_)
               | refine Exists.intro _ (And.intro (⟨(List.length_map _).symm⟩) ?_)
               | refine Exists.intro _ (And.intro (⟨len_one⟩) ?_)
               | refine Exists.intro _ (And.intro (⟨len_two⟩) ?_)
               | refine Exists.intro _ (And.intro (⟨len_three⟩) ?_)
               | refine Exists.intro _ (And.intro (⟨len_four⟩) ?_)
               | refine Exists.intro _ (And.intro (⟨lenl_1⟩) ?_)
               | refine Exists.intro _ (And.intro (⟨lenl_2⟩) ?_)
               | refine Exists.intro _ (And.intro (⟨lenl_3⟩) ?_)
               | refine Exists.intro _ (And.intro (⟨lenl_4⟩) ?_)
               | refine Exists.intro _ (And.intro (⟨len_more⟩) ?_)
               | refine Exists.intro _ (And.intro (⟨map_slice⟩) ?_)
               | refine Exists.intro _ (And.intro (⟨List.map_take⟩) ?_)
               | refine Exists.intro _ (And.intro (⟨List.map_drop⟩) ?_)
               | refine Exists.intro _ (And.intro (⟨map_full'⟩) ?_)
               | refine Exists.intro _ (And.intro (⟨map_full⟩) ?_)
               | refine Exists.intro _ (And.intro (⟨map_snoc⟩) ?_)
               | refine Exists.intro _ (And.intro (⟨List.map_append⟩) ?_)
               | refine Exists.intro _ (And.intro (⟨Eq.refl (α := List D) _⟩) ?_)
               | refine Exists.intro _ (And.intro (⟨Eq.refl (α := Int) _⟩) (And.intro (by omega) ?_))
               | refine Exists.intro (0) (And.intro (⟨rfl⟩) (And.intro (Nat.zero_le _) ?_))
               | refine Exists.intro _ (And.intro (⟨nc1⟩) (And.intro (by omega) ?_))
               | refine Exists.intro _ (Exists.intro _ (And.intro (⟨Eq.refl (α := Int) _⟩) (And.intro (⟨Eq.refl (α := Int) _⟩) (And.intro (by omega) (And.intro (by omega) ?_)))))
               | refine Exists.intro _ (Exists.intro _ (And.intro (⟨Eq.refl (α := Nat) _⟩) (And.intro (⟨Eq.refl (α := Nat) _⟩) ?_)))
               | refine Exists.intro _ (And.intro (⟨Eq.refl (α := Nat) _⟩) ?_)
               | refine Exists.intro _ (And.intro (u32and (by omega) (by omega)) ?_)
               | refine Exists.intro _ (And.intro (u32or (by omega) (by omega)) ?_)
               | refine Exists.intro _ (And.intro (u32xor (by omega) (by omega)) ?_)
               | refine Exists.intro _ (And.intro (u8xor (by omega) (by omega)) ?_)
               | refine Exists.intro _ (And.intro (u64and (by omega) (by omega)) ?_)
               | refine Exists.intro _ (And.intro (u64or (by omega) (by omega)) ?_)
               | refine Exists.intro _ (And.intro (u64xor (by omega) (by omega)) ?_)
               | refine Exists.intro _ (And.intro (w64 (by omega) (by omega)) ?_)
               | refine Exists.intro _ (And.intro (u32add (by omega)) ?_)
               | refine Exists.intro _ (And.intro (u64add (by omega)) ?_)
               | refine Exists.intro _ (And.intro (u8w (by omega)) ?_)
               | refine Exists.intro _ (And.intro (u32w (by omega)) ?_)
               | refine Exists.intro _ (And.intro (u64w (by omega)) ?_)
               | refine Exists.intro _ (And.intro (u8m) ?_)
               | refine Exists.intro _ (And.intro (u64i (by omega) (by omega)) ?_)
               | refine Exists.intro _ (And.intro (min_int) ?_)
               | refine Exists.intro _ (And.intro (max_int) ?_)
               | refine Exists.intro _ (And.intro (imin) ?_)
               | refine Exists.intro _ (And.intro (imax) ?_)
               | refine boolF_not ?_
               | refine boolF_dect rfl ?_
               | refine boolF_dect (by assumption) ?_
               | refine boolF_decf (by assumption) ?_
               | refine boolF_dect (by omega) ?_
               | refine boolF_decf (by omega) ?_
               | refine boolF_beqt (by omega) ?_
               | refine boolF_beqf (by omega) ?_
               | refine boolF_bnet (by omega) ?_
               | refine boolF_bnef (by omega) ?_
               | refine boolF_nbeqt (by omega) ?_
               | refine boolF_nbeqf (by omega) ?_
               | refine boolF_nbnet (by omega) ?_
               | refine boolF_nbnef (by omega) ?_
               | refine boolF_t (by assumption) ?_
               | refine boolF_f (by assumption) ?_
               | refine boolF_dec (fun _ => ?_) (fun _ => ?_)
               | refine boolF_beq (fun _ => ?_) (fun _ => ?_)
               | refine boolF_bne (fun _ => ?_) (fun _ => ?_)
               | refine boolF_nbeq (fun _ => ?_) (fun _ => ?_)
               | refine boolF_nbne (fun _ => ?_) (fun _ => ?_)
               | refine boolF_leq (fun _ => ?_) (fun _ => ?_)
               | refine Both.mk ?_ ?_)
    all_goals (conv => whnf)
    refine Pure.call f14_ok ?_
    repeat' (conv => whnf
             first
               | refine PairK.mk (by kernel_rfl) ?_
               | refine Exists.intro _ (And.intro (map_at (by omega) hx) ?_)
               | refine And.intro (by decide) ?_
               | refine And.intro rfl ?_
               | refine And.intro (List.cons_ne_nil _ _) ?_
               | refine And.intro (Nat.le_of_ble_eq_true rfl) ?_
               | refine And.intro (by omega) ?_
               | refine And.intro (by simp only [List.length_map, List.length_append, List.length_cons, List.length_nil]; omega) ?_
               | refine And.intro (by simpa only [List.length_map, List.length_append, List.length_cons, List.length_nil] using rfl) ?_
               | refine And.intro (Eq.symm (List.length_map _)) ?_
               | refine And.intro (all_map (fun _ => rfl)) ?_
               | refine And.intro (cells_map (fun _ => rfl)) ?_
               | refine And.intro (rows_map (fun _ => rfl) (fun _ => rfl)) ?_
               | refine And.intro (okRows_one rfl rfl) ?_
               | refine And.intro (okRows_all rfl) ?_
               | refine boolF_t (beq_self_eq_true _) ?_
               | refine Exists.intro _ (And.intro (map_get (by assumption)) ?_)
               | refine Exists.intro _ (And.intro (Eq.refl (α := Option D) _) ?_)
               | refine Exists.intro _ (And.intro (⟨(List.length_map _).symm⟩) ?_)
               | refine Exists.intro _ (And.intro (⟨len_one⟩) ?_)
               | refine Exists.intro _ (And.intro (⟨len_two⟩) ?_)
               | refine Exists.intro _ (And.intro (⟨len_three⟩) ?_)
               | refine Exists.intro _ (And.intro (⟨len_four⟩) ?_)
               | refine Exists.intro _ (And.intro (⟨lenl_1⟩) ?_)
               | refine Exists.intro _ (And.intro (⟨lenl_2⟩) ?_)
               | refine Exists.intro _ (And.intro (⟨lenl_3⟩) ?_)
               | refine Exists.intro _ (And.intro (⟨lenl_4⟩) ?_)
               | refine Exists.intro _ (And.intro (⟨len_more⟩) ?_)
               | refine Exists.intro _ (And.intro (⟨map_slice⟩) ?_)
               | refine Exists.intro _ (And.intro (⟨List.map_take⟩) ?_)
               | refine Exists.intro _ (And.intro (⟨List.map_drop⟩) ?_)
               | refine Exists.intro _ (And.intro (⟨map_full'⟩) ?_)
               | refine Exists.intro _ (And.intro (⟨map_full⟩) ?_)
               | refine Exists.intro _ (And.intro (⟨map_snoc⟩) ?_)
               | refine Exists.intro _ (And.intro (⟨List.map_append⟩) ?_)
               | refine Exists.intro _ (And.intro (⟨Eq.refl (α := List D) _⟩) ?_)
               | refine Exists.intro _ (And.intro (⟨Eq.refl (α := Int) _⟩) (And.intro (by omega) ?_))
               | refine Exists.intro (0) (And.intro (⟨rfl⟩) (And.intro (Nat.zero_le _) ?_))
               | refine Exists.intro _ (And.intro (⟨nc1⟩) (And.intro (by omega) ?_))
               | refine Exists.intro _ (Exists.intro _ (And.intro (⟨Eq.refl (α := Int) _⟩) (And.intro (⟨Eq.refl (α := Int) _⟩) (And.intro (by omega) (And.intro (by omega) ?_)))))
               | refine Exists.intro _ (Exists.intro _ (And.intro (⟨Eq.refl (α := Nat) _⟩) (And.intro (⟨Eq.refl (α := Nat) _⟩) ?_)))
               | refine Exists.intro _ (And.intro (⟨Eq.refl (α := Nat) _⟩) ?_)
               | refine Exists.intro _ (And.intro (u32and (by omega) (by omega)) ?_)
               | refine Exists.intro _ (And.intro (u32or (by omega) (by omega)) ?_)
               | refine Exists.intro _ (And.intro (u32xor (by omega) (by omega)) ?_)
               | refine Exists.intro _ (And.intro (u8xor (by omega) (by omega)) ?_)
               | refine Exists.intro _ (And.intro (u64and (by omega) (by omega)) ?_)
               | refine Exists.intro _ (And.intro (u64or (by omega) (by omega)) ?_)
               | refine Exists.intro _ (And.intro (u64xor (by omega) (by omega)) ?_)
               | refine Exists.intro _ (And.intro (w64 (by omega) (by omega)) ?_)
               | refine Exists.intro _ (And.intro (u32add (by omega)) ?_)
               | refine Exists.intro _ (And.intro (u64add (by omega)) ?_)
               | refine Exists.intro _ (And.intro (u8w (by omega)) ?_)
               | refine Exists.intro _ (And.intro (u32w (by omega)) ?_)
               | refine Exists.intro _ (And.intro (u64w (by omega)) ?_)
               | refine Exists.intro _ (And.intro (u8m) ?_)
               | refine Exists.intro _ (And.intro (u64i (by omega) (by omega)) ?_)
               | refine Exists.intro _ (And.intro (min_int) ?_)
               | refine Exists.intro _ (And.intro (max_int) ?_)
               | refine Exists.intro _ (And.intro (imin) ?_)
               | refine Exists.intro _ (And.intro (imax) ?_)
               | refine boolF_not ?_
               | refine boolF_dect rfl ?_
               | refine boolF_dect (by assumption) ?_
               | refine boolF_decf (by assumption) ?_
               | refine boolF_dect (by omega) ?_
               | refine boolF_decf (by omega) ?_
               | refine boolF_beqt (by omega) ?_
               | refine boolF_beqf (by omega) ?_
               | refine boolF_bnet (by omega) ?_
               | refine boolF_bnef (by omega) ?_
               | refine boolF_nbeqt (by omega) ?_
               | refine boolF_nbeqf (by omega) ?_
               | refine boolF_nbnet (by omega) ?_
               | refine boolF_nbnef (by omega) ?_
               | refine boolF_t (by assumption) ?_
               | refine boolF_f (by assumption) ?_
               | refine boolF_dec (fun _ => ?_) (fun _ => ?_)
               | refine boolF_beq (fun _ => ?_) (fun _ => ?_)
               | refine boolF_bne (fun _ => ?_) (fun _ => ?_)
               | refine boolF_nbeq (fun _ => ?_) (fun _ => ?_)
               | refine boolF_nbne (fun _ => ?_) (fun _ => ?_)
               | refine boolF_leq (fun _ => ?_) (fun _ => ?_)
               | refine Both.mk ?_ ?_)
    all_goals (conv => whnf)
    exact ⟨rfl⟩
  · rw [turn_open h0 hx (by rw [hy]; exact xor_ne hby0) (by rw [hy]; exact hy8)] at h15
    dsimp only at h15
    have hq : ((4 : Int) == 0) = (t.by_ == 0) := by simp [hby0]
    repeat' (conv => whnf
             first
               | refine PairK.mk (by kernel_rfl) ?_
               | refine Exists.intro _ (And.intro (map_at (by omega) hx) ?_)
               | refine And.intro (by decide) ?_
               | refine And.intro rfl ?_
               | refine And.intro (List.cons_ne_nil _ _) ?_
               | refine And.intro (Nat.le_of_ble_eq_true rfl) ?_
               | refine And.intro (by omega) ?_
               | refine And.intro (by simp only [List.length_map, List.length_append, List.length_cons, List.length_nil]; omega) ?_
               | refine And.intro (by simpa only [List.length_map, List.length_append, List.length_cons, List.length_nil] using rfl) ?_
               | refine And.intro (Eq.symm (List.length_map _)) ?_
               | refine And.intro (all_map (fun _ => rfl)) ?_
               | refine And.intro (cells_map (fun _ => rfl)) ?_
               | refine And.intro (rows_map (fun _ => rfl) (fun _ => rfl)) ?_
               | refine And.intro (okRows_one rfl rfl) ?_
               | refine And.intro (okRows_all rfl) ?_
               | refine boolF_t (beq_self_eq_true _) ?_
               | refine Exists.intro _ (And.intro (map_get (by assumption)) ?_)
               | refine Exists.intro _ (And.intro (Eq.refl (α := Option D) _) ?_)
               | refine Exists.intro _ (And.intro (⟨(List.length_map _).symm⟩) ?_)
               | refine Exists.intro _ (And.intro (⟨len_one⟩) ?_)
               | refine Exists.intro _ (And.intro (⟨len_two⟩) ?_)
               | refine Exists.intro _ (And.intro (⟨len_three⟩) ?_)
               | refine Exists.intro _ (And.intro (⟨len_four⟩) ?_)
               | refine Exists.intro _ (And.intro (⟨lenl_1⟩) ?_)
               | refine Exists.intro _ (And.intro (⟨lenl_2⟩) ?_)
               | refine Exists.intro _ (And.intro (⟨lenl_3⟩) ?_)
               | refine Exists.intro _ (And.intro (⟨lenl_4⟩) ?_)
               | refine Exists.intro _ (And.intro (⟨len_more⟩) ?_)
               | refine Exists.intro _ (And.intro (⟨map_slice⟩) ?_)
               | refine Exists.intro _ (And.intro (⟨List.map_take⟩) ?_)
               | refine Exists.intro _ (And.intro (⟨List.map_drop⟩) ?_)
               | refine Exists.intro _ (And.intro (⟨map_full'⟩) ?_)
               | refine Exists.intro _ (And.intro (⟨map_full⟩) ?_)
               | refine Exists.intro _ (And.intro (⟨map_snoc⟩) ?_)
               | refine Exists.intro _ (And.intro (⟨List.map_append⟩) ?_)
               | refine Exists.intro _ (And.intro (⟨Eq.refl (α := List D) _⟩) ?_)
               | refine Exists.intro _ (And.intro (⟨Eq.refl (α := Int) _⟩) (And.intro (by omega) ?_))
               | refine Exists.intro (0) (And.intro (⟨rfl⟩) (And.intro (Nat.zero_le _) ?_))
               | refine Exists.intro _ (And.intro (⟨nc1⟩) (And.intro (by omega) ?_))
               | refine Exists.intro _ (Exists.intro _ (And.intro (⟨Eq.refl (α := Int) _⟩) (And.intro (⟨Eq.refl (α := Int) _⟩) (And.intro (by omega) (And.intro (by omega) ?_)))))
               | refine Exists.intro _ (Exists.intro _ (And.intro (⟨Eq.refl (α := Nat) _⟩) (And.intro (⟨Eq.refl (α := Nat) _⟩) ?_)))
               | refine Exists.intro _ (And.intro (⟨Eq.refl (α := Nat) _⟩) ?_)
               | refine Exists.intro _ (And.intro (u32and (by omega) (by omega)) ?_)
               | refine Exists.intro _ (And.intro (u32or (by omega) (by omega)) ?_)
               | refine Exists.intro _ (And.intro (u32xor (by omega) (by omega)) ?_)
               | refine Exists.intro _ (And.intro (u8xor (by omega) (by omega)) ?_)
               | refine Exists.intro _ (And.intro (u64and (by omega) (by omega)) ?_)
               | refine Exists.intro _ (And.intro (u64or (by omega) (by omega)) ?_)
               | refine Exists.intro _ (And.intro (u64xor (by omega) (by omega)) ?_)
               | refine Exists.intro _ (And.intro (w64 (by omega) (by omega)) ?_)
               | refine Exists.intro _ (And.intro (u32add (by omega)) ?_)
               | refine Exists.intro _ (And.intro (u64add (by omega)) ?_)
               | refine Exists.intro _ (And.intro (u8w (by omega)) ?_)
               | refine Exists.intro _ (And.intro (u32w (by omega)) ?_)
               | refine Exists.intro _ (And.intro (u64w (by omega)) ?_)
               | refine Exists.intro _ (And.intro (u8m) ?_)
               | refine Exists.intro _ (And.intro (u64i (by omega) (by omega)) ?_)
               | refine Exists.intro _ (And.intro (min_int) ?_)
               | refine Exists.intro _ (And.intro (max_int) ?_)
               | refine Exists.intro _ (And.intro (imin) ?_)
               | refine Exists.intro _ (And.intro (imax) ?_)
               | refine boolF_not ?_
               | refine boolF_dect rfl ?_
               | refine boolF_dect (by assumption) ?_
               | refine boolF_decf (by assumption) ?_
               | refine boolF_dect (by omega) ?_
               | refine boolF_decf (by omega) ?_
               | refine boolF_beqt (by omega) ?_
               | refine boolF_beqf (by omega) ?_
               | refine boolF_bnet (by omega) ?_
               | refine boolF_bnef (by omega) ?_
               | refine boolF_nbeqt (by omega) ?_
               | refine boolF_nbeqf (by omega) ?_
               | refine boolF_nbnet (by omega) ?_
               | refine boolF_nbnef (by omega) ?_
               | refine boolF_t (by assumption) ?_
               | refine boolF_f (by assumption) ?_
               | refine boolF_dec (fun _ => ?_) (fun _ => ?_)
               | refine boolF_beq (fun _ => ?_) (fun _ => ?_)
               | refine boolF_bne (fun _ => ?_) (fun _ => ?_)
               | refine boolF_nbeq (fun _ => ?_) (fun _ => ?_)
               | refine boolF_nbne (fun _ => ?_) (fun _ => ?_)
               | refine boolF_leq (fun _ => ?_) (fun _ => ?_)
               | refine Both.mk ?_ ?_)
    all_goals (conv => whnf)
    refine Pure.call h15 ?_
    repeat' (conv => whnf
             first
               | refine PairK.mk (by kernel_rfl) ?_
               | refine Exists.intro _ (And.intro (map_at (by omega) hx) ?_)
               | refine And.intro (by decide) ?_
               | refine And.intro rfl ?_
               | refine And.intro (List.cons_ne_nil _ _) ?_
               | refine And.intro (Nat.le_of_ble_eq_true rfl) ?_
               | refine And.intro (by omega) ?_
               | refine And.intro (by simp only [List.length_map, List.length_append, List.length_cons, List.length_nil]; omega) ?_
               | refine And.intro (by simpa only [List.length_map, List.length_append, List.length_cons, List.length_nil] using rfl) ?_
               | refine And.intro (Eq.symm (List.length_map _)) ?_
               | refine And.intro (all_map (fun _ => rfl)) ?_
               | refine And.intro (cells_map (fun _ => rfl)) ?_
               | refine And.intro (rows_map (fun _ => rfl) (fun _ => rfl)) ?_
               | refine And.intro (okRows_one rfl rfl) ?_
               | refine And.intro (okRows_all rfl) ?_
               | refine boolF_t (beq_self_eq_true _) ?_
               | refine Exists.intro _ (And.intro (map_get (by assumption)) ?_)
               | refine Exists.intro _ (And.intro (Eq.refl (α := Option D) _) ?_)
               | refine Exists.intro _ (And.intro (⟨(List.length_map _).symm⟩) ?_)
               | refine Exists.intro _ (And.intro (⟨len_one⟩) ?_)
               | refine Exists.intro _ (And.intro (⟨len_two⟩) ?_)
               | refine Exists.intro _ (And.intro (⟨len_three⟩) ?_)
               | refine Exists.intro _ (And.intro (⟨len_four⟩) ?_)
               | refine Exists.intro _ (And.intro (⟨lenl_1⟩) ?_)
               | refine Exists.intro _ (And.intro (⟨lenl_2⟩) ?_)
               | refine Exists.intro _ (And.intro (⟨lenl_3⟩) ?_)
               | refine Exists.intro _ (And.intro (⟨lenl_4⟩) ?_)
               | refine Exists.intro _ (And.intro (⟨len_more⟩) ?_)
               | refine Exists.intro _ (And.intro (⟨map_slice⟩) ?_)
               | refine Exists.intro _ (And.intro (⟨List.map_take⟩) ?_)
               | refine Exists.intro _ (And.intro (⟨List.map_drop⟩) ?_)
               | refine Exists.intro _ (And.intro (⟨map_full'⟩) ?_)
               | refine Exists.intro _ (And.intro (⟨map_full⟩) ?_)
               | refine Exists.intro _ (And.intro (⟨map_snoc⟩) ?_)
               | refine Exists.intro _ (And.intro (⟨List.map_append⟩) ?_)
               | refine Exists.intro _ (And.intro (⟨Eq.refl (α := List D) _⟩) ?_)
               | refine Exists.intro _ (And.intro (⟨Eq.refl (α := Int) _⟩) (And.intro (by omega) ?_))
               | refine Exists.intro (0) (And.intro (⟨rfl⟩) (And.intro (Nat.zero_le _) ?_))
               | refine Exists.intro _ (And.intro (⟨nc1⟩) (And.intro (by omega) ?_))
               | refine Exists.intro _ (Exists.intro _ (And.intro (⟨Eq.refl (α := Int) _⟩) (And.intro (⟨Eq.refl (α := Int) _⟩) (And.intro (by omega) (And.intro (by omega) ?_)))))
               | refine Exists.intro _ (Exists.intro _ (And.intro (⟨Eq.refl (α := Nat) _⟩) (And.intro (⟨Eq.refl (α := Nat) _⟩) ?_)))
               | refine Exists.intro _ (And.intro (⟨Eq.refl (α := Nat) _⟩) ?_)
               | refine Exists.intro _ (And.intro (u32and (by omega) (by omega)) ?_)
               | refine Exists.intro _ (And.intro (u32or (by omega) (by omega)) ?_)
               | refine Exists.intro _ (And.intro (u32xor (by omega) (by omega)) ?_)
               | refine Exists.intro _ (And.intro (u8xor (by omega) (by omega)) ?_)
               | refine Exists.intro _ (And.intro (u64and (by omega) (by omega)) ?_)
               | refine Exists.intro _ (And.intro (u64or (by omega) (by omega)) ?_)
               | refine Exists.intro _ (And.intro (u64xor (by omega) (by omega)) ?_)
               | refine Exists.intro _ (And.intro (w64 (by omega) (by omega)) ?_)
               | refine Exists.intro _ (And.intro (u32add (by omega)) ?_)
               | refine Exists.intro _ (And.intro (u64add (by omega)) ?_)
               | refine Exists.intro _ (And.intro (u8w (by omega)) ?_)
               | refine Exists.intro _ (And.intro (u32w (by omega)) ?_)
               | refine Exists.intro _ (And.intro (u64w (by omega)) ?_)
               | refine Exists.intro _ (And.intro (u8m) ?_)
               | refine Exists.intro _ (And.intro (u64i (by omega) (by omega)) ?_)
               | refine Exists.intro _ (And.intro (min_int) ?_)
               | refine Exists.intro _ (And.intro (max_int) ?_)
               | refine Exists.intro _ (And.intro (imin) ?_)
               | refine Exists.intro _ (And.intro (imax) ?_)
               | refine boolF_not ?_
               | refine boolF_dect rfl ?_
               | refine boolF_dect (by assumption) ?_
               | refine boolF_decf (by assumption) ?_
               | refine boolF_dect (by omega) ?_
               | refine boolF_decf (by omega) ?_
               | refine boolF_beqt (by omega) ?_
               | refine boolF_beqf (by omega) ?_
               | refine boolF_bnet (by omega) ?_
               | refine boolF_bnef (by omega) ?_
               | refine boolF_nbeqt (by omega) ?_
               | refine boolF_nbeqf (by omega) ?_
               | refine boolF_nbnet (by omega) ?_
               | refine boolF_nbnef (by omega) ?_
               | refine boolF_t (by assumption) ?_
               | refine boolF_f (by assumption) ?_
               | refine boolF_dec (fun _ => ?_) (fun _ => ?_)
               | refine boolF_beq (fun _ => ?_) (fun _ => ?_)
               | refine boolF_bne (fun _ => ?_) (fun _ => ?_)
               | refine boolF_nbeq (fun _ => ?_) (fun _ => ?_)
               | refine boolF_nbne (fun _ => ?_) (fun _ => ?_)
               | refine boolF_leq (fun _ => ?_) (fun _ => ?_)
               | refine Both.mk ?_ ?_)
    all_goals (conv => whnf)
    refine Pure.call f14_ok ?_
    repeat' (conv => whnf
             first
               | refine PairK.mk (by kernel_rfl) ?_
               | refine Exists.intro _ (And.intro (map_at (by omega) hx) ?_)
               | refine And.intro (by decide) ?_
               | refine And.intro rfl ?_
               | refine And.intro (List.cons_ne_nil _ _) ?_
               | refine And.intro (Nat.le_of_ble_eq_true rfl) ?_
               | refine And.intro (by omega) ?_
               | refine And.intro (by simp only [List.length_map, List.length_append, List.length_cons, List.length_nil]; omega) ?_
               | refine And.intro (by simpa only [List.length_map, List.length_append, List.length_cons, List.length_nil] using rfl) ?_
               | refine And.intro (Eq.symm (List.length_map _)) ?_
               | refine And.intro (all_map (fun _ => rfl)) ?_
               | refine And.intro (cells_map (fun _ => rfl)) ?_
               | refine And.intro (rows_map (fun _ => rfl) (fun _ => rfl)) ?_
               | refine And.intro (okRows_one rfl rfl) ?_
               | refine And.intro (okRows_all rfl) ?_
               | refine boolF_t (beq_self_eq_true _) ?_
               | refine Exists.intro _ (And.intro (map_get (by assumption)) ?_)
               | refine Exists.intro _ (And.intro (Eq.refl (α := Option D) _) ?_)
               | refine Exists.intro _ (And.intro (⟨(List.length_map _).symm⟩) ?_)
               | refine Exists.intro _ (And.intro (⟨len_one⟩) ?_)
               | refine Exists.intro _ (And.intro (⟨len_two⟩) ?_)
               | refine Exists.intro _ (And.intro (⟨len_three⟩) ?_)
               | refine Exists.intro _ (And.intro (⟨len_four⟩) ?_)
               | refine Exists.intro _ (And.intro (⟨lenl_1⟩) ?_)
               | refine Exists.intro _ (And.intro (⟨lenl_2⟩) ?_)
               | refine Exists.intro _ (And.intro (⟨lenl_3⟩) ?_)
               | refine Exists.intro _ (And.intro (⟨lenl_4⟩) ?_)
               | refine Exists.intro _ (And.intro (⟨len_more⟩) ?_)
               | refine Exists.intro _ (And.intro (⟨map_slice⟩) ?_)
               | refine Exists.intro _ (And.intro (⟨List.map_take⟩) ?_)
               | refine Exists.intro _ (And.intro (⟨List.map_drop⟩) ?_)
               | refine Exists.intro _ (And.intro (⟨map_full'⟩) ?_)
               | refine Exists.intro _ (And.intro (⟨map_full⟩) ?_)
               | refine Exists.intro _ (And.intro (⟨map_snoc⟩) ?_)
               | refine Exists.intro _ (And.intro (⟨List.map_append⟩) ?_)
               | refine Exists.intro _ (And.intro (⟨Eq.refl (α := List D) _⟩) ?_)
               | refine Exists.intro _ (And.intro (⟨Eq.refl (α := Int) _⟩) (And.intro (by omega) ?_))
               | refine Exists.intro (0) (And.intro (⟨rfl⟩) (And.intro (Nat.zero_le _) ?_))
               | refine Exists.intro _ (And.intro (⟨nc1⟩) (And.intro (by omega) ?_))
               | refine Exists.intro _ (Exists.intro _ (And.intro (⟨Eq.refl (α := Int) _⟩) (And.intro (⟨Eq.refl (α := Int) _⟩) (And.intro (by omega) (And.intro (by omega) ?_)))))
               | refine Exists.intro _ (Exists.intro _ (And.intro (⟨Eq.refl (α := Nat) _⟩) (And.intro (⟨Eq.refl (α := Nat) _⟩) ?_)))
               | refine Exists.intro _ (And.intro (⟨Eq.refl (α := Nat) _⟩) ?_)
               | refine Exists.intro _ (And.intro (u32and (by omega) (by omega)) ?_)
               | refine Exists.intro _ (And.intro (u32or (by omega) (by omega)) ?_)
               | refine Exists.intro _ (And.intro (u32xor (by omega) (by omega)) ?_)
               | refine Exists.intro _ (And.intro (u8xor (by omega) (by omega)) ?_)
               | refine Exists.intro _ (And.intro (u64and (by omega) (by omega)) ?_)
               | refine Exists.intro _ (And.intro (u64or (by omega) (by omega)) ?_)
               | refine Exists.intro _ (And.intro (u64xor (by omega) (by omega)) ?_)
               | refine Exists.intro _ (And.intro (w64 (by omega) (by omega)) ?_)
               | refine Exists.intro _ (And.intro (u32add (by omega)) ?_)
               | refine Exists.intro _ (And.intro (u64add (by omega)) ?_)
               | refine Exists.intro _ (And.intro (u8w (by omega)) ?_)
               | refine Exists.intro _ (And.intro (u32w (by omega)) ?_)
               | refine Exists.intro _ (And.intro (u64w (by omega)) ?_)
               | refine Exists.intro _ (And.intro (u8m) ?_)
               | refine Exists.intro _ (And.intro (u64i (by omega) (by omega)) ?_)
               | refine Exists.intro _ (And.intro (min_int) ?_)
               | refine Exists.intro _ (And.intro (max_int) ?_)
               | refine Exists.intro _ (And.intro (imin) ?_)
               | refine Exists.intro _ (And.intro (imax) ?_)
               | refine boolF_not ?_
               | refine boolF_dect rfl ?_
               | refine boolF_dect (by assumption) ?_
               | refine boolF_decf (by assumption) ?_
               | refine boolF_dect (by omega) ?_
               | refine boolF_decf (by omega) ?_
               | refine boolF_beqt (by omega) ?_
               | refine boolF_beqf (by omega) ?_
               | refine boolF_bnet (by omega) ?_
               | refine boolF_bnef (by omega) ?_
               | refine boolF_nbeqt (by omega) ?_
               | refine boolF_nbeqf (by omega) ?_
               | refine boolF_nbnet (by omega) ?_
               | refine boolF_nbnef (by omega) ?_
               | refine boolF_t (by assumption) ?_
               | refine boolF_f (by assumption) ?_
               | refine boolF_dec (fun _ => ?_) (fun _ => ?_)
               | refine boolF_beq (fun _ => ?_) (fun _ => ?_)
               | refine boolF_bne (fun _ => ?_) (fun _ => ?_)
               | refine boolF_nbeq (fun _ => ?_) (fun _ => ?_)
               | refine boolF_nbne (fun _ => ?_) (fun _ => ?_)
               | refine boolF_leq (fun _ => ?_) (fun _ => ?_)
               | refine Both.mk ?_ ?_)
    all_goals (conv => whnf)
    exact ⟨rfl⟩

end Go.Proofs.Ythlngafnlnincaa

