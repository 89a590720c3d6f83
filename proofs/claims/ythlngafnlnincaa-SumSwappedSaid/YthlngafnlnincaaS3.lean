import Derived.Test.YthlngafnlnincaaS2
namespace Go.Proofs.Ythlngafnlnincaa
open Go.A
set_option linter.unusedVariables false
set_option linter.unusedSimpArgs false
set_option linter.unnecessarySimpa false
attribute [local irreducible] IntKind.wrap bitsI
set_option maxRecDepth 100000

def ofS (ps : List (List Nat)) : Nat := ps.foldl moreS 1

theorem foldMore_lt : ∀ (l : List (List Nat)) (s : Nat), s < 4294967296 → l.foldl moreS s < 4294967296
  | [], s, h => h
  | x :: l, s, h => foldMore_lt l _ (moreS_lt s x)

theorem ofS_lt (ps : List (List Nat)) : ofS ps < 4294967296 := foldMore_lt ps 1 (by omega)

theorem foldMore_take {ps : List (List Nat)} {i : Nat} {x : List Nat} (hx : ps[i]? = some x) : (ps.take (i + 1)).foldl moreS 1 = moreS ((ps.take i).foldl moreS 1) x := by
  obtain ⟨h1, h2⟩ := List.getElem?_eq_some_iff.mp hx
  subst h2
  rw [List.take_succ_eq_append_getElem h1, List.foldl_append]
  rfl

theorem f10_ok (ps : List (List Nat)) (hp : okBs ps) : Pure Try.prog 10 [d22 ps] (d23 (ofS ps)) := by
  have hlen : ps.length ≤ 140737488351232 := by have := hp.2; simp [td24] at this; omega
  refine Pure.of ⟨(by simp only [d22, D.sc, scs_map]; intro x _; simp [r24, d24, D.sc, scs_map, r5, d5]), trivial⟩ trivial ?_
  refine CallsIn.of_exec tab_ok mixed Try.func10 rfl rfl [] [] ?_
  repeat (conv => whnf
          first
            | refine PairK.mk (by kernel_rfl) ?_
            | refine And.intro (by decide) ?_
            | refine And.intro rfl ?_
            | refine And.intro (List.cons_ne_nil _ _) ?_
            | refine And.intro (Nat.le_of_ble_eq_true rfl) ?_
            | refine And.intro (by omega) ?_
            | refine And.intro (by simp only [List.length_map, List.length_append, List.length_cons, List.length_nil]; omega) ?_
            | refine And.intro (by simpa only [List.length_map, List.length_append, List.length_cons, List.length_nil] using rfl) ?_
            | refine And.intro (Eq.symm (List.length_map _)) ?_
            | refine And.intro (all_map (fun _ => rfl)) ?_
            | refine And.intro (cells_map (fun _ => rfl)) ?_
            | refine And.intro (rows_map (fun _ => rfl) (fun _ => rfl)) ?_
            | refine And.intro (okRows_one rfl rfl) ?_
            | refine And.intro (okRows_all rfl) ?_
            | refine boolF_t (beq_self_eq_true _) ?_
            | refine Exists.intro _ (And.intro (map_get (by assumption)) ?_)
            | refine Exists.intro _ (And.intro (Eq.refl (α := Option D) _) ?_)
            | refine Exists.intro _ (And.intro (⟨(List.length_map _).symm⟩) ?_)
            | refine Exists.intro _ (And.intro (⟨len_one⟩) ?_)
            | refine Exists.intro _ (And.intro (⟨len_two⟩) ?_)
            | refine Exists.intro _ (And.intro (⟨len_three⟩) ?_)
            | refine Exists.intro _ (And.intro (⟨len_four⟩) ?_)
            | refine Exists.intro _ (And.intro (⟨lenl_1⟩) ?_)
            | refine Exists.intro _ (And.intro (⟨lenl_2⟩) ?_)
            | refine Exists.intro _ (And.intro (⟨lenl_3⟩) ?_)
            | refine Exists.intro _ (And.intro (⟨lenl_4⟩) ?_)
            | refine Exists.intro _ (And.intro (⟨len_more⟩) ?_)
            | refine Exists.intro _ (And.intro (⟨map_slice⟩) ?_)
            | refine Exists.intro _ (And.intro (⟨List.map_take⟩) ?_)
            | refine Exists.intro _ (And.intro (⟨List.map_drop⟩) ?_)
            | refine Exists.intro _ (And.intro (⟨map_full'⟩) ?_)
            | refine Exists.intro _ (And.intro (⟨map_full⟩) ?_)
            | refine Exists.intro _ (And.intro (⟨map_snoc⟩) ?_)
            | refine Exists.intro _ (And.intro (⟨List.map_append⟩) ?_)
            | refine Exists.intro _ (And.intro (⟨Eq.refl (α := List D) _⟩) ?_)
            | refine Exists.intro _ (And.intro (⟨Eq.refl (α := Int) _⟩) (And.intro (by omega) ?_))
            | refine Exists.intro (0) (And.intro (⟨rfl⟩) (And.intro (Nat.zero_le _) ?_))
            | refine Exists.intro _ (And.intro (⟨nc1⟩) (And.intro (by omega) ?_))
            | refine Exists.intro _ (Exists.intro _ (And.intro (⟨Eq.refl (α := Int) _⟩) (And.intro (⟨Eq.refl (α := Int) _⟩) (And.intro (by omega) (And.intro (by omega) ?_)))))
            | refine Exists.intro _ (Exists.intro _ (And.intro (⟨Eq.refl (α := Nat) _⟩) (And.intro (⟨Eq.refl (α := Nat) _⟩) ?_)))
            | refine Exists.intro _ (And.intro (⟨Eq.refl (α := Nat) _⟩) ?_)
            | refine Exists.intro _ (And.intro (u32and (by omega) (by omega)) ?_)
            | refine Exists.intro _ (And.intro (u32or (by omega) (by omega)) ?_)
            | refine Exists.intro _ (And.intro (u32xor (by omega) (by omega)) ?_)
            | refine Exists.intro _ (And.intro (u8xor (by omega) (by omega)) ?_)
            | refine Exists.intro _ (And.intro (u64and (by omega) (by omega)) ?_)
            | refine Exists.intro _ (And.intro (u64or (by omega) (by omega)) ?_)
            | refine Exists.intro _ (And.intro (u64xor (by omega) (by omega)) ?_)
            | refine Exists.intro _ (And.intro (w64 (by omega) (by omega)) ?_)
            | refine Exists.intro _ (And.intro (u32add (by omega)) ?_)
            | refine Exists.intro _ (And.intro (u64add (by omega)) ?_)
            | refine Exists.intro _ (And.intro (u8w (by omega)) ?_)
            | refine Exists.intro _ (And.intro (u32w (by omega)) ?_)
            | refine Exists.intro _ (And.intro (u64w (by omega)) ?_)
            | refine Exists.intro _ (And.intro (u8m) ?_)
            | refine Exists.intro _ (And.intro (u64i (by omega) (by omega)) ?_)
            | refine Exists.intro _ (And.intro (min_int) ?_)
            | refine Exists.intro _ (And.intro (max_int) ?_)
            | refine Exists.intro _ (And.intro (imin) ?_)
            | refine Exists.intro _ (And.intro (imax) ?_))
  conv => whnf
  refine W_loop (ι := Nat) [3, 6, 7, 8] (fun i => ⟨(D.undef :: D.undef :: D.undef :: d23 ((ps.take i).foldl moreS 1) :: D.undef :: D.undef :: d22 ps :: .int .i64 (ps.length : Int) :: .int .i64 (i : Int) :: D.undef :: D.undef :: D.undef :: D.undef :: D.undef :: D.undef :: D.undef :: D.undef :: []), []⟩) (fun i => ps.length - i) (fun i => i ≤ ps.length) 0 rfl (Nat.zero_le _) ?_
  intro i hi
  refine exec_ok tab_ok mixed 1000 (bx := []) (own := []) ?_
  repeat (conv => whnf
          first
            | refine PairK.mk (by kernel_rfl) ?_
            | refine And.intro (by decide) ?_
            | refine And.intro rfl ?_
            | refine And.intro (List.cons_ne_nil _ _) ?_
            | refine And.intro (Nat.le_of_ble_eq_true rfl) ?_
            | refine And.intro (by omega) ?_
            | refine And.intro (by simp only [List.length_map, List.length_append, List.length_cons, List.length_nil]; omega) ?_
            | refine And.intro (by simpa only [List.length_map, List.length_append, List.length_cons, List.length_nil] using rfl) ?_
            | refine And.intro (Eq.symm (List.length_map _)) ?_
            | refine And.intro (all_map (fun _ => rfl)) ?_
            | refine And.intro (cells_map (fun _ => rfl)) ?_
            | refine And.intro (rows_map (fun _ => rfl) (fun _ => rfl)) ?_
            | refine And.intro (okRows_one rfl rfl) ?_
            | refine And.intro (okRows_all rfl) ?_
            | refine boolF_t (beq_self_eq_true _) ?_
            | refine Exists.intro _ (And.intro (map_get (by assumption)) ?_)
            | refine Exists.intro _ (And.intro (Eq.refl (α := Option D) _) ?_)
            | refine Exists.intro _ (And.intro (⟨(List.length_map _).symm⟩) ?_)
            | refine Exists.intro _ (And.intro (⟨len_one⟩) ?_)
            | refine Exists.intro _ (And.intro (⟨len_two⟩) ?_)
            | refine Exists.intro _ (And.intro (⟨len_three⟩) ?_)
            | refine Exists.intro _ (And.intro (⟨len_four⟩) ?_)
            | refine Exists.intro _ (And.intro (⟨lenl_1⟩) ?_)
            | refine Exists.intro _ (And.intro (⟨lenl_2⟩) ?_)
            | refine Exists.intro _ (And.intro (⟨lenl_3⟩) ?_)
            | refine Exists.intro _ (And.intro (⟨lenl_4⟩) ?_)
            | refine Exists.intro _ (And.intro (⟨len_more⟩) ?_)
            | refine Exists.intro _ (And.intro (⟨map_slice⟩) ?_)
            | refine Exists.intro _ (And.intro (⟨List.map_take⟩) ?_)
            | refine Exists.intro _ (And.intro (⟨List.map_drop⟩) ?_)
            | refine Exists.intro _ (And.intro (⟨map_full'⟩) ?_)
            | refine Exists.intro _ (And.intro (⟨map_full⟩) ?_)
            | refine Exists.intro _ (And.intro (⟨map_snoc⟩) ?_)
            | refine Exists.intro _ (And.intro (⟨List.map_append⟩) ?_)
            | refine Exists.intro _ (And.intro (⟨Eq.refl (α := List D) _⟩) ?_)
            | refine Exists.intro _ (And.intro (⟨Eq.refl (α := Int) _⟩) (And.intro (by omega) ?_))
            | refine Exists.intro (0) (And.intro (⟨rfl⟩) (And.intro (Nat.zero_le _) ?_))
            | refine Exists.intro _ (And.intro (⟨nc1⟩) (And.intro (by omega) ?_))
            | refine Exists.intro _ (Exists.intro _ (And.intro (⟨Eq.refl (α := Int) _⟩) (And.intro (⟨Eq.refl (α := Int) _⟩) (And.intro (by omega) (And.intro (by omega) ?_)))))
            | refine Exists.intro _ (Exists.intro _ (And.intro (⟨Eq.refl (α := Nat) _⟩) (And.intro (⟨Eq.refl (α := Nat) _⟩) ?_)))
            | refine Exists.intro _ (And.intro (⟨Eq.refl (α := Nat) _⟩) ?_)
            | refine Exists.intro _ (And.intro (u32and (by omega) (by omega)) ?_)
            | refine Exists.intro _ (And.intro (u32or (by omega) (by omega)) ?_)
            | refine Exists.intro _ (And.intro (u32xor (by omega) (by omega)) ?_)
            | refine Exists.intro _ (And.intro (u8xor (by omega) (by omega)) ?_)
            | refine Exists.intro _ (And.intro (u64and (by omega) (by omega)) ?_)
            | refine Exists.intro _ (And.intro (u64or (by omega) (by omega)) ?_)
            | refine Exists.intro _ (And.intro (u64xor (by omega) (by omega)) ?_)
            | refine Exists.intro _ (And.intro (w64 (by omega) (by omega)) ?_)
            | refine Exists.intro _ (And.intro (u32add (by omega)) ?_)
            | refine Exists.intro _ (And.intro (u64add (by omega)) ?_)
            | refine Exists.intro _ (And.intro (u8w (by omega)) ?_)
            | refine Exists.intro _ (And.intro (u32w (by omega)) ?_)
            | refine Exists.intro _ (And.intro (u64w (by omega)) ?_)
            | refine Exists.intro _ (And.intro (u8m) ?_)
            | refine Exists.intro _ (And.intro (u64i (by omega) (by omega)) ?_)
            | refine Exists.intro _ (And.intro (min_int) ?_)
            | refine Exists.intro _ (And.intro (max_int) ?_)
            | refine Exists.intro _ (And.intro (imin) ?_)
            | refine Exists.intro _ (And.intro (imax) ?_))
  conv => whnf
  refine boolF_split (fun h => ?_) (fun h => ?_)
  · have h : i < ps.length := by simpa using h
    obtain ⟨x, hx⟩ := at_lt h
    have hx8 : okB x := hp.1 x (List.mem_of_getElem? hx)
    repeat (conv => whnf
            first
              | refine PairK.mk (by kernel_rfl) ?_
              | refine And.intro (by decide) ?_
              | refine And.intro rfl ?_
              | refine And.intro (List.cons_ne_nil _ _) ?_
              | refine And.intro (Nat.le_of_ble_eq_true rfl) ?_
              | refine And.intro (by omega) ?_
              | refine And.intro (by simp only [List.length_map, List.length_append, List.length_cons, List.length_nil]; omega) ?_
              | refine And.intro (by simpa only [List.length_map, List.length_append, List.length_cons, List.length_nil] using rfl) ?_
              | refine And.intro (Eq.symm (List.length_map _)) ?_
              | refine And.intro (all_map (fun _ => rfl)) ?_
              | refine And.intro (cells_map (fun _ => rfl)) ?_
              | refine And.intro (rows_map (fun _ => rfl) (fun _ => rfl)) ?_
              | refine And.intro (okRows_one rfl rfl) ?_
              | refine And.intro (okRows_all rfl) ?_
              | refine boolF_t (beq_self_eq_true _) ?_
              | refine Exists.intro _ (And.intro (map_get (by assumption)) ?_)
              | refine Exists.intro _ (And.intro (Eq.refl (α := Option D) _) ?_)
              | refine Exists.intro _ (And.intro (⟨(List.length_map _).symm⟩) ?_)
              | refine Exists.intro _ (And.intro (⟨len_one⟩) ?_)
              | refine Exists.intro _ (And.intro (⟨len_two⟩) ?_)
              | refine Exists.intro _ (And.intro (⟨len_three⟩) ?_)
              | refine Exists.intro _ (And.intro (⟨len_four⟩) ?_)
              | refine Exists.intro _ (And.intro (⟨lenl_1⟩) ?_)
              | refine Exists.intro _ (And.intro (⟨lenl_2⟩) ?_)
              | refine Exists.intro _ (And.intro (⟨lenl_3⟩) ?_)
              | refine Exists.intro _ (And.intro (⟨lenl_4⟩) ?_)
              | refine Exists.intro _ (And.intro (⟨len_more⟩) ?_)
              | refine Exists.intro _ (And.intro (⟨map_slice⟩) ?_)
              | refine Exists.intro _ (And.intro (⟨List.map_take⟩) ?_)
              | refine Exists.intro _ (And.intro (⟨List.map_drop⟩) ?_)
              | refine Exists.intro _ (And.intro (⟨map_full'⟩) ?_)
              | refine Exists.intro _ (And.intro (⟨map_full⟩) ?_)
              | refine Exists.intro _ (And.intro (⟨map_snoc⟩) ?_)
              | refine Exists.intro _ (And.intro (⟨List.map_append⟩) ?_)
              | refine Exists.intro _ (And.intro (⟨Eq.refl (α := List D) _⟩) ?_)
              | refine Exists.intro _ (And.intro (⟨Eq.refl (α := Int) _⟩) (And.intro (by omega) ?_))
              | refine Exists.intro (0) (And.intro (⟨rfl⟩) (And.intro (Nat.zero_le _) ?_))
              | refine Exists.intro _ (And.intro (⟨nc1⟩) (And.intro (by omega) ?_))
              | refine Exists.intro _ (Exists.intro _ (And.intro (⟨Eq.refl (α := Int) _⟩) (And.intro (⟨Eq.refl (α := Int) _⟩) (And.intro (by omega) (And.intro (by omega) ?_)))))
              | refine Exists.intro _ (Exists.intro _ (And.intro (⟨Eq.refl (α := Nat) _⟩) (And.intro (⟨Eq.refl (α := Nat) _⟩) ?_)))
              | refine Exists.intro _ (And.intro (⟨Eq.refl (α := Nat) _⟩) ?_)
              | refine Exists.intro _ (And.intro (u32and (by omega) (by omega)) ?_)
              | refine Exists.intro _ (And.intro (u32or (by omega) (by omega)) ?_)
              | refine Exists.intro _ (And.intro (u32xor (by omega) (by omega)) ?_)
              | refine Exists.intro _ (And.intro (u8xor (by omega) (by omega)) ?_)
              | refine Exists.intro _ (And.intro (u64and (by omega) (by omega)) ?_)
              | refine Exists.intro _ (And.intro (u64or (by omega) (by omega)) ?_)
              | refine Exists.intro _ (And.intro (u64xor (by omega) (by omega)) ?_)
              | refine Exists.intro _ (And.intro (w64 (by omega) (by omega)) ?_)
              | refine Exists.intro _ (And.intro (u32add (by omega)) ?_)
              | refine Exists.intro _ (And.intro (u64add (by omega)) ?_)
              | refine Exists.intro _ (And.intro (u8w (by omega)) ?_)
              | refine Exists.intro _ (And.intro (u32w (by omega)) ?_)
              | refine Exists.intro _ (And.intro (u64w (by omega)) ?_)
              | refine Exists.intro _ (And.intro (u8m) ?_)
              | refine Exists.intro _ (And.intro (u64i (by omega) (by omega)) ?_)
              | refine Exists.intro _ (And.intro (min_int) ?_)
              | refine Exists.intro _ (And.intro (max_int) ?_)
              | refine Exists.intro _ (And.intro (imin) ?_)
              | refine Exists.intro _ (And.intro (imax) ?_))
    conv => whnf
    refine Pure.call (f12_ok ((ps.take i).foldl moreS 1) x (foldMore_lt _ 1 (by omega)) hx8) ?_
    repeat (conv => whnf
            first
              | refine PairK.mk (by kernel_rfl) ?_
              | refine And.intro (by decide) ?_
              | refine And.intro rfl ?_
              | refine And.intro (List.cons_ne_nil _ _) ?_
              | refine And.intro (Nat.le_of_ble_eq_true rfl) ?_
              | refine And.intro (by omega) ?_
              | refine And.intro (by simp only [List.length_map, List.length_append, List.length_cons, List.length_nil]; omega) ?_
              | refine And.intro (by simpa only [List.length_map, List.length_append, List.length_cons, List.length_nil] using rfl) ?_
              | refine And.intro (Eq.symm (List.length_map _)) ?_
              | refine And.intro (all_map (fun _ => rfl)) ?_
              | refine And.intro (cells_map (fun _ => rfl)) ?_
              | refine And.intro (rows_map (fun _ => rfl) (fun _ => rfl)) ?_
              | refine And.intro (okRows_one rfl rfl) ?_
              | refine And.intro (okRows_all rfl) ?_
              | refine boolF_t (beq_self_eq_true _) ?_
              | refine Exists.intro _ (And.intro (map_get (by assumption)) ?_)
              | refine Exists.intro _ (And.intro (Eq.refl (α := Option D) _) ?_)
              | refine Exists.intro _ (And.intro (⟨(List.length_map _).symm⟩) ?_)
              | refine Exists.intro _ (And.intro (⟨len_one⟩) ?_)
              | refine Exists.intro _ (And.intro (⟨len_two⟩) ?_)
              | refine Exists.intro _ (And.intro (⟨len_three⟩) ?_)
              | refine Exists.intro _ (And.intro (⟨len_four⟩) ?_)
              | refine Exists.intro _ (And.intro (⟨lenl_1⟩) ?_)
              | refine Exists.intro _ (And.intro (⟨lenl_2⟩) ?_)
              | refine Exists.intro _ (And.intro (⟨lenl_3⟩) ?_)
              | refine Exists.intro _ (And.intro (⟨lenl_4⟩) ?_)
              | refine Exists.intro _ (And.intro (⟨len_more⟩) ?_)
              | refine Exists.intro _ (And.intro (⟨map_slice⟩) ?_)
              | refine Exists.intro _ (And.intro (⟨List.map_take⟩) ?_)
              | refine Exists.intro _ (And.intro (⟨List.map_drop⟩) ?_)
              | refine Exists.intro _ (And.intro (⟨map_full'⟩) ?_)
              | refine Exists.intro _ (And.intro (⟨map_full⟩) ?_)
              | refine Exists.intro _ (And.intro (⟨map_snoc⟩) ?_)
              | refine Exists.intro _ (And.intro (⟨List.map_append⟩) ?_)
              | refine Exists.intro _ (And.intro (⟨Eq.refl (α := List D) _⟩) ?_)
              | refine Exists.intro _ (And.intro (⟨Eq.refl (α := Int) _⟩) (And.intro (by omega) ?_))
              | refine Exists.intro (0) (And.intro (⟨rfl⟩) (And.intro (Nat.zero_le _) ?_))
              | refine Exists.intro _ (And.intro (⟨nc1⟩) (And.intro (by omega) ?_))
              | refine Exists.intro _ (Exists.intro _ (And.intro (⟨Eq.refl (α := Int) _⟩) (And.intro (⟨Eq.refl (α := Int) _⟩) (And.intro (by omega) (And.intro (by omega) ?_)))))
              | refine Exists.intro _ (Exists.intro _ (And.intro (⟨Eq.refl (α := Nat) _⟩) (And.intro (⟨Eq.refl (α := Nat) _⟩) ?_)))
              | refine Exists.intro _ (And.intro (⟨Eq.refl (α := Nat) _⟩) ?_)
              | refine Exists.intro _ (And.intro (u32and (by omega) (by omega)) ?_)
              | refine Exists.intro _ (And.intro (u32or (by omega) (by omega)) ?_)
              | refine Exists.intro _ (And.intro (u32xor (by omega) (by omega)) ?_)
              | refine Exists.intro _ (And.intro (u8xor (by omega) (by omega)) ?_)
              | refine Exists.intro _ (And.intro (u64and (by omega) (by omega)) ?_)
              | refine Exists.intro _ (And.intro (u64or (by omega) (by omega)) ?_)
              | refine Exists.intro _ (And.intro (u64xor (by omega) (by omega)) ?_)
              | refine Exists.intro _ (And.intro (w64 (by omega) (by omega)) ?_)
              | refine Exists.intro _ (And.intro (u32add (by omega)) ?_)
              | refine Exists.intro _ (And.intro (u64add (by omega)) ?_)
              | refine Exists.intro _ (And.intro (u8w (by omega)) ?_)
              | refine Exists.intro _ (And.intro (u32w (by omega)) ?_)
              | refine Exists.intro _ (And.intro (u64w (by omega)) ?_)
              | refine Exists.intro _ (And.intro (u8m) ?_)
              | refine Exists.intro _ (And.intro (u64i (by omega) (by omega)) ?_)
              | refine Exists.intro _ (And.intro (min_int) ?_)
              | refine Exists.intro _ (And.intro (max_int) ?_)
              | refine Exists.intro _ (And.intro (imin) ?_)
              | refine Exists.intro _ (And.intro (imax) ?_))
    conv => whnf
    refine ⟨i + 1, ?_, by omega, by omega⟩
    rw [foldMore_take hx]
    refine st_eq ?_ rfl
    repeat (first | exact rfl | refine cons_eq rfl ?_ | (refine cons_eq (by rfl) ?_))
  · have h : ps.length ≤ i := by simpa using h
    rw [List.take_of_length_le h]
    repeat (conv => whnf
            first
              | refine PairK.mk (by kernel_rfl) ?_
              | refine And.intro (by decide) ?_
              | refine And.intro rfl ?_
              | refine And.intro (List.cons_ne_nil _ _) ?_
              | refine And.intro (Nat.le_of_ble_eq_true rfl) ?_
              | refine And.intro (by omega) ?_
              | refine And.intro (by simp only [List.length_map, List.length_append, List.length_cons, List.length_nil]; omega) ?_
              | refine And.intro (by simpa only [List.length_map, List.length_append, List.length_cons, List.length_nil] using rfl) ?_
              | refine And.intro (Eq.symm (List.length_map _)) ?_
              | refine And.intro (all_map (fun _ => rfl)) ?_
              | refine And.intro (cells_map (fun _ => rfl)) ?_
              | refine And.intro (rows_map (fun _ => rfl) (fun _ => rfl)) ?_
              | refine And.intro (okRows_one rfl rfl) ?_
              | refine And.intro (okRows_all rfl) ?_
              | refine boolF_t (beq_self_eq_true _) ?_
              | refine Exists.intro _ (And.intro (map_get (by assumption)) ?_)
              | refine Exists.intro _ (And.intro (Eq.refl (α := Option D) _) ?_)
              | refine Exists.intro _ (And.intro (⟨(List.length_map _).symm⟩) ?_)
              | refine Exists.intro _ (And.intro (⟨len_one⟩) ?_)
              | refine Exists.intro _ (And.intro (⟨len_two⟩) ?_)
              | refine Exists.intro _ (And.intro (⟨len_three⟩) ?_)
              | refine Exists.intro _ (And.intro (⟨len_four⟩) ?_)
              | refine Exists.intro _ (And.intro (⟨lenl_1⟩) ?_)
              | refine Exists.intro _ (And.intro (⟨lenl_2⟩) ?_)
              | refine Exists.intro _ (And.intro (⟨lenl_3⟩) ?_)
              | refine Exists.intro _ (And.intro (⟨lenl_4⟩) ?_)
              | refine Exists.intro _ (And.intro (⟨len_more⟩) ?_)
              | refine Exists.intro _ (And.intro (⟨map_slice⟩) ?_)
              | refine Exists.intro _ (And.intro (⟨List.map_take⟩) ?_)
              | refine Exists.intro _ (And.intro (⟨List.map_drop⟩) ?_)
              | refine Exists.intro _ (And.intro (⟨map_full'⟩) ?_)
              | refine Exists.intro _ (And.intro (⟨map_full⟩) ?_)
              | refine Exists.intro _ (And.intro (⟨map_snoc⟩) ?_)
              | refine Exists.intro _ (And.intro (⟨List.map_append⟩) ?_)
              | refine Exists.intro _ (And.intro (⟨Eq.refl (α := List D) _⟩) ?_)
              | refine Exists.intro _ (And.intro (⟨Eq.refl (α := Int) _⟩) (And.intro (by omega) ?_))
              | refine Exists.intro (0) (And.intro (⟨rfl⟩) (And.intro (Nat.zero_le _) ?_))
              | refine Exists.intro _ (And.intro (⟨nc1⟩) (And.intro (by omega) ?_))
              | refine Exists.intro _ (Exists.intro _ (And.intro (⟨Eq.refl (α := Int) _⟩) (And.intro (⟨Eq.refl (α := Int) _⟩) (And.intro (by omega) (And.intro (by omega) ?_)))))
              | refine Exists.intro _ (Exists.intro _ (And.intro (⟨Eq.refl (α := Nat) _⟩) (And.intro (⟨Eq.refl (α := Nat) _⟩) ?_)))
              | refine Exists.intro _ (And.intro (⟨Eq.refl (α := Nat) _⟩) ?_)
              | refine Exists.intro _ (And.intro (u32and (by omega) (by omega)) ?_)
              | refine Exists.intro _ (And.intro (u32or (by omega) (by omega)) ?_)
              | refine Exists.intro _ (And.intro (u32xor (by omega) (by omega)) ?_)
              | refine Exists.intro _ (And.intro (u8xor (by omega) (by omega)) ?_)
              | refine Exists.intro _ (And.intro (u64and (by omega) (by omega)) ?_)
              | refine Exists.intro _ (And.intro (u64or (by omega) (by omega)) ?_)
              | refine Exists.intro _ (And.intro (u64xor (by omega) (by omega)) ?_)
              | refine Exists.intro _ (And.intro (w64 (by omega) (by omega)) ?_)
              | refine Exists.intro _ (And.intro (u32add (by omega)) ?_)
              | refine Exists.intro _ (And.intro (u64add (by omega)) ?_)
              | refine Exists.intro _ (And.intro (u8w (by omega)) ?_)
              | refine Exists.intro _ (And.intro (u32w (by omega)) ?_)
              | refine Exists.intro _ (And.intro (u64w (by omega)) ?_)
              | refine Exists.intro _ (And.intro (u8m) ?_)
              | refine Exists.intro _ (And.intro (u64i (by omega) (by omega)) ?_)
              | refine Exists.intro _ (And.intro (min_int) ?_)
              | refine Exists.intro _ (And.intro (max_int) ?_)
              | refine Exists.intro _ (And.intro (imin) ?_)
              | refine Exists.intro _ (And.intro (imax) ?_))
    conv => whnf
    exact ⟨rfl⟩

def wiki : List (List Nat) := [[87, 105, 107, 105], [112, 101, 100, 105, 97]]
theorem wiki_of : ofS wiki = 300286872 := by decide

theorem f14_ok : Pure Try.prog 14 [] (.bool true) := by
  refine Pure.of trivial trivial ?_
  refine CallsIn.of_exec tab_ok mixed Try.func14 rfl rfl [1, 3] [] ?_
  repeat (conv => whnf
          first
            | refine PairK.mk (by kernel_rfl) ?_
            | refine And.intro (by decide) ?_
            | refine And.intro rfl ?_
            | refine And.intro (List.cons_ne_nil _ _) ?_
            | refine And.intro (Nat.le_of_ble_eq_true rfl) ?_
            | refine And.intro (by omega) ?_
            | refine And.intro (by simp only [List.length_map, List.length_append, List.length_cons, List.length_nil]; omega) ?_
            | refine And.intro (by simpa only [List.length_map, List.length_append, List.length_cons, List.length_nil] using rfl) ?_
            | refine And.intro (Eq.symm (List.length_map _)) ?_
            | refine And.intro (all_map (fun _ => rfl)) ?_
            | refine And.intro (cells_map (fun _ => rfl)) ?_
            | refine And.intro (rows_map (fun _ => rfl) (fun _ => rfl)) ?_
            | refine And.intro (okRows_one rfl rfl) ?_
            | refine And.intro (okRows_all rfl) ?_
            | refine boolF_t (beq_self_eq_true _) ?_
            | refine Exists.intro _ (And.intro (map_get (by assumption)) ?_)
            | refine Exists.intro _ (And.intro (Eq.refl (α := Option D) _) ?_)
            | refine Exists.intro _ (And.intro (⟨(List.length_map _).symm⟩) ?_)
            | refine Exists.intro _ (And.intro (⟨len_one⟩) ?_)
            | refine Exists.intro _ (And.intro (⟨len_two⟩) ?_)
            | refine Exists.intro _ (And.intro (⟨len_three⟩) ?_)
            | refine Exists.intro _ (And.intro (⟨len_four⟩) ?_)
            | refine Exists.intro _ (And.intro (⟨lenl_1⟩) ?_)
            | refine Exists.intro _ (And.intro (⟨lenl_2⟩) ?_)
            | refine Exists.intro _ (And.intro (⟨lenl_3⟩) ?_)
            | refine Exists.intro _ (And.intro (⟨lenl_4⟩) ?_)
            | refine Exists.intro _ (And.intro (⟨len_more⟩) ?_)
            | refine Exists.intro _ (And.intro (⟨map_slice⟩) ?_)
            | refine Exists.intro _ (And.intro (⟨List.map_take⟩) ?_)
            | refine Exists.intro _ (And.intro (⟨List.map_drop⟩) ?_)
            | refine Exists.intro _ (And.intro (⟨map_full'⟩) ?_)
            | refine Exists.intro _ (And.intro (⟨map_full⟩) ?_)
            | refine Exists.intro _ (And.intro (⟨map_snoc⟩) ?_)
            | refine Exists.intro _ (And.intro (⟨List.map_append⟩) ?_)
            | refine Exists.intro _ (And.intro (⟨Eq.refl (α := List D) _⟩) ?_)
            | refine Exists.intro _ (And.intro (⟨Eq.refl (α := Int) _⟩) (And.intro (by omega) ?_))
            | refine Exists.intro (0) (And.intro (⟨rfl⟩) (And.intro (Nat.zero_le _) ?_))
            | refine Exists.intro _ (And.intro (⟨nc1⟩) (And.intro (by omega) ?_))
            | refine Exists.intro _ (Exists.intro _ (And.intro (⟨Eq.refl (α := Int) _⟩) (And.intro (⟨Eq.refl (α := Int) _⟩) (And.intro (by omega) (And.intro (by omega) ?_)))))
            | refine Exists.intro _ (Exists.intro _ (And.intro (⟨Eq.refl (α := Nat) _⟩) (And.intro (⟨Eq.refl (α := Nat) _⟩) ?_)))
            | refine Exists.intro _ (And.intro (⟨Eq.refl (α := Nat) _⟩) ?_)
            | refine Exists.intro _ (And.intro (u32and (by omega) (by omega)) ?_)
            | refine Exists.intro _ (And.intro (u32or (by omega) (by omega)) ?_)
            | refine Exists.intro _ (And.intro (u32xor (by omega) (by omega)) ?_)
            | refine Exists.intro _ (And.intro (u8xor (by omega) (by omega)) ?_)
            | refine Exists.intro _ (And.intro (u64and (by omega) (by omega)) ?_)
            | refine Exists.intro _ (And.intro (u64or (by omega) (by omega)) ?_)
            | refine Exists.intro _ (And.intro (u64xor (by omega) (by omega)) ?_)
            | refine Exists.intro _ (And.intro (w64 (by omega) (by omega)) ?_)
            | refine Exists.intro _ (And.intro (u32add (by omega)) ?_)
            | refine Exists.intro _ (And.intro (u64add (by omega)) ?_)
            | refine Exists.intro _ (And.intro (u8w (by omega)) ?_)
            | refine Exists.intro _ (And.intro (u32w (by omega)) ?_)
            | refine Exists.intro _ (And.intro (u64w (by omega)) ?_)
            | refine Exists.intro _ (And.intro (u8m) ?_)
            | refine Exists.intro _ (And.intro (u64i (by omega) (by omega)) ?_)
            | refine Exists.intro _ (And.intro (min_int) ?_)
            | refine Exists.intro _ (And.intro (max_int) ?_)
            | refine Exists.intro _ (And.intro (imin) ?_)
            | refine Exists.intro _ (And.intro (imax) ?_))
  conv => whnf
  refine Pure.call (f10_ok wiki ?_) ?_
  · simp [okBs, okB, ok5, wiki, td24]
  rw [wiki_of]
  repeat (conv => whnf
          first
            | refine PairK.mk (by kernel_rfl) ?_
            | refine And.intro (by decide) ?_
            | refine And.intro rfl ?_
            | refine And.intro (List.cons_ne_nil _ _) ?_
            | refine And.intro (Nat.le_of_ble_eq_true rfl) ?_
            | refine And.intro (by omega) ?_
            | refine And.intro (by simp only [List.length_map, List.length_append, List.length_cons, List.length_nil]; omega) ?_
            | refine And.intro (by simpa only [List.length_map, List.length_append, List.length_cons, List.length_nil] using rfl) ?_
            | refine And.intro (Eq.symm (List.length_map _)) ?_
            | refine And.intro (all_map (fun _ => rfl)) ?_
            | refine And.intro (cells_map (fun _ => rfl)) ?_
            | refine And.intro (rows_map (fun _ => rfl) (fun _ => rfl)) ?_
            | refine And.intro (okRows_one rfl rfl) ?_
            | refine And.intro (okRows_all rfl) ?_
            | refine boolF_t (beq_self_eq_true _) ?_
            | refine Exists.intro _ (And.intro (map_get (by assumption)) ?_)
            | refine Exists.intro _ (And.intro (Eq.refl (α := Option D) _) ?_)
            | refine Exists.intro _ (And.intro (⟨(List.length_map _).symm⟩) ?_)
            | refine Exists.intro _ (And.intro (⟨len_one⟩) ?_)
            | refine Exists.intro _ (And.intro (⟨len_two⟩) ?_)
            | refine Exists.intro _ (And.intro (⟨len_three⟩) ?_)
            | refine Exists.intro _ (And.intro (⟨len_four⟩) ?_)
            | refine Exists.intro _ (And.intro (⟨lenl_1⟩) ?_)
            | refine Exists.intro _ (And.intro (⟨lenl_2⟩) ?_)
            | refine Exists.intro _ (And.intro (⟨lenl_3⟩) ?_)
            | refine Exists.intro _ (And.intro (⟨lenl_4⟩) ?_)
            | refine Exists.intro _ (And.intro (⟨len_more⟩) ?_)
            | refine Exists.intro _ (And.intro (⟨map_slice⟩) ?_)
            | refine Exists.intro _ (And.intro (⟨List.map_take⟩) ?_)
            | refine Exists.intro _ (And.intro (⟨List.map_drop⟩) ?_)
            | refine Exists.intro _ (And.intro (⟨map_full'⟩) ?_)
            | refine Exists.intro _ (And.intro (⟨map_full⟩) ?_)
            | refine Exists.intro _ (And.intro (⟨map_snoc⟩) ?_)
            | refine Exists.intro _ (And.intro (⟨List.map_append⟩) ?_)
            | refine Exists.intro _ (And.intro (⟨Eq.refl (α := List D) _⟩) ?_)
            | refine Exists.intro _ (And.intro (⟨Eq.refl (α := Int) _⟩) (And.intro (by omega) ?_))
            | refine Exists.intro (0) (And.intro (⟨rfl⟩) (And.intro (Nat.zero_le _) ?_))
            | refine Exists.intro _ (And.intro (⟨nc1⟩) (And.intro (by omega) ?_))
            | refine Exists.intro _ (Exists.intro _ (And.intro (⟨Eq.refl (α := Int) _⟩) (And.intro (⟨Eq.refl (α := Int) _⟩) (And.intro (by omega) (And.intro (by omega) ?_)))))
            | refine Exists.intro _ (Exists.intro _ (And.intro (⟨Eq.refl (α := Nat) _⟩) (And.intro (⟨Eq.refl (α := Nat) _⟩) ?_)))
            | refine Exists.intro _ (And.intro (⟨Eq.refl (α := Nat) _⟩) ?_)
            | refine Exists.intro _ (And.intro (u32and (by omega) (by omega)) ?_)
            | refine Exists.intro _ (And.intro (u32or (by omega) (by omega)) ?_)
            | refine Exists.intro _ (And.intro (u32xor (by omega) (by omega)) ?_)
            | refine Exists.intro _ (And.intro (u8xor (by omega) (by omega)) ?_)
            | refine Exists.intro _ (And.intro (u64and (by omega) (by omega)) ?_)
            | refine Exists.intro _ (And.intro (u64or (by omega) (by omega)) ?_)
            | refine Exists.intro _ (And.intro (u64xor (by omega) (by omega)) ?_)
            | refine Exists.intro _ (And.intro (w64 (by omega) (by omega)) ?_)
            | refine Exists.intro _ (And.intro (u32add (by omega)) ?_)
            | refine Exists.intro _ (And.intro (u64add (by omega)) ?_)
            | refine Exists.intro _ (And.intro (u8w (by omega)) ?_)
            | refine Exists.intro _ (And.intro (u32w (by omega)) ?_)
            | refine Exists.intro _ (And.intro (u64w (by omega)) ?_)
            | refine Exists.intro _ (And.intro (u8m) ?_)
            | refine Exists.intro _ (And.intro (u64i (by omega) (by omega)) ?_)
            | refine Exists.intro _ (And.intro (min_int) ?_)
            | refine Exists.intro _ (And.intro (max_int) ?_)
            | refine Exists.intro _ (And.intro (imin) ?_)
            | refine Exists.intro _ (And.intro (imax) ?_))
  conv => whnf
  exact ⟨rfl⟩

end Go.Proofs.Ythlngafnlnincaa

