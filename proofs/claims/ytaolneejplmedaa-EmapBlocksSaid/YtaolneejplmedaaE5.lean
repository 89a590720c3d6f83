import Derived.Test.YtaolneejplmedaaE4
namespace Go.Proofs.Ytaolneejplmedaa
open Go.A
set_option linter.unusedVariables false
set_option linter.unusedSimpArgs false
set_option linter.unnecessarySimpa false
attribute [local irreducible] IntKind.wrap bitsI
set_option maxRecDepth 100000
set_option maxHeartbeats 4000000

theorem listP_take {a : Int} : ∀ {l : List X} {i : Nat}, listP a l → listP a (l.take i)
  | _, 0, _ => by simp [listP]
  | [], _ + 1, _ => trivial
  | x :: l, i + 1, h => ⟨h.1, h.2.1, listP_take h.2.2⟩

theorem addL_empty {out : List X} {x : X} (h : out.length = 0) : addL out x = out ++ [x] := by
  obtain rfl := List.length_eq_zero_iff.mp h
  rfl
theorem addL_meet {out : List X} {x y : X} (hy : out[out.length - 1]? = some y) (hm : meets y x) : addL out x = out.set (out.length - 1) ⟨y.off_, y.len_ + x.len_, y.phys_, y.birth_⟩ := by
  rw [addL, hy]; exact if_pos hm
theorem addL_apart {out : List X} {x y : X} (hy : out[out.length - 1]? = some y) (hm : ¬ meets y x) : addL out x = out ++ [x] := by
  rw [addL, hy]; exact if_neg hm
theorem addL_len (out : List X) (x : X) : (addL out x).length ≤ out.length + 1 := by
  unfold addL
  split
  · split
    · rw [List.length_set]; omega
    · simp
  · simp
theorem join_len : ∀ (l out : List X), (l.foldl addL out).length ≤ out.length + l.length
  | [], out => by simp
  | x :: l, out => by
    have := join_len l (addL out x)
    have := addL_len out x
    rw [List.foldl_cons, List.length_cons]; omega
theorem join_snoc {l : List X} {i : Nat} {x : X} (h : l[i]? = some x) : joinL (l.take (i + 1)) = addL (joinL (l.take i)) x := by
  rw [take_snoc h, joinL, List.foldl_append]; rfl
theorem row_last {n : Nat} (hn : 0 < n) (bb : Bool) (l : List D) (d : D) : setRow bb l (0 + ((n : Int) - 1).toNat) d = l.set (n - 1) d := by
  rw [setRow_eq]; congr 1; omega

theorem f32_ok (l : List X) (hl : listP 0 l) : Owned Try.prog 32 [d22 l] 4 ((joinL l).map r29) := by
  have hlen := listP_short hl
  refine Owned.of ⟨sc22 _ _, trivial⟩ (scr29 _ _) ?_
  refine CallsIn.of_exec tab_ok mixed Try.func32 rfl rfl [] [] ?_
  repeat' ((conv => whnf); first
    | refine PairK.mk (by kernel_rfl) ?_ | refine Exists.intro _ (And.intro (map_at (by omega) hx) ?_) | refine Exists.intro _ (And.intro (map_at (by omega) hy) ?_) | refine And.intro (by decide) ?_ | refine And.intro rfl ?_ | refine And.intro (List.cons_ne_nil _ _) ?_ | refine And.intro (Nat.le_of_ble_eq_true rfl) ?_ | refine And.intro (by omega) ?_ | refine And.intro (by simp only [List.length_map, List.length_append, List.length_cons, List.length_nil]; omega) ?_ | refine And.intro (by simpa only [List.length_map, List.length_append, List.length_cons, List.length_nil] using rfl) ?_
    | refine And.intro (Eq.symm (List.length_map _)) ?_ | refine And.intro (all_map (fun _ => rfl)) ?_ | refine And.intro (cells_map (fun _ => rfl)) ?_ | refine And.intro (rows_map (fun _ => rfl) (fun _ => rfl)) ?_ | refine And.intro (okRows_one rfl rfl) ?_ | refine And.intro (okRows_all rfl) ?_ | refine boolF_t (beq_self_eq_true _) ?_ | refine Exists.intro _ (And.intro (map_get (by assumption)) ?_) | refine Exists.intro _ (And.intro (Eq.refl (α := Option D) _) ?_) | refine Exists.intro _ (And.intro (⟨(List.length_map _).symm⟩) ?_) | refine Exists.intro _ (And.intro (⟨len_one⟩) ?_)
    | refine Exists.intro _ (And.intro (⟨len_two⟩) ?_) | refine Exists.intro _ (And.intro (⟨len_three⟩) ?_) | refine Exists.intro _ (And.intro (⟨len_four⟩) ?_) | refine Exists.intro _ (And.intro (⟨lenl_1⟩) ?_) | refine Exists.intro _ (And.intro (⟨lenl_2⟩) ?_) | refine Exists.intro _ (And.intro (⟨lenl_3⟩) ?_) | refine Exists.intro _ (And.intro (⟨lenl_4⟩) ?_) | refine Exists.intro _ (And.intro (⟨len_more⟩) ?_) | refine Exists.intro _ (And.intro (⟨map_slice⟩) ?_) | refine Exists.intro _ (And.intro (⟨List.map_take⟩) ?_) | refine Exists.intro _ (And.intro (⟨List.map_drop⟩) ?_)
    | refine Exists.intro _ (And.intro (⟨map_full'⟩) ?_) | refine Exists.intro _ (And.intro (⟨map_full⟩) ?_) | refine Exists.intro _ (And.intro (⟨map_snoc⟩) ?_) | refine Exists.intro _ (And.intro (⟨List.map_append⟩) ?_) | refine Exists.intro _ (And.intro (⟨Eq.refl (α := List D) _⟩) ?_) | refine Exists.intro _ (And.intro (⟨Eq.refl (α := Int) _⟩) (And.intro (by omega) ?_)) | refine Exists.intro (0) (And.intro (⟨rfl⟩) (And.intro (Nat.zero_le _) ?_)) | refine Exists.intro _ (And.intro (⟨nc1⟩) (And.intro (by omega) ?_))
    | refine Exists.intro _ (Exists.intro _ (And.intro (⟨Eq.refl (α := Int) _⟩) (And.intro (⟨Eq.refl (α := Int) _⟩) (And.intro (by omega) (And.intro (by omega) ?_))))) | refine Exists.intro _ (Exists.intro _ (And.intro (⟨Eq.refl (α := Nat) _⟩) (And.intro (⟨Eq.refl (α := Nat) _⟩) ?_))) | refine Exists.intro _ (And.intro (⟨Eq.refl (α := Nat) _⟩) ?_) | refine Exists.intro _ (And.intro (w64 (by omega) (by omega)) ?_) | refine Exists.intro _ (And.intro (imin) ?_) | refine Exists.intro _ (And.intro (imax) ?_) | refine Pure.call (f28_ok _ _ hym) ?_ | refine Pure.locK (f28_ok _ _ hym) ?_
    | refine boolF_not ?_ | refine boolF_dect rfl ?_ | refine boolF_dect (by assumption) ?_ | refine boolF_decf (by assumption) ?_ | refine boolF_dect (by omega) ?_ | refine boolF_decf (by omega) ?_ | refine boolF_beqt (by omega) ?_ | refine boolF_beqf (by omega) ?_ | refine boolF_bnet (by omega) ?_ | refine boolF_bnef (by omega) ?_ | refine boolF_t (by assumption) ?_ | refine boolF_f (by assumption) ?_ | refine boolF_dec (fun _ => ?_) (fun _ => ?_) | refine boolF_beq (fun _ => ?_) (fun _ => ?_) | refine boolF_bne (fun _ => ?_) (fun _ => ?_) | refine boolF_leq (fun _ => ?_) (fun _ => ?_)
    | refine Both.mk ?_ ?_)
  all_goals (conv => whnf)
  refine W_loopG (ι := Nat × Nat) (fun i => ⟨(d22 l :: D.undef :: D.undef :: .h 0 i.2 0 (joinL (l.take i.1)).length :: .int .i64 (i.1:Int) :: D.undef :: D.undef :: D.undef :: D.undef :: D.undef :: D.undef :: D.undef :: D.undef :: D.undef :: D.undef :: D.undef :: D.undef :: D.undef :: D.undef :: D.undef :: D.undef :: D.undef :: D.undef :: D.undef :: D.undef :: D.undef :: D.undef :: D.undef :: D.undef :: D.undef :: D.undef :: D.undef :: D.undef :: D.undef :: D.undef :: D.undef :: D.undef :: D.undef :: D.undef :: D.undef :: D.undef :: D.undef :: D.undef :: D.undef :: D.undef :: D.undef :: D.undef :: D.undef :: D.undef :: D.undef :: []), [.arr i.2 4 ((joinL (l.take i.1)).map r29)]⟩) (fun i => l.length - i.1)
    (fun i => i.1 ≤ l.length) (0, 0) ((Ghost.hold [0, 3, 4] rfl).trans (Ghost.mat (t := 3) (sz := 4) rfl)) (Nat.zero_le _) ?_
  rintro ⟨i, ver⟩ h1
  dsimp only at h1 ⊢
  refine exec_ok tab_ok mixed 1000 (bx := [false]) (own := []) ?_
  have hjl := join_len (l.take i) []
  rw [List.length_take] at hjl
  have hjl : (joinL (l.take i)).length ≤ 1024 := by simp only [joinL, List.length_nil] at hjl ⊢; omega
  rcases Nat.lt_or_ge i l.length with h | h
  · obtain ⟨x, hx⟩ := at_lt h
    have hs := join_snoc hx
    have hj := (joinL_ok (listP_take (i := i) hl)).1
    obtain ⟨hm, _⟩ := listP_mem hl x (List.mem_of_getElem? hx)
    simp only [mayX, far] at hm
    obtain ⟨out, ho⟩ : ∃ out, out = joinL (l.take i) := ⟨_, rfl⟩
    rw [← ho] at hs hj hjl ⊢
    rcases Nat.eq_zero_or_pos out.length with h0 | h0
    · rw [addL_empty h0] at hs
      repeat' ((conv => whnf); first
        | refine PairK.mk (by kernel_rfl) ?_ | refine Exists.intro _ (And.intro (map_at (by omega) hx) ?_) | refine Exists.intro _ (And.intro (map_at (by omega) hy) ?_) | refine And.intro (by decide) ?_ | refine And.intro rfl ?_ | refine And.intro (List.cons_ne_nil _ _) ?_ | refine And.intro (Nat.le_of_ble_eq_true rfl) ?_ | refine And.intro (by omega) ?_ | refine And.intro (by simp only [List.length_map, List.length_append, List.length_cons, List.length_nil]; omega) ?_ | refine And.intro (by simpa only [List.length_map, List.length_append, List.length_cons, List.length_nil] using rfl) ?_
        | refine And.intro (Eq.symm (List.length_map _)) ?_ | refine And.intro (all_map (fun _ => rfl)) ?_ | refine And.intro (cells_map (fun _ => rfl)) ?_ | refine And.intro (rows_map (fun _ => rfl) (fun _ => rfl)) ?_ | refine And.intro (okRows_one rfl rfl) ?_ | refine And.intro (okRows_all rfl) ?_ | refine boolF_t (beq_self_eq_true _) ?_ | refine Exists.intro _ (And.intro (map_get (by assumption)) ?_) | refine Exists.intro _ (And.intro (Eq.refl (α := Option D) _) ?_) | refine Exists.intro _ (And.intro (⟨(List.length_map _).symm⟩) ?_) | refine Exists.intro _ (And.intro (⟨len_one⟩) ?_)
        | refine Exists.intro _ (And.intro (⟨len_two⟩) ?_) | refine Exists.intro _ (And.intro (⟨len_three⟩) ?_) | refine Exists.intro _ (And.intro (⟨len_four⟩) ?_) | refine Exists.intro _ (And.intro (⟨lenl_1⟩) ?_) | refine Exists.intro _ (And.intro (⟨lenl_2⟩) ?_) | refine Exists.intro _ (And.intro (⟨lenl_3⟩) ?_) | refine Exists.intro _ (And.intro (⟨lenl_4⟩) ?_) | refine Exists.intro _ (And.intro (⟨len_more⟩) ?_) | refine Exists.intro _ (And.intro (⟨map_slice⟩) ?_) | refine Exists.intro _ (And.intro (⟨List.map_take⟩) ?_) | refine Exists.intro _ (And.intro (⟨List.map_drop⟩) ?_)
        | refine Exists.intro _ (And.intro (⟨map_full'⟩) ?_) | refine Exists.intro _ (And.intro (⟨map_full⟩) ?_) | refine Exists.intro _ (And.intro (⟨map_snoc⟩) ?_) | refine Exists.intro _ (And.intro (⟨List.map_append⟩) ?_) | refine Exists.intro _ (And.intro (⟨Eq.refl (α := List D) _⟩) ?_) | refine Exists.intro _ (And.intro (⟨Eq.refl (α := Int) _⟩) (And.intro (by omega) ?_)) | refine Exists.intro (0) (And.intro (⟨rfl⟩) (And.intro (Nat.zero_le _) ?_)) | refine Exists.intro _ (And.intro (⟨nc1⟩) (And.intro (by omega) ?_))
        | refine Exists.intro _ (Exists.intro _ (And.intro (⟨Eq.refl (α := Int) _⟩) (And.intro (⟨Eq.refl (α := Int) _⟩) (And.intro (by omega) (And.intro (by omega) ?_))))) | refine Exists.intro _ (Exists.intro _ (And.intro (⟨Eq.refl (α := Nat) _⟩) (And.intro (⟨Eq.refl (α := Nat) _⟩) ?_))) | refine Exists.intro _ (And.intro (⟨Eq.refl (α := Nat) _⟩) ?_) | refine Exists.intro _ (And.intro (w64 (by omega) (by omega)) ?_) | refine Exists.intro _ (And.intro (imin) ?_) | refine Exists.intro _ (And.intro (imax) ?_) | refine Pure.call (f28_ok _ _ hym) ?_ | refine Pure.locK (f28_ok _ _ hym) ?_
        | refine boolF_not ?_ | refine boolF_dect rfl ?_ | refine boolF_dect (by assumption) ?_ | refine boolF_decf (by assumption) ?_ | refine boolF_dect (by omega) ?_ | refine boolF_decf (by omega) ?_ | refine boolF_beqt (by omega) ?_ | refine boolF_beqf (by omega) ?_ | refine boolF_bnet (by omega) ?_ | refine boolF_bnef (by omega) ?_ | refine boolF_t (by assumption) ?_ | refine boolF_f (by assumption) ?_ | refine boolF_dec (fun _ => ?_) (fun _ => ?_) | refine boolF_beq (fun _ => ?_) (fun _ => ?_) | refine boolF_bne (fun _ => ?_) (fun _ => ?_) | refine boolF_leq (fun _ => ?_) (fun _ => ?_)
        | refine Both.mk ?_ ?_)
      all_goals (conv => whnf)
      refine ⟨(i + 1, ver + 1), Ghost.hold [0, 3, 4] ?_, by dsimp only; omega, by dsimp only; omega⟩
      dsimp only; rw [hs, List.length_append, List.map_append]; rfl
    · obtain ⟨y, hy⟩ := at_lt (l := out) (i := out.length - 1) (by omega)
      obtain ⟨hym, _⟩ := listP_mem hj.2.1 y (List.mem_of_getElem? hy)
      have hym' := hym
      simp only [mayX, far] at hym'
      by_cases hmt : meets y x
      · rw [addL_meet hy hmt] at hs
        repeat' ((conv => whnf); first
          | refine PairK.mk (by kernel_rfl) ?_ | refine Exists.intro _ (And.intro (map_at (by omega) hx) ?_) | refine Exists.intro _ (And.intro (map_at (by omega) hy) ?_) | refine And.intro (by decide) ?_ | refine And.intro rfl ?_ | refine And.intro (List.cons_ne_nil _ _) ?_ | refine And.intro (Nat.le_of_ble_eq_true rfl) ?_ | refine And.intro (by omega) ?_ | refine And.intro (by simp only [List.length_map, List.length_append, List.length_cons, List.length_nil]; omega) ?_ | refine And.intro (by simpa only [List.length_map, List.length_append, List.length_cons, List.length_nil] using rfl) ?_
          | refine And.intro (Eq.symm (List.length_map _)) ?_ | refine And.intro (all_map (fun _ => rfl)) ?_ | refine And.intro (cells_map (fun _ => rfl)) ?_ | refine And.intro (rows_map (fun _ => rfl) (fun _ => rfl)) ?_ | refine And.intro (okRows_one rfl rfl) ?_ | refine And.intro (okRows_all rfl) ?_ | refine boolF_t (beq_self_eq_true _) ?_ | refine Exists.intro _ (And.intro (map_get (by assumption)) ?_) | refine Exists.intro _ (And.intro (Eq.refl (α := Option D) _) ?_) | refine Exists.intro _ (And.intro (⟨(List.length_map _).symm⟩) ?_) | refine Exists.intro _ (And.intro (⟨len_one⟩) ?_)
          | refine Exists.intro _ (And.intro (⟨len_two⟩) ?_) | refine Exists.intro _ (And.intro (⟨len_three⟩) ?_) | refine Exists.intro _ (And.intro (⟨len_four⟩) ?_) | refine Exists.intro _ (And.intro (⟨lenl_1⟩) ?_) | refine Exists.intro _ (And.intro (⟨lenl_2⟩) ?_) | refine Exists.intro _ (And.intro (⟨lenl_3⟩) ?_) | refine Exists.intro _ (And.intro (⟨lenl_4⟩) ?_) | refine Exists.intro _ (And.intro (⟨len_more⟩) ?_) | refine Exists.intro _ (And.intro (⟨map_slice⟩) ?_) | refine Exists.intro _ (And.intro (⟨List.map_take⟩) ?_) | refine Exists.intro _ (And.intro (⟨List.map_drop⟩) ?_)
          | refine Exists.intro _ (And.intro (⟨map_full'⟩) ?_) | refine Exists.intro _ (And.intro (⟨map_full⟩) ?_) | refine Exists.intro _ (And.intro (⟨map_snoc⟩) ?_) | refine Exists.intro _ (And.intro (⟨List.map_append⟩) ?_) | refine Exists.intro _ (And.intro (⟨Eq.refl (α := List D) _⟩) ?_) | refine Exists.intro _ (And.intro (⟨Eq.refl (α := Int) _⟩) (And.intro (by omega) ?_)) | refine Exists.intro (0) (And.intro (⟨rfl⟩) (And.intro (Nat.zero_le _) ?_)) | refine Exists.intro _ (And.intro (⟨nc1⟩) (And.intro (by omega) ?_))
          | refine Exists.intro _ (Exists.intro _ (And.intro (⟨Eq.refl (α := Int) _⟩) (And.intro (⟨Eq.refl (α := Int) _⟩) (And.intro (by omega) (And.intro (by omega) ?_))))) | refine Exists.intro _ (Exists.intro _ (And.intro (⟨Eq.refl (α := Nat) _⟩) (And.intro (⟨Eq.refl (α := Nat) _⟩) ?_))) | refine Exists.intro _ (And.intro (⟨Eq.refl (α := Nat) _⟩) ?_) | refine Exists.intro _ (And.intro (w64 (by omega) (by omega)) ?_) | refine Exists.intro _ (And.intro (imin) ?_) | refine Exists.intro _ (And.intro (imax) ?_) | refine Pure.call (f28_ok _ _ hym) ?_ | refine Pure.locK (f28_ok _ _ hym) ?_
          | refine boolF_not ?_ | refine boolF_dect rfl ?_ | refine boolF_dect (by assumption) ?_ | refine boolF_decf (by assumption) ?_ | refine boolF_dect (by omega) ?_ | refine boolF_decf (by omega) ?_ | refine boolF_beqt (by omega) ?_ | refine boolF_beqf (by omega) ?_ | refine boolF_bnet (by omega) ?_ | refine boolF_bnef (by omega) ?_ | refine boolF_t (by assumption) ?_ | refine boolF_f (by assumption) ?_ | refine boolF_dec (fun _ => ?_) (fun _ => ?_) | refine boolF_beq (fun _ => ?_) (fun _ => ?_) | refine boolF_bne (fun _ => ?_) (fun _ => ?_) | refine boolF_leq (fun _ => ?_) (fun _ => ?_)
          | refine Both.mk ?_ ?_)
        all_goals (conv => whnf)
        refine ⟨(i + 1, ver), Ghost.hold [0, 3, 4] ?_, by dsimp only; omega, by dsimp only; omega⟩
        dsimp only; rw [hs, List.length_set, List.map_set, ← row_last h0 false]; rfl
      · rw [addL_apart hy hmt] at hs
        repeat' ((conv => whnf); first
          | refine PairK.mk (by kernel_rfl) ?_ | refine Exists.intro _ (And.intro (map_at (by omega) hx) ?_) | refine Exists.intro _ (And.intro (map_at (by omega) hy) ?_) | refine And.intro (by decide) ?_ | refine And.intro rfl ?_ | refine And.intro (List.cons_ne_nil _ _) ?_ | refine And.intro (Nat.le_of_ble_eq_true rfl) ?_ | refine And.intro (by omega) ?_ | refine And.intro (by simp only [List.length_map, List.length_append, List.length_cons, List.length_nil]; omega) ?_ | refine And.intro (by simpa only [List.length_map, List.length_append, List.length_cons, List.length_nil] using rfl) ?_
          | refine And.intro (Eq.symm (List.length_map _)) ?_ | refine And.intro (all_map (fun _ => rfl)) ?_ | refine And.intro (cells_map (fun _ => rfl)) ?_ | refine And.intro (rows_map (fun _ => rfl) (fun _ => rfl)) ?_ | refine And.intro (okRows_one rfl rfl) ?_ | refine And.intro (okRows_all rfl) ?_ | refine boolF_t (beq_self_eq_true _) ?_ | refine Exists.intro _ (And.intro (map_get (by assumption)) ?_) | refine Exists.intro _ (And.intro (Eq.refl (α := Option D) _) ?_) | refine Exists.intro _ (And.intro (⟨(List.length_map _).symm⟩) ?_) | refine Exists.intro _ (And.intro (⟨len_one⟩) ?_)
          | refine Exists.intro _ (And.intro (⟨len_two⟩) ?_) | refine Exists.intro _ (And.intro (⟨len_three⟩) ?_) | refine Exists.intro _ (And.intro (⟨len_four⟩) ?_) | refine Exists.intro _ (And.intro (⟨lenl_1⟩) ?_) | refine Exists.intro _ (And.intro (⟨lenl_2⟩) ?_) | refine Exists.intro _ (And.intro (⟨lenl_3⟩) ?_) | refine Exists.intro _ (And.intro (⟨lenl_4⟩) ?_) | refine Exists.intro _ (And.intro (⟨len_more⟩) ?_) | refine Exists.intro _ (And.intro (⟨map_slice⟩) ?_) | refine Exists.intro _ (And.intro (⟨List.map_take⟩) ?_) | refine Exists.intro _ (And.intro (⟨List.map_drop⟩) ?_)
          | refine Exists.intro _ (And.intro (⟨map_full'⟩) ?_) | refine Exists.intro _ (And.intro (⟨map_full⟩) ?_) | refine Exists.intro _ (And.intro (⟨map_snoc⟩) ?_) | refine Exists.intro _ (And.intro (⟨List.map_append⟩) ?_) | refine Exists.intro _ (And.intro (⟨Eq.refl (α := List D) _⟩) ?_) | refine Exists.intro _ (And.intro (⟨Eq.refl (α := Int) _⟩) (And.intro (by omega) ?_)) | refine Exists.intro (0) (And.intro (⟨rfl⟩) (And.intro (Nat.zero_le _) ?_)) | refine Exists.intro _ (And.intro (⟨nc1⟩) (And.intro (by omega) ?_))
          | refine Exists.intro _ (Exists.intro _ (And.intro (⟨Eq.refl (α := Int) _⟩) (And.intro (⟨Eq.refl (α := Int) _⟩) (And.intro (by omega) (And.intro (by omega) ?_))))) | refine Exists.intro _ (Exists.intro _ (And.intro (⟨Eq.refl (α := Nat) _⟩) (And.intro (⟨Eq.refl (α := Nat) _⟩) ?_))) | refine Exists.intro _ (And.intro (⟨Eq.refl (α := Nat) _⟩) ?_) | refine Exists.intro _ (And.intro (w64 (by omega) (by omega)) ?_) | refine Exists.intro _ (And.intro (imin) ?_) | refine Exists.intro _ (And.intro (imax) ?_) | refine Pure.call (f28_ok _ _ hym) ?_ | refine Pure.locK (f28_ok _ _ hym) ?_
          | refine boolF_not ?_ | refine boolF_dect rfl ?_ | refine boolF_dect (by assumption) ?_ | refine boolF_decf (by assumption) ?_ | refine boolF_dect (by omega) ?_ | refine boolF_decf (by omega) ?_ | refine boolF_beqt (by omega) ?_ | refine boolF_beqf (by omega) ?_ | refine boolF_bnet (by omega) ?_ | refine boolF_bnef (by omega) ?_ | refine boolF_t (by assumption) ?_ | refine boolF_f (by assumption) ?_ | refine boolF_dec (fun _ => ?_) (fun _ => ?_) | refine boolF_beq (fun _ => ?_) (fun _ => ?_) | refine boolF_bne (fun _ => ?_) (fun _ => ?_) | refine boolF_leq (fun _ => ?_) (fun _ => ?_)
          | refine Both.mk ?_ ?_)
        all_goals (conv => whnf)
        refine ⟨(i + 1, ver + 1), Ghost.hold [0, 3, 4] ?_, by dsimp only; omega, by dsimp only; omega⟩
        dsimp only; rw [hs, List.length_append, List.map_append]; rfl
  · have e : l.take i = l := List.take_of_length_le h
    rw [e]
    repeat' ((conv => whnf); first
      | refine PairK.mk (by kernel_rfl) ?_ | refine Exists.intro _ (And.intro (map_at (by omega) hx) ?_) | refine Exists.intro _ (And.intro (map_at (by omega) hy) ?_) | refine And.intro (by decide) ?_ | refine And.intro rfl ?_ | refine And.intro (List.cons_ne_nil _ _) ?_ | refine And.intro (Nat.le_of_ble_eq_true rfl) ?_ | refine And.intro (by omega) ?_ | refine And.intro (by simp only [List.length_map, List.length_append, List.length_cons, List.length_nil]; omega) ?_ | refine And.intro (by simpa only [List.length_map, List.length_append, List.length_cons, List.length_nil] using rfl) ?_
      | refine And.intro (Eq.symm (List.length_map _)) ?_ | refine And.intro (all_map (fun _ => rfl)) ?_ | refine And.intro (cells_map (fun _ => rfl)) ?_ | refine And.intro (rows_map (fun _ => rfl) (fun _ => rfl)) ?_ | refine And.intro (okRows_one rfl rfl) ?_ | refine And.intro (okRows_all rfl) ?_ | refine boolF_t (beq_self_eq_true _) ?_ | refine Exists.intro _ (And.intro (map_get (by assumption)) ?_) | refine Exists.intro _ (And.intro (Eq.refl (α := Option D) _) ?_) | refine Exists.intro _ (And.intro (⟨(List.length_map _).symm⟩) ?_) | refine Exists.intro _ (And.intro (⟨len_one⟩) ?_)
      | refine Exists.intro _ (And.intro (⟨len_two⟩) ?_) | refine Exists.intro _ (And.intro (⟨len_three⟩) ?_) | refine Exists.intro _ (And.intro (⟨len_four⟩) ?_) | refine Exists.intro _ (And.intro (⟨lenl_1⟩) ?_) | refine Exists.intro _ (And.intro (⟨lenl_2⟩) ?_) | refine Exists.intro _ (And.intro (⟨lenl_3⟩) ?_) | refine Exists.intro _ (And.intro (⟨lenl_4⟩) ?_) | refine Exists.intro _ (And.intro (⟨len_more⟩) ?_) | refine Exists.intro _ (And.intro (⟨map_slice⟩) ?_) | refine Exists.intro _ (And.intro (⟨List.map_take⟩) ?_) | refine Exists.intro _ (And.intro (⟨List.map_drop⟩) ?_)
      | refine Exists.intro _ (And.intro (⟨map_full'⟩) ?_) | refine Exists.intro _ (And.intro (⟨map_full⟩) ?_) | refine Exists.intro _ (And.intro (⟨map_snoc⟩) ?_) | refine Exists.intro _ (And.intro (⟨List.map_append⟩) ?_) | refine Exists.intro _ (And.intro (⟨Eq.refl (α := List D) _⟩) ?_) | refine Exists.intro _ (And.intro (⟨Eq.refl (α := Int) _⟩) (And.intro (by omega) ?_)) | refine Exists.intro (0) (And.intro (⟨rfl⟩) (And.intro (Nat.zero_le _) ?_)) | refine Exists.intro _ (And.intro (⟨nc1⟩) (And.intro (by omega) ?_))
      | refine Exists.intro _ (Exists.intro _ (And.intro (⟨Eq.refl (α := Int) _⟩) (And.intro (⟨Eq.refl (α := Int) _⟩) (And.intro (by omega) (And.intro (by omega) ?_))))) | refine Exists.intro _ (Exists.intro _ (And.intro (⟨Eq.refl (α := Nat) _⟩) (And.intro (⟨Eq.refl (α := Nat) _⟩) ?_))) | refine Exists.intro _ (And.intro (⟨Eq.refl (α := Nat) _⟩) ?_) | refine Exists.intro _ (And.intro (w64 (by omega) (by omega)) ?_) | refine Exists.intro _ (And.intro (imin) ?_) | refine Exists.intro _ (And.intro (imax) ?_) | refine Pure.call (f28_ok _ _ hym) ?_ | refine Pure.locK (f28_ok _ _ hym) ?_
      | refine boolF_not ?_ | refine boolF_dect rfl ?_ | refine boolF_dect (by assumption) ?_ | refine boolF_decf (by assumption) ?_ | refine boolF_dect (by omega) ?_ | refine boolF_decf (by omega) ?_ | refine boolF_beqt (by omega) ?_ | refine boolF_beqf (by omega) ?_ | refine boolF_bnet (by omega) ?_ | refine boolF_bnef (by omega) ?_ | refine boolF_t (by assumption) ?_ | refine boolF_f (by assumption) ?_ | refine boolF_dec (fun _ => ?_) (fun _ => ?_) | refine boolF_beq (fun _ => ?_) (fun _ => ?_) | refine boolF_bne (fun _ => ?_) (fun _ => ?_) | refine boolF_leq (fun _ => ?_) (fun _ => ?_)
      | refine Both.mk ?_ ?_)
    all_goals (conv => whnf)
    exact ⟨ver, Ghost.hold [0] (by rw [List.length_map]; rfl)⟩

/-- add: what is handed to it is owned. -/
theorem f38_ok (out : List X) (x : X) (ver : Nat) (hx : mayX x) (ho : ∀ y ∈ out, mayX y) (hlen : out.length ≤ 2048) :
    CallsIn Try.prog 38 [.h 0 ver 0 out.length, d29 x] [.arr ver 4 (out.map r29)] fun r H => ∃ ver', r = .h 0 ver' 0 (addL out x).length ∧ H = [.arr ver' 4 ((addL out x).map r29)] := by
  have hx' := hx
  simp only [mayX, far] at hx'
  refine CallsIn.of_exec tab_ok mixed Try.func38 rfl rfl [] [false] ?_
  rcases Nat.eq_zero_or_pos out.length with h0 | h0
  · rw [addL_empty h0]
    repeat' ((conv => whnf); first
      | refine PairK.mk (by kernel_rfl) ?_ | refine Exists.intro _ (And.intro (map_at (by omega) hy) ?_) | refine And.intro (by decide) ?_ | refine And.intro rfl ?_ | refine And.intro (List.cons_ne_nil _ _) ?_ | refine And.intro (Nat.le_of_ble_eq_true rfl) ?_ | refine And.intro (by omega) ?_ | refine And.intro (by simp only [List.length_map, List.length_append, List.length_cons, List.length_nil]; omega) ?_ | refine And.intro (by simpa only [List.length_map, List.length_append, List.length_cons, List.length_nil] using rfl) ?_ | refine And.intro (Eq.symm (List.length_map _)) ?_
      | refine And.intro (all_map (fun _ => rfl)) ?_ | refine And.intro (cells_map (fun _ => rfl)) ?_ | refine And.intro (rows_map (fun _ => rfl) (fun _ => rfl)) ?_ | refine And.intro (okRows_one rfl rfl) ?_ | refine And.intro (okRows_all rfl) ?_ | refine boolF_t (beq_self_eq_true _) ?_ | refine Exists.intro _ (And.intro (map_get (by assumption)) ?_) | refine Exists.intro _ (And.intro (Eq.refl (α := Option D) _) ?_) | refine Exists.intro _ (And.intro (⟨(List.length_map _).symm⟩) ?_) | refine Exists.intro _ (And.intro (⟨len_one⟩) ?_) | refine Exists.intro _ (And.intro (⟨len_two⟩) ?_)
      | refine Exists.intro _ (And.intro (⟨len_three⟩) ?_) | refine Exists.intro _ (And.intro (⟨len_four⟩) ?_) | refine Exists.intro _ (And.intro (⟨lenl_1⟩) ?_) | refine Exists.intro _ (And.intro (⟨lenl_2⟩) ?_) | refine Exists.intro _ (And.intro (⟨lenl_3⟩) ?_) | refine Exists.intro _ (And.intro (⟨lenl_4⟩) ?_) | refine Exists.intro _ (And.intro (⟨len_more⟩) ?_) | refine Exists.intro _ (And.intro (⟨map_slice⟩) ?_) | refine Exists.intro _ (And.intro (⟨List.map_take⟩) ?_) | refine Exists.intro _ (And.intro (⟨List.map_drop⟩) ?_) | refine Exists.intro _ (And.intro (⟨map_full'⟩) ?_)
      | refine Exists.intro _ (And.intro (⟨map_full⟩) ?_) | refine Exists.intro _ (And.intro (⟨map_snoc⟩) ?_) | refine Exists.intro _ (And.intro (⟨List.map_append⟩) ?_) | refine Exists.intro _ (And.intro (⟨Eq.refl (α := List D) _⟩) ?_) | refine Exists.intro _ (And.intro (⟨Eq.refl (α := Int) _⟩) (And.intro (by omega) ?_)) | refine Exists.intro (0) (And.intro (⟨rfl⟩) (And.intro (Nat.zero_le _) ?_)) | refine Exists.intro _ (And.intro (⟨nc1⟩) (And.intro (by omega) ?_))
      | refine Exists.intro _ (Exists.intro _ (And.intro (⟨Eq.refl (α := Int) _⟩) (And.intro (⟨Eq.refl (α := Int) _⟩) (And.intro (by omega) (And.intro (by omega) ?_))))) | refine Exists.intro _ (Exists.intro _ (And.intro (⟨Eq.refl (α := Nat) _⟩) (And.intro (⟨Eq.refl (α := Nat) _⟩) ?_))) | refine Exists.intro _ (And.intro (⟨Eq.refl (α := Nat) _⟩) ?_) | refine Exists.intro _ (And.intro (w64 (by omega) (by omega)) ?_) | refine Exists.intro _ (And.intro (imin) ?_) | refine Exists.intro _ (And.intro (imax) ?_) | refine Pure.call (f39_ok _ _ hym) ?_ | refine Pure.locK (f39_ok _ _ hym) ?_
      | refine boolF_not ?_ | refine boolF_dect rfl ?_ | refine boolF_dect (by assumption) ?_ | refine boolF_decf (by assumption) ?_ | refine boolF_dect (by omega) ?_ | refine boolF_decf (by omega) ?_ | refine boolF_beqt (by omega) ?_ | refine boolF_beqf (by omega) ?_ | refine boolF_bnet (by omega) ?_ | refine boolF_bnef (by omega) ?_ | refine boolF_t (by assumption) ?_ | refine boolF_f (by assumption) ?_ | refine boolF_dec (fun _ => ?_) (fun _ => ?_) | refine boolF_beq (fun _ => ?_) (fun _ => ?_) | refine boolF_bne (fun _ => ?_) (fun _ => ?_) | refine boolF_leq (fun _ => ?_) (fun _ => ?_)
      | refine Both.mk ?_ ?_)
    all_goals (conv => whnf)
    exact ⟨ver + 1, by rw [List.length_append]; rfl, by rw [List.map_append]⟩
  · obtain ⟨y, hy⟩ := at_lt (l := out) (i := out.length - 1) (by omega)
    have hym := ho y (List.mem_of_getElem? hy)
    have hym' := hym
    simp only [mayX, far] at hym'
    by_cases hmt : meets y x
    · rw [addL_meet hy hmt]
      repeat' ((conv => whnf); first
        | refine PairK.mk (by kernel_rfl) ?_ | refine Exists.intro _ (And.intro (map_at (by omega) hy) ?_) | refine And.intro (by decide) ?_ | refine And.intro rfl ?_ | refine And.intro (List.cons_ne_nil _ _) ?_ | refine And.intro (Nat.le_of_ble_eq_true rfl) ?_ | refine And.intro (by omega) ?_ | refine And.intro (by simp only [List.length_map, List.length_append, List.length_cons, List.length_nil]; omega) ?_ | refine And.intro (by simpa only [List.length_map, List.length_append, List.length_cons, List.length_nil] using rfl) ?_ | refine And.intro (Eq.symm (List.length_map _)) ?_
        | refine And.intro (all_map (fun _ => rfl)) ?_ | refine And.intro (cells_map (fun _ => rfl)) ?_ | refine And.intro (rows_map (fun _ => rfl) (fun _ => rfl)) ?_ | refine And.intro (okRows_one rfl rfl) ?_ | refine And.intro (okRows_all rfl) ?_ | refine boolF_t (beq_self_eq_true _) ?_ | refine Exists.intro _ (And.intro (map_get (by assumption)) ?_) | refine Exists.intro _ (And.intro (Eq.refl (α := Option D) _) ?_) | refine Exists.intro _ (And.intro (⟨(List.length_map _).symm⟩) ?_) | refine Exists.intro _ (And.intro (⟨len_one⟩) ?_) | refine Exists.intro _ (And.intro (⟨len_two⟩) ?_)
        | refine Exists.intro _ (And.intro (⟨len_three⟩) ?_) | refine Exists.intro _ (And.intro (⟨len_four⟩) ?_) | refine Exists.intro _ (And.intro (⟨lenl_1⟩) ?_) | refine Exists.intro _ (And.intro (⟨lenl_2⟩) ?_) | refine Exists.intro _ (And.intro (⟨lenl_3⟩) ?_) | refine Exists.intro _ (And.intro (⟨lenl_4⟩) ?_) | refine Exists.intro _ (And.intro (⟨len_more⟩) ?_) | refine Exists.intro _ (And.intro (⟨map_slice⟩) ?_) | refine Exists.intro _ (And.intro (⟨List.map_take⟩) ?_) | refine Exists.intro _ (And.intro (⟨List.map_drop⟩) ?_) | refine Exists.intro _ (And.intro (⟨map_full'⟩) ?_)
        | refine Exists.intro _ (And.intro (⟨map_full⟩) ?_) | refine Exists.intro _ (And.intro (⟨map_snoc⟩) ?_) | refine Exists.intro _ (And.intro (⟨List.map_append⟩) ?_) | refine Exists.intro _ (And.intro (⟨Eq.refl (α := List D) _⟩) ?_) | refine Exists.intro _ (And.intro (⟨Eq.refl (α := Int) _⟩) (And.intro (by omega) ?_)) | refine Exists.intro (0) (And.intro (⟨rfl⟩) (And.intro (Nat.zero_le _) ?_)) | refine Exists.intro _ (And.intro (⟨nc1⟩) (And.intro (by omega) ?_))
        | refine Exists.intro _ (Exists.intro _ (And.intro (⟨Eq.refl (α := Int) _⟩) (And.intro (⟨Eq.refl (α := Int) _⟩) (And.intro (by omega) (And.intro (by omega) ?_))))) | refine Exists.intro _ (Exists.intro _ (And.intro (⟨Eq.refl (α := Nat) _⟩) (And.intro (⟨Eq.refl (α := Nat) _⟩) ?_))) | refine Exists.intro _ (And.intro (⟨Eq.refl (α := Nat) _⟩) ?_) | refine Exists.intro _ (And.intro (w64 (by omega) (by omega)) ?_) | refine Exists.intro _ (And.intro (imin) ?_) | refine Exists.intro _ (And.intro (imax) ?_) | refine Pure.call (f39_ok _ _ hym) ?_ | refine Pure.locK (f39_ok _ _ hym) ?_
        | refine boolF_not ?_ | refine boolF_dect rfl ?_ | refine boolF_dect (by assumption) ?_ | refine boolF_decf (by assumption) ?_ | refine boolF_dect (by omega) ?_ | refine boolF_decf (by omega) ?_ | refine boolF_beqt (by omega) ?_ | refine boolF_beqf (by omega) ?_ | refine boolF_bnet (by omega) ?_ | refine boolF_bnef (by omega) ?_ | refine boolF_t (by assumption) ?_ | refine boolF_f (by assumption) ?_ | refine boolF_dec (fun _ => ?_) (fun _ => ?_) | refine boolF_beq (fun _ => ?_) (fun _ => ?_) | refine boolF_bne (fun _ => ?_) (fun _ => ?_) | refine boolF_leq (fun _ => ?_) (fun _ => ?_)
        | refine Both.mk ?_ ?_)
      all_goals (conv => whnf)
      refine ⟨ver, by rw [List.length_set], ?_⟩
      rw [List.map_set, ← row_last h0 false]; rfl
    · rw [addL_apart hy hmt]
      repeat' ((conv => whnf); first
        | refine PairK.mk (by kernel_rfl) ?_ | refine Exists.intro _ (And.intro (map_at (by omega) hy) ?_) | refine And.intro (by decide) ?_ | refine And.intro rfl ?_ | refine And.intro (List.cons_ne_nil _ _) ?_ | refine And.intro (Nat.le_of_ble_eq_true rfl) ?_ | refine And.intro (by omega) ?_ | refine And.intro (by simp only [List.length_map, List.length_append, List.length_cons, List.length_nil]; omega) ?_ | refine And.intro (by simpa only [List.length_map, List.length_append, List.length_cons, List.length_nil] using rfl) ?_ | refine And.intro (Eq.symm (List.length_map _)) ?_
        | refine And.intro (all_map (fun _ => rfl)) ?_ | refine And.intro (cells_map (fun _ => rfl)) ?_ | refine And.intro (rows_map (fun _ => rfl) (fun _ => rfl)) ?_ | refine And.intro (okRows_one rfl rfl) ?_ | refine And.intro (okRows_all rfl) ?_ | refine boolF_t (beq_self_eq_true _) ?_ | refine Exists.intro _ (And.intro (map_get (by assumption)) ?_) | refine Exists.intro _ (And.intro (Eq.refl (α := Option D) _) ?_) | refine Exists.intro _ (And.intro (⟨(List.length_map _).symm⟩) ?_) | refine Exists.intro _ (And.intro (⟨len_one⟩) ?_) | refine Exists.intro _ (And.intro (⟨len_two⟩) ?_)
        | refine Exists.intro _ (And.intro (⟨len_three⟩) ?_) | refine Exists.intro _ (And.intro (⟨len_four⟩) ?_) | refine Exists.intro _ (And.intro (⟨lenl_1⟩) ?_) | refine Exists.intro _ (And.intro (⟨lenl_2⟩) ?_) | refine Exists.intro _ (And.intro (⟨lenl_3⟩) ?_) | refine Exists.intro _ (And.intro (⟨lenl_4⟩) ?_) | refine Exists.intro _ (And.intro (⟨len_more⟩) ?_) | refine Exists.intro _ (And.intro (⟨map_slice⟩) ?_) | refine Exists.intro _ (And.intro (⟨List.map_take⟩) ?_) | refine Exists.intro _ (And.intro (⟨List.map_drop⟩) ?_) | refine Exists.intro _ (And.intro (⟨map_full'⟩) ?_)
        | refine Exists.intro _ (And.intro (⟨map_full⟩) ?_) | refine Exists.intro _ (And.intro (⟨map_snoc⟩) ?_) | refine Exists.intro _ (And.intro (⟨List.map_append⟩) ?_) | refine Exists.intro _ (And.intro (⟨Eq.refl (α := List D) _⟩) ?_) | refine Exists.intro _ (And.intro (⟨Eq.refl (α := Int) _⟩) (And.intro (by omega) ?_)) | refine Exists.intro (0) (And.intro (⟨rfl⟩) (And.intro (Nat.zero_le _) ?_)) | refine Exists.intro _ (And.intro (⟨nc1⟩) (And.intro (by omega) ?_))
        | refine Exists.intro _ (Exists.intro _ (And.intro (⟨Eq.refl (α := Int) _⟩) (And.intro (⟨Eq.refl (α := Int) _⟩) (And.intro (by omega) (And.intro (by omega) ?_))))) | refine Exists.intro _ (Exists.intro _ (And.intro (⟨Eq.refl (α := Nat) _⟩) (And.intro (⟨Eq.refl (α := Nat) _⟩) ?_))) | refine Exists.intro _ (And.intro (⟨Eq.refl (α := Nat) _⟩) ?_) | refine Exists.intro _ (And.intro (w64 (by omega) (by omega)) ?_) | refine Exists.intro _ (And.intro (imin) ?_) | refine Exists.intro _ (And.intro (imax) ?_) | refine Pure.call (f39_ok _ _ hym) ?_ | refine Pure.locK (f39_ok _ _ hym) ?_
        | refine boolF_not ?_ | refine boolF_dect rfl ?_ | refine boolF_dect (by assumption) ?_ | refine boolF_decf (by assumption) ?_ | refine boolF_dect (by omega) ?_ | refine boolF_decf (by omega) ?_ | refine boolF_beqt (by omega) ?_ | refine boolF_beqf (by omega) ?_ | refine boolF_bnet (by omega) ?_ | refine boolF_bnef (by omega) ?_ | refine boolF_t (by assumption) ?_ | refine boolF_f (by assumption) ?_ | refine boolF_dec (fun _ => ?_) (fun _ => ?_) | refine boolF_beq (fun _ => ?_) (fun _ => ?_) | refine boolF_bne (fun _ => ?_) (fun _ => ?_) | refine boolF_leq (fun _ => ?_) (fun _ => ?_)
        | refine Both.mk ?_ ?_)
      all_goals (conv => whnf)
      exact ⟨ver + 1, by rw [List.length_append]; rfl, by rw [List.map_append]⟩

end Go.Proofs.Ytaolneejplmedaa

