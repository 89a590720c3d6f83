import Derived.Test.YtaolneejplmedaaE14
namespace Go.Proofs.Ytaolneejplmedaa
open Go.A
set_option linter.unusedVariables false
set_option linter.unusedSimpArgs false
set_option linter.unnecessarySimpa false
attribute [local irreducible] IntKind.wrap bitsI
set_option maxRecDepth 100000
set_option maxHeartbeats 4000000

theorem put_ok' {l : List X} {x : X} (hl : rightP l) (hx : mayX x) : rightP (putM l x).1 ∧ (putM l x).2 = 0 ∧ ∀ b, atL (putM l x).1 b = if x.off_ ≤ b ∧ b < x.off_ + x.len_ then some (x.phys_ + b - x.off_, x.birth_) else atL l b := by
  have h := with_ok hl.2.1 (mayX_ext hx) (one_list hx).1 (one_list hx).2
  rw [putM, if_pos ⟨hl, hx⟩]
  refine ⟨h.1, rfl, fun b => ?_⟩
  rw [h.2]
  split
  · rename_i hb; rw [at_hit hb]
  · rfl
theorem cut_ok' {l : List X} {off n : Int} (hl : rightP l) (hx : ext off n) : rightP (cutM l off n).1 ∧ (cutM l off n).2 = 0 ∧ ∀ b, atL (cutM l off n).1 b = if off ≤ b ∧ b < off + n then none else atL l b := by
  have h := with_ok (ins := []) hl.2.1 hx trivial (fun x hx => by cases hx)
  rw [cutM, if_pos ⟨hl, hx⟩]
  exact ⟨h.1, rfl, fun b => h.2 b⟩
theorem right_eq {l m : List X} (hl : rightP l) (hm : rightP m) (h : ∀ b, atL l b = atL m b) : l = m := form_eq hl.2.1 hm.2.1 hl.2.2 hm.2.2 h

/-- What a list has where one of its extents lies. -/
theorem at_mem {a : Int} : ∀ {l : List X}, listP a l → ∀ x ∈ l, ∀ b, x.off_ ≤ b → b < x.off_ + x.len_ → atL l b = some (x.phys_ + b - x.off_, x.birth_)
  | y :: l, h, x, hx, b, h1, h2 => by
    rcases List.mem_cons.mp hx with rfl | hx
    · exact at_hit ⟨h1, h2⟩
    · have h3 := (listP_mem h.2.2 x hx).2
      have h4 := (listP_mem h.2.2 x hx).1
      simp only [mayX] at h4
      rw [at_miss (by simp only [endX] at h3; omega)]
      exact at_mem h.2.2 x hx b h1 h2
theorem at_some : ∀ {l : List X} {b : Int} {v : Int × Int}, atL l b = some v → ∃ x ∈ l, x.off_ ≤ b ∧ b < x.off_ + x.len_
  | [], _, _, h => by cases h
  | x :: l, b, v, h => by
    by_cases hh : x.off_ ≤ b ∧ b < x.off_ + x.len_
    · exact ⟨x, List.mem_cons_self, hh⟩
    · rw [at_miss hh] at h
      obtain ⟨y, hy, h2⟩ := at_some h
      exact ⟨y, List.mem_cons_of_mem _ hy, h2⟩
/-- Ahead of an extent nothing is where it lies. -/
theorem at_ahead {a : Int} {l : List X} {i : Nat} {x : X} (h : listP a l) (hx : l[i]? = some x) {b : Int} (hb : x.off_ ≤ b) : atL (l.take i) b = none := by
  cases hv : atL (l.take i) b with
  | none => rfl
  | some v =>
    obtain ⟨y, hy, h1, h2⟩ := at_some hv
    have h3 := listP_take (i := i + 1) h
    rw [take_snoc hx] at h3
    have := (listP_snoc h3).2.2.1 y hy
    simp only [endX] at this
    omega

theorem emapAll_true (l : List X) (off n : Int) (h0 : ok22 l) (h1 : ok3 off) (h2 : ok3 n) : CallsIn Try.prog 6 [d22 l, d3 off, d3 n] [] fun r _ => r = .bool true := by
  have hlen := lenL h0
  have c1 := (f15_own l off n hlen).pure
  have c2 := (f17_own l off n hlen).pure
  refine CallsIn.of_exec tab_ok mixed Try.func6 rfl rfl [] [] ?_
  by_cases hr : rightP l ∧ ext off n
  · obtain ⟨hl, hx⟩ := hr
    obtain ⟨ha, ea, pa⟩ := cut_ok' hl hx
    rw [ea] at c1
    generalize (cutM l off n).1 = a0 at ha pa c1
    rw [partM, if_pos ⟨hl, hx⟩] at c2
    have hx' := hx
    simp only [ext] at hx'
    obtain ⟨q1, q2⟩ := part_list off (off + n) hl.2.1 (Int.le_refl _)
    have q3 := at_part hl.2.1 off (off + n)
    have q4 := part_len l off (off + n)
    have q5 := hl.1
    generalize partL l off (off + n) = ps at c2 q1 q2 q3 q4
    repeat' ((conv => whnf); first
      | refine PairK.mk (by kernel_rfl) ?_ | refine Exists.intro _ (And.intro (map_at (by omega) hx) ?_) | refine And.intro (by decide) ?_ | refine And.intro rfl ?_ | refine And.intro (List.cons_ne_nil _ _) ?_ | refine And.intro (Nat.le_of_ble_eq_true rfl) ?_ | refine And.intro (by omega) ?_ | refine And.intro (by simp only [List.length_map, List.length_append, List.length_cons, List.length_nil]; omega) ?_ | refine And.intro (by simpa only [List.length_map, List.length_append, List.length_cons, List.length_nil] using rfl) ?_ | refine And.intro (Eq.symm (List.length_map _)) ?_
      | refine And.intro (all_map (fun _ => rfl)) ?_ | refine And.intro (cells_map (fun _ => rfl)) ?_ | refine And.intro (rows_map (fun _ => rfl) (fun _ => rfl)) ?_ | refine And.intro (okRows_one rfl rfl) ?_ | refine And.intro (okRows_all rfl) ?_ | refine boolF_t (beq_self_eq_true _) ?_ | refine Exists.intro _ (And.intro (map_get (by assumption)) ?_) | refine Exists.intro _ (And.intro (Eq.refl (α := Option D) _) ?_) | refine Exists.intro _ (And.intro (⟨(List.length_map _).symm⟩) ?_) | refine Exists.intro _ (And.intro (⟨len_one⟩) ?_) | refine Exists.intro _ (And.intro (⟨len_two⟩) ?_)
      | refine Exists.intro _ (And.intro (⟨len_three⟩) ?_) | refine Exists.intro _ (And.intro (⟨len_four⟩) ?_) | refine Exists.intro _ (And.intro (⟨lenl_1⟩) ?_) | refine Exists.intro _ (And.intro (⟨lenl_2⟩) ?_) | refine Exists.intro _ (And.intro (⟨lenl_3⟩) ?_) | refine Exists.intro _ (And.intro (⟨lenl_4⟩) ?_) | refine Exists.intro _ (And.intro (⟨len_more⟩) ?_) | refine Exists.intro _ (And.intro (⟨map_slice⟩) ?_) | refine Exists.intro _ (And.intro (⟨List.map_take⟩) ?_) | refine Exists.intro _ (And.intro (⟨List.map_drop⟩) ?_) | refine Exists.intro _ (And.intro (⟨map_full'⟩) ?_)
      | refine Exists.intro _ (And.intro (⟨map_full⟩) ?_) | refine Exists.intro _ (And.intro (⟨map_snoc⟩) ?_) | refine Exists.intro _ (And.intro (⟨List.map_append⟩) ?_) | refine Exists.intro _ (And.intro (⟨Eq.refl (α := List D) _⟩) ?_) | refine Exists.intro _ (And.intro (⟨Eq.refl (α := Int) _⟩) (And.intro (by omega) ?_)) | refine Exists.intro (0) (And.intro (⟨rfl⟩) (And.intro (Nat.zero_le _) ?_)) | refine Exists.intro _ (And.intro (⟨nc1⟩) (And.intro (by omega) ?_))
      | refine Exists.intro _ (Exists.intro _ (And.intro (⟨Eq.refl (α := Int) _⟩) (And.intro (⟨Eq.refl (α := Int) _⟩) (And.intro (by omega) (And.intro (by omega) ?_))))) | refine Exists.intro _ (Exists.intro _ (And.intro (⟨Eq.refl (α := Nat) _⟩) (And.intro (⟨Eq.refl (α := Nat) _⟩) ?_))) | refine Exists.intro _ (And.intro (⟨Eq.refl (α := Nat) _⟩) ?_) | refine Exists.intro _ (And.intro (w64 (by omega) (by omega)) ?_) | refine Exists.intro _ (And.intro (imin) ?_) | refine Exists.intro _ (And.intro (imax) ?_) | refine Pure.call (c1) ?_ | refine Pure.locK (c1) ?_ | refine Pure.call (c2) ?_
      | refine Pure.locK (c2) ?_ | refine Pure.call (f11_ok) ?_ | refine Pure.locK (f11_ok) ?_ | refine boolF_not ?_ | refine boolF_dect rfl ?_ | refine boolF_dect (by assumption) ?_ | refine boolF_decf (by assumption) ?_ | refine boolF_dect (by omega) ?_ | refine boolF_decf (by omega) ?_ | refine boolF_beqt (by omega) ?_ | refine boolF_beqf (by omega) ?_ | refine boolF_bnet (by omega) ?_ | refine boolF_bnef (by omega) ?_ | refine boolF_t (by assumption) ?_ | refine boolF_f (by assumption) ?_ | refine boolF_dec (fun _ => ?_) (fun _ => ?_) | refine boolF_beq (fun _ => ?_) (fun _ => ?_)
      | refine boolF_bne (fun _ => ?_) (fun _ => ?_) | refine boolF_leq (fun _ => ?_) (fun _ => ?_) | refine Both.mk ?_ ?_)
    all_goals (conv => whnf)
    refine W_loopG (ι := Nat × List X) (fun i => ⟨(d22 l :: D.undef :: D.undef :: D.undef :: D.undef :: D.undef :: D.undef :: d22 i.2 :: D.undef :: D.undef :: D.undef :: D.undef :: D.undef :: D.undef :: D.undef :: D.undef :: D.undef :: D.undef :: D.undef :: D.undef :: D.undef :: D.undef :: D.undef :: D.undef :: D.undef :: D.undef :: D.undef :: D.undef :: D.undef :: D.undef :: D.undef :: D.undef :: D.undef :: D.undef :: D.undef :: D.undef :: D.undef :: D.undef :: D.undef :: D.undef :: D.undef :: d22 ps :: .int .i64 (ps.length : Int) :: .int .i64 (i.1 : Int) :: D.undef :: D.undef :: D.undef :: D.undef :: D.undef :: D.undef :: D.undef :: D.undef :: D.undef :: D.undef :: D.undef :: D.undef :: D.undef :: D.undef :: D.undef :: D.undef :: D.undef :: D.undef :: D.undef :: []), []⟩) (fun i => ps.length - i.1)
      (fun i => i.1 ≤ ps.length ∧ rightP i.2 ∧ ∀ b, atL i.2 b = if off ≤ b ∧ b < off + n then atL (ps.take i.1) b else atL l b) (0, a0) (Ghost.hold [0, 7, 41, 42, 43] rfl) ⟨Nat.zero_le _, ha, fun b => by rw [pa]; rfl⟩ ?_
    rintro ⟨i, a⟩ ⟨hi, har, hat⟩
    dsimp only at hi har hat ⊢
    refine exec_ok tab_ok mixed 1000 (bx := []) (own := []) ?_
    rcases Nat.lt_or_ge i ps.length with h | h
    · obtain ⟨x, hx⟩ := at_lt h
      obtain ⟨m1, m2⟩ := listP_mem q1 x (List.mem_of_getElem? hx)
      have m3 := q2 x (List.mem_of_getElem? hx)
      simp only [endX] at m3
      have c3 := (f12_own a x (big har.1)).pure
      obtain ⟨p1, p2, p3⟩ := put_ok' har m1
      rw [p2] at c3
      generalize (putM a x).1 = a' at c3 p1 p3
      repeat' ((conv => whnf); first
        | refine PairK.mk (by kernel_rfl) ?_ | refine Exists.intro _ (And.intro (map_at (by omega) hx) ?_) | refine And.intro (by decide) ?_ | refine And.intro rfl ?_ | refine And.intro (List.cons_ne_nil _ _) ?_ | refine And.intro (Nat.le_of_ble_eq_true rfl) ?_ | refine And.intro (by omega) ?_ | refine And.intro (by simp only [List.length_map, List.length_append, List.length_cons, List.length_nil]; omega) ?_ | refine And.intro (by simpa only [List.length_map, List.length_append, List.length_cons, List.length_nil] using rfl) ?_ | refine And.intro (Eq.symm (List.length_map _)) ?_
        | refine And.intro (all_map (fun _ => rfl)) ?_ | refine And.intro (cells_map (fun _ => rfl)) ?_ | refine And.intro (rows_map (fun _ => rfl) (fun _ => rfl)) ?_ | refine And.intro (okRows_one rfl rfl) ?_ | refine And.intro (okRows_all rfl) ?_ | refine boolF_t (beq_self_eq_true _) ?_ | refine Exists.intro _ (And.intro (map_get (by assumption)) ?_) | refine Exists.intro _ (And.intro (Eq.refl (α := Option D) _) ?_) | refine Exists.intro _ (And.intro (⟨(List.length_map _).symm⟩) ?_) | refine Exists.intro _ (And.intro (⟨len_one⟩) ?_) | refine Exists.intro _ (And.intro (⟨len_two⟩) ?_)
        | refine Exists.intro _ (And.intro (⟨len_three⟩) ?_) | refine Exists.intro _ (And.intro (⟨len_four⟩) ?_) | refine Exists.intro _ (And.intro (⟨lenl_1⟩) ?_) | refine Exists.intro _ (And.intro (⟨lenl_2⟩) ?_) | refine Exists.intro _ (And.intro (⟨lenl_3⟩) ?_) | refine Exists.intro _ (And.intro (⟨lenl_4⟩) ?_) | refine Exists.intro _ (And.intro (⟨len_more⟩) ?_) | refine Exists.intro _ (And.intro (⟨map_slice⟩) ?_) | refine Exists.intro _ (And.intro (⟨List.map_take⟩) ?_) | refine Exists.intro _ (And.intro (⟨List.map_drop⟩) ?_) | refine Exists.intro _ (And.intro (⟨map_full'⟩) ?_)
        | refine Exists.intro _ (And.intro (⟨map_full⟩) ?_) | refine Exists.intro _ (And.intro (⟨map_snoc⟩) ?_) | refine Exists.intro _ (And.intro (⟨List.map_append⟩) ?_) | refine Exists.intro _ (And.intro (⟨Eq.refl (α := List D) _⟩) ?_) | refine Exists.intro _ (And.intro (⟨Eq.refl (α := Int) _⟩) (And.intro (by omega) ?_)) | refine Exists.intro (0) (And.intro (⟨rfl⟩) (And.intro (Nat.zero_le _) ?_)) | refine Exists.intro _ (And.intro (⟨nc1⟩) (And.intro (by omega) ?_))
        | refine Exists.intro _ (Exists.intro _ (And.intro (⟨Eq.refl (α := Int) _⟩) (And.intro (⟨Eq.refl (α := Int) _⟩) (And.intro (by omega) (And.intro (by omega) ?_))))) | refine Exists.intro _ (Exists.intro _ (And.intro (⟨Eq.refl (α := Nat) _⟩) (And.intro (⟨Eq.refl (α := Nat) _⟩) ?_))) | refine Exists.intro _ (And.intro (⟨Eq.refl (α := Nat) _⟩) ?_) | refine Exists.intro _ (And.intro (w64 (by omega) (by omega)) ?_) | refine Exists.intro _ (And.intro (imin) ?_) | refine Exists.intro _ (And.intro (imax) ?_) | refine Pure.call (c3) ?_ | refine Pure.locK (c3) ?_ | refine boolF_not ?_
        | refine boolF_dect rfl ?_ | refine boolF_dect (by assumption) ?_ | refine boolF_decf (by assumption) ?_ | refine boolF_dect (by omega) ?_ | refine boolF_decf (by omega) ?_ | refine boolF_beqt (by omega) ?_ | refine boolF_beqf (by omega) ?_ | refine boolF_bnet (by omega) ?_ | refine boolF_bnef (by omega) ?_ | refine boolF_t (by assumption) ?_ | refine boolF_f (by assumption) ?_ | refine boolF_dec (fun _ => ?_) (fun _ => ?_) | refine boolF_beq (fun _ => ?_) (fun _ => ?_) | refine boolF_bne (fun _ => ?_) (fun _ => ?_) | refine boolF_leq (fun _ => ?_) (fun _ => ?_) | refine Both.mk ?_ ?_)
      all_goals (conv => whnf)
      refine ⟨(i + 1, a'), Ghost.back [0, 7, 41, 42, 43] 0 rfl rfl (Nat.zero_le _) (by simp [scs, D.sc, sc22]) (by simp), ⟨h, p1, fun b => ?_⟩, by dsimp only; omega⟩
      dsimp only
      rw [p3, hat, take_snoc hx, atL_append]
      by_cases hb : x.off_ ≤ b ∧ b < x.off_ + x.len_
      · rw [if_pos hb, if_pos (by omega), at_ahead q1 hx hb.1, at_hit hb]
      · rw [if_neg hb, at_miss hb]
        split
        · cases atL (ps.take i) b <;> rfl
        · rfl
    · rw [List.take_of_length_le h] at hat
      obtain rfl : a = l := right_eq har hl fun b => by
        rw [hat, q3]
        split
        · rfl
        · rfl
      repeat' ((conv => whnf); first
        | refine PairK.mk (by kernel_rfl) ?_ | refine Exists.intro _ (And.intro (map_at (by omega) hx) ?_) | refine And.intro (by decide) ?_ | refine And.intro rfl ?_ | refine And.intro (List.cons_ne_nil _ _) ?_ | refine And.intro (Nat.le_of_ble_eq_true rfl) ?_ | refine And.intro (by omega) ?_ | refine And.intro (by simp only [List.length_map, List.length_append, List.length_cons, List.length_nil]; omega) ?_ | refine And.intro (by simpa only [List.length_map, List.length_append, List.length_cons, List.length_nil] using rfl) ?_ | refine And.intro (Eq.symm (List.length_map _)) ?_
        | refine And.intro (all_map (fun _ => rfl)) ?_ | refine And.intro (cells_map (fun _ => rfl)) ?_ | refine And.intro (rows_map (fun _ => rfl) (fun _ => rfl)) ?_ | refine And.intro (okRows_one rfl rfl) ?_ | refine And.intro (okRows_all rfl) ?_ | refine boolF_t (beq_self_eq_true _) ?_ | refine Exists.intro _ (And.intro (map_get (by assumption)) ?_) | refine Exists.intro _ (And.intro (Eq.refl (α := Option D) _) ?_) | refine Exists.intro _ (And.intro (⟨(List.length_map _).symm⟩) ?_) | refine Exists.intro _ (And.intro (⟨len_one⟩) ?_) | refine Exists.intro _ (And.intro (⟨len_two⟩) ?_)
        | refine Exists.intro _ (And.intro (⟨len_three⟩) ?_) | refine Exists.intro _ (And.intro (⟨len_four⟩) ?_) | refine Exists.intro _ (And.intro (⟨lenl_1⟩) ?_) | refine Exists.intro _ (And.intro (⟨lenl_2⟩) ?_) | refine Exists.intro _ (And.intro (⟨lenl_3⟩) ?_) | refine Exists.intro _ (And.intro (⟨lenl_4⟩) ?_) | refine Exists.intro _ (And.intro (⟨len_more⟩) ?_) | refine Exists.intro _ (And.intro (⟨map_slice⟩) ?_) | refine Exists.intro _ (And.intro (⟨List.map_take⟩) ?_) | refine Exists.intro _ (And.intro (⟨List.map_drop⟩) ?_) | refine Exists.intro _ (And.intro (⟨map_full'⟩) ?_)
        | refine Exists.intro _ (And.intro (⟨map_full⟩) ?_) | refine Exists.intro _ (And.intro (⟨map_snoc⟩) ?_) | refine Exists.intro _ (And.intro (⟨List.map_append⟩) ?_) | refine Exists.intro _ (And.intro (⟨Eq.refl (α := List D) _⟩) ?_) | refine Exists.intro _ (And.intro (⟨Eq.refl (α := Int) _⟩) (And.intro (by omega) ?_)) | refine Exists.intro (0) (And.intro (⟨rfl⟩) (And.intro (Nat.zero_le _) ?_)) | refine Exists.intro _ (And.intro (⟨nc1⟩) (And.intro (by omega) ?_))
        | refine Exists.intro _ (Exists.intro _ (And.intro (⟨Eq.refl (α := Int) _⟩) (And.intro (⟨Eq.refl (α := Int) _⟩) (And.intro (by omega) (And.intro (by omega) ?_))))) | refine Exists.intro _ (Exists.intro _ (And.intro (⟨Eq.refl (α := Nat) _⟩) (And.intro (⟨Eq.refl (α := Nat) _⟩) ?_))) | refine Exists.intro _ (And.intro (⟨Eq.refl (α := Nat) _⟩) ?_) | refine Exists.intro _ (And.intro (w64 (by omega) (by omega)) ?_) | refine Exists.intro _ (And.intro (imin) ?_) | refine Exists.intro _ (And.intro (imax) ?_) | refine Pure.call (f13_ok _ _ hlen hlen) ?_ | refine Pure.locK (f13_ok _ _ hlen hlen) ?_
        | refine Pure.call (f11_ok) ?_ | refine Pure.locK (f11_ok) ?_ | refine boolF_not ?_ | refine boolF_dect rfl ?_ | refine boolF_dect (by assumption) ?_ | refine boolF_decf (by assumption) ?_ | refine boolF_dect (by omega) ?_ | refine boolF_decf (by omega) ?_ | refine boolF_beqt (by omega) ?_ | refine boolF_beqf (by omega) ?_ | refine boolF_bnet (by omega) ?_ | refine boolF_bnef (by omega) ?_ | refine boolF_t (by assumption) ?_ | refine boolF_f (by assumption) ?_ | refine boolF_dec (fun _ => ?_) (fun _ => ?_) | refine boolF_beq (fun _ => ?_) (fun _ => ?_)
        | refine boolF_bne (fun _ => ?_) (fun _ => ?_) | refine boolF_leq (fun _ => ?_) (fun _ => ?_) | refine Both.mk ?_ ?_)
      all_goals (conv => whnf)
      exact ⟨rfl⟩
  · have e1 : cutM l off n = ([], 1) := by rw [cutM, if_neg hr]
    have e2 : partM l off n = ([], 1) := by rw [partM, if_neg hr]
    rw [e1] at c1
    rw [e2] at c2
    repeat' ((conv => whnf); first
      | refine PairK.mk (by kernel_rfl) ?_ | refine Exists.intro _ (And.intro (map_at (by omega) hx) ?_) | refine And.intro (by decide) ?_ | refine And.intro rfl ?_ | refine And.intro (List.cons_ne_nil _ _) ?_ | refine And.intro (Nat.le_of_ble_eq_true rfl) ?_ | refine And.intro (by omega) ?_ | refine And.intro (by simp only [List.length_map, List.length_append, List.length_cons, List.length_nil]; omega) ?_ | refine And.intro (by simpa only [List.length_map, List.length_append, List.length_cons, List.length_nil] using rfl) ?_ | refine And.intro (Eq.symm (List.length_map _)) ?_
      | refine And.intro (all_map (fun _ => rfl)) ?_ | refine And.intro (cells_map (fun _ => rfl)) ?_ | refine And.intro (rows_map (fun _ => rfl) (fun _ => rfl)) ?_ | refine And.intro (okRows_one rfl rfl) ?_ | refine And.intro (okRows_all rfl) ?_ | refine boolF_t (beq_self_eq_true _) ?_ | refine Exists.intro _ (And.intro (map_get (by assumption)) ?_) | refine Exists.intro _ (And.intro (Eq.refl (α := Option D) _) ?_) | refine Exists.intro _ (And.intro (⟨(List.length_map _).symm⟩) ?_) | refine Exists.intro _ (And.intro (⟨len_one⟩) ?_) | refine Exists.intro _ (And.intro (⟨len_two⟩) ?_)
      | refine Exists.intro _ (And.intro (⟨len_three⟩) ?_) | refine Exists.intro _ (And.intro (⟨len_four⟩) ?_) | refine Exists.intro _ (And.intro (⟨lenl_1⟩) ?_) | refine Exists.intro _ (And.intro (⟨lenl_2⟩) ?_) | refine Exists.intro _ (And.intro (⟨lenl_3⟩) ?_) | refine Exists.intro _ (And.intro (⟨lenl_4⟩) ?_) | refine Exists.intro _ (And.intro (⟨len_more⟩) ?_) | refine Exists.intro _ (And.intro (⟨map_slice⟩) ?_) | refine Exists.intro _ (And.intro (⟨List.map_take⟩) ?_) | refine Exists.intro _ (And.intro (⟨List.map_drop⟩) ?_) | refine Exists.intro _ (And.intro (⟨map_full'⟩) ?_)
      | refine Exists.intro _ (And.intro (⟨map_full⟩) ?_) | refine Exists.intro _ (And.intro (⟨map_snoc⟩) ?_) | refine Exists.intro _ (And.intro (⟨List.map_append⟩) ?_) | refine Exists.intro _ (And.intro (⟨Eq.refl (α := List D) _⟩) ?_) | refine Exists.intro _ (And.intro (⟨Eq.refl (α := Int) _⟩) (And.intro (by omega) ?_)) | refine Exists.intro (0) (And.intro (⟨rfl⟩) (And.intro (Nat.zero_le _) ?_)) | refine Exists.intro _ (And.intro (⟨nc1⟩) (And.intro (by omega) ?_))
      | refine Exists.intro _ (Exists.intro _ (And.intro (⟨Eq.refl (α := Int) _⟩) (And.intro (⟨Eq.refl (α := Int) _⟩) (And.intro (by omega) (And.intro (by omega) ?_))))) | refine Exists.intro _ (Exists.intro _ (And.intro (⟨Eq.refl (α := Nat) _⟩) (And.intro (⟨Eq.refl (α := Nat) _⟩) ?_))) | refine Exists.intro _ (And.intro (⟨Eq.refl (α := Nat) _⟩) ?_) | refine Exists.intro _ (And.intro (w64 (by omega) (by omega)) ?_) | refine Exists.intro _ (And.intro (imin) ?_) | refine Exists.intro _ (And.intro (imax) ?_) | refine Pure.call (c1) ?_ | refine Pure.locK (c1) ?_ | refine Pure.call (c2) ?_
      | refine Pure.locK (c2) ?_ | refine Pure.call (f11_ok) ?_ | refine Pure.locK (f11_ok) ?_ | refine boolF_not ?_ | refine boolF_dect rfl ?_ | refine boolF_dect (by assumption) ?_ | refine boolF_decf (by assumption) ?_ | refine boolF_dect (by omega) ?_ | refine boolF_decf (by omega) ?_ | refine boolF_beqt (by omega) ?_ | refine boolF_beqf (by omega) ?_ | refine boolF_bnet (by omega) ?_ | refine boolF_bnef (by omega) ?_ | refine boolF_t (by assumption) ?_ | refine boolF_f (by assumption) ?_ | refine boolF_dec (fun _ => ?_) (fun _ => ?_) | refine boolF_beq (fun _ => ?_) (fun _ => ?_)
      | refine boolF_bne (fun _ => ?_) (fun _ => ?_) | refine boolF_leq (fun _ => ?_) (fun _ => ?_) | refine Both.mk ?_ ?_)
    all_goals (conv => whnf)
    exact ⟨rfl⟩

end Go.Proofs.Ytaolneejplmedaa

