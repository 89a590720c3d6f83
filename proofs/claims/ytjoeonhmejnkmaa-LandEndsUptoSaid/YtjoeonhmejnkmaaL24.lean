import Derived.Test.YtjoeonhmejnkmaaL23
namespace Go.Proofs.Ytjoeonhmejnkmaa
open Go.A
set_option linter.unusedVariables false
set_option linter.unusedSimpArgs false
set_option linter.unnecessarySimpa false
attribute [local irreducible] IntKind.wrap bitsI
open B
set_option maxRecDepth 100000
set_option maxHeartbeats 4000000

def hdE : Rec := ⟨1, 3, 7, 0, 2, 0, 30, []⟩
def cmAt (ops : List Op) (j : Nat) : Cm := if j = 0 then cm0 else partC hdE ops (zer 30) j
/-- So far taken, and durable. -/
def stS (ops : List Op) (j u : Nat) : Bt := if j ≤ ops.length + 1 then ⟨cmAt ops j, 0, zer 30, true, 3, 2, cmAt ops u⟩ else ⟨cm0, 7, applyL (zer 30) ops, true, 3, 2, cm0⟩
theorem cmAt_snap {ops : List Op} {j : Nat} (h : j ≠ 0) : (cmAt ops j).snap = 7 := by rw [cmAt, if_neg h]; rfl
theorem cmAt_count (ops : List Op) (j : Nat) : (cmAt ops j).count = (j : Int) := by
  rw [cmAt]; split
  · rename_i h; subst h; rfl
  · rfl
theorem stS_now {ops : List Op} {j u : Nat} (h : j ≤ ops.length + 1) : stS ops j u = ⟨cmAt ops j, 0, zer 30, true, 3, 2, cmAt ops u⟩ := by rw [stS, if_pos h]
theorem stS_end {ops : List Op} {j u : Nat} (h : ops.length + 1 < j) : stS ops j u = ⟨cm0, 7, applyL (zer 30) ops, true, 3, 2, cm0⟩ := by rw [stS, if_neg (by omega)]
theorem stS_step {ops : List Op} (s : Stream 30 hdE ops) {j u : Nat} (hj : j ≤ ops.length + 1) : ∃ r, (strmL hdE ops)[j]? = some r ∧ takeM (stS ops j u) (j : Int) r = (stS ops (j + 1) u, 0) := by
  have hz : (zer 30).length = 30 := by simp [zer]
  rw [stS_now hj]
  rcases Nat.eq_zero_or_pos j with rfl | hpos
  · refine ⟨hdE, rfl, ?_⟩
    have := take_first s (b := ⟨cmAt ops 0, 0, zer 30, true, 3, 2, cmAt ops u⟩) rfl hz rfl rfl rfl (show (7 : Int) ≠ 0 by decide) (.inl rfl)
    rw [show ((0 : Nat) : Int) = 0 from rfl, this, stS_now (by omega)]
    rfl
  · obtain ⟨k, rfl⟩ : ∃ k, j = k + 1 := ⟨j - 1, by omega⟩
    have e0 : cmAt ops (k + 1) = partC hdE ops (zer 30) (k + 1) := by rw [cmAt, if_neg (by omega)]
    rcases Nat.lt_or_ge k ops.length with hk | hk
    · obtain ⟨o, ho⟩ := at_lt hk
      refine ⟨recOf o, recAti _ ho, ?_⟩
      have := take_mid s (b := ⟨cmAt ops (k + 1), 0, zer 30, true, 3, 2, cmAt ops u⟩) hz ho rfl e0
      have e1 : cmAt ops (k + 1 + 1) = partC hdE ops (zer 30) (k + 2) := by rw [cmAt, if_neg (by omega)]
      refine this.trans ?_
      rw [stS_now (by omega), e1]
    · obtain rfl : k = ops.length := by omega
      refine ⟨tailR ops.length, recAtn _ ops, ?_⟩
      have := take_tail s (b := ⟨cmAt ops (ops.length + 1), 0, zer 30, true, 3, 2, cmAt ops u⟩) rfl e0
      rw [this, stS_end (by omega)]
      rfl
theorem stS_sync {ops : List Op} {j u : Nat} (h : j ≤ ops.length + 1) : syncB (stS ops j u) = stS ops j j := by
  rw [stS_now h, stS_now h, syncB, if_pos rfl]
theorem stS_crash {ops : List Op} {j u : Nat} (h : j ≤ ops.length + 1) (hu : u ≤ ops.length + 1) : crashB (stS ops j u) = stS ops u u := by
  rw [stS_now h, stS_now hu, crashB, if_pos rfl]
theorem stS_inv {ops : List Op} (s : Stream 30 hdE ops) : ∀ {j : Nat}, j ≤ ops.length + 2 → ∀ {u : Nat}, u ≤ j → InvB 3 2 30 (stS ops j u) := by
  intro j
  induction j with
  | zero =>
    intro hj u hu
    obtain rfl : u = 0 := by omega
    exact inv_new (s := 3) (v := 2) (n := 30) (by decide)
  | succ j ih =>
    intro hj u hu
    rcases Nat.lt_or_ge j u with g | g
    · obtain rfl : u = j + 1 := by omega
      rcases Nat.lt_or_ge (ops.length + 1) (j + 1) with g2 | g2
      · obtain ⟨r, hr, ht⟩ := stS_step s (j := j) (u := j) (by omega)
        have := inv_take (ih (by omega) (Nat.le_refl _)) (j : Int) r
        rw [ht] at this
        rw [stS_end (by omega)]
        rw [stS_end (by omega)] at this
        exact this
      · obtain ⟨r, hr, ht⟩ := stS_step s (j := j) (u := j) (by omega)
        have := inv_sync (inv_take (ih (by omega) (Nat.le_refl _)) (j : Int) r)
        rw [ht] at this
        dsimp only at this
        rw [stS_sync g2] at this
        exact this
    · obtain ⟨r, hr, ht⟩ := stS_step s (j := j) (u := u) (by omega)
      have := inv_take (ih (by omega) g) (j : Int) r
      rw [ht] at this
      exact this

/-- What has been taken is not taken again: nothing is turned. -/
theorem f13_twice (b : Bt) (i : Int) (r : Rec) (hm : b.made = true) (hd : r.data_.length ≤ 140737488351232) (hmay : mayR r) (hi : 0 ≤ i) (hs : b.now.snap ≠ 0) (hc : i < b.now.count) : Pure Try.prog 13 [.pe (cB b), .int .i64 i, d26 r] (.int .i64 10) := by
  refine Pure.of ⟨scB _ _, trivial, scd26 _ _, trivial⟩ trivial ?_
  have h21 := f21_ok b
  rw [hm] at h21
  have h23 := f23_ok r hd
  rw [decide_eq_true hmay] at h23
  refine CallsIn.of_exec tab_ok mixed Try.func13 rfl rfl [] [] ?_
  repeat' ((conv => whnf); first
    | refine PairK.mk (by kernel_rfl) ?_ | refine And.intro (by decide) ?_ | refine And.intro rfl ?_ | refine And.intro (List.cons_ne_nil _ _) ?_ | refine And.intro (Nat.le_of_ble_eq_true rfl) ?_ | refine And.intro (by omega) ?_ | refine And.intro (by simp only [List.length_map, List.length_append, List.length_cons, List.length_nil]; omega) ?_ | refine And.intro (by simpa only [List.length_map, List.length_append, List.length_cons, List.length_nil] using rfl) ?_ | refine And.intro (Eq.symm (List.length_map _)) ?_ | refine And.intro (all_map (fun _ => rfl)) ?_
    | refine And.intro (cells_map (fun _ => rfl)) ?_ | refine And.intro (rows_map (fun _ => rfl) (fun _ => rfl)) ?_ | refine And.intro (okRows_one rfl rfl) ?_ | refine And.intro (okRows_all rfl) ?_ | refine boolF_t (beq_self_eq_true _) ?_ | refine Exists.intro _ (And.intro (map_get (by assumption)) ?_) | refine Exists.intro _ (And.intro (Eq.refl (α := Option D) _) ?_) | refine Exists.intro _ (And.intro (⟨(List.length_map _).symm⟩) ?_) | refine Exists.intro _ (And.intro (⟨len_one⟩) ?_) | refine Exists.intro _ (And.intro (⟨len_two⟩) ?_) | refine Exists.intro _ (And.intro (⟨len_three⟩) ?_)
    | refine Exists.intro _ (And.intro (⟨len_four⟩) ?_) | refine Exists.intro _ (And.intro (⟨lenl_1⟩) ?_) | refine Exists.intro _ (And.intro (⟨lenl_2⟩) ?_) | refine Exists.intro _ (And.intro (⟨lenl_3⟩) ?_) | refine Exists.intro _ (And.intro (⟨lenl_4⟩) ?_) | refine Exists.intro _ (And.intro (⟨len_more⟩) ?_) | refine Exists.intro _ (And.intro (⟨map_slice⟩) ?_) | refine Exists.intro _ (And.intro (⟨List.map_take⟩) ?_) | refine Exists.intro _ (And.intro (⟨List.map_drop⟩) ?_) | refine Exists.intro _ (And.intro (⟨map_full'⟩) ?_) | refine Exists.intro _ (And.intro (⟨map_full⟩) ?_)
    | refine Exists.intro _ (And.intro (⟨map_snoc⟩) ?_) | refine Exists.intro _ (And.intro (⟨List.map_append⟩) ?_) | refine Exists.intro _ (And.intro (⟨Eq.refl (α := List D) _⟩) ?_) | refine Exists.intro _ (And.intro (⟨Eq.refl (α := Int) _⟩) (And.intro (by omega) ?_)) | refine Exists.intro (0) (And.intro (⟨rfl⟩) (And.intro (Nat.zero_le _) ?_)) | refine Exists.intro _ (And.intro (⟨nc1⟩) (And.intro (by omega) ?_)) | refine Exists.intro _ (Exists.intro _ (And.intro (⟨Eq.refl (α := Int) _⟩) (And.intro (⟨Eq.refl (α := Int) _⟩) (And.intro (by omega) (And.intro (by omega) ?_)))))
    | refine Exists.intro _ (Exists.intro _ (And.intro (⟨Eq.refl (α := Nat) _⟩) (And.intro (⟨Eq.refl (α := Nat) _⟩) ?_))) | refine Exists.intro _ (And.intro (⟨Eq.refl (α := Nat) _⟩) ?_) | refine Exists.intro _ (And.intro (u32and (by omega) (by omega)) ?_) | refine Exists.intro _ (And.intro (u32or (by omega) (by omega)) ?_) | refine Exists.intro _ (And.intro (u32xor (by omega) (by omega)) ?_) | refine Exists.intro _ (And.intro (u8xor (by omega) (by omega)) ?_) | refine Exists.intro _ (And.intro (u64and (by omega) (by omega)) ?_) | refine Exists.intro _ (And.intro (u64or (by omega) (by omega)) ?_)
    | refine Exists.intro _ (And.intro (u64xor (by omega) (by omega)) ?_) | refine Exists.intro _ (And.intro (w64 (by omega) (by omega)) ?_) | refine Exists.intro _ (And.intro (u32add (by omega)) ?_) | refine Exists.intro _ (And.intro (u64add (by omega)) ?_) | refine Exists.intro _ (And.intro (u8w (by omega)) ?_) | refine Exists.intro _ (And.intro (u32w (by omega)) ?_) | refine Exists.intro _ (And.intro (u64w (by omega)) ?_) | refine Exists.intro _ (And.intro (u8m) ?_) | refine Exists.intro _ (And.intro (u64i (by omega) (by omega)) ?_) | refine Exists.intro _ (And.intro (min_int) ?_)
    | refine Exists.intro _ (And.intro (max_int) ?_) | refine Exists.intro _ (And.intro (imin) ?_) | refine Exists.intro _ (And.intro (imax) ?_) | refine Pure.call (h21) ?_ | refine Pure.locK (h21) ?_ | refine Pure.call (h23) ?_ | refine Pure.locK (h23) ?_ | refine boolF_not ?_ | refine boolF_dect rfl ?_ | refine boolF_dect (by assumption) ?_ | refine boolF_decf (by assumption) ?_ | refine boolF_dect (by omega) ?_ | refine boolF_decf (by omega) ?_ | refine boolF_beqt (by omega) ?_ | refine boolF_beqf (by omega) ?_ | refine boolF_bnet (by omega) ?_ | refine boolF_bnef (by omega) ?_
    | refine boolF_nbeqt (by omega) ?_ | refine boolF_nbeqf (by omega) ?_ | refine boolF_nbnet (by omega) ?_ | refine boolF_nbnef (by omega) ?_ | refine boolF_t (by assumption) ?_ | refine boolF_f (by assumption) ?_ | refine boolF_dec (fun _ => ?_) (fun _ => ?_) | refine boolF_beq (fun _ => ?_) (fun _ => ?_) | refine boolF_bne (fun _ => ?_) (fun _ => ?_) | refine boolF_nbeq (fun _ => ?_) (fun _ => ?_) | refine boolF_nbne (fun _ => ?_) (fun _ => ?_) | refine boolF_leq (fun _ => ?_) (fun _ => ?_) | refine Both.mk ?_ ?_)
  all_goals (conv => whnf)
  exact ⟨rfl⟩

end Go.Proofs.Ytjoeonhmejnkmaa

