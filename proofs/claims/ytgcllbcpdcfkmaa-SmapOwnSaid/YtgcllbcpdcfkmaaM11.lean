import Derived.Test.YtgcllbcpdcfkmaaM10
namespace Go.Proofs.Ytgcllbcpdcfkmaa
open Go.A
set_option linter.unusedVariables false
set_option linter.unusedSimpArgs false
set_option linter.unnecessarySimpa false
attribute [local irreducible] IntKind.wrap bitsI
set_option maxRecDepth 100000
set_option maxHeartbeats 4000000

theorem z_ok (e : Int) (he : ok3 e) : ok25 ((⟨0, 0, []⟩, e) : T24 × Int).1 ∧ ok3 ((⟨0, 0, []⟩, e) : T24 × Int).2 := ⟨⟨by simp [ok3], by simp [ok3], by simp [ok23]⟩, he⟩

theorem next_ok {m : T24} {l : List T58} (hm : ok25 m) (hl : ∀ p ∈ l, ok59 p) (h32 : l.length ≤ 100) : ok25 (nextM m l).1 ∧ ok3 (nextM m l).2 := by
  rw [nextM]
  split
  · exact z_ok 6 (by simp [ok3])
  · have := hm.1
    simp only [ok3] at this
    exact ⟨⟨by simp only [ok3]; omega, hm.2.1, hl, by simp only [td59]; omega⟩, by simp [ok3]⟩

theorem at13_mem {m : T24} {b : Int} {i : Nat} {x : T58} (h : at13 m b = some (i, x)) : m.pieces_[i]? = some x := by
  unfold at13 at h
  split at h
  · rename_i y hy
    simp only [Option.some.injEq, Prod.mk.injEq] at h
    obtain ⟨rfl, rfl⟩ := h
    exact hy
  · cases h

theorem pieces_ok {m : T24} {l : List T58} (i j : Nat) (hm : ok25 m) (hr : rightP m) (hl : ∀ p ∈ l, ok59 p) (h3 : l.length ≤ 3) : (∀ p ∈ m.pieces_.take i ++ l ++ m.pieces_.drop j, ok59 p) ∧ (m.pieces_.take i ++ l ++ m.pieces_.drop j).length ≤ 100 := by
  refine ⟨fun p hp => ?_, ?_⟩
  · rcases List.mem_append.mp hp with hp | hp
    · rcases List.mem_append.mp hp with hp | hp
      · exact hm.2.2.1 p (List.mem_of_mem_take hp)
      · exact hl p hp
    · exact hm.2.2.1 p (List.mem_of_mem_drop hp)
  · have := hr.2.2.2.2.1
    simp only [List.length_append, List.length_take, List.length_drop]
    omega

theorem splitM_ok {m : T24} {b : Int} (hm : ok25 m) (hb : ok3 b) : ok25 (splitM m b).1 ∧ ok3 (splitM m b).2 := by
  unfold splitM
  split
  · exact z_ok 1 (by simp [ok3])
  · rename_i h
    have hr : rightP m := Classical.byContradiction fun h' => h (.inl h')
    split
    · exact z_ok 1 (by simp [ok3])
    · rename_i i x hx
      have hx := hm.2.2.1 x (List.mem_of_getElem? (at13_mem hx))
      split
      · exact z_ok 10 (by simp [ok3])
      · split
        · exact z_ok 6 (by simp [ok3])
        · have := pieces_ok (l := [⟨x.from_, b, x.node_⟩, ⟨b, x.to_, x.node_⟩]) i (i + 1) hm hr (by simp only [List.mem_cons, List.not_mem_nil, or_false]; rintro p (rfl | rfl); exact ⟨hx.1, hb, hx.2.2⟩; exact ⟨hb, hx.2.1, hx.2.2⟩) (by simp)
          exact next_ok hm this.1 this.2

theorem mergeM_ok {m : T24} {b : Int} (hm : ok25 m) (hb : ok3 b) : ok25 (mergeM m b).1 ∧ ok3 (mergeM m b).2 := by
  unfold mergeM
  split
  · exact z_ok 1 (by simp [ok3])
  · rename_i h
    have hr : rightP m := Classical.byContradiction h
    split
    · exact z_ok 9 (by simp [ok3])
    · split
      · exact z_ok 1 (by simp [ok3])
      · rename_i i x hx
        have hx := hm.2.2.1 x (List.mem_of_getElem? (at13_mem hx))
        split
        · exact z_ok 9 (by simp [ok3])
        · split
          · exact z_ok 1 (by simp [ok3])
          · rename_i y hy
            have hy := hm.2.2.1 y (List.mem_of_getElem? hy)
            split
            · exact z_ok 1 (by simp [ok3])
            · have := pieces_ok (l := [⟨y.from_, x.to_, x.node_⟩]) (i - 1) (i + 1) hm hr (by simp only [List.mem_singleton]; rintro p rfl; exact ⟨hy.1, hx.2.1, hx.2.2⟩) (by simp)
              exact next_ok hm this.1 this.2

theorem moveM_ok {m : T24} {b c : Int} (hm : ok25 m) (hb : ok3 b) (hc : ok3 c) : ok25 (moveM m b c).1 ∧ ok3 (moveM m b c).2 := by
  unfold moveM
  split
  · exact z_ok 1 (by simp [ok3])
  · rename_i h
    have hr : rightP m := Classical.byContradiction h
    split
    · exact z_ok 9 (by simp [ok3])
    · split
      · exact z_ok 1 (by simp [ok3])
      · split
        · exact z_ok 1 (by simp [ok3])
        · rename_i i x hx
          have hx := hm.2.2.1 x (List.mem_of_getElem? (at13_mem hx))
          split
          · exact z_ok 10 (by simp [ok3])
          · have := pieces_ok (l := [⟨x.from_, x.to_, c⟩]) i (i + 1) hm hr (by simp only [List.mem_singleton]; rintro p rfl; exact ⟨hx.1, hx.2.1, hc⟩) (by simp)
            exact next_ok hm this.1 this.2


theorem smapTurns_true (m : T24) (b c : Int) (h0 : ok25 m) (h1 : ok3 b) (h2 : ok3 c) : CallsIn Try.prog 6 [d25 m, d3 b, d3 c] [] fun r _ => r = .bool true := by
  have k1 := splitM_ok h0 h1
  have k2 := mergeM_ok h0 h1
  have k3 := moveM_ok h0 h1 h2
  refine CallsIn.of_exec tab_ok mixed Try.func6 rfl rfl [] [] ?_
  repeat' ((conv => whnf); first
    | refine PairK.mk (by kernel_rfl) ?_ | refine And.intro (by decide) ?_ | refine And.intro rfl ?_ | refine And.intro (List.cons_ne_nil _ _) ?_ | refine And.intro (Nat.le_of_ble_eq_true rfl) ?_ | refine And.intro (by omega) ?_ | refine And.intro (by simp only [List.length_map, List.length_append, List.length_cons, List.length_nil]; omega) ?_ | refine And.intro (by simpa only [List.length_map, List.length_append, List.length_cons, List.length_nil] using rfl) ?_ | refine And.intro (Eq.symm (List.length_map _)) ?_ | refine And.intro (all_map (fun _ => rfl)) ?_
    | refine And.intro (cells_map (fun _ => rfl)) ?_ | refine And.intro (rows_map (fun _ => rfl) (fun _ => rfl)) ?_ | refine And.intro (okRows_one rfl rfl) ?_ | refine And.intro (okRows_all rfl) ?_ | refine boolF_t (beq_self_eq_true _) ?_ | refine Exists.intro _ (And.intro (map_get (by assumption)) ?_) | refine Exists.intro _ (And.intro (Eq.refl (α := Option D) _) ?_) | refine Exists.intro _ (And.intro (⟨(List.length_map _).symm⟩) ?_) | refine Exists.intro _ (And.intro (⟨len_one⟩) ?_) | refine Exists.intro _ (And.intro (⟨len_two⟩) ?_) | refine Exists.intro _ (And.intro (⟨len_three⟩) ?_)
    | refine Exists.intro _ (And.intro (⟨len_four⟩) ?_) | refine Exists.intro _ (And.intro (⟨lenl_1⟩) ?_) | refine Exists.intro _ (And.intro (⟨lenl_2⟩) ?_) | refine Exists.intro _ (And.intro (⟨lenl_3⟩) ?_) | refine Exists.intro _ (And.intro (⟨lenl_4⟩) ?_) | refine Exists.intro _ (And.intro (⟨len_more⟩) ?_) | refine Exists.intro _ (And.intro (⟨map_slice⟩) ?_) | refine Exists.intro _ (And.intro (⟨List.map_take⟩) ?_) | refine Exists.intro _ (And.intro (⟨List.map_drop⟩) ?_) | refine Exists.intro _ (And.intro (⟨map_full'⟩) ?_) | refine Exists.intro _ (And.intro (⟨map_full⟩) ?_)
    | refine Exists.intro _ (And.intro (⟨map_snoc⟩) ?_) | refine Exists.intro _ (And.intro (⟨List.map_append⟩) ?_) | refine Exists.intro _ (And.intro (⟨Eq.refl (α := List D) _⟩) ?_) | refine Exists.intro _ (And.intro (⟨Eq.refl (α := Int) _⟩) (And.intro (by omega) ?_)) | refine Exists.intro (0) (And.intro (⟨rfl⟩) (And.intro (Nat.zero_le _) ?_)) | refine Exists.intro _ (And.intro (⟨nc1⟩) (And.intro (by omega) ?_)) | refine Exists.intro _ (Exists.intro _ (And.intro (⟨Eq.refl (α := Int) _⟩) (And.intro (⟨Eq.refl (α := Int) _⟩) (And.intro (by omega) (And.intro (by omega) ?_)))))
    | refine Exists.intro _ (Exists.intro _ (And.intro (⟨Eq.refl (α := Nat) _⟩) (And.intro (⟨Eq.refl (α := Nat) _⟩) ?_))) | refine Exists.intro _ (And.intro (⟨Eq.refl (α := Nat) _⟩) ?_) | refine Exists.intro _ (And.intro (w64 (by omega) (by omega)) ?_) | refine Exists.intro _ (And.intro (imin) ?_) | refine Exists.intro _ (And.intro (imax) ?_) | refine Pure.call (f13_ok _) ?_ | refine Pure.locK (f13_ok _) ?_ | refine Pure.call (f15_ok _) ?_ | refine Pure.locK (f15_ok _) ?_ | refine Pure.call (f24_ok _ _ h0 h1) ?_ | refine Pure.locK (f24_ok _ _ h0 h1) ?_ | refine Pure.call (f25_ok _ _ h0 h1) ?_
    | refine Pure.locK (f25_ok _ _ h0 h1) ?_ | refine Pure.call (f22_ok _ _ h0 h1) ?_ | refine Pure.locK (f22_ok _ _ h0 h1) ?_ | refine Pure.call (f26_ok _ _ h0 h1) ?_ | refine Pure.locK (f26_ok _ _ h0 h1) ?_ | refine Pure.call (f23_ok _ _ h0 h1) ?_ | refine Pure.locK (f23_ok _ _ h0 h1) ?_ | refine Pure.call (f27_ok _ _ h0 h1) ?_ | refine Pure.locK (f27_ok _ _ h0 h1) ?_ | refine Pure.call (f28_ok _ _ _ h0 h1) ?_ | refine Pure.locK (f28_ok _ _ _ h0 h1) ?_ | refine Pure.call (f29_ok _ _ _ h0 h1) ?_ | refine Pure.locK (f29_ok _ _ _ h0 h1) ?_ | refine Pure.call (f12_ok _ _ k1.1 k1.1) ?_
    | refine Pure.locK (f12_ok _ _ k1.1 k1.1) ?_ | refine Pure.call (f12_ok _ _ k2.1 k2.1) ?_ | refine Pure.locK (f12_ok _ _ k2.1 k2.1) ?_ | refine Pure.call (f12_ok _ _ k3.1 k3.1) ?_ | refine Pure.locK (f12_ok _ _ k3.1 k3.1) ?_ | refine Pure.call (f18_ok) ?_ | refine Pure.locK (f18_ok) ?_ | refine boolF_not ?_ | refine boolF_dect rfl ?_ | refine boolF_dect (by assumption) ?_ | refine boolF_decf (by assumption) ?_ | refine boolF_dect (by omega) ?_ | refine boolF_decf (by omega) ?_ | refine boolF_beqt (by omega) ?_ | refine boolF_beqf (by omega) ?_ | refine boolF_bnet (by omega) ?_
    | refine boolF_bnef (by omega) ?_ | refine boolF_t (by assumption) ?_ | refine boolF_f (by assumption) ?_ | refine boolF_dec (fun _ => ?_) (fun _ => ?_) | refine boolF_beq (fun _ => ?_) (fun _ => ?_) | refine boolF_bne (fun _ => ?_) (fun _ => ?_) | refine boolF_leq (fun _ => ?_) (fun _ => ?_) | refine Both.mk ?_ ?_)
  all_goals (conv => whnf)
  exact ⟨rfl⟩

end Go.Proofs.Ytgcllbcpdcfkmaa

