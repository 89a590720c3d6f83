import Derived.Test.YtbefmodpgecfgaaE1
namespace Go.Proofs.Ytbefmodpgecfgaa
open Go.A
set_option linter.unusedVariables false
set_option linter.unusedSimpArgs false
set_option linter.unnecessarySimpa false
attribute [local irreducible] IntKind.wrap bitsI
set_option maxRecDepth 100000
set_option maxHeartbeats 4000000

theorem cd_len (s : Dk) (i : Nat) : (cdM s i).length = s.plate.length := by simp [cdM]
theorem cd_at {s : Dk} {i j : Nat} (h : j < s.plate.length) : ((cdM s i).map r4)[j]? = some (r4 (decide (i ≤ j) && (findC j s.cache).isSome)) := by
  rw [List.getElem?_map, cdM, List.getElem?_map, List.getElem?_range h]; rfl
theorem cd_eq {s t : Dk} {i k : Nat} (h1 : s.plate.length = t.plate.length) (h2 : ∀ j, j < s.plate.length → (decide (i ≤ j) && (findC j s.cache).isSome) = (decide (k ≤ j) && (findC j t.cache).isSome)) : cdM s i = cdM t k := by
  rw [cdM, cdM, h1]
  apply List.map_congr_left
  intro j hj
  exact h2 j (by rw [h1]; simpa using hj)
theorem cd_put (s : Dk) (m : Nat) (x : List Nat) (hm : m < s.plate.length) : ((cdM s 0).map r4).set m (.bool true) = (cdM { s with cache := putC m x s.cache } 0).map r4 := by
  apply List.ext_getElem?
  intro j
  rcases Nat.lt_or_ge j s.plate.length with h | h
  · rw [cd_at (s := { s with cache := putC m x s.cache }) h, find_put]
    by_cases e : m = j
    · subst e
      rw [List.getElem?_set_self (by rw [List.length_map, cd_len]; exact h), if_pos rfl]; rfl
    · rw [List.getElem?_set_ne e, cd_at h, if_neg e]
  · rw [List.getElem?_eq_none (by rw [List.length_set, List.length_map, cd_len]; exact h), List.getElem?_eq_none (by rw [List.length_map, cd_len]; exact h)]
/-- The cache's rows behind a Write. -/
def wG (s : Dk) (g : Ca) (i : Int) (b : List Nat) : Ca := if ¬ (0 ≤ i ∧ i < s.plate.length) ∨ 64 < b.length then g else if (stepM s).1 = false then g else g.set i.toNat (some (pad b))
theorem okR_step {s : Dk} {g : Ca} (h : OkR s g) : OkR (stepM s).2 g := ⟨stepM_ok h.k, by rw [(stepM_same s).1]; exact h.len, by rw [(stepM_same s).2]; exact h.has⟩
theorem w_out {s : Dk} {g : Ca} {i : Int} {b : List Nat} (h : ¬ (0 ≤ i ∧ i < s.plate.length) ∨ 64 < b.length) : writeM s i b = (1, s) ∧ wG s g i b = g := ⟨by rw [writeM, if_pos h], by rw [wG, if_pos h]⟩
theorem w_no {s : Dk} {g : Ca} {i : Int} {b : List Nat} (h : ¬ (¬ (0 ≤ i ∧ i < s.plate.length) ∨ 64 < b.length)) (h2 : (stepM s).1 = false) : writeM s i b = (8, (stepM s).2) ∧ wG s g i b = g := ⟨by rw [writeM, if_neg h, if_pos h2], by rw [wG, if_neg h, if_pos h2]⟩
theorem w_yes {s : Dk} {g : Ca} {i : Int} {b : List Nat} (h : ¬ (¬ (0 ≤ i ∧ i < s.plate.length) ∨ 64 < b.length)) (h2 : (stepM s).1 = true) : writeM s i b = (0, { (stepM s).2 with cache := putC i.toNat (pad b) (stepM s).2.cache }) ∧ wG s g i b = g.set i.toNat (some (pad b)) := ⟨by rw [writeM, if_neg h, if_neg (by simp [h2])], by rw [wG, if_neg h, if_neg (by simp [h2])]⟩
theorem okR_write {s : Dk} {g : Ca} (h : OkR s g) (i : Int) (b : List Nat) : OkR (writeM s i b).2 (wG s g i b) := by
  have hk := writeM_ok h.k i b
  have h1 := okR_step h
  by_cases c : ¬ (0 ≤ i ∧ i < s.plate.length) ∨ 64 < b.length
  · obtain ⟨e1, e2⟩ := w_out (g := g) c
    rw [e1, e2]; exact h
  rcases bool_cases (stepM s).1 with c2 | c2
  · obtain ⟨e1, e2⟩ := w_yes (g := g) c c2
    rw [e1] at hk
    rw [e1, e2]
    have g1 : 0 ≤ i ∧ i < s.plate.length := Classical.byContradiction fun h => c (.inl h)
    refine ⟨hk, by rw [List.length_set]; exact h1.len, fun j y hy => ?_⟩
    dsimp only at hy
    rw [find_put] at hy
    split at hy
    · rename_i e
      cases hy
      subst e
      exact List.getElem?_set_self (by rw [h.len]; omega)
    · rename_i e
      rw [List.getElem?_set_ne e]
      exact h1.has j y hy
  · obtain ⟨e1, e2⟩ := w_no (g := g) c c2
    rw [e1, e2]; exact h1
theorem Fzl.set {F : List (Nat × AObj)} {x y : D} (h : Fzs F x.cells y.cells) : ∀ (l : List D) (m : Nat), Fzl F (l.set m x) (l.set m y)
  | [], _ => .nil
  | _ :: _, 0 => .cons h .all
  | _ :: l, m + 1 => .cons Fzs.all (Fzl.set h l m)
theorem sl_pad {b : List Nat} (hb : b.length ≤ 64) : (pad b).map r5 = (((pad b).map r5).drop 0).take 64 := (take64 (pad_len hb)).symm

theorem optD_map (g : Ca) (m : Nat) (x : List Nat) : (g.map optD).set m (d34 x) = (g.set m (some x)).map optD := by rw [List.map_set]; rfl
theorem opt_cases {g : Ca} {m : Nat} (h : m < g.length) : ((g.map optD)[m]? = some .nils) ∨ ∃ x, (g.map optD)[m]? = some (d34 x) := by
  rw [List.getElem?_map, List.getElem?_eq_getElem h]
  cases g[m] with
  | none => exact .inl rfl
  | some x => exact .inr ⟨x, rfl⟩
theorem r13_ok (v : Rv) (s : Dk) (g : Ca) (i : Int) (b : List Nat) (hs : OkR s g) (hb : b.length ≤ 140737488351232) : TurnsR v 13 [.int .i64 i, d34 b] s g (.int .i64 (writeM s i b).1) (writeM s i b).2 (wG s g i b) := by
  refine TurnsR.of ⟨trivial, scr5 _ _, trivial⟩ ?_
  by_cases h1 : 0 ≤ i ∧ i < s.plate.length
  case neg =>
    obtain ⟨e1, e2⟩ := w_out (g := g) (b := b) (.inl h1)
    rw [e1, e2]
    by_cases h3 : 0 ≤ i
    · refine CallsIn.of_exec tab_ok mixed Try.func13 rfl rfl [] [true, false, false, false] ?_
      repeat' ((conv => whnf); first
        | refine And.intro (by decide) ?_ | refine And.intro rfl ?_ | refine And.intro (Nat.le_of_ble_eq_true rfl) ?_ | refine boolF_dect (by omega) ?_ | refine boolF_decf (by omega) ?_)
      all_goals (conv => whnf)
      exact ⟨⟨_, _, Ghost.refl _ _ _, rfl, rfl⟩⟩
    · refine CallsIn.of_exec tab_ok mixed Try.func13 rfl rfl [] [true, false, false, false] ?_
      repeat' ((conv => whnf); first
        | refine boolF_dect (by omega) ?_)
      all_goals (conv => whnf)
      exact ⟨⟨_, _, Ghost.refl _ _ _, rfl, rfl⟩⟩
  obtain ⟨h1a, h1b⟩ := h1
  by_cases h2 : 64 < b.length
  · obtain ⟨e1, e2⟩ := w_out (s := s) (g := g) (i := i) (.inr h2)
    rw [e1, e2]
    refine CallsIn.of_exec tab_ok mixed Try.func13 rfl rfl [] [true, false, false, false] ?_
    repeat' ((conv => whnf); first
      | refine And.intro (by decide) ?_ | refine And.intro rfl ?_ | refine And.intro (Nat.le_of_ble_eq_true rfl) ?_ | refine Exists.intro _ (And.intro (⟨(List.length_map _).symm⟩) ?_) | refine boolF_dect (by omega) ?_ | refine boolF_decf (by omega) ?_)
    all_goals (conv => whnf)
    exact ⟨⟨_, _, Ghost.refl _ _ _, rfl, rfl⟩⟩
  have hb64 : b.length ≤ 64 := by omega
  have hc : ¬ (¬ (0 ≤ i ∧ i < s.plate.length) ∨ 64 < b.length) := fun h => h.elim (fun h => h ⟨h1a, h1b⟩) h2
  have h34 := r34_ok v s g hs
  have hs' := okR_step hs
  have hpl := (stepM_same s).1
  rcases bool_cases (stepM s).1 with hb1 | hb1
  case inr =>
    obtain ⟨e1, e2⟩ := w_no (g := g) hc hb1
    rw [e1, e2]
    refine CallsIn.of_exec tab_ok mixed Try.func13 rfl rfl [] [true, false, false, false] ?_
    repeat' ((conv => whnf); first
      | refine And.intro (by decide) ?_ | refine And.intro rfl ?_ | refine And.intro (Nat.le_of_ble_eq_true rfl) ?_ | refine Exists.intro _ (And.intro (⟨(List.length_map _).symm⟩) ?_) | refine boolF_decf (by omega) ?_)
    all_goals (conv => whnf)
    refine TurnsR.call h34 0 1 2 3 (by decide) trivial trivial rfl rfl rfl rfl ?_
    repeat' ((conv => whnf); first
      | refine boolF_not ?_ | refine boolF_f (by assumption) ?_)
    all_goals (conv => whnf)
    exact ⟨⟨_, _, Ghost.refl _ _ _, rfl, rfl⟩⟩
  obtain ⟨e1, e2⟩ := w_yes (g := g) hc hb1
  rw [e1, e2]
  clear hc
  obtain ⟨B, hB⟩ : ∃ B, B = stepM s := ⟨_, rfl⟩
  rw [← hB] at h34 hs' hpl hb1 ⊢
  refine CallsIn.of_exec tab_ok mixed Try.func13 rfl rfl [] [true, false, false, false] ?_
  repeat' ((conv => whnf); first
    | refine And.intro (by decide) ?_ | refine And.intro rfl ?_ | refine And.intro (Nat.le_of_ble_eq_true rfl) ?_ | refine Exists.intro _ (And.intro (⟨(List.length_map _).symm⟩) ?_) | refine boolF_decf (by omega) ?_)
  all_goals (conv => whnf)
  refine TurnsR.call h34 0 1 2 3 (by decide) trivial trivial rfl rfl rfl rfl ?_
  obtain ⟨m, rfl⟩ := Int.eq_ofNat_of_zero_le h1a
  have hm : m < B.2.plate.length := by rw [hpl]; omega
  have hml : m < g.length := by rw [hs'.len]; exact hm
  have hcd := cd_at (s := B.2) (i := 0) hm
  have hput := cd_put B.2 m (pad b) hm
  have hlg := hs'.len
  rcases opt_cases hml with hrow | ⟨x0, hrow⟩
  · repeat' ((conv => whnf); first
      | refine PairK.mk (by kernel_rfl) ?_ | refine Exists.intro ((64 - b.length : Nat) : Int) (And.intro (len64 hb64) ?_) | refine And.intro (okRows_map (fun _ _ => ⟨rfl, rfl⟩)) ?_ | refine And.intro (okRows_rep rfl rfl) ?_ | refine And.intro (List.length_map _).symm ?_ | refine Exists.intro 64 (And.intro (IsE.mk (show 64 = b.length + (List.replicate (64 - b.length) (D.int .u8 0)).length by rw [List.length_replicate]; omega)) ?_) | refine Exists.intro ((pad b).map r5) (And.intro (IsE.mk (pad_app b)) ?_) | refine And.intro (by rw [List.length_map]; omega) ?_
      | refine And.intro (by rw [List.length_map, cd_len]; omega) ?_ | refine Exists.intro _ (And.intro (at_eq (by omega) hrow) ?_) | refine Exists.intro _ (And.intro (at_eq (by omega) hcd) ?_) | refine And.intro (by decide) ?_ | refine And.intro rfl ?_ | refine And.intro (Nat.le_of_ble_eq_true rfl) ?_ | refine And.intro (by omega) ?_ | refine Exists.intro _ (And.intro (⟨(List.length_map _).symm⟩) ?_) | refine boolF_not ?_ | refine boolF_t (by assumption) ?_)
    all_goals (conv => whnf)
    have em : 0 + ((m : Int)).toNat = m := by omega
    rw [em]
    exact ⟨⟨_, _, (Ghost.fz [(4, .arr 2 1 ((pad b).map r5))] [(2, .arr v.vb 1 ((g.map optD).set m (d34 (pad b))))] (fun x hx => by
        simp only [List.mem_singleton] at hx; subst hx; exact ⟨Nat.le_refl _, rfl, _, _, _, rfl⟩) (by simp) Fzs.all (fun x hx => by
        simp only [List.mem_singleton] at hx; subst hx
        exact ⟨by simp, v.vb, 1, (g.map optD).set m (.h 4 2 0 64), _, rfl, rfl, Fzl.set (.cons (.h mem0 .all (sl_pad hb64)) .nil) _ _⟩) (by simp)).trans (Ghost.back [0] 4 rfl (by
        show [_, _, AObj.arr v.vb 1 ((g.map optD).set m (d34 (pad b))), AObj.arr 0 1 (((cdM B.2 0).map r4).set m (.bool true))] = oR v { B.2 with cache := putC m (pad b) B.2.cache } (g.set m (some (pad b)))
        rw [hput, optD_map]; rfl) (Nat.le_refl _) ⟨trivial, trivial⟩ (oscR _ _ _)), rfl, rfl⟩⟩
  · repeat' ((conv => whnf); first
      | refine PairK.mk (by kernel_rfl) ?_ | refine Exists.intro ((64 - b.length : Nat) : Int) (And.intro (len64 hb64) ?_) | refine And.intro (okRows_map (fun _ _ => ⟨rfl, rfl⟩)) ?_ | refine And.intro (okRows_rep rfl rfl) ?_ | refine And.intro (List.length_map _).symm ?_ | refine Exists.intro 64 (And.intro (IsE.mk (show 64 = b.length + (List.replicate (64 - b.length) (D.int .u8 0)).length by rw [List.length_replicate]; omega)) ?_) | refine Exists.intro ((pad b).map r5) (And.intro (IsE.mk (pad_app b)) ?_) | refine And.intro (by rw [List.length_map]; omega) ?_
      | refine And.intro (by rw [List.length_map, cd_len]; omega) ?_ | refine Exists.intro _ (And.intro (at_eq (by omega) hrow) ?_) | refine Exists.intro _ (And.intro (at_eq (by omega) hcd) ?_) | refine And.intro (by decide) ?_ | refine And.intro rfl ?_ | refine And.intro (Nat.le_of_ble_eq_true rfl) ?_ | refine And.intro (by omega) ?_ | refine Exists.intro _ (And.intro (⟨(List.length_map _).symm⟩) ?_) | refine boolF_not ?_ | refine boolF_t (by assumption) ?_)
    all_goals (conv => whnf)
    have em : 0 + ((m : Int)).toNat = m := by omega
    rw [em]
    exact ⟨⟨_, _, (Ghost.fz [(4, .arr 2 1 ((pad b).map r5))] [(2, .arr v.vb 1 ((g.map optD).set m (d34 (pad b))))] (fun x hx => by
        simp only [List.mem_singleton] at hx; subst hx; exact ⟨Nat.le_refl _, rfl, _, _, _, rfl⟩) (by simp) Fzs.all (fun x hx => by
        simp only [List.mem_singleton] at hx; subst hx
        exact ⟨by simp, v.vb, 1, (g.map optD).set m (.h 4 2 0 64), _, rfl, rfl, Fzl.set (.cons (.h mem0 .all (sl_pad hb64)) .nil) _ _⟩) (by simp)).trans (Ghost.back [0] 4 rfl (by
        show [_, _, AObj.arr v.vb 1 ((g.map optD).set m (d34 (pad b))), AObj.arr 0 1 (((cdM B.2 0).map r4).set m (.bool true))] = oR v { B.2 with cache := putC m (pad b) B.2.cache } (g.set m (some (pad b)))
        rw [hput, optD_map]; rfl) (Nat.le_refl _) ⟨trivial, trivial⟩ (oscR _ _ _)), rfl, rfl⟩⟩


end Go.Proofs.Ytbefmodpgecfgaa

