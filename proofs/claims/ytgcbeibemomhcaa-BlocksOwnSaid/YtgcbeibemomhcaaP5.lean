import Derived.Test.YtgcbeibemomhcaaP4
namespace Go.Proofs.Ytgcbeibemomhcaa
open Go.A
set_option linter.unusedVariables false
set_option linter.unusedSimpArgs false
set_option linter.unnecessarySimpa false
attribute [local irreducible] IntKind.wrap bitsI
set_option maxRecDepth 100000
set_option maxHeartbeats 4000000

theorem short_len (t : Nat → Bool) (b : Nat → Nat) : ∀ i, (shortS t b i).length ≤ i
  | 0 => Nat.le_refl _
  | i + 1 => by
    have ih := short_len t b i
    rw [shortS]
    unfold stepS
    split
    · omega
    · split
      · split <;> (rw [List.length_append]; simp; omega)
      · split
        · rw [List.length_set]; omega
        · split
          · rw [List.length_append]; simp; omega
          · split
            · rw [List.length_set]; omega
            · rw [List.length_append]; simp; omega

theorem f25_ok (v : List Nat) (g : FuncId) (caps : List D) (t : Nat → Bool) (hv : v.length ≤ 1024) (hcap : scs 0 caps) (hcl : ∀ j : Nat, j < v.length → Pure Try.prog g (.int .i64 (j : Int) :: caps) (.bool (t j))) :
    Owned Try.prog 25 [d22 v, .fn g caps] 4 ((shortS t (at0 v) v.length).map r34) := by
  refine Owned.of ⟨scd22 _ _, hcap, trivial⟩ (scr34 _ _) ?_
  refine CallsIn.of_exec tab_ok mixed Try.func25 rfl rfl [] [] ?_
  obtain ⟨b, hb⟩ : ∃ b, b = at0 v := ⟨_, rfl⟩
  rw [← hb]
  (conv => whnf)
  refine W_loopG (ι := Nat × Nat) (fun i => ⟨(d22 v :: .fn g caps :: D.undef :: D.undef :: D.undef :: .h 0 i.2 0 (shortS t b i.1).length :: .int .i64 (i.1:Int) :: D.undef :: D.undef :: D.undef :: D.undef :: D.undef :: D.undef :: D.undef :: D.undef :: D.undef :: D.undef :: D.undef :: D.undef :: D.undef :: D.undef :: D.undef :: D.undef :: D.undef :: D.undef :: D.undef :: D.undef :: D.undef :: D.undef :: D.undef :: D.undef :: D.undef :: D.undef :: D.undef :: D.undef :: D.undef :: D.undef :: D.undef :: D.undef :: D.undef :: D.undef :: D.undef :: D.undef :: D.undef :: D.undef :: D.undef :: D.undef :: D.undef :: D.undef :: D.undef :: D.undef :: D.undef :: D.undef :: D.undef :: D.undef :: D.undef :: D.undef :: D.undef :: D.undef :: D.undef :: D.undef :: D.undef :: D.undef :: D.undef :: D.undef :: D.undef :: D.undef :: D.undef :: D.undef :: D.undef :: D.undef :: D.undef :: D.undef :: D.undef :: D.undef :: D.undef :: D.undef :: D.undef :: []), [.arr i.2 4 ((shortS t b i.1).map r34)]⟩) (fun i => v.length - i.1)
    (fun i => i.1 ≤ v.length ∧ (i.1 < v.length → t i.1 = true → ¬ near t b i.1)) (0, 0) ((Ghost.hold [0, 1, 5, 6] rfl).trans (Ghost.mat (t := 5) (sz := 4) rfl)) ⟨Nat.zero_le _, fun _ _ h => absurd h.1 (Nat.lt_irrefl _)⟩ ?_
  rintro ⟨i, ver⟩ ⟨h1, h2⟩
  dsimp only at h1 h2 ⊢
  have hlen := short_len t b i
  rcases Nat.lt_or_ge i v.length with h | h
  · cases hti : t i with
    | false =>
      have hs : shortS t b (i + 1) = shortS t b i := by rw [shortS, stepS, if_pos hti]
      have hcl1 := hcl i h
      rw [hti] at hcl1
      refine exec_ok tab_ok mixed 1000 (bx := [false]) (own := []) ?_
      repeat' ((conv => whnf); first
        | refine listK_iff.mpr ?_ | refine Pure.call hcl1 ?_ | refine Exists.intro _ (And.intro (⟨(List.length_map _).symm⟩) ?_) | refine Exists.intro _ (And.intro (w64 (by omega) (by omega)) ?_) | refine boolF_dect (by omega) ?_)
      all_goals (conv => whnf)
      refine ⟨(i + 1, ver), Ghost.hold [0, 1, 5, 6] ?_, ⟨h, fun _ _ hn => ?_⟩, by dsimp only; omega⟩
      · dsimp only; rw [hs]; rfl
      · have := hn.2.1; rw [Nat.add_sub_cancel, hti] at this; cases this
    | true =>
      have hni := h2 h hti
      have hcl1 := hcl i h
      rw [hti] at hcl1
      obtain ⟨y, hy⟩ := at_lt h
      have hby : b i = y := by rw [hb]; simp only [at0, hy]; rfl
      refine exec_ok tab_ok mixed 14 (bx := [false]) (own := []) ?_
      repeat' ((conv => whnf); first
        | refine listK_iff.mpr ?_ | refine Pure.call hcl1 ?_ | refine Exists.intro _ (And.intro (⟨(List.length_map _).symm⟩) ?_) | refine Exists.intro _ (And.intro (w64 (by omega) (by omega)) ?_) | refine boolF_dect (by omega) ?_)
      all_goals (conv => whnf)
      clear hcl1
      -- the run's end
      refine W_midG (ι := Nat) (fun k => ⟨(d22 v :: .fn g caps :: D.undef :: D.undef :: D.undef :: .h 0 ver 0 (shortS t b i).length :: .int .i64 (i:Int) :: .int .i64 (k : Int) :: D.undef :: D.undef :: D.undef :: D.undef :: D.undef :: D.undef :: D.undef :: D.undef :: D.undef :: D.undef :: D.undef :: D.undef :: D.undef :: D.undef :: D.undef :: D.undef :: D.undef :: D.undef :: D.undef :: D.undef :: D.undef :: D.undef :: D.undef :: D.undef :: D.undef :: D.undef :: D.undef :: D.undef :: D.undef :: D.undef :: D.undef :: D.undef :: D.undef :: D.undef :: D.undef :: D.undef :: D.undef :: D.undef :: D.undef :: D.undef :: D.undef :: D.undef :: D.undef :: D.undef :: D.undef :: D.undef :: D.undef :: D.undef :: D.undef :: D.undef :: D.undef :: D.undef :: D.undef :: D.undef :: D.undef :: D.undef :: D.undef :: D.undef :: D.undef :: D.undef :: D.undef :: D.undef :: D.undef :: D.undef :: D.undef :: D.undef :: D.undef :: D.undef :: D.undef :: D.undef :: []), [.arr ver 4 ((shortS t b i).map r34)]⟩)
        (fun k => i < k ∧ k ≤ v.length ∧ (∀ j, i ≤ j → j < k → t j = true ∧ (b j = 0 ↔ b i = 0)) ∧ (k < v.length → t k = true → ¬ near t b k)) ?_ ?_
      · refine exec_ok tab_ok mixed 1000 (bx := [false]) (own := []) ?_
        (conv => whnf)
        refine W_loopG (ι := Nat) (fun k => ⟨(d22 v :: .fn g caps :: D.undef :: D.undef :: D.undef :: .h 0 ver 0 (shortS t b i).length :: .int .i64 (i:Int) :: .int .i64 (k : Int) :: D.undef :: D.undef :: D.undef :: D.undef :: D.undef :: D.undef :: D.undef :: D.undef :: D.undef :: D.undef :: D.undef :: D.undef :: D.undef :: D.undef :: D.undef :: D.undef :: D.undef :: D.undef :: D.undef :: D.undef :: D.undef :: D.undef :: D.undef :: D.undef :: D.undef :: D.undef :: D.undef :: D.undef :: D.undef :: D.undef :: D.undef :: D.undef :: D.undef :: D.undef :: D.undef :: D.undef :: D.undef :: D.undef :: D.undef :: D.undef :: D.undef :: D.undef :: D.undef :: D.undef :: D.undef :: D.undef :: D.undef :: D.undef :: D.undef :: D.undef :: D.undef :: D.undef :: D.undef :: D.undef :: D.undef :: D.undef :: D.undef :: D.undef :: D.undef :: D.undef :: D.undef :: D.undef :: D.undef :: D.undef :: D.undef :: D.undef :: D.undef :: D.undef :: D.undef :: D.undef :: []), [.arr ver 4 ((shortS t b i).map r34)]⟩) (fun k => v.length - k)
          (fun k => i < k ∧ k ≤ v.length ∧ ∀ j, i ≤ j → j < k → t j = true ∧ (b j = 0 ↔ b i = 0)) (i + 1) (Ghost.hold [0, 1, 5, 6, 7] rfl) ⟨Nat.lt_succ_self i, h, fun j g1 g2 => (by obtain rfl : j = i := (by omega); exact ⟨hti, Iff.rfl⟩)⟩ ?_
        rintro k ⟨k1, k2, k3⟩
        have hnear : (k < v.length → ¬ (t k = true ∧ (b k = 0 ↔ b i = 0))) → k < v.length → t k = true → ¬ near t b k := fun g1 g2 g3 hn => by
          refine g1 g2 ⟨g3, ?_⟩
          have := (k3 (k - 1) (by omega) (by omega)).2
          rw [← hn.2.2]; exact this
        refine exec_ok tab_ok mixed 1000 (bx := [false]) (own := []) ?_
        rcases Nat.lt_or_ge k v.length with g | g
        · have hcl1 := hcl k g
          obtain ⟨x, hx⟩ := at_lt g
          have hbx : b k = x := by rw [hb]; simp only [at0, hx]; rfl
          cases htk : t k with
          | false =>
            rw [htk] at hcl1
            repeat' ((conv => whnf); first
              | refine PairK.mk (by kernel_rfl) ?_ | refine listK_iff.mpr ?_ | refine Pure.locK hcl1 ?_ | refine Exists.intro _ (And.intro (⟨(List.length_map _).symm⟩) ?_) | refine boolF_dect (by omega) ?_)
            all_goals (conv => whnf)
            exact ⟨k, Ghost.hold [0, 1, 5, 6, 7] rfl, k1, k2, k3, hnear fun _ h => by rw [htk] at h; cases h.1⟩
          | true =>
            rw [htk] at hcl1
            by_cases g3 : b k = 0 ↔ b i = 0
            · have hsm : ((x == 0) == (y == 0)) = true := by
                rw [hbx, hby] at g3
                by_cases q : y = 0
                · simp [q, g3.mpr q]
                · have q' : x ≠ 0 := fun e => q (g3.mp e)
                  have e1 : (x == 0) = false := by simpa using q'
                  have e2 : (y == 0) = false := by simpa using q
                  rw [e1, e2]; rfl
              repeat' ((conv => whnf); first
                | refine PairK.mk (by kernel_rfl) ?_ | refine listK_iff.mpr ?_ | refine Pure.locK hcl1 ?_ | refine Exists.intro _ (And.intro (map_at (by omega) hx) ?_) | refine Exists.intro _ (And.intro (map_at (by omega) hy) ?_) | refine And.intro rfl ?_ | refine And.intro (by omega) ?_ | refine Exists.intro _ (And.intro (⟨(List.length_map _).symm⟩) ?_) | refine Exists.intro _ (And.intro (w64 (by omega) (by omega)) ?_) | refine boolF_dect (by omega) ?_ | refine boolF_t (by assumption) ?_)
              all_goals (conv => whnf)
              refine ⟨k + 1, Ghost.hold [0, 1, 5, 6, 7] rfl, ⟨by omega, g, fun j q1 q2 => ?_⟩, by omega⟩
              rcases Nat.lt_or_ge j k with q | q
              · exact k3 j q1 q
              · obtain rfl : j = k := by omega
                exact ⟨htk, g3⟩
            · have hsm : ((x == 0) == (y == 0)) = false := by
                rw [hbx, hby] at g3
                by_cases q : y = 0
                · have q' : x ≠ 0 := fun e => g3 ⟨fun _ => q, fun _ => e⟩
                  have e1 : (x == 0) = false := by simpa using q'
                  rw [e1, q]; rfl
                · have q' : x = 0 := Classical.byContradiction fun e => g3 ⟨fun e' => absurd e' e, fun e' => absurd e' q⟩
                  have e2 : (y == 0) = false := by simpa using q
                  rw [e2, q']; rfl
              repeat' ((conv => whnf); first
                | refine PairK.mk (by kernel_rfl) ?_ | refine listK_iff.mpr ?_ | refine Pure.locK hcl1 ?_ | refine Exists.intro _ (And.intro (map_at (by omega) hx) ?_) | refine Exists.intro _ (And.intro (map_at (by omega) hy) ?_) | refine And.intro rfl ?_ | refine And.intro (by omega) ?_ | refine Exists.intro _ (And.intro (⟨(List.length_map _).symm⟩) ?_) | refine boolF_dect (by omega) ?_ | refine boolF_f (by assumption) ?_)
              all_goals (conv => whnf)
              exact ⟨k, Ghost.hold [0, 1, 5, 6, 7] rfl, k1, k2, k3, hnear fun _ h => g3 h.2⟩
        · repeat' ((conv => whnf); first
            | refine PairK.mk (by kernel_rfl) ?_ | refine Exists.intro _ (And.intro (⟨(List.length_map _).symm⟩) ?_) | refine boolF_decf (by omega) ?_)
          all_goals (conv => whnf)
          exact ⟨k, Ghost.hold [0, 1, 5, 6, 7] rfl, k1, k2, k3, hnear fun g' => by omega⟩
      rintro k ⟨k1, k2, k3, hnk⟩
      refine exec_ok tab_ok mixed 1000 (bx := [false]) (own := []) ?_
      obtain ⟨m, hm⟩ : ∃ m, k = i + (m + 1) := ⟨k - i - 1, by omega⟩
      by_cases hz : y = 0
      · have hs := short_zero (t := t) (b := b) (i := i) (m := m) (by omega) (fun j g1 g2 => ⟨(k3 j g1 (by omega)).1, (k3 j g1 (by omega)).2.mpr (by rw [hby]; exact hz)⟩) hni
        rw [← hm] at hs
        repeat' ((conv => whnf); first
          | refine Exists.intro _ (And.intro (map_at (by omega) hy) ?_) | refine And.intro (by decide) ?_ | refine And.intro rfl ?_ | refine And.intro (by omega) ?_ | refine And.intro (by simpa only [List.length_map, List.length_append, List.length_cons, List.length_nil] using rfl) ?_ | refine And.intro (okRows_one rfl rfl) ?_ | refine Exists.intro _ (And.intro (⟨len_one⟩) ?_) | refine Exists.intro _ (And.intro (⟨Eq.refl (α := List D) _⟩) ?_) | refine Exists.intro _ (And.intro (w64 (by omega) (by omega)) ?_) | refine boolF_dect (by assumption) ?_)
        all_goals (conv => whnf)
        refine ⟨(k, ver + 1), (Ghost.re (o := 0) (rows' := (shortS t b k).map r34) rfl ?_).trans (Ghost.hold [0, 1, 5, 6] ?_), ⟨k2, hnk⟩, by dsimp only; omega⟩
        · have e : (k : Int) - (i : Int) = ((m + 1 : Nat) : Int) := by omega
          rw [hs, List.map_append, ← e]
          exact Fzl.snoc (.cons .refl (.cons .refl (.cons .refl (.cons .nils .nil))))
        · dsimp only
          rw [hs, List.length_append]; rfl
      · have hrun : ∀ j, i ≤ j → j < k → t j = true ∧ b j ≠ 0 := fun j g1 g2 => ⟨(k3 j g1 g2).1, fun e => hz (by rw [← hby]; exact (k3 j g1 g2).2.mp e)⟩
        repeat' ((conv => whnf); first
          | refine Exists.intro _ (And.intro (map_at (by omega) hy) ?_) | refine And.intro rfl ?_ | refine And.intro (by omega) ?_ | refine boolF_decf (by assumption) ?_)
        all_goals (conv => whnf)
        refine W_loopG (ι := Nat × Nat) (fun p => ⟨(d22 v :: .fn g caps :: D.undef :: D.undef :: D.undef :: .h 0 p.2 0 (shortS t b (min p.1 k)).length :: .int .i64 (p.1 : Int) :: .int .i64 (k : Int) :: D.undef :: D.undef :: D.undef :: D.undef :: D.undef :: D.undef :: D.undef :: D.undef :: D.undef :: D.undef :: D.undef :: D.undef :: D.undef :: D.undef :: D.undef :: D.undef :: D.undef :: D.undef :: D.undef :: D.undef :: D.undef :: D.undef :: D.undef :: D.undef :: D.undef :: D.undef :: D.undef :: D.undef :: D.undef :: D.undef :: D.undef :: D.undef :: D.undef :: D.undef :: D.undef :: D.undef :: D.undef :: D.undef :: D.undef :: D.undef :: D.undef :: D.undef :: D.undef :: D.undef :: D.undef :: D.undef :: D.undef :: D.undef :: D.undef :: D.undef :: D.undef :: D.undef :: D.undef :: D.undef :: D.undef :: D.undef :: D.undef :: D.undef :: D.undef :: D.undef :: D.undef :: D.undef :: D.undef :: D.undef :: D.undef :: D.undef :: D.undef :: D.undef :: D.undef :: D.undef :: []), [.arr p.2 4 ((shortS t b (min p.1 k)).map r34)]⟩) (fun p => k - p.1)
          (fun p => i ≤ p.1 ∧ p.1 ≤ k + 64 ∧ (p.1 < k → near t b p.1 → ∃ kk l, shortS t b p.1 = kk ++ [l] ∧ 64 ≤ l.data_.length)) (i, ver) (Ghost.hold [0, 1, 5, 6, 7] (by dsimp only; rw [Nat.min_eq_left (by omega)]; rfl)) ⟨Nat.le_refl _, by dsimp only; omega, fun _ h => absurd h hni⟩ ?_
        rintro ⟨p, ver⟩ ⟨p1, p2, p3⟩
        dsimp only at p1 p2 p3 ⊢
        refine exec_ok tab_ok mixed 1000 (bx := [false]) (own := []) ?_
        have hlen2 := short_len t b (min p k)
        rcases Nat.lt_or_ge p k with g | g
        · obtain ⟨q, hq'⟩ : ∃ q, q = min (p + 64) k := ⟨_, rfl⟩
          have hq : (q : Int) = if (p : Int) + 64 < (k : Int) then (p : Int) + 64 else (k : Int) := by split <;> omega
          obtain ⟨d, hd⟩ : ∃ d, q = p + (d + 1) := ⟨q - p - 1, by omega⟩
          have hs := short_seg (t := t) (b := b) (i := p) (m := d) (by omega) (fun j g1 g2 => hrun j (by omega) (by omega)) (p3 g)
          have hseg : seg b p (d + 1) = (v.drop p).take (q - p) := by rw [hb, seg_at (by omega), show q - p = d + 1 by omega]
          rw [← hd, hseg] at hs
          rw [Nat.min_eq_left (by omega)] at hlen2 ⊢
          have hdl : ((v.drop p).take (q - p)).length ≤ 64 := by rw [List.length_take]; omega
          have h22 := (f22_ok ((v.drop p).take (q - p)) (by omega) (by omega)).pure
          repeat' ((conv => whnf); first
            | refine Exists.intro ((q : Int)) (And.intro (hq) ?_) | refine And.intro (cells_map (fun _ => rfl)) ?_ | refine Exists.intro _ (And.intro (⟨(List.length_map _).symm⟩) ?_) | refine Exists.intro _ (And.intro (⟨map_slice⟩) ?_) | refine Exists.intro _ (Exists.intro _ (And.intro (⟨Eq.refl (α := Int) _⟩) (And.intro (⟨Eq.refl (α := Int) _⟩) (And.intro (by omega) (And.intro (by omega) ?_))))) | refine Exists.intro _ (And.intro (w64 (by omega) (by omega)) ?_) | refine boolF_dect (by omega) ?_)
          all_goals (conv => whnf)
          refine Pure.call h22 ?_
          repeat' ((conv => whnf); first
            | refine And.intro (by decide) ?_ | refine And.intro rfl ?_ | refine And.intro (by omega) ?_ | refine And.intro (by simpa only [List.length_map, List.length_append, List.length_cons, List.length_nil] using rfl) ?_ | refine And.intro (okRows_one rfl rfl) ?_ | refine Exists.intro _ (And.intro (⟨len_one⟩) ?_) | refine Exists.intro _ (And.intro (⟨Eq.refl (α := List D) _⟩) ?_) | refine Exists.intro _ (And.intro (w64 (by omega) (by omega)) ?_))
          all_goals (conv => whnf)
          refine ⟨(p + 64, ver + 1), Ghost.hold [0, 1, 5, 6, 7] ?_, ⟨by dsimp only; omega, by dsimp only; omega, fun g' _ => ⟨shortS t b p, writeO p ((v.drop p).take (q - p)), ?_, ?_⟩⟩, by dsimp only; omega⟩
          · dsimp only
            rw [← hq', hs, List.length_append, List.map_append]; rfl
          · have g' : p + 64 < k := g'
            rw [show p + 64 = q by omega]; exact hs
          · have g' : p + 64 < k := g'
            show 64 ≤ ((v.drop p).take (q - p)).length
            rw [List.length_take, List.length_drop]; omega
        · rw [Nat.min_eq_right g]
          repeat' ((conv => whnf); first
            | refine boolF_decf (by omega) ?_)
          all_goals (conv => whnf)
          exact ⟨(k, ver), Ghost.hold [0, 1, 5, 6] rfl, ⟨k2, hnk⟩, by dsimp only; omega⟩
  · refine exec_ok tab_ok mixed 1000 (bx := [false]) (own := []) ?_
    obtain rfl : i = v.length := by omega
    repeat' ((conv => whnf); first
      | refine Exists.intro _ (And.intro (⟨(List.length_map _).symm⟩) ?_) | refine boolF_decf (by omega) ?_)
    all_goals (conv => whnf)
    exact ⟨ver, Ghost.hold [0] (by rw [List.length_map]; rfl)⟩

end Go.Proofs.Ytgcbeibemomhcaa

