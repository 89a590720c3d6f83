import Derived.Test.YtgcbeibemomhcaaP6
namespace Go.Proofs.Ytgcbeibemomhcaa
open Go.A
set_option linter.unusedVariables false
set_option linter.unusedSimpArgs false
set_option linter.unnecessarySimpa false
attribute [local irreducible] IntKind.wrap bitsI
set_option maxRecDepth 100000
set_option maxHeartbeats 4000000

theorem row_last {n : Nat} (hn : 0 < n) (bb : Bool) (l : List D) (d : D) : setRow bb l (0 + ((n : Int) - 1).toNat) d = l.set (n - 1) d := by
  rw [setRow_eq]; congr 1; omega

theorem f30_ok (T : List Bool) (v : List Nat) (hv : v.length ≤ 1024) (hT : T.length = v.length) : Pure Try.prog 30 [dB T, d22 v] (d23 (shortS (atB T) (at0 v) v.length)) := by
  refine Pure.ofT ⟨scrB _ _, scd22 _ _, trivial⟩ (scd23 _ _) ?_
  refine CallsIn.of_exec tab_ok mixed Try.func30 rfl rfl [] [] ?_
  obtain ⟨t, ht⟩ : ∃ t, t = atB T := ⟨_, rfl⟩
  obtain ⟨b, hb⟩ : ∃ b, b = at0 v := ⟨_, rfl⟩
  rw [← hb, ← ht]
  (conv => whnf)
  refine W_loopG (ι := Nat × Nat) (fun i => ⟨(dB T :: d22 v :: D.undef :: D.undef :: D.undef :: .h 0 i.2 0 (shortS t b i.1).length :: .int .i64 (i.1:Int) :: D.undef :: D.undef :: D.undef :: D.undef :: D.undef :: D.undef :: D.undef :: D.undef :: D.undef :: D.undef :: D.undef :: D.undef :: D.undef :: D.undef :: D.undef :: D.undef :: D.undef :: D.undef :: D.undef :: D.undef :: D.undef :: D.undef :: D.undef :: D.undef :: D.undef :: D.undef :: D.undef :: D.undef :: D.undef :: D.undef :: D.undef :: D.undef :: D.undef :: D.undef :: D.undef :: D.undef :: D.undef :: D.undef :: D.undef :: D.undef :: D.undef :: D.undef :: D.undef :: D.undef :: D.undef :: D.undef :: D.undef :: D.undef :: D.undef :: D.undef :: D.undef :: D.undef :: D.undef :: D.undef :: D.undef :: D.undef :: D.undef :: D.undef :: D.undef :: D.undef :: D.undef :: D.undef :: D.undef :: D.undef :: D.undef :: D.undef :: D.undef :: D.undef :: D.undef :: D.undef :: D.undef :: D.undef :: D.undef :: D.undef :: D.undef :: D.undef :: D.undef :: D.undef :: D.undef :: D.undef :: D.undef :: D.undef :: D.undef :: D.undef :: D.undef :: D.undef :: D.undef :: D.undef :: D.undef :: D.undef :: D.undef :: D.undef :: D.undef :: D.undef :: D.undef :: D.undef :: D.undef :: D.undef :: D.undef :: D.undef :: D.undef :: D.undef :: D.undef :: D.undef :: D.undef :: D.undef :: D.undef :: D.undef :: []), [.arr i.2 4 ((shortS t b i.1).map r34)]⟩) (fun i => v.length - i.1)
    (fun i => i.1 ≤ v.length) (0, 0) ((Ghost.hold [0, 1, 5, 6] rfl).trans (Ghost.mat (t := 5) (sz := 4) rfl)) (Nat.zero_le _) ?_
  rintro ⟨i, ver⟩ h1
  dsimp only at h1 ⊢
  have hlen := short_len t b i
  rcases Nat.lt_or_ge i v.length with h | h
  · have hx := atB_get (l := T) (j := i) (by omega)
    rw [← ht] at hx
    have hy := at0_get h
    rw [← hb] at hy
    have hinv := shortS_ok t b i (by omega)
    have hstep : shortS t b (i + 1) = stepS t b (shortS t b i) i := rfl
    rw [stepS] at hstep
    generalize hout : shortS t b i = out at hlen hinv hstep ⊢
    cases hti : t i with
    | false =>
      rw [if_pos hti] at hstep
      rw [hti] at hx
      refine exec_ok tab_ok mixed 1000 (bx := [false]) (own := []) ?_
      repeat' ((conv => whnf); first
        | refine Exists.intro _ (And.intro (map_at (by omega) hx) ?_) | refine And.intro (by decide) ?_ | refine And.intro (by omega) ?_ | refine Exists.intro _ (And.intro (⟨(List.length_map _).symm⟩) ?_) | refine Exists.intro _ (And.intro (w64 (by omega) (by omega)) ?_) | refine boolF_dect (by omega) ?_)
      all_goals (conv => whnf)
      refine ⟨(i + 1, ver), Ghost.hold [0, 1, 5, 6] ?_, h, by dsimp only; omega⟩
      dsimp only; rw [hstep]; rfl
    | true =>
      rw [if_neg (by simp [hti])] at hstep
      rw [hti] at hx
      refine exec_ok tab_ok mixed 15 (bx := [false]) (own := []) ?_
      repeat' ((conv => whnf); first
        | refine Exists.intro _ (And.intro (map_at (by omega) hx) ?_) | refine And.intro (by decide) ?_ | refine And.intro rfl ?_ | refine And.intro (by omega) ?_ | refine Exists.intro _ (And.intro (⟨(List.length_map _).symm⟩) ?_) | refine boolF_dect (by omega) ?_)
      all_goals (conv => whnf)
      refine W_midG (ι := Unit) (fun _ => ⟨(dB T :: d22 v :: D.undef :: D.undef :: D.undef :: .h 0 ver 0 out.length :: .int .i64 (i:Int) :: .int .i64 (out.length : Int) :: .bool (decide (near t b i)) :: D.undef :: D.undef :: D.undef :: D.undef :: D.undef :: D.undef :: D.undef :: D.undef :: D.undef :: D.undef :: D.undef :: D.undef :: D.undef :: D.undef :: D.undef :: D.undef :: D.undef :: D.undef :: D.undef :: D.undef :: D.undef :: D.undef :: D.undef :: D.undef :: D.undef :: D.undef :: D.undef :: D.undef :: D.undef :: D.undef :: D.undef :: D.undef :: D.undef :: D.undef :: D.undef :: D.undef :: D.undef :: D.undef :: D.undef :: D.undef :: D.undef :: D.undef :: D.undef :: D.undef :: D.undef :: D.undef :: D.undef :: D.undef :: D.undef :: D.undef :: D.undef :: D.undef :: D.undef :: D.undef :: D.undef :: D.undef :: D.undef :: D.undef :: D.undef :: D.undef :: D.undef :: D.undef :: D.undef :: D.undef :: D.undef :: D.undef :: D.undef :: D.undef :: D.undef :: D.undef :: D.undef :: D.undef :: D.undef :: D.undef :: D.undef :: D.undef :: D.undef :: D.undef :: D.undef :: D.undef :: D.undef :: D.undef :: D.undef :: D.undef :: D.undef :: D.undef :: D.undef :: D.undef :: D.undef :: D.undef :: D.undef :: D.undef :: D.undef :: D.undef :: D.undef :: D.undef :: D.undef :: D.undef :: D.undef :: D.undef :: D.undef :: D.undef :: D.undef :: D.undef :: D.undef :: D.undef :: []), [.arr ver 4 (out.map r34)]⟩) (fun _ => True) ?_ ?_
      · refine exec_ok tab_ok mixed 1000 (bx := [false]) (own := []) ?_
        rcases Nat.eq_zero_or_pos i with h0 | h0
        · have hn : ¬ near t b i := fun hn => by have := hn.1; omega
          repeat' ((conv => whnf); first
            | refine PairK.mk (by kernel_rfl) ?_ | refine boolF_decf (by omega) ?_)
          all_goals (conv => whnf)
          exact ⟨(), Ghost.hold [0, 1, 5, 6, 7, 8] (by dsimp only; rw [decide_eq_false hn]; rfl), trivial⟩
        · have hw := atB_get (l := T) (j := i - 1) (by omega)
          rw [← ht] at hw
          have hu := at0_get (l := v) (j := i - 1) (by omega)
          rw [← hb] at hu
          cases htp : t (i - 1) with
          | false =>
            have hn : ¬ near t b i := fun hn => by have := hn.2.1; rw [htp] at this; cases this
            rw [htp] at hw
            repeat' ((conv => whnf); first
              | refine PairK.mk (by kernel_rfl) ?_ | refine Exists.intro _ (And.intro (map_at (by omega) hw) ?_) | refine And.intro (by decide) ?_ | refine And.intro (by omega) ?_ | refine Exists.intro _ (And.intro (w64 (by omega) (by omega)) ?_) | refine boolF_dect (by omega) ?_)
            all_goals (conv => whnf)
            exact ⟨(), Ghost.hold [0, 1, 5, 6, 7, 8] (by dsimp only; rw [decide_eq_false hn]; rfl), trivial⟩
          | true =>
            rw [htp] at hw
            by_cases g3 : b (i - 1) = 0 ↔ b i = 0
            · have hn : near t b i := ⟨h0, htp, g3⟩
              have hsm : ((b (i - 1) == 0) == (b i == 0)) = true := by
                by_cases q : b i = 0
                · simp [q, g3.mpr q]
                · have q' : b (i - 1) ≠ 0 := fun e => q (g3.mp e)
                  have e1 : (b (i - 1) == 0) = false := by simpa using q'
                  have e2 : (b i == 0) = false := by simpa using q
                  rw [e1, e2]; rfl
              repeat' ((conv => whnf); first
                | refine PairK.mk (by kernel_rfl) ?_ | refine Exists.intro _ (And.intro (map_at (by omega) hy) ?_) | refine Exists.intro _ (And.intro (map_at (by omega) hw) ?_) | refine Exists.intro _ (And.intro (map_at (by omega) hu) ?_) | refine And.intro (by decide) ?_ | refine And.intro rfl ?_ | refine And.intro (by omega) ?_ | refine Exists.intro _ (And.intro (w64 (by omega) (by omega)) ?_) | refine boolF_dect (by omega) ?_)
              all_goals (conv => whnf)
              exact ⟨(), Ghost.hold [0, 1, 5, 6, 7, 8] (by dsimp only; rw [decide_eq_true hn, hsm]; rfl), trivial⟩
            · have hn : ¬ near t b i := fun hn => g3 hn.2.2
              have hsm : ((b (i - 1) == 0) == (b i == 0)) = false := by
                by_cases q : b i = 0
                · have q' : b (i - 1) ≠ 0 := fun e => g3 ⟨fun _ => q, fun _ => e⟩
                  have e1 : (b (i - 1) == 0) = false := by simpa using q'
                  rw [e1, q]; rfl
                · have q' : b (i - 1) = 0 := Classical.byContradiction fun e => g3 ⟨fun e' => absurd e' e, fun e' => absurd e' q⟩
                  have e2 : (b i == 0) = false := by simpa using q
                  rw [e2, q']; rfl
              repeat' ((conv => whnf); first
                | refine PairK.mk (by kernel_rfl) ?_ | refine Exists.intro _ (And.intro (map_at (by omega) hy) ?_) | refine Exists.intro _ (And.intro (map_at (by omega) hw) ?_) | refine Exists.intro _ (And.intro (map_at (by omega) hu) ?_) | refine And.intro (by decide) ?_ | refine And.intro rfl ?_ | refine And.intro (by omega) ?_ | refine Exists.intro _ (And.intro (w64 (by omega) (by omega)) ?_) | refine boolF_dect (by omega) ?_)
              all_goals (conv => whnf)
              exact ⟨(), Ghost.hold [0, 1, 5, 6, 7, 8] (by dsimp only; rw [decide_eq_false hn, hsm]; rfl), trivial⟩
      rintro _ _
      refine exec_ok tab_ok mixed 1000 (bx := [false]) (own := []) ?_
      have hnew : (near t b i → b i ≠ 0 ∧ ∃ l, out[out.length - 1]? = some l ∧ 64 ≤ l.data_.length) → shortS t b (i + 1) = out ++ [if b i = 0 then trimO i 1 else writeO i [b i]] := fun hh => by
        rw [hstep]
        split
        · split <;> rfl
        · rename_i l hl
          by_cases hn : near t b i
          · obtain ⟨q1, l', q2, q3⟩ := hh hn
            rw [hl] at q2; obtain rfl := Option.some.inj q2
            rw [if_neg (fun h => q1 h.2), if_neg q1, if_neg (fun h => by omega), if_neg q1]
          · rw [if_neg (fun h => hn h.1)]
            split
            · rfl
            · rw [if_neg (fun h => hn h.1)]
      by_cases hn : near t b i
      · obtain ⟨kk, l, e, e1, e2, e3⟩ := hinv.last hn.1 hn.2.1
        have hl : out[out.length - 1]? = some l := by rw [e]; simp
        have hpos : 0 < out.length := by rw [e]; simp
        have hlo := hinv.ok l (List.mem_of_getElem? hl)
        have hlo' := hlo
        simp only [okOp] at hlo'
        rw [hl] at hstep
        dsimp only at hstep
        by_cases hz : b i = 0
        · rw [if_pos ⟨hn, hz⟩] at hstep
          repeat' ((conv => whnf); first
            | refine Exists.intro _ (And.intro (map_at (by omega) hy) ?_) | refine Exists.intro _ (And.intro (map_at (by omega) hl) ?_) | refine And.intro (by decide) ?_ | refine And.intro rfl ?_ | refine And.intro (by omega) ?_ | refine And.intro (by simp only [List.length_map, List.length_append, List.length_cons, List.length_nil]; omega) ?_ | refine Exists.intro _ (And.intro (w64 (by omega) (by omega)) ?_) | refine boolF_dect (by assumption) ?_)
          all_goals (conv => whnf)
          refine ⟨(i + 1, ver), Ghost.hold [0, 1, 5, 6] ?_, h, by dsimp only; omega⟩
          dsimp only; rw [hstep, List.length_set, List.map_set, ← row_last hpos false]; rfl
        · rw [if_neg (fun h => hz h.2), if_neg hz] at hstep
          by_cases h64 : l.data_.length < 64
          · rw [if_pos ⟨hn, h64⟩] at hstep
            repeat' ((conv => whnf); first
              | refine PairK.mk (by kernel_rfl) ?_ | refine Exists.intro _ (And.intro (map_at (by omega) hy) ?_) | refine Exists.intro _ (And.intro (map_at (by omega) hl) ?_) | refine And.intro (by decide) ?_ | refine And.intro rfl ?_ | refine And.intro (by omega) ?_ | refine And.intro (by simp only [List.length_map, List.length_append, List.length_cons, List.length_nil]; omega) ?_ | refine And.intro (by simpa only [List.length_map, List.length_append, List.length_cons, List.length_nil] using rfl) ?_ | refine And.intro (rows_map (fun _ => rfl) (fun _ => rfl)) ?_ | refine And.intro (okRows_one rfl rfl) ?_
              | refine Exists.intro _ (And.intro (⟨(List.length_map _).symm⟩) ?_) | refine Exists.intro _ (And.intro (⟨len_one⟩) ?_) | refine Exists.intro _ (And.intro (⟨map_snoc⟩) ?_) | refine Exists.intro _ (And.intro (w64 (by omega) (by omega)) ?_) | refine boolF_dect (by assumption) ?_ | refine boolF_decf (by assumption) ?_ | refine boolF_dect (by omega) ?_)
            all_goals (conv => whnf)
            have e4 : (shortS t b (i + 1)).map r34 = ((out.map r34).set (out.length - 1) (.agg [d3 l.kind_, d3 l.off_, d3 l.len_, .h 1 2 0 (l.data_.length + 1)])).set (out.length - 1) (r34 ⟨l.kind_, l.off_, l.len_, l.data_ ++ [b i]⟩) := by
              rw [hstep, List.map_set, List.set_set]
            have e5 : Fzl [(1, .arr 2 1 ((l.data_ ++ [b i]).map r45))] ((out.map r34).set (out.length - 1) (.agg [d3 l.kind_, d3 l.off_, d3 l.len_, .h 1 2 0 (l.data_.length + 1)])) ((shortS t b (i + 1)).map r34) := by
              rw [e4]
              exact Fzl.set (List.getElem?_set_self (by rw [List.length_map]; omega)) (.cons .refl (.cons .refl (.cons .refl (.cons (.h mem0 .all (all_take (by simp))) .nil))))
            rw [← row_last hpos false] at e5
            refine ⟨(i + 1, ver), (Ghost.fz [(1, .arr 2 1 ((l.data_ ++ [b i]).map r45))] [(0, .arr ver 4 ((shortS t b (i + 1)).map r34))] ?_ (by simp) Fzs.all ?_ (by simp)).trans (Ghost.back [0, 1, 5, 6] 1 ?_ ?_ (Nat.zero_le _) ?_ ?_), h, by dsimp only; omega⟩
            · intro y hy
              simp only [List.mem_singleton] at hy; subst hy
              exact ⟨Nat.zero_le _, rfl, _, _, _, rfl⟩
            · intro y hy
              simp only [List.mem_singleton] at hy; subst hy
              exact ⟨by simp, ver, 4, _, _, rfl, rfl, e5⟩
            · dsimp only; rw [hstep, List.length_set]; rfl
            · rfl
            · simp [scs, D.sc, scd22, dB, scrB]
            · intro ob hob
              simp only [List.mem_singleton] at hob; subst hob
              exact scr34 _ _
          · have hs := hnew fun _ => ⟨hz, l, hl, by omega⟩
            rw [if_neg hz] at hs
            repeat' ((conv => whnf); first
              | refine Exists.intro _ (And.intro (map_at (by omega) hy) ?_) | refine Exists.intro _ (And.intro (map_at (by omega) hl) ?_) | refine And.intro (by decide) ?_ | refine And.intro rfl ?_ | refine And.intro (by omega) ?_ | refine And.intro (by simp only [List.length_map, List.length_append, List.length_cons, List.length_nil]; omega) ?_ | refine And.intro (by simpa only [List.length_map, List.length_append, List.length_cons, List.length_nil] using rfl) ?_ | refine And.intro (okRows_one rfl rfl) ?_ | refine Exists.intro _ (And.intro (⟨(List.length_map _).symm⟩) ?_)
              | refine Exists.intro _ (And.intro (⟨len_one⟩) ?_) | refine Exists.intro _ (And.intro (⟨Eq.refl (α := List D) _⟩) ?_) | refine Exists.intro _ (And.intro (w64 (by omega) (by omega)) ?_) | refine boolF_dect (by assumption) ?_ | refine boolF_decf (by assumption) ?_ | refine boolF_decf (by omega) ?_)
            all_goals (conv => whnf)
            refine ⟨(i + 1, ver + 1), Ghost.hold [0, 1, 5, 6] ?_, h, by dsimp only; omega⟩
            dsimp only; rw [hs, List.length_append, List.map_append]; rfl
      · have hs := hnew fun g => absurd g hn
        by_cases hz : b i = 0
        · rw [if_pos hz] at hs
          repeat' ((conv => whnf); first
            | refine Exists.intro _ (And.intro (map_at (by omega) hy) ?_) | refine And.intro (by decide) ?_ | refine And.intro rfl ?_ | refine And.intro (by omega) ?_ | refine And.intro (by simpa only [List.length_map, List.length_append, List.length_cons, List.length_nil] using rfl) ?_ | refine And.intro (okRows_one rfl rfl) ?_ | refine Exists.intro _ (And.intro (⟨len_one⟩) ?_) | refine Exists.intro _ (And.intro (⟨Eq.refl (α := List D) _⟩) ?_) | refine Exists.intro _ (And.intro (w64 (by omega) (by omega)) ?_) | refine boolF_dect (by assumption) ?_ | refine boolF_decf (by assumption) ?_)
          all_goals (conv => whnf)
          refine ⟨(i + 1, ver + 1), (Ghost.re (o := 0) (rows' := (shortS t b (i + 1)).map r34) rfl ?_).trans (Ghost.hold [0, 1, 5, 6] ?_), h, by dsimp only; omega⟩
          · rw [hs, List.map_append]
            exact Fzl.snoc (.cons .refl (.cons .refl (.cons .refl (.cons .nils .nil))))
          · dsimp only
            rw [hs, List.length_append]; rfl
        · rw [if_neg hz] at hs
          repeat' ((conv => whnf); first
            | refine Exists.intro _ (And.intro (map_at (by omega) hy) ?_) | refine And.intro (by decide) ?_ | refine And.intro rfl ?_ | refine And.intro (by omega) ?_ | refine And.intro (by simpa only [List.length_map, List.length_append, List.length_cons, List.length_nil] using rfl) ?_ | refine And.intro (okRows_one rfl rfl) ?_ | refine Exists.intro _ (And.intro (⟨len_one⟩) ?_) | refine Exists.intro _ (And.intro (⟨Eq.refl (α := List D) _⟩) ?_) | refine Exists.intro _ (And.intro (w64 (by omega) (by omega)) ?_) | refine boolF_decf (by assumption) ?_)
          all_goals (conv => whnf)
          refine ⟨(i + 1, ver + 1), Ghost.hold [0, 1, 5, 6] ?_, h, by dsimp only; omega⟩
          dsimp only; rw [hs, List.length_append, List.map_append]; rfl
  · refine exec_ok tab_ok mixed 1000 (bx := [false]) (own := []) ?_
    obtain rfl : i = v.length := by omega
    repeat' ((conv => whnf); first
      | refine Exists.intro _ (And.intro (⟨(List.length_map _).symm⟩) ?_) | refine boolF_decf (by omega) ?_)
    all_goals (conv => whnf)
    exact ⟨Told.frz 0 rfl (.h (all_take rfl))⟩

end Go.Proofs.Ytgcbeibemomhcaa

