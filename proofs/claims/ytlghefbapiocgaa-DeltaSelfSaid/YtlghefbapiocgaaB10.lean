import Derived.Test.YtlghefbapiocgaaB6
-- merged
namespace Go.Proofs.Ytlghefbapiocgaa.V
open Go.A
set_option linter.unusedVariables false
set_option linter.unusedSimpArgs false
set_option linter.unnecessarySimpa false
attribute [local irreducible] IntKind.wrap bitsI
set_option maxRecDepth 100000
set_option maxHeartbeats 4000000

theorem row_last {n : Nat} (hn : 0 < n) (bb : Bool) (l : List D) (d : D) : setRow bb l (0 + ((n : Int) - 1).toNat) d = l.set (n - 1) d := by
  rw [setRow_eq]; congr 1; omega

theorem f32_ok (T : List Bool) (v : List Nat) (hv : v.length ≤ 1024) (hT : T.length = v.length) : Pure Try.prog 32 [dB T, d23 v] (d39 (shortS (atB T) (at0 v) v.length)) := by
  refine Pure.ofT ⟨scrB _ _, scd23 _ _, trivial⟩ (scd39 _ _) ?_
  refine Go.A.CallsIn.of_exec tab_ok mixed Try.func32 rfl rfl [] [] ?_
  obtain ⟨t, ht⟩ : ∃ t, t = atB T := ⟨_, rfl⟩
  obtain ⟨b, hb⟩ : ∃ b, b = at0 v := ⟨_, rfl⟩
  rw [← hb, ← ht]
  (conv => whnf)
  refine W_loopG (ι := Nat × Nat) (fun i => ⟨(dB T :: d23 v :: D.undef :: D.undef :: D.undef :: .h 0 i.2 0 (shortS t b i.1).length :: .int .i64 (i.1:Int) :: D.undef :: D.undef :: D.undef :: D.undef :: D.undef :: D.undef :: D.undef :: D.undef :: D.undef :: D.undef :: D.undef :: D.undef :: D.undef :: D.undef :: D.undef :: D.undef :: D.undef :: D.undef :: D.undef :: D.undef :: D.undef :: D.undef :: D.undef :: D.undef :: D.undef :: D.undef :: D.undef :: D.undef :: D.undef :: D.undef :: D.undef :: D.undef :: D.undef :: D.undef :: D.undef :: D.undef :: D.undef :: D.undef :: D.undef :: D.undef :: D.undef :: D.undef :: D.undef :: D.undef :: D.undef :: D.undef :: D.undef :: D.undef :: D.undef :: D.undef :: D.undef :: D.undef :: D.undef :: D.undef :: D.undef :: D.undef :: D.undef :: D.undef :: D.undef :: D.undef :: D.undef :: D.undef :: D.undef :: D.undef :: D.undef :: D.undef :: D.undef :: D.undef :: D.undef :: D.undef :: D.undef :: D.undef :: D.undef :: D.undef :: D.undef :: D.undef :: D.undef :: D.undef :: D.undef :: D.undef :: D.undef :: D.undef :: D.undef :: D.undef :: D.undef :: D.undef :: D.undef :: D.undef :: D.undef :: D.undef :: D.undef :: D.undef :: D.undef :: D.undef :: D.undef :: D.undef :: D.undef :: D.undef :: D.undef :: D.undef :: D.undef :: D.undef :: D.undef :: D.undef :: D.undef :: D.undef :: D.undef :: D.undef :: []), [.arr i.2 4 ((shortS t b i.1).map r73)]⟩) (fun i => v.length - i.1)
    (fun i => i.1 ≤ v.length) (0, 0) ((Ghost.hold [0, 1, 5, 6] rfl).trans (Ghost.mat (t := 5) (sz := 4) rfl)) (Nat.zero_le _) ?_
  rintro ⟨i, ver⟩ h1
  dsimp only at h1 ⊢
  have hlen := short_len t b i
  rcases Nat.lt_or_ge i v.length with h | h
  · have hx := atB_get (l := T) (j := i) (by omega)
    rw [← ht] at hx
    have hy := at0_get h
    rw [← hb] at hy
    have hinv := shortS_ok t b i (by omega)
    have hstep : shortS t b (i + 1) = stepS t b (shortS t b i) i := rfl
    rw [stepS] at hstep
    generalize hout : shortS t b i = out at hlen hinv hstep ⊢
    cases hti : t i with
    | false =>
      rw [if_pos hti] at hstep
      rw [hti] at hx
      refine exec_ok tab_ok mixed 1000 (bx := [false]) (own := []) ?_
      repeat' ((conv => whnf); first
        | refine Exists.intro _ (And.intro (map_at (by omega) hx) ?_) | refine And.intro (by decide) ?_ | refine And.intro (by omega) ?_ | refine Exists.intro _ (And.intro (⟨(List.length_map _).symm⟩) ?_) | refine Exists.intro _ (And.intro (w64 (by omega) (by omega)) ?_) | refine boolF_dect (by omega) ?_)
      all_goals (conv => whnf)
      refine ⟨(i + 1, ver), Ghost.hold [0, 1, 5, 6] ?_, h, by dsimp only; omega⟩
      dsimp only; rw [hstep]; rfl
    | true =>
      rw [if_neg (by simp [hti])] at hstep
      rw [hti] at hx
      refine exec_ok tab_ok mixed 15 (bx := [false]) (own := []) ?_
      repeat' ((conv => whnf); first
        | refine Exists.intro _ (And.intro (map_at (by omega) hx) ?_) | refine And.intro (by decide) ?_ | refine And.intro rfl ?_ | refine And.intro (by omega) ?_ | refine Exists.intro _ (And.intro (⟨(List.length_map _).symm⟩) ?_) | refine boolF_dect (by omega) ?_)
      all_goals (conv => whnf)
      refine W_midG (ι := Unit) (fun _ => ⟨(dB T :: d23 v :: D.undef :: D.undef :: D.undef :: .h 0 ver 0 out.length :: .int .i64 (i:Int) :: .int .i64 (out.length : Int) :: .bool (decide (near t b i)) :: D.undef :: D.undef :: D.undef :: D.undef :: D.undef :: D.undef :: D.undef :: D.undef :: D.undef :: D.undef :: D.undef :: D.undef :: D.undef :: D.undef :: D.undef :: D.undef :: D.undef :: D.undef :: D.undef :: D.undef :: D.undef :: D.undef :: D.undef :: D.undef :: D.undef :: D.undef :: D.undef :: D.undef :: D.undef :: D.undef :: D.undef :: D.undef :: D.undef :: D.undef :: D.undef :: D.undef :: D.undef :: D.undef :: D.undef :: D.undef :: D.undef :: D.undef :: D.undef :: D.undef :: D.undef :: D.undef :: D.undef :: D.undef :: D.undef :: D.undef :: D.undef :: D.undef :: D.undef :: D.undef :: D.undef :: D.undef :: D.undef :: D.undef :: D.undef :: D.undef :: D.undef :: D.undef :: D.undef :: D.undef :: D.undef :: D.undef :: D.undef :: D.undef :: D.undef :: D.undef :: D.undef :: D.undef :: D.undef :: D.undef :: D.undef :: D.undef :: D.undef :: D.undef :: D.undef :: D.undef :: D.undef :: D.undef :: D.undef :: D.undef :: D.undef :: D.undef :: D.undef :: D.undef :: D.undef :: D.undef :: D.undef :: D.undef :: D.undef :: D.undef :: D.undef :: D.undef :: D.undef :: D.undef :: D.undef :: D.undef :: D.undef :: D.undef :: D.undef :: D.undef :: D.undef :: D.undef :: []), [.arr ver 4 (out.map r73)]⟩) (fun _ => True) ?_ ?_
      · refine exec_ok tab_ok mixed 1000 (bx := [false]) (own := []) ?_
        rcases Nat.eq_zero_or_pos i with h0 | h0
        · have hn : ¬ near t b i := fun hn => by have := hn.1; omega
          repeat' ((conv => whnf); first
            | refine PairK.mk (by kernel_rfl) ?_ | refine boolF_decf (by omega) ?_)
          all_goals (conv => whnf)
          exact ⟨(), Ghost.hold [0, 1, 5, 6, 7, 8] (by dsimp only; rw [decide_eq_false hn]; rfl), trivial⟩
        · have hw := atB_get (l := T) (j := i - 1) (by omega)
          rw [← ht] at hw
          have hu := at0_get (l := v) (j := i - 1) (by omega)
          rw [← hb] at hu
          cases htp : t (i - 1) with
          | false =>
            have hn : ¬ near t b i := fun hn => by have := hn.2.1; rw [htp] at this; cases this
            rw [htp] at hw
            repeat' ((conv => whnf); first
              | refine PairK.mk (by kernel_rfl) ?_ | refine Exists.intro _ (And.intro (map_at (by omega) hw) ?_) | refine And.intro (by decide) ?_ | refine And.intro (by omega) ?_ | refine Exists.intro _ (And.intro (w64 (by omega) (by omega)) ?_) | refine boolF_dect (by omega) ?_)
            all_goals (conv => whnf)
            exact ⟨(), Ghost.hold [0, 1, 5, 6, 7, 8] (by dsimp only; rw [decide_eq_false hn]; rfl), trivial⟩
          | true =>
            rw [htp] at hw
            by_cases g3 : b (i - 1) = 0 ↔ b i = 0
            · have hn : near t b i := ⟨h0, htp, g3⟩
              have hsm : ((b (i - 1) == 0) == (b i == 0)) = true := by
                by_cases q : b i = 0
                · simp [q, g3.mpr q]
                · have q' : b (i - 1) ≠ 0 := fun e => q (g3.mp e)
                  have e1 : (b (i - 1) == 0) = false := by simpa using q'
                  have e2 : (b i == 0) = false := by simpa using q
                  rw [e1, e2]; rfl
              repeat' ((conv => whnf); first
                | refine PairK.mk (by kernel_rfl) ?_ | refine Exists.intro _ (And.intro (map_at (by omega) hy) ?_) | refine Exists.intro _ (And.intro (map_at (by omega) hw) ?_) | refine Exists.intro _ (And.intro (map_at (by omega) hu) ?_) | refine And.intro (by decide) ?_ | refine And.intro rfl ?_ | refine And.intro (by omega) ?_ | refine Exists.intro _ (And.intro (w64 (by omega) (by omega)) ?_) | refine boolF_dect (by omega) ?_)
              all_goals (conv => whnf)
              exact ⟨(), Ghost.hold [0, 1, 5, 6, 7, 8] (by dsimp only; rw [decide_eq_true hn, hsm]; rfl), trivial⟩
            · have hn : ¬ near t b i := fun hn => g3 hn.2.2
              have hsm : ((b (i - 1) == 0) == (b i == 0)) = false := by
                by_cases q : b i = 0
                · have q' : b (i - 1) ≠ 0 := fun e => g3 ⟨fun _ => q, fun _ => e⟩
                  have e1 : (b (i - 1) == 0) = false := by simpa using q'
                  rw [e1, q]; rfl
                · have q' : b (i - 1) = 0 := Classical.byContradiction fun e => g3 ⟨fun e' => absurd e' e, fun e' => absurd e' q⟩
                  have e2 : (b i == 0) = false := by simpa using q
                  rw [e2, q']; rfl
              repeat' ((conv => whnf); first
                | refine PairK.mk (by kernel_rfl) ?_ | refine Exists.intro _ (And.intro (map_at (by omega) hy) ?_) | refine Exists.intro _ (And.intro (map_at (by omega) hw) ?_) | refine Exists.intro _ (And.intro (map_at (by omega) hu) ?_) | refine And.intro (by decide) ?_ | refine And.intro rfl ?_ | refine And.intro (by omega) ?_ | refine Exists.intro _ (And.intro (w64 (by omega) (by omega)) ?_) | refine boolF_dect (by omega) ?_)
              all_goals (conv => whnf)
              exact ⟨(), Ghost.hold [0, 1, 5, 6, 7, 8] (by dsimp only; rw [decide_eq_false hn, hsm]; rfl), trivial⟩
      rintro _ _
      refine exec_ok tab_ok mixed 1000 (bx := [false]) (own := []) ?_
      have hnew : (near t b i → b i ≠ 0 ∧ ∃ l, out[out.length - 1]? = some l ∧ 64 ≤ l.data_.length) → shortS t b (i + 1) = out ++ [if b i = 0 then trimO i 1 else writeO i [b i]] := fun hh => by
        rw [hstep]
        split
        · split <;> rfl
        · rename_i l hl
          by_cases hn : near t b i
          · obtain ⟨q1, l', q2, q3⟩ := hh hn
            rw [hl] at q2; obtain rfl := Option.some.inj q2
            rw [if_neg (fun h => q1 h.2), if_neg q1, if_neg (fun h => by omega), if_neg q1]
          · rw [if_neg (fun h => hn h.1)]
            split
            · rfl
            · rw [if_neg (fun h => hn h.1)]
      by_cases hn : near t b i
      · obtain ⟨kk, l, e, e1, e2, e3⟩ := hinv.last hn.1 hn.2.1
        have hl : out[out.length - 1]? = some l := by rw [e]; simp
        have hpos : 0 < out.length := by rw [e]; simp
        have hlo := hinv.ok l (List.mem_of_getElem? hl)
        have hlo' := hlo
        simp only [okOp] at hlo'
        rw [hl] at hstep
        dsimp only at hstep
        by_cases hz : b i = 0
        · rw [if_pos ⟨hn, hz⟩] at hstep
          repeat' ((conv => whnf); first
            | refine Exists.intro _ (And.intro (map_at (by omega) hy) ?_) | refine Exists.intro _ (And.intro (map_at (by omega) hl) ?_) | refine And.intro (by decide) ?_ | refine And.intro rfl ?_ | refine And.intro (by omega) ?_ | refine And.intro (by simp only [List.length_map, List.length_append, List.length_cons, List.length_nil]; omega) ?_ | refine Exists.intro _ (And.intro (w64 (by omega) (by omega)) ?_) | refine boolF_dect (by assumption) ?_)
          all_goals (conv => whnf)
          refine ⟨(i + 1, ver), Ghost.hold [0, 1, 5, 6] ?_, h, by dsimp only; omega⟩
          dsimp only; rw [hstep, List.length_set, List.map_set, ← row_last hpos false]; rfl
        · rw [if_neg (fun h => hz h.2), if_neg hz] at hstep
          by_cases h64 : l.data_.length < 64
          · rw [if_pos ⟨hn, h64⟩] at hstep
            repeat' ((conv => whnf); first
              | refine PairK.mk (by kernel_rfl) ?_ | refine Exists.intro _ (And.intro (map_at (by omega) hy) ?_) | refine Exists.intro _ (And.intro (map_at (by omega) hl) ?_) | refine And.intro (by decide) ?_ | refine And.intro rfl ?_ | refine And.intro (by omega) ?_ | refine And.intro (by simp only [List.length_map, List.length_append, List.length_cons, List.length_nil]; omega) ?_ | refine And.intro (by simpa only [List.length_map, List.length_append, List.length_cons, List.length_nil] using rfl) ?_ | refine And.intro (rows_map (fun _ => rfl) (fun _ => rfl)) ?_ | refine And.intro (okRows_one rfl rfl) ?_
              | refine Exists.intro _ (And.intro (⟨(List.length_map _).symm⟩) ?_) | refine Exists.intro _ (And.intro (⟨len_one⟩) ?_) | refine Exists.intro _ (And.intro (⟨map_snoc⟩) ?_) | refine Exists.intro _ (And.intro (w64 (by omega) (by omega)) ?_) | refine boolF_dect (by assumption) ?_ | refine boolF_decf (by assumption) ?_ | refine boolF_dect (by omega) ?_)
            all_goals (conv => whnf)
            have e4 : (shortS t b (i + 1)).map r73 = ((out.map r73).set (out.length - 1) (.agg [d3 l.kind_, d3 l.off_, d3 l.len_, .h 1 2 0 (l.data_.length + 1)])).set (out.length - 1) (r73 ⟨l.kind_, l.off_, l.len_, l.data_ ++ [b i]⟩) := by
              rw [hstep, List.map_set, List.set_set]
            have e5 : Fzl [(1, .arr 2 1 ((l.data_ ++ [b i]).map r51))] ((out.map r73).set (out.length - 1) (.agg [d3 l.kind_, d3 l.off_, d3 l.len_, .h 1 2 0 (l.data_.length + 1)])) ((shortS t b (i + 1)).map r73) := by
              rw [e4]
              exact Fzl.set (List.getElem?_set_self (by rw [List.length_map]; omega)) (.cons .refl (.cons .refl (.cons .refl (.cons (.h mem0 .all (all_take (by simp))) .nil))))
            rw [← row_last hpos false] at e5
            refine ⟨(i + 1, ver), (Ghost.fz [(1, .arr 2 1 ((l.data_ ++ [b i]).map r51))] [(0, .arr ver 4 ((shortS t b (i + 1)).map r73))] ?_ (by simp) Fzs.all ?_ (by simp)).trans (Ghost.back [0, 1, 5, 6] 1 ?_ ?_ (Nat.zero_le _) ?_ ?_), h, by dsimp only; omega⟩
            · intro y hy
              simp only [List.mem_singleton] at hy; subst hy
              exact ⟨Nat.zero_le _, rfl, _, _, _, rfl⟩
            · intro y hy
              simp only [List.mem_singleton] at hy; subst hy
              exact ⟨by simp, ver, 4, _, _, rfl, rfl, e5⟩
            · dsimp only; rw [hstep, List.length_set]; rfl
            · rfl
            · simp [scs, D.sc, scd23, dB, scrB]
            · intro ob hob
              simp only [List.mem_singleton] at hob; subst hob
              exact scr73 _ _
          · have hs := hnew fun _ => ⟨hz, l, hl, by omega⟩
            rw [if_neg hz] at hs
            repeat' ((conv => whnf); first
              | refine Exists.intro _ (And.intro (map_at (by omega) hy) ?_) | refine Exists.intro _ (And.intro (map_at (by omega) hl) ?_) | refine And.intro (by decide) ?_ | refine And.intro rfl ?_ | refine And.intro (by omega) ?_ | refine And.intro (by simp only [List.length_map, List.length_append, List.length_cons, List.length_nil]; omega) ?_ | refine And.intro (by simpa only [List.length_map, List.length_append, List.length_cons, List.length_nil] using rfl) ?_ | refine And.intro (okRows_one rfl rfl) ?_ | refine Exists.intro _ (And.intro (⟨(List.length_map _).symm⟩) ?_)
              | refine Exists.intro _ (And.intro (⟨len_one⟩) ?_) | refine Exists.intro _ (And.intro (⟨Eq.refl (α := List D) _⟩) ?_) | refine Exists.intro _ (And.intro (w64 (by omega) (by omega)) ?_) | refine boolF_dect (by assumption) ?_ | refine boolF_decf (by assumption) ?_ | refine boolF_decf (by omega) ?_)
            all_goals (conv => whnf)
            refine ⟨(i + 1, ver + 1), Ghost.hold [0, 1, 5, 6] ?_, h, by dsimp only; omega⟩
            dsimp only; rw [hs, List.length_append, List.map_append]; rfl
      · have hs := hnew fun g => absurd g hn
        by_cases hz : b i = 0
        · rw [if_pos hz] at hs
          repeat' ((conv => whnf); first
            | refine Exists.intro _ (And.intro (map_at (by omega) hy) ?_) | refine And.intro (by decide) ?_ | refine And.intro rfl ?_ | refine And.intro (by omega) ?_ | refine And.intro (by simpa only [List.length_map, List.length_append, List.length_cons, List.length_nil] using rfl) ?_ | refine And.intro (okRows_one rfl rfl) ?_ | refine Exists.intro _ (And.intro (⟨len_one⟩) ?_) | refine Exists.intro _ (And.intro (⟨Eq.refl (α := List D) _⟩) ?_) | refine Exists.intro _ (And.intro (w64 (by omega) (by omega)) ?_) | refine boolF_dect (by assumption) ?_ | refine boolF_decf (by assumption) ?_)
          all_goals (conv => whnf)
          refine ⟨(i + 1, ver + 1), (Ghost.re (o := 0) (rows' := (shortS t b (i + 1)).map r73) rfl ?_).trans (Ghost.hold [0, 1, 5, 6] ?_), h, by dsimp only; omega⟩
          · rw [hs, List.map_append]
            exact Fzl.snoc (.cons .refl (.cons .refl (.cons .refl (.cons .nils .nil))))
          · dsimp only
            rw [hs, List.length_append]; rfl
        · rw [if_neg hz] at hs
          repeat' ((conv => whnf); first
            | refine Exists.intro _ (And.intro (map_at (by omega) hy) ?_) | refine And.intro (by decide) ?_ | refine And.intro rfl ?_ | refine And.intro (by omega) ?_ | refine And.intro (by simpa only [List.length_map, List.length_append, List.length_cons, List.length_nil] using rfl) ?_ | refine And.intro (okRows_one rfl rfl) ?_ | refine Exists.intro _ (And.intro (⟨len_one⟩) ?_) | refine Exists.intro _ (And.intro (⟨Eq.refl (α := List D) _⟩) ?_) | refine Exists.intro _ (And.intro (w64 (by omega) (by omega)) ?_) | refine boolF_decf (by assumption) ?_)
          all_goals (conv => whnf)
          refine ⟨(i + 1, ver + 1), Ghost.hold [0, 1, 5, 6] ?_, h, by dsimp only; omega⟩
          dsimp only; rw [hs, List.length_append, List.map_append]; rfl
  · refine exec_ok tab_ok mixed 1000 (bx := [false]) (own := []) ?_
    obtain rfl : i = v.length := by omega
    repeat' ((conv => whnf); first
      | refine Exists.intro _ (And.intro (⟨(List.length_map _).symm⟩) ?_) | refine boolF_decf (by omega) ?_)
    all_goals (conv => whnf)
    exact ⟨Told.frz 0 rfl (.h (all_take rfl))⟩

end Go.Proofs.Ytlghefbapiocgaa.V


namespace Go.Proofs.Ytlghefbapiocgaa.V
open Go.A
set_option linter.unusedVariables false
set_option linter.unusedSimpArgs false
set_option linter.unnecessarySimpa false
attribute [local irreducible] IntKind.wrap bitsI
set_option maxRecDepth 100000
set_option maxHeartbeats 4000000

theorem wkO_err {e : Int} : Wk (.tup [.nils, .int .i64 e]) (.tup [d39 [], .int .i64 e]) := .tup (.cons .nils (.cons .refl .nil))


end Go.Proofs.Ytlghefbapiocgaa.V


namespace Go.Proofs.Ytlghefbapiocgaa.V
open Go.A
set_option linter.unusedVariables false
set_option linter.unusedSimpArgs false
set_option linter.unnecessarySimpa false
attribute [local irreducible] IntKind.wrap bitsI
set_option maxRecDepth 100000
set_option maxHeartbeats 4000000

theorem lenW {l : List Nat} (h : ok23 l) : l.length ≤ 140737488351232 := by have := h.2; simp [td51] at this; omega
theorem lenO {l : List Op} (h : ok39 l) : l.length ≤ 140737488351232 := by have := h.2; simp [td73] at this; omega
theorem bigO {l : List Op} (h : ok39 l) : bigD l := fun o ho => lenW (h.1 o ho).2.2.2
theorem big {n : Nat} (h : n ≤ 1024) : n ≤ 140737488351232 := by omega

theorem short_props (t : Nat → Bool) (b : Nat → Nat) {n : Nat} (hn : n ≤ 1024) : (shortS t b n).length ≤ 140737488351232 ∧ bigD (shortS t b n) ∧ allOk n (shortS t b n) := by
  have h := shortS_ok t b n hn
  refine ⟨by have := short_len t b n; omega, fun o ho => ?_, h.ok⟩
  have := h.ok o ho
  simp only [okOp] at this; omega
theorem squash_props (n : Int) (ops : List Op) : (squashM n ops).1.length ≤ 140737488351232 ∧ bigD (squashM n ops).1 := by
  unfold squashM
  split
  · exact ⟨by simp, fun o ho => by cases ho⟩
  · split
    · have h := short_props (tch ops) (at0 (applyL (zer n.toNat) ops)) (n := n.toNat) (by omega)
      exact ⟨h.1, h.2.1⟩
    · exact ⟨by simp, fun o ho => by cases ho⟩
theorem diff_props (a b : List Nat) : (diffM a b).1.length ≤ 140737488351232 ∧ bigD (diffM a b).1 := by
  unfold diffM
  split
  · exact ⟨by simp, fun o ho => by cases ho⟩
  · split
    · exact ⟨by simp, fun o ho => by cases ho⟩
    · have h := short_props (diffT a b) (at0 b) (n := b.length) (by omega)
      exact ⟨h.1, h.2.1⟩
theorem zer_at (n j : Nat) : at0 (zer n) j = 0 := by
  simp only [at0, zer, List.getElem?_replicate]
  split <;> rfl

/-- Ops told shortly do what they did. -/
theorem squash_does {m : Nat} {ops : List Op} (hm : m ≤ 1024) (hok : allOk m ops) : ∃ l, squashM m ops = (l, 0) ∧ allOk m l ∧ ordO 0 l ∧ (∀ j, j < m → vals l j = vals ops j) ∧ l.length ≤ 1024 ∧ bigD l := by
  have hi := shortS_ok (tch ops) (at0 (applyL (zer m) ops)) m hm
  have hz := apply_at (v := zer m) (ops := ops) (by rw [zer, List.length_replicate]; exact hok)
  refine ⟨_, by rw [squashM, if_neg (by omega), if_pos hok]; rfl, hi.ok, hi.ord, fun j hj => ?_, Nat.le_trans (short_len _ _ _) hm, (short_props _ _ hm).2.1⟩
  rw [hi.vals, hz.2, zer_at]
  cases h : vals ops j with
  | none => rw [if_neg (by simp [tch, h])]
  | some x => rw [if_pos ⟨hj, by simp [tch, h]⟩]; rfl
theorem squash_twice {m : Nat} {ops l : List Op} (hm : m ≤ 1024) (hok : allOk m ops) (hl : squashM m ops = (l, 0)) : squashM m l = (l, 0) := by
  obtain ⟨l', e, h1, h2, h3, h4, _⟩ := squash_does hm hok
  rw [hl] at e; obtain rfl : l = l' := congrArg Prod.fst e
  have hz := apply_at (v := zer m) (ops := ops) (by rw [zer, List.length_replicate]; exact hok)
  have hz' := apply_at (v := zer m) (ops := l) (by rw [zer, List.length_replicate]; exact h1)
  rw [squashM, if_neg (by omega), if_pos h1]
  rw [squashM, if_neg (by omega), if_pos hok] at hl
  have e := congrArg Prod.fst hl
  dsimp only at e
  refine Prod.ext ?_ rfl
  dsimp only
  refine Eq.trans ?_ e
  exact shortS_congr fun j hj => ⟨by simp only [tch, h3 j hj], by rw [Int.toNat_natCast, hz'.2, hz.2, h3 j hj]⟩
theorem apply_ext {v : List Nat} {ops l : List Op} (h1 : allOk v.length ops) (h2 : allOk v.length l) (h : ∀ j, j < v.length → vals l j = vals ops j) : applyL v l = applyL v ops := by
  obtain ⟨a1, a2⟩ := apply_at h1
  obtain ⟨b1, b2⟩ := apply_at h2
  exact at0_ext (by omega) fun j hj => by rw [a2, b2, h j (by omega)]
theorem apply_twice {v : List Nat} {ops : List Op} (h1 : allOk v.length ops) : applyL (applyL v ops) ops = applyL v ops := by
  obtain ⟨a1, a2⟩ := apply_at h1
  obtain ⟨b1, b2⟩ := apply_at (v := applyL v ops) (ops := ops) (by rw [a1]; exact h1)
  refine at0_ext (by omega) fun j hj => ?_
  rw [b2, a2]
  cases vals ops j <;> rfl
theorem applyM_ok {v : List Nat} {ops : List Op} (h : (applyM v ops).2 = 0) : v.length ≤ 1024 ∧ allOk v.length ops ∧ applyM v ops = (applyL v ops, 0) := by
  unfold applyM at h ⊢
  split at h
  · cases h
  · split at h
    · rename_i h1 h2
      rw [if_neg h1, if_pos h2]
      exact ⟨by omega, h2, rfl⟩
    · cases h
theorem applyM_bad {v : List Nat} {ops : List Op} (h : ¬ (applyM v ops).2 = 0) : (applyM v ops).1 = [] := by
  unfold applyM at h ⊢
  split
  · rfl
  · split
    · rename_i h1 h2; rw [if_neg h1, if_pos h2] at h; exact absurd rfl h
    · rfl
theorem applyM_of {v : List Nat} {ops : List Op} (h1 : v.length ≤ 1024) (h2 : allOk v.length ops) : applyM v ops = (applyL v ops, 0) := by
  rw [applyM, if_neg (by omega), if_pos h2]

def q0 : List Op := [⟨1, 1, 0, [5]⟩, ⟨2, 2, 1, []⟩]
theorem squash0 : squashM 9 [⟨1, 1, 0, [5, 6]⟩, ⟨2, 2, 1, []⟩] = (q0, 0) := by decide +kernel
theorem wkN {a : D} {x y z : D} : Wks [.sl [a, .agg [x, y, z, .nils]]] [.sl [a, .agg [x, y, z, .sl []]]] :=
  .cons (.sl (.cons Wks.refl (.cons (.cons .refl (.cons .refl (.cons .refl (.cons .nils .nil)))) .nil))) .nil

end Go.Proofs.Ytlghefbapiocgaa.V


namespace Go.Proofs.Ytlghefbapiocgaa.V
open Go.A
set_option linter.unusedVariables false
set_option linter.unusedSimpArgs false
set_option linter.unnecessarySimpa false
attribute [local irreducible] IntKind.wrap bitsI
set_option maxRecDepth 100000
set_option maxHeartbeats 4000000

def meetP (a b : Op) : Prop := a.off_ < b.off_ + ((dat b).length : Int) ∧ b.off_ < a.off_ + ((dat a).length : Int)
instance (a b : Op) : Decidable (meetP a b) := inferInstanceAs (Decidable (_ ∧ _))

theorem either_plain {v : List Nat} {a b : Op} (ha : okOp v.length a) (hb : okOp v.length b) (hm : ¬ meetP a b) : applyL v [a, b] = applyL v [b, a] := by
  have k1 : allOk v.length [a, b] := fun o ho => by simp at ho; rcases ho with rfl | rfl <;> assumption
  have k2 : allOk v.length [b, a] := fun o ho => by simp at ho; rcases ho with rfl | rfl <;> assumption
  obtain ⟨a1, a2⟩ := apply_at k1
  obtain ⟨b1, b2⟩ := apply_at k2
  have z1 := ha.2.2.1
  have z2 := hb.2.2.1
  refine at0_ext (by omega) fun j hj => ?_
  rw [a2, b2]
  have e1 : vals [a, b] j = (match val b j with | some x => some x | none => val a j) := rfl
  have e2 : vals [b, a] j = (match val a j with | some x => some x | none => val b j) := rfl
  rw [e1, e2]
  simp only [meetP] at hm
  have : val a j = none ∨ val b j = none := by
    simp only [val]
    by_cases q1 : a.off_.toNat ≤ j ∧ j < a.off_.toNat + (dat a).length
    · by_cases q2 : b.off_.toNat ≤ j ∧ j < b.off_.toNat + (dat b).length
      · omega
      · rw [if_neg q2]; exact .inr rfl
    · rw [if_neg q1]; exact .inl rfl
  rcases this with h | h
  · rw [h]; cases val b j <;> rfl
  · rw [h]; cases val a j <;> rfl

theorem ordO_get : ∀ {l : List Op} {a : Int}, ordO a l → ∀ (i : Nat) (x y : Op), l[i]? = some x → l[i + 1]? = some y → x.off_ + ((dat x).length : Int) ≤ y.off_
  | [], _, _, i, x, y, h, _ => by simp at h
  | [_], _, _, i, x, y, _, h => by simp at h
  | p :: q :: l, _, h, 0, x, y, h1, h2 => by simp at h1 h2; subst h1 h2; exact h.2.1
  | p :: q :: l, _, h, i + 1, x, y, h1, h2 => ordO_get (l := q :: l) h.2 i x y (by simpa using h1) (by simpa using h2)

theorem shortS_false (b : Nat → Nat) : ∀ n, shortS (fun _ => false) b n = []
  | 0 => rfl
  | n + 1 => by rw [shortS, shortS_false b n, stepS, if_pos rfl]
theorem short_nil {t : Nat → Bool} {b : Nat → Nat} {n : Nat} (hn : n ≤ 1024) : shortS t b n = [] ↔ ∀ j, j < n → t j = false := by
  constructor
  · intro h j hj
    have hv := (shortS_ok t b n hn).vals j
    rw [h] at hv
    cases ht : t j with
    | false => rfl
    | true => rw [if_pos ⟨hj, ht⟩] at hv; cases hv
  · intro h
    rw [shortS_congr (t' := fun _ => false) (b' := b) (fun j hj => ⟨h j hj, rfl⟩), shortS_false]


end Go.Proofs.Ytlghefbapiocgaa.V

