import Derived.Test.YtgcbeibemomhcaaP7
namespace Go.Proofs.Ytgcbeibemomhcaa
open Go.A
set_option linter.unusedVariables false
set_option linter.unusedSimpArgs false
set_option linter.unnecessarySimpa false
attribute [local irreducible] IntKind.wrap bitsI
set_option maxRecDepth 100000
set_option maxHeartbeats 4000000

theorem wkO_err {e : Int} : Wk (.tup [.nils, .int .i64 e]) (.tup [d23 [], .int .i64 e]) := .tup (.cons .nils (.cons .refl .nil))

theorem f17_ok (a b : List Nat) (ha : a.length ≤ 140737488351232) (hb : b.length ≤ 140737488351232) : Pure Try.prog 17 [d22 a, d22 b] (.tup [d23 (diffM a b).1, .int .i64 (diffM a b).2]) := by
  refine Pure.ofT ⟨scd22 _ _, scd22 _ _, trivial⟩ ⟨scd23 _ _, trivial, trivial⟩ ?_
  refine CallsIn.of_exec tab_ok mixed Try.func17 rfl rfl [] [] ?_
  by_cases h1 : 1024 < a.length ∨ 1024 < b.length
  · rw [diffM, if_pos h1]
    repeat' ((conv => whnf); first
      | refine Exists.intro _ (And.intro (⟨(List.length_map _).symm⟩) ?_) | refine Pure.call (f27_ok _) ?_ | refine boolF_not ?_ | refine boolF_decf (by omega) ?_ | refine boolF_dec (fun _ => ?_) (fun _ => ?_))
    all_goals (conv => whnf)
    all_goals first
      | exact ⟨Told.wk wkO_err⟩
      | (exfalso; omega)
  · rw [diffM, if_neg h1]
    by_cases h2 : a.length = b.length
    · rw [if_neg (fun h => h h2)]
      repeat' ((conv => whnf); first
        | refine And.intro (show ((1 : Nat) : Int) * (a.length : Int) ≤ 281474976710656 by omega) ?_ | refine And.intro rfl ?_ | refine And.intro (by omega) ?_ | refine Exists.intro _ (And.intro (⟨(List.length_map _).symm⟩) ?_) | refine Pure.call (f27_ok _) ?_ | refine boolF_not ?_ | refine boolF_dect (by omega) ?_)
      all_goals (conv => whnf)
      refine W_loopG (ι := Nat × List Bool) (fun i => ⟨(d22 a :: d22 b :: D.undef :: D.undef :: D.undef :: D.undef :: .h 0 0 0 a.length :: .int .i64 (i.1:Int) :: D.undef :: D.undef :: D.undef :: D.undef :: D.undef :: D.undef :: D.undef :: D.undef :: D.undef :: D.undef :: D.undef :: D.undef :: D.undef :: D.undef :: D.undef :: D.undef :: D.undef :: D.undef :: D.undef :: D.undef :: D.undef :: D.undef :: D.undef :: D.undef :: D.undef :: D.undef :: D.undef :: D.undef :: D.undef :: D.undef :: D.undef :: D.undef :: D.undef :: D.undef :: D.undef :: D.undef :: D.undef :: D.undef :: D.undef :: []), [.arr 0 1 (i.2.map rB)]⟩) (fun i => a.length - i.1)
        (fun i => i.1 ≤ a.length ∧ i.2.length = a.length ∧ ∀ j, j < i.1 → atB i.2 j = diffT a b j) (0, List.replicate a.length false) (Ghost.hold [0, 1, 6, 7] (by dsimp only; rw [List.map_replicate]; rfl)) ⟨Nat.zero_le _, List.length_replicate, fun j hj => absurd hj (Nat.not_lt_zero _)⟩ ?_
      rintro ⟨i, T⟩ ⟨i1, i2, i3⟩
      dsimp only at i1 i2 i3 ⊢
      rcases Nat.lt_or_ge i a.length with h | h
      · have hx := at0_get h
        have hy := at0_get (l := b) (j := i) (by omega)
        obtain ⟨w, hz⟩ := at_lt (l := T) (i := i) (by omega)
        refine exec_ok tab_ok mixed 1000 (bx := [false]) (own := []) ?_
        repeat' ((conv => whnf); first
          | refine PairK.mk (by kernel_rfl) ?_ | refine Exists.intro _ (And.intro (map_at (by omega) hx) ?_) | refine Exists.intro _ (And.intro (map_at (by omega) hy) ?_) | refine Exists.intro _ (And.intro (map_at (by omega) hz) ?_) | refine And.intro (by decide) ?_ | refine And.intro rfl ?_ | refine And.intro (by omega) ?_ | refine And.intro (by simp only [List.length_map, List.length_append, List.length_cons, List.length_nil]; omega) ?_ | refine Exists.intro _ (And.intro (⟨(List.length_map _).symm⟩) ?_) | refine Exists.intro _ (And.intro (w64 (by omega) (by omega)) ?_)
          | refine boolF_dect (by omega) ?_)
        all_goals (conv => whnf)
        refine ⟨(i + 1, T.set i (diffT a b i)), Ghost.hold [0, 1, 6, 7] ?_, ⟨h, by rw [List.length_set]; exact i2, fun j hj => ?_⟩, by dsimp only; omega⟩
        · have er : ∀ (bb : Bool) (l : List D) (d : D), setRow bb l (0 + ((i : Int)).toNat) d = l.set i d := fun bb l d => by rw [setRow_eq]; congr 1; omega
          have em : (T.map rB).set i (.bool (diffT a b i)) = (T.set i (diffT a b i)).map rB := by rw [List.map_set]; rfl
          dsimp only
          rw [← em, ← er false]; rfl
        · dsimp only at hj ⊢
          rcases Nat.lt_or_ge j i with g | g
          · simp only [atB]
            rw [List.getElem?_set_ne (by omega)]
            exact i3 j g
          · obtain rfl : j = i := by omega
            simp only [atB]
            rw [List.getElem?_set_self (by omega)]; rfl
      · obtain rfl : i = a.length := by omega
        have hT := shortS_congr (t := diffT a b) (t' := atB T) (b := at0 b) (b' := at0 b) (n := b.length) (fun j hj => ⟨(i3 j (by omega)).symm, rfl⟩)
        rw [hT]
        have h30 := f30_ok T b (by omega) (by omega)
        refine W_ghost (s' := (d22 a :: d22 b :: D.undef :: D.undef :: D.undef :: D.undef :: dB T :: .int .i64 (a.length:Int) :: D.undef :: D.undef :: D.undef :: D.undef :: D.undef :: D.undef :: D.undef :: D.undef :: D.undef :: D.undef :: D.undef :: D.undef :: D.undef :: D.undef :: D.undef :: D.undef :: D.undef :: D.undef :: D.undef :: D.undef :: D.undef :: D.undef :: D.undef :: D.undef :: D.undef :: D.undef :: D.undef :: D.undef :: D.undef :: D.undef :: D.undef :: D.undef :: D.undef :: D.undef :: D.undef :: D.undef :: D.undef :: D.undef :: D.undef :: [])) (H' := [.gone]) (Ghost.frzAt (o := 0) (t := 6) (Nat.zero_le _) rfl rfl (all_take i2.symm)) ?_
        refine exec_ok tab_ok mixed 1000 (bx := [false]) (own := []) ?_
        repeat' ((conv => whnf); first
          | refine Exists.intro _ (And.intro (⟨(List.length_map _).symm⟩) ?_) | refine boolF_decf (by omega) ?_)
        all_goals (conv => whnf)
        refine Pure.call h30 ?_
        (conv => whnf)
        exact ⟨Told.refl⟩
    · rw [if_pos h2]
      repeat' ((conv => whnf); first
        | refine Exists.intro _ (And.intro (⟨(List.length_map _).symm⟩) ?_) | refine Pure.call (f27_ok _) ?_ | refine boolF_not ?_ | refine boolF_dect (by omega) ?_ | refine boolF_decf (by omega) ?_)
      all_goals (conv => whnf)
      exact ⟨Told.wk wkO_err⟩

theorem f15_ok (n : Int) (ops : List Op) (hn : ops.length ≤ 140737488351232) (ho : bigD ops) : Pure Try.prog 15 [.int .i64 n, d23 ops] (.tup [d23 (squashM n ops).1, .int .i64 (squashM n ops).2]) := by
  refine Pure.ofT ⟨trivial, scd23 _ _, trivial⟩ ⟨scd23 _ _, trivial, trivial⟩ ?_
  refine CallsIn.of_exec tab_ok mixed Try.func15 rfl rfl [] [] ?_
  by_cases h1 : n < 0 ∨ 1024 < n
  · rw [squashM, if_pos h1]
    repeat' ((conv => whnf); first
      | refine Pure.call (f27_ok _) ?_ | refine boolF_not ?_ | refine boolF_decf (by omega) ?_)
    all_goals (conv => whnf)
    all_goals first
      | exact ⟨Told.wk wkO_err⟩
      | (exfalso; omega)
  · rw [squashM, if_neg h1]
    obtain ⟨m, rfl⟩ := Int.eq_ofNat_of_zero_le (a := n) (by omega)
    have hzl : (zer m).length = m := List.length_replicate
    have hzm : List.replicate m (D.int .u64 0) = (zer m).map r45 := by rw [zer, List.map_replicate]; rfl
    have w9 := f28_own (zer m) ops (by omega) hn ho
    repeat' ((conv => whnf); first
      | refine And.intro (show ((8 : Nat) : Int) * (m : Int) ≤ 281474976710656 by omega) ?_ | refine And.intro rfl ?_ | refine And.intro (by omega) ?_ | refine Pure.call (f27_ok _) ?_ | refine boolF_not ?_ | refine boolF_dect (by omega) ?_)
    all_goals (conv => whnf)
    refine OwnedR.seeK w9 [(0, .arr 0 1 ((zer m).map r45))] (fact1 (by rw [← hzm]; rfl)) (.cons (.h List.mem_cons_self (.all (scr45 _ _)) (all_take hzl.symm)) (.cons (.same (scd23 _ _)) .nil)) (bares_map fun x => trivial) (fun ver => ⟨trivial, trivial, trivial⟩) (fun v1 => ?_)
    have hae : applyM (zer m) ops = if allOk m ops then (applyL (zer m) ops, 0) else ([], 1) := by
      rw [applyM, if_neg (by omega), hzl]
    rw [hae]
    by_cases hok : allOk m ops
    · rw [if_pos hok, if_pos hok]
      have hzl2 := (apply_at (v := zer m) (ops := ops) (by rw [hzl]; exact hok)).1
      rw [hzl] at hzl2
      rw [Int.toNat_natCast]
      generalize applyL (zer m) ops = z at hzl2 ⊢
      repeat' ((conv => whnf); first
        | refine And.intro (show ((1 : Nat) : Int) * (m : Int) ≤ 281474976710656 by omega) ?_ | refine And.intro rfl ?_ | refine And.intro (by omega) ?_)
      all_goals (conv => whnf)
      refine W_loopG (ι := Nat × List Bool) (fun i => ⟨(D.undef :: d23 ops :: D.undef :: D.undef :: D.undef :: D.undef :: .h 1 v1 0 z.length :: D.undef :: .h 2 0 0 m :: .int .i64 (i.1:Int) :: D.undef :: D.undef :: D.undef :: D.undef :: D.undef :: D.undef :: D.undef :: D.undef :: D.undef :: D.undef :: D.undef :: D.undef :: D.undef :: D.undef :: D.undef :: D.undef :: D.undef :: D.undef :: D.undef :: D.undef :: D.undef :: D.undef :: D.undef :: D.undef :: D.undef :: D.undef :: D.undef :: D.undef :: D.undef :: D.undef :: D.undef :: D.undef :: D.undef :: D.undef :: D.undef :: D.undef :: D.undef :: D.undef :: D.undef :: D.undef :: D.undef :: D.undef :: D.undef :: D.undef :: D.undef :: []), [.arr 0 1 ((zer m).map r45), .arr v1 1 (z.map r45), .arr 0 1 (i.2.map rB)]⟩) (fun i => ops.length - i.1)
        (fun i => i.1 ≤ ops.length ∧ i.2.length = m ∧ ∀ j, j < m → atB i.2 j = tch (ops.take i.1) j) (0, List.replicate m false) (Ghost.hold [1, 6, 8, 9] (by dsimp only; rw [← hzm, List.map_replicate]; rfl)) ⟨Nat.zero_le _, List.length_replicate, fun j hj => by simp [atB, tch, vals, hj]⟩ ?_
      rintro ⟨i, T⟩ ⟨i1, i2, i3⟩
      dsimp only at i1 i2 i3 ⊢
      rcases Nat.lt_or_ge i ops.length with h | h
      · obtain ⟨x, hx⟩ := at_lt h
        have hxo := hok x (List.mem_of_getElem? hx)
        have h24 := f29_ok x (ho x (List.mem_of_getElem? hx))
        obtain ⟨d1, d2, d3', d4⟩ := dat_len hxo
        obtain ⟨a, ha⟩ := Int.eq_ofNat_of_zero_le hxo.2.2.1
        obtain ⟨c, hc⟩ : ∃ c, c = (dat x).length := ⟨_, rfl⟩
        have hsn := tch_snoc hx hxo
        rw [← hc] at d1 d4 hsn
        have hr : rng x = ((a : Int), (c : Int)) := Prod.ext (d2.trans ha) d1.symm
        rw [rngD, hr] at h24
        rw [ha] at d4 hsn
        rw [Int.toNat_natCast] at hsn
        refine exec_ok tab_ok mixed 1000 (bx := [false, false, false]) (own := []) ?_
        repeat' ((conv => whnf); first
          | refine Exists.intro _ (And.intro (map_at (by omega) hx) ?_) | refine And.intro rfl ?_ | refine And.intro (by omega) ?_ | refine Exists.intro _ (And.intro (⟨(List.length_map _).symm⟩) ?_) | refine boolF_dect (by omega) ?_)
        all_goals (conv => whnf)
        refine Pure.call h24 ?_
        (conv => whnf)
        refine W_loopG (ι := Nat × List Bool) (fun e => ⟨(D.undef :: d23 ops :: D.undef :: D.undef :: D.undef :: D.undef :: .h 1 v1 0 z.length :: D.undef :: .h 2 0 0 m :: .int .i64 (i:Int) :: .int .i64 (a : Int) :: .int .i64 (c : Int) :: .int .i64 (e.1 : Int) :: D.undef :: D.undef :: D.undef :: D.undef :: D.undef :: D.undef :: D.undef :: D.undef :: D.undef :: D.undef :: D.undef :: D.undef :: D.undef :: D.undef :: D.undef :: D.undef :: D.undef :: D.undef :: D.undef :: D.undef :: D.undef :: D.undef :: D.undef :: D.undef :: D.undef :: D.undef :: D.undef :: D.undef :: D.undef :: D.undef :: D.undef :: D.undef :: D.undef :: D.undef :: D.undef :: D.undef :: D.undef :: D.undef :: D.undef :: D.undef :: D.undef :: D.undef :: []), [.arr 0 1 ((zer m).map r45), .arr v1 1 (z.map r45), .arr 0 1 (e.2.map rB)]⟩) (fun e => c - e.1)
          (fun e => e.1 ≤ c ∧ e.2.length = m ∧ ∀ j, j < m → atB e.2 j = (atB T j || decide (a ≤ j ∧ j < a + e.1))) (0, T) (Ghost.hold [1, 6, 8, 9, 10, 11, 12] rfl) ⟨Nat.zero_le _, i2, fun j hj => by rw [decide_eq_false (by dsimp only; omega), Bool.or_false]⟩ ?_
        rintro ⟨e, T'⟩ ⟨e1, e2, e3⟩
        dsimp only at e1 e2 e3 ⊢
        refine exec_ok tab_ok mixed 1000 (bx := [false, false, false]) (own := []) ?_
        rcases Nat.lt_or_ge e c with g | g
        · obtain ⟨w, hz⟩ := at_lt (l := T') (i := a + e) (by omega)
          repeat' ((conv => whnf); first
            | refine Exists.intro _ (And.intro (map_at (by omega) hz) ?_) | refine And.intro (by decide) ?_ | refine And.intro (by omega) ?_ | refine And.intro (by simp only [List.length_map, List.length_append, List.length_cons, List.length_nil]; omega) ?_ | refine Exists.intro _ (And.intro (w64 (by omega) (by omega)) ?_) | refine boolF_dect (by omega) ?_)
          all_goals (conv => whnf)
          refine ⟨(e + 1, T'.set (a + e) true), Ghost.hold [1, 6, 8, 9, 10, 11, 12] ?_, ⟨g, by rw [List.length_set]; exact e2, fun j hj => ?_⟩, by dsimp only; omega⟩
          · have er : ∀ (bb : Bool) (l : List D) (d : D), setRow bb l (0 + ((a : Int) + (e : Int)).toNat) d = l.set (a + e) d := fun bb l d => by rw [setRow_eq]; congr 1; omega
            have em : (T'.map rB).set (a + e) (.bool true) = (T'.set (a + e) true).map rB := by rw [List.map_set]; rfl
            dsimp only
            rw [← em, ← er false]; rfl
          · dsimp only
            rw [atB_set _ _ _ (by omega), e3 j hj]
            by_cases hj2 : j = a + e
            · rw [if_pos hj2, decide_eq_true (p := a ≤ j ∧ j < a + (e + 1)) (by omega), Bool.or_true]
            · rw [if_neg hj2]
              congr 1
              exact decide_eq_decide.mpr (by omega)
        · repeat' ((conv => whnf); first
            | refine Exists.intro _ (And.intro (w64 (by omega) (by omega)) ?_) | refine boolF_decf (by omega) ?_)
          all_goals (conv => whnf)
          refine ⟨(i + 1, T'), Ghost.hold [1, 6, 8, 9] rfl, ⟨h, e2, fun j hj => ?_⟩, by dsimp only; omega⟩
          dsimp only
          rw [e3 j hj, i3 j hj, hsn]
          congr 1
          exact decide_eq_decide.mpr (by omega)
      · have e : ops.take i = ops := List.take_of_length_le h
        rw [e] at i3
        have hT := shortS_congr (t := tch ops) (t' := atB T) (b := at0 z) (b' := at0 z) (n := m) (fun j hj => ⟨(i3 j hj).symm, rfl⟩)
        rw [hT]
        have h30 := f30_ok T z (by omega) (by omega)
        rw [hzl2] at h30
        refine W_ghost (s' := (D.undef :: d23 ops :: D.undef :: D.undef :: D.undef :: D.undef :: d22 z :: D.undef :: dB T :: .int .i64 (i:Int) :: D.undef :: D.undef :: D.undef :: D.undef :: D.undef :: D.undef :: D.undef :: D.undef :: D.undef :: D.undef :: D.undef :: D.undef :: D.undef :: D.undef :: D.undef :: D.undef :: D.undef :: D.undef :: D.undef :: D.undef :: D.undef :: D.undef :: D.undef :: D.undef :: D.undef :: D.undef :: D.undef :: D.undef :: D.undef :: D.undef :: D.undef :: D.undef :: D.undef :: D.undef :: D.undef :: D.undef :: D.undef :: D.undef :: D.undef :: D.undef :: D.undef :: D.undef :: D.undef :: D.undef :: D.undef :: [])) (H' := [.arr 0 1 ((zer m).map r45), .gone, .gone]) ?_ ?_
        · refine Ghost.fz [(1, .arr v1 1 (z.map r45)), (2, .arr 0 1 (T.map rB))] [] ?_ (by simp) ?_ (fun x hx => by cases hx) (by simp)
          · intro y hy
            simp only [List.mem_cons, List.not_mem_nil, or_false] at hy
            rcases hy with rfl | rfl
            · exact ⟨Nat.zero_le _, rfl, _, _, _, rfl⟩
            · exact ⟨Nat.zero_le _, rfl, _, _, _, rfl⟩
          · repeat (first | exact Fzs.nil | refine Fzs.cons .refl ?_ | refine Fzs.cons (.h mem0 .all (all_take rfl)) ?_ | refine Fzs.cons (.h mem1 .all (all_take i2.symm)) ?_)
        refine exec_ok tab_ok mixed 1000 (bx := [false, false, false]) (own := []) ?_
        repeat' ((conv => whnf); first
          | refine Exists.intro _ (And.intro (⟨(List.length_map _).symm⟩) ?_) | refine boolF_decf (by omega) ?_)
        all_goals (conv => whnf)
        refine Pure.call h30 ?_
        (conv => whnf)
        exact ⟨Told.refl⟩
    · rw [if_neg hok, if_neg hok]
      (conv => whnf)
      exact ⟨Told.wk wkO_err⟩

end Go.Proofs.Ytgcbeibemomhcaa

