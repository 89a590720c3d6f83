import Derived.Test.YtgcbeibemomhcaaP13
namespace Go.Proofs.Ytgcbeibemomhcaa
open Go.A
set_option linter.unusedVariables false
set_option linter.unusedSimpArgs false
set_option linter.unnecessarySimpa false
attribute [local irreducible] IntKind.wrap bitsI
set_option maxRecDepth 100000
set_option maxHeartbeats 4000000

theorem read_len (v : List Nat) (off n : Int) : (readM v off n).1.length ≤ 1024 := by
  unfold readM
  split
  · simp
  · split
    · rw [List.length_take, List.length_drop]; omega
    · simp
theorem apply_len (v : List Nat) (ops : List Op) : (applyM v ops).1.length ≤ 1024 := by
  unfold applyM
  split
  · simp
  · split
    · rename_i h1 h2; rw [(apply_at h2).1]; omega
    · simp

theorem u64addm {m n : Nat} : (((m + n) % 18446744073709551616 : Nat) : Int) = IntKind.u64.wrap ((m : Int) + (n : Int)) := by
  simp [IntKind.wrap, IntKind.signed, IntKind.bits]
theorem get_at {α : Type} {l : List α} {i j : Nat} {x : α} (e : j = i) (h : l[i]? = some x) : l[j]? = some x := by subst e; exact h
theorem DRow.set {k c v : Nat} {H : List AObj} {l l' : List Nat} {row : D} (hc : H[c]? = some (.arr v 1 (l.map r45))) (hl : l'.length = l.length) (h : DRow k H row) : DRow k (H.set c (.arr v 1 (l'.map r45))) row := by
  rcases h with h | ⟨x, y, z, o, v2, l2, h1, h2, h3, h9⟩
  · exact .inl h
  · by_cases e : o = c
    · subst e
      rw [hc] at h3
      have h4 := Option.some.inj h3
      injection h4 with e1 e2 e3
      have e4 := congrArg List.length e3
      rw [List.length_map, List.length_map] at e4
      subst e1
      exact .inr ⟨x, y, z, o, v, l', by rw [h1, ← e4, hl], h2, List.getElem?_set_self (List.getElem?_eq_some_iff.mp hc).1, by omega⟩
    · exact .inr ⟨x, y, z, o, v2, l2, h1, h2, by rw [List.getElem?_set_ne (Ne.symm e)]; exact h3, h9⟩
theorem DeepAt.frz {k : Nat} {a b c d : AObj} {tail : List AObj} {x : D} (h : DeepAt k (a :: b :: c :: d :: tail) x) (hk : 4 ≤ k) : DeepAt k (.gone :: .gone :: c :: d :: tail) x := by
  have he : ∀ o, 4 ≤ o → (AObj.gone :: AObj.gone :: c :: d :: tail)[o]? = (a :: b :: c :: d :: tail)[o]? := fun o ho => by
    match o, ho with
    | o + 4, _ => rfl
  obtain ⟨ver, rows, h1, h2, hl, h3⟩ := h
  refine ⟨ver, rows, h1, (he k hk).trans h2, hl, fun row hr => ?_⟩
  rcases h3 row hr with q | ⟨x, y, z, o, v2, l2, q1, q2, q3, q9⟩
  · exact .inl q
  · exact .inr ⟨x, y, z, o, v2, l2, q1, q2, (he o (by omega)).trans q3, q9⟩

theorem blocksOwn_true (v : List Nat) (o : Op) (h0 : ok22 v) (h1 : ok34 o) : CallsIn Try.prog 8 [d22 v, d34 o] [] fun r _ => r = .bool true := by
  have hv := lenW h0
  have ho := lenW h1.2.2.2
  have hv8 : v.length * 8 ≤ 140737488351232 := by have := h0.2; simp [td45] at this; omega
  have ho8 : o.data_.length * 8 ≤ 140737488351232 := by have := h1.2.2.2.2; simp [td45] at this; omega
  have hb1 : bigD [o] := fun x hx => by simp at hx; subst hx; exact ho
  have w1 := f9_own v [o] hv (by simp) hb1
  have w2 := f18_own v 0 v.length hv
  have w3 := f11_deep v.length [o] (by simp) hb1
  have g1 := apply_len v [o]
  have g2 := read_len v 0 v.length
  obtain ⟨A, hA⟩ : ∃ A, A = applyM v [o] := ⟨_, rfl⟩
  obtain ⟨B, hB⟩ : ∃ B, B = readM v 0 v.length := ⟨_, rfl⟩
  rw [← hA] at g1 w1
  rw [← hB] at g2 w2
  refine CallsIn.of_execN 11 tab_ok mixed Try.func8 rfl rfl [] [] ?_
  repeat' ((conv => whnf); first
    | refine And.intro (okRows_map (fun _ _ => ⟨rfl, rfl⟩)) ?_ | refine And.intro (by omega) ?_ | refine Exists.intro _ (And.intro (⟨(List.length_map _).symm⟩) ?_))
  all_goals (conv => whnf)
  refine OwnedR.call w1 (fun v1 => ?_)
  repeat' ((conv => whnf); first
    | refine Exists.intro _ (And.intro (⟨(List.length_map _).symm⟩) ?_))
  all_goals (conv => whnf)
  refine OwnedR.call w2 (fun v2 => ?_)
  (conv => whnf)
  refine W_midG (ι := Nat × Nat × Nat × List AObj) (fun j => ⟨(d22 v :: D.undef :: D.undef :: .pe (c34 o) :: D.undef :: d22 v :: d22 o.data_ :: .h 2 v1 0 A.1.length :: D.undef :: .h 3 v2 0 B.1.length :: D.undef :: .h j.1 j.2.1 0 j.2.2.1 :: D.undef :: D.undef :: D.undef :: D.undef :: D.undef :: D.undef :: D.undef :: D.undef :: D.undef :: D.undef :: D.undef :: D.undef :: D.undef :: D.undef :: D.undef :: D.undef :: D.undef :: D.undef :: D.undef :: D.undef :: D.undef :: D.undef :: D.undef :: D.undef :: D.undef :: D.undef :: D.undef :: D.undef :: D.undef :: D.undef :: D.undef :: D.undef :: D.undef :: D.undef :: D.undef :: D.undef :: D.undef :: D.undef :: D.undef :: D.undef :: D.undef :: D.undef :: D.undef :: D.undef :: D.undef :: D.undef :: D.undef :: D.undef :: D.undef :: D.undef :: D.undef :: D.undef :: D.undef :: D.undef :: D.undef :: D.undef :: D.undef :: D.undef :: D.undef :: D.undef :: D.undef :: D.undef :: D.undef :: D.undef :: D.undef :: D.undef :: D.undef :: D.undef :: D.undef :: D.undef :: D.undef :: D.undef :: D.undef :: D.undef :: D.undef :: D.undef :: D.undef :: D.undef :: D.undef :: D.undef :: D.undef :: D.undef :: D.undef :: D.undef :: D.undef :: D.undef :: D.undef :: D.undef :: D.undef :: D.undef :: D.undef :: D.undef :: []), .gone :: .gone :: .arr v1 1 ((A.1).map r45) :: .arr v2 1 ((B.1).map r45) :: j.2.2.2⟩)
    (fun j => 4 ≤ j.1 ∧ j.2.2.1 ≤ 1024 ∧ DeepAt j.1 (.gone :: .gone :: .arr v1 1 ((A.1).map r45) :: .arr v2 1 ((B.1).map r45) :: j.2.2.2) (.h j.1 j.2.1 0 j.2.2.1)) ?_ ?_
  · refine exec_ok tab_ok mixed 1000 (bx := [false, false, false, false]) (own := []) ?_
    repeat' ((conv => whnf); first
      | refine Exists.intro _ (And.intro (⟨(List.length_map _).symm⟩) ?_))
    all_goals (conv => whnf)
    refine CallsIn.mono (CallsIn.fresh (args := [.int .i64 (v.length : Int), d23 [o]]) ⟨trivial, scd23 _ _, trivial⟩ w3 [AObj.arr 0 1 (v.map r45), .arr 0 1 (o.data_.map r45), .arr v1 1 (A.1.map r45), .arr v2 1 (B.1.map r45)]) ?_
    rintro r H' ⟨r0, H0, ⟨d, e, rfl, hd⟩, rfl, rfl⟩
    obtain ⟨X, hX⟩ : ∃ X, X = H0.map (renO fun i => [AObj.arr 0 1 (v.map r45), .arr 0 1 (o.data_.map r45), .arr v1 1 (A.1.map r45), .arr v2 1 (B.1.map r45)].length + i) := ⟨_, rfl⟩
    rcases hd with rfl | hd
    · rw [← hX]
      (conv => whnf)
      refine ⟨(X.length + 4, 0, 0, X ++ [.arr 0 4 []]), ((Ghost.hold [0, 3, 5, 6, 7, 9, 11] (s1 := (d22 v :: D.undef :: D.undef :: .pe (c34 o) :: D.undef :: .h 0 0 0 v.length :: .h 1 0 0 o.data_.length :: .h 2 v1 0 A.1.length :: D.undef :: .h 3 v2 0 B.1.length :: D.undef :: .nils :: D.undef :: D.undef :: D.undef :: D.undef :: D.undef :: D.undef :: D.undef :: D.undef :: D.undef :: D.undef :: D.undef :: D.undef :: D.undef :: D.undef :: D.undef :: D.undef :: D.undef :: D.undef :: D.undef :: D.undef :: D.undef :: D.undef :: D.undef :: D.undef :: D.undef :: D.undef :: D.undef :: D.undef :: D.undef :: D.undef :: D.undef :: D.undef :: D.undef :: D.undef :: D.undef :: D.undef :: D.undef :: D.undef :: D.undef :: D.undef :: D.undef :: D.undef :: D.undef :: D.undef :: D.undef :: D.undef :: D.undef :: D.undef :: D.undef :: D.undef :: D.undef :: D.undef :: D.undef :: D.undef :: D.undef :: D.undef :: D.undef :: D.undef :: D.undef :: D.undef :: D.undef :: D.undef :: D.undef :: D.undef :: D.undef :: D.undef :: D.undef :: D.undef :: D.undef :: D.undef :: D.undef :: D.undef :: D.undef :: D.undef :: D.undef :: D.undef :: D.undef :: D.undef :: D.undef :: D.undef :: D.undef :: D.undef :: D.undef :: D.undef :: D.undef :: D.undef :: D.undef :: D.undef :: D.undef :: D.undef :: D.undef :: D.undef :: [])) (H1 := .arr 0 1 (v.map r45) :: .arr 0 1 (o.data_.map r45) :: .arr v1 1 (A.1.map r45) :: .arr v2 1 (B.1.map r45) :: X) rfl).trans (Ghost.mat (t := 11) (sz := 4) rfl)).trans (Ghost.fz [(0, .arr 0 1 (v.map r45)), (1, .arr 0 1 (o.data_.map r45))] [] (fun y hy => by
        simp only [List.mem_cons, List.not_mem_nil, or_false] at hy
        rcases hy with rfl | rfl
        · exact ⟨Nat.zero_le _, rfl, _, _, _, rfl⟩
        · exact ⟨Nat.zero_le _, rfl, _, _, _, rfl⟩) (by simp) ?_ (fun x hx => by cases hx) (by simp)), by dsimp only; omega, by dsimp only; omega, 0, [], rfl, ?_, by simp, fun row hr => by cases hr⟩
      · repeat (first | exact Fzs.nil | refine Fzs.cons .refl ?_ | refine Fzs.cons (.h mem0 .all (all_take rfl)) ?_ | refine Fzs.cons (.h mem1 .all (all_take rfl)) ?_)
      · show (X ++ _)[X.length]? = _
        rw [List.getElem?_append_right (Nat.le_refl _), Nat.sub_self]; rfl
    · have hd' := hd.ren [AObj.arr 0 1 (v.map r45), .arr 0 1 (o.data_.map r45), .arr v1 1 (A.1.map r45), .arr v2 1 (B.1.map r45)]
      rw [← hX] at hd' ⊢
      obtain ⟨ver, rows, e1, e2, e3, e4⟩ := hd'
      have hr : ren (fun i => [AObj.arr 0 1 (v.map r45), .arr 0 1 (o.data_.map r45), .arr v1 1 (A.1.map r45), .arr v2 1 (B.1.map r45)].length + i) (.tup [d, .int .i64 e]) = .tup [  .h 8 ver 0 rows.length, .int .i64 e] := by
        show D.tup [ren _ d, _] = _
        rw [e1]; rfl
      rw [hr]
      (conv => whnf)
      refine ⟨(8, ver, rows.length, X), (Ghost.hold [0, 3, 5, 6, 7, 9, 11] (s1 := (d22 v :: D.undef :: D.undef :: .pe (c34 o) :: D.undef :: .h 0 0 0 v.length :: .h 1 0 0 o.data_.length :: .h 2 v1 0 A.1.length :: D.undef :: .h 3 v2 0 B.1.length :: D.undef :: .h 8 ver 0 rows.length :: D.undef :: D.undef :: D.undef :: D.undef :: D.undef :: D.undef :: D.undef :: D.undef :: D.undef :: D.undef :: D.undef :: D.undef :: D.undef :: D.undef :: D.undef :: D.undef :: D.undef :: D.undef :: D.undef :: D.undef :: D.undef :: D.undef :: D.undef :: D.undef :: D.undef :: D.undef :: D.undef :: D.undef :: D.undef :: D.undef :: D.undef :: D.undef :: D.undef :: D.undef :: D.undef :: D.undef :: D.undef :: D.undef :: D.undef :: D.undef :: D.undef :: D.undef :: D.undef :: D.undef :: D.undef :: D.undef :: D.undef :: D.undef :: D.undef :: D.undef :: D.undef :: D.undef :: D.undef :: D.undef :: D.undef :: D.undef :: D.undef :: D.undef :: D.undef :: D.undef :: D.undef :: D.undef :: D.undef :: D.undef :: D.undef :: D.undef :: D.undef :: D.undef :: D.undef :: D.undef :: D.undef :: D.undef :: D.undef :: D.undef :: D.undef :: D.undef :: D.undef :: D.undef :: D.undef :: D.undef :: D.undef :: D.undef :: D.undef :: D.undef :: D.undef :: D.undef :: D.undef :: D.undef :: D.undef :: D.undef :: D.undef :: D.undef :: [])) (H1 := .arr 0 1 (v.map r45) :: .arr 0 1 (o.data_.map r45) :: .arr v1 1 (A.1.map r45) :: .arr v2 1 (B.1.map r45) :: X) rfl).trans (Ghost.fz [(0, .arr 0 1 (v.map r45)), (1, .arr 0 1 (o.data_.map r45))] [] (fun y hy => by
        simp only [List.mem_cons, List.not_mem_nil, or_false] at hy
        rcases hy with rfl | rfl
        · exact ⟨Nat.zero_le _, rfl, _, _, _, rfl⟩
        · exact ⟨Nat.zero_le _, rfl, _, _, _, rfl⟩) (by simp) ?_ (fun x hx => by cases hx) (by simp)), (show 4 ≤ 8 by decide), e3, DeepAt.frz (show DeepAt 8 (.arr 0 1 (v.map r45) :: .arr 0 1 (o.data_.map r45) :: .arr v1 1 (A.1.map r45) :: .arr v2 1 (B.1.map r45) :: X) (  .h 8 ver 0 rows.length) from ⟨ver, rows, rfl, e2, e3, e4⟩) (show 4 ≤ 8 by decide)⟩
      repeat (first | exact Fzs.nil | refine Fzs.cons .refl ?_ | refine Fzs.cons (.h mem0 .all (all_take rfl)) ?_ | refine Fzs.cons (.h mem1 .all (all_take rfl)) ?_)
  rintro ⟨k, ver, n, tail⟩ ⟨hk, hn, ver', rows, e1, e2, _, e3⟩
  dsimp only at hk hn e1 e2 e3 ⊢
  injection e1 with _ e4 _ e5
  subst e4 e5
  refine exec_ok tab_ok mixed 1000 (bx := [false, false, false, false]) (own := []) ?_
  repeat' ((conv => whnf); first
    | refine Exists.intro _ (And.intro (⟨lenl_2⟩) ?_))
  all_goals (conv => whnf)
  refine W_loopG (ι := Nat × List Nat × List Nat) (fun i => ⟨(d22 v :: D.undef :: D.undef :: .pe (c34 o) :: D.undef :: d22 v :: d22 o.data_ :: .h 2 v1 0 A.1.length :: D.undef :: .h 3 v2 0 B.1.length :: D.undef :: .h k ver 0 rows.length :: D.undef :: D.undef :: D.undef :: D.undef :: D.undef :: D.undef :: D.undef :: D.undef :: D.undef :: D.undef :: D.undef :: D.undef :: D.undef :: D.undef :: D.undef :: D.undef :: D.undef :: D.undef :: D.undef :: D.undef :: D.undef :: D.undef :: D.undef :: D.undef :: D.undef :: D.undef :: D.undef :: D.undef :: D.undef :: D.undef :: D.undef :: D.undef :: D.undef :: D.undef :: D.undef :: .sl [.h 2 v1 0 A.1.length, .h 3 v2 0 B.1.length] :: .int .i64 2 :: .int .i64 (i.1 : Int) :: D.undef :: D.undef :: D.undef :: D.undef :: D.undef :: D.undef :: D.undef :: D.undef :: D.undef :: D.undef :: D.undef :: D.undef :: D.undef :: D.undef :: D.undef :: D.undef :: D.undef :: D.undef :: D.undef :: D.undef :: D.undef :: D.undef :: D.undef :: D.undef :: D.undef :: D.undef :: D.undef :: D.undef :: D.undef :: D.undef :: D.undef :: D.undef :: D.undef :: D.undef :: D.undef :: D.undef :: D.undef :: D.undef :: D.undef :: D.undef :: D.undef :: D.undef :: D.undef :: D.undef :: D.undef :: D.undef :: D.undef :: D.undef :: D.undef :: D.undef :: D.undef :: D.undef :: D.undef :: D.undef :: []), .gone :: .gone :: .arr v1 1 ((i.2.1).map r45) :: .arr v2 1 ((i.2.2).map r45) :: tail⟩) (fun i => 2 - i.1)
    (fun i => i.1 ≤ 2 ∧ i.2.1.length = A.1.length ∧ i.2.2.length = B.1.length) (0, A.1, B.1) (Ghost.hold [0, 3, 5, 6, 7, 9, 11, 47, 48, 49] rfl) ⟨Nat.zero_le _, rfl, rfl⟩ ?_
  rintro ⟨i, la, lb⟩ ⟨hi, ha, hb⟩
  dsimp only at hi ha hb ⊢
  refine exec_ok tab_ok mixed 1000 (bx := [false, false, false, false]) (own := []) ?_
  rcases Nat.lt_or_ge i 2 with h | h
  · have hi2 : i = 0 ∨ i = 1 := by omega
    rcases hi2 with rfl | rfl
    · repeat' ((conv => whnf); first
        | refine And.intro (by decide) ?_ | refine And.intro rfl ?_ | refine Exists.intro _ (And.intro (Eq.refl (α := Option D) _) ?_))
      all_goals (conv => whnf)
      refine W_loopG (ι := Nat × List Nat) (fun j => ⟨(d22 v :: D.undef :: D.undef :: .pe (c34 o) :: D.undef :: d22 v :: d22 o.data_ :: .h 2 v1 0 A.1.length :: D.undef :: .h 3 v2 0 B.1.length :: D.undef :: .h k ver 0 rows.length :: D.undef :: D.undef :: .h 2 v1 0 A.1.length :: D.undef :: D.undef :: D.undef :: D.undef :: D.undef :: D.undef :: D.undef :: D.undef :: D.undef :: D.undef :: D.undef :: D.undef :: D.undef :: D.undef :: D.undef :: D.undef :: D.undef :: D.undef :: D.undef :: D.undef :: D.undef :: D.undef :: D.undef :: D.undef :: D.undef :: D.undef :: D.undef :: D.undef :: D.undef :: D.undef :: D.undef :: D.undef :: .sl [.h 2 v1 0 A.1.length, .h 3 v2 0 B.1.length] :: .int .i64 2 :: .int .i64 ((0 : Nat) : Int) :: D.undef :: D.undef :: D.undef :: D.undef :: .int .i64 (A.1.length : Int) :: .int .i64 (j.1 : Int) :: D.undef :: D.undef :: D.undef :: D.undef :: D.undef :: D.undef :: D.undef :: D.undef :: D.undef :: D.undef :: D.undef :: D.undef :: D.undef :: D.undef :: D.undef :: D.undef :: D.undef :: D.undef :: D.undef :: D.undef :: D.undef :: D.undef :: D.undef :: D.undef :: D.undef :: D.undef :: D.undef :: D.undef :: D.undef :: D.undef :: D.undef :: D.undef :: D.undef :: D.undef :: D.undef :: D.undef :: D.undef :: D.undef :: D.undef :: D.undef :: D.undef :: D.undef :: D.undef :: D.undef :: D.undef :: D.undef :: D.undef :: D.undef :: []), .gone :: .gone :: .arr v1 1 ((j.2).map r45) :: .arr v2 1 ((lb).map r45) :: tail⟩) (fun j => A.1.length - j.1)
        (fun j => j.1 ≤ A.1.length ∧ j.2.length = A.1.length) (0, la) (Ghost.hold [0, 3, 5, 6, 7, 9, 11, 14, 47, 48, 49, 54, 55] rfl) ⟨Nat.zero_le _, ha⟩ ?_
      rintro ⟨j, l2⟩ ⟨hj, hjl⟩
      dsimp only at hj hjl ⊢
      refine exec_ok tab_ok mixed 1000 (bx := [false, false, false, false]) (own := []) ?_
      rcases Nat.lt_or_ge j A.1.length with h' | h'
      · obtain ⟨z, hz⟩ := at_lt (l := l2) (i := j) (by omega)
        repeat' ((conv => whnf); first
          | refine Exists.intro _ (And.intro (map_at (by omega) hz) ?_) | refine Exists.intro _ (And.intro (u64addm) ?_) | refine And.intro (by decide) ?_ | refine And.intro rfl ?_ | refine And.intro (by omega) ?_ | refine And.intro (by simp only [List.length_map, List.length_append, List.length_cons, List.length_nil]; omega) ?_ | refine Exists.intro _ (And.intro (w64 (by omega) (by omega)) ?_) | refine boolF_dect (by omega) ?_)
        all_goals (conv => whnf)
        refine ⟨(j + 1, l2.set j ((z + 1) % 18446744073709551616)), Ghost.hold [0, 3, 5, 6, 7, 9, 11, 14, 47, 48, 49, 54, 55] ?_, ⟨by dsimp only; omega, by rw [List.length_set]; exact hjl⟩, by dsimp only; omega⟩
        have er : ∀ (bb : Bool) (l : List D) (d : D), setRow bb l (0 + ((j : Int)).toNat) d = l.set j d := fun bb l d => by rw [setRow_eq]; congr 1; omega
        have em : (l2.map r45).set j (.int .u64 (((z + 1) % 18446744073709551616 : Nat) : Int)) = (l2.set j ((z + 1) % 18446744073709551616)).map r45 := by rw [List.map_set]; rfl
        dsimp only
        rw [← em, ← er false]; rfl
      · repeat' ((conv => whnf); first
          | refine Exists.intro _ (And.intro (w64 (by omega) (by omega)) ?_) | refine boolF_decf (by omega) ?_)
        all_goals (conv => whnf)
        exact ⟨(0 + 1, l2, lb), Ghost.hold [0, 3, 5, 6, 7, 9, 11, 47, 48, 49] rfl, ⟨by omega, hjl, hb⟩, by dsimp only; omega⟩
    · repeat' ((conv => whnf); first
        | refine And.intro (by decide) ?_ | refine And.intro rfl ?_ | refine Exists.intro _ (And.intro (Eq.refl (α := Option D) _) ?_))
      all_goals (conv => whnf)
      refine W_loopG (ι := Nat × List Nat) (fun j => ⟨(d22 v :: D.undef :: D.undef :: .pe (c34 o) :: D.undef :: d22 v :: d22 o.data_ :: .h 2 v1 0 A.1.length :: D.undef :: .h 3 v2 0 B.1.length :: D.undef :: .h k ver 0 rows.length :: D.undef :: D.undef :: .h 3 v2 0 B.1.length :: D.undef :: D.undef :: D.undef :: D.undef :: D.undef :: D.undef :: D.undef :: D.undef :: D.undef :: D.undef :: D.undef :: D.undef :: D.undef :: D.undef :: D.undef :: D.undef :: D.undef :: D.undef :: D.undef :: D.undef :: D.undef :: D.undef :: D.undef :: D.undef :: D.undef :: D.undef :: D.undef :: D.undef :: D.undef :: D.undef :: D.undef :: D.undef :: .sl [.h 2 v1 0 A.1.length, .h 3 v2 0 B.1.length] :: .int .i64 2 :: .int .i64 ((1 : Nat) : Int) :: D.undef :: D.undef :: D.undef :: D.undef :: .int .i64 (B.1.length : Int) :: .int .i64 (j.1 : Int) :: D.undef :: D.undef :: D.undef :: D.undef :: D.undef :: D.undef :: D.undef :: D.undef :: D.undef :: D.undef :: D.undef :: D.undef :: D.undef :: D.undef :: D.undef :: D.undef :: D.undef :: D.undef :: D.undef :: D.undef :: D.undef :: D.undef :: D.undef :: D.undef :: D.undef :: D.undef :: D.undef :: D.undef :: D.undef :: D.undef :: D.undef :: D.undef :: D.undef :: D.undef :: D.undef :: D.undef :: D.undef :: D.undef :: D.undef :: D.undef :: D.undef :: D.undef :: D.undef :: D.undef :: D.undef :: D.undef :: D.undef :: D.undef :: []), .gone :: .gone :: .arr v1 1 ((la).map r45) :: .arr v2 1 ((j.2).map r45) :: tail⟩) (fun j => B.1.length - j.1)
        (fun j => j.1 ≤ B.1.length ∧ j.2.length = B.1.length) (0, lb) (Ghost.hold [0, 3, 5, 6, 7, 9, 11, 14, 47, 48, 49, 54, 55] rfl) ⟨Nat.zero_le _, hb⟩ ?_
      rintro ⟨j, l2⟩ ⟨hj, hjl⟩
      dsimp only at hj hjl ⊢
      refine exec_ok tab_ok mixed 1000 (bx := [false, false, false, false]) (own := []) ?_
      rcases Nat.lt_or_ge j B.1.length with h' | h'
      · obtain ⟨z, hz⟩ := at_lt (l := l2) (i := j) (by omega)
        repeat' ((conv => whnf); first
          | refine Exists.intro _ (And.intro (map_at (by omega) hz) ?_) | refine Exists.intro _ (And.intro (u64addm) ?_) | refine And.intro (by decide) ?_ | refine And.intro rfl ?_ | refine And.intro (by omega) ?_ | refine And.intro (by simp only [List.length_map, List.length_append, List.length_cons, List.length_nil]; omega) ?_ | refine Exists.intro _ (And.intro (w64 (by omega) (by omega)) ?_) | refine boolF_dect (by omega) ?_)
        all_goals (conv => whnf)
        refine ⟨(j + 1, l2.set j ((z + 1) % 18446744073709551616)), Ghost.hold [0, 3, 5, 6, 7, 9, 11, 14, 47, 48, 49, 54, 55] ?_, ⟨by dsimp only; omega, by rw [List.length_set]; exact hjl⟩, by dsimp only; omega⟩
        have er : ∀ (bb : Bool) (l : List D) (d : D), setRow bb l (0 + ((j : Int)).toNat) d = l.set j d := fun bb l d => by rw [setRow_eq]; congr 1; omega
        have em : (l2.map r45).set j (.int .u64 (((z + 1) % 18446744073709551616 : Nat) : Int)) = (l2.set j ((z + 1) % 18446744073709551616)).map r45 := by rw [List.map_set]; rfl
        dsimp only
        rw [← em, ← er false]; rfl
      · repeat' ((conv => whnf); first
          | refine Exists.intro _ (And.intro (w64 (by omega) (by omega)) ?_) | refine boolF_decf (by omega) ?_)
        all_goals (conv => whnf)
        exact ⟨(1 + 1, la, l2), Ghost.hold [0, 3, 5, 6, 7, 9, 11, 47, 48, 49] rfl, ⟨by omega, ha, hjl⟩, by dsimp only; omega⟩
  · have he : ∀ x y, 4 ≤ x → (.gone :: .gone :: .arr v1 1 ((A.1).map r45) :: .arr v2 1 ((B.1).map r45) :: tail)[x]? = y → (.gone :: .gone :: .arr v1 1 ((la).map r45) :: .arr v2 1 ((lb).map r45) :: tail)[x]? = y := fun x y hx h => by
      match x, hx, h with
      | x + 4, _, h => exact h
    have e2' := he _ _ hk e2
    have e3' : ∀ row ∈ rows, DRow k (.gone :: .gone :: .arr v1 1 ((la).map r45) :: .arr v2 1 ((lb).map r45) :: tail) row := fun row hr => by
      rcases e3 row hr with q | ⟨x, y, z, o, v2, l2, q1, q2, q3, q9⟩
      · exact .inl q
      · exact .inr ⟨x, y, z, o, v2, l2, q1, q2, he _ _ (by omega) q3, q9⟩
    repeat' ((conv => whnf); first
      | refine objK_of e2' ?_ | refine And.intro rfl ?_ | refine boolF_decf (by omega) ?_)
    all_goals (conv => whnf)
    refine W_loopG (ι := Nat × List AObj) (fun i => ⟨(d22 v :: D.undef :: D.undef :: .pe (c34 o) :: D.undef :: d22 v :: d22 o.data_ :: D.undef :: D.undef :: D.undef :: D.undef :: .h k ver 0 rows.length :: D.undef :: D.undef :: D.undef :: D.undef :: D.undef :: D.undef :: D.undef :: D.undef :: D.undef :: D.undef :: D.undef :: D.undef :: D.undef :: D.undef :: D.undef :: D.undef :: D.undef :: D.undef :: D.undef :: D.undef :: D.undef :: D.undef :: D.undef :: D.undef :: D.undef :: D.undef :: D.undef :: D.undef :: D.undef :: D.undef :: D.undef :: D.undef :: D.undef :: D.undef :: D.undef :: D.undef :: D.undef :: D.undef :: D.undef :: D.undef :: D.undef :: D.undef :: D.undef :: D.undef :: D.undef :: D.undef :: D.undef :: D.undef :: D.undef :: D.undef :: D.undef :: D.undef :: D.undef :: D.undef :: D.undef :: .int .i64 (rows.length : Int) :: .int .i64 (i.1 : Int) :: D.undef :: D.undef :: D.undef :: D.undef :: D.undef :: D.undef :: D.undef :: D.undef :: D.undef :: D.undef :: D.undef :: D.undef :: D.undef :: D.undef :: D.undef :: D.undef :: D.undef :: D.undef :: D.undef :: D.undef :: D.undef :: D.undef :: D.undef :: D.undef :: D.undef :: D.undef :: D.undef :: D.undef :: D.undef :: D.undef :: D.undef :: D.undef :: D.undef :: D.undef :: D.undef :: []), i.2⟩) (fun i => rows.length - i.1)
      (fun i => i.1 ≤ rows.length ∧ i.2[k]? = some (.arr ver 4 rows) ∧ ∀ row ∈ rows, DRow k i.2 row) (0, .gone :: .gone :: .arr v1 1 ((la).map r45) :: .arr v2 1 ((lb).map r45) :: tail) (Ghost.hold [0, 3, 5, 6, 11, 67, 68] rfl) ⟨Nat.zero_le _, e2', e3'⟩ ?_
    clear e3' e2' e3 e2
    rintro ⟨i, Hc⟩ ⟨f1, f2, f3⟩
    dsimp only at f1 f2 f3 ⊢
    rcases Nat.lt_or_ge i rows.length with h | h
    · obtain ⟨row, hrow⟩ := at_lt h
      refine exec_ok tab_ok mixed 1000 (bx := []) (own := []) ?_
      rcases f3 row (List.mem_of_getElem? hrow) with ⟨x, y, z, rfl⟩ | ⟨x, y, z, c, vv, l, rfl, q2, q3, q9⟩
      · repeat' ((conv => whnf); first
          | refine objK_of f2 ?_ | refine Exists.intro _ (And.intro (get_at (by omega) hrow) ?_) | refine And.intro (by decide) ?_ | refine And.intro rfl ?_ | refine And.intro (by omega) ?_ | refine boolF_dect (by omega) ?_)
        all_goals (conv => whnf)
        refine W_loopG (ι := Unit) (fun _ => ⟨(d22 v :: D.undef :: D.undef :: .pe (c34 o) :: D.undef :: d22 v :: d22 o.data_ :: D.undef :: D.undef :: D.undef :: D.undef :: .h k ver 0 rows.length :: D.undef :: D.undef :: D.undef :: D.undef :: .int .i64 (i : Int) :: D.undef :: D.undef :: D.undef :: D.undef :: D.undef :: D.undef :: D.undef :: D.undef :: D.undef :: D.undef :: D.undef :: D.undef :: D.undef :: D.undef :: D.undef :: D.undef :: D.undef :: D.undef :: D.undef :: D.undef :: D.undef :: D.undef :: D.undef :: D.undef :: D.undef :: D.undef :: D.undef :: D.undef :: D.undef :: D.undef :: D.undef :: D.undef :: D.undef :: D.undef :: D.undef :: D.undef :: D.undef :: D.undef :: D.undef :: D.undef :: D.undef :: D.undef :: D.undef :: D.undef :: D.undef :: D.undef :: D.undef :: D.undef :: D.undef :: D.undef :: .int .i64 (rows.length : Int) :: .int .i64 (i : Int) :: D.undef :: D.undef :: D.undef :: D.undef :: D.undef :: D.undef :: D.undef :: .int .i64 0 :: .int .i64 0 :: D.undef :: D.undef :: D.undef :: D.undef :: D.undef :: D.undef :: D.undef :: D.undef :: D.undef :: D.undef :: D.undef :: D.undef :: D.undef :: D.undef :: D.undef :: D.undef :: D.undef :: D.undef :: D.undef :: D.undef :: D.undef :: D.undef :: D.undef :: D.undef :: D.undef :: D.undef :: []), Hc⟩) (fun _ => 0) (fun _ => True) () (Ghost.hold [0, 3, 5, 6, 11, 16, 67, 68, 76, 77] rfl) trivial ?_
        rintro _ _
        refine exec_ok tab_ok mixed 1000 (bx := []) (own := []) ?_
        repeat' ((conv => whnf); first
          | refine Exists.intro _ (And.intro (w64 (by omega) (by omega)) ?_))
        all_goals (conv => whnf)
        exact ⟨(i + 1, Hc), Ghost.hold [0, 3, 5, 6, 11, 67, 68] rfl, ⟨h, f2, f3⟩, by dsimp only; omega⟩
      · repeat' ((conv => whnf); first
          | refine objK_of f2 ?_ | refine objK_of q3 ?_ | refine Exists.intro _ (And.intro (get_at (by omega) hrow) ?_) | refine And.intro (by decide) ?_ | refine And.intro rfl ?_ | refine And.intro (by omega) ?_ | refine boolF_dect (by omega) ?_)
        all_goals (conv => whnf)
        refine W_loopG (ι := Nat × List Nat × List AObj) (fun j => ⟨(d22 v :: D.undef :: D.undef :: .pe (c34 o) :: D.undef :: d22 v :: d22 o.data_ :: D.undef :: D.undef :: D.undef :: D.undef :: .h k ver 0 rows.length :: D.undef :: D.undef :: D.undef :: D.undef :: .int .i64 (i : Int) :: D.undef :: D.undef :: D.undef :: D.undef :: D.undef :: D.undef :: D.undef :: D.undef :: D.undef :: D.undef :: D.undef :: D.undef :: D.undef :: D.undef :: D.undef :: D.undef :: D.undef :: D.undef :: D.undef :: D.undef :: D.undef :: D.undef :: D.undef :: D.undef :: D.undef :: D.undef :: D.undef :: D.undef :: D.undef :: D.undef :: D.undef :: D.undef :: D.undef :: D.undef :: D.undef :: D.undef :: D.undef :: D.undef :: D.undef :: D.undef :: D.undef :: D.undef :: D.undef :: D.undef :: D.undef :: D.undef :: D.undef :: D.undef :: D.undef :: D.undef :: .int .i64 (rows.length : Int) :: .int .i64 (i : Int) :: D.undef :: D.undef :: D.undef :: D.undef :: D.undef :: D.undef :: D.undef :: .int .i64 (l.length : Int) :: .int .i64 (j.1 : Int) :: D.undef :: D.undef :: D.undef :: D.undef :: D.undef :: D.undef :: D.undef :: D.undef :: D.undef :: D.undef :: D.undef :: D.undef :: D.undef :: D.undef :: D.undef :: D.undef :: D.undef :: D.undef :: D.undef :: D.undef :: D.undef :: D.undef :: D.undef :: D.undef :: D.undef :: D.undef :: []), j.2.2⟩) (fun j => l.length - j.1)
          (fun j => j.1 ≤ l.length ∧ j.2.1.length = l.length ∧ j.2.2[c]? = some (.arr vv 1 (j.2.1.map r45)) ∧ j.2.2[k]? = some (.arr ver 4 rows) ∧ ∀ row ∈ rows, DRow k j.2.2 row) (0, l, Hc) (Ghost.hold [0, 3, 5, 6, 11, 16, 67, 68, 76, 77] rfl) ⟨Nat.zero_le _, rfl, q3, f2, f3⟩ ?_
        clear q3 f2 f3
        rintro ⟨j, l2, Hd⟩ ⟨j1, j2, j3, f2, f3⟩
        dsimp only at j1 j2 j3 f2 f3 ⊢
        refine exec_ok tab_ok mixed 1000 (bx := []) (own := []) ?_
        rcases Nat.lt_or_ge j l.length with h' | h'
        · obtain ⟨z, hz⟩ := at_lt (l := l2) (i := j) (by omega)
          repeat' ((conv => whnf); first
            | refine objK_of f2 ?_ | refine objK_of j3 ?_ | refine Exists.intro _ (And.intro (get_at (by omega) hrow) ?_) | refine Exists.intro _ (And.intro (map_at (by omega) hz) ?_) | refine Exists.intro _ (And.intro (u64addm) ?_) | refine setK_iff.mpr ?_ | refine And.intro (by decide) ?_ | refine And.intro rfl ?_ | refine And.intro (by omega) ?_ | refine And.intro (by simp only [List.length_map, List.length_append, List.length_cons, List.length_nil]; omega) ?_ | refine Exists.intro _ (And.intro (w64 (by omega) (by omega)) ?_) | refine boolF_dect (by omega) ?_)
          all_goals (conv => whnf)
          have er : ∀ (bb : Bool) (l : List D) (d : D), setRow bb l (0 + ((j : Int)).toNat) d = l.set j d := fun bb l d => by rw [setRow_eq]; congr 1; omega
          have em : (l2.map r45).set j (.int .u64 (((z + 1) % 18446744073709551616 : Nat) : Int)) = (l2.set j ((z + 1) % 18446744073709551616)).map r45 := by rw [List.map_set]; rfl
          refine ⟨(j + 1, l2.set j ((z + 1) % 18446744073709551616), Hd.set c (.arr vv 1 ((l2.set j ((z + 1) % 18446744073709551616)).map r45))), Ghost.hold [0, 3, 5, 6, 11, 16, 67, 68, 76, 77] ?_, ⟨by dsimp only; omega, by rw [List.length_set]; exact j2, List.getElem?_set_self (List.getElem?_eq_some_iff.mp j3).1, ?_, fun row hr => (f3 row hr).set j3 (by rw [List.length_set])⟩, by dsimp only; omega⟩
          · dsimp only
            rw [← em, ← er false]; rfl
          · dsimp only
            rw [List.getElem?_set_ne (by omega)]; exact f2
        · repeat' ((conv => whnf); first
            | refine Exists.intro _ (And.intro (w64 (by omega) (by omega)) ?_) | refine boolF_decf (by omega) ?_)
          all_goals (conv => whnf)
          exact ⟨(i + 1, Hd), Ghost.hold [0, 3, 5, 6, 11, 67, 68] rfl, ⟨h, f2, f3⟩, by dsimp only; omega⟩
    · refine exec_ok tab_ok mixed 1000 (bx := []) (own := []) ?_
      repeat' ((conv => whnf); first
        | refine Pure.call (f12_ok _ _ hv hv) ?_ | refine Pure.call (f12_ok _ _ ho ho) ?_ | refine Pure.call (f10_ok) ?_ | refine boolF_dect rfl ?_ | refine boolF_decf (by omega) ?_)
      all_goals (conv => whnf)
      exact ⟨rfl⟩

end Go.Proofs.Ytgcbeibemomhcaa

