import Derived.Test.YtgcbeibemomhcaaP3
namespace Go.Proofs.Ytgcbeibemomhcaa
open Go.A
set_option linter.unusedVariables false
set_option linter.unusedSimpArgs false
set_option linter.unnecessarySimpa false
attribute [local irreducible] IntKind.wrap bitsI
set_option maxRecDepth 100000
set_option maxHeartbeats 4000000

theorem splice_snoc {α : Type} {l xs : List α} {off : Nat} {x : α} (h : off + (xs.length + 1) ≤ l.length) : spliceL l off (xs ++ [x]) = (spliceL l off xs).set (off + xs.length) x := by
  have e : (l.take off).length = off := by rw [List.length_take]; omega
  have e2 : (l.take off ++ xs).length = off + xs.length := by rw [List.length_append, e]
  rw [spliceL, spliceL, List.set_append_right _ _ (by omega), e2, Nat.sub_self, List.length_append, List.length_singleton]
  have hd : l.drop (off + xs.length) = l[off + xs.length] :: l.drop (off + xs.length + 1) := List.drop_eq_getElem_cons (by omega)
  rw [hd, List.set_cons_zero, ← List.append_assoc, List.append_assoc (l.take off ++ xs)]
  rfl
theorem splice_nil {α : Type} (l : List α) (off : Nat) : spliceL l off [] = l := by simp [spliceL]
theorem setRow_len (bb : Bool) (l : List D) (i : Nat) (d : D) : (setRow bb l i d).length = l.length := by rw [setRow_eq, List.length_set]
theorem setRow_get {bb : Bool} {l : List D} {i j : Nat} {d : D} (e : j = i) (h : i < l.length) : (setRow bb l i d)[j]? = some d := by
  subst e; rw [setRow_eq, List.getElem?_set_self h]

theorem f35_ok (v : List Nat) (o : Op) (hv : v.length ≤ 1024) (ho : okOp v.length o) : Owned Try.prog 35 [d22 v, d34 o] 1 ((doO v o).map r45) := by
  have hd := dat_len ho
  have hoff := ho.2.2.1
  have h29 := f29_ok o (by have := ho.2.2.2; omega)
  simp only [rngD, rng] at h29
  refine Owned.of ⟨scd22 _ _, scd34 _ _, trivial⟩ (scr45 _ _) ?_
  obtain ⟨kind, off, len, data⟩ := o
  dsimp only at hoff h29 hd
  obtain ⟨a, rfl⟩ := Int.eq_ofNat_of_zero_le hoff
  simp only [okOp] at ho
  rcases ho.2.2.2 with ⟨rfl, rfl, k3, k4, k5⟩ | ⟨rfl, k2, k3, k4⟩
  · have e2 : dat ⟨1, (a : Int), 0, data⟩ = data := by simp [dat]
    rw [doO, e2]
    rw [if_pos rfl] at h29
    refine CallsIn.of_exec tab_ok mixed Try.func35 rfl rfl [] [false] ?_
    repeat' ((conv => whnf); first
      | refine And.intro (okRows_map (fun _ _ => ⟨rfl, rfl⟩)) ?_ | refine And.intro (by omega) ?_ | refine Exists.intro _ (And.intro (⟨(List.length_map _).symm⟩) ?_))
    all_goals (conv => whnf)
    refine Pure.call h29 ?_
    (conv => whnf)
    refine W_loopG (ι := Nat) (fun i => ⟨(D.undef :: D.undef :: D.undef :: .pe (c34 ⟨1, (a : Int), 0, data⟩) :: D.undef :: .h 0 0 0 v.length :: .int .i64 (a : Int) :: .int .i64 (data.length : Int) :: .int .i64 (i:Int) :: D.undef :: D.undef :: D.undef :: D.undef :: D.undef :: D.undef :: D.undef :: D.undef :: D.undef :: D.undef :: D.undef :: D.undef :: D.undef :: D.undef :: D.undef :: D.undef :: D.undef :: D.undef :: D.undef :: D.undef :: D.undef :: D.undef :: D.undef :: D.undef :: D.undef :: D.undef :: D.undef :: D.undef :: D.undef :: D.undef :: D.undef :: []), [.arr 0 1 ((spliceL v a (data.take i)).map r45)]⟩) (fun i => data.length - i)
      (fun i => i ≤ data.length) 0 (Ghost.hold [3, 5, 6, 7, 8] (by rw [List.take_zero, splice_nil]; rfl)) (Nat.zero_le _) ?_
    intro i h1
    have hl : (spliceL v a (data.take i)).length = v.length := spliceL_length _ _ _ (by rw [List.length_take]; omega)
    refine exec_ok tab_ok mixed 1000 (bx := [false]) (own := []) ?_
    rcases Nat.lt_or_ge i data.length with h | h
    · obtain ⟨x, hx⟩ := at_lt h
      have hs : spliceL v a (data.take (i + 1)) = (spliceL v a (data.take i)).set (a + i) x := by
        have := splice_snoc (l := v) (xs := data.take i) (off := a) (x := x) (by rw [List.length_take]; omega)
        rw [take_snoc hx, this, List.length_take, Nat.min_eq_left (by omega)]
      generalize spliceL v a (data.take i) = cur at hl hs ⊢
      obtain ⟨z, hz⟩ := at_lt (l := cur) (i := a + i) (by omega)
      repeat' ((conv => whnf); first
        | refine Exists.intro _ (And.intro (map_at (by omega) hz) ?_) | refine Exists.intro _ (And.intro (map_at (by omega) hx) ?_) | refine Exists.intro _ (And.intro (setRow_get rfl (by rw [List.length_map]; omega)) ?_) | refine And.intro (by rw [setRow_len, List.length_map]; omega) ?_ | refine And.intro (by decide) ?_ | refine And.intro rfl ?_ | refine And.intro (by omega) ?_ | refine And.intro (by simp only [List.length_map, List.length_append, List.length_cons, List.length_nil]; omega) ?_ | refine Exists.intro _ (And.intro (w64 (by omega) (by omega)) ?_) | refine boolF_dect (by omega) ?_)
      all_goals (conv => whnf)
      refine ⟨i + 1, Ghost.hold [3, 5, 6, 7, 8] ?_, h, by omega⟩
      have e : ∀ (bb : Bool) (l : List D) (d : D), setRow bb l (0 + ((a : Int) + (i : Int)).toNat) d = l.set (a + i) d := fun bb l d => by rw [setRow_eq]; congr 1; omega
      have e3 : setRow false (setRow false (cur.map r45) (0 + ((a : Int) + (i : Int)).toNat) (.int .u64 0)) (0 + ((a : Int) + (i : Int)).toNat) (r45 x) = ((spliceL v a (data.take (i + 1))).map r45) := by
        rw [e, e, List.set_set, hs, List.map_set]
      rw [← e3]
      rfl
    · have e : data.take i = data := List.take_of_length_le h
      rw [e] at hl ⊢
      repeat' ((conv => whnf); first
        | refine boolF_decf (by omega) ?_)
      all_goals (conv => whnf)
      exact ⟨0, Ghost.hold [0] (by rw [List.length_map, Int.toNat_natCast, hl]; rfl)⟩
  · obtain ⟨l, rfl⟩ := Int.eq_ofNat_of_zero_le (a := len) (by omega)
    obtain rfl : data = [] := List.length_eq_zero_iff.mp k2
    have e2 : dat ⟨2, (a : Int), (l : Int), []⟩ = List.replicate l 0 := by simp [dat]
    rw [doO, e2]
    rw [if_neg (by decide), if_pos rfl] at h29
    refine CallsIn.of_exec tab_ok mixed Try.func35 rfl rfl [] [false] ?_
    repeat' ((conv => whnf); first
      | refine And.intro (okRows_map (fun _ _ => ⟨rfl, rfl⟩)) ?_ | refine And.intro (by omega) ?_ | refine Exists.intro _ (And.intro (⟨(List.length_map _).symm⟩) ?_))
    all_goals (conv => whnf)
    refine Pure.call h29 ?_
    (conv => whnf)
    refine W_loopG (ι := Nat) (fun i => ⟨(D.undef :: D.undef :: D.undef :: .pe (c34 ⟨2, (a : Int), (l : Int), []⟩) :: D.undef :: .h 0 0 0 v.length :: .int .i64 (a : Int) :: .int .i64 (l : Int) :: .int .i64 (i:Int) :: D.undef :: D.undef :: D.undef :: D.undef :: D.undef :: D.undef :: D.undef :: D.undef :: D.undef :: D.undef :: D.undef :: D.undef :: D.undef :: D.undef :: D.undef :: D.undef :: D.undef :: D.undef :: D.undef :: D.undef :: D.undef :: D.undef :: D.undef :: D.undef :: D.undef :: D.undef :: D.undef :: D.undef :: D.undef :: D.undef :: D.undef :: []), [.arr 0 1 ((spliceL v a (List.replicate i 0)).map r45)]⟩) (fun i => l - i)
      (fun i => i ≤ l) 0 (Ghost.hold [3, 5, 6, 7, 8] (by rw [List.replicate_zero, splice_nil]; rfl)) (Nat.zero_le _) ?_
    intro i h1
    have hl : (spliceL v a (List.replicate i 0)).length = v.length := spliceL_length _ _ _ (by rw [List.length_replicate]; omega)
    refine exec_ok tab_ok mixed 1000 (bx := [false]) (own := []) ?_
    rcases Nat.lt_or_ge i l with h | h
    · have hs : spliceL v a (List.replicate (i + 1) 0) = (spliceL v a (List.replicate i 0)).set (a + i) 0 := by
        have := splice_snoc (l := v) (xs := List.replicate i 0) (off := a) (x := 0) (by rw [List.length_replicate]; omega)
        rw [List.replicate_succ', this, List.length_replicate]
      generalize spliceL v a (List.replicate i 0) = cur at hl hs ⊢
      obtain ⟨z, hz⟩ := at_lt (l := cur) (i := a + i) (by omega)
      repeat' ((conv => whnf); first
        | refine Exists.intro _ (And.intro (map_at (by omega) hz) ?_) | refine And.intro (by decide) ?_ | refine And.intro (by omega) ?_ | refine And.intro (by simp only [List.length_map, List.length_append, List.length_cons, List.length_nil]; omega) ?_ | refine Exists.intro _ (And.intro (w64 (by omega) (by omega)) ?_) | refine boolF_dect (by omega) ?_)
      all_goals (conv => whnf)
      refine ⟨i + 1, Ghost.hold [3, 5, 6, 7, 8] ?_, h, by omega⟩
      have e : ∀ (bb : Bool) (l : List D) (d : D), setRow bb l (0 + ((a : Int) + (i : Int)).toNat) d = l.set (a + i) d := fun bb l d => by rw [setRow_eq]; congr 1; omega
      have e3 : setRow false (cur.map r45) (0 + ((a : Int) + (i : Int)).toNat) (.int .u64 0) = ((spliceL v a (List.replicate (i + 1) 0)).map r45) := by
        rw [e, hs, List.map_set]; rfl
      rw [← e3]
      rfl
    · obtain rfl : i = l := by omega
      repeat' ((conv => whnf); first
        | refine boolF_decf (by omega) ?_)
      all_goals (conv => whnf)
      exact ⟨0, Ghost.hold [0] (by rw [List.length_map, Int.toNat_natCast, hl]; rfl)⟩

theorem f28_own (v : List Nat) (ops : List Op) (hv : v.length ≤ 140737488351232) (hn : ops.length ≤ 140737488351232) (ho : bigD ops) : OwnW 28 [d22 v, d23 ops] (applyM v ops) := by
  refine OwnedR.of ⟨scd22 _ _, scd23 _ _, trivial⟩ (scr45 _ _) (ownW_res _) ?_
  refine CallsIn.of_exec tab_ok mixed Try.func28 rfl rfl [] [] ?_
  by_cases hb : 1024 < v.length
  · rw [applyM, if_pos hb]
    repeat' ((conv => whnf); first
      | refine Exists.intro _ (And.intro (⟨(List.length_map _).symm⟩) ?_) | refine Pure.call (f27_ok _) ?_ | refine boolF_not ?_ | refine boolF_decf (by omega) ?_)
    all_goals (conv => whnf)
    exact ⟨ownW_err 6 _⟩
  · rw [applyM, if_neg hb]
    repeat' ((conv => whnf); first
      | refine Exists.intro _ (And.intro (⟨(List.length_map _).symm⟩) ?_) | refine Pure.call (f27_ok _) ?_ | refine boolF_not ?_ | refine boolF_dect (by omega) ?_)
    all_goals (conv => whnf)
    refine W_loopG (ι := Nat) (fun i => ⟨(d22 v :: d23 ops :: D.undef :: D.undef :: D.undef :: D.undef :: .int .i64 (i:Int) :: D.undef :: D.undef :: D.undef :: D.undef :: D.undef :: D.undef :: D.undef :: D.undef :: D.undef :: D.undef :: D.undef :: D.undef :: D.undef :: D.undef :: D.undef :: D.undef :: D.undef :: D.undef :: D.undef :: D.undef :: D.undef :: D.undef :: D.undef :: D.undef :: D.undef :: D.undef :: D.undef :: D.undef :: D.undef :: D.undef :: D.undef :: D.undef :: D.undef :: D.undef :: D.undef :: []), []⟩) (fun i => ops.length - i)
      (fun i => i ≤ ops.length ∧ allOk v.length (ops.take i)) 0 (Ghost.hold [0, 1, 6] rfl) ⟨Nat.zero_le _, fun x hx => by simp at hx⟩ ?_
    rintro i ⟨h1, h2⟩
    refine exec_ok tab_ok mixed 1000 (bx := []) (own := []) ?_
    rcases Nat.lt_or_ge i ops.length with h | h
    · obtain ⟨x, hx⟩ := at_lt h
      have hxd := ho x (List.mem_of_getElem? hx)
      by_cases hok : okOp v.length x
      · repeat' ((conv => whnf); first
          | refine Exists.intro _ (And.intro (map_at (by omega) hx) ?_) | refine And.intro rfl ?_ | refine And.intro (by omega) ?_ | refine Exists.intro _ (And.intro (⟨(List.length_map _).symm⟩) ?_) | refine Exists.intro _ (And.intro (w64 (by omega) (by omega)) ?_) | refine Pure.call (f34_ok _ _ hxd) ?_ | refine boolF_not ?_ | refine boolF_dect (by assumption) ?_ | refine boolF_dect (by omega) ?_)
        all_goals (conv => whnf)
        refine ⟨i + 1, Ghost.hold [0, 1, 6] rfl, ⟨h, ?_⟩, by omega⟩
        rw [take_snoc hx]
        intro y hy
        rcases List.mem_append.mp hy with hy | hy
        · exact h2 y hy
        · simp only [List.mem_singleton] at hy; subst hy; exact hok
      · rw [if_neg (fun hh => hok (hh x (List.mem_of_getElem? hx)))]
        repeat' ((conv => whnf); first
          | refine Exists.intro _ (And.intro (map_at (by omega) hx) ?_) | refine And.intro rfl ?_ | refine And.intro (by omega) ?_ | refine Exists.intro _ (And.intro (⟨(List.length_map _).symm⟩) ?_) | refine Pure.call (f34_ok _ _ hxd) ?_ | refine boolF_not ?_ | refine boolF_decf (by assumption) ?_ | refine boolF_dect (by omega) ?_)
        all_goals (conv => whnf)
        exact ⟨ownW_err 1 _⟩
    · rw [List.take_of_length_le h] at h2
      rw [if_pos h2]
      repeat' ((conv => whnf); first
        | refine And.intro (okRows_map (fun _ _ => ⟨rfl, rfl⟩)) ?_ | refine And.intro (by omega) ?_ | refine Exists.intro _ (And.intro (⟨(List.length_map _).symm⟩) ?_) | refine boolF_decf (by omega) ?_)
      all_goals (conv => whnf)
      refine W_loopG (ι := Nat × Nat) (fun i => ⟨(D.undef :: d23 ops :: D.undef :: D.undef :: D.undef :: D.undef :: D.undef :: .h 0 i.2 0 v.length :: .int .i64 (i.1:Int) :: D.undef :: D.undef :: D.undef :: D.undef :: D.undef :: D.undef :: D.undef :: D.undef :: D.undef :: D.undef :: D.undef :: D.undef :: D.undef :: D.undef :: D.undef :: D.undef :: D.undef :: D.undef :: D.undef :: D.undef :: D.undef :: D.undef :: D.undef :: D.undef :: D.undef :: D.undef :: D.undef :: D.undef :: D.undef :: D.undef :: D.undef :: D.undef :: D.undef :: []), [.arr i.2 1 ((applyL v (ops.take i.1)).map r45)]⟩) (fun i => ops.length - i.1)
        (fun i => i.1 ≤ ops.length) (0, 0) (Ghost.hold [1, 7, 8] rfl) (Nat.zero_le _) ?_
      rintro ⟨j, ver⟩ k1
      dsimp only at k1 ⊢
      have hl := (apply_at (v := v) (allOk_take h2 j)).1
      refine exec_ok tab_ok mixed 1000 (bx := [false]) (own := []) ?_
      rcases Nat.lt_or_ge j ops.length with h | h
      · obtain ⟨x, hx⟩ := at_lt h
        have hxo := h2 x (List.mem_of_getElem? hx)
        have hs := applyL_snoc (v := v) hx
        generalize applyL v (ops.take j) = cur at hl hs ⊢
        rw [← hl] at hxo
        have h35 := f35_ok cur x (by omega) hxo
        have hl2 := (do_at hxo).1
        repeat' ((conv => whnf); first
          | refine Exists.intro _ (And.intro (map_at (by omega) hx) ?_) | refine And.intro rfl ?_ | refine And.intro (by omega) ?_ | refine Exists.intro _ (And.intro (⟨(List.length_map _).symm⟩) ?_) | refine boolF_dect (by omega) ?_)
        all_goals (conv => whnf)
        refine Owned.seeN h35 v.length (by rw [List.length_map]; omega) [(0, .arr ver 1 (cur.map r45))] (fact1 rfl) (.cons (.h List.mem_cons_self (.all (scr45 _ _)) (all_take hl.symm)) (.cons (.same (scd34 0 x)) .nil)) (bares_map fun x => trivial) (fun v1 => ?_)
        repeat' ((conv => whnf); first
          | refine Exists.intro _ (And.intro (w64 (by omega) (by omega)) ?_))
        all_goals (conv => whnf)
        refine ⟨(j + 1, v1), (Ghost.hold [1, 7, 8] rfl).trans (Ghost.pickAt 1 7 rfl (show scs 0 ((D.undef :: d23 ops :: D.undef :: D.undef :: D.undef :: D.undef :: D.undef :: D.undef :: .int .i64 ((j : Int) + 1) :: D.undef :: D.undef :: D.undef :: D.undef :: D.undef :: D.undef :: D.undef :: D.undef :: D.undef :: D.undef :: D.undef :: D.undef :: D.undef :: D.undef :: D.undef :: D.undef :: D.undef :: D.undef :: D.undef :: D.undef :: D.undef :: D.undef :: D.undef :: D.undef :: D.undef :: D.undef :: D.undef :: D.undef :: D.undef :: D.undef :: D.undef :: D.undef :: D.undef :: [])) by simp [scs, D.sc, scd23]) (by rw [hs]; rfl) (scr45 _ _)), h, by dsimp only; omega⟩
      · have e : ops.take j = ops := List.take_of_length_le h
        rw [e] at hl ⊢
        repeat' ((conv => whnf); first
          | refine Exists.intro _ (And.intro (⟨(List.length_map _).symm⟩) ?_) | refine boolF_decf (by omega) ?_)
        all_goals (conv => whnf)
        exact ⟨ownW_ok 0 _ 0 ver _ _ hl.symm rfl⟩

theorem f28_ok (v : List Nat) (ops : List Op) (hv : v.length ≤ 140737488351232) (hn : ops.length ≤ 140737488351232) (ho : bigD ops) : Pure Try.prog 28 [d22 v, d23 ops] (.tup [d22 (applyM v ops).1, .int .i64 (applyM v ops).2]) := (f28_own v ops hv hn ho).pure

end Go.Proofs.Ytgcbeibemomhcaa

