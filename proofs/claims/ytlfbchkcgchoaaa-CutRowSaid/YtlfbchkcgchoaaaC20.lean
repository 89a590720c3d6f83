import Derived.Test.YtlfbchkcgchoaaaC19
namespace Go.Proofs.Ytlfbchkcgchoaaa.C
open Go.A
set_option linter.unusedVariables false
set_option linter.unusedSimpArgs false
set_option linter.unnecessarySimpa false
attribute [local irreducible] IntKind.wrap bitsI
open B
set_option maxRecDepth 100000
set_option maxHeartbeats 4000000

theorem cutRow_true (n : Nat) (ops0 : List T38) (s : T22) (h0 : ok5 n) (h1 : ok37 ops0) (h2 : ok23 s) : Go.A.CallsIn Try.prog 4 [d5 n, d37 ops0, d23 s] [] fun r _ => r = .bool true := by
  have hn : n < 256 := h0
  have hol : ops0.length * 48 ≤ 140737488351232 := h1.2
  obtain ⟨k, hk⟩ : ∃ k : Nat, k = n % 40 + 1 := ⟨_, rfl⟩
  have hkI : ((n % 40 : Nat) : Int) + 1 = (k : Int) := by omega
  have hk40 : 1 ≤ k ∧ k ≤ 40 := by omega
  refine Go.A.CallsIn.of_execN 4 tab_ok mixed Try.func4 rfl rfl [] [] ?_
  repeat' ((conv => whnf); first
    | refine And.intro (by decide) ?_ | refine Exists.intro _ (And.intro (w64 (by omega) (by omega)) ?_))
  all_goals (conv => whnf)
  rw [hkI]
  refine exec_ok tab_ok mixed 1000 (bx := []) (own := []) ?_
  repeat' ((conv => whnf); first
    | refine And.intro (cells_map (fun _ => rfl)) ?_ | refine Exists.intro _ (And.intro (⟨(List.length_map _).symm⟩) ?_) | refine Exists.intro _ (And.intro (⟨List.map_take⟩) ?_) | refine Exists.intro _ (And.intro (⟨Eq.refl (α := Int) _⟩) (And.intro (by omega) ?_)) | refine Exists.intro _ (And.intro (min_int) ?_))
  all_goals (conv => whnf)
  have hO6 : (ops0.take (min ops0.length 6)).length ≤ 6 := by rw [List.length_take]; omega
  have hOb : ∀ o ∈ ops0.take (min ops0.length 6), o.data_.length ≤ 140737488351232 := fun o ho => by
    have := ((h1.1 o (List.mem_of_mem_take ho)).2.2.2).2
    have h3 : o.data_.length * 8 ≤ 140737488351232 := this
    omega
  generalize ops0.take (min ops0.length 6) = O at hO6 hOb ⊢
  refine W_loopG (ι := Nat × Nat) (fun e => ⟨(D.undef :: D.undef :: D.undef :: D.undef :: D.undef :: .pe (c23 s) :: D.undef :: .int .i64 (k : Int) :: .h 0 e.2 0 e.1 :: D.undef :: D.undef :: D.undef :: D.undef :: D.undef :: D.undef :: D.undef :: D.undef :: D.undef :: D.undef :: D.undef :: D.undef :: D.undef :: D.undef :: D.undef :: D.undef :: D.undef :: D.undef :: D.undef :: D.undef :: D.undef :: D.undef :: D.undef :: d37 O :: .int .i64 (O.length : Int) :: .int .i64 (e.1 : Int) :: D.undef :: D.undef :: D.undef :: D.undef :: D.undef :: D.undef :: D.undef :: D.undef :: D.undef :: D.undef :: D.undef :: D.undef :: D.undef :: D.undef :: D.undef :: D.undef :: D.undef :: D.undef :: D.undef :: D.undef :: D.undef :: D.undef :: D.undef :: D.undef :: D.undef :: D.undef :: D.undef :: D.undef :: D.undef :: D.undef :: D.undef :: D.undef :: D.undef :: D.undef :: D.undef :: D.undef :: D.undef :: D.undef :: D.undef :: D.undef :: D.undef :: D.undef :: D.undef :: D.undef :: D.undef :: D.undef :: D.undef :: D.undef :: D.undef :: D.undef :: D.undef :: D.undef :: D.undef :: D.undef :: D.undef :: D.undef :: D.undef :: D.undef :: D.undef :: D.undef :: D.undef :: D.undef :: D.undef :: D.undef :: D.undef :: D.undef :: D.undef :: D.undef :: D.undef :: D.undef :: D.undef :: D.undef :: D.undef :: D.undef :: D.undef :: D.undef :: D.undef :: D.undef :: D.undef :: D.undef :: D.undef :: D.undef :: D.undef :: D.undef :: D.undef :: D.undef :: D.undef :: D.undef :: D.undef :: D.undef :: D.undef :: D.undef :: D.undef :: D.undef :: D.undef :: D.undef :: D.undef :: D.undef :: D.undef :: D.undef :: D.undef :: D.undef :: D.undef :: D.undef :: D.undef :: D.undef :: D.undef :: D.undef :: D.undef :: D.undef :: D.undef :: D.undef :: D.undef :: D.undef :: D.undef :: D.undef :: D.undef :: D.undef :: D.undef :: D.undef :: D.undef :: D.undef :: D.undef :: D.undef :: D.undef :: D.undef :: D.undef :: D.undef :: D.undef :: D.undef :: D.undef :: D.undef :: D.undef :: []), [.arr e.2 6 ((row (O.take e.1)).map r42)]⟩) (fun e => O.length - e.1)
    (fun e => e.1 ≤ O.length ∧ allOk k (O.take e.1)) (0, 0) ((Ghost.hold [5, 7, 8, 32, 33, 34] rfl).trans (Ghost.mat (t := 8) (sz := 6) rfl)) ⟨Nat.zero_le _, fun o ho => by simp at ho⟩ ?_
  rintro ⟨i, ver⟩ ⟨i1, i2⟩
  dsimp only at i1 i2 ⊢
  have hrl : (row (O.take i)).length = i := by rw [rowLen, List.length_take]; omega
  rcases Nat.lt_or_ge i O.length with hi | hi
  · obtain ⟨x, hx⟩ := at_lt hi
    have h14 := f14_ok (k : Int) x (hOb x (List.mem_of_getElem? hx))
    refine exec_ok tab_ok mixed 1000 (bx := [false]) (own := []) ?_
    by_cases hok : okOp k x
    · repeat' ((conv => whnf); first
        | refine Exists.intro _ (And.intro (map_at (by omega) hx) ?_) | refine And.intro (by decide) ?_ | refine And.intro rfl ?_ | refine And.intro (by omega) ?_ | refine And.intro (by simp only [List.length_map, List.length_append, List.length_cons, List.length_nil]; omega) ?_ | refine And.intro (okRows_one rfl rfl) ?_ | refine Exists.intro _ (And.intro (⟨len_one⟩) ?_) | refine Exists.intro _ (And.intro (⟨Eq.refl (α := List D) _⟩) ?_) | refine Exists.intro _ (And.intro (w64 (by omega) (by omega)) ?_) | refine Pure.call (h14) ?_ | refine boolF_not ?_ | refine boolF_dect (by assumption) ?_
        | refine boolF_dect (by omega) ?_)
      all_goals (conv => whnf)
      refine ⟨(i + 1, ver + 1), Ghost.back [5, 7, 8, 32, 33, 34] 1 rfl ?_ (Nat.zero_le _) (by simp [scs, D.sc, scd37, c23, d3]) (fun ob ho => by
        rw [List.mem_singleton.mp ho]; exact scr42 _ _), ⟨hi, fun o ho => ?_⟩, by dsimp only; omega⟩
      · rw [row_snoc hx, List.map_append]; rfl
      · rw [take_snoc hx] at ho
        rcases List.mem_append.mp ho with ho | ho
        · exact i2 o ho
        · rw [List.mem_singleton.mp ho]; exact hok
    · repeat' ((conv => whnf); first
        | refine Exists.intro _ (And.intro (map_at (by omega) hx) ?_) | refine And.intro (by decide) ?_ | refine And.intro rfl ?_ | refine And.intro (by omega) ?_ | refine Pure.call (h14) ?_ | refine Pure.call (f13_ok) ?_ | refine boolF_not ?_ | refine boolF_decf (by assumption) ?_ | refine boolF_dect (by omega) ?_)
      all_goals (conv => whnf)
      exact ⟨rfl⟩
  · rw [List.take_of_length_le hi] at i2 hrl ⊢
    have hil : i = O.length := by omega
    have hrl2 : (row O).length = O.length := by rw [hrl]; exact hil
    refine W_ghost (s' := (D.undef :: D.undef :: D.undef :: D.undef :: D.undef :: .pe (c23 s) :: D.undef :: .int .i64 (k : Int) :: d24 (row O) :: D.undef :: D.undef :: D.undef :: D.undef :: D.undef :: D.undef :: D.undef :: D.undef :: D.undef :: D.undef :: D.undef :: D.undef :: D.undef :: D.undef :: D.undef :: D.undef :: D.undef :: D.undef :: D.undef :: D.undef :: D.undef :: D.undef :: D.undef :: D.undef :: .int .i64 (O.length : Int) :: .int .i64 (i : Int) :: D.undef :: D.undef :: D.undef :: D.undef :: D.undef :: D.undef :: D.undef :: D.undef :: D.undef :: D.undef :: D.undef :: D.undef :: D.undef :: D.undef :: D.undef :: D.undef :: D.undef :: D.undef :: D.undef :: D.undef :: D.undef :: D.undef :: D.undef :: D.undef :: D.undef :: D.undef :: D.undef :: D.undef :: D.undef :: D.undef :: D.undef :: D.undef :: D.undef :: D.undef :: D.undef :: D.undef :: D.undef :: D.undef :: D.undef :: D.undef :: D.undef :: D.undef :: D.undef :: D.undef :: D.undef :: D.undef :: D.undef :: D.undef :: D.undef :: D.undef :: D.undef :: D.undef :: D.undef :: D.undef :: D.undef :: D.undef :: D.undef :: D.undef :: D.undef :: D.undef :: D.undef :: D.undef :: D.undef :: D.undef :: D.undef :: D.undef :: D.undef :: D.undef :: D.undef :: D.undef :: D.undef :: D.undef :: D.undef :: D.undef :: D.undef :: D.undef :: D.undef :: D.undef :: D.undef :: D.undef :: D.undef :: D.undef :: D.undef :: D.undef :: D.undef :: D.undef :: D.undef :: D.undef :: D.undef :: D.undef :: D.undef :: D.undef :: D.undef :: D.undef :: D.undef :: D.undef :: D.undef :: D.undef :: D.undef :: D.undef :: D.undef :: D.undef :: D.undef :: D.undef :: D.undef :: D.undef :: D.undef :: D.undef :: D.undef :: D.undef :: D.undef :: D.undef :: D.undef :: D.undef :: D.undef :: D.undef :: D.undef :: D.undef :: D.undef :: D.undef :: D.undef :: D.undef :: D.undef :: D.undef :: D.undef :: D.undef :: D.undef :: D.undef :: D.undef :: D.undef :: D.undef :: D.undef :: D.undef :: [])) (H' := []) (((Ghost.frzAt (o := 0) (t := 8) (xs := (row O).map r42) (Nat.zero_le _) rfl rfl (all_take hrl.symm))).trans (Ghost.back [5, 7, 8, 33, 34] 0 rfl rfl (Nat.zero_le _) (by simp [scs, D.sc, scd24, c23, d3]) (fun _ h => by cases h))) ?_
    refine exec_ok tab_ok mixed 1000 (bx := []) (own := []) ?_
    repeat' ((conv => whnf); first
      | refine Exists.intro _ (And.intro (⟨(List.length_map _).symm⟩) ?_) | refine boolF_decf (by omega) ?_)
    all_goals (conv => whnf)
    have hbl := bk_len O
    refine W_loopG (ι := Nat × Nat) (fun e => ⟨(D.undef :: D.undef :: D.undef :: D.undef :: D.undef :: .pe (c23 s) :: D.undef :: .int .i64 (k : Int) :: d24 (row O) :: D.undef :: D.undef :: .h 0 e.2 0 e.1 :: D.undef :: D.undef :: D.undef :: D.undef :: D.undef :: D.undef :: D.undef :: D.undef :: D.undef :: D.undef :: D.undef :: D.undef :: D.undef :: D.undef :: D.undef :: D.undef :: D.undef :: D.undef :: D.undef :: D.undef :: D.undef :: D.undef :: D.undef :: D.undef :: D.undef :: D.undef :: D.undef :: D.undef :: D.undef :: D.undef :: D.undef :: D.undef :: D.undef :: D.undef :: D.undef :: D.undef :: D.undef :: D.undef :: D.undef :: D.undef :: D.undef :: D.undef :: D.undef :: d24 (row O) :: .int .i64 ((row O).length : Int) :: .int .i64 (e.1 : Int) :: D.undef :: D.undef :: D.undef :: D.undef :: D.undef :: D.undef :: D.undef :: D.undef :: D.undef :: D.undef :: D.undef :: D.undef :: D.undef :: D.undef :: D.undef :: D.undef :: D.undef :: D.undef :: D.undef :: D.undef :: D.undef :: D.undef :: D.undef :: D.undef :: D.undef :: D.undef :: D.undef :: D.undef :: D.undef :: D.undef :: D.undef :: D.undef :: D.undef :: D.undef :: D.undef :: D.undef :: D.undef :: D.undef :: D.undef :: D.undef :: D.undef :: D.undef :: D.undef :: D.undef :: D.undef :: D.undef :: D.undef :: D.undef :: D.undef :: D.undef :: D.undef :: D.undef :: D.undef :: D.undef :: D.undef :: D.undef :: D.undef :: D.undef :: D.undef :: D.undef :: D.undef :: D.undef :: D.undef :: D.undef :: D.undef :: D.undef :: D.undef :: D.undef :: D.undef :: D.undef :: D.undef :: D.undef :: D.undef :: D.undef :: D.undef :: D.undef :: D.undef :: D.undef :: D.undef :: D.undef :: D.undef :: D.undef :: D.undef :: D.undef :: D.undef :: D.undef :: D.undef :: D.undef :: D.undef :: D.undef :: D.undef :: D.undef :: D.undef :: D.undef :: D.undef :: D.undef :: D.undef :: D.undef :: D.undef :: D.undef :: D.undef :: D.undef :: D.undef :: D.undef :: D.undef :: D.undef :: D.undef :: D.undef :: D.undef :: D.undef :: []), [.arr e.2 6 (((bk O).take e.1).map r42)]⟩) (fun e => O.length - e.1)
      (fun e => e.1 ≤ O.length) (0, 0) ((Ghost.hold [5, 7, 8, 11, 55, 56, 57] rfl).trans (Ghost.mat (t := 11) (sz := 6) rfl)) (Nat.zero_le _) ?_
    rintro ⟨j, ver2⟩ j1
    dsimp only at j1 ⊢
    have hbtl : ((bk O).take j).length = j := by rw [List.length_take, hbl]; omega
    rcases Nat.lt_or_ge j O.length with hj | hj
    · obtain ⟨y, hy⟩ := at_lt (l := bk O) (i := j) (by omega)
      have hy2 : (row O)[O.length - 1 - j]? = some y := by
        rw [bk, List.getElem?_reverse (by rw [rowLen]; exact hj), rowLen] at hy; exact hy
      refine exec_ok tab_ok mixed 1000 (bx := [false]) (own := []) ?_
      repeat' ((conv => whnf); first
        | refine Exists.intro _ (And.intro (map_at (by omega) hy2) ?_) | refine And.intro (by decide) ?_ | refine And.intro rfl ?_ | refine And.intro (by omega) ?_ | refine And.intro (by simp only [List.length_map, List.length_append, List.length_cons, List.length_nil]; omega) ?_ | refine And.intro (okRows_one rfl rfl) ?_ | refine Exists.intro _ (And.intro (⟨(List.length_map _).symm⟩) ?_) | refine Exists.intro _ (And.intro (⟨len_one⟩) ?_) | refine Exists.intro _ (And.intro (⟨map_snoc⟩) ?_) | refine Exists.intro _ (And.intro (w64 (by omega) (by omega)) ?_) | refine boolF_dect (by omega) ?_)
      all_goals (conv => whnf)
      refine ⟨(j + 1, ver2 + 1), Ghost.hold [5, 7, 8, 11, 55, 56, 57] ?_, hj, by dsimp only; omega⟩
      dsimp only
      rw [take_snoc hy]
      rfl
    · rw [List.take_of_length_le (by omega)] at hbtl ⊢
      refine W_ghost (s' := (D.undef :: D.undef :: D.undef :: D.undef :: D.undef :: .pe (c23 s) :: D.undef :: .int .i64 (k : Int) :: d24 (row O) :: D.undef :: D.undef :: d24 (bk O) :: D.undef :: D.undef :: D.undef :: D.undef :: D.undef :: D.undef :: D.undef :: D.undef :: D.undef :: D.undef :: D.undef :: D.undef :: D.undef :: D.undef :: D.undef :: D.undef :: D.undef :: D.undef :: D.undef :: D.undef :: D.undef :: D.undef :: D.undef :: D.undef :: D.undef :: D.undef :: D.undef :: D.undef :: D.undef :: D.undef :: D.undef :: D.undef :: D.undef :: D.undef :: D.undef :: D.undef :: D.undef :: D.undef :: D.undef :: D.undef :: D.undef :: D.undef :: D.undef :: D.undef :: .int .i64 ((row O).length : Int) :: .int .i64 (j : Int) :: D.undef :: D.undef :: D.undef :: D.undef :: D.undef :: D.undef :: D.undef :: D.undef :: D.undef :: D.undef :: D.undef :: D.undef :: D.undef :: D.undef :: D.undef :: D.undef :: D.undef :: D.undef :: D.undef :: D.undef :: D.undef :: D.undef :: D.undef :: D.undef :: D.undef :: D.undef :: D.undef :: D.undef :: D.undef :: D.undef :: D.undef :: D.undef :: D.undef :: D.undef :: D.undef :: D.undef :: D.undef :: D.undef :: D.undef :: D.undef :: D.undef :: D.undef :: D.undef :: D.undef :: D.undef :: D.undef :: D.undef :: D.undef :: D.undef :: D.undef :: D.undef :: D.undef :: D.undef :: D.undef :: D.undef :: D.undef :: D.undef :: D.undef :: D.undef :: D.undef :: D.undef :: D.undef :: D.undef :: D.undef :: D.undef :: D.undef :: D.undef :: D.undef :: D.undef :: D.undef :: D.undef :: D.undef :: D.undef :: D.undef :: D.undef :: D.undef :: D.undef :: D.undef :: D.undef :: D.undef :: D.undef :: D.undef :: D.undef :: D.undef :: D.undef :: D.undef :: D.undef :: D.undef :: D.undef :: D.undef :: D.undef :: D.undef :: D.undef :: D.undef :: D.undef :: D.undef :: D.undef :: D.undef :: D.undef :: D.undef :: D.undef :: D.undef :: D.undef :: D.undef :: D.undef :: D.undef :: D.undef :: D.undef :: D.undef :: D.undef :: [])) (H' := []) (((Ghost.frzAt (o := 0) (t := 11) (xs := (bk O).map r42) (Nat.zero_le _) rfl rfl (all_take hbtl.symm))).trans (Ghost.back [5, 7, 8, 11, 56, 57] 0 rfl rfl (Nat.zero_le _) (by simp [scs, D.sc, scd24, c23, d3]) (fun _ h => by cases h))) ?_
      refine exec_ok tab_ok mixed 1000 (bx := []) (own := []) ?_
      repeat' ((conv => whnf); first
        | refine And.intro (show ((8 : Nat) : Int) * (k : Int) ≤ 281474976710656 by omega) ?_ | refine And.intro rfl ?_ | refine And.intro (by omega) ?_ | refine boolF_decf (by omega) ?_)
      all_goals (conv => whnf)
      have hz : List.replicate k (D.int .u64 0) = (zer k).map r53 := by rw [zer, List.map_replicate]; rfl
      refine W_ghost (s' := (D.undef :: D.undef :: D.undef :: D.undef :: D.undef :: .pe (c23 s) :: D.undef :: .int .i64 (k : Int) :: d24 (row O) :: D.undef :: D.undef :: d24 (bk O) :: D.undef :: d34 (zer k) :: .int .i64 0 :: D.undef :: D.undef :: D.undef :: D.undef :: D.undef :: D.undef :: D.undef :: D.undef :: D.undef :: D.undef :: D.undef :: D.undef :: D.undef :: D.undef :: D.undef :: D.undef :: D.undef :: D.undef :: D.undef :: D.undef :: D.undef :: D.undef :: D.undef :: D.undef :: D.undef :: D.undef :: D.undef :: D.undef :: D.undef :: D.undef :: D.undef :: D.undef :: D.undef :: D.undef :: D.undef :: D.undef :: D.undef :: D.undef :: D.undef :: D.undef :: D.undef :: D.undef :: D.undef :: D.undef :: D.undef :: D.undef :: D.undef :: D.undef :: D.undef :: D.undef :: D.undef :: D.undef :: D.undef :: D.undef :: D.undef :: D.undef :: D.undef :: D.undef :: D.undef :: D.undef :: D.undef :: D.undef :: D.undef :: D.undef :: D.undef :: D.undef :: D.undef :: D.undef :: D.undef :: D.undef :: D.undef :: D.undef :: D.undef :: D.undef :: D.undef :: D.undef :: D.undef :: D.undef :: D.undef :: D.undef :: D.undef :: D.undef :: D.undef :: D.undef :: D.undef :: D.undef :: D.undef :: D.undef :: D.undef :: D.undef :: D.undef :: D.undef :: D.undef :: D.undef :: D.undef :: D.undef :: D.undef :: D.undef :: D.undef :: D.undef :: D.undef :: D.undef :: D.undef :: D.undef :: D.undef :: D.undef :: D.undef :: D.undef :: D.undef :: D.undef :: D.undef :: D.undef :: D.undef :: D.undef :: D.undef :: D.undef :: D.undef :: D.undef :: D.undef :: D.undef :: D.undef :: D.undef :: D.undef :: D.undef :: D.undef :: D.undef :: D.undef :: D.undef :: D.undef :: D.undef :: D.undef :: D.undef :: D.undef :: D.undef :: D.undef :: D.undef :: D.undef :: D.undef :: D.undef :: D.undef :: D.undef :: D.undef :: D.undef :: D.undef :: D.undef :: D.undef :: D.undef :: D.undef :: D.undef :: D.undef :: D.undef :: D.undef :: D.undef :: [])) (H' := []) (((Ghost.frzAt (o := 0) (t := 13) (xs := (zer k).map r53) (Nat.zero_le _) rfl rfl (by simp [zer]; exact .inr rfl))).trans (Ghost.back [5, 7, 8, 11, 13, 14] 0 rfl rfl (Nat.zero_le _) (by simp [scs, D.sc, scd24, scd34, c23, d3]) (fun _ h => by cases h))) ?_
      have hall : allOk k O := i2
      have hall2 := bk_all hall
      have hr : rightC (k : Int) (bk O) = 0 := by rw [rightC, if_neg (by omega), if_pos hall2]
      have hbb : bigH (bk O) := fun d hd => by
        obtain ⟨p, hp⟩ := List.getElem?_of_mem hd
        obtain ⟨_, o, ho, rfl⟩ := bk_at hp
        exact hOb o (List.mem_of_getElem? ho)
      have h10 := f10_ok (bk O) (by omega)
      refine W_loopG (ι := Nat) (fun e => ⟨(D.undef :: D.undef :: D.undef :: D.undef :: D.undef :: .pe (c23 s) :: D.undef :: .int .i64 (k : Int) :: d24 (row O) :: D.undef :: D.undef :: d24 (bk O) :: D.undef :: d34 (vR k O e) :: .int .i64 (e : Int) :: D.undef :: D.undef :: D.undef :: D.undef :: D.undef :: D.undef :: D.undef :: D.undef :: D.undef :: D.undef :: D.undef :: D.undef :: D.undef :: D.undef :: D.undef :: D.undef :: D.undef :: D.undef :: D.undef :: D.undef :: D.undef :: D.undef :: D.undef :: D.undef :: D.undef :: D.undef :: D.undef :: D.undef :: D.undef :: D.undef :: D.undef :: D.undef :: D.undef :: D.undef :: D.undef :: D.undef :: D.undef :: D.undef :: D.undef :: D.undef :: D.undef :: D.undef :: D.undef :: D.undef :: D.undef :: D.undef :: D.undef :: D.undef :: D.undef :: D.undef :: D.undef :: D.undef :: D.undef :: D.undef :: D.undef :: D.undef :: D.undef :: D.undef :: D.undef :: D.undef :: D.undef :: D.undef :: D.undef :: D.undef :: D.undef :: D.undef :: D.undef :: D.undef :: D.undef :: D.undef :: D.undef :: D.undef :: D.undef :: D.undef :: D.undef :: D.undef :: D.undef :: D.undef :: D.undef :: D.undef :: D.undef :: D.undef :: D.undef :: D.undef :: D.undef :: D.undef :: D.undef :: D.undef :: D.undef :: D.undef :: D.undef :: D.undef :: D.undef :: D.undef :: D.undef :: D.undef :: D.undef :: D.undef :: D.undef :: D.undef :: D.undef :: D.undef :: D.undef :: D.undef :: D.undef :: D.undef :: D.undef :: D.undef :: D.undef :: D.undef :: D.undef :: D.undef :: D.undef :: D.undef :: D.undef :: D.undef :: D.undef :: D.undef :: D.undef :: D.undef :: D.undef :: D.undef :: D.undef :: D.undef :: D.undef :: D.undef :: D.undef :: D.undef :: D.undef :: D.undef :: D.undef :: D.undef :: D.undef :: D.undef :: D.undef :: D.undef :: D.undef :: D.undef :: D.undef :: D.undef :: D.undef :: D.undef :: D.undef :: D.undef :: D.undef :: D.undef :: D.undef :: D.undef :: D.undef :: D.undef :: D.undef :: D.undef :: D.undef :: []), []⟩) (fun e => O.length + 1 - e) (fun e => e ≤ O.length) 0 (Ghost.hold [5, 7, 8, 11, 13, 14] rfl) (Nat.zero_le _) ?_
      rintro e e1
      have hvl : (vR k O e).length = k := (row_ord e1).len hall2
      have h15 := f15_ok (vR k O e) s.from_ s.to_ (bk O) (by omega) (by omega) hbb
      rw [isD, isM, if_neg (by omega), hvl, if_pos hr] at h15
      dsimp only at h15
      refine exec_ok tab_ok mixed 3 (bx := []) (own := []) ?_
      (conv => whnf)
      refine W_midG (ι := Bool) (fun b => ⟨(D.undef :: D.undef :: D.undef :: D.undef :: D.undef :: .pe (c23 s) :: D.undef :: .int .i64 (k : Int) :: d24 (row O) :: D.undef :: D.undef :: d24 (bk O) :: D.undef :: d34 (vR k O e) :: .int .i64 (e : Int) :: .bool b :: D.undef :: D.undef :: D.undef :: D.undef :: D.undef :: D.undef :: D.undef :: D.undef :: D.undef :: D.undef :: D.undef :: D.undef :: D.undef :: D.undef :: D.undef :: D.undef :: D.undef :: D.undef :: D.undef :: D.undef :: D.undef :: D.undef :: D.undef :: D.undef :: D.undef :: D.undef :: D.undef :: D.undef :: D.undef :: D.undef :: D.undef :: D.undef :: D.undef :: D.undef :: D.undef :: D.undef :: D.undef :: D.undef :: D.undef :: D.undef :: D.undef :: D.undef :: D.undef :: D.undef :: D.undef :: D.undef :: D.undef :: D.undef :: D.undef :: D.undef :: D.undef :: D.undef :: D.undef :: D.undef :: D.undef :: D.undef :: D.undef :: D.undef :: D.undef :: D.undef :: D.undef :: D.undef :: D.undef :: D.undef :: D.undef :: D.undef :: D.undef :: D.undef :: D.undef :: D.undef :: D.undef :: D.undef :: D.undef :: D.undef :: D.undef :: D.undef :: D.undef :: D.undef :: D.undef :: D.undef :: D.undef :: D.undef :: D.undef :: D.undef :: D.undef :: D.undef :: D.undef :: D.undef :: D.undef :: D.undef :: D.undef :: D.undef :: D.undef :: D.undef :: D.undef :: D.undef :: D.undef :: D.undef :: D.undef :: D.undef :: D.undef :: D.undef :: D.undef :: D.undef :: D.undef :: D.undef :: D.undef :: D.undef :: D.undef :: D.undef :: D.undef :: D.undef :: D.undef :: D.undef :: D.undef :: D.undef :: D.undef :: D.undef :: D.undef :: D.undef :: D.undef :: D.undef :: D.undef :: D.undef :: D.undef :: D.undef :: D.undef :: D.undef :: D.undef :: D.undef :: D.undef :: D.undef :: D.undef :: D.undef :: D.undef :: D.undef :: D.undef :: D.undef :: D.undef :: D.undef :: D.undef :: D.undef :: D.undef :: D.undef :: D.undef :: D.undef :: D.undef :: D.undef :: D.undef :: D.undef :: D.undef :: D.undef :: []), []⟩) (fun b => b = true ↔ (e < O.length → s.from_ ≤ 10 * (e : Int) + 5)) ?_ ?_
      · refine exec_ok tab_ok mixed 1000 (bx := []) (own := []) ?_
        rcases Nat.lt_or_ge e O.length with he | he
        · obtain ⟨o, ho⟩ := at_lt he
          have hre : (row O)[e]? = some (mkD e o) := by rw [row_get, ho]; rfl
          repeat' ((conv => whnf); first
            | refine PairK.mk (by kernel_rfl) ?_ | refine Exists.intro _ (And.intro (map_at (by omega) hre) ?_) | refine And.intro rfl ?_ | refine And.intro (by omega) ?_ | refine Exists.intro _ (And.intro (⟨(List.length_map _).symm⟩) ?_) | refine boolF_decf (by omega) ?_)
          all_goals (conv => whnf)
          exact ⟨decide (s.from_ ≤ (mkD e o).end_), Ghost.hold [5, 7, 8, 11, 13, 14, 15] rfl, ⟨fun h _ => of_decide_eq_true h, fun h => decide_eq_true (h he)⟩⟩
        · repeat' ((conv => whnf); first
            | refine PairK.mk (by kernel_rfl) ?_ | refine Exists.intro _ (And.intro (⟨(List.length_map _).symm⟩) ?_) | refine boolF_dect (by omega) ?_)
          all_goals (conv => whnf)
          exact ⟨true, Ghost.hold [5, 7, 8, 11, 13, 14, 15] rfl, ⟨fun _ h => by omega, fun _ => rfl⟩⟩
      · intro b1 hb1
        refine exec_ok tab_ok mixed 1 (bx := []) (own := []) ?_
        (conv => whnf)
        refine W_midG (ι := Bool) (fun b => ⟨(D.undef :: D.undef :: D.undef :: D.undef :: D.undef :: .pe (c23 s) :: D.undef :: .int .i64 (k : Int) :: d24 (row O) :: D.undef :: D.undef :: d24 (bk O) :: D.undef :: d34 (vR k O e) :: .int .i64 (e : Int) :: .bool b1 :: .bool b :: D.undef :: D.undef :: D.undef :: D.undef :: D.undef :: D.undef :: D.undef :: D.undef :: D.undef :: D.undef :: D.undef :: D.undef :: D.undef :: D.undef :: D.undef :: D.undef :: D.undef :: D.undef :: D.undef :: D.undef :: D.undef :: D.undef :: D.undef :: D.undef :: D.undef :: D.undef :: D.undef :: D.undef :: D.undef :: D.undef :: D.undef :: D.undef :: D.undef :: D.undef :: D.undef :: D.undef :: D.undef :: D.undef :: D.undef :: D.undef :: D.undef :: D.undef :: D.undef :: D.undef :: D.undef :: D.undef :: D.undef :: D.undef :: D.undef :: D.undef :: D.undef :: D.undef :: D.undef :: D.undef :: D.undef :: D.undef :: D.undef :: D.undef :: D.undef :: D.undef :: D.undef :: D.undef :: D.undef :: D.undef :: D.undef :: D.undef :: D.undef :: D.undef :: D.undef :: D.undef :: D.undef :: D.undef :: D.undef :: D.undef :: D.undef :: D.undef :: D.undef :: D.undef :: D.undef :: D.undef :: D.undef :: D.undef :: D.undef :: D.undef :: D.undef :: D.undef :: D.undef :: D.undef :: D.undef :: D.undef :: D.undef :: D.undef :: D.undef :: D.undef :: D.undef :: D.undef :: D.undef :: D.undef :: D.undef :: D.undef :: D.undef :: D.undef :: D.undef :: D.undef :: D.undef :: D.undef :: D.undef :: D.undef :: D.undef :: D.undef :: D.undef :: D.undef :: D.undef :: D.undef :: D.undef :: D.undef :: D.undef :: D.undef :: D.undef :: D.undef :: D.undef :: D.undef :: D.undef :: D.undef :: D.undef :: D.undef :: D.undef :: D.undef :: D.undef :: D.undef :: D.undef :: D.undef :: D.undef :: D.undef :: D.undef :: D.undef :: D.undef :: D.undef :: D.undef :: D.undef :: D.undef :: D.undef :: D.undef :: D.undef :: D.undef :: D.undef :: D.undef :: D.undef :: D.undef :: D.undef :: D.undef :: []), []⟩) (fun b => b = true ↔ (0 < e → 10 * ((e : Int) - 1) ≤ s.to_)) ?_ ?_
        · refine exec_ok tab_ok mixed 1000 (bx := []) (own := []) ?_
          rcases Nat.eq_zero_or_pos e with he | he
          · repeat' ((conv => whnf); first
              | refine PairK.mk (by kernel_rfl) ?_ | refine boolF_dect (by omega) ?_)
            all_goals (conv => whnf)
            exact ⟨true, Ghost.hold [5, 7, 8, 11, 13, 14, 15, 16] rfl, ⟨fun _ h => by omega, fun _ => rfl⟩⟩
          · obtain ⟨o, ho⟩ := at_lt (l := O) (i := e - 1) (by omega)
            have hre : (row O)[e - 1]? = some (mkD (e - 1) o) := by rw [row_get, ho]; rfl
            repeat' ((conv => whnf); first
              | refine PairK.mk (by kernel_rfl) ?_ | refine Exists.intro _ (And.intro (map_at (by omega) hre) ?_) | refine And.intro rfl ?_ | refine And.intro (by omega) ?_ | refine Exists.intro _ (And.intro (w64 (by omega) (by omega)) ?_) | refine boolF_decf (by omega) ?_)
            all_goals (conv => whnf)
            exact ⟨decide ((mkD (e - 1) o).start_ ≤ s.to_), Ghost.hold [5, 7, 8, 11, 13, 14, 15, 16] rfl, by
              have : ((e - 1 : Nat) : Int) = (e : Int) - 1 := by omega
              simp [mkD, he, this]⟩
        · intro b2 hb2
          refine exec_ok tab_ok mixed 4 (bx := []) (own := []) ?_
          repeat' ((conv => whnf); first
            | refine PairK.mk (by kernel_rfl) ?_ | refine Pure.locK (h10) ?_ | refine Pure.locK (h15) ?_)
          all_goals (conv => whnf)
          refine W_midG (ι := Unit) (fun _ => ⟨(D.undef :: D.undef :: D.undef :: D.undef :: D.undef :: .pe (c23 s) :: D.undef :: .int .i64 (k : Int) :: d24 (row O) :: D.undef :: D.undef :: d24 (bk O) :: D.undef :: d34 (vR k O e) :: .int .i64 (e : Int) :: D.undef :: D.undef :: D.undef :: D.undef :: D.undef :: D.undef :: D.undef :: D.undef :: D.undef :: D.undef :: D.undef :: D.undef :: D.undef :: D.undef :: D.undef :: D.undef :: D.undef :: D.undef :: D.undef :: D.undef :: D.undef :: D.undef :: D.undef :: D.undef :: D.undef :: D.undef :: D.undef :: D.undef :: D.undef :: D.undef :: D.undef :: D.undef :: D.undef :: D.undef :: D.undef :: D.undef :: D.undef :: D.undef :: D.undef :: D.undef :: D.undef :: D.undef :: D.undef :: D.undef :: D.undef :: D.undef :: D.undef :: D.undef :: D.undef :: D.undef :: D.undef :: D.undef :: D.undef :: D.undef :: D.undef :: D.undef :: D.undef :: D.undef :: D.undef :: D.undef :: D.undef :: D.undef :: D.undef :: D.undef :: D.undef :: D.undef :: D.undef :: D.undef :: D.undef :: D.undef :: D.undef :: D.undef :: D.undef :: D.undef :: D.undef :: D.undef :: D.undef :: D.undef :: D.undef :: D.undef :: D.undef :: D.undef :: D.undef :: D.undef :: D.undef :: D.undef :: D.undef :: D.undef :: D.undef :: D.undef :: D.undef :: D.undef :: D.undef :: D.undef :: D.undef :: D.undef :: D.undef :: D.undef :: D.undef :: D.undef :: D.undef :: D.undef :: D.undef :: D.undef :: D.undef :: D.undef :: D.undef :: D.undef :: D.undef :: D.undef :: .bool false :: D.undef :: D.undef :: D.undef :: D.undef :: D.undef :: D.undef :: D.undef :: D.undef :: D.undef :: D.undef :: D.undef :: D.undef :: D.undef :: D.undef :: D.undef :: D.undef :: D.undef :: D.undef :: D.undef :: D.undef :: D.undef :: D.undef :: D.undef :: D.undef :: D.undef :: D.undef :: D.undef :: D.undef :: D.undef :: D.undef :: D.undef :: D.undef :: D.undef :: D.undef :: D.undef :: D.undef :: D.undef :: D.undef :: D.undef :: D.undef :: D.undef :: D.undef :: []), []⟩) (fun _ => True) ?_ ?_
          · refine exec_ok tab_ok mixed 1000 (bx := []) (own := []) ?_
            cases b1 with
            | false =>
              (conv => whnf)
              exact ⟨(), Ghost.hold [5, 7, 8, 11, 13, 14, 125] rfl, trivial⟩
            | true =>
              cases b2 with
              | false =>
                (conv => whnf)
                exact ⟨(), Ghost.hold [5, 7, 8, 11, 13, 14, 125] rfl, trivial⟩
              | true =>
                rw [decide_eq_true (row_cut e1 (hb1.mp rfl) (hb2.mp rfl))]
                (conv => whnf)
                exact ⟨(), Ghost.hold [5, 7, 8, 11, 13, 14, 125] rfl, trivial⟩
          · intro _ _
            refine exec_ok tab_ok mixed 1000 (bx := []) (own := []) ?_
            have h9 := f9_ok (k : Int) s.from_ s.to_ (bk O) (by omega) hbb
            rw [allR, allM, if_neg (by omega), if_pos hr, Int.toNat_natCast] at h9
            dsimp only at h9
            have hfew := row_few (k := k) (ops := O) (a := s.from_) (b := s.to_)
            have hrO : (row O).length = O.length := rowLen O
            rcases Nat.lt_or_ge e O.length with he | he
            · obtain ⟨o, ho⟩ := at_lt he
              have hre : (row O)[e]? = some (mkD e o) := by rw [row_get, ho]; rfl
              have hoo := hall o (List.mem_of_getElem? ho)
              have hok : okOp (vR k O e).length o := by rw [hvl]; exact hoo
              have h16 := f16_ok (vR k O e) [o] (by omega) (by simp) (fun o' ho' => by rw [List.mem_singleton.mp ho']; exact hOb o (List.mem_of_getElem? ho))
              have hap : applyM (vR k O e) [o] = (vR k O (e + 1), 0) := by
                rw [applyM, if_neg (by omega), if_pos (show allOk (vR k O e).length [o] from fun o' ho' => by rw [List.mem_singleton.mp ho']; exact hok), vR_snoc ho]; rfl
              rw [hap] at h16
              dsimp only at h16
              repeat' ((conv => whnf); first
                | refine Exists.intro _ (And.intro (map_at (by omega) hre) ?_) | refine And.intro rfl ?_ | refine And.intro (by omega) ?_ | refine Exists.intro _ (And.intro (⟨(List.length_map _).symm⟩) ?_) | refine Exists.intro _ (And.intro (w64 (by omega) (by omega)) ?_) | refine Pure.call (h16) ?_ | refine boolF_decf (by omega) ?_)
              all_goals (conv => whnf)
              exact ⟨e + 1, Ghost.hold [5, 7, 8, 11, 13, 14] rfl, he, by omega⟩
            · repeat' ((conv => whnf); first
                | refine PairK.mk (by kernel_rfl) ?_ | refine Exists.intro _ (And.intro (⟨(List.length_map _).symm⟩) ?_) | refine Exists.intro _ (And.intro (w64 (by omega) (by omega)) ?_) | refine Pure.locK (h10) ?_ | refine Pure.locK (h9) ?_ | refine Pure.call (f13_ok) ?_ | refine boolF_dect (by omega) ?_)
              all_goals (conv => whnf)
              exact ⟨rfl⟩

end Go.Proofs.Ytlfbchkcgchoaaa.C

