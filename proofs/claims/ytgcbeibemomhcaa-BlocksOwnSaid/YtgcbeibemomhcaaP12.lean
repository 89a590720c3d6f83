import Derived.Test.YtgcbeibemomhcaaP9
namespace Go.Proofs.Ytgcbeibemomhcaa
open Go.A
set_option linter.unusedVariables false
set_option linter.unusedSimpArgs false
set_option linter.unnecessarySimpa false
attribute [local irreducible] IntKind.wrap bitsI
set_option maxRecDepth 100000
set_option maxHeartbeats 4000000

/-- An op's row whose numbers are owned, if it has any. -/
def DRow (k : Nat) (H : List AObj) (row : D) : Prop := (∃ a b c, row = .agg [.int .i64 a, .int .i64 b, .int .i64 c, .nils]) ∨ ∃ a b c o v l, row = .agg [.int .i64 a, .int .i64 b, .int .i64 c, .h o v 0 (l : List Nat).length] ∧ k < o ∧ H[o]? = some (.arr v 1 (l.map r45)) ∧ l.length ≤ 1024
def DeepAt (k : Nat) (H : List AObj) (d : D) : Prop := ∃ ver rows, d = .h k ver 0 rows.length ∧ H[k]? = some (.arr ver 4 rows) ∧ rows.length ≤ 1024 ∧ ∀ row ∈ rows, DRow k H row
theorem DRow.snoc {k : Nat} {H : List AObj} {row : D} (h : DRow k H row) (x : AObj) : DRow k (H ++ [x]) row := by
  rcases h with h | ⟨a, b, c, o, v, l, h1, h2, h3, h4⟩
  · exact .inl h
  · exact .inr ⟨a, b, c, o, v, l, h1, h2, by rw [List.getElem?_append_left (List.getElem?_eq_some_iff.mp h3).1]; exact h3, h4⟩
theorem DeepAt.ren {k : Nat} {H0 : List AObj} {r0 : D} (h : DeepAt k H0 r0) (H : List AObj) : DeepAt (H.length + k) (H ++ H0.map (renO fun i => H.length + i)) (Go.A.ren (fun i => H.length + i) r0) := by
  obtain ⟨ver, rows, rfl, h1, hl, h2⟩ := h
  refine ⟨ver, renL (fun i => H.length + i) rows, ?_, ?_, by rw [renL_length]; exact hl, fun row hr => ?_⟩
  · simp only [Go.A.ren, renL_length]
  · rw [List.getElem?_append_right (by omega), Nat.add_sub_cancel_left, List.getElem?_map, h1]; rfl
  · rw [renL_map] at hr
    obtain ⟨y, hy, rfl⟩ := List.mem_map.mp hr
    rcases h2 y hy with ⟨a, b, c, rfl⟩ | ⟨a, b, c, o, v, l, rfl, h3, h4, h5⟩
    · exact .inl ⟨a, b, c, rfl⟩
    · refine .inr ⟨a, b, c, H.length + o, v, l, rfl, by omega, ?_, h5⟩
      rw [List.getElem?_append_right (by omega), Nat.add_sub_cancel_left, List.getElem?_map, h4]
      show some (renO _ _) = _
      rw [renO_sc0 _ (by exact scr45 _ _)]

theorem f25_deep (v : List Nat) (g : FuncId) (caps : List D) (t : Nat → Bool) (hv : v.length ≤ 1024) (hcap : scs 0 caps) (hcl : ∀ j : Nat, j < v.length → Pure Try.prog g (.int .i64 (j : Int) :: caps) (.bool (t j))) :
    CallsIn Try.prog 25 [d22 v, .fn g caps] [] fun r H => DeepAt 0 H r := by
  refine CallsIn.of_exec tab_ok mixed Try.func25 rfl rfl [] [] ?_
  (conv => whnf)
  refine W_loopG (ι := Nat × Nat × List D × List AObj) (fun i => ⟨(d22 v :: .fn g caps :: D.undef :: D.undef :: D.undef :: .h 0 i.2.1 0 i.2.2.1.length :: .int .i64 (i.1:Int) :: D.undef :: D.undef :: D.undef :: D.undef :: D.undef :: D.undef :: D.undef :: D.undef :: D.undef :: D.undef :: D.undef :: D.undef :: D.undef :: D.undef :: D.undef :: D.undef :: D.undef :: D.undef :: D.undef :: D.undef :: D.undef :: D.undef :: D.undef :: D.undef :: D.undef :: D.undef :: D.undef :: D.undef :: D.undef :: D.undef :: D.undef :: D.undef :: D.undef :: D.undef :: D.undef :: D.undef :: D.undef :: D.undef :: D.undef :: D.undef :: D.undef :: D.undef :: D.undef :: D.undef :: D.undef :: D.undef :: D.undef :: D.undef :: D.undef :: D.undef :: D.undef :: D.undef :: D.undef :: D.undef :: D.undef :: D.undef :: D.undef :: D.undef :: D.undef :: D.undef :: D.undef :: D.undef :: D.undef :: D.undef :: D.undef :: D.undef :: D.undef :: D.undef :: D.undef :: D.undef :: D.undef :: []), .arr i.2.1 4 i.2.2.1 :: i.2.2.2⟩) (fun i => v.length - i.1)
    (fun i => i.1 ≤ v.length ∧ i.2.2.1.length ≤ i.1 ∧ ∀ row ∈ i.2.2.1, DRow 0 (.arr i.2.1 4 i.2.2.1 :: i.2.2.2) row) (0, 0, [], []) ((Ghost.hold [0, 1, 5, 6] rfl).trans (Ghost.mat (t := 5) (sz := 4) rfl)) ⟨Nat.zero_le _, Nat.zero_le _, fun row h => by cases h⟩ ?_
  rintro ⟨i, ver, rows, objs⟩ ⟨h1, h2, h3⟩
  dsimp only at h1 h2 h3 ⊢
  have hup : ∀ ver' rows' objs', (∀ o ob, objs[o]? = some ob → objs'[o]? = some ob) → ∀ row, DRow 0 (.arr ver 4 rows :: objs) row → DRow 0 (.arr ver' 4 rows' :: objs') row := fun ver' rows' objs' hh row hr => by
    rcases hr with h | ⟨a, b, c, o, v, l, q1, q2, q3, q4⟩
    · exact .inl h
    · refine .inr ⟨a, b, c, o, v, l, q1, q2, ?_, q4⟩
      cases o with
      | zero => omega
      | succ o => exact hh o _ (by simpa using q3)
  rcases Nat.lt_or_ge i v.length with h | h
  · have hcl1 := hcl i h
    cases hti : t i with
    | false =>
      rw [hti] at hcl1
      refine exec_ok tab_ok mixed 1000 (bx := [false]) (own := []) ?_
      repeat' ((conv => whnf); first
        | refine listK_iff.mpr ?_ | refine Pure.call hcl1 ?_ | refine Exists.intro _ (And.intro (⟨(List.length_map _).symm⟩) ?_) | refine Exists.intro _ (And.intro (w64 (by omega) (by omega)) ?_) | refine boolF_dect (by omega) ?_)
      all_goals (conv => whnf)
      exact ⟨(i + 1, ver, rows, objs), Ghost.hold [0, 1, 5, 6] rfl, ⟨h, by dsimp only; omega, h3⟩, by dsimp only; omega⟩
    | true =>
      rw [hti] at hcl1
      obtain ⟨y, hy⟩ := at_lt h
      refine exec_ok tab_ok mixed 14 (bx := [false]) (own := []) ?_
      repeat' ((conv => whnf); first
        | refine listK_iff.mpr ?_ | refine Pure.call hcl1 ?_ | refine Exists.intro _ (And.intro (⟨(List.length_map _).symm⟩) ?_) | refine Exists.intro _ (And.intro (w64 (by omega) (by omega)) ?_) | refine boolF_dect (by omega) ?_)
      all_goals (conv => whnf)
      clear hcl1
      refine W_midG (ι := Nat) (fun k => ⟨(d22 v :: .fn g caps :: D.undef :: D.undef :: D.undef :: .h 0 ver 0 rows.length :: .int .i64 (i:Int) :: .int .i64 (k : Int) :: D.undef :: D.undef :: D.undef :: D.undef :: D.undef :: D.undef :: D.undef :: D.undef :: D.undef :: D.undef :: D.undef :: D.undef :: D.undef :: D.undef :: D.undef :: D.undef :: D.undef :: D.undef :: D.undef :: D.undef :: D.undef :: D.undef :: D.undef :: D.undef :: D.undef :: D.undef :: D.undef :: D.undef :: D.undef :: D.undef :: D.undef :: D.undef :: D.undef :: D.undef :: D.undef :: D.undef :: D.undef :: D.undef :: D.undef :: D.undef :: D.undef :: D.undef :: D.undef :: D.undef :: D.undef :: D.undef :: D.undef :: D.undef :: D.undef :: D.undef :: D.undef :: D.undef :: D.undef :: D.undef :: D.undef :: D.undef :: D.undef :: D.undef :: D.undef :: D.undef :: D.undef :: D.undef :: D.undef :: D.undef :: D.undef :: D.undef :: D.undef :: D.undef :: D.undef :: D.undef :: []), .arr ver 4 rows :: objs⟩)
        (fun k => i < k ∧ k ≤ v.length) ?_ ?_
      · refine exec_ok tab_ok mixed 1000 (bx := [false]) (own := []) ?_
        (conv => whnf)
        refine W_loopG (ι := Nat) (fun k => ⟨(d22 v :: .fn g caps :: D.undef :: D.undef :: D.undef :: .h 0 ver 0 rows.length :: .int .i64 (i:Int) :: .int .i64 (k : Int) :: D.undef :: D.undef :: D.undef :: D.undef :: D.undef :: D.undef :: D.undef :: D.undef :: D.undef :: D.undef :: D.undef :: D.undef :: D.undef :: D.undef :: D.undef :: D.undef :: D.undef :: D.undef :: D.undef :: D.undef :: D.undef :: D.undef :: D.undef :: D.undef :: D.undef :: D.undef :: D.undef :: D.undef :: D.undef :: D.undef :: D.undef :: D.undef :: D.undef :: D.undef :: D.undef :: D.undef :: D.undef :: D.undef :: D.undef :: D.undef :: D.undef :: D.undef :: D.undef :: D.undef :: D.undef :: D.undef :: D.undef :: D.undef :: D.undef :: D.undef :: D.undef :: D.undef :: D.undef :: D.undef :: D.undef :: D.undef :: D.undef :: D.undef :: D.undef :: D.undef :: D.undef :: D.undef :: D.undef :: D.undef :: D.undef :: D.undef :: D.undef :: D.undef :: D.undef :: D.undef :: []), .arr ver 4 rows :: objs⟩) (fun k => v.length - k)
          (fun k => i < k ∧ k ≤ v.length) (i + 1) (Ghost.hold [0, 1, 5, 6, 7] rfl) ⟨Nat.lt_succ_self i, h⟩ ?_
        rintro k ⟨k1, k2⟩
        refine exec_ok tab_ok mixed 1000 (bx := [false]) (own := []) ?_
        rcases Nat.lt_or_ge k v.length with g | g
        · have hcl1 := hcl k g
          obtain ⟨x, hx⟩ := at_lt g
          cases htk : t k with
          | false =>
            rw [htk] at hcl1
            repeat' ((conv => whnf); first
              | refine PairK.mk (by kernel_rfl) ?_ | refine listK_iff.mpr ?_ | refine Pure.locK hcl1 ?_ | refine Exists.intro _ (And.intro (⟨(List.length_map _).symm⟩) ?_) | refine boolF_dect (by omega) ?_)
            all_goals (conv => whnf)
            exact ⟨k, Ghost.hold [0, 1, 5, 6, 7] rfl, k1, k2⟩
          | true =>
            rw [htk] at hcl1
            cases hsm : ((x == 0) == (y == 0)) with
            | true =>
              repeat' ((conv => whnf); first
                | refine PairK.mk (by kernel_rfl) ?_ | refine listK_iff.mpr ?_ | refine Pure.locK hcl1 ?_ | refine Exists.intro _ (And.intro (map_at (by omega) hx) ?_) | refine Exists.intro _ (And.intro (map_at (by omega) hy) ?_) | refine And.intro rfl ?_ | refine And.intro (by omega) ?_ | refine Exists.intro _ (And.intro (⟨(List.length_map _).symm⟩) ?_) | refine Exists.intro _ (And.intro (w64 (by omega) (by omega)) ?_) | refine boolF_dect (by omega) ?_ | refine boolF_t (by assumption) ?_)
              all_goals (conv => whnf)
              exact ⟨k + 1, Ghost.hold [0, 1, 5, 6, 7] rfl, ⟨by omega, g⟩, by omega⟩
            | false =>
              repeat' ((conv => whnf); first
                | refine PairK.mk (by kernel_rfl) ?_ | refine listK_iff.mpr ?_ | refine Pure.locK hcl1 ?_ | refine Exists.intro _ (And.intro (map_at (by omega) hx) ?_) | refine Exists.intro _ (And.intro (map_at (by omega) hy) ?_) | refine And.intro rfl ?_ | refine And.intro (by omega) ?_ | refine Exists.intro _ (And.intro (⟨(List.length_map _).symm⟩) ?_) | refine boolF_dect (by omega) ?_ | refine boolF_f (by assumption) ?_)
              all_goals (conv => whnf)
              exact ⟨k, Ghost.hold [0, 1, 5, 6, 7] rfl, k1, k2⟩
        · repeat' ((conv => whnf); first
            | refine PairK.mk (by kernel_rfl) ?_ | refine Exists.intro _ (And.intro (⟨(List.length_map _).symm⟩) ?_) | refine boolF_decf (by omega) ?_)
          all_goals (conv => whnf)
          exact ⟨k, Ghost.hold [0, 1, 5, 6, 7] rfl, k1, k2⟩
      rintro k ⟨k1, k2⟩
      refine exec_ok tab_ok mixed 1000 (bx := [false]) (own := []) ?_
      by_cases hz : y = 0
      · repeat' ((conv => whnf); first
          | refine Exists.intro _ (And.intro (map_at (by omega) hy) ?_) | refine And.intro (by decide) ?_ | refine And.intro rfl ?_ | refine And.intro (by omega) ?_ | refine And.intro (okRows_one rfl rfl) ?_ | refine Exists.intro _ (And.intro (⟨len_one⟩) ?_) | refine Exists.intro _ (And.intro (⟨Eq.refl (α := List D) _⟩) ?_) | refine Exists.intro _ (And.intro (w64 (by omega) (by omega)) ?_) | refine boolF_dect (by assumption) ?_)
        all_goals (conv => whnf)
        refine ⟨(k, ver + 1, rows ++ [.agg [.int .i64 2, .int .i64 (i : Int), .int .i64 ((k : Int) - (i : Int)), .nils]], objs), Ghost.hold [0, 1, 5, 6] ?_, ⟨k2, by dsimp only; rw [List.length_append]; show rows.length + 1 ≤ k; omega, fun row hr => ?_⟩, by dsimp only; omega⟩
        · dsimp only; rw [List.length_append]; rfl
        · rcases List.mem_append.mp hr with hr | hr
          · exact hup _ _ _ (fun _ _ h => h) row (h3 row hr)
          · simp only [List.mem_singleton] at hr; subst hr; exact .inl ⟨_, _, _, rfl⟩
      · repeat' ((conv => whnf); first
          | refine Exists.intro _ (And.intro (map_at (by omega) hy) ?_) | refine And.intro rfl ?_ | refine And.intro (by omega) ?_ | refine boolF_decf (by assumption) ?_)
        all_goals (conv => whnf)
        refine W_loopG (ι := Nat × Nat × List D × List AObj) (fun p => ⟨(d22 v :: .fn g caps :: D.undef :: D.undef :: D.undef :: .h 0 p.2.1 0 p.2.2.1.length :: .int .i64 (p.1 : Int) :: .int .i64 (k : Int) :: D.undef :: D.undef :: D.undef :: D.undef :: D.undef :: D.undef :: D.undef :: D.undef :: D.undef :: D.undef :: D.undef :: D.undef :: D.undef :: D.undef :: D.undef :: D.undef :: D.undef :: D.undef :: D.undef :: D.undef :: D.undef :: D.undef :: D.undef :: D.undef :: D.undef :: D.undef :: D.undef :: D.undef :: D.undef :: D.undef :: D.undef :: D.undef :: D.undef :: D.undef :: D.undef :: D.undef :: D.undef :: D.undef :: D.undef :: D.undef :: D.undef :: D.undef :: D.undef :: D.undef :: D.undef :: D.undef :: D.undef :: D.undef :: D.undef :: D.undef :: D.undef :: D.undef :: D.undef :: D.undef :: D.undef :: D.undef :: D.undef :: D.undef :: D.undef :: D.undef :: D.undef :: D.undef :: D.undef :: D.undef :: D.undef :: D.undef :: D.undef :: D.undef :: D.undef :: D.undef :: []), .arr p.2.1 4 p.2.2.1 :: p.2.2.2⟩) (fun p => k - p.1)
          (fun p => i ≤ p.1 ∧ p.1 ≤ k + 64 ∧ p.2.2.1.length ≤ p.1 ∧ p.2.2.1.length ≤ k ∧ ∀ row ∈ p.2.2.1, DRow 0 (.arr p.2.1 4 p.2.2.1 :: p.2.2.2) row) (i, ver, rows, objs) (Ghost.hold [0, 1, 5, 6, 7] rfl) ⟨Nat.le_refl _, by dsimp only; omega, h2, by dsimp only; omega, h3⟩ ?_
        clear hup h3 h2
        rintro ⟨p, ver, rows, objs⟩ ⟨p1, p2, p3, p4, p5⟩
        dsimp only at p1 p2 p3 p4 p5 ⊢
        refine exec_ok tab_ok mixed 1000 (bx := [false]) (own := []) ?_
        rcases Nat.lt_or_ge p k with g | g
        · obtain ⟨q, hq'⟩ : ∃ q, q = min (p + 64) k := ⟨_, rfl⟩
          have hq : (q : Int) = if (p : Int) + 64 < (k : Int) then (p : Int) + 64 else (k : Int) := by split <;> omega
          have hdl : ((v.drop p).take (q - p)).length ≤ 64 := by rw [List.length_take]; omega
          have h22 := f22_ok ((v.drop p).take (q - p)) (by omega) (by omega)
          repeat' ((conv => whnf); first
            | refine Exists.intro ((q : Int)) (And.intro (hq) ?_) | refine And.intro (cells_map (fun _ => rfl)) ?_ | refine Exists.intro _ (And.intro (⟨(List.length_map _).symm⟩) ?_) | refine Exists.intro _ (And.intro (⟨map_slice⟩) ?_) | refine Exists.intro _ (Exists.intro _ (And.intro (⟨Eq.refl (α := Int) _⟩) (And.intro (⟨Eq.refl (α := Int) _⟩) (And.intro (by omega) (And.intro (by omega) ?_))))) | refine Exists.intro _ (And.intro (w64 (by omega) (by omega)) ?_) | refine boolF_dect (by omega) ?_)
          all_goals (conv => whnf)
          refine Owned.freshN h22 _ (by rw [List.length_map]) _ (fun v2 => ?_)
          repeat' ((conv => whnf); first
            | refine And.intro (by decide) ?_ | refine And.intro rfl ?_ | refine And.intro (by omega) ?_ | refine And.intro (okRows_one rfl rfl) ?_ | refine Exists.intro _ (And.intro (⟨len_one⟩) ?_) | refine Exists.intro _ (And.intro (⟨Eq.refl (α := List D) _⟩) ?_) | refine Exists.intro _ (And.intro (w64 (by omega) (by omega)) ?_))
          all_goals (conv => whnf)
          refine ⟨(p + 64, ver + 1, rows ++ [.agg [.int .i64 1, .int .i64 (p : Int), .int .i64 0, .h (objs.length + 1) v2 0 ((v.drop p).take (q - p)).length]], objs ++ [.arr v2 1 (((v.drop p).take (q - p)).map r45)]), Ghost.hold [0, 1, 5, 6, 7] ?_, ⟨by dsimp only; omega, by dsimp only; omega, ?_, ?_, fun row hr => ?_⟩, by dsimp only; omega⟩
          · dsimp only; rw [List.length_append]; rfl
          · dsimp only; rw [List.length_append]; show rows.length + 1 ≤ _; omega
          · dsimp only; rw [List.length_append]; show rows.length + 1 ≤ _; omega
          · dsimp only at hr ⊢
            rcases List.mem_append.mp hr with hr | hr
            · rcases p5 row hr with h | ⟨a, b, c, o, v, l, q1, q2, q3, q4⟩
              · exact .inl h
              · refine .inr ⟨a, b, c, o, v, l, q1, q2, ?_, q4⟩
                cases o with
                | zero => omega
                | succ o =>
                  have q3 : objs[o]? = some (.arr v 1 (l.map r45)) := by simpa using q3
                  show (objs ++ _)[o]? = _
                  rw [List.getElem?_append_left (List.getElem?_eq_some_iff.mp q3).1]; exact q3
            · simp only [List.mem_singleton] at hr; subst hr
              refine .inr ⟨_, _, _, _, _, _, rfl, Nat.succ_pos _, ?_, by omega⟩
              show (objs ++ _)[objs.length]? = _
              rw [List.getElem?_append_right (Nat.le_refl _), Nat.sub_self]; rfl
        · repeat' ((conv => whnf); first
            | refine boolF_decf (by omega) ?_)
          all_goals (conv => whnf)
          exact ⟨(k, ver, rows, objs), Ghost.hold [0, 1, 5, 6] rfl, ⟨k2, p4, p5⟩, by dsimp only; omega⟩
  · refine exec_ok tab_ok mixed 1000 (bx := [false]) (own := []) ?_
    repeat' ((conv => whnf); first
      | refine Exists.intro _ (And.intro (⟨(List.length_map _).symm⟩) ?_) | refine boolF_decf (by omega) ?_)
    all_goals (conv => whnf)
    exact ⟨ver, rows, rfl, rfl, by omega, h3⟩

theorem f11_deep (n : Int) (ops : List Op) (hn : ops.length ≤ 140737488351232) (ho : bigD ops) : CallsIn Try.prog 11 [.int .i64 n, d23 ops] [] fun r H => ∃ d e, r = .tup [d, .int .i64 e] ∧ (d = .nils ∨ DeepAt 4 H d) := by
  refine CallsIn.of_exec tab_ok mixed Try.func11 rfl rfl [] [] ?_
  by_cases h1 : n < 0 ∨ 1024 < n
  · repeat' ((conv => whnf); first
      | refine boolF_dect (by omega) ?_ | refine boolF_dec (fun _ => ?_) (fun _ => ?_))
    all_goals (conv => whnf)
    all_goals exact ⟨_, _, rfl, .inl rfl⟩
  · obtain ⟨m, rfl⟩ := Int.eq_ofNat_of_zero_le (a := n) (by omega)
    have hzl : (zer m).length = m := List.length_replicate
    have hzm : List.replicate m (D.int .u64 0) = (zer m).map r45 := by rw [zer, List.map_replicate]; rfl
    have w9 := f9_own (zer m) ops (by omega) hn ho
    repeat' ((conv => whnf); first
      | refine And.intro (show ((8 : Nat) : Int) * (m : Int) ≤ 281474976710656 by omega) ?_ | refine And.intro rfl ?_ | refine And.intro (by omega) ?_ | refine boolF_decf (by omega) ?_)
    all_goals (conv => whnf)
    refine OwnedR.seeK w9 [(0, .arr 0 1 ((zer m).map r45))] (fact1 (by rw [← hzm]; rfl)) (.cons (.h List.mem_cons_self (.all (scr45 _ _)) (all_take hzl.symm)) (.cons (.same (scd23 _ _)) .nil)) (bares_map fun x => trivial) (fun ver => ⟨trivial, trivial, trivial⟩) (fun v1 => ?_)
    have hae : applyM (zer m) ops = if allOk m ops then (applyL (zer m) ops, 0) else ([], 1) := by
      rw [applyM, if_neg (by omega), hzl]
    rw [hae]
    by_cases hok : allOk m ops
    · rw [if_pos hok]
      have hzl2 := (apply_at (v := zer m) (ops := ops) (by rw [hzl]; exact hok)).1
      rw [hzl] at hzl2
      generalize applyL (zer m) ops = z at hzl2 ⊢
      repeat' ((conv => whnf); first
        | refine And.intro (show ((1 : Nat) : Int) * (m : Int) ≤ 281474976710656 by omega) ?_ | refine And.intro (by decide) ?_ | refine And.intro rfl ?_ | refine And.intro (by omega) ?_ | refine Exists.intro _ (And.intro (⟨(List.length_map _).symm⟩) ?_))
      all_goals (conv => whnf)
      refine W_loopG (ι := Nat × List Bool) (fun i => ⟨(D.undef :: D.undef :: D.undef :: D.undef :: D.undef :: D.undef :: .h 1 v1 0 z.length :: D.undef :: .p 3 0 0 0 :: D.undef :: D.undef :: D.undef :: D.undef :: D.undef :: D.undef :: D.undef :: D.undef :: D.undef :: D.undef :: D.undef :: D.undef :: D.undef :: D.undef :: D.undef :: D.undef :: D.undef :: D.undef :: D.undef :: D.undef :: D.undef :: D.undef :: D.undef :: d23 ops :: .int .i64 (ops.length : Int) :: .int .i64 (i.1:Int) :: D.undef :: D.undef :: D.undef :: D.undef :: D.undef :: D.undef :: D.undef :: D.undef :: D.undef :: D.undef :: D.undef :: D.undef :: D.undef :: D.undef :: D.undef :: D.undef :: D.undef :: D.undef :: D.undef :: D.undef :: D.undef :: D.undef :: []), [.arr 0 1 ((zer m).map r45), .arr v1 1 (z.map r45), .arr 0 1 (i.2.map rB), .arr 0 1 [.h 2 0 0 m]]⟩) (fun i => ops.length - i.1)
        (fun i => i.1 ≤ ops.length ∧ i.2.length = m ∧ ∀ j, j < m → atB i.2 j = tch (ops.take i.1) j) (0, List.replicate m false) (Ghost.hold [6, 8, 32, 33, 34] (by dsimp only; rw [← hzm, List.map_replicate]; rfl)) ⟨Nat.zero_le _, List.length_replicate, fun j hj => by simp [atB, tch, vals, hj]⟩ ?_
      rintro ⟨i, T⟩ ⟨i1, i2, i3⟩
      dsimp only at i1 i2 i3 ⊢
      rcases Nat.lt_or_ge i ops.length with h | h
      · obtain ⟨x, hx⟩ := at_lt h
        have hxo := hok x (List.mem_of_getElem? hx)
        have h24 := f24_ok x (ho x (List.mem_of_getElem? hx))
        obtain ⟨d1, d2, d3', d4⟩ := dat_len hxo
        obtain ⟨a, ha⟩ := Int.eq_ofNat_of_zero_le hxo.2.2.1
        obtain ⟨c, hc⟩ : ∃ c, c = (dat x).length := ⟨_, rfl⟩
        have hsn := tch_snoc hx hxo
        rw [← hc] at d1 d4 hsn
        have hr : rng x = ((a : Int), (c : Int)) := Prod.ext (d2.trans ha) d1.symm
        rw [rngD, hr] at h24
        rw [ha] at d4 hsn
        rw [Int.toNat_natCast] at hsn
        refine exec_ok tab_ok mixed 1000 (bx := [false, false, false, true]) (own := []) ?_
        repeat' ((conv => whnf); first
          | refine Exists.intro _ (And.intro (map_at (by omega) hx) ?_) | refine And.intro (by decide) ?_ | refine And.intro rfl ?_ | refine And.intro (by omega) ?_ | refine boolF_dect (by omega) ?_)
        all_goals (conv => whnf)
        refine Pure.call h24 ?_
        (conv => whnf)
        refine W_loopG (ι := Nat × List Bool) (fun e => ⟨(D.undef :: D.undef :: D.undef :: D.undef :: D.undef :: D.undef :: .h 1 v1 0 z.length :: D.undef :: .p 3 0 0 0 :: D.undef :: D.undef :: .int .i64 (a : Int) :: D.undef :: D.undef :: D.undef :: D.undef :: D.undef :: D.undef :: D.undef :: D.undef :: D.undef :: D.undef :: D.undef :: D.undef :: D.undef :: D.undef :: D.undef :: D.undef :: D.undef :: D.undef :: D.undef :: D.undef :: d23 ops :: .int .i64 (ops.length : Int) :: .int .i64 (i:Int) :: D.undef :: D.undef :: D.undef :: D.undef :: D.undef :: D.undef :: D.undef :: D.undef :: .int .i64 (c : Int) :: .int .i64 (e.1 : Int) :: D.undef :: D.undef :: D.undef :: D.undef :: D.undef :: D.undef :: D.undef :: D.undef :: D.undef :: D.undef :: D.undef :: D.undef :: []), [.arr 0 1 ((zer m).map r45), .arr v1 1 (z.map r45), .arr 0 1 (e.2.map rB), .arr 0 1 [.h 2 0 0 m], .arr 0 4 [r34 x]]⟩) (fun e => c - e.1)
          (fun e => e.1 ≤ c ∧ e.2.length = m ∧ ∀ j, j < m → atB e.2 j = (atB T j || decide (a ≤ j ∧ j < a + e.1))) (0, T) (Ghost.hold [6, 8, 11, 32, 33, 34, 43, 44] rfl) ⟨Nat.zero_le _, i2, fun j hj => by rw [decide_eq_false (by dsimp only; omega), Bool.or_false]⟩ ?_
        rintro ⟨e, T'⟩ ⟨e1, e2, e3⟩
        dsimp only at e1 e2 e3 ⊢
        refine exec_ok tab_ok mixed 1000 (bx := [false, false, false, true, true]) (own := []) ?_
        rcases Nat.lt_or_ge e c with g | g
        · obtain ⟨w, hz⟩ := at_lt (l := T') (i := a + e) (by omega)
          repeat' ((conv => whnf); first
            | refine Exists.intro _ (And.intro (map_at (by omega) hz) ?_) | refine And.intro (by decide) ?_ | refine And.intro (by omega) ?_ | refine And.intro (by simp only [List.length_map, List.length_append, List.length_cons, List.length_nil]; omega) ?_ | refine Exists.intro _ (And.intro (w64 (by omega) (by omega)) ?_) | refine boolF_dect (by omega) ?_)
          all_goals (conv => whnf)
          refine ⟨(e + 1, T'.set (a + e) true), Ghost.hold [6, 8, 11, 32, 33, 34, 43, 44] ?_, ⟨g, by rw [List.length_set]; exact e2, fun j hj => ?_⟩, by dsimp only; omega⟩
          · have er : ∀ (bb : Bool) (l : List D) (d : D), setRow bb l (0 + ((a : Int) + (e : Int)).toNat) d = l.set (a + e) d := fun bb l d => by rw [setRow_eq]; congr 1; omega
            have em : (T'.map rB).set (a + e) (.bool true) = (T'.set (a + e) true).map rB := by rw [List.map_set]; rfl
            dsimp only
            rw [← em, ← er false]; rfl
          · dsimp only
            rw [atB_set _ _ _ (by omega), e3 j hj]
            by_cases hj2 : j = a + e
            · rw [if_pos hj2, decide_eq_true (p := a ≤ j ∧ j < a + (e + 1)) (by omega), Bool.or_true]
            · rw [if_neg hj2]
              congr 1
              exact decide_eq_decide.mpr (by omega)
        · repeat' ((conv => whnf); first
            | refine Exists.intro _ (And.intro (w64 (by omega) (by omega)) ?_) | refine boolF_decf (by omega) ?_)
          all_goals (conv => whnf)
          refine ⟨(i + 1, T'), Ghost.back [6, 8, 32, 33, 34] 4 rfl rfl (Nat.zero_le _) (by simp [scs, D.sc, scd23]) ?_, ⟨h, e2, fun j hj => ?_⟩, by dsimp only; omega⟩
          · intro ob hob
            simp only [List.mem_cons, List.not_mem_nil, or_false] at hob
            rcases hob with rfl | rfl | rfl | rfl
            · exact scr45 _ _
            · exact scr45 _ _
            · exact scrB _ _
            · exact ⟨by simp [D.sc], trivial⟩
          · dsimp only
            rw [e3 j hj, i3 j hj, hsn]
            congr 1
            exact decide_eq_decide.mpr (by omega)
      · have e : ops.take i = ops := List.take_of_length_le h
        rw [e] at i3
        have h25 := f25_deep z 26 [.pe [dB T]] (atB T) (by omega) ⟨⟨scrB _ _, trivial⟩, trivial⟩ (fun j hj => f26_ok T j (by omega))
        refine W_ghost (s' := (D.undef :: D.undef :: D.undef :: D.undef :: D.undef :: D.undef :: d22 z :: D.undef :: .pe [dB T] :: D.undef :: D.undef :: D.undef :: D.undef :: D.undef :: D.undef :: D.undef :: D.undef :: D.undef :: D.undef :: D.undef :: D.undef :: D.undef :: D.undef :: D.undef :: D.undef :: D.undef :: D.undef :: D.undef :: D.undef :: D.undef :: D.undef :: D.undef :: d23 ops :: .int .i64 (ops.length : Int) :: .int .i64 (i:Int) :: D.undef :: D.undef :: D.undef :: D.undef :: D.undef :: D.undef :: D.undef :: D.undef :: D.undef :: D.undef :: D.undef :: D.undef :: D.undef :: D.undef :: D.undef :: D.undef :: D.undef :: D.undef :: D.undef :: D.undef :: D.undef :: D.undef :: [])) (H' := [.arr 0 1 ((zer m).map r45), .gone, .gone, .gone]) ?_ ?_
        · refine Ghost.fz [(1, .arr v1 1 (z.map r45)), (2, .arr 0 1 (T.map rB)), (3, .arr 0 1 [.h 2 0 0 m])] [] ?_ (by simp) ?_ (fun x hx => by cases hx) (by simp)
          · intro y hy
            simp only [List.mem_cons, List.not_mem_nil, or_false] at hy
            rcases hy with rfl | rfl | rfl
            · exact ⟨Nat.zero_le _, rfl, _, _, _, rfl⟩
            · exact ⟨Nat.zero_le _, rfl, _, _, _, rfl⟩
            · exact ⟨Nat.zero_le _, rfl, _, _, _, rfl⟩
          · repeat (first | exact Fzs.nil | refine Fzs.cons .refl ?_ | refine Fzs.cons (.h mem0 .all (all_take rfl)) ?_ | refine Fzs.cons (.p (i := 0) (j := 0) (rows' := [dB T]) mem2 (.cons (.cons (.h mem1 .all (all_take i2.symm)) .nil) .nil) rfl rfl) ?_)
        refine exec_ok tab_ok mixed 1000 (bx := [false, false, false, false]) (own := []) ?_
        repeat' ((conv => whnf); first
          | refine boolF_decf (by omega) ?_)
        all_goals (conv => whnf)
        refine CallsIn.mono (CallsIn.fresh (args := [d22 z, .fn 26 [.pe [dB T]]]) ⟨scd22 _ _, ⟨⟨scrB _ _, trivial⟩, trivial⟩, trivial⟩ h25 _) ?_
        rintro r H' ⟨r0, H0, hd, rfl, rfl⟩
        have hd' := hd.ren [.arr 0 1 ((zer m).map r45), .gone, .gone, .gone]
        (conv => whnf)
        exact ⟨_, _, rfl, .inr hd'⟩
    · rw [if_neg hok]
      (conv => whnf)
      exact ⟨_, _, rfl, .inl rfl⟩

end Go.Proofs.Ytgcbeibemomhcaa

