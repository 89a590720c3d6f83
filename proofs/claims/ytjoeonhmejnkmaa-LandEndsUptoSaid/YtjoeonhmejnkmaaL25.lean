import Derived.Test.YtjoeonhmejnkmaaL24
namespace Go.Proofs.Ytjoeonhmejnkmaa
open Go.A
set_option linter.unusedVariables false
set_option linter.unusedSimpArgs false
set_option linter.unnecessarySimpa false
attribute [local irreducible] IntKind.wrap bitsI
open B
set_option maxRecDepth 100000
set_option maxHeartbeats 4000000

theorem endSc (v1 ver : Nat) (L : List Rec) (b : Bt) (C : List Nat) : ∀ ob ∈ [AObj.arr v1 8 (L.map r26), oB ver b, .arr 1 1 (C.map r5)], ob.sc 3 := fun ob hob => by
  simp only [List.mem_cons, List.not_mem_nil, or_false] at hob
  rcases hob with rfl | rfl | rfl
  · exact scr26 _ _
  · exact ⟨scB _ _, trivial⟩
  · show scs 3 (C.map r5)
    rw [scs_map]; intro x _; trivial

theorem landEnds_true (ops : List Op) (crashes : List Nat) (every : Nat) (h0 : ok42 ops) (h1 : ok53 crashes) (h2 : ok5 every) (hn : ops.length ≤ 1048576) (hn2 : crashes.length ≤ 1048576) :
    CallsIn Try.prog 6 [d42 ops, d53 crashes, d5 every] [] fun r _ => r = .bool true := by
  have hbig := lenO h0
  have hevb : every < 256 := h2
  have h16 := f16_own hdE ops (by decide) hn hbig
  have hbo := build_ok (h := hdE) (ops := ops) (n := 30) rfl (by decide) (by decide)
  obtain ⟨B1, hB1⟩ : ∃ B, B = buildM hdE ops := ⟨_, rfl⟩
  rw [← hB1] at h16 hbo
  refine CallsIn.of_exec tab_ok mixed Try.func6 rfl rfl [] [] ?_
  (conv => whnf)
  refine CallsIn.wk (args' := [d26 hdE, d42 ops]) ?_ (.cons (.agg (.cons .refl (.cons .refl (.cons .refl (.cons .refl (.cons .refl (.cons .refl (.cons .refl (.cons .nils .nil))))))))) (.cons .refl .nil))
  refine OwnedR.call h16 (fun v1 => ?_)
  (conv => whnf)
  refine OwnedR.call (f8_own 3 2 30 (by decide)) (fun ver => ?_)
  by_cases he : B1.2 = 0
  case neg =>
    repeat' ((conv => whnf); first
      | refine And.intro rfl ?_ | refine Pure.call (f9_ok) ?_ | refine boolF_not ?_ | refine boolF_decf (by assumption) ?_)
    all_goals (conv => whnf)
    exact ⟨rfl⟩
  obtain ⟨e1, s⟩ := hbo he
  obtain ⟨L, hL⟩ : ∃ L, L = strmL hdE ops := ⟨_, rfl⟩
  rw [← hL] at e1
  have hml : (List.take (min crashes.length 40) crashes).length ≤ 40 := by rw [List.length_take]; omega
  repeat' ((conv => whnf); first
    | refine And.intro (by decide) ?_ | refine And.intro rfl ?_ | refine And.intro (by simp only [List.length_map, List.length_append, List.length_cons, List.length_nil]; omega) ?_ | refine And.intro (by simpa only [List.length_map, List.length_append, List.length_cons, List.length_nil] using rfl) ?_ | refine And.intro (cells_map (fun _ => rfl)) ?_ | refine And.intro (rows_map (fun _ => rfl) (fun _ => rfl)) ?_ | refine And.intro (okRows_one rfl rfl) ?_ | refine Exists.intro _ (And.intro (⟨(List.length_map _).symm⟩) ?_) | refine Exists.intro _ (And.intro (⟨len_one⟩) ?_)
    | refine Exists.intro _ (And.intro (⟨List.map_take⟩) ?_) | refine Exists.intro _ (And.intro (⟨map_snoc⟩) ?_) | refine Exists.intro _ (And.intro (⟨Eq.refl (α := Int) _⟩) (And.intro (by omega) ?_)) | refine Exists.intro _ (And.intro (min_int) ?_) | refine Pure.call (f9_ok) ?_ | refine boolF_not ?_ | refine boolF_dect (by assumption) ?_)
  all_goals (conv => whnf)
  obtain ⟨C0, hC0⟩ : ∃ C0, C0 = List.take (min crashes.length 40) crashes := ⟨_, rfl⟩
  obtain ⟨C, hC⟩ : ∃ C, C = C0 ++ [255] := ⟨_, rfl⟩
  rw [← hC0] at hml
  have hCl : C.length = C0.length + 1 := by rw [hC, List.length_append]; rfl
  have hlen : L.length = ops.length + 2 := by rw [hL]; exact strm_len _ _
  have hbigL : ∀ r ∈ L, r.data_.length ≤ 140737488351232 := fun r hr => by
    rw [hL] at hr
    have := (s.may r hr).2
    simp only [kindOk] at this
    omega
  have hap : applyM (zer 30) ops = (applyL (zer 30) ops, 0) := applyM_ok (by simp [zer]) s.allOk
  have h17 := f17_own (zer 30) ops (by simp [zer]) (by omega) hbig
  rw [hap] at h17
  obtain ⟨want, hwant⟩ : ∃ want, want = applyL (zer 30) ops := ⟨_, rfl⟩
  rw [← hwant] at h17
  obtain ⟨E, hE⟩ : ∃ E : Bt, E = ⟨cm0, 7, applyL (zer 30) ops, true, 3, 2, cm0⟩ := ⟨_, rfl⟩
  have hinvE : InvB 3 2 30 E := by
    have := stS_inv s (j := ops.length + 2) (Nat.le_refl _) (u := 0) (Nat.zero_le _)
    rw [stS_end (by omega), ← hE] at this; exact this
  have hE1 : E.there = 7 ∧ E.now.snap = 0 ∧ E.now.count = 0 := by rw [hE]; exact ⟨rfl, rfl, rfl⟩
  have hEl : E.all.length = 30 := hinvE.all
  have hEw : E.all = want := by rw [hE, hwant]
  have hwl : want.length = 30 := by rw [← hEw]; exact hEl
  have h14 := f14_ok E.all want (by omega) (by omega)
  rw [decide_eq_true hEw] at h14
  have h19 := f19_at E ver
  have hcr : crashB E = E := by rw [hE]; rfl
  rw [hcr] at h19
  obtain ⟨E1, E2, E3⟩ := hE1
  refine W_loopG (ι := Nat × Nat) (fun j => ⟨(d42 ops :: D.undef :: d5 every :: D.undef :: D.undef :: D.undef :: D.undef :: .int .i64 30 :: .h 0 v1 0 L.length :: D.undef :: .p 1 ver 0 0 :: D.undef :: .int .i64 (j.2 : Int) :: D.undef :: D.undef :: D.undef :: D.undef :: D.undef :: D.undef :: D.undef :: D.undef :: D.undef :: D.undef :: D.undef :: D.undef :: D.undef :: D.undef :: D.undef :: D.undef :: D.undef :: D.undef :: D.undef :: D.undef :: D.undef :: D.undef :: D.undef :: D.undef :: D.undef :: D.undef :: D.undef :: D.undef :: D.undef :: D.undef :: D.undef :: D.undef :: D.undef :: D.undef :: D.undef :: D.undef :: D.undef :: D.undef :: D.undef :: D.undef :: D.undef :: D.undef :: D.undef :: D.undef :: .h 2 1 0 C.length :: .int .i64 (C.length : Int) :: .int .i64 (j.1 : Int) :: D.undef :: D.undef :: D.undef :: D.undef :: D.undef :: D.undef :: D.undef :: D.undef :: D.undef :: D.undef :: D.undef :: D.undef :: D.undef :: D.undef :: D.undef :: D.undef :: D.undef :: D.undef :: D.undef :: D.undef :: D.undef :: D.undef :: D.undef :: D.undef :: D.undef :: D.undef :: D.undef :: D.undef :: D.undef :: D.undef :: D.undef :: D.undef :: D.undef :: D.undef :: D.undef :: D.undef :: D.undef :: D.undef :: D.undef :: D.undef :: D.undef :: D.undef :: D.undef :: D.undef :: D.undef :: D.undef :: D.undef :: D.undef :: D.undef :: D.undef :: D.undef :: D.undef :: D.undef :: D.undef :: D.undef :: D.undef :: D.undef :: D.undef :: D.undef :: D.undef :: D.undef :: D.undef :: D.undef :: D.undef :: D.undef :: D.undef :: D.undef :: D.undef :: D.undef :: D.undef :: D.undef :: D.undef :: D.undef :: D.undef :: D.undef :: D.undef :: D.undef :: D.undef :: D.undef :: D.undef :: D.undef :: D.undef :: D.undef :: D.undef :: D.undef :: D.undef :: D.undef :: D.undef :: D.undef :: D.undef :: D.undef :: D.undef :: D.undef :: D.undef :: D.undef :: D.undef :: D.undef :: D.undef :: D.undef :: D.undef :: D.undef :: D.undef :: D.undef :: D.undef :: D.undef :: D.undef :: D.undef :: D.undef :: D.undef :: D.undef :: D.undef :: D.undef :: D.undef :: D.undef :: D.undef :: D.undef :: D.undef :: D.undef :: D.undef :: D.undef :: D.undef :: D.undef :: D.undef :: D.undef :: D.undef :: D.undef :: D.undef :: D.undef :: D.undef :: D.undef :: D.undef :: []), [.arr v1 8 (L.map r26), oB ver (stS ops j.2 j.2), .arr 1 1 (C.map r5)]⟩) (fun j => C.length - j.1)
    (fun j => j.1 < C.length ∧ j.2 ≤ ops.length + 1) (0, 0) (Ghost.hold [0, 2, 7, 8, 10, 12, 57, 58, 59] (by rw [e1, hC, hC0, List.length_append]; rfl)) ⟨by dsimp only; omega, Nat.zero_le _⟩ ?_
  rintro ⟨i, u0⟩ ⟨i1, i2⟩
  dsimp only at i1 i2 ⊢
  obtain ⟨c, hc⟩ := at_lt i1
  have hc255 : c = 255 ∨ i + 1 < C.length := by
    by_cases g : i + 1 < C.length
    · exact .inr g
    · left
      have : i = C0.length := by omega
      subst this
      rw [hC] at hc
      simp at hc
      exact hc.symm
  have hinv0 := stS_inv s (j := u0) (by omega) (u := u0) (Nat.le_refl _)
  have hct0 : (stS ops u0 u0).now.count = (u0 : Int) := by rw [stS_now i2]; exact cmAt_count _ _
  have hcb : c < 256 := by
    have := List.mem_of_getElem? hc
    rw [hC, List.mem_append] at this
    rcases this with h | h
    · rw [hC0] at h
      exact h1.1 c (List.mem_of_mem_take h)
    · simp at h; omega
  refine exec_ok tab_ok mixed 1000 (bx := [false, true, false]) (own := []) ?_
  repeat' ((conv => whnf); first
    | refine Exists.intro _ (And.intro (map_at (by omega) hc) ?_) | refine And.intro (by decide) ?_ | refine And.intro (by omega) ?_ | refine And.intro (by simp only [List.length_map, List.length_append, List.length_cons, List.length_nil]; omega) ?_ | refine boolF_dect (by omega) ?_)
  all_goals (conv => whnf)
  refine comingC (o := 1) rfl hinv0.made ?_
  repeat' ((conv => whnf); first
    | refine boolF_not ?_ | refine boolF_dect (by assumption) ?_)
  all_goals (conv => whnf)
  refine W_loopG (ι := Nat × Nat × Nat) (fun j => ⟨(d42 ops :: D.undef :: d5 every :: D.undef :: D.undef :: D.undef :: D.undef :: .int .i64 30 :: .h 0 v1 0 L.length :: D.undef :: .p 1 ver 0 0 :: D.undef :: .int .i64 (j.2.2 : Int) :: D.undef :: d5 c :: D.undef :: .int .i64 (j.2.1 : Int) :: .int .i64 (j.1 : Int) :: D.undef :: D.undef :: D.undef :: D.undef :: D.undef :: D.undef :: D.undef :: D.undef :: D.undef :: D.undef :: D.undef :: D.undef :: D.undef :: D.undef :: D.undef :: D.undef :: D.undef :: D.undef :: D.undef :: D.undef :: D.undef :: D.undef :: D.undef :: D.undef :: D.undef :: D.undef :: D.undef :: D.undef :: D.undef :: D.undef :: D.undef :: D.undef :: D.undef :: D.undef :: D.undef :: D.undef :: D.undef :: D.undef :: D.undef :: .h 2 1 0 C.length :: .int .i64 (C.length : Int) :: .int .i64 (i : Int) :: D.undef :: D.undef :: D.undef :: D.undef :: D.undef :: D.undef :: D.undef :: D.undef :: D.undef :: D.undef :: D.undef :: D.undef :: D.undef :: D.undef :: D.undef :: D.undef :: D.undef :: D.undef :: D.undef :: D.undef :: D.undef :: D.undef :: D.undef :: D.undef :: D.undef :: D.undef :: D.undef :: D.undef :: D.undef :: D.undef :: D.undef :: D.undef :: D.undef :: D.undef :: D.undef :: D.undef :: D.undef :: D.undef :: D.undef :: D.undef :: D.undef :: D.undef :: D.undef :: D.undef :: D.undef :: D.undef :: D.undef :: D.undef :: D.undef :: D.undef :: D.undef :: D.undef :: D.undef :: D.undef :: D.undef :: D.undef :: D.undef :: D.undef :: D.undef :: D.undef :: D.undef :: D.undef :: D.undef :: D.undef :: D.undef :: D.undef :: D.undef :: D.undef :: D.undef :: D.undef :: D.undef :: D.undef :: D.undef :: D.undef :: D.undef :: D.undef :: D.undef :: D.undef :: D.undef :: D.undef :: D.undef :: D.undef :: D.undef :: D.undef :: D.undef :: D.undef :: D.undef :: D.undef :: D.undef :: D.undef :: D.undef :: D.undef :: D.undef :: D.undef :: D.undef :: D.undef :: D.undef :: D.undef :: D.undef :: D.undef :: D.undef :: D.undef :: D.undef :: D.undef :: D.undef :: D.undef :: D.undef :: D.undef :: D.undef :: D.undef :: D.undef :: D.undef :: D.undef :: D.undef :: D.undef :: D.undef :: D.undef :: D.undef :: D.undef :: D.undef :: D.undef :: D.undef :: D.undef :: D.undef :: D.undef :: D.undef :: D.undef :: D.undef :: D.undef :: D.undef :: D.undef :: []), [.arr v1 8 (L.map r26), oB ver (stS ops j.2.1 j.2.2), .arr 1 1 (C.map r5)]⟩) (fun j => L.length - j.2.1)
    (fun j => j.2.2 ≤ j.2.1 ∧ j.2.1 ≤ ops.length + 1 ∧ j.1 ≤ j.2.1) (0, u0, u0) (Ghost.hold [0, 2, 7, 8, 10, 12, 14, 16, 17, 57, 58, 59] (by rw [hct0]; rfl)) ⟨Nat.le_refl _, i2, Nat.zero_le _⟩ ?_
  rintro ⟨k, at_, u⟩ ⟨k1, k2, k3⟩
  dsimp only at k1 k2 k3 ⊢
  have hinv := stS_inv s (j := at_) (by omega) (u := u) k1
  have hev : Int.tmod (every : Int) 5 = ((every % 5 : Nat) : Int) := rfl
  have hev5 : every % 5 < 5 := Nat.mod_lt _ (by decide)
  refine exec_ok tab_ok mixed 1000 (bx := [false, true, false]) (own := []) ?_
  by_cases g1 : k < c ∨ c = 255
  case neg =>
    have g2 : ¬ k < c := fun h => g1 (.inl h)
    have g3 : ¬ c = 255 := fun h => g1 (.inr h)
    have hs19 := f19_at (stS ops at_ u) ver
    rw [stS_crash k2 (by omega)] at hs19
    repeat' ((conv => whnf); first
      | refine And.intro rfl ?_ | refine Exists.intro _ (And.intro (w64 (by omega) (by omega)) ?_) | refine boolF_decf (by assumption) ?_ | refine boolF_dect (by omega) ?_ | refine boolF_decf (by omega) ?_)
    all_goals (conv => whnf)
    refine Turns1.call hs19 1 rfl (fun _ => ?_)
    repeat' ((conv => whnf); first
      | refine Exists.intro _ (And.intro (w64 (by omega) (by omega)) ?_))
    all_goals (conv => whnf)
    exact ⟨(i + 1, u), Ghost.back [0, 2, 7, 8, 10, 12, 57, 58, 59] 3 rfl rfl (Nat.zero_le _) (by simp [scs, D.sc, scd42, d5]) (endSc _ _ _ _ _), ⟨by dsimp only; omega, by dsimp only; omega⟩, by dsimp only; omega⟩
  obtain ⟨r, hr, ht⟩ := stS_step s (j := at_) (u := u) k2
  rw [← hL] at hr
  have h13 := f13_at (stS ops at_ u) (at_ : Int) r ver hinv.ok (hbigL r (List.mem_of_getElem? hr))
  rw [ht] at h13
  have g1' : ¬ c = 255 → k < c := fun h => by omega
  rcases Nat.eq_zero_or_pos u with hu | hu
  · by_cases gk : k < c
    · repeat' ((conv => whnf); first
        | refine PairK.mk (by kernel_rfl) ?_ | refine Exists.intro _ (And.intro (map_at (by omega) hr) ?_) | refine And.intro (by rw [List.length_map]; omega) ?_ | refine And.intro (by decide) ?_ | refine And.intro rfl ?_ | refine And.intro (by omega) ?_ | refine Exists.intro _ (And.intro (w64 (by omega) (by omega)) ?_) | refine boolF_dect (by omega) ?_ | refine boolF_decf (by omega) ?_)
      all_goals (conv => whnf)
      refine Turns1.call h13 1 rfl (fun _ => ?_)
      by_cases g3 : at_ + 1 = L.length
      · have g4 : stS ops (at_ + 1) u = E := by rw [stS_end (by omega), hE]
        rw [g4]
        repeat' ((conv => whnf); first
          | refine And.intro (by decide) ?_ | refine And.intro rfl ?_ | refine Exists.intro _ (And.intro (w64 (by omega) (by omega)) ?_) | refine boolF_dect (by omega) ?_)
        all_goals (conv => whnf)
        refine OwnedR.seeK h17 [(3, .arr 0 1 ((zer 30).map r63))] (fact1 rfl) (.cons (seeW mem0) (.cons (.same (scd42 _ _)) .nil)) (bares_map fun x => trivial) (fun v => ⟨trivial, trivial, trivial⟩) (fun w1 => ?_)
        (conv => whnf)
        refine readC (o := 1) rfl (by omega) (read_all hinvE.made hinvE.all hinvE.n1) (fun w2 => ?_)
        (conv => whnf)
        refine comingC (o := 1) rfl hinvE.made ?_
        (conv => whnf)
        refine Turns1.call h19 1 rfl (fun _ => ?_)
        (conv => whnf)
        refine readC (o := 1) rfl (by omega) (read_all hinvE.made hinvE.all hinvE.n1) (fun w3 => ?_)
        (conv => whnf)
        refine snapC (o := 1) rfl hinvE.made ?_
        repeat' ((conv => whnf); first
          | refine boolF_dect (by assumption) ?_)
        all_goals (conv => whnf)
        refine Pure.seeK h14 [(5, .arr w2 1 (E.all.map r63)), (4, .arr w1 1 (want.map r63))] (fact2 rfl rfl) (.cons (seeW mem0) (.cons (seeW mem1) .nil)) trivial trivial ?_
        (conv => whnf)
        refine Pure.seeK h14 [(6, .arr w3 1 (E.all.map r63)), (4, .arr w1 1 (want.map r63))] (fact2 rfl rfl) (.cons (seeW mem0) (.cons (seeW mem1) .nil)) trivial trivial ?_
        repeat' ((conv => whnf); first
          | refine boolF_dect (by assumption) ?_)
        all_goals (conv => whnf)
        exact ⟨congrArg D.bool (by rw [E3]; rfl)⟩
      have g4 : at_ + 1 ≤ ops.length + 1 := by omega
      have h18 := f18_at (stS ops (at_ + 1) u) ver
      rw [stS_sync g4, if_pos (stS_inv s (by omega) (by omega) (u := u) (j := at_ + 1)).made] at h18
      have hct : (stS ops (at_ + 1) u).now.count = ((at_ + 1 : Nat) : Int) := by rw [stS_now g4]; exact cmAt_count _ _
      rw [hct] at h18
      by_cases g5 : Int.tmod (k : Int) (Int.tmod (every : Int) 5 + 1) = 0
      · repeat' ((conv => whnf); first
          | refine And.intro (by decide) ?_ | refine And.intro rfl ?_ | refine And.intro (by omega) ?_ | refine Exists.intro _ (And.intro (w64 (by omega) (by omega)) ?_) | refine boolF_dect (by assumption) ?_ | refine boolF_decf (by omega) ?_)
        all_goals (conv => whnf)
        refine Turns1.call h18 1 rfl (fun _ => ?_)
        repeat' ((conv => whnf); first
          | refine boolF_t (beq_self_eq_true _) ?_ | refine Exists.intro _ (And.intro (w64 (by omega) (by omega)) ?_) | refine boolF_not ?_)
        all_goals (conv => whnf)
        exact ⟨(k + 1, at_ + 1, at_ + 1), Ghost.back [0, 2, 7, 8, 10, 12, 14, 16, 17, 57, 58, 59] 3 rfl rfl (Nat.zero_le _) (by simp [scs, D.sc, scd42, d5]) (endSc _ _ _ _ _), ⟨Nat.le_refl _, g4, by dsimp only; omega⟩, by dsimp only; omega⟩
      · repeat' ((conv => whnf); first
          | refine And.intro (by decide) ?_ | refine And.intro rfl ?_ | refine And.intro (by omega) ?_ | refine Exists.intro _ (And.intro (w64 (by omega) (by omega)) ?_) | refine boolF_decf (by assumption) ?_ | refine boolF_decf (by omega) ?_)
        all_goals (conv => whnf)
        exact ⟨(k + 1, at_ + 1, u), Ghost.back [0, 2, 7, 8, 10, 12, 14, 16, 17, 57, 58, 59] 3 rfl rfl (Nat.zero_le _) (by simp [scs, D.sc, scd42, d5]) (endSc _ _ _ _ _), ⟨by dsimp only; omega, g4, by dsimp only; omega⟩, by dsimp only; omega⟩
    have gc : c = 255 := by omega
    repeat' ((conv => whnf); first
      | refine PairK.mk (by kernel_rfl) ?_ | refine Exists.intro _ (And.intro (map_at (by omega) hr) ?_) | refine And.intro (by rw [List.length_map]; omega) ?_ | refine And.intro (by decide) ?_ | refine And.intro rfl ?_ | refine And.intro (by omega) ?_ | refine Exists.intro _ (And.intro (w64 (by omega) (by omega)) ?_) | refine boolF_dect (by assumption) ?_ | refine boolF_dect (by omega) ?_ | refine boolF_decf (by omega) ?_)
    all_goals (conv => whnf)
    refine Turns1.call h13 1 rfl (fun _ => ?_)
    by_cases g3 : at_ + 1 = L.length
    · have g4 : stS ops (at_ + 1) u = E := by rw [stS_end (by omega), hE]
      rw [g4]
      repeat' ((conv => whnf); first
        | refine And.intro (by decide) ?_ | refine And.intro rfl ?_ | refine Exists.intro _ (And.intro (w64 (by omega) (by omega)) ?_) | refine boolF_dect (by omega) ?_)
      all_goals (conv => whnf)
      refine OwnedR.seeK h17 [(3, .arr 0 1 ((zer 30).map r63))] (fact1 rfl) (.cons (seeW mem0) (.cons (.same (scd42 _ _)) .nil)) (bares_map fun x => trivial) (fun v => ⟨trivial, trivial, trivial⟩) (fun w1 => ?_)
      (conv => whnf)
      refine readC (o := 1) rfl (by omega) (read_all hinvE.made hinvE.all hinvE.n1) (fun w2 => ?_)
      (conv => whnf)
      refine comingC (o := 1) rfl hinvE.made ?_
      (conv => whnf)
      refine Turns1.call h19 1 rfl (fun _ => ?_)
      (conv => whnf)
      refine readC (o := 1) rfl (by omega) (read_all hinvE.made hinvE.all hinvE.n1) (fun w3 => ?_)
      (conv => whnf)
      refine snapC (o := 1) rfl hinvE.made ?_
      repeat' ((conv => whnf); first
        | refine boolF_dect (by assumption) ?_)
      all_goals (conv => whnf)
      refine Pure.seeK h14 [(5, .arr w2 1 (E.all.map r63)), (4, .arr w1 1 (want.map r63))] (fact2 rfl rfl) (.cons (seeW mem0) (.cons (seeW mem1) .nil)) trivial trivial ?_
      (conv => whnf)
      refine Pure.seeK h14 [(6, .arr w3 1 (E.all.map r63)), (4, .arr w1 1 (want.map r63))] (fact2 rfl rfl) (.cons (seeW mem0) (.cons (seeW mem1) .nil)) trivial trivial ?_
      repeat' ((conv => whnf); first
        | refine boolF_dect (by assumption) ?_)
      all_goals (conv => whnf)
      exact ⟨congrArg D.bool (by rw [E3]; rfl)⟩
    have g4 : at_ + 1 ≤ ops.length + 1 := by omega
    have h18 := f18_at (stS ops (at_ + 1) u) ver
    rw [stS_sync g4, if_pos (stS_inv s (by omega) (by omega) (u := u) (j := at_ + 1)).made] at h18
    have hct : (stS ops (at_ + 1) u).now.count = ((at_ + 1 : Nat) : Int) := by rw [stS_now g4]; exact cmAt_count _ _
    rw [hct] at h18
    by_cases g5 : Int.tmod (k : Int) (Int.tmod (every : Int) 5 + 1) = 0
    · repeat' ((conv => whnf); first
        | refine And.intro (by decide) ?_ | refine And.intro rfl ?_ | refine And.intro (by omega) ?_ | refine Exists.intro _ (And.intro (w64 (by omega) (by omega)) ?_) | refine boolF_dect (by assumption) ?_ | refine boolF_decf (by omega) ?_)
      all_goals (conv => whnf)
      refine Turns1.call h18 1 rfl (fun _ => ?_)
      repeat' ((conv => whnf); first
        | refine boolF_t (beq_self_eq_true _) ?_ | refine Exists.intro _ (And.intro (w64 (by omega) (by omega)) ?_) | refine boolF_not ?_)
      all_goals (conv => whnf)
      exact ⟨(k + 1, at_ + 1, at_ + 1), Ghost.back [0, 2, 7, 8, 10, 12, 14, 16, 17, 57, 58, 59] 3 rfl rfl (Nat.zero_le _) (by simp [scs, D.sc, scd42, d5]) (endSc _ _ _ _ _), ⟨Nat.le_refl _, g4, by dsimp only; omega⟩, by dsimp only; omega⟩
    · repeat' ((conv => whnf); first
        | refine And.intro (by decide) ?_ | refine And.intro rfl ?_ | refine And.intro (by omega) ?_ | refine Exists.intro _ (And.intro (w64 (by omega) (by omega)) ?_) | refine boolF_decf (by assumption) ?_ | refine boolF_decf (by omega) ?_)
      all_goals (conv => whnf)
      exact ⟨(k + 1, at_ + 1, u), Ghost.back [0, 2, 7, 8, 10, 12, 14, 16, 17, 57, 58, 59] 3 rfl rfl (Nat.zero_le _) (by simp [scs, D.sc, scd42, d5]) (endSc _ _ _ _ _), ⟨by dsimp only; omega, g4, by dsimp only; omega⟩, by dsimp only; omega⟩
  · obtain ⟨q, hq⟩ : ∃ q, q = k % u := ⟨_, rfl⟩
    have hq1 : Int.tmod (k : Int) (u : Int) = (q : Int) := by rw [hq]; rfl
    have hq2 : q < u := by rw [hq]; exact Nat.mod_lt _ hu
    obtain ⟨rq, hrq⟩ := at_lt (l := L) (i := q) (by omega)
    have h13q := f13_twice (stS ops at_ u) (Int.tmod (k : Int) (u : Int)) rq hinv.made (hbigL rq (List.mem_of_getElem? hrq)) (s.may rq (by rw [← hL]; exact List.mem_of_getElem? hrq)) (by omega) (by rw [stS_now k2]; show (cmAt ops at_).snap ≠ 0; rw [cmAt_snap (by omega)]; decide)
      (by rw [stS_now k2]; show _ < (cmAt ops at_).count; rw [cmAt_count]; omega)
    by_cases gk : k < c
    · repeat' ((conv => whnf); first
        | refine Exists.intro _ (And.intro (map_at (by omega) hrq) ?_) | refine And.intro (by rw [List.length_map]; omega) ?_ | refine And.intro (by decide) ?_ | refine And.intro rfl ?_ | refine And.intro (by omega) ?_ | refine Exists.intro _ (And.intro (w64 (by omega) (by omega)) ?_) | refine boolF_dect (by omega) ?_)
      all_goals (conv => whnf)
      refine Pure.seeL h13q [(1, oB ver (stS ops at_ u))] (fact1 rfl) (fun n => .cons (seeBo 1 n ver _ List.mem_cons_self) (.cons (.same trivial) (.cons (.same (scd26 _ _)) .nil))) trivial trivial ?_
      repeat' ((conv => whnf); first
        | refine PairK.mk (by kernel_rfl) ?_ | refine Exists.intro _ (And.intro (map_at (by omega) hr) ?_) | refine And.intro (by rw [List.length_map]; omega) ?_ | refine And.intro (by decide) ?_ | refine And.intro rfl ?_ | refine And.intro (by omega) ?_)
      all_goals (conv => whnf)
      refine Turns1.call h13 1 rfl (fun _ => ?_)
      by_cases g3 : at_ + 1 = L.length
      · have g4 : stS ops (at_ + 1) u = E := by rw [stS_end (by omega), hE]
        rw [g4]
        repeat' ((conv => whnf); first
          | refine And.intro (by decide) ?_ | refine And.intro rfl ?_ | refine Exists.intro _ (And.intro (w64 (by omega) (by omega)) ?_) | refine boolF_dect (by omega) ?_)
        all_goals (conv => whnf)
        refine OwnedR.seeK h17 [(3, .arr 0 1 ((zer 30).map r63))] (fact1 rfl) (.cons (seeW mem0) (.cons (.same (scd42 _ _)) .nil)) (bares_map fun x => trivial) (fun v => ⟨trivial, trivial, trivial⟩) (fun w1 => ?_)
        (conv => whnf)
        refine readC (o := 1) rfl (by omega) (read_all hinvE.made hinvE.all hinvE.n1) (fun w2 => ?_)
        (conv => whnf)
        refine comingC (o := 1) rfl hinvE.made ?_
        (conv => whnf)
        refine Turns1.call h19 1 rfl (fun _ => ?_)
        (conv => whnf)
        refine readC (o := 1) rfl (by omega) (read_all hinvE.made hinvE.all hinvE.n1) (fun w3 => ?_)
        (conv => whnf)
        refine snapC (o := 1) rfl hinvE.made ?_
        repeat' ((conv => whnf); first
          | refine boolF_dect (by assumption) ?_)
        all_goals (conv => whnf)
        refine Pure.seeK h14 [(5, .arr w2 1 (E.all.map r63)), (4, .arr w1 1 (want.map r63))] (fact2 rfl rfl) (.cons (seeW mem0) (.cons (seeW mem1) .nil)) trivial trivial ?_
        (conv => whnf)
        refine Pure.seeK h14 [(6, .arr w3 1 (E.all.map r63)), (4, .arr w1 1 (want.map r63))] (fact2 rfl rfl) (.cons (seeW mem0) (.cons (seeW mem1) .nil)) trivial trivial ?_
        repeat' ((conv => whnf); first
          | refine boolF_dect (by assumption) ?_)
        all_goals (conv => whnf)
        exact ⟨congrArg D.bool (by rw [E3]; rfl)⟩
      have g4 : at_ + 1 ≤ ops.length + 1 := by omega
      have h18 := f18_at (stS ops (at_ + 1) u) ver
      rw [stS_sync g4, if_pos (stS_inv s (by omega) (by omega) (u := u) (j := at_ + 1)).made] at h18
      have hct : (stS ops (at_ + 1) u).now.count = ((at_ + 1 : Nat) : Int) := by rw [stS_now g4]; exact cmAt_count _ _
      rw [hct] at h18
      by_cases g5 : Int.tmod (k : Int) (Int.tmod (every : Int) 5 + 1) = 0
      · repeat' ((conv => whnf); first
          | refine And.intro (by decide) ?_ | refine And.intro rfl ?_ | refine And.intro (by omega) ?_ | refine Exists.intro _ (And.intro (w64 (by omega) (by omega)) ?_) | refine boolF_dect (by assumption) ?_ | refine boolF_decf (by omega) ?_)
        all_goals (conv => whnf)
        refine Turns1.call h18 1 rfl (fun _ => ?_)
        repeat' ((conv => whnf); first
          | refine boolF_t (beq_self_eq_true _) ?_ | refine Exists.intro _ (And.intro (w64 (by omega) (by omega)) ?_) | refine boolF_not ?_)
        all_goals (conv => whnf)
        exact ⟨(k + 1, at_ + 1, at_ + 1), Ghost.back [0, 2, 7, 8, 10, 12, 14, 16, 17, 57, 58, 59] 3 rfl rfl (Nat.zero_le _) (by simp [scs, D.sc, scd42, d5]) (endSc _ _ _ _ _), ⟨Nat.le_refl _, g4, by dsimp only; omega⟩, by dsimp only; omega⟩
      · repeat' ((conv => whnf); first
          | refine And.intro (by decide) ?_ | refine And.intro rfl ?_ | refine And.intro (by omega) ?_ | refine Exists.intro _ (And.intro (w64 (by omega) (by omega)) ?_) | refine boolF_decf (by assumption) ?_ | refine boolF_decf (by omega) ?_)
        all_goals (conv => whnf)
        exact ⟨(k + 1, at_ + 1, u), Ghost.back [0, 2, 7, 8, 10, 12, 14, 16, 17, 57, 58, 59] 3 rfl rfl (Nat.zero_le _) (by simp [scs, D.sc, scd42, d5]) (endSc _ _ _ _ _), ⟨by dsimp only; omega, g4, by dsimp only; omega⟩, by dsimp only; omega⟩
    have gc : c = 255 := by omega
    repeat' ((conv => whnf); first
      | refine Exists.intro _ (And.intro (map_at (by omega) hrq) ?_) | refine And.intro (by rw [List.length_map]; omega) ?_ | refine And.intro (by decide) ?_ | refine And.intro rfl ?_ | refine And.intro (by omega) ?_ | refine Exists.intro _ (And.intro (w64 (by omega) (by omega)) ?_) | refine boolF_dect (by assumption) ?_ | refine boolF_dect (by omega) ?_ | refine boolF_decf (by omega) ?_)
    all_goals (conv => whnf)
    refine Pure.seeL h13q [(1, oB ver (stS ops at_ u))] (fact1 rfl) (fun n => .cons (seeBo 1 n ver _ List.mem_cons_self) (.cons (.same trivial) (.cons (.same (scd26 _ _)) .nil))) trivial trivial ?_
    repeat' ((conv => whnf); first
      | refine PairK.mk (by kernel_rfl) ?_ | refine Exists.intro _ (And.intro (map_at (by omega) hr) ?_) | refine And.intro (by rw [List.length_map]; omega) ?_ | refine And.intro (by decide) ?_ | refine And.intro rfl ?_ | refine And.intro (by omega) ?_)
    all_goals (conv => whnf)
    refine Turns1.call h13 1 rfl (fun _ => ?_)
    by_cases g3 : at_ + 1 = L.length
    · have g4 : stS ops (at_ + 1) u = E := by rw [stS_end (by omega), hE]
      rw [g4]
      repeat' ((conv => whnf); first
        | refine And.intro (by decide) ?_ | refine And.intro rfl ?_ | refine Exists.intro _ (And.intro (w64 (by omega) (by omega)) ?_) | refine boolF_dect (by omega) ?_)
      all_goals (conv => whnf)
      refine OwnedR.seeK h17 [(3, .arr 0 1 ((zer 30).map r63))] (fact1 rfl) (.cons (seeW mem0) (.cons (.same (scd42 _ _)) .nil)) (bares_map fun x => trivial) (fun v => ⟨trivial, trivial, trivial⟩) (fun w1 => ?_)
      (conv => whnf)
      refine readC (o := 1) rfl (by omega) (read_all hinvE.made hinvE.all hinvE.n1) (fun w2 => ?_)
      (conv => whnf)
      refine comingC (o := 1) rfl hinvE.made ?_
      (conv => whnf)
      refine Turns1.call h19 1 rfl (fun _ => ?_)
      (conv => whnf)
      refine readC (o := 1) rfl (by omega) (read_all hinvE.made hinvE.all hinvE.n1) (fun w3 => ?_)
      (conv => whnf)
      refine snapC (o := 1) rfl hinvE.made ?_
      repeat' ((conv => whnf); first
        | refine boolF_dect (by assumption) ?_)
      all_goals (conv => whnf)
      refine Pure.seeK h14 [(5, .arr w2 1 (E.all.map r63)), (4, .arr w1 1 (want.map r63))] (fact2 rfl rfl) (.cons (seeW mem0) (.cons (seeW mem1) .nil)) trivial trivial ?_
      (conv => whnf)
      refine Pure.seeK h14 [(6, .arr w3 1 (E.all.map r63)), (4, .arr w1 1 (want.map r63))] (fact2 rfl rfl) (.cons (seeW mem0) (.cons (seeW mem1) .nil)) trivial trivial ?_
      repeat' ((conv => whnf); first
        | refine boolF_dect (by assumption) ?_)
      all_goals (conv => whnf)
      exact ⟨congrArg D.bool (by rw [E3]; rfl)⟩
    have g4 : at_ + 1 ≤ ops.length + 1 := by omega
    have h18 := f18_at (stS ops (at_ + 1) u) ver
    rw [stS_sync g4, if_pos (stS_inv s (by omega) (by omega) (u := u) (j := at_ + 1)).made] at h18
    have hct : (stS ops (at_ + 1) u).now.count = ((at_ + 1 : Nat) : Int) := by rw [stS_now g4]; exact cmAt_count _ _
    rw [hct] at h18
    by_cases g5 : Int.tmod (k : Int) (Int.tmod (every : Int) 5 + 1) = 0
    · repeat' ((conv => whnf); first
        | refine And.intro (by decide) ?_ | refine And.intro rfl ?_ | refine And.intro (by omega) ?_ | refine Exists.intro _ (And.intro (w64 (by omega) (by omega)) ?_) | refine boolF_dect (by assumption) ?_ | refine boolF_decf (by omega) ?_)
      all_goals (conv => whnf)
      refine Turns1.call h18 1 rfl (fun _ => ?_)
      repeat' ((conv => whnf); first
        | refine boolF_t (beq_self_eq_true _) ?_ | refine Exists.intro _ (And.intro (w64 (by omega) (by omega)) ?_) | refine boolF_not ?_)
      all_goals (conv => whnf)
      exact ⟨(k + 1, at_ + 1, at_ + 1), Ghost.back [0, 2, 7, 8, 10, 12, 14, 16, 17, 57, 58, 59] 3 rfl rfl (Nat.zero_le _) (by simp [scs, D.sc, scd42, d5]) (endSc _ _ _ _ _), ⟨Nat.le_refl _, g4, by dsimp only; omega⟩, by dsimp only; omega⟩
    · repeat' ((conv => whnf); first
        | refine And.intro (by decide) ?_ | refine And.intro rfl ?_ | refine And.intro (by omega) ?_ | refine Exists.intro _ (And.intro (w64 (by omega) (by omega)) ?_) | refine boolF_decf (by assumption) ?_ | refine boolF_decf (by omega) ?_)
      all_goals (conv => whnf)
      exact ⟨(k + 1, at_ + 1, u), Ghost.back [0, 2, 7, 8, 10, 12, 14, 16, 17, 57, 58, 59] 3 rfl rfl (Nat.zero_le _) (by simp [scs, D.sc, scd42, d5]) (endSc _ _ _ _ _), ⟨by dsimp only; omega, g4, by dsimp only; omega⟩, by dsimp only; omega⟩

end Go.Proofs.Ytjoeonhmejnkmaa

