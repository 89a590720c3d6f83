import Derived.Test.YtbefmodpgecfgaaE2
namespace Go.Proofs.Ytbefmodpgecfgaa
open Go.A
set_option linter.unusedVariables false
set_option linter.unusedSimpArgs false
set_option linter.unnecessarySimpa false
attribute [local irreducible] IntKind.wrap bitsI
set_option maxRecDepth 100000
set_option maxHeartbeats 4000000

theorem okRows_r5 (x : List Nat) : okRows 1 (x.map r5) := okRows_map (fun _ _ => ⟨rfl, rfl⟩)
theorem r15_ok (v : Rv) (s : Dk) (g : Ca) (i : Int) (hs : OkR s g) : TurnsR v 15 [.int .i64 i] s g (.tup [d34 (readM s i).1, .int .i64 (readM s i).2]) s g := by
  refine TurnsR.of ⟨trivial, trivial⟩ ?_
  rw [readM]
  by_cases h1 : 0 ≤ i ∧ i < s.plate.length
  case neg =>
    rw [if_pos h1]
    by_cases h3 : 0 ≤ i
    · refine CallsIn.of_exec tab_ok mixed Try.func15 rfl rfl [] [true, false, false, false] ?_
      repeat' ((conv => whnf); first
        | refine And.intro (by decide) ?_ | refine And.intro rfl ?_ | refine And.intro (Nat.le_of_ble_eq_true rfl) ?_ | refine boolF_dect (by omega) ?_ | refine boolF_decf (by omega) ?_)
      all_goals (conv => whnf)
      exact ⟨⟨_, _, Ghost.wk (.cons (.tup (.cons .nils (.cons .refl .nil))) .nil), rfl, rfl⟩⟩
    · refine CallsIn.of_exec tab_ok mixed Try.func15 rfl rfl [] [true, false, false, false] ?_
      repeat' ((conv => whnf); first
        | refine boolF_dect (by omega) ?_)
      all_goals (conv => whnf)
      exact ⟨⟨_, _, Ghost.wk (.cons (.tup (.cons .nils (.cons .refl .nil))) .nil), rfl, rfl⟩⟩
  rw [if_neg (fun h => h h1)]
  obtain ⟨h1a, h1b⟩ := h1
  rcases bool_cases s.off with ho | ho
  · rw [if_pos ho]
    have hon : (!s.off) = false := by rw [ho]; rfl
    refine CallsIn.of_exec tab_ok mixed Try.func15 rfl rfl [] [true, false, false, false] ?_
    repeat' ((conv => whnf); first
      | refine And.intro (by decide) ?_ | refine And.intro rfl ?_ | refine And.intro (Nat.le_of_ble_eq_true rfl) ?_ | refine boolF_not ?_ | refine boolF_decf (by omega) ?_ | refine boolF_t (by assumption) ?_)
    all_goals (conv => whnf)
    exact ⟨⟨_, _, Ghost.wk (.cons (.tup (.cons .nils (.cons .refl .nil))) .nil), rfl, rfl⟩⟩
  rw [if_neg (by simp [ho])]
  have hon : (!s.off) = true := by rw [ho]; rfl
  obtain ⟨m, rfl⟩ := Int.eq_ofNat_of_zero_le h1a
  have hm : m < s.plate.length := by omega
  have hlk := lookM_len hs.k hm
  have hcd := cd_at (s := s) (i := 0) hm
  have hlg := hs.len
  rw [Int.toNat_natCast]
  cases hf : findC m s.cache with
  | some x =>
    have hrow : (g.map optD)[m]? = some (d34 x) := by rw [List.getElem?_map, hs.has m x hf]; rfl
    have hlook : lookM s m = x := by rw [lookM, hf]; rfl
    rw [hlook] at hlk ⊢
    have hcd : ((cdM s 0).map r4)[m]? = some (.bool true) := by rw [hcd, hf]; rfl
    refine CallsIn.of_exec tab_ok mixed Try.func15 rfl rfl [] [true, false, false, false] ?_
    repeat' ((conv => whnf); first
      | refine And.intro (by rw [List.length_map]; omega) ?_ | refine And.intro (by rw [List.length_map, cd_len]; omega) ?_ | refine Exists.intro _ (And.intro (at_eq (by omega) hrow) ?_) | refine Exists.intro _ (And.intro (at_eq (by omega) hcd) ?_) | refine And.intro (okRows_r5 _) ?_ | refine And.intro (by decide) ?_ | refine And.intro rfl ?_ | refine And.intro (Nat.le_of_ble_eq_true rfl) ?_ | refine And.intro (by omega) ?_ | refine Exists.intro _ (And.intro (⟨(List.length_map _).symm⟩) ?_) | refine boolF_not ?_ | refine boolF_decf (by omega) ?_ | refine boolF_f (by assumption) ?_)
    all_goals (conv => whnf)
    exact ⟨⟨_, _, (Ghost.fz [(4, .arr 0 1 (x.map r5))] [] (fun y hy => by simp only [List.mem_singleton] at hy; subst hy; exact ⟨Nat.le_refl _, rfl, _, _, _, rfl⟩) (by simp)
      (.cons (.tup (.cons (.h mem0 .all (all_take rfl)) (.cons .refl .nil))) .nil) (fun y hy => by simp at hy) (by simp)).trans (Ghost.back [0] 4 rfl rfl (Nat.le_refl _) ⟨⟨scr5 _ _, trivial, trivial⟩, trivial⟩ (oscR _ _ _)), rfl, rfl⟩⟩
  | none =>
    obtain ⟨x, hx⟩ := at_lt hm
    have hrow : (s.plate.map d34)[m]? = some (d34 x) := by rw [List.getElem?_map, hx]; rfl
    have hlook : lookM s m = x := by rw [lookM, hf, Option.getD_none, List.getD_eq_getElem?_getD, hx]; rfl
    rw [hlook] at hlk ⊢
    have hcd : ((cdM s 0).map r4)[m]? = some (.bool false) := by rw [hcd, hf]; rfl
    refine CallsIn.of_exec tab_ok mixed Try.func15 rfl rfl [] [true, false, false, false] ?_
    repeat' ((conv => whnf); first
      | refine And.intro (by rw [List.length_map]; omega) ?_ | refine And.intro (by rw [List.length_map, cd_len]; omega) ?_ | refine Exists.intro _ (And.intro (at_eq (by omega) hrow) ?_) | refine Exists.intro _ (And.intro (at_eq (by omega) hcd) ?_) | refine And.intro (okRows_r5 _) ?_ | refine And.intro (by decide) ?_ | refine And.intro rfl ?_ | refine And.intro (Nat.le_of_ble_eq_true rfl) ?_ | refine And.intro (by omega) ?_ | refine Exists.intro _ (And.intro (⟨(List.length_map _).symm⟩) ?_) | refine boolF_not ?_ | refine boolF_decf (by omega) ?_ | refine boolF_f (by assumption) ?_)
    all_goals (conv => whnf)
    exact ⟨⟨_, _, (Ghost.fz [(4, .arr 0 1 (x.map r5))] [] (fun y hy => by simp only [List.mem_singleton] at hy; subst hy; exact ⟨Nat.le_refl _, rfl, _, _, _, rfl⟩) (by simp)
      (.cons (.tup (.cons (.h mem0 .all (all_take rfl)) (.cons .refl .nil))) .nil) (fun y hy => by simp at hy) (by simp)).trans (Ghost.back [0] 4 rfl rfl (Nat.le_refl _) ⟨⟨scr5 _ _, trivial, trivial⟩, trivial⟩ (oscR _ _ _)), rfl, rfl⟩⟩

/-- How far a Flush has come. -/
def allKeep (s : Dk) : List Bool := List.replicate s.plate.length true
theorem cnt_lt (s : Dk) {j : Nat} (hj : j < s.plate.length) : cntC s j < s.plate.length := by have := cntC_le s j; omega
theorem kept_all {s : Dk} {j : Nat} (hj : j < s.plate.length) : keptB s (allKeep s) j = (findC j s.cache).isSome := by
  rw [keptB, List.getD_eq_getElem?_getD, allKeep, List.getElem?_replicate, if_pos (cnt_lt s hj)]
  simp
theorem plS_all (s : Dk) : plS s (allKeep s) s.plate.length = allM s := by
  apply List.map_congr_left
  intro j hj
  have hj' : j < s.plate.length := by simpa using hj
  rw [kept_all hj']
  cases hf : findC j s.cache with
  | none =>
    rw [if_neg (by simp)]
    rw [lookM, hf]; rfl
  | some x => rw [if_pos ⟨hj', rfl⟩]
theorem cd_next {s : Dk} {i : Nat} (hi : i < s.plate.length) : ((cdM s i).map r4).set i (.bool false) = (cdM s (i + 1)).map r4 := by
  apply List.ext_getElem?
  intro j
  rcases Nat.lt_or_ge j s.plate.length with h | h
  · rw [cd_at h]
    by_cases e : i = j
    · subst e
      rw [List.getElem?_set_self (by rw [List.length_map, cd_len]; exact h), decide_eq_false (by omega)]; rfl
    · rw [List.getElem?_set_ne e, cd_at h]
      congr 3
      exact decide_eq_decide.mpr (by omega)
  · rw [List.getElem?_eq_none (by rw [List.length_set, List.length_map, cd_len]; exact h), List.getElem?_eq_none (by rw [List.length_map, cd_len]; exact h)]
theorem cd_skip {s : Dk} {i : Nat} (h0 : findC i s.cache = none) : cdM s i = cdM s (i + 1) := cd_eq rfl (fun j hj => by
  by_cases e : i = j
  · subst e; rw [h0]; simp
  · rw [decide_eq_decide.mpr (show i ≤ j ↔ i + 1 ≤ j by omega)])
theorem plS_put2 {s : Dk} {keep : List Bool} {i : Nat} {x : List Nat} (hi : i < s.plate.length) (h : keptB s keep i = true) (hx : findC i s.cache = some x) : ((plS s keep i).map d34).set i (d34 x) = (plS s keep (i + 1)).map d34 := by
  rw [← List.map_set]
  congr 1
  apply List.ext_getElem?
  intro k
  have hlook : lookM s i = x := by rw [lookM, hx]; rfl
  by_cases e : i = k
  · subst e
    rw [List.getElem?_set_self (by rw [plS_len]; exact hi)]
    simp only [plS, List.getElem?_map, List.getElem?_range hi, Option.map_some]
    rw [if_pos ⟨Nat.lt_succ_self _, h⟩, hlook]
  · rw [List.getElem?_set_ne e]
    simp only [plS, List.getElem?_map]
    rcases Nat.lt_or_ge k s.plate.length with hk | hk
    · rw [List.getElem?_range hk]
      simp only [Option.map_some]
      congr 1
      by_cases h2 : k < i ∧ keptB s keep k = true
      · rw [if_pos h2, if_pos ⟨by omega, h2.2⟩]
      · rw [if_neg h2, if_neg (fun h3 => h2 ⟨by omega, h3.2⟩)]
    · rw [List.getElem?_eq_none (by simpa using hk)]; rfl
theorem cd_empty (s t : Dk) (h : s.plate.length = t.plate.length) (hc : t.cache = []) : cdM s s.plate.length = cdM t 0 := cd_eq h (fun j hj => by rw [decide_eq_false (by omega), hc]; rfl)
theorem okR_flush {s : Dk} {g : Ca} (h : OkR s g) : OkR (flushM s).2 g := by
  have hk := flushM_ok h.k
  rw [flushM] at hk ⊢
  have h1 := okR_step h
  split
  · exact h1
  · rename_i c
    rw [if_neg c] at hk
    exact ⟨hk, by dsimp only; rw [allM_len]; exact h1.len, fun j y hy => by cases hy⟩
theorem okR_start {s : Dk} {g : Ca} (h : OkR s g) (keep : List Bool) : OkR (startM s keep).2 g := by
  have hk := startM_ok h.k keep
  rw [startM] at hk ⊢
  split
  · exact h
  · rename_i c
    rw [if_neg c] at hk
    exact ⟨hk, by dsimp only; rw [plS_len]; exact h.len, fun j y hy => by cases hy⟩

theorem oR_plate (v : Rv) (s : Dk) (g : Ca) (l : List (List Nat)) (hl : l.length = s.plate.length) (t : Dk) (ht : t.plate = l) (hc : t.cache = []) (ho : t.off = s.off) (hf : fuseR t = fuseR s) : [rS v 1 2 3 s, rPl v l, rCa v g, rCd s s.plate.length] = oR v t g := by
  have h := cd_empty s t (by rw [ht, hl]) hc
  simp only [oR, rS, rowR, rCd, h, ht, hl, ho, hf]
theorem r18_ok (v : Rv) (s : Dk) (g : Ca) (hs : OkR s g) : TurnsR v 18 [] s g (.int .i64 (flushM s).1) (flushM s).2 g := by
  refine TurnsR.of trivial ?_
  have h34 := r34_ok v s g hs
  have hs' := okR_step hs
  rw [flushM]
  obtain ⟨B, hB⟩ : ∃ B, B = stepM s := ⟨_, rfl⟩
  rw [← hB] at h34 hs' ⊢
  rcases bool_cases B.1 with hb1 | hb1
  case inr =>
    rw [if_pos hb1]
    refine CallsIn.of_exec tab_ok mixed Try.func18 rfl rfl [] [true, false, false, false] ?_
    (conv => whnf)
    refine TurnsR.call h34 0 1 2 3 (by decide) trivial trivial rfl rfl rfl rfl ?_
    repeat' ((conv => whnf); first
      | refine boolF_not ?_ | refine boolF_f (by assumption) ?_)
    all_goals (conv => whnf)
    exact ⟨⟨_, _, Ghost.refl _ _ _, rfl, rfl⟩⟩
  rw [if_neg (by simp [hb1])]
  refine CallsIn.of_exec tab_ok mixed Try.func18 rfl rfl [] [true, false, false, false] ?_
  (conv => whnf)
  refine TurnsR.call h34 0 1 2 3 (by decide) trivial trivial rfl rfl rfl rfl ?_
  repeat' ((conv => whnf); first
    | refine boolF_not ?_ | refine boolF_t (by assumption) ?_)
  all_goals (conv => whnf)
  have hlg := hs'.len
  have hn := hs'.k.n
  refine W_loopG (ι := Nat) (fun i => ⟨(.p 0 0 0 0 :: D.undef :: D.undef :: .int .i64 (i : Int) :: D.undef :: D.undef :: D.undef :: D.undef :: D.undef :: D.undef :: D.undef :: D.undef :: D.undef :: D.undef :: D.undef :: D.undef :: D.undef :: D.undef :: D.undef :: D.undef :: D.undef :: D.undef :: D.undef :: D.undef :: D.undef :: D.undef :: D.undef :: D.undef :: D.undef :: D.undef :: D.undef :: D.undef :: D.undef :: D.undef :: D.undef :: D.undef :: D.undef :: D.undef :: D.undef :: D.undef :: D.undef :: D.undef :: []), [rS v 1 2 3 B.2, rPl v (plS B.2 (allKeep B.2) i), rCa v g, rCd B.2 i]⟩) (fun i => B.2.plate.length - i) (fun i => i ≤ B.2.plate.length) 0 (Ghost.hold [0, 3] (by rw [plS_zero]; rfl)) (Nat.zero_le _) ?_
  intro i i1
  refine exec_ok tab_ok mixed 1000 (bx := [true, false, false, false]) (own := []) ?_
  have hpl := plS_len B.2 (allKeep B.2) i
  rcases Nat.lt_or_ge i B.2.plate.length with g1 | g1
  · have hcd := cd_at (s := B.2) (i := i) g1
    rw [decide_eq_true (Nat.le_refl i)] at hcd
    obtain ⟨y, hy⟩ := at_lt (l := plS B.2 (allKeep B.2) i) (i := i) (by omega)
    have hrow2 : ((plS B.2 (allKeep B.2) i).map d34)[i]? = some (d34 y) := by rw [List.getElem?_map, hy]; rfl
    cases hf : findC i B.2.cache with
    | some x =>
      have hrow : (g.map optD)[i]? = some (d34 x) := by rw [List.getElem?_map, hs'.has i x hf]; rfl
      have hcd : ((cdM B.2 i).map r4)[i]? = some (.bool true) := by rw [hcd, hf]; rfl
      repeat' ((conv => whnf); first
        | refine PairK.mk (by kernel_rfl) ?_ | refine And.intro (by rw [List.length_map]; omega) ?_ | refine And.intro (by rw [List.length_map, cd_len]; omega) ?_ | refine Exists.intro _ (And.intro (at_eq (by omega) hrow) ?_) | refine Exists.intro _ (And.intro (at_eq (by omega) hcd) ?_) | refine Exists.intro _ (And.intro (at_eq (by omega) hrow2) ?_) | refine And.intro (by decide) ?_ | refine And.intro rfl ?_ | refine And.intro (Nat.le_of_ble_eq_true rfl) ?_ | refine And.intro (by omega) ?_ | refine Exists.intro _ (And.intro (w64 (by omega) (by omega)) ?_) | refine boolF_dect (by omega) ?_)
      all_goals (conv => whnf)
      have em : 0 + ((i : Int)).toNat = i := by omega
      exact ⟨i + 1, Ghost.back [0, 3] 4 rfl (by
        show _ = [rS v 1 2 3 B.2, AObj.arr v.va 1 ((plS B.2 (allKeep B.2) (i + 1)).map d34), rCa v g, AObj.arr 0 1 ((cdM B.2 (i + 1)).map r4)]
        rw [← plS_put2 g1 (by rw [kept_all g1, hf]; rfl) hf, ← cd_next g1, em]; rfl) (Nat.le_refl _) (by simp [scs, D.sc]) (oscR' _ _ _ _ _ _), g1, by omega⟩
    | none =>
      have hcd : ((cdM B.2 i).map r4)[i]? = some (.bool false) := by rw [hcd, hf]; rfl
      repeat' ((conv => whnf); first
        | refine And.intro (by rw [List.length_map, cd_len]; omega) ?_ | refine Exists.intro _ (And.intro (at_eq (by omega) hcd) ?_) | refine And.intro (by decide) ?_ | refine And.intro rfl ?_ | refine And.intro (Nat.le_of_ble_eq_true rfl) ?_ | refine And.intro (by omega) ?_ | refine Exists.intro _ (And.intro (w64 (by omega) (by omega)) ?_) | refine boolF_dect (by omega) ?_)
      all_goals (conv => whnf)
      have e1 : plS B.2 (allKeep B.2) (i + 1) = plS B.2 (allKeep B.2) i := plS_not (by rw [kept_all g1, hf]; rfl)
      have e2 : cdM B.2 (i + 1) = cdM B.2 i := (cd_skip hf).symm
      exact ⟨i + 1, Ghost.back [0, 3] 4 rfl (by
        show _ = [rS v 1 2 3 B.2, AObj.arr v.va 1 ((plS B.2 (allKeep B.2) (i + 1)).map d34), rCa v g, AObj.arr 0 1 ((cdM B.2 (i + 1)).map r4)]
        rw [e1, e2]; rfl) (Nat.le_refl _) (by simp [scs, D.sc]) (oscR' _ _ _ _ _ _), g1, by omega⟩
  · obtain rfl : i = B.2.plate.length := by omega
    repeat' ((conv => whnf); first
      | refine And.intro (by decide) ?_ | refine And.intro rfl ?_ | refine And.intro (Nat.le_of_ble_eq_true rfl) ?_ | refine boolF_decf (by omega) ?_)
    all_goals (conv => whnf)
    exact ⟨⟨_, _, Ghost.refl _ _ _, rfl, by
      show [rS v 1 2 3 B.2, rPl v (plS B.2 (allKeep B.2) B.2.plate.length), rCa v g, rCd B.2 B.2.plate.length] = _
      rw [plS_all]
      exact oR_plate v B.2 g (allM B.2) (allM_len _) _ rfl rfl rfl rfl⟩⟩

theorem r24_ok (v : Rv) (s : Dk) (g : Ca) (keep : List Bool) (hs : OkR s g) (hk : keep.length ≤ 140737488351232) : TurnsR v 24 [d28 keep] s g (.int .i64 (startM s keep).1) (startM s keep).2 g := by
  refine TurnsR.of ⟨scd28 _ _, trivial⟩ ?_
  rw [startM]
  have hlg := hs.len
  have hn := hs.k.n
  rcases bool_cases s.off with ho | ho
  case inr =>
    rw [if_pos ho]
    have hon : (!s.off) = true := by rw [ho]; rfl
    refine CallsIn.of_exec tab_ok mixed Try.func24 rfl rfl [] [true, false, false, false] ?_
    repeat' ((conv => whnf); first
      | refine And.intro (by decide) ?_ | refine And.intro (Nat.le_of_ble_eq_true rfl) ?_ | refine boolF_not ?_ | refine boolF_f (by assumption) ?_)
    all_goals (conv => whnf)
    exact ⟨⟨_, _, Ghost.refl _ _ _, rfl, rfl⟩⟩
  rw [if_neg (by simp [ho])]
  have hon : (!s.off) = false := by rw [ho]; rfl
  refine CallsIn.of_exec tab_ok mixed Try.func24 rfl rfl [] [true, false, false, false] ?_
  repeat' ((conv => whnf); first
    | refine And.intro (by decide) ?_ | refine And.intro (Nat.le_of_ble_eq_true rfl) ?_ | refine boolF_not ?_ | refine boolF_t (by assumption) ?_)
  all_goals (conv => whnf)
  refine W_loopG (ι := Nat) (fun i => ⟨(.p 0 0 0 0 :: d28 keep :: D.undef :: D.undef :: D.undef :: .int .i64 (cntC s i : Int) :: .int .i64 (i : Int) :: D.undef :: D.undef :: D.undef :: D.undef :: D.undef :: D.undef :: D.undef :: D.undef :: D.undef :: D.undef :: D.undef :: D.undef :: D.undef :: D.undef :: D.undef :: D.undef :: D.undef :: D.undef :: D.undef :: D.undef :: D.undef :: D.undef :: D.undef :: D.undef :: D.undef :: D.undef :: D.undef :: D.undef :: D.undef :: D.undef :: D.undef :: D.undef :: D.undef :: D.undef :: D.undef :: D.undef :: D.undef :: D.undef :: D.undef :: D.undef :: D.undef :: D.undef :: D.undef :: D.undef :: D.undef :: D.undef :: D.undef :: D.undef :: D.undef :: D.undef :: D.undef :: D.undef :: D.undef :: D.undef :: D.undef :: D.undef :: D.undef :: []), [rS v 1 2 3 s, rPl v (plS s keep i), rCa v g, rCd s i]⟩) (fun i => s.plate.length - i) (fun i => i ≤ s.plate.length) 0 (Ghost.hold [0, 1, 5, 6] (by rw [plS_zero]; rfl)) (Nat.zero_le _) ?_
  intro i i1
  refine exec_ok tab_ok mixed 1000 (bx := [true, false, false, false]) (own := []) ?_
  have hpl := plS_len s keep i
  have hcl := cntC_le s i
  have em : 0 + ((i : Int)).toNat = i := by omega
  rcases Nat.lt_or_ge i s.plate.length with g1 | g1
  · have hcd := cd_at (s := s) (i := i) g1
    rw [decide_eq_true (Nat.le_refl i)] at hcd
    obtain ⟨y, hy⟩ := at_lt (l := plS s keep i) (i := i) (by omega)
    have hrow2 : ((plS s keep i).map d34)[i]? = some (d34 y) := by rw [List.getElem?_map, hy]; rfl
    cases hf : findC i s.cache with
    | some x =>
      have hrow : (g.map optD)[i]? = some (d34 x) := by rw [List.getElem?_map, hs.has i x hf]; rfl
      have hcd : ((cdM s i).map r4)[i]? = some (.bool true) := by rw [hcd, hf]; rfl
      have hcn : cntC s (i + 1) = cntC s i + 1 := by rw [cntC, hf]; rfl
      by_cases hk1 : cntC s i < keep.length
      · obtain ⟨b, hb⟩ := at_lt hk1
        have hkb : keptB s keep i = b := by rw [keptB, hf, List.getD_eq_getElem?_getD, hb]; rfl
        cases b with
        | true =>
          repeat' ((conv => whnf); first
            | refine PairK.mk (by kernel_rfl) ?_ | refine Exists.intro _ (And.intro (map_at (by omega) hb) ?_) | refine And.intro (by rw [List.length_map]; omega) ?_ | refine And.intro (by rw [List.length_map, cd_len]; omega) ?_ | refine Exists.intro _ (And.intro (at_eq (by omega) hrow) ?_) | refine Exists.intro _ (And.intro (at_eq (by omega) hcd) ?_) | refine Exists.intro _ (And.intro (at_eq (by omega) hrow2) ?_) | refine And.intro (by decide) ?_ | refine And.intro rfl ?_ | refine And.intro (Nat.le_of_ble_eq_true rfl) ?_ | refine And.intro (by omega) ?_
            | refine Exists.intro _ (And.intro (⟨(List.length_map _).symm⟩) ?_) | refine Exists.intro _ (And.intro (w64 (by omega) (by omega)) ?_) | refine boolF_dect (by omega) ?_)
          all_goals (conv => whnf)
          exact ⟨i + 1, Ghost.back [0, 1, 5, 6] 4 (by rw [hcn]; rfl) (by
            show _ = [rS v 1 2 3 s, AObj.arr v.va 1 ((plS s keep (i + 1)).map d34), rCa v g, AObj.arr 0 1 ((cdM s (i + 1)).map r4)]
            rw [← plS_put2 g1 hkb hf, ← cd_next g1, em]; rfl) (Nat.le_refl _) (by simp [scs, D.sc, scd28]) (oscR' _ _ _ _ _ _), g1, by omega⟩
        | false =>
          repeat' ((conv => whnf); first
            | refine Exists.intro _ (And.intro (map_at (by omega) hb) ?_) | refine And.intro (by rw [List.length_map, cd_len]; omega) ?_ | refine Exists.intro _ (And.intro (at_eq (by omega) hcd) ?_) | refine And.intro (by decide) ?_ | refine And.intro rfl ?_ | refine And.intro (Nat.le_of_ble_eq_true rfl) ?_ | refine And.intro (by omega) ?_ | refine Exists.intro _ (And.intro (⟨(List.length_map _).symm⟩) ?_) | refine Exists.intro _ (And.intro (w64 (by omega) (by omega)) ?_) | refine boolF_dect (by omega) ?_)
          all_goals (conv => whnf)
          exact ⟨i + 1, Ghost.back [0, 1, 5, 6] 4 (by rw [hcn]; rfl) (by
            show _ = [rS v 1 2 3 s, AObj.arr v.va 1 ((plS s keep (i + 1)).map d34), rCa v g, AObj.arr 0 1 ((cdM s (i + 1)).map r4)]
            rw [plS_not hkb, ← cd_next g1, em]; rfl) (Nat.le_refl _) (by simp [scs, D.sc, scd28]) (oscR' _ _ _ _ _ _), g1, by omega⟩
      · have hkb : keptB s keep i = false := by rw [keptB, hf, List.getD_eq_getElem?_getD, List.getElem?_eq_none (by omega)]; rfl
        repeat' ((conv => whnf); first
          | refine And.intro (by rw [List.length_map, cd_len]; omega) ?_ | refine Exists.intro _ (And.intro (at_eq (by omega) hcd) ?_) | refine And.intro (by decide) ?_ | refine And.intro rfl ?_ | refine And.intro (Nat.le_of_ble_eq_true rfl) ?_ | refine And.intro (by omega) ?_ | refine Exists.intro _ (And.intro (⟨(List.length_map _).symm⟩) ?_) | refine Exists.intro _ (And.intro (w64 (by omega) (by omega)) ?_) | refine boolF_dect (by omega) ?_ | refine boolF_decf (by omega) ?_)
        all_goals (conv => whnf)
        exact ⟨i + 1, Ghost.back [0, 1, 5, 6] 4 (by rw [hcn]; rfl) (by
          show _ = [rS v 1 2 3 s, AObj.arr v.va 1 ((plS s keep (i + 1)).map d34), rCa v g, AObj.arr 0 1 ((cdM s (i + 1)).map r4)]
          rw [plS_not hkb, ← cd_next g1, em]; rfl) (Nat.le_refl _) (by simp [scs, D.sc, scd28]) (oscR' _ _ _ _ _ _), g1, by omega⟩
    | none =>
      have hcd : ((cdM s i).map r4)[i]? = some (.bool false) := by rw [hcd, hf]; rfl
      have hcn : cntC s (i + 1) = cntC s i := by rw [cntC, hf]; rfl
      have hkb : keptB s keep i = false := by rw [keptB, hf]; rfl
      have e2 : cdM s (i + 1) = cdM s i := (cd_skip hf).symm
      repeat' ((conv => whnf); first
        | refine And.intro (by rw [List.length_map, cd_len]; omega) ?_ | refine Exists.intro _ (And.intro (at_eq (by omega) hcd) ?_) | refine And.intro (by decide) ?_ | refine And.intro rfl ?_ | refine And.intro (Nat.le_of_ble_eq_true rfl) ?_ | refine And.intro (by omega) ?_ | refine Exists.intro _ (And.intro (w64 (by omega) (by omega)) ?_) | refine boolF_dect (by omega) ?_)
      all_goals (conv => whnf)
      exact ⟨i + 1, Ghost.back [0, 1, 5, 6] 4 (by rw [hcn]; rfl) (by
        show _ = [rS v 1 2 3 s, AObj.arr v.va 1 ((plS s keep (i + 1)).map d34), rCa v g, AObj.arr 0 1 ((cdM s (i + 1)).map r4)]
        rw [plS_not hkb, e2]; rfl) (Nat.le_refl _) (by simp [scs, D.sc, scd28]) (oscR' _ _ _ _ _ _), g1, by omega⟩
  · obtain rfl : i = s.plate.length := by omega
    have h := cd_empty s ⟨plS s keep s.plate.length, [], false, false, s.fuse⟩ (plS_len _ _ _).symm rfl
    repeat' ((conv => whnf); first
      | refine And.intro (by decide) ?_ | refine And.intro rfl ?_ | refine And.intro (Nat.le_of_ble_eq_true rfl) ?_ | refine boolF_decf (by omega) ?_)
    all_goals (conv => whnf)
    exact ⟨⟨_, _, Ghost.refl _ _ _, rfl, by
      show [AObj.arr 0 5 [.agg [.h 1 v.va 0 s.plate.length, .h 2 v.vb 0 s.plate.length, .h 3 0 0 s.plate.length, .bool true, .int .i64 (-1)]], rPl v (plS s keep s.plate.length), rCa v g, rCd s s.plate.length] = _
      simp only [oR, rS, rowR, rCd, plS_len, h]
      rfl⟩⟩

/-- As many as are in the cache. -/
def cntL (l : List (Nat × List Nat)) : Nat → Nat
  | 0 => 0
  | i + 1 => cntL l i + (if (findC i l).isSome then 1 else 0)
theorem cntC_L (s : Dk) : ∀ i, cntC s i = cntL s.cache i
  | 0 => rfl
  | i + 1 => by rw [cntC, cntL, cntC_L s i]
theorem findC_none {i : Nat} : ∀ {l : List (Nat × List Nat)}, i ∉ l.map (·.1) → findC i l = none
  | [], _ => rfl
  | y :: r, h => by
    simp only [List.map_cons, List.mem_cons, not_or] at h
    rw [findC, if_neg (fun e => h.1 e.symm)]
    exact findC_none h.2
theorem cntL_cons {y : Nat × List Nat} {r : List (Nat × List Nat)} (h : findC y.1 r = none) : ∀ n, cntL (y :: r) n = cntL r n + (if y.1 < n then 1 else 0)
  | 0 => rfl
  | n + 1 => by
    rw [cntL, cntL, cntL_cons h n, findC]
    by_cases e : y.1 = n
    · subst e
      rw [if_pos rfl, h]
      simp
    · rw [if_neg e]
      by_cases e2 : y.1 < n
      · rw [if_pos e2, if_pos (show y.1 < n + 1 by omega)]; omega
      · rw [if_neg e2, if_neg (show ¬ y.1 < n + 1 by omega)]; omega
theorem cntL_all {n : Nat} : ∀ {l : List (Nat × List Nat)}, (l.map (·.1)).Nodup → (∀ x ∈ l, x.1 < n) → cntL l n = l.length
  | [], _, _ => by
    have : ∀ k, cntL [] k = 0 := fun k => by induction k with | zero => rfl | succ k ih => rw [cntL, ih]; rfl
    rw [this]; rfl
  | y :: r, hn, hl => by
    simp only [List.map_cons, List.nodup_cons] at hn
    rw [cntL_cons (findC_none hn.1), cntL_all hn.2 (fun x hx => hl x (List.mem_cons_of_mem _ hx)), if_pos (hl y List.mem_cons_self)]; rfl
theorem cnt_all {s : Dk} (hs : OkK s) : cntC s s.plate.length = s.cache.length := by
  rw [cntC_L]
  exact cntL_all hs.keys (fun x hx => (hs.cache x hx).1)
theorem r27_ok (v : Rv) (s : Dk) (g : Ca) (hs : OkR s g) : TurnsR v 27 [] s g (.int .i64 (s.cache.length : Int)) s g := by
  refine TurnsR.of trivial ?_
  have hn := hs.k.n
  refine CallsIn.of_exec tab_ok mixed Try.func27 rfl rfl [] [true, false, false, false] ?_
  (conv => whnf)
  refine W_loopG (ι := Nat) (fun i => ⟨(.p 0 0 0 0 :: D.undef :: D.undef :: .int .i64 (cntC s i : Int) :: .int .i64 (i : Int) :: D.undef :: D.undef :: D.undef :: D.undef :: D.undef :: D.undef :: D.undef :: D.undef :: D.undef :: D.undef :: D.undef :: D.undef :: D.undef :: D.undef :: D.undef :: D.undef :: D.undef :: D.undef :: D.undef :: []), oR v s g⟩) (fun i => s.plate.length - i) (fun i => i ≤ s.plate.length) 0 (Ghost.hold [0, 3, 4] rfl) (Nat.zero_le _) ?_
  intro i i1
  have hcl := cntC_le s i
  refine exec_ok tab_ok mixed 1000 (bx := [true, false, false, false]) (own := []) ?_
  rcases Nat.lt_or_ge i s.plate.length with g1 | g1
  · have hcd := cd_at (s := s) (i := 0) g1
    cases hf : findC i s.cache with
    | some x =>
      have hcd : ((cdM s 0).map r4)[i]? = some (.bool true) := by rw [hcd, hf]; rfl
      have hcn : cntC s (i + 1) = cntC s i + 1 := by rw [cntC, hf]; rfl
      repeat' ((conv => whnf); first
        | refine And.intro (by rw [List.length_map, cd_len]; omega) ?_ | refine Exists.intro _ (And.intro (at_eq (by omega) hcd) ?_) | refine And.intro (by decide) ?_ | refine And.intro (Nat.le_of_ble_eq_true rfl) ?_ | refine And.intro (by omega) ?_ | refine Exists.intro _ (And.intro (w64 (by omega) (by omega)) ?_) | refine boolF_dect (by omega) ?_)
      all_goals (conv => whnf)
      exact ⟨i + 1, Ghost.back [0, 3, 4] 4 (by rw [hcn]; rfl) rfl (Nat.le_refl _) (by simp [scs, D.sc]) (oscR _ _ _), g1, by omega⟩
    | none =>
      have hcd : ((cdM s 0).map r4)[i]? = some (.bool false) := by rw [hcd, hf]; rfl
      have hcn : cntC s (i + 1) = cntC s i := by rw [cntC, hf]; rfl
      repeat' ((conv => whnf); first
        | refine And.intro (by rw [List.length_map, cd_len]; omega) ?_ | refine Exists.intro _ (And.intro (at_eq (by omega) hcd) ?_) | refine And.intro (by decide) ?_ | refine And.intro (Nat.le_of_ble_eq_true rfl) ?_ | refine And.intro (by omega) ?_ | refine Exists.intro _ (And.intro (w64 (by omega) (by omega)) ?_) | refine boolF_dect (by omega) ?_)
      all_goals (conv => whnf)
      exact ⟨i + 1, Ghost.back [0, 3, 4] 4 (by rw [hcn]; rfl) rfl (Nat.le_refl _) (by simp [scs, D.sc]) (oscR _ _ _), g1, by omega⟩
  · obtain rfl : i = s.plate.length := by omega
    have hc := cnt_all hs.k
    repeat' ((conv => whnf); first
      | refine And.intro (by decide) ?_ | refine And.intro (Nat.le_of_ble_eq_true rfl) ?_ | refine boolF_decf (by omega) ?_)
    all_goals (conv => whnf)
    exact ⟨⟨_, _, Ghost.refl _ _ _, by rw [hc], rfl⟩⟩

end Go.Proofs.Ytbefmodpgecfgaa

