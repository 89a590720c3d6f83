import Derived.Test.YtjoeonhmejnkmaaL20
namespace Go.Proofs.Ytjoeonhmejnkmaa
open Go.A
set_option linter.unusedVariables false
set_option linter.unusedSimpArgs false
set_option linter.unnecessarySimpa false
attribute [local irreducible] IntKind.wrap bitsI
open B
set_option maxRecDepth 100000
set_option maxHeartbeats 4000000

theorem lenO {l : List Op} (h : ok42 l) : bigD l := fun o ho => by have := (h.1 o ho).2.2.2.2; simp [td63] at this; omega
def hdA : Rec := ⟨1, 0, 4, 0, 0, 0, 30, []⟩

theorem refuses {b : Bt} (hm : b.now.snap = 0) {j : Int} {r : Rec} (h : j ≠ 0 ∨ r.snap_ = b.there) : (takeM b j r).2 ≠ 0 := fun e => by
  by_cases hj : j = 0
  · subst hj
    have e2 := take0_ok e hm
    rw [e2] at e
    have q := begin_ok e
    rcases h with h | h
    · exact h rfl
    · exact q.2.2.2.2.2.1 h
  · unfold takeM at e
    split at e
    · cases e
    split at e
    · cases e
    rw [beginM, if_pos hj] at e
    exact absurd e (show (15 : Int) ≠ 0 by decide)

theorem landAgain_true (ops : List Op) (base : Int) (h0 : ok42 ops) (h1 : ok3 base) (hn : ops.length ≤ 1048576) : CallsIn Try.prog 4 [d42 ops, .int .i64 base] [] fun r _ => r = .bool true := by
  have hbig := lenO h0
  have h16 := f16_own hdA ops (by decide) hn hbig
  have hbo := build_ok (h := hdA) (ops := ops) (n := 30) rfl (by decide) (by decide)
  obtain ⟨B, hB⟩ : ∃ B, B = buildM hdA ops := ⟨_, rfl⟩
  rw [← hB] at h16 hbo
  refine CallsIn.of_exec tab_ok mixed Try.func4 rfl rfl [] [] ?_
  (conv => whnf)
  refine CallsIn.wk (args' := [d26 hdA, d42 ops]) ?_ (.cons (.agg (.cons .refl (.cons .refl (.cons .refl (.cons .refl (.cons .refl (.cons .refl (.cons .refl (.cons .nils .nil))))))))) (.cons .refl .nil))
  refine OwnedR.call h16 (fun v1 => ?_)
  (conv => whnf)
  refine OwnedR.call (f8_own 0 0 30 (by decide)) (fun ver => ?_)
  by_cases he : B.2 = 0
  case neg =>
    repeat' ((conv => whnf); first
      | refine And.intro rfl ?_ | refine Pure.call (f9_ok) ?_ | refine boolF_not ?_ | refine boolF_decf (by assumption) ?_)
    all_goals (conv => whnf)
    exact ⟨rfl⟩
  obtain ⟨e1, s⟩ := hbo he
  repeat' ((conv => whnf); first
    | refine And.intro rfl ?_ | refine Pure.call (f9_ok) ?_ | refine boolF_not ?_ | refine boolF_dect (by assumption) ?_)
  all_goals (conv => whnf)
  obtain ⟨L, hL⟩ : ∃ L, L = strmL hdA ops := ⟨_, rfl⟩
  rw [← hL] at e1
  have hlen : L.length = ops.length + 2 := by rw [hL]; exact strm_len _ _
  have hstep := fun j hj => st_step s (th := 0) (all := zer 30) (by simp [zer]) (by decide) (.inl rfl) (j := j) hj
  rw [← hL] at hstep
  have hbigL : ∀ r ∈ L, r.data_.length ≤ 140737488351232 := fun r hr => by
    rw [hL] at hr
    have := (s.may r hr).2
    simp only [kindOk] at this
    omega
  have hinv : ∀ j, j ≤ ops.length + 2 → InvB 0 0 30 (stAt hdA ops (zer 30) 0 (zer 30) j) := fun j => by
    induction j with
    | zero => intro _; exact inv_new (s := 0) (v := 0) (n := 30) (by decide)
    | succ j ih =>
      intro hj
      obtain ⟨r, _, ht⟩ := hstep j (by omega)
      have := inv_take (ih (by omega)) (j : Int) r
      have e : takeM (stAt hdA ops (zer 30) 0 (zer 30) j) (j : Int) r = (stAt hdA ops (zer 30) 0 (zer 30) (j + 1), 0) := ht
      rw [e] at this
      exact this
  refine W_loopG (ι := Nat) (fun j => ⟨(D.undef :: .int .i64 base :: D.undef :: D.undef :: D.undef :: .int .i64 30 :: .h 0 v1 0 L.length :: D.undef :: .p 1 ver 0 0 :: D.undef :: D.undef :: D.undef :: D.undef :: D.undef :: D.undef :: D.undef :: D.undef :: D.undef :: D.undef :: D.undef :: D.undef :: D.undef :: D.undef :: D.undef :: D.undef :: D.undef :: D.undef :: D.undef :: D.undef :: D.undef :: D.undef :: D.undef :: D.undef :: D.undef :: D.undef :: D.undef :: D.undef :: D.undef :: D.undef :: D.undef :: D.undef :: D.undef :: D.undef :: D.undef :: .h 0 v1 0 L.length :: .int .i64 (L.length : Int) :: .int .i64 (j : Int) :: D.undef :: D.undef :: D.undef :: D.undef :: D.undef :: D.undef :: D.undef :: D.undef :: D.undef :: D.undef :: D.undef :: D.undef :: D.undef :: D.undef :: D.undef :: D.undef :: D.undef :: D.undef :: D.undef :: D.undef :: D.undef :: D.undef :: D.undef :: D.undef :: D.undef :: D.undef :: D.undef :: D.undef :: D.undef :: D.undef :: D.undef :: D.undef :: D.undef :: D.undef :: D.undef :: D.undef :: D.undef :: D.undef :: D.undef :: D.undef :: D.undef :: D.undef :: D.undef :: D.undef :: D.undef :: D.undef :: D.undef :: D.undef :: D.undef :: D.undef :: D.undef :: D.undef :: D.undef :: D.undef :: D.undef :: D.undef :: D.undef :: D.undef :: D.undef :: D.undef :: D.undef :: D.undef :: D.undef :: D.undef :: D.undef :: []), [.arr v1 8 (L.map r26), oB ver (stAt hdA ops (zer 30) 0 (zer 30) j)]⟩) (fun j => L.length - j)
    (fun j => j ≤ L.length) 0 (Ghost.hold [1, 5, 6, 8, 44, 45, 46] (by rw [e1]; rfl)) (Nat.zero_le _) ?_
  rintro j j1
  refine exec_ok tab_ok mixed 1000 (bx := [false, true]) (own := []) ?_
  rcases Nat.lt_or_ge j L.length with g | g
  · obtain ⟨r, hr, ht⟩ := hstep j (by omega)
    have ht' : takeM (stAt hdA ops (zer 30) 0 (zer 30) j) (j : Int) r = (stAt hdA ops (zer 30) 0 (zer 30) (j + 1), 0) := ht
    have h13 := f13_at (stAt hdA ops (zer 30) 0 (zer 30) j) (j : Int) r ver (hinv j (by omega)).ok (hbigL r (List.mem_of_getElem? hr))
    rw [ht'] at h13
    repeat' ((conv => whnf); first
      | refine Exists.intro _ (And.intro (map_at (by omega) hr) ?_) | refine And.intro (by rw [List.length_map]; omega) ?_ | refine And.intro (by decide) ?_ | refine And.intro rfl ?_ | refine And.intro (by omega) ?_ | refine boolF_dect (by omega) ?_)
    all_goals (conv => whnf)
    refine Turns1.call h13 1 rfl (fun _ => ?_)
    repeat' ((conv => whnf); first
      | refine Exists.intro _ (And.intro (w64 (by omega) (by omega)) ?_))
    all_goals (conv => whnf)
    refine ⟨j + 1, Ghost.back [1, 5, 6, 8, 44, 45, 46] 2 rfl rfl (Nat.zero_le _) (by simp [scs, D.sc]) (fun ob hob => ?_), g, by omega⟩
    simp only [List.mem_cons, List.not_mem_nil, or_false] at hob
    rcases hob with rfl | rfl
    · exact scr26 _ _
    · exact ⟨scB _ _, trivial⟩
  · obtain rfl : j = L.length := by omega
    have hfin : stAt hdA ops (zer 30) 0 (zer 30) L.length = ⟨cm0, 4, applyL (zer 30) ops, true, 0, 0, cm0⟩ := by
      rw [hlen, stAt, if_neg (by omega), if_neg (by omega)]; rfl
    have hinvF := hinv L.length (by omega)
    rw [hfin] at hinvF ⊢
    obtain ⟨F, hF⟩ : ∃ F : Bt, F = ⟨cm0, 4, applyL (zer 30) ops, true, 0, 0, cm0⟩ := ⟨_, rfl⟩
    have hF0 : F.now.snap = 0 ∧ F.there = 4 ∧ F.now = cm0 := by rw [hF]; exact ⟨rfl, rfl, rfl⟩
    rw [← hF] at hinvF ⊢
    have hread := read_all hinvF.made hinvF.all hinvF.n1
    have hFl : F.all.length = 30 := hinvF.all
    repeat' ((conv => whnf); first
      | refine boolF_decf (by omega) ?_)
    all_goals (conv => whnf)
    refine readC (o := 1) rfl (by omega) hread (fun w1 => ?_)
    have hL0 : L[0]? = some hdA := by rw [hL]; rfl
    obtain ⟨bs, hbs⟩ : ∃ bs : Int, bs = if base < 0 then 0 else base := ⟨_, rfl⟩
    obtain ⟨L2, hL2⟩ : ∃ L2 : List Rec, L2 = L.set 0 ⟨1, 0, 4, bs, 0, 0, 30, []⟩ := ⟨_, rfl⟩
    have hmap : L2.map r26 = (L.map r26).set 0 (d26 ⟨1, 0, 4, bs, 0, 0, 30, []⟩) := by rw [hL2, List.map_set]; rfl
    have hL2l : L2.length = L.length := by rw [hL2, List.length_set]
    have hbig2 : ∀ r ∈ L2, r.data_.length ≤ 140737488351232 := fun r hr => by
      rw [hL2] at hr
      rcases List.mem_or_eq_of_mem_set hr with h | h
      · exact hbigL r h
      · subst h; exact Nat.zero_le _
    have hno : ∀ (j : Nat) (r : Rec), L2[j]? = some r → (takeM F (j : Int) r).2 ≠ 0 := fun j r hr => by
      refine refuses hF0.1 ?_
      rcases Nat.eq_zero_or_pos j with h | h
      · subst h
        rw [hL2, List.getElem?_set_self (by omega)] at hr
        cases hr
        exact .inr (by rw [hF0.2.1])
      · exact .inl (by omega)
    have hc0 : F.now.snap = 0 ∧ F.now.count = 0 := by rw [hF0.2.2]; exact ⟨rfl, rfl⟩
    have h14 := f14_ok F.all F.all (by omega) (by omega)
    rw [decide_eq_true rfl] at h14
    by_cases hneg : base < 0
    · rw [if_pos hneg] at hbs
      repeat' ((conv => whnf); first
        | refine Exists.intro _ (And.intro (map_at (by omega) hL0) ?_) | refine And.intro (by rw [List.length_map]; omega) ?_ | refine And.intro (by rw [setRow_len, List.length_map]; omega) ?_ | refine Exists.intro _ (And.intro (setRow_get rfl (by rw [List.length_map]; omega)) ?_) | refine And.intro (by decide) ?_ | refine And.intro rfl ?_ | refine And.intro (by omega) ?_ | refine boolF_dect (by assumption) ?_)
      all_goals (conv => whnf)
      refine W_loopG (ι := Nat) (fun j => ⟨(D.undef :: D.undef :: D.undef :: D.undef :: D.undef :: .int .i64 30 :: D.undef :: D.undef :: .p 1 ver 0 0 :: D.undef :: D.undef :: D.undef :: .h 2 w1 0 F.all.length :: D.undef :: D.undef :: D.undef :: D.undef :: D.undef :: D.undef :: D.undef :: D.undef :: D.undef :: D.undef :: D.undef :: D.undef :: D.undef :: D.undef :: D.undef :: D.undef :: D.undef :: D.undef :: D.undef :: D.undef :: D.undef :: D.undef :: D.undef :: D.undef :: D.undef :: D.undef :: D.undef :: D.undef :: D.undef :: D.undef :: D.undef :: D.undef :: D.undef :: D.undef :: D.undef :: D.undef :: D.undef :: D.undef :: D.undef :: D.undef :: D.undef :: D.undef :: D.undef :: D.undef :: D.undef :: D.undef :: D.undef :: D.undef :: D.undef :: D.undef :: D.undef :: D.undef :: D.undef :: D.undef :: D.undef :: D.undef :: D.undef :: D.undef :: D.undef :: .h 0 v1 0 L.length :: .int .i64 (L.length : Int) :: .int .i64 (j : Int) :: D.undef :: D.undef :: D.undef :: D.undef :: D.undef :: D.undef :: D.undef :: D.undef :: D.undef :: D.undef :: D.undef :: D.undef :: D.undef :: D.undef :: D.undef :: D.undef :: D.undef :: D.undef :: D.undef :: D.undef :: D.undef :: D.undef :: D.undef :: D.undef :: D.undef :: D.undef :: D.undef :: D.undef :: D.undef :: D.undef :: D.undef :: D.undef :: D.undef :: D.undef :: D.undef :: D.undef :: D.undef :: []), [.arr v1 8 (L2.map r26), oB ver F, .arr w1 1 (F.all.map r63)]⟩) (fun j => L.length - j)
        (fun j => j ≤ L.length) 0 (Ghost.hold [5, 8, 12, 72, 73, 74] (by simp only [setRow_eq, List.set_set, hmap, hbs]; rfl)) (Nat.zero_le _) ?_
      rintro j j1
      refine exec_ok tab_ok mixed 1000 (bx := [false, true]) (own := []) ?_
      rcases Nat.lt_or_ge j L.length with g | g
      · obtain ⟨r, hr⟩ := at_lt (l := L2) (i := j) (by omega)
        have hb := hno j r hr
        have h13 := f13_at F (j : Int) r ver hinvF.ok (hbig2 r (List.mem_of_getElem? hr))
        have hsame := take_bad hb
        obtain ⟨T, hT⟩ : ∃ T, T = takeM F (j : Int) r := ⟨_, rfl⟩
        rw [← hT] at h13 hb hsame
        rw [hsame] at h13
        repeat' ((conv => whnf); first
          | refine Exists.intro _ (And.intro (map_at (by omega) hr) ?_) | refine And.intro (by rw [List.length_map]; omega) ?_ | refine And.intro (by decide) ?_ | refine And.intro rfl ?_ | refine And.intro (by omega) ?_ | refine boolF_dect (by omega) ?_)
        all_goals (conv => whnf)
        refine Turns1.call h13 1 rfl (fun _ => ?_)
        repeat' ((conv => whnf); first
          | refine Exists.intro _ (And.intro (w64 (by omega) (by omega)) ?_) | refine boolF_decf (by assumption) ?_)
        all_goals (conv => whnf)
        refine ⟨j + 1, Ghost.back [5, 8, 12, 72, 73, 74] 3 rfl rfl (Nat.zero_le _) (by simp [scs, D.sc]) (fun ob hob => ?_), g, by omega⟩
        simp only [List.mem_cons, List.not_mem_nil, or_false] at hob
        rcases hob with rfl | rfl | rfl
        · exact scr26 _ _
        · exact ⟨scB _ _, trivial⟩
        · exact scr63 _ _
      · obtain rfl : j = L.length := by omega
        repeat' ((conv => whnf); first
          | refine boolF_decf (by omega) ?_)
        all_goals (conv => whnf)
        refine readC (o := 1) rfl (by omega) hread (fun w2 => ?_)
        (conv => whnf)
        refine comingC (o := 1) rfl hinvF.made ?_
        (conv => whnf)
        refine Pure.seeK h14 [(2, .arr w1 1 (F.all.map r63)), (3, .arr w2 1 (F.all.map r63))] (fact2 rfl rfl) (.cons (.h mem0 (.all (scr63 _ _)) (all_take rfl)) (.cons (.h mem1 (.all (scr63 _ _)) (all_take rfl)) .nil)) trivial trivial ?_
        repeat' ((conv => whnf); first
          | refine boolF_dect (by omega) ?_)
        all_goals (conv => whnf)
        refine snapC (o := 1) rfl hinvF.made ?_
        (conv => whnf)
        exact ⟨congrArg D.bool (by rw [hF0.2.1]; rfl)⟩
    · rw [if_neg hneg] at hbs
      repeat' ((conv => whnf); first
        | refine And.intro (by rw [List.length_map]; omega) ?_ | refine And.intro (by decide) ?_ | refine And.intro rfl ?_ | refine And.intro (by omega) ?_ | refine Exists.intro _ (And.intro (map_get (by assumption)) ?_) | refine boolF_decf (by assumption) ?_)
      all_goals (conv => whnf)
      refine W_loopG (ι := Nat) (fun j => ⟨(D.undef :: D.undef :: D.undef :: D.undef :: D.undef :: .int .i64 30 :: D.undef :: D.undef :: .p 1 ver 0 0 :: D.undef :: D.undef :: D.undef :: .h 2 w1 0 F.all.length :: D.undef :: D.undef :: D.undef :: D.undef :: D.undef :: D.undef :: D.undef :: D.undef :: D.undef :: D.undef :: D.undef :: D.undef :: D.undef :: D.undef :: D.undef :: D.undef :: D.undef :: D.undef :: D.undef :: D.undef :: D.undef :: D.undef :: D.undef :: D.undef :: D.undef :: D.undef :: D.undef :: D.undef :: D.undef :: D.undef :: D.undef :: D.undef :: D.undef :: D.undef :: D.undef :: D.undef :: D.undef :: D.undef :: D.undef :: D.undef :: D.undef :: D.undef :: D.undef :: D.undef :: D.undef :: D.undef :: D.undef :: D.undef :: D.undef :: D.undef :: D.undef :: D.undef :: D.undef :: D.undef :: D.undef :: D.undef :: D.undef :: D.undef :: D.undef :: .h 0 v1 0 L.length :: .int .i64 (L.length : Int) :: .int .i64 (j : Int) :: D.undef :: D.undef :: D.undef :: D.undef :: D.undef :: D.undef :: D.undef :: D.undef :: D.undef :: D.undef :: D.undef :: D.undef :: D.undef :: D.undef :: D.undef :: D.undef :: D.undef :: D.undef :: D.undef :: D.undef :: D.undef :: D.undef :: D.undef :: D.undef :: D.undef :: D.undef :: D.undef :: D.undef :: D.undef :: D.undef :: D.undef :: D.undef :: D.undef :: D.undef :: D.undef :: D.undef :: D.undef :: []), [.arr v1 8 (L2.map r26), oB ver F, .arr w1 1 (F.all.map r63)]⟩) (fun j => L.length - j)
        (fun j => j ≤ L.length) 0 (Ghost.hold [5, 8, 12, 72, 73, 74] (by simp only [setRow_eq, List.set_set, hmap, hbs]; rfl)) (Nat.zero_le _) ?_
      rintro j j1
      refine exec_ok tab_ok mixed 1000 (bx := [false, true]) (own := []) ?_
      rcases Nat.lt_or_ge j L.length with g | g
      · obtain ⟨r, hr⟩ := at_lt (l := L2) (i := j) (by omega)
        have hb := hno j r hr
        have h13 := f13_at F (j : Int) r ver hinvF.ok (hbig2 r (List.mem_of_getElem? hr))
        have hsame := take_bad hb
        obtain ⟨T, hT⟩ : ∃ T, T = takeM F (j : Int) r := ⟨_, rfl⟩
        rw [← hT] at h13 hb hsame
        rw [hsame] at h13
        repeat' ((conv => whnf); first
          | refine Exists.intro _ (And.intro (map_at (by omega) hr) ?_) | refine And.intro (by rw [List.length_map]; omega) ?_ | refine And.intro (by decide) ?_ | refine And.intro rfl ?_ | refine And.intro (by omega) ?_ | refine boolF_dect (by omega) ?_)
        all_goals (conv => whnf)
        refine Turns1.call h13 1 rfl (fun _ => ?_)
        repeat' ((conv => whnf); first
          | refine Exists.intro _ (And.intro (w64 (by omega) (by omega)) ?_) | refine boolF_decf (by assumption) ?_)
        all_goals (conv => whnf)
        refine ⟨j + 1, Ghost.back [5, 8, 12, 72, 73, 74] 3 rfl rfl (Nat.zero_le _) (by simp [scs, D.sc]) (fun ob hob => ?_), g, by omega⟩
        simp only [List.mem_cons, List.not_mem_nil, or_false] at hob
        rcases hob with rfl | rfl | rfl
        · exact scr26 _ _
        · exact ⟨scB _ _, trivial⟩
        · exact scr63 _ _
      · obtain rfl : j = L.length := by omega
        repeat' ((conv => whnf); first
          | refine boolF_decf (by omega) ?_)
        all_goals (conv => whnf)
        refine readC (o := 1) rfl (by omega) hread (fun w2 => ?_)
        (conv => whnf)
        refine comingC (o := 1) rfl hinvF.made ?_
        (conv => whnf)
        refine Pure.seeK h14 [(2, .arr w1 1 (F.all.map r63)), (3, .arr w2 1 (F.all.map r63))] (fact2 rfl rfl) (.cons (.h mem0 (.all (scr63 _ _)) (all_take rfl)) (.cons (.h mem1 (.all (scr63 _ _)) (all_take rfl)) .nil)) trivial trivial ?_
        repeat' ((conv => whnf); first
          | refine boolF_dect (by omega) ?_)
        all_goals (conv => whnf)
        refine snapC (o := 1) rfl hinvF.made ?_
        (conv => whnf)
        exact ⟨congrArg D.bool (by rw [hF0.2.1]; rfl)⟩
end Go.Proofs.Ytjoeonhmejnkmaa

