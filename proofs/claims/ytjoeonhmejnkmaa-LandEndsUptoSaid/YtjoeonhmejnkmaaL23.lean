import Derived.Test.YtjoeonhmejnkmaaL22
namespace Go.Proofs.Ytjoeonhmejnkmaa
open Go.A
set_option linter.unusedVariables false
set_option linter.unusedSimpArgs false
set_option linter.unnecessarySimpa false
attribute [local irreducible] IntKind.wrap bitsI
open B
set_option maxRecDepth 100000
set_option maxHeartbeats 4000000

theorem seeW {n : Nat} {w o : Nat} {l : List Nat} {F : List (Nat × AObj)} (hF : (o, .arr w 1 (l.map r63)) ∈ F) : Sees 0 (fun i => n + i) F (.h o w 0 l.length) (d24 l) := .h hF (.all (scr63 _ _)) (all_take rfl)

theorem whSc (v1 v2 ver w1 w2 : Nat) (L1 L2 : List Rec) (b : Bt) (was will : List Nat) : ∀ ob ∈ [AObj.arr v1 8 (L1.map r26), .arr v2 8 (L2.map r26), oB ver b, .arr 0 1 ((zer 30).map r63), .arr w1 1 (was.map r63), .arr w2 1 (will.map r63)], ob.sc 6 := fun ob hob => by
  simp only [List.mem_cons, List.not_mem_nil, or_false] at hob
  rcases hob with rfl | rfl | rfl | rfl | rfl | rfl
  · exact scr26 _ _
  · exact scr26 _ _
  · exact ⟨scB _ _, trivial⟩
  · exact scr63 _ _
  · exact scr63 _ _
  · exact scr63 _ _

theorem landWhole_true (first second : List Op) (way : List T50) (h0 : ok42 first) (h1 : ok42 second) (h2 : ok47 way) (hn : first.length ≤ 1048576) (hn2 : second.length ≤ 1048576) (hn3 : way.length ≤ 1048576) :
    CallsIn Try.prog 5 [d42 first, d42 second, d47 way] [] fun r _ => r = .bool true := by
  have hbig := lenO h0
  have hbig2 := lenO h1
  have h16 := f16_own hd1 first (by decide) hn hbig
  have h16b := f16_own hd2 second (by decide) hn2 hbig2
  have hbo := build_ok (h := hd1) (ops := first) (n := 30) rfl (by decide) (by decide)
  have hbo2 := build_ok (h := hd2) (ops := second) (n := 30) rfl (by decide) (by decide)
  obtain ⟨B1, hB1⟩ : ∃ B, B = buildM hd1 first := ⟨_, rfl⟩
  obtain ⟨B2, hB2⟩ : ∃ B, B = buildM hd2 second := ⟨_, rfl⟩
  rw [← hB1] at h16 hbo
  rw [← hB2] at h16b hbo2
  refine CallsIn.of_exec tab_ok mixed Try.func5 rfl rfl [] [] ?_
  (conv => whnf)
  refine CallsIn.wk (args' := [d26 hd1, d42 first]) ?_ (.cons (.agg (.cons .refl (.cons .refl (.cons .refl (.cons .refl (.cons .refl (.cons .refl (.cons .refl (.cons .nils .nil))))))))) (.cons .refl .nil))
  refine OwnedR.call h16 (fun v1 => ?_)
  (conv => whnf)
  refine CallsIn.wk (args' := [d26 hd2, d42 second]) ?_ (.cons (.agg (.cons .refl (.cons .refl (.cons .refl (.cons .refl (.cons .refl (.cons .refl (.cons .refl (.cons .nils .nil))))))))) (.cons .refl .nil))
  refine OwnedR.call h16b (fun v2 => ?_)
  (conv => whnf)
  refine OwnedR.call (f8_own 0 0 30 (by decide)) (fun ver => ?_)
  by_cases he : B1.2 = 0
  case neg =>
    repeat' ((conv => whnf); first
      | refine And.intro rfl ?_ | refine Pure.call (f9_ok) ?_ | refine boolF_not ?_ | refine boolF_decf (by assumption) ?_)
    all_goals (conv => whnf)
    exact ⟨rfl⟩
  by_cases he2 : B2.2 = 0
  case neg =>
    repeat' ((conv => whnf); first
      | refine And.intro rfl ?_ | refine Pure.call (f9_ok) ?_ | refine boolF_not ?_ | refine boolF_dect (by assumption) ?_ | refine boolF_decf (by assumption) ?_)
    all_goals (conv => whnf)
    exact ⟨rfl⟩
  obtain ⟨e1, s1⟩ := hbo he
  obtain ⟨e2, s2⟩ := hbo2 he2
  obtain ⟨L1, hL1⟩ : ∃ L, L = strmL hd1 first := ⟨_, rfl⟩
  obtain ⟨L2, hL2⟩ : ∃ L, L = strmL hd2 second := ⟨_, rfl⟩
  rw [← hL1] at e1
  rw [← hL2] at e2
  repeat' ((conv => whnf); first
    | refine And.intro rfl ?_ | refine Pure.call (f9_ok) ?_ | refine boolF_not ?_ | refine boolF_dect (by assumption) ?_)
  all_goals (conv => whnf)
  have hlen : L1.length = first.length + 2 := by rw [hL1]; exact strm_len _ _
  have hlen2 : L2.length = second.length + 2 := by rw [hL2]; exact strm_len _ _
  have hstep := fun j hj => st_step s1 (th := 0) (all := zer 30) (by simp [zer]) (by decide) (.inl rfl) (j := j) hj
  rw [← hL1] at hstep
  have hbigL : ∀ r ∈ L1, r.data_.length ≤ 140737488351232 := fun r hr => by
    rw [hL1] at hr
    have := (s1.may r hr).2
    simp only [kindOk] at this
    omega
  have hbigL2 : ∀ r ∈ L2, r.data_.length ≤ 140737488351232 := fun r hr => by
    rw [hL2] at hr
    have := (s2.may r hr).2
    simp only [kindOk] at this
    omega
  have hinv : ∀ j, j ≤ first.length + 2 → InvB 0 0 30 (stAt hd1 first (zer 30) 0 (zer 30) j) := fun j => by
    induction j with
    | zero => intro _; exact inv_new (s := 0) (v := 0) (n := 30) (by decide)
    | succ j ih =>
      intro hj
      obtain ⟨r, _, ht⟩ := hstep j (by omega)
      have := inv_take (ih (by omega)) (j : Int) r
      have e : takeM (stAt hd1 first (zer 30) 0 (zer 30) j) (j : Int) r = (stAt hd1 first (zer 30) 0 (zer 30) (j + 1), 0) := ht
      rw [e] at this
      exact this
  refine W_loopG (ι := Nat) (fun j => ⟨(d42 first :: d42 second :: d47 way :: D.undef :: D.undef :: D.undef :: D.undef :: .int .i64 30 :: D.undef :: D.undef :: .h 1 v2 0 L2.length :: D.undef :: .p 2 ver 0 0 :: D.undef :: D.undef :: D.undef :: D.undef :: D.undef :: D.undef :: D.undef :: D.undef :: D.undef :: D.undef :: D.undef :: D.undef :: D.undef :: D.undef :: D.undef :: D.undef :: D.undef :: D.undef :: D.undef :: D.undef :: D.undef :: D.undef :: D.undef :: D.undef :: D.undef :: D.undef :: D.undef :: D.undef :: D.undef :: D.undef :: D.undef :: D.undef :: D.undef :: D.undef :: D.undef :: D.undef :: D.undef :: D.undef :: D.undef :: D.undef :: D.undef :: D.undef :: D.undef :: D.undef :: D.undef :: D.undef :: D.undef :: .h 0 v1 0 L1.length :: .int .i64 (L1.length : Int) :: .int .i64 (j : Int) :: D.undef :: D.undef :: D.undef :: D.undef :: D.undef :: D.undef :: D.undef :: D.undef :: D.undef :: D.undef :: D.undef :: D.undef :: D.undef :: D.undef :: D.undef :: D.undef :: D.undef :: D.undef :: D.undef :: D.undef :: D.undef :: D.undef :: D.undef :: D.undef :: D.undef :: D.undef :: D.undef :: D.undef :: D.undef :: D.undef :: D.undef :: D.undef :: D.undef :: D.undef :: D.undef :: D.undef :: D.undef :: D.undef :: D.undef :: D.undef :: D.undef :: D.undef :: D.undef :: D.undef :: D.undef :: D.undef :: D.undef :: D.undef :: D.undef :: D.undef :: D.undef :: D.undef :: D.undef :: D.undef :: D.undef :: D.undef :: D.undef :: D.undef :: D.undef :: D.undef :: D.undef :: D.undef :: D.undef :: D.undef :: D.undef :: D.undef :: D.undef :: D.undef :: D.undef :: D.undef :: D.undef :: D.undef :: D.undef :: D.undef :: D.undef :: D.undef :: D.undef :: D.undef :: D.undef :: D.undef :: D.undef :: D.undef :: D.undef :: D.undef :: D.undef :: D.undef :: D.undef :: D.undef :: D.undef :: D.undef :: D.undef :: D.undef :: D.undef :: D.undef :: []), [.arr v1 8 (L1.map r26), .arr v2 8 (L2.map r26), oB ver (stAt hd1 first (zer 30) 0 (zer 30) j)]⟩) (fun j => L1.length - j)
    (fun j => j ≤ L1.length) 0 (Ghost.hold [0, 1, 2, 7, 10, 12, 60, 61, 62] (by rw [e1, e2]; rfl)) (Nat.zero_le _) ?_
  rintro j j1
  refine exec_ok tab_ok mixed 1000 (bx := [false, false, true]) (own := []) ?_
  rcases Nat.lt_or_ge j L1.length with g | g
  · obtain ⟨r, hr, ht⟩ := hstep j (by omega)
    have ht' : takeM (stAt hd1 first (zer 30) 0 (zer 30) j) (j : Int) r = (stAt hd1 first (zer 30) 0 (zer 30) (j + 1), 0) := ht
    have h13 := f13_at (stAt hd1 first (zer 30) 0 (zer 30) j) (j : Int) r ver (hinv j (by omega)).ok (hbigL r (List.mem_of_getElem? hr))
    rw [ht'] at h13
    repeat' ((conv => whnf); first
      | refine Exists.intro _ (And.intro (map_at (by omega) hr) ?_) | refine And.intro (by rw [List.length_map]; omega) ?_ | refine And.intro (by decide) ?_ | refine And.intro rfl ?_ | refine And.intro (by omega) ?_ | refine boolF_dect (by omega) ?_)
    all_goals (conv => whnf)
    refine Turns1.call h13 2 rfl (fun _ => ?_)
    repeat' ((conv => whnf); first
      | refine Exists.intro _ (And.intro (w64 (by omega) (by omega)) ?_))
    all_goals (conv => whnf)
    refine ⟨j + 1, Ghost.back [0, 1, 2, 7, 10, 12, 60, 61, 62] 3 rfl rfl (Nat.zero_le _) (by simp [scs, D.sc, scd42, d47, scs_map, r51, c51, d5]) (fun ob hob => ?_), g, by omega⟩
    simp only [List.mem_cons, List.not_mem_nil, or_false] at hob
    rcases hob with rfl | rfl | rfl
    · exact scr26 _ _
    · exact scr26 _ _
    · exact ⟨scB _ _, trivial⟩
  · obtain rfl : j = L1.length := by omega
    obtain ⟨was, hwas⟩ : ∃ was, was = applyL (zer 30) first := ⟨_, rfl⟩
    have hfin : stAt hd1 first (zer 30) 0 (zer 30) L1.length = ⟨cm0, 1, was, true, 0, 0, cm0⟩ := by
      rw [hlen, stAt, if_neg (by omega), if_neg (by omega), hwas]; rfl
    have hinvF := hinv L1.length (by omega)
    rw [hfin] at hinvF ⊢
    have hwl : was.length = 30 := hinvF.all
    have hap1 : applyM (zer 30) first = (was, 0) := by rw [hwas]; exact applyM_ok (by simp [zer]) s1.allOk
    have hap2 : applyM was second = (applyL was second, 0) := applyM_ok (by omega) (by rw [hwl]; exact s2.allOk)
    obtain ⟨will, hwill⟩ : ∃ will, will = applyL was second := ⟨_, rfl⟩
    have hwll : will.length = 30 := by rw [hwill, ← hwl]; exact (apply_at (by rw [hwl]; exact s2.allOk)).1
    rw [← hwill] at hap2
    have h17 := f17_own (zer 30) first (by simp [zer]) (by omega) hbig
    have h17b := f17_own was second (by omega) (by omega) hbig2
    rw [hap1] at h17
    rw [hap2] at h17b
    obtain ⟨F, hF⟩ : ∃ F : Bt, F = ⟨cm0, 1, was, true, 0, 0, cm0⟩ := ⟨_, rfl⟩
    have whF : Wh second was F := by rw [hF]; exact ⟨rfl, rfl, rfl, .inl ⟨rfl, rfl, .inl rfl, .inl rfl⟩⟩
    rw [← hF] at hinvF ⊢
    repeat' ((conv => whnf); first
      | refine And.intro (by decide) ?_ | refine boolF_decf (by omega) ?_)
    all_goals (conv => whnf)
    refine OwnedR.seeK h17 [(3, .arr 0 1 ((zer 30).map r63))] (fact1 rfl) (.cons (seeW mem0) (.cons (.same (scd42 _ _)) .nil)) (bares_map fun x => trivial) (fun v => ⟨trivial, trivial, trivial⟩) (fun w1 => ?_)
    (conv => whnf)
    refine OwnedR.seeK h17b [(4, .arr w1 1 (was.map r63))] (fact1 rfl) (.cons (seeW mem0) (.cons (.same (scd42 _ _)) .nil)) (bares_map fun x => trivial) (fun v => ⟨trivial, trivial, trivial⟩) (fun w2 => ?_)
    repeat' ((conv => whnf); first
      | refine Exists.intro _ (And.intro (⟨(List.length_map _).symm⟩) ?_))
    all_goals (conv => whnf)
    have hr1 := read_all (b := F) (n := 30)
    refine W_loopG (ι := Nat × Bt) (fun j => ⟨(D.undef :: D.undef :: D.undef :: D.undef :: D.undef :: D.undef :: D.undef :: .int .i64 30 :: D.undef :: D.undef :: .h 1 v2 0 L2.length :: D.undef :: .p 2 ver 0 0 :: D.undef :: D.undef :: D.undef :: .h 4 w1 0 was.length :: D.undef :: .h 5 w2 0 will.length :: D.undef :: D.undef :: D.undef :: D.undef :: D.undef :: D.undef :: D.undef :: D.undef :: D.undef :: D.undef :: D.undef :: D.undef :: D.undef :: D.undef :: D.undef :: D.undef :: D.undef :: D.undef :: D.undef :: D.undef :: D.undef :: D.undef :: D.undef :: D.undef :: D.undef :: D.undef :: D.undef :: D.undef :: D.undef :: D.undef :: D.undef :: D.undef :: D.undef :: D.undef :: D.undef :: D.undef :: D.undef :: D.undef :: D.undef :: D.undef :: D.undef :: D.undef :: D.undef :: D.undef :: D.undef :: D.undef :: D.undef :: D.undef :: D.undef :: D.undef :: D.undef :: D.undef :: D.undef :: D.undef :: D.undef :: D.undef :: D.undef :: D.undef :: D.undef :: D.undef :: D.undef :: D.undef :: D.undef :: D.undef :: D.undef :: D.undef :: D.undef :: d47 way :: .int .i64 (way.length : Int) :: .int .i64 (j.1 : Int) :: D.undef :: D.undef :: D.undef :: D.undef :: D.undef :: D.undef :: D.undef :: D.undef :: D.undef :: D.undef :: D.undef :: D.undef :: D.undef :: D.undef :: D.undef :: D.undef :: D.undef :: D.undef :: D.undef :: D.undef :: D.undef :: D.undef :: D.undef :: D.undef :: D.undef :: D.undef :: D.undef :: D.undef :: D.undef :: D.undef :: D.undef :: D.undef :: D.undef :: D.undef :: D.undef :: D.undef :: D.undef :: D.undef :: D.undef :: D.undef :: D.undef :: D.undef :: D.undef :: D.undef :: D.undef :: D.undef :: D.undef :: D.undef :: D.undef :: D.undef :: D.undef :: D.undef :: D.undef :: D.undef :: D.undef :: D.undef :: D.undef :: D.undef :: D.undef :: D.undef :: D.undef :: D.undef :: D.undef :: D.undef :: D.undef :: D.undef :: D.undef :: D.undef :: []), [.arr v1 8 (L1.map r26), .arr v2 8 (L2.map r26), oB ver j.2, .arr 0 1 ((zer 30).map r63), .arr w1 1 (was.map r63), .arr w2 1 (will.map r63)]⟩) (fun j => way.length - j.1)
      (fun j => j.1 ≤ way.length ∧ InvB 0 0 30 j.2 ∧ Wh second was j.2) (0, F) (Ghost.hold [7, 10, 12, 16, 18, 86, 87, 88] rfl) ⟨Nat.zero_le _, hinvF, whF⟩ ?_
    rintro ⟨i, b⟩ ⟨i1, inv, wh⟩
    dsimp only at i1 inv wh ⊢
    refine exec_ok tab_ok mixed 1000 (bx := [false, false, true, false, false, false]) (own := []) ?_
    rcases Nat.lt_or_ge i way.length with g | g
    case inr =>
      repeat' ((conv => whnf); first
        | refine boolF_decf (by omega) ?_)
      all_goals (conv => whnf)
      exact ⟨rfl⟩
    obtain ⟨x, hx⟩ := at_lt g
    obtain ⟨q, hq⟩ : ∃ q, q = x.at_ % L2.length := ⟨_, rfl⟩
    have hq1 : Int.tmod (x.at_ : Int) (L2.length : Int) = (q : Int) := by rw [hq]; rfl
    have hq2 : q < L2.length := by rw [hq]; exact Nat.mod_lt _ (by omega)
    obtain ⟨r, hr⟩ := at_lt hq2
    have h13 := f13_at b (Int.tmod (x.at_ : Int) (L2.length : Int)) r ver inv.ok (hbigL2 r (List.mem_of_getElem? hr))
    have hti := inv_take inv (q : Int) r
    have htw := wh_take s2 hwl wh (i := q) (r := r) (by rw [← hL2]; exact hr)
    obtain ⟨T, hT⟩ : ∃ T, T = takeM b (q : Int) r := ⟨_, rfl⟩
    have hxo := h2.1 x (List.mem_of_getElem? hx)
    have hxo1 : x.at_ < 256 := hxo.1
    have hxo2 : x.then_ < 256 := hxo.2
    rw [hq1, ← hT] at h13
    rw [← hT] at hti htw
    repeat' ((conv => whnf); first
      | refine Exists.intro _ (And.intro (map_at (by omega) hx) ?_) | refine Exists.intro _ (And.intro (map_at (by omega) hr) ?_) | refine And.intro (by rw [List.length_map]; omega) ?_ | refine And.intro (by decide) ?_ | refine And.intro rfl ?_ | refine And.intro (Nat.le_of_ble_eq_true rfl) ?_ | refine And.intro (by omega) ?_ | refine Exists.intro _ (And.intro (w64 (by omega) (by omega)) ?_) | refine boolF_dect (by omega) ?_)
    all_goals (conv => whnf)
    rw [hq1]
    refine Turns1.call h13 2 rfl (fun _ => ?_)
    have hs18 := f18_at T.1 ver
    have hs19 := f19_at T.1 ver
    have inv18 := inv_sync hti
    have inv19 := inv_crash hti
    have wh18 := wh_sync htw
    have wh19 := wh_crash htw
    obtain ⟨X, hX⟩ : ∃ X, X = T.1 := ⟨_, rfl⟩
    obtain ⟨Y, hY⟩ : ∃ Y, Y = syncB X := ⟨_, rfl⟩
    obtain ⟨Z, hZ⟩ : ∃ Z, Z = crashB X := ⟨_, rfl⟩
    rw [← hX] at hs18 hs19 inv18 inv19 wh18 wh19 hti htw ⊢
    rw [← hY] at hs18 inv18 wh18
    rw [← hZ] at hs19 inv19 wh19
    by_cases k1 : x.then_ % 3 = 1
    · repeat' ((conv => whnf); first
        | refine And.intro (by decide) ?_ | refine And.intro (Nat.le_of_ble_eq_true rfl) ?_ | refine boolF_dect (by assumption) ?_)
      all_goals (conv => whnf)
      refine Turns1.call hs18 2 rfl (fun _ => ?_)
      (conv => whnf)
      refine readC (o := 2) rfl (by have := inv18.all; omega) (read_all inv18.made inv18.all inv18.n1) (fun w3 => ?_)
      have hbl : Y.all.length = 30 := inv18.all
      rcases wh18.c with ⟨c1, c2, _, _⟩ | ⟨c1, c2, _, _⟩
      · have h14 := f14_ok Y.all was (by omega) (by omega)
        rw [decide_eq_true c2] at h14
        (conv => whnf)
        refine snapC (o := 2) rfl wh18.made ?_
        repeat' ((conv => whnf); first
          | refine boolF_dect (by assumption) ?_)
        all_goals (conv => whnf)
        refine Pure.seeK h14 [(7, .arr w3 1 (Y.all.map r63)), (4, .arr w1 1 (was.map r63))] (fact2 rfl rfl) (.cons (seeW mem0) (.cons (seeW mem1) .nil)) trivial trivial ?_
        (conv => whnf)
        refine snapC (o := 2) rfl wh18.made ?_
        repeat' ((conv => whnf); first
          | refine boolF_decf (by omega) ?_)
        all_goals (conv => whnf)
        refine snapC (o := 2) rfl wh18.made ?_
        repeat' ((conv => whnf); first
          | refine Exists.intro _ (And.intro (w64 (by omega) (by omega)) ?_) | refine boolF_not ?_ | refine boolF_dect (by assumption) ?_)
        all_goals (conv => whnf)
        exact ⟨(i + 1, Y), Ghost.back [7, 10, 12, 16, 18, 86, 87, 88] 6 rfl rfl (Nat.zero_le _) (by simp [scs, D.sc, d47, scs_map, r51, c51, d5]) (whSc _ _ _ _ _ _ _ _ _ _), ⟨g, inv18, wh18⟩, by dsimp only; omega⟩
      · have h14 := f14_ok Y.all will (by omega) (by omega)
        rw [decide_eq_true (by rw [hwill]; exact c2)] at h14
        (conv => whnf)
        refine snapC (o := 2) rfl wh18.made ?_
        repeat' ((conv => whnf); first
          | refine boolF_decf (by omega) ?_)
        all_goals (conv => whnf)
        refine snapC (o := 2) rfl wh18.made ?_
        repeat' ((conv => whnf); first
          | refine boolF_dect (by assumption) ?_)
        all_goals (conv => whnf)
        refine Pure.seeK h14 [(7, .arr w3 1 (Y.all.map r63)), (5, .arr w2 1 (will.map r63))] (fact2 rfl rfl) (.cons (seeW mem0) (.cons (seeW mem1) .nil)) trivial trivial ?_
        (conv => whnf)
        refine snapC (o := 2) rfl wh18.made ?_
        repeat' ((conv => whnf); first
          | refine boolF_not ?_ | refine boolF_decf (by omega) ?_)
        all_goals (conv => whnf)
        refine snapC (o := 2) rfl wh18.made ?_
        repeat' ((conv => whnf); first
          | refine Exists.intro _ (And.intro (w64 (by omega) (by omega)) ?_) | refine boolF_not ?_ | refine boolF_dect (by assumption) ?_)
        all_goals (conv => whnf)
        exact ⟨(i + 1, Y), Ghost.back [7, 10, 12, 16, 18, 86, 87, 88] 6 rfl rfl (Nat.zero_le _) (by simp [scs, D.sc, d47, scs_map, r51, c51, d5]) (whSc _ _ _ _ _ _ _ _ _ _), ⟨g, inv18, wh18⟩, by dsimp only; omega⟩
    by_cases k2 : x.then_ % 3 = 2
    · repeat' ((conv => whnf); first
        | refine And.intro (by decide) ?_ | refine And.intro (Nat.le_of_ble_eq_true rfl) ?_ | refine boolF_dect (by assumption) ?_ | refine boolF_decf (by assumption) ?_)
      all_goals (conv => whnf)
      refine Turns1.call hs19 2 rfl (fun _ => ?_)
      (conv => whnf)
      refine readC (o := 2) rfl (by have := inv19.all; omega) (read_all inv19.made inv19.all inv19.n1) (fun w3 => ?_)
      have hbl : Z.all.length = 30 := inv19.all
      rcases wh19.c with ⟨c1, c2, _, _⟩ | ⟨c1, c2, _, _⟩
      · have h14 := f14_ok Z.all was (by omega) (by omega)
        rw [decide_eq_true c2] at h14
        (conv => whnf)
        refine snapC (o := 2) rfl wh19.made ?_
        repeat' ((conv => whnf); first
          | refine boolF_dect (by assumption) ?_)
        all_goals (conv => whnf)
        refine Pure.seeK h14 [(7, .arr w3 1 (Z.all.map r63)), (4, .arr w1 1 (was.map r63))] (fact2 rfl rfl) (.cons (seeW mem0) (.cons (seeW mem1) .nil)) trivial trivial ?_
        (conv => whnf)
        refine snapC (o := 2) rfl wh19.made ?_
        repeat' ((conv => whnf); first
          | refine boolF_decf (by omega) ?_)
        all_goals (conv => whnf)
        refine snapC (o := 2) rfl wh19.made ?_
        repeat' ((conv => whnf); first
          | refine Exists.intro _ (And.intro (w64 (by omega) (by omega)) ?_) | refine boolF_not ?_ | refine boolF_dect (by assumption) ?_)
        all_goals (conv => whnf)
        exact ⟨(i + 1, Z), Ghost.back [7, 10, 12, 16, 18, 86, 87, 88] 6 rfl rfl (Nat.zero_le _) (by simp [scs, D.sc, d47, scs_map, r51, c51, d5]) (whSc _ _ _ _ _ _ _ _ _ _), ⟨g, inv19, wh19⟩, by dsimp only; omega⟩
      · have h14 := f14_ok Z.all will (by omega) (by omega)
        rw [decide_eq_true (by rw [hwill]; exact c2)] at h14
        (conv => whnf)
        refine snapC (o := 2) rfl wh19.made ?_
        repeat' ((conv => whnf); first
          | refine boolF_decf (by omega) ?_)
        all_goals (conv => whnf)
        refine snapC (o := 2) rfl wh19.made ?_
        repeat' ((conv => whnf); first
          | refine boolF_dect (by assumption) ?_)
        all_goals (conv => whnf)
        refine Pure.seeK h14 [(7, .arr w3 1 (Z.all.map r63)), (5, .arr w2 1 (will.map r63))] (fact2 rfl rfl) (.cons (seeW mem0) (.cons (seeW mem1) .nil)) trivial trivial ?_
        (conv => whnf)
        refine snapC (o := 2) rfl wh19.made ?_
        repeat' ((conv => whnf); first
          | refine boolF_not ?_ | refine boolF_decf (by omega) ?_)
        all_goals (conv => whnf)
        refine snapC (o := 2) rfl wh19.made ?_
        repeat' ((conv => whnf); first
          | refine Exists.intro _ (And.intro (w64 (by omega) (by omega)) ?_) | refine boolF_not ?_ | refine boolF_dect (by assumption) ?_)
        all_goals (conv => whnf)
        exact ⟨(i + 1, Z), Ghost.back [7, 10, 12, 16, 18, 86, 87, 88] 6 rfl rfl (Nat.zero_le _) (by simp [scs, D.sc, d47, scs_map, r51, c51, d5]) (whSc _ _ _ _ _ _ _ _ _ _), ⟨g, inv19, wh19⟩, by dsimp only; omega⟩
    repeat' ((conv => whnf); first
      | refine And.intro (by decide) ?_ | refine And.intro (Nat.le_of_ble_eq_true rfl) ?_ | refine boolF_decf (by assumption) ?_)
    all_goals (conv => whnf)
    refine readC (o := 2) rfl (by have := hti.all; omega) (read_all hti.made hti.all hti.n1) (fun w3 => ?_)
    have hbl : X.all.length = 30 := hti.all
    rcases htw.c with ⟨c1, c2, _, _⟩ | ⟨c1, c2, _, _⟩
    · have h14 := f14_ok X.all was (by omega) (by omega)
      rw [decide_eq_true c2] at h14
      (conv => whnf)
      refine snapC (o := 2) rfl htw.made ?_
      repeat' ((conv => whnf); first
        | refine boolF_dect (by assumption) ?_)
      all_goals (conv => whnf)
      refine Pure.seeK h14 [(7, .arr w3 1 (X.all.map r63)), (4, .arr w1 1 (was.map r63))] (fact2 rfl rfl) (.cons (seeW mem0) (.cons (seeW mem1) .nil)) trivial trivial ?_
      (conv => whnf)
      refine snapC (o := 2) rfl htw.made ?_
      repeat' ((conv => whnf); first
        | refine boolF_decf (by omega) ?_)
      all_goals (conv => whnf)
      refine snapC (o := 2) rfl htw.made ?_
      repeat' ((conv => whnf); first
        | refine Exists.intro _ (And.intro (w64 (by omega) (by omega)) ?_) | refine boolF_not ?_ | refine boolF_dect (by assumption) ?_)
      all_goals (conv => whnf)
      exact ⟨(i + 1, X), Ghost.back [7, 10, 12, 16, 18, 86, 87, 88] 6 rfl rfl (Nat.zero_le _) (by simp [scs, D.sc, d47, scs_map, r51, c51, d5]) (whSc _ _ _ _ _ _ _ _ _ _), ⟨g, hti, htw⟩, by dsimp only; omega⟩
    · have h14 := f14_ok X.all will (by omega) (by omega)
      rw [decide_eq_true (by rw [hwill]; exact c2)] at h14
      (conv => whnf)
      refine snapC (o := 2) rfl htw.made ?_
      repeat' ((conv => whnf); first
        | refine boolF_decf (by omega) ?_)
      all_goals (conv => whnf)
      refine snapC (o := 2) rfl htw.made ?_
      repeat' ((conv => whnf); first
        | refine boolF_dect (by assumption) ?_)
      all_goals (conv => whnf)
      refine Pure.seeK h14 [(7, .arr w3 1 (X.all.map r63)), (5, .arr w2 1 (will.map r63))] (fact2 rfl rfl) (.cons (seeW mem0) (.cons (seeW mem1) .nil)) trivial trivial ?_
      (conv => whnf)
      refine snapC (o := 2) rfl htw.made ?_
      repeat' ((conv => whnf); first
        | refine boolF_not ?_ | refine boolF_decf (by omega) ?_)
      all_goals (conv => whnf)
      refine snapC (o := 2) rfl htw.made ?_
      repeat' ((conv => whnf); first
        | refine Exists.intro _ (And.intro (w64 (by omega) (by omega)) ?_) | refine boolF_not ?_ | refine boolF_dect (by assumption) ?_)
      all_goals (conv => whnf)
      exact ⟨(i + 1, X), Ghost.back [7, 10, 12, 16, 18, 86, 87, 88] 6 rfl rfl (Nat.zero_le _) (by simp [scs, D.sc, d47, scs_map, r51, c51, d5]) (whSc _ _ _ _ _ _ _ _ _ _), ⟨g, hti, htw⟩, by dsimp only; omega⟩

end Go.Proofs.Ytjoeonhmejnkmaa

