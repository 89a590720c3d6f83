import Derived.Test.YtjoeonhmejnkmaaL15
namespace Go.Proofs.Ytjoeonhmejnkmaa
open Go.A
set_option linter.unusedVariables false
set_option linter.unusedSimpArgs false
set_option linter.unnecessarySimpa false
attribute [local irreducible] IntKind.wrap bitsI
open B
set_option maxRecDepth 100000
set_option maxHeartbeats 4000000

theorem read_all {b : Bt} {n : Nat} (h1 : b.made = true) (h2 : b.all.length = n) (hn : n ≤ 1024) : readB b 0 (n : Int) = (b.all, 0) := by
  rw [readB, if_pos h1, readM, if_neg (by omega), if_pos ⟨Int.le_refl _, by omega, by omega, by omega⟩, Int.toNat_natCast, Int.toNat_zero, List.drop_zero, List.take_of_length_le (by omega)]
theorem begin_ok {b : Bt} {i : Int} {r : Rec} (h : (beginM b i r).2 = 0) : r.kind_ = 1 ∧ r.shard_ = b.shard ∧ r.len_ = (b.all.length : Int) ∧ r.map_ = b.version ∧ r.snap_ ≠ 0 ∧ r.snap_ ≠ b.there ∧ (r.base_ = 0 ∨ r.base_ = b.there) := by
  unfold beginM at h
  split at h
  · cases h
  split at h
  · cases h
  split at h
  · cases h
  split at h
  · cases h
  split at h
  · cases h
  split at h
  · cases h
  omega
theorem begin_there {b : Bt} {i : Int} {r : Rec} : (beginM b i r).1.there = b.there := by
  unfold beginM
  repeat (split; rfl)
  rfl

theorem take0_ok {b : Bt} {r : Rec} (h : (takeM b 0 r).2 = 0) (h0 : b.now.snap = 0) : takeM b 0 r = beginM b 0 r := by
  unfold takeM at h ⊢
  split at h
  · cases h
  rename_i g1
  rw [if_neg g1]
  split at h
  · cases h
  rename_i g2
  rw [if_neg g2, if_pos h0]
theorem scd23a (k : Nat) (l : List T32) : (d23 l).sc k := by
  show scs k (l.map r33)
  rw [scs_map]; intro x _
  exact ⟨trivial, trivial, scc26 _ _⟩

theorem landRefused_true (how : T22) (script : List T32) (head : T25) (h0 : ok22 how) (h1 : ok23 script) (h2 : ok26 head) : CallsIn Try.prog 3 [d22 how, d23 script, d26 head] [] fun r _ => r = .bool true := by
  have hsl : script.length ≤ 140737488351232 := by have := h1.2; simp [td33] at this; omega
  have hbigd : ∀ a ∈ script, a.r_.data_.length ≤ 140737488351232 := fun a ha => by have := (h1.1 a ha).2.2.2.2.2.2.2.2.2.2; simp [td63] at this; omega
  have hhd : head.data_.length ≤ 140737488351232 := by have := h2.2.2.2.2.2.2.2.2; simp [td63] at this; omega
  refine CallsIn.of_exec tab_ok mixed Try.func3 rfl rfl [] [] ?_
  by_cases hn : newOk how.a0_ how.a1_ how.a2_
  case neg =>
    have h8 := f8_bad _ _ _ hn
    repeat' ((conv => whnf); first
      | refine And.intro (by decide) ?_)
    all_goals (conv => whnf)
    refine Pure.call h8 ?_
    repeat' ((conv => whnf); first
      | refine Pure.call (f9_ok) ?_)
    all_goals (conv => whnf)
    exact ⟨rfl⟩
  repeat' ((conv => whnf); first
    | refine And.intro (by decide) ?_)
  all_goals (conv => whnf)
  refine OwnedR.call (f8_own _ _ _ hn) (fun ver => ?_)
  repeat' ((conv => whnf); first
    | refine And.intro rfl ?_ | refine Exists.intro _ (And.intro (⟨(List.length_map _).symm⟩) ?_) | refine Pure.call (f9_ok) ?_)
  all_goals (conv => whnf)
  have inv0 := inv_new hn
  obtain ⟨N, hN⟩ : ∃ N, N = how.a2_.toNat := ⟨_, rfl⟩
  have hNi : how.a2_ = (N : Int) := by have := hn.2.2.1; omega
  rw [← hN] at inv0
  refine W_loopG (ι := Nat × Bt) (fun i => ⟨(D.undef :: D.undef :: D.undef :: .pe (c22 how) :: D.undef :: .pe (c26 head) :: D.undef :: .p 0 ver 0 0 :: D.undef :: D.undef :: D.undef :: D.undef :: D.undef :: D.undef :: D.undef :: D.undef :: D.undef :: D.undef :: D.undef :: D.undef :: D.undef :: D.undef :: D.undef :: D.undef :: D.undef :: D.undef :: D.undef :: D.undef :: D.undef :: D.undef :: D.undef :: D.undef :: D.undef :: D.undef :: D.undef :: D.undef :: D.undef :: D.undef :: D.undef :: D.undef :: D.undef :: D.undef :: d23 script :: .int .i64 (script.length : Int) :: .int .i64 (i.1 : Int) :: D.undef :: D.undef :: D.undef :: D.undef :: D.undef :: D.undef :: D.undef :: D.undef :: D.undef :: D.undef :: D.undef :: D.undef :: D.undef :: D.undef :: D.undef :: D.undef :: D.undef :: D.undef :: D.undef :: D.undef :: D.undef :: D.undef :: D.undef :: D.undef :: D.undef :: D.undef :: D.undef :: D.undef :: D.undef :: D.undef :: D.undef :: D.undef :: D.undef :: D.undef :: D.undef :: D.undef :: D.undef :: D.undef :: D.undef :: D.undef :: D.undef :: D.undef :: D.undef :: D.undef :: D.undef :: D.undef :: D.undef :: D.undef :: D.undef :: D.undef :: D.undef :: D.undef :: D.undef :: D.undef :: D.undef :: D.undef :: D.undef :: D.undef :: D.undef :: D.undef :: D.undef :: D.undef :: D.undef :: D.undef :: D.undef :: D.undef :: D.undef :: D.undef :: D.undef :: D.undef :: D.undef :: D.undef :: D.undef :: D.undef :: D.undef :: D.undef :: D.undef :: D.undef :: D.undef :: D.undef :: D.undef :: D.undef :: D.undef :: D.undef :: D.undef :: D.undef :: D.undef :: D.undef :: D.undef :: D.undef :: D.undef :: D.undef :: D.undef :: D.undef :: D.undef :: D.undef :: D.undef :: D.undef :: D.undef :: D.undef :: D.undef :: D.undef :: D.undef :: D.undef :: D.undef :: D.undef :: D.undef :: D.undef :: D.undef :: D.undef :: D.undef :: D.undef :: D.undef :: D.undef :: []), [oB ver i.2]⟩) (fun i => script.length - i.1)
    (fun i => i.1 ≤ script.length ∧ InvB how.a0_ how.a1_ N i.2) (0, newB how.a0_ how.a1_ how.a2_) (Ghost.hold [3, 5, 7, 42, 43, 44] rfl) ⟨Nat.zero_le _, inv0⟩ ?_
  rintro ⟨i, b⟩ ⟨i1, inv⟩
  dsimp only at i1 inv ⊢
  have hread := read_all inv.made inv.all inv.n1
  rw [← hNi] at hread
  have hbig : b.all.length ≤ 1024 := by rw [inv.all]; exact inv.n1
  refine exec_ok tab_ok mixed 1000 (bx := [true]) (own := []) ?_
  rcases Nat.lt_or_ge i script.length with h | h
  · obtain ⟨a, ha⟩ := at_lt h
    have had := hbigd a (List.mem_of_getElem? ha)
    have htb := take_bad (b := b) (i := a.i_) (r := a.r_)
    have hti := inv_take inv a.i_ a.r_
    have h13 := f13_at b a.i_ a.r_ ver inv.ok had
    obtain ⟨T, hT⟩ : ∃ T, T = takeM b a.i_ a.r_ := ⟨_, rfl⟩
    rw [← hT] at h13 htb hti
    have h14 := f14_ok b.all b.all (by omega) (by omega)
    rw [decide_eq_true rfl] at h14
    repeat' ((conv => whnf); first
      | refine Exists.intro _ (And.intro (map_at (by omega) ha) ?_) | refine And.intro (by decide) ?_ | refine And.intro rfl ?_ | refine And.intro (by omega) ?_ | refine boolF_dect (by omega) ?_)
    all_goals (conv => whnf)
    refine comingC (o := 0) rfl inv.made ?_
    (conv => whnf)
    refine snapC (o := 0) rfl inv.made ?_
    repeat' ((conv => whnf); first
      | refine And.intro (by decide) ?_)
    all_goals (conv => whnf)
    refine readC (o := 0) rfl (by omega) hread (fun w1 => ?_)
    repeat' ((conv => whnf); first
      | refine And.intro (by decide) ?_ | refine And.intro (Nat.le_of_ble_eq_true rfl) ?_)
    all_goals (conv => whnf)
    refine Turns1.call h13 0 rfl (fun _ => ?_)
    by_cases he : T.2 = 0
    · repeat' ((conv => whnf); first
        | refine Exists.intro _ (And.intro (w64 (by omega) (by omega)) ?_) | refine boolF_dect (by assumption) ?_)
      all_goals (conv => whnf)
      refine ⟨(i + 1, T.1), Ghost.back [3, 5, 7, 42, 43, 44] 1 rfl rfl (Nat.zero_le _) (by simp [scs, D.sc, scd23a, scc26, c22, d3]) (fun ob hob => ?_), ⟨h, hti⟩, by dsimp only; omega⟩
      simp only [List.mem_singleton] at hob; subst hob
      exact ⟨scB _ _, trivial⟩
    · rw [htb he]
      repeat' ((conv => whnf); first
        | refine boolF_decf (by assumption) ?_)
      all_goals (conv => whnf)
      refine comingC (o := 0) rfl inv.made ?_
      repeat' ((conv => whnf); first
        | refine And.intro (by decide) ?_)
      all_goals (conv => whnf)
      refine readC (o := 0) rfl (by omega) hread (fun w2 => ?_)
      repeat' ((conv => whnf); first
        | refine boolF_t (beq_self_eq_true _) ?_ | refine boolF_not ?_)
      all_goals (conv => whnf)
      refine snapC (o := 0) rfl inv.made ?_
      repeat' ((conv => whnf); first
        | refine boolF_t (beq_self_eq_true _) ?_ | refine boolF_not ?_)
      all_goals (conv => whnf)
      refine Pure.seeK h14 [(2, .arr w1 1 (b.all.map r63)), (3, .arr w2 1 (b.all.map r63))] (fact2 rfl rfl) (.cons (.h mem0 (.all (scr63 _ _)) (all_take rfl)) (.cons (.h mem1 (.all (scr63 _ _)) (all_take rfl)) .nil)) trivial trivial ?_
      repeat' ((conv => whnf); first
        | refine Exists.intro _ (And.intro (w64 (by omega) (by omega)) ?_))
      all_goals (conv => whnf)
      refine ⟨(i + 1, b), Ghost.back [3, 5, 7, 42, 43, 44] 1 rfl rfl (Nat.zero_le _) (by simp [scs, D.sc, scd23a, scc26, c22, d3]) (fun ob hob => ?_), ⟨h, inv⟩, by dsimp only; omega⟩
      simp only [List.mem_singleton] at hob; subst hob
      exact ⟨scB _ _, trivial⟩
  · repeat' ((conv => whnf); first
      | refine boolF_decf (by omega) ?_)
    all_goals (conv => whnf)
    refine Turns1.call (f15_at b ver) 0 rfl (fun _ => ?_)
    (conv => whnf)
    have inv2 := inv_drop inv
    have hs0 : (dropB b).now.snap = 0 := by rw [dropB, if_pos inv.made]; rfl
    have hthere := (inv_take inv2 0 head)
    have h13 := f13_at (dropB b) 0 head ver inv2.ok hhd
    refine Turns1.call h13 0 rfl (fun _ => ?_)
    by_cases hf : (takeM (dropB b) 0 head).2 = 0
    · have e := take0_ok hf hs0
      rw [e] at hf hthere ⊢
      obtain ⟨q1, q2, q3, q4, q5, q6, q7⟩ := begin_ok hf
      rw [inv2.shard] at q2
      rw [inv2.version] at q4
      rw [inv2.all, ← hNi] at q3
      have q8 := begin_there (b := dropB b) (i := 0) (r := head)
      obtain ⟨Z, hZ⟩ : ∃ Z, Z = beginM (dropB b) 0 head := ⟨_, rfl⟩
      rw [← hZ] at hf hthere q8 ⊢
      rw [← q8] at q6 q7
      by_cases hb0 : head.base_ = 0
      · repeat' ((conv => whnf); first
          | refine And.intro (by decide) ?_ | refine boolF_not ?_ | refine boolF_dect (by assumption) ?_ | refine boolF_decf (by assumption) ?_)
        all_goals (conv => whnf)
        refine snapL (o := 0) rfl hthere.made ?_
        repeat' ((conv => whnf); first
          | refine PairK.mk (by kernel_rfl) ?_ | refine boolF_not ?_ | refine boolF_dect (by assumption) ?_ | refine boolF_decf (by assumption) ?_)
        all_goals (conv => whnf)
        exact ⟨rfl⟩
      · have q9 : head.base_ = Z.1.there := by omega
        repeat' ((conv => whnf); first
          | refine And.intro (by decide) ?_ | refine boolF_not ?_ | refine boolF_dect (by assumption) ?_ | refine boolF_decf (by assumption) ?_)
        all_goals (conv => whnf)
        refine snapL (o := 0) rfl hthere.made ?_
        repeat' ((conv => whnf); first
          | refine boolF_not ?_ | refine boolF_decf (by assumption) ?_)
        all_goals (conv => whnf)
        refine snapL (o := 0) rfl hthere.made ?_
        repeat' ((conv => whnf); first
          | refine PairK.mk (by kernel_rfl) ?_ | refine boolF_not ?_ | refine boolF_dect (by assumption) ?_)
        all_goals (conv => whnf)
        exact ⟨rfl⟩
    · repeat' ((conv => whnf); first
        | refine PairK.mk (by kernel_rfl) ?_ | refine boolF_decf (by assumption) ?_)
      all_goals (conv => whnf)
      exact ⟨rfl⟩

end Go.Proofs.Ytjoeonhmejnkmaa

