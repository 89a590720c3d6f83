import Derived.Test.YtlfbchkcgchoaaaC17
namespace Go.Proofs.Ytlfbchkcgchoaaa.C
open Go.A
set_option linter.unusedVariables false
set_option linter.unusedSimpArgs false
set_option linter.unnecessarySimpa false
attribute [local irreducible] IntKind.wrap bitsI
open B
set_option maxRecDepth 100000
set_option maxHeartbeats 4000000

def meetP (a b : T38) : Prop := a.off_ < b.off_ + ((dat b).length : Int) ∧ b.off_ < a.off_ + ((dat a).length : Int)
instance (a b : T38) : Decidable (meetP a b) := inferInstanceAs (Decidable (_ ∧ _))

theorem f35_ok (a c b : Nat) (ha : a ≤ 1024) (hc : c ≤ 1024) (hb : b ≤ 1024) : Pure Try.prog 35 [.int .i64 (a : Int), .int .i64 (c : Int), .int .i64 (b : Int)] (.bool (decide (c = 0 ∨ a + c ≤ b))) := by
  refine Pure.of ⟨trivial, trivial, trivial, trivial⟩ trivial ?_
  refine Go.A.CallsIn.of_exec tab_ok mixed Try.func35 rfl rfl [] [] ?_
  by_cases h0 : c = 0
  · repeat' ((conv => whnf); first
      | refine boolF_dect (by omega) ?_)
    all_goals (conv => whnf)
    exact ⟨bool_t (.inl h0)⟩
  · by_cases h1 : a ≤ b
    · by_cases h2 : c ≤ b - a
      · repeat' ((conv => whnf); first
          | refine Exists.intro _ (And.intro (u64sub (by omega) (by omega)) ?_) | refine Exists.intro _ (And.intro (u64w (by omega)) ?_) | refine boolF_dect (by omega) ?_ | refine boolF_decf (by omega) ?_)
        all_goals (conv => whnf)
        exact ⟨congrArg D.bool (decide_eq_decide.mpr (by omega))⟩
      · repeat' ((conv => whnf); first
          | refine Exists.intro _ (And.intro (u64sub (by omega) (by omega)) ?_) | refine Exists.intro _ (And.intro (u64w (by omega)) ?_) | refine boolF_dect (by omega) ?_ | refine boolF_decf (by omega) ?_)
        all_goals (conv => whnf)
        exact ⟨congrArg D.bool (decide_eq_decide.mpr (by omega))⟩
    · repeat' ((conv => whnf); first
        | refine boolF_decf (by omega) ?_)
      all_goals (conv => whnf)
      exact ⟨bool_f (by omega)⟩

theorem f18_ok (n : Int) (a b : T38) (ha : okOp n a) (hb : okOp n b) : Pure Try.prog 18 [d39 a, d39 b] (.bool (decide (meetP a b))) := by
  have ka := f34_ok a (by have := ha.2.2.2; omega)
  have kb := f34_ok b (by have := hb.2.2.2; omega)
  obtain ⟨d1, d2, d3', d4⟩ := dat_len ha
  obtain ⟨e1, e2, e3, e4⟩ := dat_len hb
  obtain ⟨x, hx⟩ := Int.eq_ofNat_of_zero_le ha.2.2.1
  obtain ⟨y, hy⟩ := Int.eq_ofNat_of_zero_le hb.2.2.1
  have hn := ha.2.1
  have hmp : decide (meetP a b) = decide ((x : Int) < (y : Int) + ((dat b).length : Int) ∧ (y : Int) < (x : Int) + ((dat a).length : Int)) := decide_eq_decide.mpr (by rw [meetP, hx, hy])
  rw [hmp]
  clear hmp
  rw [rngD, d2, ← d1] at ka
  rw [rngD, e2, ← e1] at kb
  rw [hx] at ka d4
  rw [hy] at kb e4
  generalize (dat a).length = c at *
  generalize (dat b).length = d at *
  refine Pure.of ⟨scd39 _ _, scd39 _ _, trivial⟩ trivial ?_
  refine Go.A.CallsIn.of_exec tab_ok mixed Try.func18 rfl rfl [] [] ?_
  have k1 := f35_ok x c y (by omega) (by omega) (by omega)
  have k2 := f35_ok y d x (by omega) (by omega) (by omega)
  (conv => whnf)
  refine Pure.call ka ?_
  (conv => whnf)
  refine Pure.call kb ?_
  by_cases h1 : c = 0 ∨ x + c ≤ y
  · repeat' ((conv => whnf); first
      | refine Pure.call (k1) ?_ | refine boolF_not ?_ | refine boolF_dect (by assumption) ?_ | refine boolF_dect (by omega) ?_)
    all_goals (conv => whnf)
    exact ⟨bool_f (by omega)⟩
  · by_cases h2 : d = 0 ∨ y + d ≤ x
    · repeat' ((conv => whnf); first
        | refine Pure.call (k1) ?_ | refine Pure.call (k2) ?_ | refine boolF_not ?_ | refine boolF_decf (by assumption) ?_ | refine boolF_dect (by omega) ?_)
      all_goals (conv => whnf)
      exact ⟨congrArg D.bool (by rw [Bool.eq_iff_iff]; simp; omega)⟩
    · repeat' ((conv => whnf); first
        | refine Pure.call (k1) ?_ | refine Pure.call (k2) ?_ | refine boolF_not ?_ | refine boolF_decf (by assumption) ?_ | refine boolF_dect (by omega) ?_)
      all_goals (conv => whnf)
      exact ⟨congrArg D.bool (by rw [Bool.eq_iff_iff]; simp; omega)⟩

theorem not_meet {n : Int} {a b : T38} (ha : okOp n a) (hb : okOp n b) (hm : ¬ meetP a b) (j : Nat) : val a j = none ∨ val b j = none := by
  have z1 := ha.2.2.1
  have z2 := hb.2.2.1
  simp only [meetP] at hm
  simp only [val]
  by_cases q1 : a.off_.toNat ≤ j ∧ j < a.off_.toNat + (dat a).length
  · by_cases q2 : b.off_.toNat ≤ j ∧ j < b.off_.toNat + (dat b).length
    · omega
    · rw [if_neg q2]; exact .inr rfl
  · rw [if_neg q1]; exact .inl rfl

/-- What was done, and not done to since, shows. -/
theorem ord_shows {h : List Dn} {n : Nat} (ha : allD n h) {S : Mk} {v : List Nat} (o : Ord h n S v) {i : Nat} {d : Dn} (hd : h[i]? = some d) (hal : ∀ (k : Nat) (e : Dn), h[k]? = some e → k = i ∨ aheadD e d ∨ ¬ meetP e.op_ d.op_) : S i = true → ∀ j x, val d.op_ j = some x → at0 v j = x := by
  induction o with
  | nil => intro hi; exact absurd hi (emp_at i)
  | @snoc S0 x0 k e o hk hn hc ih =>
    intro hi j x hx
    have hok := (ha e (List.mem_of_getElem? hk)).1
    rw [(do_at (by rw [o.len ha]; exact hok)).2 j]
    by_cases hki : k = i
    · subst hki
      rw [hd] at hk; cases hk
      rw [hx]; rfl
    · have hi0 : S0 i = true := by
        rcases (Mk.with_at _ _ _).mp hi with h1 | h1
        · exact absurd h1.symm hki
        · exact h1
      rcases hal k e hk with h1 | h1 | h1
      · exact absurd h1 hki
      · have := o.closed hi0 hd hk h1
        rw [hn] at this; cases this
      · rcases not_meet hok (ha d (List.mem_of_getElem? hd)).1 h1 j with h2 | h2
        · rw [h2]; exact ih hi0 j x hx
        · rw [h2] at hx; cases hx

def aloneB (s : T22) (d : Dn) : Prop := 0 ≤ d.end_ ∧ d.end_ < s.from_ ∧ d.start_ ≤ s.to_ ∧ d.op_.kind_ = 1
theorem cutShows_true (n : Nat) (s : T22) (h : List Dn) (h0 : ok5 n) (h1 : ok23 s) (h2 : ok24 h) : Go.A.CallsIn Try.prog 6 [d5 n, d23 s, d24 h] [] fun r _ => r = .bool true := by
  obtain ⟨hbig, hl64⟩ := ok24_big h2
  have hn : n < 256 := h0
  have h10 := f10_ok h (by omega)
  obtain ⟨k, hk⟩ : ∃ k : Nat, k = n % 40 + 1 := ⟨_, rfl⟩
  have hkI : ((n % 40 : Nat) : Int) + 1 = (k : Int) := by omega
  have hk40 : 1 ≤ k ∧ k ≤ 40 := by omega
  refine Go.A.CallsIn.of_execN 4 tab_ok mixed Try.func6 rfl rfl [] [] ?_
  repeat' ((conv => whnf); first
    | refine And.intro (by decide) ?_ | refine Exists.intro _ (And.intro (w64 (by omega) (by omega)) ?_))
  all_goals (conv => whnf)
  rw [hkI]
  refine exec_ok tab_ok mixed 1000 (bx := []) (own := []) ?_
  have h9 := f9_ok (k : Int) s.from_ s.to_ h (by omega) hbig
  by_cases hr : rightC (k : Int) h = 0
  · rw [allR, allM, if_neg (by omega), if_pos hr, Int.toNat_natCast] at h9
    dsimp only at h9
    obtain ⟨hn6, ha⟩ := rightC_ok hr
    obtain ⟨l, hl⟩ : ∃ l, l = cutsL h k s.from_ s.to_ := ⟨_, rfl⟩
    rw [← hl] at h9
    have hll : l.length ≤ 52706752 := by rw [hl]; exact cuts_len hn6 _ _ _
    repeat' ((conv => whnf); first
      | refine PairK.mk (by kernel_rfl) ?_ | refine Exists.intro _ (And.intro (⟨(List.length_map _).symm⟩) ?_) | refine Pure.locK (h10) ?_ | refine Pure.locK (h9) ?_)
    all_goals (conv => whnf)
    refine W_loopG (ι := Nat) (fun i => ⟨(D.undef :: D.undef :: d24 h :: D.undef :: .pe (c23 s) :: D.undef :: D.undef :: D.undef :: d25 l :: D.undef :: D.undef :: D.undef :: D.undef :: D.undef :: D.undef :: D.undef :: D.undef :: D.undef :: D.undef :: D.undef :: D.undef :: D.undef :: D.undef :: D.undef :: D.undef :: D.undef :: D.undef :: D.undef :: D.undef :: D.undef :: D.undef :: D.undef :: D.undef :: D.undef :: D.undef :: d24 h :: .int .i64 (h.length : Int) :: .int .i64 (i : Int) :: D.undef :: D.undef :: D.undef :: D.undef :: D.undef :: D.undef :: D.undef :: D.undef :: D.undef :: D.undef :: D.undef :: D.undef :: D.undef :: D.undef :: D.undef :: D.undef :: D.undef :: D.undef :: D.undef :: D.undef :: D.undef :: D.undef :: D.undef :: D.undef :: D.undef :: D.undef :: D.undef :: D.undef :: D.undef :: D.undef :: D.undef :: D.undef :: D.undef :: D.undef :: D.undef :: D.undef :: D.undef :: D.undef :: D.undef :: D.undef :: D.undef :: D.undef :: D.undef :: D.undef :: D.undef :: D.undef :: D.undef :: D.undef :: D.undef :: D.undef :: D.undef :: D.undef :: D.undef :: D.undef :: D.undef :: D.undef :: D.undef :: D.undef :: D.undef :: D.undef :: D.undef :: D.undef :: D.undef :: D.undef :: D.undef :: D.undef :: D.undef :: D.undef :: D.undef :: D.undef :: D.undef :: D.undef :: D.undef :: D.undef :: D.undef :: D.undef :: D.undef :: D.undef :: D.undef :: D.undef :: D.undef :: D.undef :: D.undef :: []), []⟩) (fun i => h.length - i) (fun i => i ≤ h.length) 0 (Ghost.hold [2, 4, 8, 35, 36, 37] rfl) (Nat.zero_le _) ?_
    rintro i i1
    rcases Nat.lt_or_ge i h.length with hi | hi
    · refine exec_ok tab_ok mixed 10 (bx := []) (own := []) ?_
      obtain ⟨x, hx⟩ := at_lt hi
      have hxr := ha x (List.mem_of_getElem? hx)
      repeat' ((conv => whnf); first
        | refine Exists.intro _ (And.intro (map_at (by omega) hx) ?_) | refine And.intro (by decide) ?_ | refine And.intro rfl ?_ | refine And.intro (by omega) ?_ | refine boolF_dect (by omega) ?_)
      all_goals (conv => whnf)
      refine W_midG (ι := Bool) (fun b => ⟨(D.undef :: D.undef :: d24 h :: D.undef :: .pe (c23 s) :: D.undef :: D.undef :: D.undef :: d25 l :: D.undef :: .int .i64 (i : Int) :: .p 0 0 0 0 :: .bool b :: D.undef :: D.undef :: D.undef :: D.undef :: D.undef :: D.undef :: D.undef :: D.undef :: D.undef :: D.undef :: D.undef :: D.undef :: D.undef :: D.undef :: D.undef :: D.undef :: D.undef :: D.undef :: D.undef :: D.undef :: D.undef :: D.undef :: d24 h :: .int .i64 (h.length : Int) :: .int .i64 (i : Int) :: D.undef :: D.undef :: D.undef :: D.undef :: D.undef :: D.undef :: D.undef :: D.undef :: D.undef :: D.undef :: D.undef :: D.undef :: D.undef :: D.undef :: D.undef :: D.undef :: D.undef :: D.undef :: D.undef :: D.undef :: D.undef :: D.undef :: D.undef :: D.undef :: D.undef :: D.undef :: D.undef :: D.undef :: D.undef :: D.undef :: D.undef :: D.undef :: D.undef :: D.undef :: D.undef :: D.undef :: D.undef :: D.undef :: D.undef :: D.undef :: D.undef :: D.undef :: D.undef :: D.undef :: D.undef :: D.undef :: D.undef :: D.undef :: D.undef :: D.undef :: D.undef :: D.undef :: D.undef :: D.undef :: D.undef :: D.undef :: D.undef :: D.undef :: D.undef :: D.undef :: D.undef :: D.undef :: D.undef :: D.undef :: D.undef :: D.undef :: D.undef :: D.undef :: D.undef :: D.undef :: D.undef :: D.undef :: D.undef :: D.undef :: D.undef :: D.undef :: D.undef :: D.undef :: D.undef :: D.undef :: D.undef :: D.undef :: D.undef :: []), [.arr 0 6 [d42 x]]⟩) (fun b => b = true ↔ aloneB s x) ?_ ?_
      · refine exec_ok tab_ok mixed 1000 (bx := [true]) (own := []) ?_
        by_cases q1 : 0 ≤ x.end_
        · by_cases q2 : x.end_ < s.from_
          · by_cases q3 : x.start_ ≤ s.to_
            · repeat' ((conv => whnf); first
                | refine And.intro (by decide) ?_ | refine And.intro (Nat.le_of_ble_eq_true rfl) ?_ | refine boolF_dect (by assumption) ?_)
              all_goals (conv => whnf)
              exact ⟨decide (x.op_.kind_ = 1), Ghost.hold [2, 4, 8, 10, 11, 12, 35, 36, 37] rfl, by simp [aloneB, q1, q2, q3]⟩
            · repeat' ((conv => whnf); first
                | refine And.intro (by decide) ?_ | refine And.intro (Nat.le_of_ble_eq_true rfl) ?_ | refine boolF_dect (by assumption) ?_ | refine boolF_decf (by assumption) ?_)
              all_goals (conv => whnf)
              exact ⟨false, Ghost.hold [2, 4, 8, 10, 11, 12, 35, 36, 37] rfl, by simp [aloneB, q3]⟩
          · repeat' ((conv => whnf); first
              | refine And.intro (by decide) ?_ | refine And.intro (Nat.le_of_ble_eq_true rfl) ?_ | refine boolF_dect (by assumption) ?_ | refine boolF_decf (by assumption) ?_)
            all_goals (conv => whnf)
            exact ⟨false, Ghost.hold [2, 4, 8, 10, 11, 12, 35, 36, 37] rfl, by simp [aloneB, q2]⟩
        · repeat' ((conv => whnf); first
            | refine And.intro (by decide) ?_ | refine And.intro (Nat.le_of_ble_eq_true rfl) ?_ | refine boolF_decf (by assumption) ?_)
          all_goals (conv => whnf)
          exact ⟨false, Ghost.hold [2, 4, 8, 10, 11, 12, 35, 36, 37] rfl, by simp [aloneB, q1]⟩
      · intro b0 hb0
        refine exec_ok tab_ok mixed 1000 (bx := [true]) (own := []) ?_
        repeat' ((conv => whnf); first
          | refine Exists.intro _ (And.intro (⟨(List.length_map _).symm⟩) ?_))
        all_goals (conv => whnf)
        refine W_loopG (ι := Nat × Bool) (fun e => ⟨(D.undef :: D.undef :: d24 h :: D.undef :: .pe (c23 s) :: D.undef :: D.undef :: D.undef :: d25 l :: D.undef :: .int .i64 (i : Int) :: .p 0 0 0 0 :: .bool e.2 :: D.undef :: D.undef :: D.undef :: D.undef :: D.undef :: D.undef :: D.undef :: D.undef :: D.undef :: D.undef :: D.undef :: D.undef :: D.undef :: D.undef :: D.undef :: D.undef :: D.undef :: D.undef :: D.undef :: D.undef :: D.undef :: D.undef :: d24 h :: .int .i64 (h.length : Int) :: .int .i64 (i : Int) :: D.undef :: D.undef :: D.undef :: D.undef :: D.undef :: D.undef :: D.undef :: D.undef :: D.undef :: D.undef :: D.undef :: D.undef :: D.undef :: D.undef :: D.undef :: D.undef :: D.undef :: D.undef :: D.undef :: D.undef :: D.undef :: D.undef :: D.undef :: D.undef :: D.undef :: D.undef :: D.undef :: d24 h :: .int .i64 (h.length : Int) :: .int .i64 (e.1 : Int) :: D.undef :: D.undef :: D.undef :: D.undef :: D.undef :: D.undef :: D.undef :: D.undef :: D.undef :: D.undef :: D.undef :: D.undef :: D.undef :: D.undef :: D.undef :: D.undef :: D.undef :: D.undef :: D.undef :: D.undef :: D.undef :: D.undef :: D.undef :: D.undef :: D.undef :: D.undef :: D.undef :: D.undef :: D.undef :: D.undef :: D.undef :: D.undef :: D.undef :: D.undef :: D.undef :: D.undef :: D.undef :: D.undef :: D.undef :: D.undef :: D.undef :: D.undef :: D.undef :: D.undef :: D.undef :: D.undef :: D.undef :: D.undef :: D.undef :: D.undef :: D.undef :: D.undef :: D.undef :: []), [.arr 0 6 [d42 x]]⟩) (fun e => h.length - e.1)
          (fun e => e.1 ≤ h.length ∧ (e.2 = true ↔ aloneB s x ∧ ∀ j y, j < e.1 → h[j]? = some y → j = i ∨ aheadD y x ∨ ¬ meetP y.op_ x.op_)) (0, b0) (Ghost.hold [2, 4, 8, 10, 11, 12, 35, 36, 37, 65, 66, 67] rfl) ⟨Nat.zero_le _, by rw [hb0]; exact ⟨fun g => ⟨g, fun j y h0 => absurd h0 (Nat.not_lt_zero _)⟩, fun g => g.1⟩⟩ ?_
        rintro ⟨j, b⟩ ⟨j1, j2⟩
        dsimp only at j1 j2 ⊢
        refine exec_ok tab_ok mixed 1000 (bx := [true]) (own := []) ?_
        rcases Nat.lt_or_ge j h.length with hj | hj
        · obtain ⟨y, hy⟩ := at_lt hj
          have hyr := ha y (List.mem_of_getElem? hy)
          have h18 := f18_ok k y.op_ x.op_ hyr.1 hxr.1
          have next : ∀ b', (b' = true ↔ b = true ∧ (j = i ∨ aheadD y x ∨ ¬ meetP y.op_ x.op_)) → (b' = true ↔ aloneB s x ∧ ∀ j' z, j' < j + 1 → h[j']? = some z → j' = i ∨ aheadD z x ∨ ¬ meetP z.op_ x.op_) := fun b' hb' => by
            rw [hb', j2]
            constructor
            · rintro ⟨⟨g0, g1⟩, g2⟩
              refine ⟨g0, fun j' z hj' hz => ?_⟩
              rcases Nat.lt_or_ge j' j with h3 | h3
              · exact g1 j' z h3 hz
              · obtain rfl : j' = j := by omega
                rw [hy] at hz; cases hz
                exact g2
            · exact fun g => ⟨⟨g.1, fun j' z hj' hz => g.2 j' z (by omega) hz⟩, g.2 j y (by omega) hy⟩
          have fin : ∀ b', (b' = true ↔ b = true ∧ (j = i ∨ aheadD y x ∨ ¬ meetP y.op_ x.op_)) → j + 1 ≤ h.length ∧ (b' = true ↔ aloneB s x ∧ ∀ j' z, j' < j + 1 → h[j']? = some z → j' = i ∨ aheadD z x ∨ ¬ meetP z.op_ x.op_) := fun b' hb' => ⟨hj, next b' hb'⟩
          cases b with
          | false =>
            repeat' ((conv => whnf); first
              | refine Exists.intro _ (And.intro (map_at (by omega) hy) ?_) | refine And.intro (by decide) ?_ | refine And.intro rfl ?_ | refine And.intro (by omega) ?_ | refine Exists.intro _ (And.intro (w64 (by omega) (by omega)) ?_) | refine boolF_dect (by omega) ?_)
            all_goals (conv => whnf)
            exact ⟨(j + 1, false), Ghost.back [2, 4, 8, 10, 11, 12, 35, 36, 37, 65, 66, 67] 1 rfl rfl (Nat.zero_le _) (by simp [scs, D.sc, scd24, scd25, c23, d3]) (fun ob ho => by rw [List.mem_singleton.mp ho]; exact ⟨scd42 _ _, trivial⟩), fin _ (by simp), by dsimp only; omega⟩
          | true =>
            by_cases e1 : i = j
            · repeat' ((conv => whnf); first
                | refine Exists.intro _ (And.intro (map_at (by omega) hy) ?_) | refine And.intro (by decide) ?_ | refine And.intro rfl ?_ | refine And.intro (by omega) ?_ | refine Exists.intro _ (And.intro (w64 (by omega) (by omega)) ?_) | refine boolF_dect (by omega) ?_)
              all_goals (conv => whnf)
              exact ⟨(j + 1, true), Ghost.back [2, 4, 8, 10, 11, 12, 35, 36, 37, 65, 66, 67] 1 rfl rfl (Nat.zero_le _) (by simp [scs, D.sc, scd24, scd25, c23, d3]) (fun ob ho => by rw [List.mem_singleton.mp ho]; exact ⟨scd42 _ _, trivial⟩), fin _ (by simp [e1]), by dsimp only; omega⟩
            · by_cases e2 : aheadD y x
              · repeat' ((conv => whnf); first
                  | refine Exists.intro _ (And.intro (map_at (by omega) hy) ?_) | refine And.intro (by decide) ?_ | refine And.intro rfl ?_ | refine And.intro (by omega) ?_ | refine Exists.intro _ (And.intro (w64 (by omega) (by omega)) ?_) | refine Pure.call (f17_ok _ _) ?_ | refine boolF_dect (by assumption) ?_ | refine boolF_dect (by omega) ?_ | refine boolF_decf (by omega) ?_)
                all_goals (conv => whnf)
                exact ⟨(j + 1, true), Ghost.back [2, 4, 8, 10, 11, 12, 35, 36, 37, 65, 66, 67] 1 rfl rfl (Nat.zero_le _) (by simp [scs, D.sc, scd24, scd25, c23, d3]) (fun ob ho => by rw [List.mem_singleton.mp ho]; exact ⟨scd42 _ _, trivial⟩), fin _ (by simp [e2]), by dsimp only; omega⟩
              · repeat' ((conv => whnf); first
                  | refine Exists.intro _ (And.intro (map_at (by omega) hy) ?_) | refine And.intro (by decide) ?_ | refine And.intro rfl ?_ | refine And.intro (Nat.le_of_ble_eq_true rfl) ?_ | refine And.intro (by omega) ?_ | refine Exists.intro _ (And.intro (w64 (by omega) (by omega)) ?_) | refine Pure.call (h18) ?_ | refine Pure.call (f17_ok _ _) ?_ | refine boolF_decf (by assumption) ?_ | refine boolF_dect (by omega) ?_ | refine boolF_decf (by omega) ?_)
                all_goals (conv => whnf)
                exact ⟨(j + 1, !decide (meetP y.op_ x.op_)), Ghost.back [2, 4, 8, 10, 11, 12, 35, 36, 37, 65, 66, 67] 1 rfl rfl (Nat.zero_le _) (by simp [scs, D.sc, scd24, scd25, c23, d3]) (fun ob ho => by rw [List.mem_singleton.mp ho]; exact ⟨scd42 _ _, trivial⟩), fin _ (by simp [e2, Ne.symm e1]), by dsimp only; omega⟩
        · cases b with
          | false =>
            repeat' ((conv => whnf); first
              | refine Exists.intro _ (And.intro (w64 (by omega) (by omega)) ?_) | refine boolF_decf (by omega) ?_)
            all_goals (conv => whnf)
            exact ⟨i + 1, Ghost.back [2, 4, 8, 35, 36, 37] 0 rfl rfl (Nat.zero_le _) (by simp [scs, D.sc, scd24, scd25, c23, d3]) (fun _ h => by cases h), hi, by omega⟩
          | true =>
            obtain ⟨⟨q1, q2, q3, q4⟩, q5⟩ := j2.mp rfl
            have hal : ∀ (j : Nat) (e : Dn), h[j]? = some e → j = i ∨ aheadD e x ∨ ¬ meetP e.op_ x.op_ := fun j e he => q5 j e (by have := (List.getElem?_eq_some_iff.mp he).1; omega) he
            repeat' ((conv => whnf); first
              | refine Exists.intro _ (And.intro (⟨(List.length_map _).symm⟩) ?_) | refine boolF_decf (by omega) ?_)
            all_goals (conv => whnf)
            refine W_loopG (ι := Nat) (fun e => ⟨(D.undef :: D.undef :: d24 h :: D.undef :: .pe (c23 s) :: D.undef :: D.undef :: D.undef :: d25 l :: D.undef :: D.undef :: .p 0 0 0 0 :: D.undef :: D.undef :: D.undef :: D.undef :: D.undef :: D.undef :: D.undef :: D.undef :: D.undef :: D.undef :: D.undef :: D.undef :: D.undef :: D.undef :: D.undef :: D.undef :: D.undef :: D.undef :: D.undef :: D.undef :: D.undef :: D.undef :: D.undef :: d24 h :: .int .i64 (h.length : Int) :: .int .i64 (i : Int) :: D.undef :: D.undef :: D.undef :: D.undef :: D.undef :: D.undef :: D.undef :: D.undef :: D.undef :: D.undef :: D.undef :: D.undef :: D.undef :: D.undef :: D.undef :: D.undef :: D.undef :: D.undef :: D.undef :: D.undef :: D.undef :: D.undef :: D.undef :: D.undef :: D.undef :: D.undef :: D.undef :: D.undef :: D.undef :: D.undef :: D.undef :: D.undef :: D.undef :: D.undef :: D.undef :: D.undef :: D.undef :: D.undef :: D.undef :: D.undef :: D.undef :: D.undef :: D.undef :: D.undef :: D.undef :: D.undef :: D.undef :: D.undef :: D.undef :: D.undef :: D.undef :: D.undef :: D.undef :: D.undef :: D.undef :: D.undef :: d25 l :: .int .i64 (l.length : Int) :: .int .i64 (e : Int) :: D.undef :: D.undef :: D.undef :: D.undef :: D.undef :: D.undef :: D.undef :: D.undef :: D.undef :: D.undef :: D.undef :: D.undef :: D.undef :: D.undef :: D.undef :: D.undef :: D.undef :: D.undef :: D.undef :: D.undef :: D.undef :: D.undef :: D.undef :: D.undef :: []), [.arr 0 6 [d42 x]]⟩) (fun e => l.length - e) (fun e => e ≤ l.length) 0 (Ghost.hold [2, 4, 8, 11, 35, 36, 37, 94, 95, 96] rfl) (Nat.zero_le _) ?_
            rintro e e1
            refine exec_ok tab_ok mixed 1000 (bx := [true]) (own := []) ?_
            rcases Nat.lt_or_ge e l.length with he | he
            · obtain ⟨z, hz⟩ := at_lt he
              have hcz := mem_cuts.mp (hl ▸ List.mem_of_getElem? hz)
              obtain ⟨S, oz, hmz⟩ := hcz
              have hzl : z.length = k := oz.len ha
              have hSi : S i = true := by
                cases hS : S i with
                | true => rfl
                | false => exact absurd ⟨q1, q2⟩ ((hmz i x hx).2 hS)
              have hshow := ord_shows ha oz hx hal hSi
              have hxo := hxr.1
              have hf : 0 ≤ x.op_.off_ ∧ x.op_.off_ + (x.op_.data_.length : Int) ≤ k := by have := hxo.2.2; omega
              obtain ⟨a, hao⟩ := Int.eq_ofNat_of_zero_le hf.1
              obtain ⟨c, hc⟩ : ∃ c, c = x.op_.data_.length := ⟨_, rfl⟩
              have hqo : x.op_.off_ + (x.op_.data_.length : Int) = ((a + c : Nat) : Int) := by omega
              have heq : (z.drop a).take (a + c - a) = x.op_.data_ := by
                have hdl : ((z.drop a).take (a + c - a)).length = c := by rw [List.length_take, List.length_drop]; omega
                refine at0_ext (by rw [hdl, hc]) fun j hj => ?_
                rw [hdl] at hj
                have hj' : j < a + c - a := by omega
                have hdat : dat x.op_ = x.op_.data_ := by rw [dat, if_neg (by omega)]
                have hv : val x.op_ (a + j) = some (at0 x.op_.data_ j) := by
                  rw [val_in (c := c) hxo hao (by rw [hdat]; exact hc), if_pos (by omega), hdat, Nat.add_sub_cancel_left]
                rw [← hshow _ _ hv, at0, at0, List.getElem?_take_of_lt hj', List.getElem?_drop]
              have h12 := f12_ok ((z.drop a).take (a + c - a)) x.op_.data_ (by rw [heq]; exact hbig x (List.mem_of_getElem? hx)) (hbig x (List.mem_of_getElem? hx))
              rw [decide_eq_true heq] at h12
              repeat' ((conv => whnf); first
                | refine PairK.mk (by kernel_rfl) ?_ | refine Exists.intro _ (And.intro (map_at (by omega) hz) ?_) | refine Exists.intro a (Exists.intro (a + c) (And.intro ⟨hao⟩ (And.intro ⟨hqo⟩ (And.intro (by omega) (And.intro (by omega) ?_))))) | refine And.intro (by decide) ?_ | refine And.intro rfl ?_ | refine And.intro (Nat.le_of_ble_eq_true rfl) ?_ | refine And.intro (by omega) ?_ | refine And.intro (cells_map (fun _ => rfl)) ?_ | refine Exists.intro _ (And.intro (⟨(List.length_map _).symm⟩) ?_) | refine Exists.intro _ (And.intro (⟨map_slice⟩) ?_)
                | refine Exists.intro _ (And.intro (w64 (by omega) (by omega)) ?_) | refine Pure.locK (h12) ?_ | refine boolF_dect (by omega) ?_)
              all_goals (conv => whnf)
              exact ⟨e + 1, Ghost.hold [2, 4, 8, 11, 35, 36, 37, 94, 95, 96] rfl, he, by omega⟩
            · repeat' ((conv => whnf); first
                | refine Exists.intro _ (And.intro (w64 (by omega) (by omega)) ?_) | refine boolF_decf (by omega) ?_)
              all_goals (conv => whnf)
              exact ⟨i + 1, Ghost.back [2, 4, 8, 35, 36, 37] 0 rfl rfl (Nat.zero_le _) (by simp [scs, D.sc, scd24, scd25, c23, d3]) (fun _ h => by cases h), hi, by omega⟩
    · refine exec_ok tab_ok mixed 1000 (bx := []) (own := []) ?_
      repeat' ((conv => whnf); first
        | refine Pure.call (f13_ok) ?_ | refine boolF_decf (by omega) ?_)
      all_goals (conv => whnf)
      exact ⟨rfl⟩
  · rw [allR, allM, if_neg (by omega), if_neg hr] at h9
    dsimp only at h9
    repeat' ((conv => whnf); first
      | refine PairK.mk (by kernel_rfl) ?_ | refine Pure.locK (h10) ?_ | refine Pure.locK (h9) ?_ | refine Pure.call (f13_ok) ?_ | refine boolF_not ?_ | refine boolF_decf (by assumption) ?_)
    all_goals (conv => whnf)
    exact ⟨rfl⟩

end Go.Proofs.Ytlfbchkcgchoaaa.C

