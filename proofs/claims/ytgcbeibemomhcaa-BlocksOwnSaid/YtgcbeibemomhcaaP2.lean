import Derived.Test.YtgcbeibemomhcaaP1
namespace Go.Proofs.Ytgcbeibemomhcaa
open Go.A
set_option linter.unusedVariables false
set_option linter.unusedSimpArgs false
set_option linter.unnecessarySimpa false
attribute [local irreducible] IntKind.wrap bitsI
set_option maxRecDepth 100000
set_option maxHeartbeats 4000000

theorem scd22 (k : Nat) (l : List Nat) : (d22 l).sc k := by simp [d22, D.sc, scs_map]; intro x _; simp [r45, d45, D.sc]
theorem scr45 (k : Nat) (l : List Nat) : scs k (l.map r45) := by rw [scs_map]; intro x _; simp [r45, d45, D.sc]
theorem scd34 (k : Nat) (o : Op) : (d34 o).sc k := ⟨trivial, trivial, trivial, scd22 _ _, trivial⟩
theorem scc34 (k : Nat) (o : Op) : scs k (c34 o) := ⟨trivial, trivial, trivial, scd22 _ _, trivial⟩
theorem scr34 (k : Nat) (l : List Op) : scs k (l.map r34) := by rw [scs_map]; intro x _; exact scd34 k x
theorem scd23 (k : Nat) (l : List Op) : (d23 l).sc k := scr34 k l

def rngD (o : Op) : D := .tup [.int .i64 (rng o).1, .int .i64 (rng o).2]

theorem f24_ok (o : Op) (ho : o.data_.length ≤ 140737488351232) : Pure Try.prog 24 [d34 o] (rngD o) := by
  refine Pure.of ⟨scd34 _ _, trivial⟩ ⟨trivial, trivial, trivial⟩ ?_
  refine CallsIn.of_exec tab_ok mixed Try.func24 rfl rfl [] [] ?_
  simp only [rngD, rng]
  by_cases h1 : o.kind_ = 1
  · rw [if_pos h1]
    repeat' ((conv => whnf); first
      | refine PairK.mk (by kernel_rfl) ?_ | refine Exists.intro _ (And.intro (⟨(List.length_map _).symm⟩) ?_) | refine boolF_dect (by assumption) ?_)
    all_goals (conv => whnf)
    exact ⟨rfl⟩
  · by_cases h2 : o.kind_ = 2
    · rw [if_neg h1, if_pos h2]
      repeat' ((conv => whnf); first
        | refine PairK.mk (by kernel_rfl) ?_ | refine boolF_dect (by assumption) ?_ | refine boolF_decf (by assumption) ?_)
      all_goals (conv => whnf)
      exact ⟨rfl⟩
    · rw [if_neg h1, if_neg h2]
      repeat' ((conv => whnf); first
        | refine boolF_decf (by assumption) ?_)
      all_goals (conv => whnf)
      exact ⟨rfl⟩

theorem f29_ok (o : Op) (ho : o.data_.length ≤ 140737488351232) : Pure Try.prog 29 [d34 o] (rngD o) := by
  refine Pure.of ⟨scd34 _ _, trivial⟩ ⟨trivial, trivial, trivial⟩ ?_
  refine CallsIn.of_exec tab_ok mixed Try.func29 rfl rfl [] [] ?_
  simp only [rngD, rng]
  by_cases h1 : o.kind_ = 1
  · rw [if_pos h1]
    repeat' ((conv => whnf); first
      | refine PairK.mk (by kernel_rfl) ?_ | refine Exists.intro _ (And.intro (⟨(List.length_map _).symm⟩) ?_) | refine boolF_dect (by assumption) ?_)
    all_goals (conv => whnf)
    exact ⟨rfl⟩
  · by_cases h2 : o.kind_ = 2
    · rw [if_neg h1, if_pos h2]
      repeat' ((conv => whnf); first
        | refine PairK.mk (by kernel_rfl) ?_ | refine boolF_dect (by assumption) ?_ | refine boolF_decf (by assumption) ?_)
      all_goals (conv => whnf)
      exact ⟨rfl⟩
    · rw [if_neg h1, if_neg h2]
      repeat' ((conv => whnf); first
        | refine boolF_decf (by assumption) ?_)
      all_goals (conv => whnf)
      exact ⟨rfl⟩

theorem f32_ok (n off k : Int) (hn : 0 ≤ n ∧ n ≤ 1024) : Pure Try.prog 32 [.int .i64 n, .int .i64 off, .int .i64 k] (.bool (decide (0 ≤ off ∧ 0 ≤ k ∧ k ≤ n ∧ off ≤ n - k))) := by
  refine Pure.of ⟨trivial, trivial, trivial, trivial⟩ trivial ?_
  refine CallsIn.of_exec tab_ok mixed Try.func32 rfl rfl [] [] ?_
  repeat' ((conv => whnf); first
    | refine Exists.intro _ (And.intro (w64 (by omega) (by omega)) ?_) | refine boolF_dec (fun _ => ?_) (fun _ => ?_))
  all_goals (conv => whnf)
  all_goals (first
    | exact ⟨rfl⟩
    | exact ⟨bool_t (by omega)⟩
    | exact ⟨bool_f (by omega)⟩
    | exact ⟨bool_iff (by omega)⟩
    | exact ⟨bool_beq (by omega)⟩
    | exact ⟨bool_bne (by omega)⟩
    | exact ⟨bool_not (by omega)⟩)

theorem f36_ok (n off k : Int) (hn : 0 ≤ n ∧ n ≤ 1024) : Pure Try.prog 36 [.int .i64 n, .int .i64 off, .int .i64 k] (.bool (decide (0 ≤ off ∧ off ≤ n ∧ k ≤ n - off))) := by
  refine Pure.of ⟨trivial, trivial, trivial, trivial⟩ trivial ?_
  refine CallsIn.of_exec tab_ok mixed Try.func36 rfl rfl [] [] ?_
  repeat' ((conv => whnf); first
    | refine Exists.intro _ (And.intro (w64 (by omega) (by omega)) ?_) | refine boolF_dec (fun _ => ?_) (fun _ => ?_))
  all_goals (conv => whnf)
  all_goals (first
    | exact ⟨rfl⟩
    | exact ⟨bool_t (by omega)⟩
    | exact ⟨bool_f (by omega)⟩
    | exact ⟨bool_iff (by omega)⟩
    | exact ⟨bool_beq (by omega)⟩
    | exact ⟨bool_bne (by omega)⟩
    | exact ⟨bool_not (by omega)⟩)

theorem f27_ok (n : Int) : Pure Try.prog 27 [.int .i64 n] (.bool (decide (0 ≤ n ∧ n ≤ 1024))) := by
  refine Pure.of ⟨trivial, trivial⟩ trivial ?_
  refine CallsIn.of_exec tab_ok mixed Try.func27 rfl rfl [] [] ?_
  repeat' ((conv => whnf); first
    | refine boolF_dec (fun _ => ?_) (fun _ => ?_))
  all_goals (conv => whnf)
  all_goals (first
    | exact ⟨rfl⟩
    | exact ⟨bool_t (by omega)⟩
    | exact ⟨bool_f (by omega)⟩
    | exact ⟨bool_iff (by omega)⟩
    | exact ⟨bool_beq (by omega)⟩
    | exact ⟨bool_bne (by omega)⟩
    | exact ⟨bool_not (by omega)⟩)

theorem f21_ok (n : Int) (o : Op) (ho : o.data_.length ≤ 140737488351232) : Pure Try.prog 21 [.int .i64 n, d34 o] (.bool (decide (okOp n o))) := by
  have h24 := f24_ok o ho
  simp only [rngD, rng] at h24
  refine Pure.of ⟨trivial, scd34 _ _, trivial⟩ trivial ?_
  refine CallsIn.of_exec tab_ok mixed Try.func21 rfl rfl [] [] ?_
  by_cases h1 : o.kind_ = 1
  · rw [if_pos h1] at h24
    (conv => whnf)
    refine Pure.call h24 ?_
    repeat' ((conv => whnf); first
      | refine Pure.call (f32_ok _ _ _ (by omega)) ?_ | refine boolF_not ?_ | refine boolF_dect (by assumption) ?_ | refine boolF_decf (by omega) ?_ | refine boolF_dec (fun _ => ?_) (fun _ => ?_))
    all_goals (conv => whnf)
    all_goals simp only [okOp]
    all_goals (first
      | exact ⟨rfl⟩
      | exact ⟨bool_t (by omega)⟩
      | exact ⟨bool_f (by omega)⟩
      | exact ⟨bool_iff (by omega)⟩
      | exact ⟨bool_beq (by omega)⟩
      | exact ⟨bool_bne (by omega)⟩
      | exact ⟨bool_not (by omega)⟩)
  · by_cases h2 : o.kind_ = 2
    · rw [if_neg h1, if_pos h2] at h24
      (conv => whnf)
      refine Pure.call h24 ?_
      repeat' ((conv => whnf); first
        | refine Exists.intro _ (And.intro (⟨(List.length_map _).symm⟩) ?_) | refine Pure.call (f32_ok _ _ _ (by omega)) ?_ | refine boolF_not ?_ | refine boolF_dect (by assumption) ?_ | refine boolF_decf (by assumption) ?_ | refine boolF_dec (fun _ => ?_) (fun _ => ?_))
      all_goals (conv => whnf)
      all_goals simp only [okOp]
      all_goals (first
        | exact ⟨rfl⟩
        | exact ⟨bool_t (by omega)⟩
        | exact ⟨bool_f (by omega)⟩
        | exact ⟨bool_iff (by omega)⟩
        | exact ⟨bool_beq (by omega)⟩
        | exact ⟨bool_bne (by omega)⟩
        | exact ⟨bool_not (by omega)⟩)
    · rw [if_neg h1, if_neg h2] at h24
      (conv => whnf)
      refine Pure.call h24 ?_
      repeat' ((conv => whnf); first
        | refine boolF_dec (fun _ => ?_) (fun _ => ?_))
      all_goals (conv => whnf)
      all_goals simp only [okOp]
      all_goals (first
        | exact ⟨rfl⟩
        | exact ⟨bool_t (by omega)⟩
        | exact ⟨bool_f (by omega)⟩
        | exact ⟨bool_iff (by omega)⟩
        | exact ⟨bool_beq (by omega)⟩
        | exact ⟨bool_bne (by omega)⟩
        | exact ⟨bool_not (by omega)⟩)

theorem f34_ok (n : Int) (o : Op) (ho : o.data_.length ≤ 140737488351232) : Pure Try.prog 34 [.int .i64 n, d34 o] (.bool (decide (okOp n o))) := by
  refine Pure.of ⟨trivial, scd34 _ _, trivial⟩ trivial ?_
  refine CallsIn.of_exec tab_ok mixed Try.func34 rfl rfl [] [] ?_
  by_cases hn : 0 ≤ n ∧ n ≤ 1024
  · by_cases h1 : o.kind_ = 1
    · repeat' ((conv => whnf); first
        | refine Exists.intro _ (And.intro (⟨(List.length_map _).symm⟩) ?_) | refine Pure.call (f27_ok _) ?_ | refine Pure.call (f36_ok _ _ _ (by omega)) ?_ | refine boolF_dect (by assumption) ?_ | refine boolF_dec (fun _ => ?_) (fun _ => ?_))
      all_goals (conv => whnf)
      all_goals simp only [okOp]
      all_goals (first
        | exact ⟨rfl⟩
        | exact ⟨bool_t (by omega)⟩
        | exact ⟨bool_f (by omega)⟩
        | exact ⟨bool_iff (by omega)⟩
        | exact ⟨bool_beq (by omega)⟩
        | exact ⟨bool_bne (by omega)⟩
        | exact ⟨bool_not (by omega)⟩)
    · by_cases h2 : o.kind_ = 2
      · repeat' ((conv => whnf); first
          | refine Exists.intro _ (And.intro (⟨(List.length_map _).symm⟩) ?_) | refine Pure.call (f27_ok _) ?_ | refine Pure.call (f36_ok _ _ _ (by omega)) ?_ | refine boolF_dect (by assumption) ?_ | refine boolF_decf (by assumption) ?_ | refine boolF_dec (fun _ => ?_) (fun _ => ?_))
        all_goals (conv => whnf)
        all_goals simp only [okOp]
        all_goals (first
          | exact ⟨rfl⟩
          | exact ⟨bool_t (by omega)⟩
          | exact ⟨bool_f (by omega)⟩
          | exact ⟨bool_iff (by omega)⟩
          | exact ⟨bool_beq (by omega)⟩
          | exact ⟨bool_bne (by omega)⟩
          | exact ⟨bool_not (by omega)⟩)
      · repeat' ((conv => whnf); first
          | refine boolF_decf (by assumption) ?_)
        all_goals (conv => whnf)
        all_goals simp only [okOp]
        all_goals (first
          | exact ⟨rfl⟩
          | exact ⟨bool_t (by omega)⟩
          | exact ⟨bool_f (by omega)⟩
          | exact ⟨bool_iff (by omega)⟩
          | exact ⟨bool_beq (by omega)⟩
          | exact ⟨bool_bne (by omega)⟩
          | exact ⟨bool_not (by omega)⟩)
  · by_cases h1 : o.kind_ = 1
    · repeat' ((conv => whnf); first
        | refine Pure.call (f27_ok _) ?_ | refine boolF_dect (by assumption) ?_ | refine boolF_decf (by assumption) ?_)
      all_goals (conv => whnf)
      all_goals simp only [okOp]
      all_goals (first
        | exact ⟨rfl⟩
        | exact ⟨bool_t (by omega)⟩
        | exact ⟨bool_f (by omega)⟩
        | exact ⟨bool_iff (by omega)⟩
        | exact ⟨bool_beq (by omega)⟩
        | exact ⟨bool_bne (by omega)⟩
        | exact ⟨bool_not (by omega)⟩)
    · by_cases h2 : o.kind_ = 2
      · repeat' ((conv => whnf); first
          | refine Pure.call (f27_ok _) ?_ | refine boolF_dect (by assumption) ?_ | refine boolF_decf (by assumption) ?_)
        all_goals (conv => whnf)
        all_goals simp only [okOp]
        all_goals (first
          | exact ⟨rfl⟩
          | exact ⟨bool_t (by omega)⟩
          | exact ⟨bool_f (by omega)⟩
          | exact ⟨bool_iff (by omega)⟩
          | exact ⟨bool_beq (by omega)⟩
          | exact ⟨bool_bne (by omega)⟩
          | exact ⟨bool_not (by omega)⟩)
      · repeat' ((conv => whnf); first
          | refine boolF_decf (by assumption) ?_)
        all_goals (conv => whnf)
        all_goals simp only [okOp]
        all_goals (first
          | exact ⟨rfl⟩
          | exact ⟨bool_t (by omega)⟩
          | exact ⟨bool_f (by omega)⟩
          | exact ⟨bool_iff (by omega)⟩
          | exact ⟨bool_beq (by omega)⟩
          | exact ⟨bool_bne (by omega)⟩
          | exact ⟨bool_not (by omega)⟩)

theorem f12_ok (a b : List Nat) (ha : a.length ≤ 140737488351232) (hb : b.length ≤ 140737488351232) : Pure Try.prog 12 [d22 a, d22 b] (.bool (decide (a = b))) := by
  refine Pure.of ⟨scd22 _ _, scd22 _ _, trivial⟩ trivial ?_
  refine CallsIn.of_exec tab_ok mixed Try.func12 rfl rfl [] [] ?_
  by_cases hlen : a.length = b.length
  · repeat' ((conv => whnf); first
      | refine Exists.intro _ (And.intro (⟨(List.length_map _).symm⟩) ?_) | refine boolF_not ?_ | refine boolF_dect (by omega) ?_)
    all_goals (conv => whnf)
    refine W_loopG (ι := Nat) (fun i => ⟨(d22 a :: d22 b :: D.undef :: D.undef :: D.undef :: .int .i64 (i:Int) :: D.undef :: D.undef :: D.undef :: D.undef :: D.undef :: D.undef :: D.undef :: D.undef :: D.undef :: D.undef :: D.undef :: D.undef :: D.undef :: D.undef :: D.undef :: D.undef :: D.undef :: D.undef :: D.undef :: D.undef :: []), []⟩) (fun i => a.length - i)
      (fun i => i ≤ a.length ∧ a.take i = b.take i) 0 (Ghost.hold [0,1,5] rfl) ⟨Nat.zero_le _, rfl⟩ ?_
    rintro i ⟨h1, h2⟩
    refine exec_ok tab_ok mixed 1000 (bx := []) (own := []) ?_
    rcases Nat.lt_or_ge i a.length with h | h
    · obtain ⟨x, hx⟩ := at_lt h
      obtain ⟨y, hy⟩ := at_lt (l := b) (i := i) (by omega)
      by_cases hxy : x = y
      · repeat' ((conv => whnf); first
          | refine PairK.mk (by kernel_rfl) ?_ | refine Exists.intro _ (And.intro (map_at (by omega) hx) ?_) | refine Exists.intro _ (And.intro (map_at (by omega) hy) ?_) | refine And.intro rfl ?_ | refine And.intro (by omega) ?_ | refine Exists.intro _ (And.intro (⟨(List.length_map _).symm⟩) ?_) | refine Exists.intro _ (And.intro (w64 (by omega) (by omega)) ?_) | refine boolF_not ?_ | refine boolF_dect (by assumption) ?_ | refine boolF_dect (by omega) ?_)
        all_goals (conv => whnf)
        refine ⟨i + 1, Ghost.hold [0,1,5] rfl, ⟨by omega, ?_⟩, by omega⟩
        rw [take_snoc hx, take_snoc hy, h2, hxy]
      · repeat' ((conv => whnf); first
          | refine PairK.mk (by kernel_rfl) ?_ | refine Exists.intro _ (And.intro (map_at (by omega) hx) ?_) | refine Exists.intro _ (And.intro (map_at (by omega) hy) ?_) | refine And.intro rfl ?_ | refine And.intro (by omega) ?_ | refine Exists.intro _ (And.intro (⟨(List.length_map _).symm⟩) ?_) | refine boolF_not ?_ | refine boolF_decf (by assumption) ?_ | refine boolF_dect (by omega) ?_)
        all_goals (conv => whnf)
        refine ⟨bool_f (fun hh => hxy ?_)⟩
        subst hh
        rw [hx] at hy
        exact Option.some.inj hy
    · repeat' ((conv => whnf); first
        | refine Exists.intro _ (And.intro (⟨(List.length_map _).symm⟩) ?_) | refine boolF_decf (by omega) ?_)
      all_goals (conv => whnf)
      refine ⟨bool_t ?_⟩
      rw [List.take_of_length_le h, List.take_of_length_le (by omega)] at h2
      exact h2
  · repeat' ((conv => whnf); first
      | refine Exists.intro _ (And.intro (⟨(List.length_map _).symm⟩) ?_) | refine boolF_not ?_ | refine boolF_decf (by omega) ?_)
    all_goals (conv => whnf)
    exact ⟨bool_f (fun hh => hlen (by rw [hh]))⟩

theorem Op.ext' {a b : Op} (h : a.kind_ = b.kind_ ∧ a.off_ = b.off_ ∧ a.len_ = b.len_ ∧ a.data_ = b.data_) : a = b := by
  cases a; cases b; simp only at h; simp [h]
instance : DecidableEq Op := fun a b => if h : a.kind_ = b.kind_ ∧ a.off_ = b.off_ ∧ a.len_ = b.len_ ∧ a.data_ = b.data_ then isTrue (Op.ext' h) else isFalse (fun e => h (by simp [e]))
def bigD (l : List Op) : Prop := ∀ o ∈ l, o.data_.length ≤ 140737488351232

theorem f13_ok (a b : List Op) (ha : a.length ≤ 140737488351232) (hb : b.length ≤ 140737488351232) (ka : bigD a) (kb : bigD b) : Pure Try.prog 13 [d23 a, d23 b] (.bool (decide (a = b))) := by
  refine Pure.of ⟨scd23 _ _, scd23 _ _, trivial⟩ trivial ?_
  refine CallsIn.of_exec tab_ok mixed Try.func13 rfl rfl [] [] ?_
  by_cases hlen : a.length = b.length
  · repeat' ((conv => whnf); first
      | refine Exists.intro _ (And.intro (⟨(List.length_map _).symm⟩) ?_) | refine boolF_not ?_ | refine boolF_dect (by omega) ?_)
    all_goals (conv => whnf)
    refine W_loopG (ι := Nat) (fun i => ⟨(d23 a :: d23 b :: D.undef :: D.undef :: D.undef :: .int .i64 (i:Int) :: D.undef :: D.undef :: D.undef :: D.undef :: D.undef :: D.undef :: D.undef :: D.undef :: D.undef :: D.undef :: D.undef :: D.undef :: D.undef :: D.undef :: D.undef :: D.undef :: D.undef :: D.undef :: D.undef :: D.undef :: D.undef :: D.undef :: D.undef :: D.undef :: D.undef :: D.undef :: D.undef :: D.undef :: D.undef :: D.undef :: D.undef :: D.undef :: D.undef :: D.undef :: D.undef :: D.undef :: D.undef :: D.undef :: D.undef :: D.undef :: D.undef :: D.undef :: D.undef :: D.undef :: D.undef :: D.undef :: D.undef :: D.undef :: D.undef :: D.undef :: D.undef :: D.undef :: D.undef :: D.undef :: D.undef :: D.undef :: D.undef :: D.undef :: D.undef :: D.undef :: D.undef :: D.undef :: []), []⟩) (fun i => a.length - i)
      (fun i => i ≤ a.length ∧ a.take i = b.take i) 0 (Ghost.hold [0,1,5] rfl) ⟨Nat.zero_le _, rfl⟩ ?_
    rintro i ⟨h1, h2⟩
    refine exec_ok tab_ok mixed 1000 (bx := []) (own := []) ?_
    rcases Nat.lt_or_ge i a.length with h | h
    · obtain ⟨x, hx⟩ := at_lt h
      obtain ⟨y, hy⟩ := at_lt (l := b) (i := i) (by omega)
      have hxd := ka x (List.mem_of_getElem? hx)
      have hyd := kb y (List.mem_of_getElem? hy)
      have hne : x ≠ y → ∀ r, r = D.bool false → r = D.bool (decide (a = b)) := fun hh r e => by
        rw [e]
        refine bool_f (fun hab => hh ?_)
        subst hab
        rw [hx] at hy
        exact Option.some.inj hy
      by_cases q1 : x.kind_ = y.kind_
      · by_cases q2 : x.off_ = y.off_
        · by_cases q3 : x.len_ = y.len_
          · by_cases q4 : x.data_ = y.data_
            · repeat' ((conv => whnf); first
                | refine PairK.mk (by kernel_rfl) ?_ | refine Exists.intro _ (And.intro (map_at (by omega) hx) ?_) | refine Exists.intro _ (And.intro (map_at (by omega) hy) ?_) | refine And.intro rfl ?_ | refine And.intro (by omega) ?_ | refine Exists.intro _ (And.intro (⟨(List.length_map _).symm⟩) ?_) | refine Exists.intro _ (And.intro (w64 (by omega) (by omega)) ?_) | refine Pure.locK (f12_ok _ _ hxd hyd) ?_ | refine boolF_not ?_ | refine boolF_dect (by assumption) ?_ | refine boolF_dect (by omega) ?_)
              all_goals (conv => whnf)
              refine ⟨i + 1, Ghost.hold [0,1,5] rfl, ⟨by omega, ?_⟩, by omega⟩
              rw [take_snoc hx, take_snoc hy, h2, Op.ext' ⟨q1, q2, q3, q4⟩]
            · repeat' ((conv => whnf); first
                | refine PairK.mk (by kernel_rfl) ?_ | refine Exists.intro _ (And.intro (map_at (by omega) hx) ?_) | refine Exists.intro _ (And.intro (map_at (by omega) hy) ?_) | refine And.intro rfl ?_ | refine And.intro (by omega) ?_ | refine Exists.intro _ (And.intro (⟨(List.length_map _).symm⟩) ?_) | refine Pure.locK (f12_ok _ _ hxd hyd) ?_ | refine boolF_not ?_ | refine boolF_dect (by assumption) ?_ | refine boolF_decf (by assumption) ?_ | refine boolF_dect (by omega) ?_)
              all_goals (conv => whnf)
              exact ⟨hne (fun e => q4 (by rw [e])) _ rfl⟩
          · repeat' ((conv => whnf); first
              | refine PairK.mk (by kernel_rfl) ?_ | refine Exists.intro _ (And.intro (map_at (by omega) hx) ?_) | refine Exists.intro _ (And.intro (map_at (by omega) hy) ?_) | refine And.intro rfl ?_ | refine And.intro (by omega) ?_ | refine Exists.intro _ (And.intro (⟨(List.length_map _).symm⟩) ?_) | refine boolF_not ?_ | refine boolF_dect (by assumption) ?_ | refine boolF_decf (by assumption) ?_ | refine boolF_dect (by omega) ?_)
            all_goals (conv => whnf)
            exact ⟨hne (fun e => q3 (by rw [e])) _ rfl⟩
        · repeat' ((conv => whnf); first
            | refine PairK.mk (by kernel_rfl) ?_ | refine Exists.intro _ (And.intro (map_at (by omega) hx) ?_) | refine Exists.intro _ (And.intro (map_at (by omega) hy) ?_) | refine And.intro rfl ?_ | refine And.intro (by omega) ?_ | refine Exists.intro _ (And.intro (⟨(List.length_map _).symm⟩) ?_) | refine boolF_not ?_ | refine boolF_dect (by assumption) ?_ | refine boolF_decf (by assumption) ?_ | refine boolF_dect (by omega) ?_)
          all_goals (conv => whnf)
          exact ⟨hne (fun e => q2 (by rw [e])) _ rfl⟩
      · repeat' ((conv => whnf); first
          | refine PairK.mk (by kernel_rfl) ?_ | refine Exists.intro _ (And.intro (map_at (by omega) hx) ?_) | refine Exists.intro _ (And.intro (map_at (by omega) hy) ?_) | refine And.intro rfl ?_ | refine And.intro (by omega) ?_ | refine Exists.intro _ (And.intro (⟨(List.length_map _).symm⟩) ?_) | refine boolF_not ?_ | refine boolF_decf (by assumption) ?_ | refine boolF_dect (by omega) ?_)
        all_goals (conv => whnf)
        exact ⟨hne (fun e => q1 (by rw [e])) _ rfl⟩
    · repeat' ((conv => whnf); first
        | refine Exists.intro _ (And.intro (⟨(List.length_map _).symm⟩) ?_) | refine boolF_decf (by omega) ?_)
      all_goals (conv => whnf)
      refine ⟨bool_t ?_⟩
      rw [List.take_of_length_le h, List.take_of_length_le (by omega)] at h2
      exact h2
  · repeat' ((conv => whnf); first
      | refine Exists.intro _ (And.intro (⟨(List.length_map _).symm⟩) ?_) | refine boolF_not ?_ | refine boolF_decf (by omega) ?_)
    all_goals (conv => whnf)
    exact ⟨bool_f (fun hh => hlen (by rw [hh]))⟩

theorem f22_ok (l : List Nat) (hlen : l.length ≤ 140737488351232) (hl8 : l.length * 8 ≤ 140737488355328) : Owned Try.prog 22 [d22 l] 1 (l.map r45) := by
  refine Owned.of ⟨scd22 _ _, trivial⟩ (scr45 _ _) ?_
  refine CallsIn.of_exec tab_ok mixed Try.func22 rfl rfl [5] [] ?_
  cases l with
  | nil =>
    repeat' ((conv => whnf); first
      | refine And.intro (okRows_map (fun _ _ => ⟨rfl, rfl⟩)) ?_ | refine And.intro (by decide) ?_ | refine Exists.intro _ (And.intro (⟨len_more⟩) ?_) | refine Exists.intro _ (And.intro (⟨Eq.refl (α := List D) _⟩) ?_) | refine Both.mk ?_ ?_)
    all_goals (conv => whnf)
    · exact ⟨0, Ghost.mat (t := 0) rfl⟩
    · exact ⟨1, Ghost.refl _ _ _⟩
  | cons x l =>
    repeat' ((conv => whnf); first
      | refine And.intro (okRows_map (fun _ _ => ⟨rfl, rfl⟩)) ?_ | refine And.intro (by decide) ?_ | refine And.intro (List.cons_ne_nil _ _) ?_ | refine And.intro (by omega) ?_ | refine Exists.intro _ (And.intro (⟨len_more⟩) ?_) | refine Exists.intro _ (And.intro (⟨Eq.refl (α := List D) _⟩) ?_))
    all_goals (conv => whnf)
    refine ⟨1, Ghost.hold [0] ?_⟩
    rw [Nat.zero_add (x :: l).length, List.length_map]
    rfl

end Go.Proofs.Ytgcbeibemomhcaa

