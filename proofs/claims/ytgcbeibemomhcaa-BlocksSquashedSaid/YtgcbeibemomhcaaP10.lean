import Derived.Test.YtgcbeibemomhcaaP9
namespace Go.Proofs.Ytgcbeibemomhcaa
open Go.A
set_option linter.unusedVariables false
set_option linter.unusedSimpArgs false
set_option linter.unnecessarySimpa false
attribute [local irreducible] IntKind.wrap bitsI
set_option maxRecDepth 100000
set_option maxHeartbeats 4000000

def meetP (a b : Op) : Prop := a.off_ < b.off_ + ((dat b).length : Int) ∧ b.off_ < a.off_ + ((dat a).length : Int)
instance (a b : Op) : Decidable (meetP a b) := inferInstanceAs (Decidable (_ ∧ _))

theorem f14_ok (n : Int) (a b : Op) (ha : okOp n a) (hb : okOp n b) : Pure Try.prog 14 [d34 a, d34 b] (.bool (decide (meetP a b))) := by
  have ka := f24_ok a (by have := ha.2.2.2; omega)
  have kb := f24_ok b (by have := hb.2.2.2; omega)
  obtain ⟨d1, d2, d3', d4⟩ := dat_len ha
  obtain ⟨e1, e2, e3, e4⟩ := dat_len hb
  obtain ⟨x, hx⟩ := Int.eq_ofNat_of_zero_le ha.2.2.1
  obtain ⟨y, hy⟩ := Int.eq_ofNat_of_zero_le hb.2.2.1
  have hn := ha.2.1
  have hmp : decide (meetP a b) = decide ((x : Int) < (y : Int) + ((dat b).length : Int) ∧ (y : Int) < (x : Int) + ((dat a).length : Int)) := decide_eq_decide.mpr (by rw [meetP, hx, hy])
  rw [hmp]
  clear hmp
  rw [rngD, d2, ← d1] at ka
  rw [rngD, e2, ← e1] at kb
  rw [hx] at ka d4
  rw [hy] at kb e4
  generalize (dat a).length = c at *
  generalize (dat b).length = d at *
  refine Pure.of ⟨scd34 _ _, scd34 _ _, trivial⟩ trivial ?_
  refine CallsIn.of_exec tab_ok mixed Try.func14 rfl rfl [] [] ?_
  (conv => whnf)
  refine Pure.call ka ?_
  (conv => whnf)
  refine Pure.call kb ?_
  by_cases h : y < x
  · repeat' ((conv => whnf); first
      | refine Exists.intro _ (And.intro (u64sub (by omega) (by omega)) ?_) | refine Exists.intro _ (And.intro (u64w (by omega)) ?_) | refine boolF_dect (by omega) ?_)
    all_goals (conv => whnf)
    all_goals (first
      | exact ⟨rfl⟩
      | exact ⟨bool_t (by omega)⟩
      | exact ⟨bool_f (by omega)⟩
      | exact ⟨bool_iff (by omega)⟩
      | exact ⟨bool_beq (by omega)⟩
      | exact ⟨bool_bne (by omega)⟩
      | exact ⟨bool_not (by omega)⟩)
  · repeat' ((conv => whnf); first
      | refine Exists.intro _ (And.intro (u64sub (by omega) (by omega)) ?_) | refine Exists.intro _ (And.intro (u64w (by omega)) ?_) | refine boolF_dect (by omega) ?_ | refine boolF_decf (by omega) ?_)
    all_goals (conv => whnf)
    all_goals (first
      | exact ⟨rfl⟩
      | exact ⟨bool_t (by omega)⟩
      | exact ⟨bool_f (by omega)⟩
      | exact ⟨bool_iff (by omega)⟩
      | exact ⟨bool_beq (by omega)⟩
      | exact ⟨bool_bne (by omega)⟩
      | exact ⟨bool_not (by omega)⟩)

theorem either_plain {v : List Nat} {a b : Op} (ha : okOp v.length a) (hb : okOp v.length b) (hm : ¬ meetP a b) : applyL v [a, b] = applyL v [b, a] := by
  have k1 : allOk v.length [a, b] := fun o ho => by simp at ho; rcases ho with rfl | rfl <;> assumption
  have k2 : allOk v.length [b, a] := fun o ho => by simp at ho; rcases ho with rfl | rfl <;> assumption
  obtain ⟨a1, a2⟩ := apply_at k1
  obtain ⟨b1, b2⟩ := apply_at k2
  have z1 := ha.2.2.1
  have z2 := hb.2.2.1
  refine at0_ext (by omega) fun j hj => ?_
  rw [a2, b2]
  have e1 : vals [a, b] j = (match val b j with | some x => some x | none => val a j) := rfl
  have e2 : vals [b, a] j = (match val a j with | some x => some x | none => val b j) := rfl
  rw [e1, e2]
  simp only [meetP] at hm
  have : val a j = none ∨ val b j = none := by
    simp only [val]
    by_cases q1 : a.off_.toNat ≤ j ∧ j < a.off_.toNat + (dat a).length
    · by_cases q2 : b.off_.toNat ≤ j ∧ j < b.off_.toNat + (dat b).length
      · omega
      · rw [if_neg q2]; exact .inr rfl
    · rw [if_neg q1]; exact .inl rfl
  rcases this with h | h
  · rw [h]; cases val b j <;> rfl
  · rw [h]; cases val a j <;> rfl

theorem blocksEither_true (v : List Nat) (a b : Op) (h0 : ok22 v) (h1 : ok34 a) (h2 : ok34 b) : CallsIn Try.prog 4 [d22 v, d34 a, d34 b] [] fun r _ => r = .bool true := by
  have hv := lenW h0
  have la := lenW h1.2.2.2
  have lb := lenW h2.2.2.2
  have c1 := (f9_own v [a, b] hv (by simp) (fun o ho => by simp at ho; rcases ho with rfl | rfl <;> assumption)).pure
  have c2 := (f9_own v [b, a] hv (by simp) (fun o ho => by simp at ho; rcases ho with rfl | rfl <;> assumption)).pure
  refine CallsIn.of_exec tab_ok mixed Try.func4 rfl rfl [] [] ?_
  by_cases hb : 1024 < v.length
  · rw [applyM, if_pos hb] at c1 c2
    repeat' ((conv => whnf); first
      | refine Pure.call (c1) ?_ | refine Pure.call (c2) ?_ | refine Pure.call (f10_ok) ?_)
    all_goals (conv => whnf)
    exact ⟨rfl⟩
  · by_cases hok : okOp v.length a ∧ okOp v.length b
    · obtain ⟨k1, k2⟩ := hok
      have o1 : allOk v.length [a, b] := fun o ho => by simp at ho; rcases ho with rfl | rfl <;> assumption
      have o2 : allOk v.length [b, a] := fun o ho => by simp at ho; rcases ho with rfl | rfl <;> assumption
      rw [applyM_of (by omega) o1] at c1
      rw [applyM_of (by omega) o2] at c2
      have hm := f14_ok v.length a b k1 k2
      by_cases hmt : meetP a b
      · repeat' ((conv => whnf); first
          | refine Pure.call (c1) ?_ | refine Pure.call (c2) ?_ | refine Pure.call (hm) ?_ | refine Pure.call (f10_ok) ?_ | refine boolF_dect (by assumption) ?_)
        all_goals (conv => whnf)
        exact ⟨rfl⟩
      · rw [← either_plain k1 k2 hmt] at c2
        have hl := (apply_at o1).1
        generalize applyL v [a, b] = x at c1 c2 hl
        repeat' ((conv => whnf); first
          | refine Pure.call (c1) ?_ | refine Pure.call (c2) ?_ | refine Pure.call (hm) ?_ | refine Pure.call (f12_ok x x (by omega) (by omega)) ?_ | refine Pure.call (f10_ok) ?_ | refine boolF_dect rfl ?_ | refine boolF_decf (by assumption) ?_)
        all_goals (conv => whnf)
        exact ⟨rfl⟩
    · have o1 : ¬ allOk v.length [a, b] := fun h => hok ⟨h a (by simp), h b (by simp)⟩
      have o2 : ¬ allOk v.length [b, a] := fun h => hok ⟨h a (by simp), h b (by simp)⟩
      rw [applyM, if_neg hb, if_neg o1] at c1
      rw [applyM, if_neg hb, if_neg o2] at c2
      repeat' ((conv => whnf); first
        | refine Pure.call (c1) ?_ | refine Pure.call (c2) ?_ | refine Pure.call (f10_ok) ?_)
      all_goals (conv => whnf)
      exact ⟨rfl⟩

theorem ordO_get : ∀ {l : List Op} {a : Int}, ordO a l → ∀ (i : Nat) (x y : Op), l[i]? = some x → l[i + 1]? = some y → x.off_ + ((dat x).length : Int) ≤ y.off_
  | [], _, _, i, x, y, h, _ => by simp at h
  | [_], _, _, i, x, y, _, h => by simp at h
  | p :: q :: l, _, h, 0, x, y, h1, h2 => by simp at h1 h2; subst h1 h2; exact h.2.1
  | p :: q :: l, _, h, i + 1, x, y, h1, h2 => ordO_get (l := q :: l) h.2 i x y (by simpa using h1) (by simpa using h2)

theorem blocksSquashed_true (v : List Nat) (ops : List Op) (h0 : ok22 v) (h1 : ok23 ops) : CallsIn Try.prog 5 [d22 v, d23 ops] [] fun r _ => r = .bool true := by
  have hv := lenW h0
  have hn := lenO h1
  have hb := bigO h1
  have c1 := (f9_own v ops hv hn hb).pure
  refine CallsIn.of_exec tab_ok mixed Try.func5 rfl rfl [] [] ?_
  by_cases he : (applyM v ops).2 = 0
  · obtain ⟨k1, k2, k3⟩ := applyM_ok he
    rw [k3] at c1
    have hl := (apply_at k2).1
    obtain ⟨l, e, l1, l2, l3, l4, l5⟩ := squash_does k1 k2
    have c3 := (f11_own v.length ops hn hb).pure
    have c4 := (f9_own v l hv (big l4) l5).pure
    rw [e] at c3
    rw [applyM_of k1 l1, apply_ext k2 l1 l3] at c4
    generalize applyL v ops = x at c1 c4 hl
    repeat' ((conv => whnf); first
      | refine Exists.intro _ (And.intro (⟨(List.length_map _).symm⟩) ?_) | refine Pure.call (c1) ?_ | refine Pure.call (c3) ?_ | refine Pure.call (c4) ?_ | refine Pure.call (f12_ok x x (by omega) (by omega)) ?_ | refine boolF_not ?_ | refine boolF_dect rfl ?_)
    all_goals (conv => whnf)
    refine W_loopG (ι := Nat) (fun i => ⟨(D.undef :: D.undef :: D.undef :: D.undef :: D.undef :: D.undef :: D.undef :: d23 l :: D.undef :: D.undef :: D.undef :: D.undef :: D.undef :: D.undef :: D.undef :: D.undef :: D.undef :: D.undef :: D.undef :: D.undef :: D.undef :: D.undef :: D.undef :: D.undef :: D.undef :: D.undef :: D.undef :: D.undef :: D.undef :: D.undef :: D.undef :: D.undef :: D.undef :: D.undef :: D.undef :: D.undef :: D.undef :: D.undef :: D.undef :: D.undef :: D.undef :: D.undef :: D.undef :: D.undef :: D.undef :: D.undef :: D.undef :: D.undef :: D.undef :: D.undef :: D.undef :: D.undef :: .int .i64 (l.length : Int) :: .int .i64 (i : Int) :: D.undef :: D.undef :: D.undef :: D.undef :: D.undef :: D.undef :: D.undef :: D.undef :: D.undef :: D.undef :: D.undef :: D.undef :: D.undef :: D.undef :: D.undef :: D.undef :: D.undef :: D.undef :: D.undef :: D.undef :: D.undef :: D.undef :: D.undef :: D.undef :: D.undef :: D.undef :: D.undef :: D.undef :: D.undef :: D.undef :: D.undef :: D.undef :: []), []⟩) (fun i => l.length - i)
      (fun i => i ≤ l.length) 0 (Ghost.hold [7, 52, 53] rfl) (Nat.zero_le _) ?_
    intro i hi
    refine exec_ok tab_ok mixed 1000 (bx := []) (own := []) ?_
    rcases Nat.lt_or_ge i l.length with h | h
    · obtain ⟨x, hx⟩ := at_lt h
      rcases Nat.eq_zero_or_pos i with h0 | h0
      · repeat' ((conv => whnf); first
          | refine PairK.mk (by kernel_rfl) ?_ | refine Exists.intro _ (And.intro (w64 (by omega) (by omega)) ?_) | refine boolF_dect (by omega) ?_ | refine boolF_decf (by omega) ?_)
        all_goals (conv => whnf)
        exact ⟨i + 1, Ghost.hold [7, 52, 53] rfl, h, by omega⟩
      · obtain ⟨y, hy⟩ := at_lt (l := l) (i := i - 1) (by omega)
        have ho := ordO_get l2 (i - 1) y x hy (by rw [show i - 1 + 1 = i by omega]; exact hx)
        have ky := l1 y (List.mem_of_getElem? hy)
        have kx := l1 x (List.mem_of_getElem? hx)
        have hd := (dat_len ky).2.2.1
        have hm := f14_ok v.length y x ky kx
        have hnm : ¬ meetP y x := fun hm => by simp only [meetP] at hm; omega
        repeat' ((conv => whnf); first
          | refine PairK.mk (by kernel_rfl) ?_ | refine Exists.intro _ (And.intro (map_at (by omega) hx) ?_) | refine Exists.intro _ (And.intro (map_at (by omega) hy) ?_) | refine And.intro rfl ?_ | refine And.intro (by omega) ?_ | refine Exists.intro _ (And.intro (w64 (by omega) (by omega)) ?_) | refine Pure.locK (hm) ?_ | refine boolF_decf (by assumption) ?_ | refine boolF_dect (by omega) ?_ | refine boolF_decf (by omega) ?_)
        all_goals (conv => whnf)
        exact ⟨i + 1, Ghost.hold [7, 52, 53] rfl, h, by omega⟩
    · repeat' ((conv => whnf); first
        | refine Pure.call (f10_ok) ?_ | refine boolF_decf (by omega) ?_)
      all_goals (conv => whnf)
      exact ⟨rfl⟩
  · have h0 := applyM_bad he
    rw [h0] at c1
    repeat' ((conv => whnf); first
      | refine Exists.intro _ (And.intro (⟨(List.length_map _).symm⟩) ?_) | refine Pure.call (c1) ?_ | refine Pure.call (f10_ok) ?_ | refine boolF_not ?_ | refine boolF_decf (by assumption) ?_)
    all_goals (conv => whnf)
    exact ⟨rfl⟩

theorem shortS_false (b : Nat → Nat) : ∀ n, shortS (fun _ => false) b n = []
  | 0 => rfl
  | n + 1 => by rw [shortS, shortS_false b n, stepS, if_pos rfl]
theorem short_nil {t : Nat → Bool} {b : Nat → Nat} {n : Nat} (hn : n ≤ 1024) : shortS t b n = [] ↔ ∀ j, j < n → t j = false := by
  constructor
  · intro h j hj
    have hv := (shortS_ok t b n hn).vals j
    rw [h] at hv
    cases ht : t j with
    | false => rfl
    | true => rw [if_pos ⟨hj, ht⟩] at hv; cases hv
  · intro h
    rw [shortS_congr (t' := fun _ => false) (b' := b) (fun j hj => ⟨h j hj, rfl⟩), shortS_false]

theorem blocksDiffs_true (a b : List Nat) (h0 : ok22 a) (h1 : ok22 b) : CallsIn Try.prog 7 [d22 a, d22 b] [] fun r _ => r = .bool true := by
  have ha := lenW h0
  have hb := lenW h1
  have c1 := (f16_own a b ha hb).pure
  refine CallsIn.of_exec tab_ok mixed Try.func7 rfl rfl [] [] ?_
  by_cases q1 : 1024 < a.length ∨ 1024 < b.length
  · rw [diffM, if_pos q1] at c1
    by_cases q2 : a.length = b.length
    · repeat' ((conv => whnf); first
        | refine Exists.intro _ (And.intro (⟨(List.length_map _).symm⟩) ?_) | refine Pure.call (c1) ?_ | refine Pure.call (f10_ok) ?_ | refine boolF_not ?_ | refine boolF_dect (by omega) ?_)
      all_goals (conv => whnf)
      exact ⟨rfl⟩
    · repeat' ((conv => whnf); first
        | refine Exists.intro _ (And.intro (⟨(List.length_map _).symm⟩) ?_) | refine Pure.call (c1) ?_ | refine Pure.call (f10_ok) ?_ | refine boolF_not ?_ | refine boolF_decf (by omega) ?_)
      all_goals (conv => whnf)
      exact ⟨rfl⟩
  · by_cases q2 : a.length = b.length
    · rw [diffM, if_neg q1, if_neg (fun h => h q2)] at c1
      have hi := shortS_ok (diffT a b) (at0 b) b.length (by omega)
      have hp := short_props (diffT a b) (at0 b) (n := b.length) (by omega)
      have hnil := short_nil (t := diffT a b) (b := at0 b) (n := b.length) (by omega)
      have hsl := short_len (diffT a b) (at0 b) b.length
      generalize shortS (diffT a b) (at0 b) b.length = l at c1 hi hp hnil hsl
      have hok : allOk a.length l := by rw [q2]; exact hi.ok
      have hab : applyL a l = b := by
        obtain ⟨a1, a2⟩ := apply_at hok
        refine at0_ext (by omega) fun j hj => ?_
        rw [a2, hi.vals]
        by_cases hd : diffT a b j = true
        · rw [if_pos ⟨by omega, hd⟩]; rfl
        · rw [if_neg (fun h => hd h.2)]
          have : at0 a j = at0 b j := by simpa [diffT] using hd
          exact this
      have c2 := (f9_own a l ha hp.1 hp.2.1).pure
      rw [applyM_of (by omega) hok, hab] at c2
      have hq : (((l.length : Nat) : Int) == 0) = decide (a = b) := by
        by_cases hab2 : a = b
        · have : l = [] := hnil.mpr fun j _ => by simp [diffT, hab2]
          rw [this, decide_eq_true hab2]; rfl
        · have : l ≠ [] := fun e => hab2 (at0_ext q2 fun j hj => by
            have := hnil.mp e j (by omega)
            simpa [diffT] using this)
          rw [decide_eq_false hab2]
          have := List.length_pos_iff.mpr this
          simp; omega
      have hq2 : ((((l.length : Nat) : Int) == 0) == decide (a = b)) = true := by rw [hq]; simp
      repeat' ((conv => whnf); first
        | refine Exists.intro _ (And.intro (⟨(List.length_map _).symm⟩) ?_) | refine Pure.call (c1) ?_ | refine Pure.call (c2) ?_ | refine Pure.call (f12_ok b b hb hb) ?_ | refine Pure.call (f12_ok a b ha hb) ?_ | refine Pure.call (f10_ok) ?_ | refine boolF_dect rfl ?_ | refine boolF_dect (by assumption) ?_)
      all_goals (conv => whnf)
      exact ⟨rfl⟩
    · rw [diffM, if_neg q1, if_pos q2] at c1
      repeat' ((conv => whnf); first
        | refine Exists.intro _ (And.intro (⟨(List.length_map _).symm⟩) ?_) | refine Pure.call (c1) ?_ | refine Pure.call (f10_ok) ?_ | refine boolF_not ?_ | refine boolF_decf (by omega) ?_)
      all_goals (conv => whnf)
      exact ⟨rfl⟩

end Go.Proofs.Ytgcbeibemomhcaa

