import Derived.Test.YtgcbeibemomhcaaP8
namespace Go.Proofs.Ytgcbeibemomhcaa
open Go.A
set_option linter.unusedVariables false
set_option linter.unusedSimpArgs false
set_option linter.unnecessarySimpa false
attribute [local irreducible] IntKind.wrap bitsI
set_option maxRecDepth 100000
set_option maxHeartbeats 4000000

theorem lenW {l : List Nat} (h : ok22 l) : l.length ≤ 140737488351232 := by have := h.2; simp [td45] at this; omega
theorem lenO {l : List Op} (h : ok23 l) : l.length ≤ 140737488351232 := by have := h.2; simp [td34] at this; omega
theorem bigO {l : List Op} (h : ok23 l) : bigD l := fun o ho => lenW (h.1 o ho).2.2.2
theorem big {n : Nat} (h : n ≤ 1024) : n ≤ 140737488351232 := by omega

theorem short_props (t : Nat → Bool) (b : Nat → Nat) {n : Nat} (hn : n ≤ 1024) : (shortS t b n).length ≤ 140737488351232 ∧ bigD (shortS t b n) ∧ allOk n (shortS t b n) := by
  have h := shortS_ok t b n hn
  refine ⟨by have := short_len t b n; omega, fun o ho => ?_, h.ok⟩
  have := h.ok o ho
  simp only [okOp] at this; omega
theorem squash_props (n : Int) (ops : List Op) : (squashM n ops).1.length ≤ 140737488351232 ∧ bigD (squashM n ops).1 := by
  unfold squashM
  split
  · exact ⟨by simp, fun o ho => by cases ho⟩
  · split
    · have h := short_props (tch ops) (at0 (applyL (zer n.toNat) ops)) (n := n.toNat) (by omega)
      exact ⟨h.1, h.2.1⟩
    · exact ⟨by simp, fun o ho => by cases ho⟩
theorem diff_props (a b : List Nat) : (diffM a b).1.length ≤ 140737488351232 ∧ bigD (diffM a b).1 := by
  unfold diffM
  split
  · exact ⟨by simp, fun o ho => by cases ho⟩
  · split
    · exact ⟨by simp, fun o ho => by cases ho⟩
    · have h := short_props (diffT a b) (at0 b) (n := b.length) (by omega)
      exact ⟨h.1, h.2.1⟩
theorem zer_at (n j : Nat) : at0 (zer n) j = 0 := by
  simp only [at0, zer, List.getElem?_replicate]
  split <;> rfl

/-- Ops told shortly do what they did. -/
theorem squash_does {m : Nat} {ops : List Op} (hm : m ≤ 1024) (hok : allOk m ops) : ∃ l, squashM m ops = (l, 0) ∧ allOk m l ∧ ordO 0 l ∧ (∀ j, j < m → vals l j = vals ops j) ∧ l.length ≤ 1024 ∧ bigD l := by
  have hi := shortS_ok (tch ops) (at0 (applyL (zer m) ops)) m hm
  have hz := apply_at (v := zer m) (ops := ops) (by rw [zer, List.length_replicate]; exact hok)
  refine ⟨_, by rw [squashM, if_neg (by omega), if_pos hok]; rfl, hi.ok, hi.ord, fun j hj => ?_, Nat.le_trans (short_len _ _ _) hm, (short_props _ _ hm).2.1⟩
  rw [hi.vals, hz.2, zer_at]
  cases h : vals ops j with
  | none => rw [if_neg (by simp [tch, h])]
  | some x => rw [if_pos ⟨hj, by simp [tch, h]⟩]; rfl
theorem squash_twice {m : Nat} {ops l : List Op} (hm : m ≤ 1024) (hok : allOk m ops) (hl : squashM m ops = (l, 0)) : squashM m l = (l, 0) := by
  obtain ⟨l', e, h1, h2, h3, h4, _⟩ := squash_does hm hok
  rw [hl] at e; obtain rfl : l = l' := congrArg Prod.fst e
  have hz := apply_at (v := zer m) (ops := ops) (by rw [zer, List.length_replicate]; exact hok)
  have hz' := apply_at (v := zer m) (ops := l) (by rw [zer, List.length_replicate]; exact h1)
  rw [squashM, if_neg (by omega), if_pos h1]
  rw [squashM, if_neg (by omega), if_pos hok] at hl
  have e := congrArg Prod.fst hl
  dsimp only at e
  refine Prod.ext ?_ rfl
  dsimp only
  refine Eq.trans ?_ e
  exact shortS_congr fun j hj => ⟨by simp only [tch, h3 j hj], by rw [Int.toNat_natCast, hz'.2, hz.2, h3 j hj]⟩
theorem apply_ext {v : List Nat} {ops l : List Op} (h1 : allOk v.length ops) (h2 : allOk v.length l) (h : ∀ j, j < v.length → vals l j = vals ops j) : applyL v l = applyL v ops := by
  obtain ⟨a1, a2⟩ := apply_at h1
  obtain ⟨b1, b2⟩ := apply_at h2
  exact at0_ext (by omega) fun j hj => by rw [a2, b2, h j (by omega)]
theorem apply_twice {v : List Nat} {ops : List Op} (h1 : allOk v.length ops) : applyL (applyL v ops) ops = applyL v ops := by
  obtain ⟨a1, a2⟩ := apply_at h1
  obtain ⟨b1, b2⟩ := apply_at (v := applyL v ops) (ops := ops) (by rw [a1]; exact h1)
  refine at0_ext (by omega) fun j hj => ?_
  rw [b2, a2]
  cases vals ops j <;> rfl
theorem applyM_ok {v : List Nat} {ops : List Op} (h : (applyM v ops).2 = 0) : v.length ≤ 1024 ∧ allOk v.length ops ∧ applyM v ops = (applyL v ops, 0) := by
  unfold applyM at h ⊢
  split at h
  · cases h
  · split at h
    · rename_i h1 h2
      rw [if_neg h1, if_pos h2]
      exact ⟨by omega, h2, rfl⟩
    · cases h
theorem applyM_bad {v : List Nat} {ops : List Op} (h : ¬ (applyM v ops).2 = 0) : (applyM v ops).1 = [] := by
  unfold applyM at h ⊢
  split
  · rfl
  · split
    · rename_i h1 h2; rw [if_neg h1, if_pos h2] at h; exact absurd rfl h
    · rfl
theorem applyM_of {v : List Nat} {ops : List Op} (h1 : v.length ≤ 1024) (h2 : allOk v.length ops) : applyM v ops = (applyL v ops, 0) := by
  rw [applyM, if_neg (by omega), if_pos h2]

def q0 : List Op := [⟨1, 1, 0, [5]⟩, ⟨2, 2, 1, []⟩]
theorem squash0 : squashM 9 [⟨1, 1, 0, [5, 6]⟩, ⟨2, 2, 1, []⟩] = (q0, 0) := by decide +kernel
theorem wkN {a : D} {x y z : D} : Wks [.sl [a, .agg [x, y, z, .nils]]] [.sl [a, .agg [x, y, z, .sl []]]] :=
  .cons (.sl (.cons Wks.refl (.cons (.cons .refl (.cons .refl (.cons .refl (.cons .nils .nil)))) .nil))) .nil

theorem f10_ok : Pure Try.prog 10 [] (.bool true) := by
  refine Pure.of trivial trivial ?_
  have h1 := (f11_own 9 [⟨1, 1, 0, [5, 6]⟩, ⟨2, 2, 1, []⟩] (by simp) (fun o ho => by simp at ho; rcases ho with rfl | rfl <;> simp)).pure
  rw [squash0] at h1
  have h2 := f13_ok q0 q0 (by simp [q0]) (by simp [q0]) (fun o ho => by simp [q0] at ho; rcases ho with rfl | rfl <;> simp) (fun o ho => by simp [q0] at ho; rcases ho with rfl | rfl <;> simp)
  refine CallsIn.of_exec tab_ok mixed Try.func10 rfl rfl [] [] ?_
  (conv => whnf)
  refine Pure.call (h1.wk (.cons .refl wkN)) ?_
  (conv => whnf)
  refine Pure.call (h2.wk (.cons .refl wkN)) ?_
  (conv => whnf)
  exact ⟨(bool_t rfl).symm⟩

theorem blocksTwice_true (v : List Nat) (ops : List Op) (h0 : ok22 v) (h1 : ok23 ops) : CallsIn Try.prog 3 [d22 v, d23 ops] [] fun r _ => r = .bool true := by
  have hv := lenW h0
  have hn := lenO h1
  have hb := bigO h1
  have c1 := (f9_own v ops hv hn hb).pure
  refine CallsIn.of_exec tab_ok mixed Try.func3 rfl rfl [] [] ?_
  by_cases he : (applyM v ops).2 = 0
  · obtain ⟨k1, k2, k3⟩ := applyM_ok he
    rw [k3] at c1
    have hl := (apply_at k2).1
    have hx2 := apply_twice k2
    have c2 := (f9_own (applyL v ops) ops (by omega) hn hb).pure
    rw [applyM_of (by omega) (by rw [hl]; exact k2), hx2] at c2
    obtain ⟨l, e, l1, l2, l3, l4, l5⟩ := squash_does k1 k2
    have c3 := (f11_own v.length ops hn hb).pure
    have c4 := (f11_own v.length l (big l4) l5).pure
    rw [e] at c3
    rw [squash_twice k1 k2 e] at c4
    generalize applyL v ops = x at c1 c2 hl
    repeat' ((conv => whnf); first
      | refine Exists.intro _ (And.intro (⟨(List.length_map _).symm⟩) ?_) | refine Pure.call (c1) ?_ | refine Pure.call (c2) ?_ | refine Pure.call (c3) ?_ | refine Pure.call (c4) ?_ | refine Pure.call (f12_ok x x (by omega) (by omega)) ?_ | refine Pure.call (f13_ok l l (big l4) (big l4) l5 l5) ?_ | refine Pure.call (f10_ok) ?_ | refine boolF_dect rfl ?_)
    all_goals (conv => whnf)
    exact ⟨rfl⟩
  · repeat' ((conv => whnf); first
      | refine Pure.call (c1) ?_ | refine Pure.call (f10_ok) ?_ | refine boolF_not ?_ | refine boolF_decf (by assumption) ?_)
    all_goals (conv => whnf)
    exact ⟨rfl⟩

end Go.Proofs.Ytgcbeibemomhcaa

