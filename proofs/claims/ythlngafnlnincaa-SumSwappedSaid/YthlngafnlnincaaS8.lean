import Derived.Test.YthlngafnlnincaaS7
namespace Go.Proofs.Ythlngafnlnincaa
open Go.A
set_option linter.unusedVariables false
set_option linter.unusedSimpArgs false
set_option linter.unnecessarySimpa false
attribute [local irreducible] IntKind.wrap bitsI
set_option maxRecDepth 100000
set_option maxHeartbeats 4000000

theorem fold_fst : ∀ (l : List Nat) (p : Nat × Nat), (l.foldl stepS p).1 % 65521 = (p.1 + l.sum) % 65521
  | [], p => by simp
  | x :: l, p => by
    rw [List.foldl_cons, fold_fst l, List.sum_cons]
    simp only [stepS]
    omega

def sndG : List Nat → Nat → Nat
  | [], _ => 0
  | x :: l, a => (a + x) % 65521 + sndG l ((a + x) % 65521)

theorem fold_snd : ∀ (l : List Nat) (p : Nat × Nat), (l.foldl stepS p).2 % 65521 = (p.2 + sndG l p.1) % 65521
  | [], p => by simp [sndG]
  | x :: l, p => by
    rw [List.foldl_cons, fold_snd l, sndG]
    simp only [stepS]
    omega

theorem moreS_inj {a b : List Nat} (h : moreS 1 a = moreS 1 b) : sumS 1 a = sumS 1 b := by
  have h1 := sumS_lt 1 a
  have h2 := sumS_lt 1 b
  simp only [moreS] at h
  refine Prod.ext ?_ ?_ <;> omega

theorem be4_inj {s t : Nat} (hs : s < 4294967296) (ht : t < 4294967296) (h : be4 s = be4 t) : s = t := by
  simp only [be4, List.cons.injEq, and_true] at h
  omega

theorem set_sum : ∀ {l : List Nat} {i x y : Nat}, l[i]? = some x → (l.set i y).sum + x = l.sum + y
  | [], i, x, y, h => by simp at h
  | z :: l, 0, x, y, h => by simp at h; subst h; simp; omega
  | z :: l, i + 1, x, y, h => by
    have := set_sum (l := l) (i := i) (x := x) (y := y) (by simpa using h)
    simp only [List.set_cons_succ, List.sum_cons]; omega

theorem xor_ne {x y : Nat} (h : y ≠ 0) : x ^^^ y ≠ x := fun e => h (by
  have : x ^^^ (x ^^^ y) = y := by rw [← Nat.xor_assoc, Nat.xor_self, Nat.zero_xor]
  rw [e, Nat.xor_self] at this
  exact this.symm)

/-- With one byte another nothing is opened. -/
theorem turn_open {b : List Nat} {i x y : Nat} (hb : okB b) (hx : (sealB b)[i]? = some x) (hne : y ≠ x) (hy : y < 256) : openB ((sealB b).set i y) = ([], 4) := by
  have hl := sealB_len b
  have hx8 : x < 256 := sealB_lt b hb.1 x (List.mem_of_getElem? hx)
  have hi := (List.getElem?_eq_some_iff.mp hx).1
  have e : ((sealB b).set i y).length - 4 = b.length := by rw [List.length_set]; omega
  rw [openB, e, if_neg]
  rintro ⟨_, h⟩
  rcases Nat.lt_or_ge i b.length with h1 | h1
  · have hxb : b[i]? = some x := by rw [sealB, List.getElem?_append_left h1] at hx; exact hx
    rw [sealB, List.set_append_left _ _ h1] at h
    have t1 : (b.set i y ++ be4 (moreS 1 b)).take b.length = b.set i y := by rw [List.take_append_of_le_length (by rw [List.length_set]; exact Nat.le_refl _), List.take_of_length_le (by rw [List.length_set]; exact Nat.le_refl _)]
    have t2 : (b.set i y ++ be4 (moreS 1 b)).drop b.length = be4 (moreS 1 b) := by
      rw [show b.length = (b.set i y).length by rw [List.length_set]]; simp
    rw [t1, t2] at h
    have h2 := moreS_inj (be4_inj (moreS_lt _ _) (moreS_lt _ _) h)
    have h3 : (sumS 1 b).1 % 65521 = (sumS 1 (b.set i y)).1 % 65521 := by rw [h2]
    rw [sumS, sumS, fold_fst, fold_fst] at h3
    have h4 := set_sum (y := y) hxb
    omega
  · rw [sealB, List.set_append_right _ _ h1] at h
    have t1 : (b ++ (be4 (moreS 1 b)).set (i - b.length) y).take b.length = b := by simp
    have t2 : (b ++ (be4 (moreS 1 b)).set (i - b.length) y).drop b.length = (be4 (moreS 1 b)).set (i - b.length) y := by simp
    rw [t1, t2] at h
    have hxb : (be4 (moreS 1 b))[i - b.length]? = some x := by rw [sealB, List.getElem?_append_right h1] at hx; exact hx
    have hlt := (List.getElem?_eq_some_iff.mp hxb).1
    have h5 : ((be4 (moreS 1 b)).set (i - b.length) y)[i - b.length]? = some y := by rw [List.getElem?_set_self hlt]
    rw [h, hxb] at h5
    exact hne (Option.some.inj h5).symm

/-- Two neighbours exchanged. -/
def swapAt (l : List Nat) (i x y : Nat) : List Nat := (l.set i y).set (i + 1) x

theorem swap_open {b : List Nat} {i x y : Nat} (hb : okB b) (hx : b[i]? = some x) (hy : b[i + 1]? = some y) (hne : x ≠ y) : openB (swapAt (sealB b) i x y) = ([], 4) := by
  have hl := sealB_len b
  have hx8 : x < 256 := hb.1 x (List.mem_of_getElem? hx)
  have hy8 : y < 256 := hb.1 y (List.mem_of_getElem? hy)
  have hi := (List.getElem?_eq_some_iff.mp hy).1
  have e : (swapAt (sealB b) i x y).length - 4 = b.length := by rw [swapAt, List.length_set, List.length_set]; omega
  rw [openB, e, if_neg]
  rintro ⟨_, h⟩
  have e2 : swapAt (sealB b) i x y = swapAt b i x y ++ be4 (moreS 1 b) := by
    rw [swapAt, sealB, List.set_append_left _ _ (by omega), List.set_append_left _ _ (by rw [List.length_set]; omega)]; rfl
  have hsl : (swapAt b i x y).length = b.length := by rw [swapAt, List.length_set, List.length_set]
  have t1 : (swapAt b i x y ++ be4 (moreS 1 b)).take b.length = swapAt b i x y := by rw [← hsl]; simp
  have t2 : (swapAt b i x y ++ be4 (moreS 1 b)).drop b.length = be4 (moreS 1 b) := by rw [← hsl]; simp
  rw [e2, t1, t2] at h
  have h2 := moreS_inj (be4_inj (moreS_lt _ _) (moreS_lt _ _) h)
  have eb : b = b.take i ++ x :: y :: b.drop (i + 2) := by
    have h1 := (List.take_append_drop i b).symm
    rw [drop_of_get hx, drop_of_get hy] at h1
    exact h1
  have es : swapAt b i x y = b.take i ++ y :: x :: b.drop (i + 2) := by
    have hti : (b.take i).length = i := by rw [List.length_take]; omega
    obtain ⟨l1, hl1⟩ : ∃ l1, l1 = b.take i := ⟨_, rfl⟩
    obtain ⟨l2, hl2⟩ : ∃ l2, l2 = b.drop (i + 2) := ⟨_, rfl⟩
    rw [← hl1, ← hl2] at eb ⊢
    rw [← hl1] at hti
    rw [eb, swapAt, ← hti]
    simp
  have h3 : (sumS 1 b).2 % 65521 = (sumS 1 (swapAt b i x y)).2 % 65521 := by rw [h2]
  rw [es] at h3
  rw [show sumS 1 b = sumS 1 (b.take i ++ x :: y :: b.drop (i + 2)) by rw [← eb]] at h3
  rw [sumS, sumS, List.foldl_append, List.foldl_append, List.foldl_cons, List.foldl_cons, List.foldl_cons, List.foldl_cons, fold_snd, fold_snd] at h3
  obtain ⟨p, hp⟩ : ∃ p, p = (b.take i).foldl stepS (sum0 1) := ⟨_, rfl⟩
  rw [← hp] at h3
  have e1 : (stepS (stepS p x) y).1 = (stepS (stepS p y) x).1 := by simp only [stepS]; omega
  rw [e1] at h3
  simp only [stepS] at h3
  omega

end Go.Proofs.Ythlngafnlnincaa

