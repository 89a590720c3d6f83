import Derived.Test.YtgcbeibemomhcaaR
import Derived.Test.YtgcbeibemomhcaaA34
namespace Go.Proofs.Ytgcbeibemomhcaa
open Go.A
set_option linter.unusedVariables false
set_option linter.unusedSimpArgs false
set_option linter.unnecessarySimpa false
attribute [local irreducible] IntKind.wrap bitsI
set_option maxRecDepth 100000

abbrev Op := T33
def at0 (l : List Nat) (j : Nat) : Nat := (l[j]?).getD 0
theorem at0_get {l : List Nat} {j : Nat} (h : j < l.length) : l[j]? = some (at0 l j) := by
  rw [at0, List.getElem?_eq_getElem h]; rfl
theorem at0_ext {a b : List Nat} (hl : a.length = b.length) (h : ∀ j, j < a.length → at0 a j = at0 b j) : a = b := by
  refine List.ext_getElem? fun j => ?_
  rcases Nat.lt_or_ge j a.length with g | g
  · rw [at0_get g, at0_get (by omega), h j g]
  · rw [List.getElem?_eq_none g, List.getElem?_eq_none (by omega)]
def rng (o : Op) : Int × Int := if o.kind_ = 1 then (o.off_, (o.data_.length : Int)) else if o.kind_ = 2 then (o.off_, o.len_) else (0, 0)
def okOp (n : Int) (o : Op) : Prop := 0 ≤ n ∧ n ≤ 1024 ∧ 0 ≤ o.off_ ∧ ((o.kind_ = 1 ∧ o.len_ = 0 ∧ 1 ≤ o.data_.length ∧ o.data_.length ≤ 64 ∧ o.off_ + (o.data_.length : Int) ≤ n) ∨ (o.kind_ = 2 ∧ o.data_.length = 0 ∧ 1 ≤ o.len_ ∧ o.off_ + o.len_ ≤ n))
instance (n : Int) (o : Op) : Decidable (okOp n o) := inferInstanceAs (Decidable (_ ∧ _ ∧ _ ∧ ((_ ∧ _ ∧ _ ∧ _ ∧ _) ∨ (_ ∧ _ ∧ _ ∧ _))))
def dat (o : Op) : List Nat := if o.kind_ = 2 then List.replicate o.len_.toNat 0 else o.data_
def doO (v : List Nat) (o : Op) : List Nat := spliceL v o.off_.toNat (dat o)
def applyL (v : List Nat) (ops : List Op) : List Nat := ops.foldl doO v
def allOk (n : Int) (ops : List Op) : Prop := ∀ o ∈ ops, okOp n o
instance (n : Int) (ops : List Op) : Decidable (allOk n ops) := inferInstanceAs (Decidable (∀ o ∈ ops, okOp n o))
def applyM (v : List Nat) (ops : List Op) : List Nat × Int := if 1024 < v.length then ([], 6) else if allOk v.length ops then (applyL v ops, 0) else ([], 1)

/-- What an op makes of a block. -/
def val (o : Op) (j : Nat) : Option Nat := if o.off_.toNat ≤ j ∧ j < o.off_.toNat + (dat o).length then some (at0 (dat o) (j - o.off_.toNat)) else none
def vals : List Op → Nat → Option Nat
  | [], _ => none
  | o :: l, j => match vals l j with | some x => some x | none => val o j
theorem vals_append (l m : List Op) (j : Nat) : vals (l ++ m) j = (match vals m j with | some x => some x | none => vals l j) := by
  induction l with
  | nil => simp [vals]; cases vals m j <;> rfl
  | cons o l ih =>
    rw [List.cons_append, vals, ih]
    cases vals m j <;> rfl
theorem vals_snoc (l : List Op) (o : Op) (j : Nat) : vals (l ++ [o]) j = (match val o j with | some x => some x | none => vals l j) := by
  rw [vals_append]; rfl

theorem dat_len {n : Int} {o : Op} (h : okOp n o) : ((dat o).length : Int) = (rng o).2 ∧ (rng o).1 = o.off_ ∧ 1 ≤ (dat o).length ∧ o.off_ + ((dat o).length : Int) ≤ n := by
  obtain ⟨h1, h2, h3, h | h⟩ := h
  · obtain ⟨k1, k2, k3, k4, k5⟩ := h
    simp only [dat, rng, k1]
    simp; omega
  · obtain ⟨k1, k2, k3, k4⟩ := h
    simp only [dat, rng, k1]
    simp; omega

theorem splice_at {l xs : List Nat} {off k : Nat} (h : off + xs.length ≤ l.length) : (spliceL l off xs).length = l.length ∧ at0 (spliceL l off xs) k = if off ≤ k ∧ k < off + xs.length then at0 xs (k - off) else at0 l k := by
  refine ⟨spliceL_length l off xs h, ?_⟩
  have e : (l.take off).length = off := by rw [List.length_take]; omega
  simp only [at0, spliceL]
  by_cases h1 : k < off
  · rw [if_neg (by omega), List.append_assoc, List.getElem?_append_left (by omega), List.getElem?_take_of_lt h1]
  · by_cases h2 : k < off + xs.length
    · rw [if_pos (by omega), List.append_assoc, List.getElem?_append_right (by omega), e, List.getElem?_append_left (by omega)]
    · rw [if_neg (by omega), List.getElem?_append_right (by simp; omega), List.getElem?_drop]
      congr 2
      simp; omega

theorem do_at {v : List Nat} {o : Op} (h : okOp v.length o) : (doO v o).length = v.length ∧ ∀ j, at0 (doO v o) j = (val o j).getD (at0 v j) := by
  obtain ⟨_, _, h3, h4⟩ := dat_len h
  have h0 := h.2.2.1
  have hs := fun k => splice_at (l := v) (xs := dat o) (off := o.off_.toNat) (k := k) (by omega)
  refine ⟨(hs 0).1, fun j => ?_⟩
  rw [doO, (hs j).2, val]
  split <;> rfl

theorem apply_at : ∀ {ops : List Op} {v : List Nat}, allOk v.length ops → (applyL v ops).length = v.length ∧ ∀ j, at0 (applyL v ops) j = (vals ops j).getD (at0 v j)
  | [], v, _ => ⟨rfl, fun _ => rfl⟩
  | o :: ops, v, h => by
    obtain ⟨h1, h2⟩ := do_at (h o List.mem_cons_self)
    obtain ⟨h3, h4⟩ := apply_at (ops := ops) (v := doO v o) (by rw [h1]; exact fun x hx => h x (List.mem_cons_of_mem _ hx))
    refine ⟨h3.trans h1, fun j => ?_⟩
    show at0 (applyL (doO v o) ops) j = _
    rw [h4, h2, vals]
    cases vals ops j <;> rfl

theorem val_lt {n : Int} {o : Op} (h : okOp n o) {j : Nat} (hj : n ≤ j) : val o j = none := by
  obtain ⟨_, _, h3, h4⟩ := dat_len h
  have := h.2.2.1
  rw [val, if_neg (by omega)]
theorem vals_lt {n : Int} : ∀ {ops : List Op}, allOk n ops → ∀ {j : Nat}, n ≤ j → vals ops j = none
  | [], _, _, _ => rfl
  | o :: ops, h, j, hj => by
    rw [vals, vals_lt (ops := ops) (fun x hx => h x (List.mem_cons_of_mem _ hx)) hj]
    exact val_lt (h o List.mem_cons_self) hj

/- Told shortly. -/
def near (t : Nat → Bool) (b : Nat → Nat) (i : Nat) : Prop := 0 < i ∧ t (i - 1) = true ∧ (b (i - 1) = 0 ↔ b i = 0)
instance (t : Nat → Bool) (b : Nat → Nat) (i : Nat) : Decidable (near t b i) := inferInstanceAs (Decidable (_ ∧ _ ∧ (_ ↔ _)))
def trimO (i k : Int) : Op := ⟨2, i, k, []⟩
def writeO (i : Int) (d : List Nat) : Op := ⟨1, i, 0, d⟩
def stepS (t : Nat → Bool) (b : Nat → Nat) (out : List Op) (i : Nat) : List Op :=
  if t i = false then out else
  match out[out.length - 1]? with
  | none => if b i = 0 then out ++ [trimO i 1] else out ++ [writeO i [b i]]
  | some l =>
    if near t b i ∧ b i = 0 then out.set (out.length - 1) ⟨l.kind_, l.off_, l.len_ + 1, l.data_⟩
    else if b i = 0 then out ++ [trimO i 1]
    else if near t b i ∧ l.data_.length < 64 then out.set (out.length - 1) ⟨l.kind_, l.off_, l.len_, l.data_ ++ [b i]⟩
    else out ++ [writeO i [b i]]
def shortS (t : Nat → Bool) (b : Nat → Nat) : Nat → List Op
  | 0 => []
  | i + 1 => stepS t b (shortS t b i) i

theorem snoc_of {α : Type} {l : List α} {y : α} (h : l[l.length - 1]? = some y) : ∃ k, l = k ++ [y] := by
  obtain ⟨h1, h2⟩ := List.getElem?_eq_some_iff.mp h
  refine ⟨l.take (l.length - 1), ?_⟩
  have e := take_snoc h
  rw [show l.length - 1 + 1 = l.length by omega, List.take_length] at e
  exact e
theorem set_last {α : Type} (k : List α) (y z : α) : (k ++ [y]).set ((k ++ [y]).length - 1) z = k ++ [z] := by
  rw [List.length_append, List.length_singleton, Nat.add_sub_cancel, List.set_append_right _ _ (Nat.le_refl _), Nat.sub_self]; rfl

/-- Ops in order, none meeting another. -/
def ordO (a : Int) : List Op → Prop
  | [] => True
  | o :: l => a ≤ o.off_ ∧ ordO (o.off_ + ((dat o).length : Int)) l
theorem ordO_snoc {c : Int} : ∀ {k : List Op} {a : Int} {y : Op}, ordO a k → (∀ o ∈ k, o.off_ + ((dat o).length : Int) ≤ c) → a ≤ c → c ≤ y.off_ → ordO a (k ++ [y])
  | [], a, y, _, _, h1, h2 => ⟨by omega, trivial⟩
  | x :: k, a, y, h, he, h1, h2 => ⟨h.1, ordO_snoc h.2 (fun o ho => he o (List.mem_cons_of_mem _ ho)) (he x List.mem_cons_self) h2⟩
theorem ordO_of {a : Int} : ∀ {k : List Op} {y : Op}, ordO a (k ++ [y]) → ordO a k
  | [], _, _ => trivial
  | _ :: _, _, h => ⟨h.1, ordO_of h.2⟩
theorem ordO_last {a : Int} : ∀ {k : List Op} {y z : Op}, ordO a (k ++ [y]) → y.off_ = z.off_ → ordO a (k ++ [z])
  | [], _, _, h, e => ⟨e ▸ h.1, trivial⟩
  | _ :: _, _, _, h, e => ⟨h.1, ordO_last h.2 e⟩

structure InvS (t : Nat → Bool) (b : Nat → Nat) (i : Nat) (out : List Op) : Prop where
  ok : allOk i out
  ord : ordO 0 out
  vals : ∀ j, vals out j = if j < i ∧ t j = true then some (b j) else none
  last : 0 < i → t (i - 1) = true → ∃ k l, out = k ++ [l] ∧ l.off_ + ((dat l).length : Int) = i ∧ (b (i - 1) = 0 → l.kind_ = 2) ∧ (b (i - 1) ≠ 0 → l.kind_ = 1)

theorem okOp_mono {n m : Int} {o : Op} (h : okOp n o) (h1 : n ≤ m) (h2 : m ≤ 1024) : okOp m o := by
  simp only [okOp] at h ⊢; omega

theorem at0_snoc (l : List Nat) (x : Nat) (j : Nat) : at0 (l ++ [x]) j = if j = l.length then x else at0 l j := by
  simp only [at0]
  rcases Nat.lt_trichotomy j l.length with h | h | h
  · rw [List.getElem?_append_left h, if_neg (by omega)]
  · subst h; simp
  · rw [if_neg (by omega), List.getElem?_eq_none (by simp; omega), List.getElem?_eq_none (by omega)]

theorem invS_new {t : Nat → Bool} {b : Nat → Nat} {i : Nat} {out : List Op} (h : InvS t b i out) (hi : i < 1024) (ht : t i = true) {o : Op} (ho : o = if b i = 0 then trimO i 1 else writeO i [b i]) : InvS t b (i + 1) (out ++ [o]) := by
  have hd : dat o = [b i] ∧ o.off_ = (i : Int) ∧ (b i = 0 → o.kind_ = 2) ∧ (b i ≠ 0 → o.kind_ = 1) ∧ okOp ((i : Int) + 1) o := by
    rw [ho]
    split
    · rename_i h0
      refine ⟨by simp [dat, trimO, h0], rfl, fun _ => rfl, fun h => absurd h0 h, ?_⟩
      exact ⟨by omega, by omega, by show (0 : Int) ≤ i; omega, .inr ⟨rfl, rfl, Int.le_refl _, Int.le_refl _⟩⟩
    · rename_i h0
      refine ⟨by simp [dat, writeO], rfl, fun h => absurd h h0, fun _ => rfl, ?_⟩
      exact ⟨by omega, by omega, by show (0 : Int) ≤ i; omega, .inl ⟨rfl, rfl, Nat.le_refl _, by show 1 ≤ 64; decide, Int.le_refl _⟩⟩
  obtain ⟨d1, d2, d3, d4, d5⟩ := hd
  refine ⟨fun x hx => ?_, ?_, fun j => ?_, fun _ _ => ⟨out, o, rfl, ?_, ?_, ?_⟩⟩
  · rcases List.mem_append.mp hx with hx | hx
    · exact okOp_mono (h.ok x hx) (by omega) (by omega)
    · simp only [List.mem_singleton] at hx; subst hx; exact d5
  · exact ordO_snoc (c := i) h.ord (fun x hx => (dat_len (h.ok x hx)).2.2.2) (by omega) (by omega)
  · rw [vals_snoc, h.vals, val, d1, d2]
    simp only [List.length_singleton]
    by_cases hj : j = i
    · subst hj
      have e : j - ((j : Int)).toNat = 0 := by omega
      rw [if_pos (show (j : Int).toNat ≤ j ∧ j < (j : Int).toNat + 1 by omega), e]
      show some (b j) = _
      rw [if_pos ⟨Nat.lt_succ_self j, ht⟩]
    · rw [if_neg (by omega)]
      dsimp only
      by_cases h1 : j < i
      · simp [h1, show j < i + 1 by omega]
      · rw [if_neg (by omega), if_neg (by omega)]
  · rw [d1, d2]; simp
  · exact d3
  · exact d4

theorem invS_more {t : Nat → Bool} {b : Nat → Nat} {i : Nat} {k : List Op} {l l' : Op} (h : InvS t b i (k ++ [l])) (hi : i < 1024) (ht : t i = true) (he : l.off_ + ((dat l).length : Int) = i)
    (hd : dat l' = dat l ++ [b i]) (ho : l'.off_ = l.off_) (hok : okOp ((i : Int) + 1) l') (h0 : b i = 0 → l'.kind_ = 2) (h1 : b i ≠ 0 → l'.kind_ = 1) : InvS t b (i + 1) (k ++ [l']) := by
  have hl := h.ok l (by simp)
  have hl0 := hl.2.2.1
  refine ⟨fun x hx => ?_, ?_, fun j => ?_, fun _ _ => ⟨k, l', rfl, ?_, h0, h1⟩⟩
  · rcases List.mem_append.mp hx with hx | hx
    · exact okOp_mono (h.ok x (List.mem_append_left _ hx)) (by omega) (by omega)
    · simp only [List.mem_singleton] at hx; subst hx; exact hok
  · exact ordO_last h.ord ho.symm
  · have hv := h.vals j
    rw [vals_snoc] at hv ⊢
    have e : val l' j = if j = i then some (b i) else val l j := by
      simp only [val, hd, ho, List.length_append, List.length_singleton, at0_snoc]
      by_cases hj : j = i
      · subst hj
        rw [if_pos (by omega), if_pos rfl, if_pos (by omega)]
      · rw [if_neg hj]
        by_cases hr : l.off_.toNat ≤ j ∧ j < l.off_.toNat + (dat l).length
        · rw [if_pos (by omega), if_pos hr, if_neg (by omega)]
        · rw [if_neg (by omega), if_neg hr]
    rw [e]
    by_cases hj : j = i
    · subst hj
      rw [if_pos rfl, if_pos ⟨by omega, ht⟩]
    · rw [if_neg hj, hv]
      by_cases h1 : j < i
      · simp [h1, show j < i + 1 by omega]
      · rw [if_neg (by omega), if_neg (by omega)]
  · rw [hd, ho, List.length_append, List.length_singleton]; omega

theorem invS_step {t : Nat → Bool} {b : Nat → Nat} {i : Nat} {out : List Op} (h : InvS t b i out) (hi : i < 1024) : InvS t b (i + 1) (stepS t b out i) := by
  unfold stepS
  split
  · rename_i ht
    refine ⟨fun x hx => okOp_mono (h.ok x hx) (by omega) (by omega), h.ord, fun j => ?_, fun _ h2 => ?_⟩
    · rw [h.vals]
      by_cases hj : j = i
      · subst hj; simp [ht]
      · by_cases h1 : j < i
        · simp [h1, show j < i + 1 by omega]
        · rw [if_neg (by omega), if_neg (by omega)]
    · rw [Nat.add_sub_cancel, ht] at h2; cases h2
  · rename_i ht
    have ht : t i = true := by simpa using ht
    split
    · split
      · rename_i h0; exact invS_new h hi ht (by rw [if_pos h0])
      · rename_i h0; exact invS_new h hi ht (by rw [if_neg h0])
    · rename_i l hl
      obtain ⟨k, rfl⟩ := snoc_of hl
      split
      · rename_i hc
        obtain ⟨hn, h0⟩ := hc
        obtain ⟨k', l', e, e1, e2, e3⟩ := h.last hn.1 hn.2.1
        obtain ⟨rfl, e⟩ := List.append_inj' e rfl
        obtain rfl : l = l' := by simpa using e
        have hk := e2 (hn.2.2.mpr h0)
        have hlo := h.ok l (by simp)
        rw [set_last]
        have hd : dat l = List.replicate l.len_.toNat 0 := by rw [dat, if_pos hk]
        have hd2 := e1
        rw [hd, List.length_replicate] at hd2
        simp only [okOp, hk] at hlo
        refine invS_more h hi ht e1 ?_ rfl ?_ (fun _ => hk) (fun h => absurd h0 h)
        · rw [hd, dat, if_pos (by exact hk)]
          show List.replicate (l.len_ + 1).toNat 0 = _
          rw [show (l.len_ + 1).toNat = l.len_.toNat + 1 by omega, List.replicate_succ', h0]
        · exact ⟨by omega, by omega, hlo.2.2.1, .inr ⟨hk, by show l.data_.length = 0; omega, by show 1 ≤ l.len_ + 1; omega, by show l.off_ + (l.len_ + 1) ≤ _; omega⟩⟩
      · split
        · rename_i h0; exact invS_new h hi ht (by rw [if_pos h0])
        · rename_i h0
          split
          · rename_i hc
            obtain ⟨hn, h64⟩ := hc
            obtain ⟨k', l', e, e1, e2, e3⟩ := h.last hn.1 hn.2.1
            obtain ⟨rfl, e⟩ := List.append_inj' e rfl
            obtain rfl : l = l' := by simpa using e
            have hk := e3 (fun h => h0 (hn.2.2.mp h))
            have hlo := h.ok l (by simp)
            rw [set_last]
            have hd : dat l = l.data_ := by rw [dat, if_neg (by omega)]
            rw [hd] at e1
            simp only [okOp, hk] at hlo
            refine invS_more h hi ht (by rw [hd]; exact e1) ?_ rfl ?_ (fun h => absurd h h0) (fun _ => hk)
            · rw [hd, dat, if_neg (by dsimp only; omega)]
            · have e2 : (l.data_ ++ [b i]).length = l.data_.length + 1 := by simp
              exact ⟨by omega, by omega, hlo.2.2.1, .inl ⟨hk, by show l.len_ = 0; omega, by show 1 ≤ (l.data_ ++ [b i]).length; omega, by show (l.data_ ++ [b i]).length ≤ 64; omega, by show l.off_ + ((l.data_ ++ [b i]).length : Int) ≤ _; omega⟩⟩
          · exact invS_new h hi ht (by rw [if_neg h0])

theorem shortS_ok (t : Nat → Bool) (b : Nat → Nat) : ∀ i, i ≤ 1024 → InvS t b i (shortS t b i)
  | 0, _ => ⟨fun x hx => (by cases hx), trivial, fun j => by simp [shortS, vals], fun h => absurd h (Nat.lt_irrefl _)⟩
  | i + 1, h => invS_step (shortS_ok t b i (by omega)) (by omega)

theorem shortS_congr {t t' : Nat → Bool} {b b' : Nat → Nat} : ∀ {n : Nat}, (∀ j, j < n → t j = t' j ∧ b j = b' j) → shortS t b n = shortS t' b' n
  | 0, _ => rfl
  | n + 1, h => by
    have ih := shortS_congr (n := n) fun j hj => h j (by omega)
    have hn := h n (by omega)
    rw [shortS, shortS, ih]
    have e : near t b n ↔ near t' b' n := by
      unfold near
      rcases Nat.eq_zero_or_pos n with h0 | h0
      · omega
      · have := h (n - 1) (by omega)
        rw [this.1, this.2, hn.2]
    unfold stepS
    rw [hn.1, hn.2]
    split
    · rfl
    · split
      · rfl
      · simp only [e]

/- A run of blocks, all nought, or none of them. -/
theorem short_zero {t : Nat → Bool} {b : Nat → Nat} {i : Nat} : ∀ {m : Nat}, i + (m + 1) ≤ 1024 → (∀ j, i ≤ j → j < i + (m + 1) → t j = true ∧ b j = 0) → ¬ near t b i → shortS t b (i + (m + 1)) = shortS t b i ++ [trimO i ((m + 1 : Nat) : Int)]
  | 0, h, hz, hn => by
    obtain ⟨h1, h2⟩ := hz i (by omega) (by omega)
    show stepS t b (shortS t b i) i = _
    unfold stepS
    rw [if_neg (by simp [h1])]
    split
    · rw [if_pos h2]; rfl
    · rw [if_neg (fun h => hn h.1), if_pos h2]; rfl
  | m + 1, h, hz, hn => by
    have ih := short_zero (m := m) (by omega) (fun j h1 h2 => hz j h1 (by omega)) hn
    obtain ⟨h1, h2⟩ := hz (i + (m + 1)) (by omega) (by omega)
    obtain ⟨h3, h4⟩ := hz (i + m) (by omega) (by omega)
    show stepS t b (shortS t b (i + (m + 1))) (i + (m + 1)) = _
    rw [ih]
    unfold stepS
    rw [if_neg (by simp [h1])]
    have e : (shortS t b i ++ [trimO i ((m + 1 : Nat) : Int)])[(shortS t b i ++ [trimO i ((m + 1 : Nat) : Int)]).length - 1]? = some (trimO i ((m + 1 : Nat) : Int)) := by simp
    rw [e]
    dsimp only
    rw [if_pos ⟨⟨by omega, by rw [show i + (m + 1) - 1 = i + m by omega]; exact h3, by rw [show i + (m + 1) - 1 = i + m by omega, h4, h2]⟩, h2⟩, set_last]
    rfl

def seg (b : Nat → Nat) (i : Nat) : Nat → List Nat
  | 0 => []
  | m + 1 => seg b i m ++ [b (i + m)]
theorem seg_len (b : Nat → Nat) (i : Nat) : ∀ m, (seg b i m).length = m
  | 0 => rfl
  | m + 1 => by rw [seg, List.length_append, seg_len b i m]; rfl
theorem seg_at {v : List Nat} {i : Nat} : ∀ {m : Nat}, i + m ≤ v.length → seg (at0 v) i m = (v.drop i).take m
  | 0, _ => by simp [seg]
  | m + 1, h => by
    have hg : (v.drop i)[m]? = some (at0 v (i + m)) := by rw [List.getElem?_drop]; exact at0_get (by omega)
    rw [seg, seg_at (m := m) (by omega), take_snoc hg]

theorem short_seg {t : Nat → Bool} {b : Nat → Nat} {i : Nat} : ∀ {m : Nat}, m < 64 → (∀ j, i ≤ j → j < i + (m + 1) → t j = true ∧ b j ≠ 0) → (near t b i → ∃ k l, shortS t b i = k ++ [l] ∧ 64 ≤ l.data_.length) → shortS t b (i + (m + 1)) = shortS t b i ++ [writeO i (seg b i (m + 1))]
  | 0, h, hz, hn => by
    obtain ⟨h1, h2⟩ := hz i (by omega) (by omega)
    show stepS t b (shortS t b i) i = _
    unfold stepS
    rw [if_neg (by simp [h1])]
    split
    · rw [if_neg h2]; rfl
    · rename_i l hl
      rw [if_neg (fun h => h2 h.2), if_neg h2, if_neg]
      · rfl
      · rintro ⟨g1, g2⟩
        obtain ⟨k, l', e, e2⟩ := hn g1
        rw [e] at hl
        obtain rfl : l' = l := by simpa using hl
        omega
  | m + 1, h, hz, hn => by
    have ih := short_seg (m := m) (by omega) (fun j h1 h2 => hz j h1 (by omega)) hn
    obtain ⟨h1, h2⟩ := hz (i + (m + 1)) (by omega) (by omega)
    obtain ⟨h3, h4⟩ := hz (i + m) (by omega) (by omega)
    show stepS t b (shortS t b (i + (m + 1))) (i + (m + 1)) = _
    rw [ih]
    unfold stepS
    rw [if_neg (by simp [h1])]
    have e : (shortS t b i ++ [writeO i (seg b i (m + 1))])[(shortS t b i ++ [writeO i (seg b i (m + 1))]).length - 1]? = some (writeO i (seg b i (m + 1))) := by simp
    rw [e]
    dsimp only
    have hlen := seg_len b i (m + 1)
    rw [if_neg (fun h => h2 h.2), if_neg h2, if_pos ⟨⟨by omega, by rw [show i + (m + 1) - 1 = i + m by omega]; exact h3, by rw [show i + (m + 1) - 1 = i + m by omega]; exact ⟨fun h => absurd h h4, fun h => absurd h h2⟩⟩, by show (seg b i (m + 1)).length < 64; omega⟩, set_last]
    rfl

end Go.Proofs.Ytgcbeibemomhcaa

