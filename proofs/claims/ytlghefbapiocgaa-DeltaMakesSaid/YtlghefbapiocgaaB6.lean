import Derived.Test.YtlghefbapiocgaaE8
-- merged
namespace Go.Proofs.Ytlghefbapiocgaa.V
open Go.A
set_option linter.unusedVariables false
set_option linter.unusedSimpArgs false
set_option linter.unnecessarySimpa false
attribute [local irreducible] IntKind.wrap bitsI
set_option maxRecDepth 100000

abbrev Op := T72
def at0 (l : List Nat) (j : Nat) : Nat := (l[j]?).getD 0
theorem at0_get {l : List Nat} {j : Nat} (h : j < l.length) : l[j]? = some (at0 l j) := by
  rw [at0, List.getElem?_eq_getElem h]; rfl
theorem at0_ext {a b : List Nat} (hl : a.length = b.length) (h : ∀ j, j < a.length → at0 a j = at0 b j) : a = b := by
  refine List.ext_getElem? fun j => ?_
  rcases Nat.lt_or_ge j a.length with g | g
  · rw [at0_get g, at0_get (by omega), h j g]
  · rw [List.getElem?_eq_none g, List.getElem?_eq_none (by omega)]
def rng (o : Op) : Int × Int := if o.kind_ = 1 then (o.off_, (o.data_.length : Int)) else if o.kind_ = 2 then (o.off_, o.len_) else (0, 0)
def okOp (n : Int) (o : Op) : Prop := 0 ≤ n ∧ n ≤ 1024 ∧ 0 ≤ o.off_ ∧ ((o.kind_ = 1 ∧ o.len_ = 0 ∧ 1 ≤ o.data_.length ∧ o.data_.length ≤ 64 ∧ o.off_ + (o.data_.length : Int) ≤ n) ∨ (o.kind_ = 2 ∧ o.data_.length = 0 ∧ 1 ≤ o.len_ ∧ o.off_ + o.len_ ≤ n))
instance (n : Int) (o : Op) : Decidable (okOp n o) := inferInstanceAs (Decidable (_ ∧ _ ∧ _ ∧ ((_ ∧ _ ∧ _ ∧ _ ∧ _) ∨ (_ ∧ _ ∧ _ ∧ _))))
def dat (o : Op) : List Nat := if o.kind_ = 2 then List.replicate o.len_.toNat 0 else o.data_
def doO (v : List Nat) (o : Op) : List Nat := spliceL v o.off_.toNat (dat o)
def applyL (v : List Nat) (ops : List Op) : List Nat := ops.foldl doO v
def allOk (n : Int) (ops : List Op) : Prop := ∀ o ∈ ops, okOp n o
instance (n : Int) (ops : List Op) : Decidable (allOk n ops) := inferInstanceAs (Decidable (∀ o ∈ ops, okOp n o))
def applyM (v : List Nat) (ops : List Op) : List Nat × Int := if 1024 < v.length then ([], 6) else if allOk v.length ops then (applyL v ops, 0) else ([], 1)

/-- What an op makes of a block. -/
def val (o : Op) (j : Nat) : Option Nat := if o.off_.toNat ≤ j ∧ j < o.off_.toNat + (dat o).length then some (at0 (dat o) (j - o.off_.toNat)) else none
def vals : List Op → Nat → Option Nat
  | [], _ => none
  | o :: l, j => match vals l j with | some x => some x | none => val o j
theorem vals_append (l m : List Op) (j : Nat) : vals (l ++ m) j = (match vals m j with | some x => some x | none => vals l j) := by
  induction l with
  | nil => simp [vals]; cases vals m j <;> rfl
  | cons o l ih =>
    rw [List.cons_append, vals, ih]
    cases vals m j <;> rfl
theorem vals_snoc (l : List Op) (o : Op) (j : Nat) : vals (l ++ [o]) j = (match val o j with | some x => some x | none => vals l j) := by
  rw [vals_append]; rfl

theorem dat_len {n : Int} {o : Op} (h : okOp n o) : ((dat o).length : Int) = (rng o).2 ∧ (rng o).1 = o.off_ ∧ 1 ≤ (dat o).length ∧ o.off_ + ((dat o).length : Int) ≤ n := by
  obtain ⟨h1, h2, h3, h | h⟩ := h
  · obtain ⟨k1, k2, k3, k4, k5⟩ := h
    simp only [dat, rng, k1]
    simp; omega
  · obtain ⟨k1, k2, k3, k4⟩ := h
    simp only [dat, rng, k1]
    simp; omega

theorem splice_at {l xs : List Nat} {off k : Nat} (h : off + xs.length ≤ l.length) : (spliceL l off xs).length = l.length ∧ at0 (spliceL l off xs) k = if off ≤ k ∧ k < off + xs.length then at0 xs (k - off) else at0 l k := by
  refine ⟨spliceL_length l off xs h, ?_⟩
  have e : (l.take off).length = off := by rw [List.length_take]; omega
  simp only [at0, spliceL]
  by_cases h1 : k < off
  · rw [if_neg (by omega), List.append_assoc, List.getElem?_append_left (by omega), List.getElem?_take_of_lt h1]
  · by_cases h2 : k < off + xs.length
    · rw [if_pos (by omega), List.append_assoc, List.getElem?_append_right (by omega), e, List.getElem?_append_left (by omega)]
    · rw [if_neg (by omega), List.getElem?_append_right (by simp; omega), List.getElem?_drop]
      congr 2
      simp; omega

theorem do_at {v : List Nat} {o : Op} (h : okOp v.length o) : (doO v o).length = v.length ∧ ∀ j, at0 (doO v o) j = (val o j).getD (at0 v j) := by
  obtain ⟨_, _, h3, h4⟩ := dat_len h
  have h0 := h.2.2.1
  have hs := fun k => splice_at (l := v) (xs := dat o) (off := o.off_.toNat) (k := k) (by omega)
  refine ⟨(hs 0).1, fun j => ?_⟩
  rw [doO, (hs j).2, val]
  split <;> rfl

theorem apply_at : ∀ {ops : List Op} {v : List Nat}, allOk v.length ops → (applyL v ops).length = v.length ∧ ∀ j, at0 (applyL v ops) j = (vals ops j).getD (at0 v j)
  | [], v, _ => ⟨rfl, fun _ => rfl⟩
  | o :: ops, v, h => by
    obtain ⟨h1, h2⟩ := do_at (h o List.mem_cons_self)
    obtain ⟨h3, h4⟩ := apply_at (ops := ops) (v := doO v o) (by rw [h1]; exact fun x hx => h x (List.mem_cons_of_mem _ hx))
    refine ⟨h3.trans h1, fun j => ?_⟩
    show at0 (applyL (doO v o) ops) j = _
    rw [h4, h2, vals]
    cases vals ops j <;> rfl

theorem val_lt {n : Int} {o : Op} (h : okOp n o) {j : Nat} (hj : n ≤ j) : val o j = none := by
  obtain ⟨_, _, h3, h4⟩ := dat_len h
  have := h.2.2.1
  rw [val, if_neg (by omega)]
theorem vals_lt {n : Int} : ∀ {ops : List Op}, allOk n ops → ∀ {j : Nat}, n ≤ j → vals ops j = none
  | [], _, _, _ => rfl
  | o :: ops, h, j, hj => by
    rw [vals, vals_lt (ops := ops) (fun x hx => h x (List.mem_cons_of_mem _ hx)) hj]
    exact val_lt (h o List.mem_cons_self) hj

/- Told shortly. -/
def near (t : Nat → Bool) (b : Nat → Nat) (i : Nat) : Prop := 0 < i ∧ t (i - 1) = true ∧ (b (i - 1) = 0 ↔ b i = 0)
instance (t : Nat → Bool) (b : Nat → Nat) (i : Nat) : Decidable (near t b i) := inferInstanceAs (Decidable (_ ∧ _ ∧ (_ ↔ _)))
def trimO (i k : Int) : Op := ⟨2, i, k, []⟩
def writeO (i : Int) (d : List Nat) : Op := ⟨1, i, 0, d⟩
def stepS (t : Nat → Bool) (b : Nat → Nat) (out : List Op) (i : Nat) : List Op :=
  if t i = false then out else
  match out[out.length - 1]? with
  | none => if b i = 0 then out ++ [trimO i 1] else out ++ [writeO i [b i]]
  | some l =>
    if near t b i ∧ b i = 0 then out.set (out.length - 1) ⟨l.kind_, l.off_, l.len_ + 1, l.data_⟩
    else if b i = 0 then out ++ [trimO i 1]
    else if near t b i ∧ l.data_.length < 64 then out.set (out.length - 1) ⟨l.kind_, l.off_, l.len_, l.data_ ++ [b i]⟩
    else out ++ [writeO i [b i]]
def shortS (t : Nat → Bool) (b : Nat → Nat) : Nat → List Op
  | 0 => []
  | i + 1 => stepS t b (shortS t b i) i

theorem snoc_of {α : Type} {l : List α} {y : α} (h : l[l.length - 1]? = some y) : ∃ k, l = k ++ [y] := by
  obtain ⟨h1, h2⟩ := List.getElem?_eq_some_iff.mp h
  refine ⟨l.take (l.length - 1), ?_⟩
  have e := take_snoc h
  rw [show l.length - 1 + 1 = l.length by omega, List.take_length] at e
  exact e
theorem set_last {α : Type} (k : List α) (y z : α) : (k ++ [y]).set ((k ++ [y]).length - 1) z = k ++ [z] := by
  rw [List.length_append, List.length_singleton, Nat.add_sub_cancel, List.set_append_right _ _ (Nat.le_refl _), Nat.sub_self]; rfl

/-- Ops in order, none meeting another. -/
def ordO (a : Int) : List Op → Prop
  | [] => True
  | o :: l => a ≤ o.off_ ∧ ordO (o.off_ + ((dat o).length : Int)) l
theorem ordO_snoc {c : Int} : ∀ {k : List Op} {a : Int} {y : Op}, ordO a k → (∀ o ∈ k, o.off_ + ((dat o).length : Int) ≤ c) → a ≤ c → c ≤ y.off_ → ordO a (k ++ [y])
  | [], a, y, _, _, h1, h2 => ⟨by omega, trivial⟩
  | x :: k, a, y, h, he, h1, h2 => ⟨h.1, ordO_snoc h.2 (fun o ho => he o (List.mem_cons_of_mem _ ho)) (he x List.mem_cons_self) h2⟩
theorem ordO_of {a : Int} : ∀ {k : List Op} {y : Op}, ordO a (k ++ [y]) → ordO a k
  | [], _, _ => trivial
  | _ :: _, _, h => ⟨h.1, ordO_of h.2⟩
theorem ordO_last {a : Int} : ∀ {k : List Op} {y z : Op}, ordO a (k ++ [y]) → y.off_ = z.off_ → ordO a (k ++ [z])
  | [], _, _, h, e => ⟨e ▸ h.1, trivial⟩
  | _ :: _, _, _, h, e => ⟨h.1, ordO_last h.2 e⟩

structure InvS (t : Nat → Bool) (b : Nat → Nat) (i : Nat) (out : List Op) : Prop where
  ok : allOk i out
  ord : ordO 0 out
  vals : ∀ j, vals out j = if j < i ∧ t j = true then some (b j) else none
  last : 0 < i → t (i - 1) = true → ∃ k l, out = k ++ [l] ∧ l.off_ + ((dat l).length : Int) = i ∧ (b (i - 1) = 0 → l.kind_ = 2) ∧ (b (i - 1) ≠ 0 → l.kind_ = 1)

theorem okOp_mono {n m : Int} {o : Op} (h : okOp n o) (h1 : n ≤ m) (h2 : m ≤ 1024) : okOp m o := by
  simp only [okOp] at h ⊢; omega

theorem at0_snoc (l : List Nat) (x : Nat) (j : Nat) : at0 (l ++ [x]) j = if j = l.length then x else at0 l j := by
  simp only [at0]
  rcases Nat.lt_trichotomy j l.length with h | h | h
  · rw [List.getElem?_append_left h, if_neg (by omega)]
  · subst h; simp
  · rw [if_neg (by omega), List.getElem?_eq_none (by simp; omega), List.getElem?_eq_none (by omega)]

theorem invS_new {t : Nat → Bool} {b : Nat → Nat} {i : Nat} {out : List Op} (h : InvS t b i out) (hi : i < 1024) (ht : t i = true) {o : Op} (ho : o = if b i = 0 then trimO i 1 else writeO i [b i]) : InvS t b (i + 1) (out ++ [o]) := by
  have hd : dat o = [b i] ∧ o.off_ = (i : Int) ∧ (b i = 0 → o.kind_ = 2) ∧ (b i ≠ 0 → o.kind_ = 1) ∧ okOp ((i : Int) + 1) o := by
    rw [ho]
    split
    · rename_i h0
      refine ⟨by simp [dat, trimO, h0], rfl, fun _ => rfl, fun h => absurd h0 h, ?_⟩
      exact ⟨by omega, by omega, by show (0 : Int) ≤ i; omega, .inr ⟨rfl, rfl, Int.le_refl _, Int.le_refl _⟩⟩
    · rename_i h0
      refine ⟨by simp [dat, writeO], rfl, fun h => absurd h h0, fun _ => rfl, ?_⟩
      exact ⟨by omega, by omega, by show (0 : Int) ≤ i; omega, .inl ⟨rfl, rfl, Nat.le_refl _, by show 1 ≤ 64; decide, Int.le_refl _⟩⟩
  obtain ⟨d1, d2, d3, d4, d5⟩ := hd
  refine ⟨fun x hx => ?_, ?_, fun j => ?_, fun _ _ => ⟨out, o, rfl, ?_, ?_, ?_⟩⟩
  · rcases List.mem_append.mp hx with hx | hx
    · exact okOp_mono (h.ok x hx) (by omega) (by omega)
    · simp only [List.mem_singleton] at hx; subst hx; exact d5
  · exact ordO_snoc (c := i) h.ord (fun x hx => (dat_len (h.ok x hx)).2.2.2) (by omega) (by omega)
  · rw [vals_snoc, h.vals, val, d1, d2]
    simp only [List.length_singleton]
    by_cases hj : j = i
    · subst hj
      have e : j - ((j : Int)).toNat = 0 := by omega
      rw [if_pos (show (j : Int).toNat ≤ j ∧ j < (j : Int).toNat + 1 by omega), e]
      show some (b j) = _
      rw [if_pos ⟨Nat.lt_succ_self j, ht⟩]
    · rw [if_neg (by omega)]
      dsimp only
      by_cases h1 : j < i
      · simp [h1, show j < i + 1 by omega]
      · rw [if_neg (by omega), if_neg (by omega)]
  · rw [d1, d2]; simp
  · exact d3
  · exact d4

theorem invS_more {t : Nat → Bool} {b : Nat → Nat} {i : Nat} {k : List Op} {l l' : Op} (h : InvS t b i (k ++ [l])) (hi : i < 1024) (ht : t i = true) (he : l.off_ + ((dat l).length : Int) = i)
    (hd : dat l' = dat l ++ [b i]) (ho : l'.off_ = l.off_) (hok : okOp ((i : Int) + 1) l') (h0 : b i = 0 → l'.kind_ = 2) (h1 : b i ≠ 0 → l'.kind_ = 1) : InvS t b (i + 1) (k ++ [l']) := by
  have hl := h.ok l (by simp)
  have hl0 := hl.2.2.1
  refine ⟨fun x hx => ?_, ?_, fun j => ?_, fun _ _ => ⟨k, l', rfl, ?_, h0, h1⟩⟩
  · rcases List.mem_append.mp hx with hx | hx
    · exact okOp_mono (h.ok x (List.mem_append_left _ hx)) (by omega) (by omega)
    · simp only [List.mem_singleton] at hx; subst hx; exact hok
  · exact ordO_last h.ord ho.symm
  · have hv := h.vals j
    rw [vals_snoc] at hv ⊢
    have e : val l' j = if j = i then some (b i) else val l j := by
      simp only [val, hd, ho, List.length_append, List.length_singleton, at0_snoc]
      by_cases hj : j = i
      · subst hj
        rw [if_pos (by omega), if_pos rfl, if_pos (by omega)]
      · rw [if_neg hj]
        by_cases hr : l.off_.toNat ≤ j ∧ j < l.off_.toNat + (dat l).length
        · rw [if_pos (by omega), if_pos hr, if_neg (by omega)]
        · rw [if_neg (by omega), if_neg hr]
    rw [e]
    by_cases hj : j = i
    · subst hj
      rw [if_pos rfl, if_pos ⟨by omega, ht⟩]
    · rw [if_neg hj, hv]
      by_cases h1 : j < i
      · simp [h1, show j < i + 1 by omega]
      · rw [if_neg (by omega), if_neg (by omega)]
  · rw [hd, ho, List.length_append, List.length_singleton]; omega

theorem invS_step {t : Nat → Bool} {b : Nat → Nat} {i : Nat} {out : List Op} (h : InvS t b i out) (hi : i < 1024) : InvS t b (i + 1) (stepS t b out i) := by
  unfold stepS
  split
  · rename_i ht
    refine ⟨fun x hx => okOp_mono (h.ok x hx) (by omega) (by omega), h.ord, fun j => ?_, fun _ h2 => ?_⟩
    · rw [h.vals]
      by_cases hj : j = i
      · subst hj; simp [ht]
      · by_cases h1 : j < i
        · simp [h1, show j < i + 1 by omega]
        · rw [if_neg (by omega), if_neg (by omega)]
    · rw [Nat.add_sub_cancel, ht] at h2; cases h2
  · rename_i ht
    have ht : t i = true := by simpa using ht
    split
    · split
      · rename_i h0; exact invS_new h hi ht (by rw [if_pos h0])
      · rename_i h0; exact invS_new h hi ht (by rw [if_neg h0])
    · rename_i l hl
      obtain ⟨k, rfl⟩ := snoc_of hl
      split
      · rename_i hc
        obtain ⟨hn, h0⟩ := hc
        obtain ⟨k', l', e, e1, e2, e3⟩ := h.last hn.1 hn.2.1
        obtain ⟨rfl, e⟩ := List.append_inj' e rfl
        obtain rfl : l = l' := by simpa using e
        have hk := e2 (hn.2.2.mpr h0)
        have hlo := h.ok l (by simp)
        rw [set_last]
        have hd : dat l = List.replicate l.len_.toNat 0 := by rw [dat, if_pos hk]
        have hd2 := e1
        rw [hd, List.length_replicate] at hd2
        simp only [okOp, hk] at hlo
        refine invS_more h hi ht e1 ?_ rfl ?_ (fun _ => hk) (fun h => absurd h0 h)
        · rw [hd, dat, if_pos (by exact hk)]
          show List.replicate (l.len_ + 1).toNat 0 = _
          rw [show (l.len_ + 1).toNat = l.len_.toNat + 1 by omega, List.replicate_succ', h0]
        · exact ⟨by omega, by omega, hlo.2.2.1, .inr ⟨hk, by show l.data_.length = 0; omega, by show 1 ≤ l.len_ + 1; omega, by show l.off_ + (l.len_ + 1) ≤ _; omega⟩⟩
      · split
        · rename_i h0; exact invS_new h hi ht (by rw [if_pos h0])
        · rename_i h0
          split
          · rename_i hc
            obtain ⟨hn, h64⟩ := hc
            obtain ⟨k', l', e, e1, e2, e3⟩ := h.last hn.1 hn.2.1
            obtain ⟨rfl, e⟩ := List.append_inj' e rfl
            obtain rfl : l = l' := by simpa using e
            have hk := e3 (fun h => h0 (hn.2.2.mp h))
            have hlo := h.ok l (by simp)
            rw [set_last]
            have hd : dat l = l.data_ := by rw [dat, if_neg (by omega)]
            rw [hd] at e1
            simp only [okOp, hk] at hlo
            refine invS_more h hi ht (by rw [hd]; exact e1) ?_ rfl ?_ (fun h => absurd h h0) (fun _ => hk)
            · rw [hd, dat, if_neg (by dsimp only; omega)]
            · have e2 : (l.data_ ++ [b i]).length = l.data_.length + 1 := by simp
              exact ⟨by omega, by omega, hlo.2.2.1, .inl ⟨hk, by show l.len_ = 0; omega, by show 1 ≤ (l.data_ ++ [b i]).length; omega, by show (l.data_ ++ [b i]).length ≤ 64; omega, by show l.off_ + ((l.data_ ++ [b i]).length : Int) ≤ _; omega⟩⟩
          · exact invS_new h hi ht (by rw [if_neg h0])

theorem shortS_ok (t : Nat → Bool) (b : Nat → Nat) : ∀ i, i ≤ 1024 → InvS t b i (shortS t b i)
  | 0, _ => ⟨fun x hx => (by cases hx), trivial, fun j => by simp [shortS, vals], fun h => absurd h (Nat.lt_irrefl _)⟩
  | i + 1, h => invS_step (shortS_ok t b i (by omega)) (by omega)

theorem shortS_congr {t t' : Nat → Bool} {b b' : Nat → Nat} : ∀ {n : Nat}, (∀ j, j < n → t j = t' j ∧ b j = b' j) → shortS t b n = shortS t' b' n
  | 0, _ => rfl
  | n + 1, h => by
    have ih := shortS_congr (n := n) fun j hj => h j (by omega)
    have hn := h n (by omega)
    rw [shortS, shortS, ih]
    have e : near t b n ↔ near t' b' n := by
      unfold near
      rcases Nat.eq_zero_or_pos n with h0 | h0
      · omega
      · have := h (n - 1) (by omega)
        rw [this.1, this.2, hn.2]
    unfold stepS
    rw [hn.1, hn.2]
    split
    · rfl
    · split
      · rfl
      · simp only [e]

/- A run of blocks, all nought, or none of them. -/
theorem short_zero {t : Nat → Bool} {b : Nat → Nat} {i : Nat} : ∀ {m : Nat}, i + (m + 1) ≤ 1024 → (∀ j, i ≤ j → j < i + (m + 1) → t j = true ∧ b j = 0) → ¬ near t b i → shortS t b (i + (m + 1)) = shortS t b i ++ [trimO i ((m + 1 : Nat) : Int)]
  | 0, h, hz, hn => by
    obtain ⟨h1, h2⟩ := hz i (by omega) (by omega)
    show stepS t b (shortS t b i) i = _
    unfold stepS
    rw [if_neg (by simp [h1])]
    split
    · rw [if_pos h2]; rfl
    · rw [if_neg (fun h => hn h.1), if_pos h2]; rfl
  | m + 1, h, hz, hn => by
    have ih := short_zero (m := m) (by omega) (fun j h1 h2 => hz j h1 (by omega)) hn
    obtain ⟨h1, h2⟩ := hz (i + (m + 1)) (by omega) (by omega)
    obtain ⟨h3, h4⟩ := hz (i + m) (by omega) (by omega)
    show stepS t b (shortS t b (i + (m + 1))) (i + (m + 1)) = _
    rw [ih]
    unfold stepS
    rw [if_neg (by simp [h1])]
    have e : (shortS t b i ++ [trimO i ((m + 1 : Nat) : Int)])[(shortS t b i ++ [trimO i ((m + 1 : Nat) : Int)]).length - 1]? = some (trimO i ((m + 1 : Nat) : Int)) := by simp
    rw [e]
    dsimp only
    rw [if_pos ⟨⟨by omega, by rw [show i + (m + 1) - 1 = i + m by omega]; exact h3, by rw [show i + (m + 1) - 1 = i + m by omega, h4, h2]⟩, h2⟩, set_last]
    rfl

def seg (b : Nat → Nat) (i : Nat) : Nat → List Nat
  | 0 => []
  | m + 1 => seg b i m ++ [b (i + m)]
theorem seg_len (b : Nat → Nat) (i : Nat) : ∀ m, (seg b i m).length = m
  | 0 => rfl
  | m + 1 => by rw [seg, List.length_append, seg_len b i m]; rfl
theorem seg_at {v : List Nat} {i : Nat} : ∀ {m : Nat}, i + m ≤ v.length → seg (at0 v) i m = (v.drop i).take m
  | 0, _ => by simp [seg]
  | m + 1, h => by
    have hg : (v.drop i)[m]? = some (at0 v (i + m)) := by rw [List.getElem?_drop]; exact at0_get (by omega)
    rw [seg, seg_at (m := m) (by omega), take_snoc hg]

theorem short_seg {t : Nat → Bool} {b : Nat → Nat} {i : Nat} : ∀ {m : Nat}, m < 64 → (∀ j, i ≤ j → j < i + (m + 1) → t j = true ∧ b j ≠ 0) → (near t b i → ∃ k l, shortS t b i = k ++ [l] ∧ 64 ≤ l.data_.length) → shortS t b (i + (m + 1)) = shortS t b i ++ [writeO i (seg b i (m + 1))]
  | 0, h, hz, hn => by
    obtain ⟨h1, h2⟩ := hz i (by omega) (by omega)
    show stepS t b (shortS t b i) i = _
    unfold stepS
    rw [if_neg (by simp [h1])]
    split
    · rw [if_neg h2]; rfl
    · rename_i l hl
      rw [if_neg (fun h => h2 h.2), if_neg h2, if_neg]
      · rfl
      · rintro ⟨g1, g2⟩
        obtain ⟨k, l', e, e2⟩ := hn g1
        rw [e] at hl
        obtain rfl : l' = l := by simpa using hl
        omega
  | m + 1, h, hz, hn => by
    have ih := short_seg (m := m) (by omega) (fun j h1 h2 => hz j h1 (by omega)) hn
    obtain ⟨h1, h2⟩ := hz (i + (m + 1)) (by omega) (by omega)
    obtain ⟨h3, h4⟩ := hz (i + m) (by omega) (by omega)
    show stepS t b (shortS t b (i + (m + 1))) (i + (m + 1)) = _
    rw [ih]
    unfold stepS
    rw [if_neg (by simp [h1])]
    have e : (shortS t b i ++ [writeO i (seg b i (m + 1))])[(shortS t b i ++ [writeO i (seg b i (m + 1))]).length - 1]? = some (writeO i (seg b i (m + 1))) := by simp
    rw [e]
    dsimp only
    have hlen := seg_len b i (m + 1)
    rw [if_neg (fun h => h2 h.2), if_neg h2, if_pos ⟨⟨by omega, by rw [show i + (m + 1) - 1 = i + m by omega]; exact h3, by rw [show i + (m + 1) - 1 = i + m by omega]; exact ⟨fun h => absurd h h4, fun h => absurd h h2⟩⟩, by show (seg b i (m + 1)).length < 64; omega⟩, set_last]
    rfl

end Go.Proofs.Ytlghefbapiocgaa.V


namespace Go.Proofs.Ytlghefbapiocgaa.V
open Go.A
set_option linter.unusedVariables false
set_option linter.unusedSimpArgs false
set_option linter.unnecessarySimpa false
attribute [local irreducible] IntKind.wrap bitsI
set_option maxRecDepth 100000
set_option maxHeartbeats 4000000

theorem scd23 (k : Nat) (l : List Nat) : (d23 l).sc k := by simp [d23, D.sc, scs_map]; intro x _; simp [r51, d51, D.sc]
theorem scr51 (k : Nat) (l : List Nat) : scs k (l.map r51) := by rw [scs_map]; intro x _; simp [r51, d51, D.sc]
theorem scd73 (k : Nat) (o : Op) : (d73 o).sc k := ⟨trivial, trivial, trivial, scd23 _ _, trivial⟩
theorem scc73 (k : Nat) (o : Op) : scs k (c73 o) := ⟨trivial, trivial, trivial, scd23 _ _, trivial⟩
theorem scr73 (k : Nat) (l : List Op) : scs k (l.map r73) := by rw [scs_map]; intro x _; exact scd73 k x
theorem scd39 (k : Nat) (l : List Op) : (d39 l).sc k := scr73 k l

def rngD (o : Op) : D := .tup [.int .i64 (rng o).1, .int .i64 (rng o).2]

theorem f46_ok (o : Op) (ho : o.data_.length ≤ 140737488351232) : Pure Try.prog 46 [d73 o] (rngD o) := by
  refine Pure.of ⟨scd73 _ _, trivial⟩ ⟨trivial, trivial, trivial⟩ ?_
  refine Go.A.CallsIn.of_exec tab_ok mixed Try.func46 rfl rfl [] [] ?_
  simp only [rngD, rng]
  by_cases h1 : o.kind_ = 1
  · rw [if_pos h1]
    repeat' ((conv => whnf); first
      | refine PairK.mk (by kernel_rfl) ?_ | refine Exists.intro _ (And.intro (⟨(List.length_map _).symm⟩) ?_) | refine boolF_dect (by assumption) ?_)
    all_goals (conv => whnf)
    exact ⟨rfl⟩
  · by_cases h2 : o.kind_ = 2
    · rw [if_neg h1, if_pos h2]
      repeat' ((conv => whnf); first
        | refine PairK.mk (by kernel_rfl) ?_ | refine boolF_dect (by assumption) ?_ | refine boolF_decf (by assumption) ?_)
      all_goals (conv => whnf)
      exact ⟨rfl⟩
    · rw [if_neg h1, if_neg h2]
      repeat' ((conv => whnf); first
        | refine boolF_decf (by assumption) ?_)
      all_goals (conv => whnf)
      exact ⟨rfl⟩

theorem f50_ok (o : Op) (ho : o.data_.length ≤ 140737488351232) : Pure Try.prog 50 [d73 o] (rngD o) := by
  refine Pure.of ⟨scd73 _ _, trivial⟩ ⟨trivial, trivial, trivial⟩ ?_
  refine Go.A.CallsIn.of_exec tab_ok mixed Try.func50 rfl rfl [] [] ?_
  simp only [rngD, rng]
  by_cases h1 : o.kind_ = 1
  · rw [if_pos h1]
    repeat' ((conv => whnf); first
      | refine PairK.mk (by kernel_rfl) ?_ | refine Exists.intro _ (And.intro (⟨(List.length_map _).symm⟩) ?_) | refine boolF_dect (by assumption) ?_)
    all_goals (conv => whnf)
    exact ⟨rfl⟩
  · by_cases h2 : o.kind_ = 2
    · rw [if_neg h1, if_pos h2]
      repeat' ((conv => whnf); first
        | refine PairK.mk (by kernel_rfl) ?_ | refine boolF_dect (by assumption) ?_ | refine boolF_decf (by assumption) ?_)
      all_goals (conv => whnf)
      exact ⟨rfl⟩
    · rw [if_neg h1, if_neg h2]
      repeat' ((conv => whnf); first
        | refine boolF_decf (by assumption) ?_)
      all_goals (conv => whnf)
      exact ⟨rfl⟩

theorem f60_ok (n off k : Int) (hn : 0 ≤ n ∧ n ≤ 1024) : Pure Try.prog 60 [.int .i64 n, .int .i64 off, .int .i64 k] (.bool (decide (0 ≤ off ∧ 0 ≤ k ∧ k ≤ n ∧ off ≤ n - k))) := by
  refine Pure.of ⟨trivial, trivial, trivial, trivial⟩ trivial ?_
  refine Go.A.CallsIn.of_exec tab_ok mixed Try.func60 rfl rfl [] [] ?_
  repeat' ((conv => whnf); first
    | refine Exists.intro _ (And.intro (w64 (by omega) (by omega)) ?_) | refine boolF_dec (fun _ => ?_) (fun _ => ?_))
  all_goals (conv => whnf)
  all_goals (first
    | exact ⟨rfl⟩
    | exact ⟨bool_t (by omega)⟩
    | exact ⟨bool_f (by omega)⟩
    | exact ⟨bool_iff (by omega)⟩
    | exact ⟨bool_beq (by omega)⟩
    | exact ⟨bool_bne (by omega)⟩
    | exact ⟨bool_not (by omega)⟩)

theorem f49_ok (n off k : Int) (hn : 0 ≤ n ∧ n ≤ 1024) : Pure Try.prog 49 [.int .i64 n, .int .i64 off, .int .i64 k] (.bool (decide (0 ≤ off ∧ off ≤ n ∧ k ≤ n - off))) := by
  refine Pure.of ⟨trivial, trivial, trivial, trivial⟩ trivial ?_
  refine Go.A.CallsIn.of_exec tab_ok mixed Try.func49 rfl rfl [] [] ?_
  repeat' ((conv => whnf); first
    | refine Exists.intro _ (And.intro (w64 (by omega) (by omega)) ?_) | refine boolF_dec (fun _ => ?_) (fun _ => ?_))
  all_goals (conv => whnf)
  all_goals (first
    | exact ⟨rfl⟩
    | exact ⟨bool_t (by omega)⟩
    | exact ⟨bool_f (by omega)⟩
    | exact ⟨bool_iff (by omega)⟩
    | exact ⟨bool_beq (by omega)⟩
    | exact ⟨bool_bne (by omega)⟩
    | exact ⟨bool_not (by omega)⟩)

theorem f33_ok (n : Int) : Pure Try.prog 33 [.int .i64 n] (.bool (decide (0 ≤ n ∧ n ≤ 1024))) := by
  refine Pure.of ⟨trivial, trivial⟩ trivial ?_
  refine Go.A.CallsIn.of_exec tab_ok mixed Try.func33 rfl rfl [] [] ?_
  repeat' ((conv => whnf); first
    | refine boolF_dec (fun _ => ?_) (fun _ => ?_))
  all_goals (conv => whnf)
  all_goals (first
    | exact ⟨rfl⟩
    | exact ⟨bool_t (by omega)⟩
    | exact ⟨bool_f (by omega)⟩
    | exact ⟨bool_iff (by omega)⟩
    | exact ⟨bool_beq (by omega)⟩
    | exact ⟨bool_bne (by omega)⟩
    | exact ⟨bool_not (by omega)⟩)

theorem f55_ok (n : Int) (o : Op) (ho : o.data_.length ≤ 140737488351232) : Pure Try.prog 55 [.int .i64 n, d73 o] (.bool (decide (okOp n o))) := by
  have h24 := f46_ok o ho
  simp only [rngD, rng] at h24
  refine Pure.of ⟨trivial, scd73 _ _, trivial⟩ trivial ?_
  refine Go.A.CallsIn.of_exec tab_ok mixed Try.func55 rfl rfl [] [] ?_
  by_cases h1 : o.kind_ = 1
  · rw [if_pos h1] at h24
    (conv => whnf)
    refine Pure.call h24 ?_
    repeat' ((conv => whnf); first
      | refine Pure.call (f60_ok _ _ _ (by omega)) ?_ | refine boolF_not ?_ | refine boolF_dect (by assumption) ?_ | refine boolF_decf (by omega) ?_ | refine boolF_dec (fun _ => ?_) (fun _ => ?_))
    all_goals (conv => whnf)
    all_goals simp only [okOp]
    all_goals (first
      | exact ⟨rfl⟩
      | exact ⟨bool_t (by omega)⟩
      | exact ⟨bool_f (by omega)⟩
      | exact ⟨bool_iff (by omega)⟩
      | exact ⟨bool_beq (by omega)⟩
      | exact ⟨bool_bne (by omega)⟩
      | exact ⟨bool_not (by omega)⟩)
  · by_cases h2 : o.kind_ = 2
    · rw [if_neg h1, if_pos h2] at h24
      (conv => whnf)
      refine Pure.call h24 ?_
      repeat' ((conv => whnf); first
        | refine Exists.intro _ (And.intro (⟨(List.length_map _).symm⟩) ?_) | refine Pure.call (f60_ok _ _ _ (by omega)) ?_ | refine boolF_not ?_ | refine boolF_dect (by assumption) ?_ | refine boolF_decf (by assumption) ?_ | refine boolF_dec (fun _ => ?_) (fun _ => ?_))
      all_goals (conv => whnf)
      all_goals simp only [okOp]
      all_goals (first
        | exact ⟨rfl⟩
        | exact ⟨bool_t (by omega)⟩
        | exact ⟨bool_f (by omega)⟩
        | exact ⟨bool_iff (by omega)⟩
        | exact ⟨bool_beq (by omega)⟩
        | exact ⟨bool_bne (by omega)⟩
        | exact ⟨bool_not (by omega)⟩)
    · rw [if_neg h1, if_neg h2] at h24
      (conv => whnf)
      refine Pure.call h24 ?_
      repeat' ((conv => whnf); first
        | refine boolF_dec (fun _ => ?_) (fun _ => ?_))
      all_goals (conv => whnf)
      all_goals simp only [okOp]
      all_goals (first
        | exact ⟨rfl⟩
        | exact ⟨bool_t (by omega)⟩
        | exact ⟨bool_f (by omega)⟩
        | exact ⟨bool_iff (by omega)⟩
        | exact ⟨bool_beq (by omega)⟩
        | exact ⟨bool_bne (by omega)⟩
        | exact ⟨bool_not (by omega)⟩)

theorem f34_ok (n : Int) (o : Op) (ho : o.data_.length ≤ 140737488351232) : Pure Try.prog 34 [.int .i64 n, d73 o] (.bool (decide (okOp n o))) := by
  refine Pure.of ⟨trivial, scd73 _ _, trivial⟩ trivial ?_
  refine Go.A.CallsIn.of_exec tab_ok mixed Try.func34 rfl rfl [] [] ?_
  by_cases hn : 0 ≤ n ∧ n ≤ 1024
  · by_cases h1 : o.kind_ = 1
    · repeat' ((conv => whnf); first
        | refine Exists.intro _ (And.intro (⟨(List.length_map _).symm⟩) ?_) | refine Pure.call (f33_ok _) ?_ | refine Pure.call (f49_ok _ _ _ (by omega)) ?_ | refine boolF_dect (by assumption) ?_ | refine boolF_dec (fun _ => ?_) (fun _ => ?_))
      all_goals (conv => whnf)
      all_goals simp only [okOp]
      all_goals (first
        | exact ⟨rfl⟩
        | exact ⟨bool_t (by omega)⟩
        | exact ⟨bool_f (by omega)⟩
        | exact ⟨bool_iff (by omega)⟩
        | exact ⟨bool_beq (by omega)⟩
        | exact ⟨bool_bne (by omega)⟩
        | exact ⟨bool_not (by omega)⟩)
    · by_cases h2 : o.kind_ = 2
      · repeat' ((conv => whnf); first
          | refine Exists.intro _ (And.intro (⟨(List.length_map _).symm⟩) ?_) | refine Pure.call (f33_ok _) ?_ | refine Pure.call (f49_ok _ _ _ (by omega)) ?_ | refine boolF_dect (by assumption) ?_ | refine boolF_decf (by assumption) ?_ | refine boolF_dec (fun _ => ?_) (fun _ => ?_))
        all_goals (conv => whnf)
        all_goals simp only [okOp]
        all_goals (first
          | exact ⟨rfl⟩
          | exact ⟨bool_t (by omega)⟩
          | exact ⟨bool_f (by omega)⟩
          | exact ⟨bool_iff (by omega)⟩
          | exact ⟨bool_beq (by omega)⟩
          | exact ⟨bool_bne (by omega)⟩
          | exact ⟨bool_not (by omega)⟩)
      · repeat' ((conv => whnf); first
          | refine boolF_decf (by assumption) ?_)
        all_goals (conv => whnf)
        all_goals simp only [okOp]
        all_goals (first
          | exact ⟨rfl⟩
          | exact ⟨bool_t (by omega)⟩
          | exact ⟨bool_f (by omega)⟩
          | exact ⟨bool_iff (by omega)⟩
          | exact ⟨bool_beq (by omega)⟩
          | exact ⟨bool_bne (by omega)⟩
          | exact ⟨bool_not (by omega)⟩)
  · by_cases h1 : o.kind_ = 1
    · repeat' ((conv => whnf); first
        | refine Pure.call (f33_ok _) ?_ | refine boolF_dect (by assumption) ?_ | refine boolF_decf (by assumption) ?_)
      all_goals (conv => whnf)
      all_goals simp only [okOp]
      all_goals (first
        | exact ⟨rfl⟩
        | exact ⟨bool_t (by omega)⟩
        | exact ⟨bool_f (by omega)⟩
        | exact ⟨bool_iff (by omega)⟩
        | exact ⟨bool_beq (by omega)⟩
        | exact ⟨bool_bne (by omega)⟩
        | exact ⟨bool_not (by omega)⟩)
    · by_cases h2 : o.kind_ = 2
      · repeat' ((conv => whnf); first
          | refine Pure.call (f33_ok _) ?_ | refine boolF_dect (by assumption) ?_ | refine boolF_decf (by assumption) ?_)
        all_goals (conv => whnf)
        all_goals simp only [okOp]
        all_goals (first
          | exact ⟨rfl⟩
          | exact ⟨bool_t (by omega)⟩
          | exact ⟨bool_f (by omega)⟩
          | exact ⟨bool_iff (by omega)⟩
          | exact ⟨bool_beq (by omega)⟩
          | exact ⟨bool_bne (by omega)⟩
          | exact ⟨bool_not (by omega)⟩)
      · repeat' ((conv => whnf); first
          | refine boolF_decf (by assumption) ?_)
        all_goals (conv => whnf)
        all_goals simp only [okOp]
        all_goals (first
          | exact ⟨rfl⟩
          | exact ⟨bool_t (by omega)⟩
          | exact ⟨bool_f (by omega)⟩
          | exact ⟨bool_iff (by omega)⟩
          | exact ⟨bool_beq (by omega)⟩
          | exact ⟨bool_bne (by omega)⟩
          | exact ⟨bool_not (by omega)⟩)

theorem f11_ok (a b : List Nat) (ha : a.length ≤ 140737488351232) (hb : b.length ≤ 140737488351232) : Pure Try.prog 11 [d23 a, d23 b] (.bool (decide (a = b))) := by
  refine Pure.of ⟨scd23 _ _, scd23 _ _, trivial⟩ trivial ?_
  refine Go.A.CallsIn.of_exec tab_ok mixed Try.func11 rfl rfl [] [] ?_
  by_cases hlen : a.length = b.length
  · repeat' ((conv => whnf); first
      | refine Exists.intro _ (And.intro (⟨(List.length_map _).symm⟩) ?_) | refine boolF_not ?_ | refine boolF_dect (by omega) ?_)
    all_goals (conv => whnf)
    refine W_loopG (ι := Nat) (fun i => ⟨(d23 a :: d23 b :: D.undef :: D.undef :: D.undef :: .int .i64 (i:Int) :: D.undef :: D.undef :: D.undef :: D.undef :: D.undef :: D.undef :: D.undef :: D.undef :: D.undef :: D.undef :: D.undef :: D.undef :: D.undef :: D.undef :: D.undef :: D.undef :: D.undef :: D.undef :: D.undef :: D.undef :: []), []⟩) (fun i => a.length - i)
      (fun i => i ≤ a.length ∧ a.take i = b.take i) 0 (Ghost.hold [0,1,5] rfl) ⟨Nat.zero_le _, rfl⟩ ?_
    rintro i ⟨h1, h2⟩
    refine exec_ok tab_ok mixed 1000 (bx := []) (own := []) ?_
    rcases Nat.lt_or_ge i a.length with h | h
    · obtain ⟨x, hx⟩ := at_lt h
      obtain ⟨y, hy⟩ := at_lt (l := b) (i := i) (by omega)
      by_cases hxy : x = y
      · repeat' ((conv => whnf); first
          | refine PairK.mk (by kernel_rfl) ?_ | refine Exists.intro _ (And.intro (map_at (by omega) hx) ?_) | refine Exists.intro _ (And.intro (map_at (by omega) hy) ?_) | refine And.intro rfl ?_ | refine And.intro (by omega) ?_ | refine Exists.intro _ (And.intro (⟨(List.length_map _).symm⟩) ?_) | refine Exists.intro _ (And.intro (w64 (by omega) (by omega)) ?_) | refine boolF_not ?_ | refine boolF_dect (by assumption) ?_ | refine boolF_dect (by omega) ?_)
        all_goals (conv => whnf)
        refine ⟨i + 1, Ghost.hold [0,1,5] rfl, ⟨by omega, ?_⟩, by omega⟩
        rw [take_snoc hx, take_snoc hy, h2, hxy]
      · repeat' ((conv => whnf); first
          | refine PairK.mk (by kernel_rfl) ?_ | refine Exists.intro _ (And.intro (map_at (by omega) hx) ?_) | refine Exists.intro _ (And.intro (map_at (by omega) hy) ?_) | refine And.intro rfl ?_ | refine And.intro (by omega) ?_ | refine Exists.intro _ (And.intro (⟨(List.length_map _).symm⟩) ?_) | refine boolF_not ?_ | refine boolF_decf (by assumption) ?_ | refine boolF_dect (by omega) ?_)
        all_goals (conv => whnf)
        refine ⟨bool_f (fun hh => hxy ?_)⟩
        subst hh
        rw [hx] at hy
        exact Option.some.inj hy
    · repeat' ((conv => whnf); first
        | refine Exists.intro _ (And.intro (⟨(List.length_map _).symm⟩) ?_) | refine boolF_decf (by omega) ?_)
      all_goals (conv => whnf)
      refine ⟨bool_t ?_⟩
      rw [List.take_of_length_le h, List.take_of_length_le (by omega)] at h2
      exact h2
  · repeat' ((conv => whnf); first
      | refine Exists.intro _ (And.intro (⟨(List.length_map _).symm⟩) ?_) | refine boolF_not ?_ | refine boolF_decf (by omega) ?_)
    all_goals (conv => whnf)
    exact ⟨bool_f (fun hh => hlen (by rw [hh]))⟩

theorem Op.ext' {a b : Op} (h : a.kind_ = b.kind_ ∧ a.off_ = b.off_ ∧ a.len_ = b.len_ ∧ a.data_ = b.data_) : a = b := by
  cases a; cases b; simp only at h; simp [h]
instance : DecidableEq Op := fun a b => if h : a.kind_ = b.kind_ ∧ a.off_ = b.off_ ∧ a.len_ = b.len_ ∧ a.data_ = b.data_ then isTrue (Op.ext' h) else isFalse (fun e => h (by simp [e]))
def bigD (l : List Op) : Prop := ∀ o ∈ l, o.data_.length ≤ 140737488351232

theorem f20_ok (a b : List Op) (ha : a.length ≤ 140737488351232) (hb : b.length ≤ 140737488351232) (ka : bigD a) (kb : bigD b) : Pure Try.prog 20 [d39 a, d39 b] (.bool (decide (a = b))) := by
  refine Pure.of ⟨scd39 _ _, scd39 _ _, trivial⟩ trivial ?_
  refine Go.A.CallsIn.of_exec tab_ok mixed Try.func20 rfl rfl [] [] ?_
  by_cases hlen : a.length = b.length
  · repeat' ((conv => whnf); first
      | refine Exists.intro _ (And.intro (⟨(List.length_map _).symm⟩) ?_) | refine boolF_not ?_ | refine boolF_dect (by omega) ?_)
    all_goals (conv => whnf)
    refine W_loopG (ι := Nat) (fun i => ⟨(d39 a :: d39 b :: D.undef :: D.undef :: D.undef :: .int .i64 (i:Int) :: D.undef :: D.undef :: D.undef :: D.undef :: D.undef :: D.undef :: D.undef :: D.undef :: D.undef :: D.undef :: D.undef :: D.undef :: D.undef :: D.undef :: D.undef :: D.undef :: D.undef :: D.undef :: D.undef :: D.undef :: D.undef :: D.undef :: D.undef :: D.undef :: D.undef :: D.undef :: D.undef :: D.undef :: D.undef :: D.undef :: D.undef :: D.undef :: D.undef :: D.undef :: D.undef :: D.undef :: D.undef :: D.undef :: D.undef :: D.undef :: D.undef :: D.undef :: D.undef :: D.undef :: D.undef :: D.undef :: D.undef :: D.undef :: D.undef :: D.undef :: D.undef :: D.undef :: D.undef :: D.undef :: D.undef :: D.undef :: D.undef :: D.undef :: D.undef :: D.undef :: D.undef :: D.undef :: []), []⟩) (fun i => a.length - i)
      (fun i => i ≤ a.length ∧ a.take i = b.take i) 0 (Ghost.hold [0,1,5] rfl) ⟨Nat.zero_le _, rfl⟩ ?_
    rintro i ⟨h1, h2⟩
    refine exec_ok tab_ok mixed 1000 (bx := []) (own := []) ?_
    rcases Nat.lt_or_ge i a.length with h | h
    · obtain ⟨x, hx⟩ := at_lt h
      obtain ⟨y, hy⟩ := at_lt (l := b) (i := i) (by omega)
      have hxd := ka x (List.mem_of_getElem? hx)
      have hyd := kb y (List.mem_of_getElem? hy)
      have hne : x ≠ y → ∀ r, r = D.bool false → r = D.bool (decide (a = b)) := fun hh r e => by
        rw [e]
        refine bool_f (fun hab => hh ?_)
        subst hab
        rw [hx] at hy
        exact Option.some.inj hy
      by_cases q1 : x.kind_ = y.kind_
      · by_cases q2 : x.off_ = y.off_
        · by_cases q3 : x.len_ = y.len_
          · by_cases q4 : x.data_ = y.data_
            · repeat' ((conv => whnf); first
                | refine PairK.mk (by kernel_rfl) ?_ | refine Exists.intro _ (And.intro (map_at (by omega) hx) ?_) | refine Exists.intro _ (And.intro (map_at (by omega) hy) ?_) | refine And.intro rfl ?_ | refine And.intro (by omega) ?_ | refine Exists.intro _ (And.intro (⟨(List.length_map _).symm⟩) ?_) | refine Exists.intro _ (And.intro (w64 (by omega) (by omega)) ?_) | refine Pure.locK (f11_ok _ _ hxd hyd) ?_ | refine boolF_not ?_ | refine boolF_dect (by assumption) ?_ | refine boolF_dect (by omega) ?_)
              all_goals (conv => whnf)
              refine ⟨i + 1, Ghost.hold [0,1,5] rfl, ⟨by omega, ?_⟩, by omega⟩
              rw [take_snoc hx, take_snoc hy, h2, Op.ext' ⟨q1, q2, q3, q4⟩]
            · repeat' ((conv => whnf); first
                | refine PairK.mk (by kernel_rfl) ?_ | refine Exists.intro _ (And.intro (map_at (by omega) hx) ?_) | refine Exists.intro _ (And.intro (map_at (by omega) hy) ?_) | refine And.intro rfl ?_ | refine And.intro (by omega) ?_ | refine Exists.intro _ (And.intro (⟨(List.length_map _).symm⟩) ?_) | refine Pure.locK (f11_ok _ _ hxd hyd) ?_ | refine boolF_not ?_ | refine boolF_dect (by assumption) ?_ | refine boolF_decf (by assumption) ?_ | refine boolF_dect (by omega) ?_)
              all_goals (conv => whnf)
              exact ⟨hne (fun e => q4 (by rw [e])) _ rfl⟩
          · repeat' ((conv => whnf); first
              | refine PairK.mk (by kernel_rfl) ?_ | refine Exists.intro _ (And.intro (map_at (by omega) hx) ?_) | refine Exists.intro _ (And.intro (map_at (by omega) hy) ?_) | refine And.intro rfl ?_ | refine And.intro (by omega) ?_ | refine Exists.intro _ (And.intro (⟨(List.length_map _).symm⟩) ?_) | refine boolF_not ?_ | refine boolF_dect (by assumption) ?_ | refine boolF_decf (by assumption) ?_ | refine boolF_dect (by omega) ?_)
            all_goals (conv => whnf)
            exact ⟨hne (fun e => q3 (by rw [e])) _ rfl⟩
        · repeat' ((conv => whnf); first
            | refine PairK.mk (by kernel_rfl) ?_ | refine Exists.intro _ (And.intro (map_at (by omega) hx) ?_) | refine Exists.intro _ (And.intro (map_at (by omega) hy) ?_) | refine And.intro rfl ?_ | refine And.intro (by omega) ?_ | refine Exists.intro _ (And.intro (⟨(List.length_map _).symm⟩) ?_) | refine boolF_not ?_ | refine boolF_dect (by assumption) ?_ | refine boolF_decf (by assumption) ?_ | refine boolF_dect (by omega) ?_)
          all_goals (conv => whnf)
          exact ⟨hne (fun e => q2 (by rw [e])) _ rfl⟩
      · repeat' ((conv => whnf); first
          | refine PairK.mk (by kernel_rfl) ?_ | refine Exists.intro _ (And.intro (map_at (by omega) hx) ?_) | refine Exists.intro _ (And.intro (map_at (by omega) hy) ?_) | refine And.intro rfl ?_ | refine And.intro (by omega) ?_ | refine Exists.intro _ (And.intro (⟨(List.length_map _).symm⟩) ?_) | refine boolF_not ?_ | refine boolF_decf (by assumption) ?_ | refine boolF_dect (by omega) ?_)
        all_goals (conv => whnf)
        exact ⟨hne (fun e => q1 (by rw [e])) _ rfl⟩
    · repeat' ((conv => whnf); first
        | refine Exists.intro _ (And.intro (⟨(List.length_map _).symm⟩) ?_) | refine boolF_decf (by omega) ?_)
      all_goals (conv => whnf)
      refine ⟨bool_t ?_⟩
      rw [List.take_of_length_le h, List.take_of_length_le (by omega)] at h2
      exact h2
  · repeat' ((conv => whnf); first
      | refine Exists.intro _ (And.intro (⟨(List.length_map _).symm⟩) ?_) | refine boolF_not ?_ | refine boolF_decf (by omega) ?_)
    all_goals (conv => whnf)
    exact ⟨bool_f (fun hh => hlen (by rw [hh]))⟩

theorem f56_ok (l : List Nat) (hlen : l.length ≤ 140737488351232) (hl8 : l.length * 8 ≤ 140737488355328) : Owned Try.prog 56 [d23 l] 1 (l.map r51) := by
  refine Owned.of ⟨scd23 _ _, trivial⟩ (scr51 _ _) ?_
  refine Go.A.CallsIn.of_exec tab_ok mixed Try.func56 rfl rfl [5] [] ?_
  cases l with
  | nil =>
    repeat' ((conv => whnf); first
      | refine And.intro (okRows_map (fun _ _ => ⟨rfl, rfl⟩)) ?_ | refine And.intro (by decide) ?_ | refine Exists.intro _ (And.intro (⟨len_more⟩) ?_) | refine Exists.intro _ (And.intro (⟨Eq.refl (α := List D) _⟩) ?_) | refine Both.mk ?_ ?_)
    all_goals (conv => whnf)
    · exact ⟨0, Ghost.mat (t := 0) rfl⟩
    · exact ⟨1, Ghost.refl _ _ _⟩
  | cons x l =>
    repeat' ((conv => whnf); first
      | refine And.intro (okRows_map (fun _ _ => ⟨rfl, rfl⟩)) ?_ | refine And.intro (by decide) ?_ | refine And.intro (List.cons_ne_nil _ _) ?_ | refine And.intro (by omega) ?_ | refine Exists.intro _ (And.intro (⟨len_more⟩) ?_) | refine Exists.intro _ (And.intro (⟨Eq.refl (α := List D) _⟩) ?_))
    all_goals (conv => whnf)
    refine ⟨1, Ghost.hold [0] ?_⟩
    rw [Nat.zero_add (x :: l).length, List.length_map]
    rfl

end Go.Proofs.Ytlghefbapiocgaa.V


namespace Go.Proofs.Ytlghefbapiocgaa.V
open Go.A
set_option linter.unusedVariables false
set_option linter.unusedSimpArgs false
set_option linter.unnecessarySimpa false
attribute [local irreducible] IntKind.wrap bitsI
set_option maxRecDepth 100000
set_option maxHeartbeats 4000000

theorem map_splice {α β : Type} (f : α → β) (l : List α) (off : Nat) (xs : List α) : (spliceL l off xs).map f = spliceL (l.map f) off (xs.map f) := by
  simp [spliceL, List.map_append, List.map_take, List.map_drop]

def badIx (n : Int) : List Op → Nat → Int
  | [], _ => -1
  | o :: l, i => if okOp n o then badIx n l (i + 1) else (i : Int)
theorem badIx_neg {n : Int} : ∀ {l : List Op} {i : Nat}, allOk n l → badIx n l i = -1
  | [], _, _ => rfl
  | o :: l, i, h => by
    rw [badIx, if_pos (h o List.mem_cons_self)]
    exact badIx_neg fun x hx => h x (List.mem_cons_of_mem _ hx)
theorem badIx_pos {n : Int} : ∀ {l : List Op} {i : Nat}, ¬ allOk n l → 0 ≤ badIx n l i
  | [], _, h => absurd (fun x hx => by cases hx) h
  | o :: l, i, h => by
    rw [badIx]
    split
    · rename_i ho
      exact badIx_pos fun hl => h fun x hx => by
        rcases List.mem_cons.mp hx with rfl | hx
        · exact ho
        · exact hl x hx
    · omega

theorem f54_ok (v : List Nat) (o : Op) (hv : v.length ≤ 140737488351232) (ho : o.data_.length ≤ 140737488351232) : Pure Try.prog 54 [d73 o, .pe [d23 v]] (.bool (!decide (okOp v.length o))) := by
  refine Pure.of ⟨scd73 _ _, ⟨scd23 _ _, trivial⟩, trivial⟩ trivial ?_
  refine Go.A.CallsIn.of_exec tab_ok mixed Try.func54 rfl rfl [] [] ?_
  repeat' ((conv => whnf); first
    | refine Exists.intro _ (And.intro (⟨(List.length_map _).symm⟩) ?_) | refine Pure.call (f55_ok _ _ ho) ?_)
  all_goals (conv => whnf)
  exact ⟨rfl⟩

theorem f59_ok (v : List Nat) (ops : List Op) (hv : v.length ≤ 140737488351232) (hn : ops.length ≤ 140737488351232) (ho : bigD ops) : Pure Try.prog 59 [d39 ops, .fn 54 [.pe [d23 v]]] (.int .i64 (badIx v.length ops 0)) := by
  refine Pure.of ⟨scd39 _ _, ⟨⟨scd23 _ _, trivial⟩, trivial⟩, trivial⟩ trivial ?_
  refine Go.A.CallsIn.of_exec tab_ok mixed Try.func59 rfl rfl [] [] ?_
  repeat' ((conv => whnf); first
    | refine Exists.intro _ (And.intro (⟨(List.length_map _).symm⟩) ?_))
  all_goals (conv => whnf)
  refine W_loopG (ι := Nat) (fun i => ⟨(d39 ops :: .fn 54 [.pe [d23 v]] :: D.undef :: D.undef :: D.undef :: D.undef :: D.undef :: .int .i64 (ops.length : Int) :: .int .i64 (i : Int) :: D.undef :: D.undef :: D.undef :: D.undef :: D.undef :: D.undef :: D.undef :: D.undef :: D.undef :: D.undef :: []), []⟩) (fun i => ops.length - i)
    (fun i => i ≤ ops.length ∧ badIx v.length (ops.drop i) i = badIx v.length ops 0) 0 (Ghost.hold [0, 1, 7, 8] rfl) ⟨Nat.zero_le _, rfl⟩ ?_
  rintro i ⟨h1, h2⟩
  refine exec_ok tab_ok mixed 1000 (bx := []) (own := []) ?_
  rcases Nat.lt_or_ge i ops.length with h | h
  · obtain ⟨x, hx⟩ := at_lt h
    have hxd := ho x (List.mem_of_getElem? hx)
    rw [drop_of_get hx, badIx] at h2
    by_cases hok : okOp v.length x
    · rw [if_pos hok] at h2
      repeat' ((conv => whnf); first
        | refine Exists.intro _ (And.intro (map_at (by omega) hx) ?_) | refine And.intro rfl ?_ | refine And.intro (by omega) ?_ | refine Exists.intro _ (And.intro (w64 (by omega) (by omega)) ?_) | refine Pure.call (f54_ok _ _ hv hxd) ?_ | refine boolF_not ?_ | refine boolF_dect (by assumption) ?_ | refine boolF_dect (by omega) ?_)
      all_goals (conv => whnf)
      exact ⟨i + 1, Ghost.hold [0, 1, 7, 8] rfl, ⟨h, h2⟩, by omega⟩
    · rw [if_neg hok] at h2
      repeat' ((conv => whnf); first
        | refine Exists.intro _ (And.intro (map_at (by omega) hx) ?_) | refine And.intro rfl ?_ | refine And.intro (by omega) ?_ | refine Pure.call (f54_ok _ _ hv hxd) ?_ | refine boolF_not ?_ | refine boolF_decf (by assumption) ?_ | refine boolF_dect (by omega) ?_)
      all_goals (conv => whnf)
      exact ⟨by rw [h2]⟩
  · rw [List.drop_of_length_le h, badIx] at h2
    repeat' ((conv => whnf); first
      | refine boolF_decf (by omega) ?_)
    all_goals (conv => whnf)
    exact ⟨by rw [← h2]⟩

theorem f53_ok (v : List Nat) (ops : List Op) (hv : v.length ≤ 140737488351232) (hn : ops.length ≤ 140737488351232) (ho : bigD ops) : Pure Try.prog 53 [d39 ops, .fn 54 [.pe [d23 v]]] (.bool (!decide (allOk v.length ops))) := by
  refine Pure.of ⟨scd39 _ _, ⟨⟨scd23 _ _, trivial⟩, trivial⟩, trivial⟩ trivial ?_
  refine Go.A.CallsIn.of_exec tab_ok mixed Try.func53 rfl rfl [] [] ?_
  repeat' ((conv => whnf); first
    | refine Pure.call (f59_ok _ _ hv hn ho) ?_)
  all_goals (conv => whnf)
  by_cases h : allOk v.length ops
  · rw [badIx_neg h]; exact ⟨by simp [h]⟩
  · have := badIx_pos (i := 0) h
    exact ⟨by simp [h, this]⟩

theorem f57_ok (v : List Nat) (o : Op) (ver : Nat) (hv : v.length ≤ 1024) (ho : okOp v.length o) :
    Go.A.CallsIn Try.prog 57 [.h 0 ver 0 v.length, d73 o] [.arr ver 1 (v.map r51)] fun r H => r = .tup [] ∧ H = [.arr ver 1 ((doO v o).map r51)] := by
  have hd := dat_len ho
  have hoff := ho.2.2.1
  have h24 := f46_ok o (by have := ho.2.2.2; omega)
  simp only [rngD, rng] at h24
  rw [doO, map_splice]
  obtain ⟨kind, off, len, data⟩ := o
  dsimp only at hoff h24 hd
  obtain ⟨a, rfl⟩ := Int.eq_ofNat_of_zero_le hoff
  simp only [okOp] at ho
  rcases ho.2.2.2 with ⟨rfl, rfl, k3, k4, k5⟩ | ⟨rfl, k2, k3, k4⟩
  · simp only [dat] at hd
    simp at hd
    rw [if_pos rfl] at h24
    refine Go.A.CallsIn.of_exec tab_ok mixed Try.func57 rfl rfl [] [false] ?_
    (conv => whnf)
    refine Pure.call h24 ?_
    repeat' ((conv => whnf); first
      | refine PairK.mk (by kernel_rfl) ?_ | refine And.intro (okRows_map (fun _ _ => ⟨rfl, rfl⟩)) ?_ | refine And.intro (by decide) ?_ | refine And.intro rfl ?_ | refine Exists.intro _ (And.intro (⟨Eq.refl (α := Int) _⟩) (And.intro (by omega) ?_)) | refine Exists.intro _ (Exists.intro _ (And.intro (⟨Eq.refl (α := Nat) _⟩) (And.intro (⟨Eq.refl (α := Nat) _⟩) ?_))))
    all_goals (conv => whnf)
    refine ⟨rfl, ?_⟩
    have e : min (List.map r51 data).length (v.length - a) = (data.map r51).length := by rw [List.length_map]; omega
    have e2 : dat ⟨1, (a : Int), 0, data⟩ = data := by simp [dat]
    dsimp only
    rw [e, List.take_length, e2, Nat.zero_add, Int.toNat_natCast]
  · obtain ⟨l, rfl⟩ := Int.eq_ofNat_of_zero_le (a := len) (by omega)
    obtain rfl : data = [] := List.length_eq_zero_iff.mp k2
    rw [if_neg (by decide), if_pos rfl] at h24
    refine Go.A.CallsIn.of_exec tab_ok mixed Try.func57 rfl rfl [] [false] ?_
    (conv => whnf)
    refine Pure.call h24 ?_
    repeat' ((conv => whnf); first
      | refine Exists.intro a (Exists.intro (a + l) (And.intro ⟨rfl⟩ (And.intro ⟨rfl⟩ (And.intro (by omega) (And.intro (by omega) ?_))))) | refine And.intro (by decide) ?_ | refine And.intro rfl ?_ | refine Exists.intro _ (Exists.intro _ (And.intro (⟨Eq.refl (α := Nat) _⟩) (And.intro (⟨Eq.refl (α := Nat) _⟩) ?_))) | refine Exists.intro _ (And.intro (w64 (by omega) (by omega)) ?_))
    all_goals (conv => whnf)
    refine ⟨rfl, ?_⟩
    have e2 : dat ⟨2, (a : Int), (l : Int), []⟩ = List.replicate l 0 := by simp [dat]
    dsimp only
    rw [e2, Nat.zero_add, Nat.add_sub_cancel_left, List.map_replicate, Int.toNat_natCast]
    rfl

theorem f57_at (v : List Nat) (o : Op) (ver : Nat) (hv : v.length ≤ 1024) (ho : okOp v.length o) :
    Turns1 Try.prog 57 (fun k => [.h k ver 0 v.length, d73 o]) (.arr ver 1 (v.map r51)) (fun _ _ => .tup []) (fun _ => .arr ver 1 ((doO v o).map r51)) where
  arg := fun ρ => by simp only [renL, ren]; rw [ren_sc0 ρ _ (scd73 0 o)]
  res := fun _ _ => rfl
  asc := ⟨Nat.zero_lt_one, scd73 _ _, trivial⟩
  osc := scr51 _ _
  ores := fun ρ v => renO_sc0 ρ (by exact scr51 _ _)
  calls := (f57_ok v o ver hv ho).mono fun r H ⟨e1, e2⟩ => ⟨0, e1, e2⟩

def ownW (p : List Nat × Int) (o ver : Nat) : D := .tup [.h o ver 0 p.1.length, .int .i64 p.2]
def OwnW (f : FuncId) (args : List D) (p : List Nat × Int) : Prop := OwnedR Try.prog f args (ownW p) 1 (p.1.map r51)
theorem ownW_res (p : List Nat × Int) : ∀ (ρ : Nat → Nat) ver, ren ρ (ownW p 0 ver) = ownW p (ρ 0) ver := fun _ _ => rfl
theorem ownW_err (e : Int) (H : List AObj) : ∃ ver, Ghost 0 [.tup [.nils, .int .i64 e]] H [ownW ([], e) 0 ver] [.arr ver 1 (([] : List Nat).map r51)] := by
  refine ⟨0, (Ghost.matD (sz := 1) (s' := [.tup [.h H.length 0 0 0, .int .i64 e]]) (.cons (.tup (.cons .nil (.cons .refl .nil))) .nil)).trans ?_⟩
  refine Ghost.pick [H.length] (by simp) rfl (fun i o ob' h1 h2 => ?_) rfl ⟨⟨Nat.zero_lt_one, trivial, trivial⟩, trivial⟩ (fun ob hob => by simp at hob; subst hob; trivial)
  cases i with
  | zero => simp at h1 h2; subst h1 h2; simp [renO, renL]
  | succ i => simp at h1
theorem ownW_ok (e : Int) (l : List Nat) (k w n : Nat) (H : List AObj) (hn : n = l.length) (hk : H[k]? = some (.arr w 1 (l.map r51))) : ∃ ver, Ghost 0 [.tup [.h k w 0 n, .int .i64 e]] H [ownW (l, e) 0 ver] [.arr ver 1 (l.map r51)] := by
  subst hn
  refine ⟨w, Ghost.pick [k] (by simp) rfl (fun i o ob' h1 h2 => ?_) rfl ⟨⟨Nat.zero_lt_one, trivial, trivial⟩, trivial⟩ (fun ob hob => by simp at hob; subst hob; exact scr51 _ _)⟩
  cases i with
  | zero => simp at h1 h2; subst h1 h2; simp only [renO]; rw [renL_sc0 _ _ (scr51 _ _)]; exact hk
  | succ i => simp at h1
theorem OwnW.pure {f : FuncId} {args : List D} {p : List Nat × Int} (h : OwnW f args p) : Pure Try.prog f args (.tup [d23 p.1, .int .i64 p.2]) :=
  OwnedR.pure h ⟨scd23 _ _, trivial, trivial⟩ (fun ver => .tup (.cons (.h (all_take rfl)) (.cons (.refl _) .nil)))

theorem applyL_snoc {v : List Nat} {ops : List Op} {i : Nat} {o : Op} (h : ops[i]? = some o) : applyL v (ops.take (i + 1)) = doO (applyL v (ops.take i)) o := by
  rw [take_snoc h, applyL, List.foldl_append]; rfl
theorem allOk_take {n : Int} {ops : List Op} (h : allOk n ops) (i : Nat) : allOk n (ops.take i) := fun x hx => h x (List.mem_of_mem_take hx)

theorem f45_own (v : List Nat) (ops : List Op) (hv : v.length ≤ 140737488351232) (hn : ops.length ≤ 140737488351232) (ho : bigD ops) : OwnW 45 [d23 v, d39 ops] (applyM v ops) := by
  refine OwnedR.of ⟨scd23 _ _, scd39 _ _, trivial⟩ (scr51 _ _) (ownW_res _) ?_
  refine Go.A.CallsIn.of_exec tab_ok mixed Try.func45 rfl rfl [] [] ?_
  by_cases hb : 1024 < v.length
  · rw [applyM, if_pos hb]
    repeat' ((conv => whnf); first
      | refine Exists.intro _ (And.intro (⟨(List.length_map _).symm⟩) ?_) | refine boolF_dect (by omega) ?_)
    all_goals (conv => whnf)
    exact ⟨ownW_err 6 _⟩
  · rw [applyM, if_neg hb]
    by_cases hok : allOk v.length ops
    · rw [if_pos hok]
      repeat' ((conv => whnf); first
        | refine Exists.intro _ (And.intro (⟨(List.length_map _).symm⟩) ?_) | refine Pure.call (f53_ok _ _ hv hn ho) ?_ | refine boolF_not ?_ | refine boolF_dect (by assumption) ?_ | refine boolF_decf (by omega) ?_)
      all_goals (conv => whnf)
      refine Owned.callN (f56_ok v hv (by omega)) v.length (by rw [List.length_map]) (fun v1 => ?_)
      repeat' ((conv => whnf); first
        | refine Exists.intro _ (And.intro (⟨(List.length_map _).symm⟩) ?_))
      all_goals (conv => whnf)
      refine W_loopG (ι := Nat) (fun i => ⟨(D.undef :: D.undef :: D.undef :: D.undef :: D.undef :: D.undef :: .h 0 v1 0 v.length :: D.undef :: D.undef :: D.undef :: D.undef :: D.undef :: D.undef :: D.undef :: D.undef :: D.undef :: D.undef :: d39 ops :: .int .i64 (ops.length : Int) :: .int .i64 (i:Int) :: D.undef :: D.undef :: D.undef :: D.undef :: D.undef :: D.undef :: D.undef :: D.undef :: []), [.arr v1 1 ((applyL v (ops.take i)).map r51)]⟩) (fun i => ops.length - i)
        (fun i => i ≤ ops.length) 0 (Ghost.hold [6, 17, 18, 19] rfl) (Nat.zero_le _) ?_
      intro i h1
      have hl := (apply_at (v := v) (allOk_take hok i)).1
      rcases Nat.lt_or_ge i ops.length with h | h
      · obtain ⟨x, hx⟩ := at_lt h
        have hxo := hok x (List.mem_of_getElem? hx)
        have hs := applyL_snoc (v := v) hx
        generalize applyL v (ops.take i) = cur at hl hs ⊢
        refine exec_ok tab_ok mixed 1000 (bx := [false]) (own := []) ?_
        repeat' ((conv => whnf); first
          | refine Exists.intro _ (And.intro (map_at (by omega) hx) ?_) | refine And.intro (by decide) ?_ | refine And.intro rfl ?_ | refine And.intro (by omega) ?_ | refine boolF_dect (by omega) ?_)
        all_goals (conv => whnf)
        rw [← hl] at hxo ⊢
        refine Turns1.call (f57_at cur x v1 (by omega) hxo) 0 rfl (fun v' => ?_)
        repeat' ((conv => whnf); first
          | refine Exists.intro _ (And.intro (w64 (by omega) (by omega)) ?_))
        all_goals (conv => whnf)
        refine ⟨i + 1, Ghost.back [6, 17, 18, 19] 1 ?_ ?_ (Nat.zero_le _) (by simp [scs, D.sc, scd39]) (by simp only [List.mem_singleton]; intro ob hob; subst hob; exact scr51 _ _), h, by omega⟩
        · rfl
        · rw [hs]; rfl
      · refine exec_ok tab_ok mixed 1000 (bx := [false]) (own := []) ?_
        have e : ops.take i = ops := List.take_of_length_le h
        rw [e] at hl ⊢
        repeat' ((conv => whnf); first
          | refine boolF_decf (by omega) ?_)
        all_goals (conv => whnf)
        exact ⟨ownW_ok 0 _ 0 v1 _ _ hl.symm rfl⟩
    · rw [if_neg hok]
      repeat' ((conv => whnf); first
        | refine Exists.intro _ (And.intro (⟨(List.length_map _).symm⟩) ?_) | refine Pure.call (f53_ok _ _ hv hn ho) ?_ | refine boolF_not ?_ | refine boolF_decf (by assumption) ?_ | refine boolF_decf (by omega) ?_)
      all_goals (conv => whnf)
      exact ⟨ownW_err 1 _⟩

end Go.Proofs.Ytlghefbapiocgaa.V


namespace Go.Proofs.Ytlghefbapiocgaa.V
open Go.A
set_option linter.unusedVariables false
set_option linter.unusedSimpArgs false
set_option linter.unnecessarySimpa false
attribute [local irreducible] IntKind.wrap bitsI
set_option maxRecDepth 100000
set_option maxHeartbeats 4000000

theorem splice_snoc {α : Type} {l xs : List α} {off : Nat} {x : α} (h : off + (xs.length + 1) ≤ l.length) : spliceL l off (xs ++ [x]) = (spliceL l off xs).set (off + xs.length) x := by
  have e : (l.take off).length = off := by rw [List.length_take]; omega
  have e2 : (l.take off ++ xs).length = off + xs.length := by rw [List.length_append, e]
  rw [spliceL, spliceL, List.set_append_right _ _ (by omega), e2, Nat.sub_self, List.length_append, List.length_singleton]
  have hd : l.drop (off + xs.length) = l[off + xs.length] :: l.drop (off + xs.length + 1) := List.drop_eq_getElem_cons (by omega)
  rw [hd, List.set_cons_zero, ← List.append_assoc, List.append_assoc (l.take off ++ xs)]
  rfl
theorem splice_nil {α : Type} (l : List α) (off : Nat) : spliceL l off [] = l := by simp [spliceL]
theorem setRow_len (bb : Bool) (l : List D) (i : Nat) (d : D) : (setRow bb l i d).length = l.length := by rw [setRow_eq, List.length_set]
theorem setRow_get {bb : Bool} {l : List D} {i j : Nat} {d : D} (e : j = i) (h : i < l.length) : (setRow bb l i d)[j]? = some d := by
  subst e; rw [setRow_eq, List.getElem?_set_self h]

theorem f35_ok (v : List Nat) (o : Op) (hv : v.length ≤ 1024) (ho : okOp v.length o) : Owned Try.prog 35 [d23 v, d73 o] 1 ((doO v o).map r51) := by
  have hd := dat_len ho
  have hoff := ho.2.2.1
  have h29 := f50_ok o (by have := ho.2.2.2; omega)
  simp only [rngD, rng] at h29
  refine Owned.of ⟨scd23 _ _, scd73 _ _, trivial⟩ (scr51 _ _) ?_
  obtain ⟨kind, off, len, data⟩ := o
  dsimp only at hoff h29 hd
  obtain ⟨a, rfl⟩ := Int.eq_ofNat_of_zero_le hoff
  simp only [okOp] at ho
  rcases ho.2.2.2 with ⟨rfl, rfl, k3, k4, k5⟩ | ⟨rfl, k2, k3, k4⟩
  · have e2 : dat ⟨1, (a : Int), 0, data⟩ = data := by simp [dat]
    rw [doO, e2]
    rw [if_pos rfl] at h29
    refine Go.A.CallsIn.of_exec tab_ok mixed Try.func35 rfl rfl [] [false] ?_
    repeat' ((conv => whnf); first
      | refine And.intro (okRows_map (fun _ _ => ⟨rfl, rfl⟩)) ?_ | refine And.intro (by omega) ?_ | refine Exists.intro _ (And.intro (⟨(List.length_map _).symm⟩) ?_))
    all_goals (conv => whnf)
    refine Pure.call h29 ?_
    (conv => whnf)
    refine W_loopG (ι := Nat) (fun i => ⟨(D.undef :: D.undef :: D.undef :: .pe (c73 ⟨1, (a : Int), 0, data⟩) :: D.undef :: .h 0 0 0 v.length :: .int .i64 (a : Int) :: .int .i64 (data.length : Int) :: .int .i64 (i:Int) :: D.undef :: D.undef :: D.undef :: D.undef :: D.undef :: D.undef :: D.undef :: D.undef :: D.undef :: D.undef :: D.undef :: D.undef :: D.undef :: D.undef :: D.undef :: D.undef :: D.undef :: D.undef :: D.undef :: D.undef :: D.undef :: D.undef :: D.undef :: D.undef :: D.undef :: D.undef :: D.undef :: D.undef :: D.undef :: D.undef :: D.undef :: []), [.arr 0 1 ((spliceL v a (data.take i)).map r51)]⟩) (fun i => data.length - i)
      (fun i => i ≤ data.length) 0 (Ghost.hold [3, 5, 6, 7, 8] (by rw [List.take_zero, splice_nil]; rfl)) (Nat.zero_le _) ?_
    intro i h1
    have hl : (spliceL v a (data.take i)).length = v.length := spliceL_length _ _ _ (by rw [List.length_take]; omega)
    refine exec_ok tab_ok mixed 1000 (bx := [false]) (own := []) ?_
    rcases Nat.lt_or_ge i data.length with h | h
    · obtain ⟨x, hx⟩ := at_lt h
      have hs : spliceL v a (data.take (i + 1)) = (spliceL v a (data.take i)).set (a + i) x := by
        have := splice_snoc (l := v) (xs := data.take i) (off := a) (x := x) (by rw [List.length_take]; omega)
        rw [take_snoc hx, this, List.length_take, Nat.min_eq_left (by omega)]
      generalize spliceL v a (data.take i) = cur at hl hs ⊢
      obtain ⟨z, hz⟩ := at_lt (l := cur) (i := a + i) (by omega)
      repeat' ((conv => whnf); first
        | refine Exists.intro _ (And.intro (map_at (by omega) hz) ?_) | refine Exists.intro _ (And.intro (map_at (by omega) hx) ?_) | refine Exists.intro _ (And.intro (setRow_get rfl (by rw [List.length_map]; omega)) ?_) | refine And.intro (by rw [setRow_len, List.length_map]; omega) ?_ | refine And.intro (by decide) ?_ | refine And.intro rfl ?_ | refine And.intro (by omega) ?_ | refine And.intro (by simp only [List.length_map, List.length_append, List.length_cons, List.length_nil]; omega) ?_ | refine Exists.intro _ (And.intro (w64 (by omega) (by omega)) ?_) | refine boolF_dect (by omega) ?_)
      all_goals (conv => whnf)
      refine ⟨i + 1, Ghost.hold [3, 5, 6, 7, 8] ?_, h, by omega⟩
      have e : ∀ (bb : Bool) (l : List D) (d : D), setRow bb l (0 + ((a : Int) + (i : Int)).toNat) d = l.set (a + i) d := fun bb l d => by rw [setRow_eq]; congr 1; omega
      have e3 : setRow false (setRow false (cur.map r51) (0 + ((a : Int) + (i : Int)).toNat) (.int .u64 0)) (0 + ((a : Int) + (i : Int)).toNat) (r51 x) = ((spliceL v a (data.take (i + 1))).map r51) := by
        rw [e, e, List.set_set, hs, List.map_set]
      rw [← e3]
      rfl
    · have e : data.take i = data := List.take_of_length_le h
      rw [e] at hl ⊢
      repeat' ((conv => whnf); first
        | refine boolF_decf (by omega) ?_)
      all_goals (conv => whnf)
      exact ⟨0, Ghost.hold [0] (by rw [List.length_map, Int.toNat_natCast, hl]; rfl)⟩
  · obtain ⟨l, rfl⟩ := Int.eq_ofNat_of_zero_le (a := len) (by omega)
    obtain rfl : data = [] := List.length_eq_zero_iff.mp k2
    have e2 : dat ⟨2, (a : Int), (l : Int), []⟩ = List.replicate l 0 := by simp [dat]
    rw [doO, e2]
    rw [if_neg (by decide), if_pos rfl] at h29
    refine Go.A.CallsIn.of_exec tab_ok mixed Try.func35 rfl rfl [] [false] ?_
    repeat' ((conv => whnf); first
      | refine And.intro (okRows_map (fun _ _ => ⟨rfl, rfl⟩)) ?_ | refine And.intro (by omega) ?_ | refine Exists.intro _ (And.intro (⟨(List.length_map _).symm⟩) ?_))
    all_goals (conv => whnf)
    refine Pure.call h29 ?_
    (conv => whnf)
    refine W_loopG (ι := Nat) (fun i => ⟨(D.undef :: D.undef :: D.undef :: .pe (c73 ⟨2, (a : Int), (l : Int), []⟩) :: D.undef :: .h 0 0 0 v.length :: .int .i64 (a : Int) :: .int .i64 (l : Int) :: .int .i64 (i:Int) :: D.undef :: D.undef :: D.undef :: D.undef :: D.undef :: D.undef :: D.undef :: D.undef :: D.undef :: D.undef :: D.undef :: D.undef :: D.undef :: D.undef :: D.undef :: D.undef :: D.undef :: D.undef :: D.undef :: D.undef :: D.undef :: D.undef :: D.undef :: D.undef :: D.undef :: D.undef :: D.undef :: D.undef :: D.undef :: D.undef :: D.undef :: []), [.arr 0 1 ((spliceL v a (List.replicate i 0)).map r51)]⟩) (fun i => l - i)
      (fun i => i ≤ l) 0 (Ghost.hold [3, 5, 6, 7, 8] (by rw [List.replicate_zero, splice_nil]; rfl)) (Nat.zero_le _) ?_
    intro i h1
    have hl : (spliceL v a (List.replicate i 0)).length = v.length := spliceL_length _ _ _ (by rw [List.length_replicate]; omega)
    refine exec_ok tab_ok mixed 1000 (bx := [false]) (own := []) ?_
    rcases Nat.lt_or_ge i l with h | h
    · have hs : spliceL v a (List.replicate (i + 1) 0) = (spliceL v a (List.replicate i 0)).set (a + i) 0 := by
        have := splice_snoc (l := v) (xs := List.replicate i 0) (off := a) (x := 0) (by rw [List.length_replicate]; omega)
        rw [List.replicate_succ', this, List.length_replicate]
      generalize spliceL v a (List.replicate i 0) = cur at hl hs ⊢
      obtain ⟨z, hz⟩ := at_lt (l := cur) (i := a + i) (by omega)
      repeat' ((conv => whnf); first
        | refine Exists.intro _ (And.intro (map_at (by omega) hz) ?_) | refine And.intro (by decide) ?_ | refine And.intro (by omega) ?_ | refine And.intro (by simp only [List.length_map, List.length_append, List.length_cons, List.length_nil]; omega) ?_ | refine Exists.intro _ (And.intro (w64 (by omega) (by omega)) ?_) | refine boolF_dect (by omega) ?_)
      all_goals (conv => whnf)
      refine ⟨i + 1, Ghost.hold [3, 5, 6, 7, 8] ?_, h, by omega⟩
      have e : ∀ (bb : Bool) (l : List D) (d : D), setRow bb l (0 + ((a : Int) + (i : Int)).toNat) d = l.set (a + i) d := fun bb l d => by rw [setRow_eq]; congr 1; omega
      have e3 : setRow false (cur.map r51) (0 + ((a : Int) + (i : Int)).toNat) (.int .u64 0) = ((spliceL v a (List.replicate (i + 1) 0)).map r51) := by
        rw [e, hs, List.map_set]; rfl
      rw [← e3]
      rfl
    · obtain rfl : i = l := by omega
      repeat' ((conv => whnf); first
        | refine boolF_decf (by omega) ?_)
      all_goals (conv => whnf)
      exact ⟨0, Ghost.hold [0] (by rw [List.length_map, Int.toNat_natCast, hl]; rfl)⟩

theorem f21_own (v : List Nat) (ops : List Op) (hv : v.length ≤ 140737488351232) (hn : ops.length ≤ 140737488351232) (ho : bigD ops) : OwnW 21 [d23 v, d39 ops] (applyM v ops) := by
  refine OwnedR.of ⟨scd23 _ _, scd39 _ _, trivial⟩ (scr51 _ _) (ownW_res _) ?_
  refine Go.A.CallsIn.of_exec tab_ok mixed Try.func21 rfl rfl [] [] ?_
  by_cases hb : 1024 < v.length
  · rw [applyM, if_pos hb]
    repeat' ((conv => whnf); first
      | refine Exists.intro _ (And.intro (⟨(List.length_map _).symm⟩) ?_) | refine Pure.call (f33_ok _) ?_ | refine boolF_not ?_ | refine boolF_decf (by omega) ?_)
    all_goals (conv => whnf)
    exact ⟨ownW_err 6 _⟩
  · rw [applyM, if_neg hb]
    repeat' ((conv => whnf); first
      | refine Exists.intro _ (And.intro (⟨(List.length_map _).symm⟩) ?_) | refine Pure.call (f33_ok _) ?_ | refine boolF_not ?_ | refine boolF_dect (by omega) ?_)
    all_goals (conv => whnf)
    refine W_loopG (ι := Nat) (fun i => ⟨(d23 v :: d39 ops :: D.undef :: D.undef :: D.undef :: D.undef :: .int .i64 (i:Int) :: D.undef :: D.undef :: D.undef :: D.undef :: D.undef :: D.undef :: D.undef :: D.undef :: D.undef :: D.undef :: D.undef :: D.undef :: D.undef :: D.undef :: D.undef :: D.undef :: D.undef :: D.undef :: D.undef :: D.undef :: D.undef :: D.undef :: D.undef :: D.undef :: D.undef :: D.undef :: D.undef :: D.undef :: D.undef :: D.undef :: D.undef :: D.undef :: D.undef :: D.undef :: D.undef :: []), []⟩) (fun i => ops.length - i)
      (fun i => i ≤ ops.length ∧ allOk v.length (ops.take i)) 0 (Ghost.hold [0, 1, 6] rfl) ⟨Nat.zero_le _, fun x hx => by simp at hx⟩ ?_
    rintro i ⟨h1, h2⟩
    refine exec_ok tab_ok mixed 1000 (bx := []) (own := []) ?_
    rcases Nat.lt_or_ge i ops.length with h | h
    · obtain ⟨x, hx⟩ := at_lt h
      have hxd := ho x (List.mem_of_getElem? hx)
      by_cases hok : okOp v.length x
      · repeat' ((conv => whnf); first
          | refine Exists.intro _ (And.intro (map_at (by omega) hx) ?_) | refine And.intro rfl ?_ | refine And.intro (by omega) ?_ | refine Exists.intro _ (And.intro (⟨(List.length_map _).symm⟩) ?_) | refine Exists.intro _ (And.intro (w64 (by omega) (by omega)) ?_) | refine Pure.call (f34_ok _ _ hxd) ?_ | refine boolF_not ?_ | refine boolF_dect (by assumption) ?_ | refine boolF_dect (by omega) ?_)
        all_goals (conv => whnf)
        refine ⟨i + 1, Ghost.hold [0, 1, 6] rfl, ⟨h, ?_⟩, by omega⟩
        rw [take_snoc hx]
        intro y hy
        rcases List.mem_append.mp hy with hy | hy
        · exact h2 y hy
        · simp only [List.mem_singleton] at hy; subst hy; exact hok
      · rw [if_neg (fun hh => hok (hh x (List.mem_of_getElem? hx)))]
        repeat' ((conv => whnf); first
          | refine Exists.intro _ (And.intro (map_at (by omega) hx) ?_) | refine And.intro rfl ?_ | refine And.intro (by omega) ?_ | refine Exists.intro _ (And.intro (⟨(List.length_map _).symm⟩) ?_) | refine Pure.call (f34_ok _ _ hxd) ?_ | refine boolF_not ?_ | refine boolF_decf (by assumption) ?_ | refine boolF_dect (by omega) ?_)
        all_goals (conv => whnf)
        exact ⟨ownW_err 1 _⟩
    · rw [List.take_of_length_le h] at h2
      rw [if_pos h2]
      repeat' ((conv => whnf); first
        | refine And.intro (okRows_map (fun _ _ => ⟨rfl, rfl⟩)) ?_ | refine And.intro (by omega) ?_ | refine Exists.intro _ (And.intro (⟨(List.length_map _).symm⟩) ?_) | refine boolF_decf (by omega) ?_)
      all_goals (conv => whnf)
      refine W_loopG (ι := Nat × Nat) (fun i => ⟨(D.undef :: d39 ops :: D.undef :: D.undef :: D.undef :: D.undef :: D.undef :: .h 0 i.2 0 v.length :: .int .i64 (i.1:Int) :: D.undef :: D.undef :: D.undef :: D.undef :: D.undef :: D.undef :: D.undef :: D.undef :: D.undef :: D.undef :: D.undef :: D.undef :: D.undef :: D.undef :: D.undef :: D.undef :: D.undef :: D.undef :: D.undef :: D.undef :: D.undef :: D.undef :: D.undef :: D.undef :: D.undef :: D.undef :: D.undef :: D.undef :: D.undef :: D.undef :: D.undef :: D.undef :: D.undef :: []), [.arr i.2 1 ((applyL v (ops.take i.1)).map r51)]⟩) (fun i => ops.length - i.1)
        (fun i => i.1 ≤ ops.length) (0, 0) (Ghost.hold [1, 7, 8] rfl) (Nat.zero_le _) ?_
      rintro ⟨j, ver⟩ k1
      dsimp only at k1 ⊢
      have hl := (apply_at (v := v) (allOk_take h2 j)).1
      refine exec_ok tab_ok mixed 1000 (bx := [false]) (own := []) ?_
      rcases Nat.lt_or_ge j ops.length with h | h
      · obtain ⟨x, hx⟩ := at_lt h
        have hxo := h2 x (List.mem_of_getElem? hx)
        have hs := applyL_snoc (v := v) hx
        generalize applyL v (ops.take j) = cur at hl hs ⊢
        rw [← hl] at hxo
        have h35 := f35_ok cur x (by omega) hxo
        have hl2 := (do_at hxo).1
        repeat' ((conv => whnf); first
          | refine Exists.intro _ (And.intro (map_at (by omega) hx) ?_) | refine And.intro rfl ?_ | refine And.intro (by omega) ?_ | refine Exists.intro _ (And.intro (⟨(List.length_map _).symm⟩) ?_) | refine boolF_dect (by omega) ?_)
        all_goals (conv => whnf)
        refine Owned.seeN h35 v.length (by rw [List.length_map]; omega) [(0, .arr ver 1 (cur.map r51))] (fact1 rfl) (.cons (.h List.mem_cons_self (.all (scr51 _ _)) (all_take hl.symm)) (.cons (.same (scd73 0 x)) .nil)) (bares_map fun x => trivial) (fun v1 => ?_)
        repeat' ((conv => whnf); first
          | refine Exists.intro _ (And.intro (w64 (by omega) (by omega)) ?_))
        all_goals (conv => whnf)
        refine ⟨(j + 1, v1), (Ghost.hold [1, 7, 8] rfl).trans (Ghost.pickAt 1 7 rfl (show scs 0 ((D.undef :: d39 ops :: D.undef :: D.undef :: D.undef :: D.undef :: D.undef :: D.undef :: .int .i64 ((j : Int) + 1) :: D.undef :: D.undef :: D.undef :: D.undef :: D.undef :: D.undef :: D.undef :: D.undef :: D.undef :: D.undef :: D.undef :: D.undef :: D.undef :: D.undef :: D.undef :: D.undef :: D.undef :: D.undef :: D.undef :: D.undef :: D.undef :: D.undef :: D.undef :: D.undef :: D.undef :: D.undef :: D.undef :: D.undef :: D.undef :: D.undef :: D.undef :: D.undef :: D.undef :: [])) by simp [scs, D.sc, scd39]) (by rw [hs]; rfl) (scr51 _ _)), h, by dsimp only; omega⟩
      · have e : ops.take j = ops := List.take_of_length_le h
        rw [e] at hl ⊢
        repeat' ((conv => whnf); first
          | refine Exists.intro _ (And.intro (⟨(List.length_map _).symm⟩) ?_) | refine boolF_decf (by omega) ?_)
        all_goals (conv => whnf)
        exact ⟨ownW_ok 0 _ 0 ver _ _ hl.symm rfl⟩

theorem f21_ok (v : List Nat) (ops : List Op) (hv : v.length ≤ 140737488351232) (hn : ops.length ≤ 140737488351232) (ho : bigD ops) : Pure Try.prog 21 [d23 v, d39 ops] (.tup [d23 (applyM v ops).1, .int .i64 (applyM v ops).2]) := (f21_own v ops hv hn ho).pure

end Go.Proofs.Ytlghefbapiocgaa.V


namespace Go.Proofs.Ytlghefbapiocgaa.V
open Go.A
set_option linter.unusedVariables false
set_option linter.unusedSimpArgs false
set_option linter.unnecessarySimpa false
attribute [local irreducible] IntKind.wrap bitsI
set_option maxRecDepth 100000
set_option maxHeartbeats 4000000

theorem short_len (t : Nat → Bool) (b : Nat → Nat) : ∀ i, (shortS t b i).length ≤ i
  | 0 => Nat.le_refl _
  | i + 1 => by
    have ih := short_len t b i
    rw [shortS]
    unfold stepS
    split
    · omega
    · split
      · split <;> (rw [List.length_append]; simp; omega)
      · split
        · rw [List.length_set]; omega
        · split
          · rw [List.length_append]; simp; omega
          · split
            · rw [List.length_set]; omega
            · rw [List.length_append]; simp; omega

theorem f47_ok (v : List Nat) (g : FuncId) (caps : List D) (t : Nat → Bool) (hv : v.length ≤ 1024) (hcap : scs 0 caps) (hcl : ∀ j : Nat, j < v.length → Pure Try.prog g (.int .i64 (j : Int) :: caps) (.bool (t j))) :
    Owned Try.prog 47 [d23 v, .fn g caps] 4 ((shortS t (at0 v) v.length).map r73) := by
  refine Owned.of ⟨scd23 _ _, hcap, trivial⟩ (scr73 _ _) ?_
  refine Go.A.CallsIn.of_exec tab_ok mixed Try.func47 rfl rfl [] [] ?_
  obtain ⟨b, hb⟩ : ∃ b, b = at0 v := ⟨_, rfl⟩
  rw [← hb]
  (conv => whnf)
  refine W_loopG (ι := Nat × Nat) (fun i => ⟨(d23 v :: .fn g caps :: D.undef :: D.undef :: D.undef :: .h 0 i.2 0 (shortS t b i.1).length :: .int .i64 (i.1:Int) :: D.undef :: D.undef :: D.undef :: D.undef :: D.undef :: D.undef :: D.undef :: D.undef :: D.undef :: D.undef :: D.undef :: D.undef :: D.undef :: D.undef :: D.undef :: D.undef :: D.undef :: D.undef :: D.undef :: D.undef :: D.undef :: D.undef :: D.undef :: D.undef :: D.undef :: D.undef :: D.undef :: D.undef :: D.undef :: D.undef :: D.undef :: D.undef :: D.undef :: D.undef :: D.undef :: D.undef :: D.undef :: D.undef :: D.undef :: D.undef :: D.undef :: D.undef :: D.undef :: D.undef :: D.undef :: D.undef :: D.undef :: D.undef :: D.undef :: D.undef :: D.undef :: D.undef :: D.undef :: D.undef :: D.undef :: D.undef :: D.undef :: D.undef :: D.undef :: D.undef :: D.undef :: D.undef :: D.undef :: D.undef :: D.undef :: D.undef :: D.undef :: D.undef :: D.undef :: D.undef :: D.undef :: []), [.arr i.2 4 ((shortS t b i.1).map r73)]⟩) (fun i => v.length - i.1)
    (fun i => i.1 ≤ v.length ∧ (i.1 < v.length → t i.1 = true → ¬ near t b i.1)) (0, 0) ((Ghost.hold [0, 1, 5, 6] rfl).trans (Ghost.mat (t := 5) (sz := 4) rfl)) ⟨Nat.zero_le _, fun _ _ h => absurd h.1 (Nat.lt_irrefl _)⟩ ?_
  rintro ⟨i, ver⟩ ⟨h1, h2⟩
  dsimp only at h1 h2 ⊢
  have hlen := short_len t b i
  rcases Nat.lt_or_ge i v.length with h | h
  · cases hti : t i with
    | false =>
      have hs : shortS t b (i + 1) = shortS t b i := by rw [shortS, stepS, if_pos hti]
      have hcl1 := hcl i h
      rw [hti] at hcl1
      refine exec_ok tab_ok mixed 1000 (bx := [false]) (own := []) ?_
      repeat' ((conv => whnf); first
        | refine listK_iff.mpr ?_ | refine Pure.call hcl1 ?_ | refine Exists.intro _ (And.intro (⟨(List.length_map _).symm⟩) ?_) | refine Exists.intro _ (And.intro (w64 (by omega) (by omega)) ?_) | refine boolF_dect (by omega) ?_)
      all_goals (conv => whnf)
      refine ⟨(i + 1, ver), Ghost.hold [0, 1, 5, 6] ?_, ⟨h, fun _ _ hn => ?_⟩, by dsimp only; omega⟩
      · dsimp only; rw [hs]; rfl
      · have := hn.2.1; rw [Nat.add_sub_cancel, hti] at this; cases this
    | true =>
      have hni := h2 h hti
      have hcl1 := hcl i h
      rw [hti] at hcl1
      obtain ⟨y, hy⟩ := at_lt h
      have hby : b i = y := by rw [hb]; simp only [at0, hy]; rfl
      refine exec_ok tab_ok mixed 14 (bx := [false]) (own := []) ?_
      repeat' ((conv => whnf); first
        | refine listK_iff.mpr ?_ | refine Pure.call hcl1 ?_ | refine Exists.intro _ (And.intro (⟨(List.length_map _).symm⟩) ?_) | refine Exists.intro _ (And.intro (w64 (by omega) (by omega)) ?_) | refine boolF_dect (by omega) ?_)
      all_goals (conv => whnf)
      clear hcl1
      -- the run's end
      refine W_midG (ι := Nat) (fun k => ⟨(d23 v :: .fn g caps :: D.undef :: D.undef :: D.undef :: .h 0 ver 0 (shortS t b i).length :: .int .i64 (i:Int) :: .int .i64 (k : Int) :: D.undef :: D.undef :: D.undef :: D.undef :: D.undef :: D.undef :: D.undef :: D.undef :: D.undef :: D.undef :: D.undef :: D.undef :: D.undef :: D.undef :: D.undef :: D.undef :: D.undef :: D.undef :: D.undef :: D.undef :: D.undef :: D.undef :: D.undef :: D.undef :: D.undef :: D.undef :: D.undef :: D.undef :: D.undef :: D.undef :: D.undef :: D.undef :: D.undef :: D.undef :: D.undef :: D.undef :: D.undef :: D.undef :: D.undef :: D.undef :: D.undef :: D.undef :: D.undef :: D.undef :: D.undef :: D.undef :: D.undef :: D.undef :: D.undef :: D.undef :: D.undef :: D.undef :: D.undef :: D.undef :: D.undef :: D.undef :: D.undef :: D.undef :: D.undef :: D.undef :: D.undef :: D.undef :: D.undef :: D.undef :: D.undef :: D.undef :: D.undef :: D.undef :: D.undef :: D.undef :: []), [.arr ver 4 ((shortS t b i).map r73)]⟩)
        (fun k => i < k ∧ k ≤ v.length ∧ (∀ j, i ≤ j → j < k → t j = true ∧ (b j = 0 ↔ b i = 0)) ∧ (k < v.length → t k = true → ¬ near t b k)) ?_ ?_
      · refine exec_ok tab_ok mixed 1000 (bx := [false]) (own := []) ?_
        (conv => whnf)
        refine W_loopG (ι := Nat) (fun k => ⟨(d23 v :: .fn g caps :: D.undef :: D.undef :: D.undef :: .h 0 ver 0 (shortS t b i).length :: .int .i64 (i:Int) :: .int .i64 (k : Int) :: D.undef :: D.undef :: D.undef :: D.undef :: D.undef :: D.undef :: D.undef :: D.undef :: D.undef :: D.undef :: D.undef :: D.undef :: D.undef :: D.undef :: D.undef :: D.undef :: D.undef :: D.undef :: D.undef :: D.undef :: D.undef :: D.undef :: D.undef :: D.undef :: D.undef :: D.undef :: D.undef :: D.undef :: D.undef :: D.undef :: D.undef :: D.undef :: D.undef :: D.undef :: D.undef :: D.undef :: D.undef :: D.undef :: D.undef :: D.undef :: D.undef :: D.undef :: D.undef :: D.undef :: D.undef :: D.undef :: D.undef :: D.undef :: D.undef :: D.undef :: D.undef :: D.undef :: D.undef :: D.undef :: D.undef :: D.undef :: D.undef :: D.undef :: D.undef :: D.undef :: D.undef :: D.undef :: D.undef :: D.undef :: D.undef :: D.undef :: D.undef :: D.undef :: D.undef :: D.undef :: []), [.arr ver 4 ((shortS t b i).map r73)]⟩) (fun k => v.length - k)
          (fun k => i < k ∧ k ≤ v.length ∧ ∀ j, i ≤ j → j < k → t j = true ∧ (b j = 0 ↔ b i = 0)) (i + 1) (Ghost.hold [0, 1, 5, 6, 7] rfl) ⟨Nat.lt_succ_self i, h, fun j g1 g2 => (by obtain rfl : j = i := (by omega); exact ⟨hti, Iff.rfl⟩)⟩ ?_
        rintro k ⟨k1, k2, k3⟩
        have hnear : (k < v.length → ¬ (t k = true ∧ (b k = 0 ↔ b i = 0))) → k < v.length → t k = true → ¬ near t b k := fun g1 g2 g3 hn => by
          refine g1 g2 ⟨g3, ?_⟩
          have := (k3 (k - 1) (by omega) (by omega)).2
          rw [← hn.2.2]; exact this
        refine exec_ok tab_ok mixed 1000 (bx := [false]) (own := []) ?_
        rcases Nat.lt_or_ge k v.length with g | g
        · have hcl1 := hcl k g
          obtain ⟨x, hx⟩ := at_lt g
          have hbx : b k = x := by rw [hb]; simp only [at0, hx]; rfl
          cases htk : t k with
          | false =>
            rw [htk] at hcl1
            repeat' ((conv => whnf); first
              | refine PairK.mk (by kernel_rfl) ?_ | refine listK_iff.mpr ?_ | refine Pure.locK hcl1 ?_ | refine Exists.intro _ (And.intro (⟨(List.length_map _).symm⟩) ?_) | refine boolF_dect (by omega) ?_)
            all_goals (conv => whnf)
            exact ⟨k, Ghost.hold [0, 1, 5, 6, 7] rfl, k1, k2, k3, hnear fun _ h => by rw [htk] at h; cases h.1⟩
          | true =>
            rw [htk] at hcl1
            by_cases g3 : b k = 0 ↔ b i = 0
            · have hsm : ((x == 0) == (y == 0)) = true := by
                rw [hbx, hby] at g3
                by_cases q : y = 0
                · simp [q, g3.mpr q]
                · have q' : x ≠ 0 := fun e => q (g3.mp e)
                  have e1 : (x == 0) = false := by simpa using q'
                  have e2 : (y == 0) = false := by simpa using q
                  rw [e1, e2]; rfl
              repeat' ((conv => whnf); first
                | refine PairK.mk (by kernel_rfl) ?_ | refine listK_iff.mpr ?_ | refine Pure.locK hcl1 ?_ | refine Exists.intro _ (And.intro (map_at (by omega) hx) ?_) | refine Exists.intro _ (And.intro (map_at (by omega) hy) ?_) | refine And.intro rfl ?_ | refine And.intro (by omega) ?_ | refine Exists.intro _ (And.intro (⟨(List.length_map _).symm⟩) ?_) | refine Exists.intro _ (And.intro (w64 (by omega) (by omega)) ?_) | refine boolF_dect (by omega) ?_ | refine boolF_t (by assumption) ?_)
              all_goals (conv => whnf)
              refine ⟨k + 1, Ghost.hold [0, 1, 5, 6, 7] rfl, ⟨by omega, g, fun j q1 q2 => ?_⟩, by omega⟩
              rcases Nat.lt_or_ge j k with q | q
              · exact k3 j q1 q
              · obtain rfl : j = k := by omega
                exact ⟨htk, g3⟩
            · have hsm : ((x == 0) == (y == 0)) = false := by
                rw [hbx, hby] at g3
                by_cases q : y = 0
                · have q' : x ≠ 0 := fun e => g3 ⟨fun _ => q, fun _ => e⟩
                  have e1 : (x == 0) = false := by simpa using q'
                  rw [e1, q]; rfl
                · have q' : x = 0 := Classical.byContradiction fun e => g3 ⟨fun e' => absurd e' e, fun e' => absurd e' q⟩
                  have e2 : (y == 0) = false := by simpa using q
                  rw [e2, q']; rfl
              repeat' ((conv => whnf); first
                | refine PairK.mk (by kernel_rfl) ?_ | refine listK_iff.mpr ?_ | refine Pure.locK hcl1 ?_ | refine Exists.intro _ (And.intro (map_at (by omega) hx) ?_) | refine Exists.intro _ (And.intro (map_at (by omega) hy) ?_) | refine And.intro rfl ?_ | refine And.intro (by omega) ?_ | refine Exists.intro _ (And.intro (⟨(List.length_map _).symm⟩) ?_) | refine boolF_dect (by omega) ?_ | refine boolF_f (by assumption) ?_)
              all_goals (conv => whnf)
              exact ⟨k, Ghost.hold [0, 1, 5, 6, 7] rfl, k1, k2, k3, hnear fun _ h => g3 h.2⟩
        · repeat' ((conv => whnf); first
            | refine PairK.mk (by kernel_rfl) ?_ | refine Exists.intro _ (And.intro (⟨(List.length_map _).symm⟩) ?_) | refine boolF_decf (by omega) ?_)
          all_goals (conv => whnf)
          exact ⟨k, Ghost.hold [0, 1, 5, 6, 7] rfl, k1, k2, k3, hnear fun g' => by omega⟩
      rintro k ⟨k1, k2, k3, hnk⟩
      refine exec_ok tab_ok mixed 1000 (bx := [false]) (own := []) ?_
      obtain ⟨m, hm⟩ : ∃ m, k = i + (m + 1) := ⟨k - i - 1, by omega⟩
      by_cases hz : y = 0
      · have hs := short_zero (t := t) (b := b) (i := i) (m := m) (by omega) (fun j g1 g2 => ⟨(k3 j g1 (by omega)).1, (k3 j g1 (by omega)).2.mpr (by rw [hby]; exact hz)⟩) hni
        rw [← hm] at hs
        repeat' ((conv => whnf); first
          | refine Exists.intro _ (And.intro (map_at (by omega) hy) ?_) | refine And.intro (by decide) ?_ | refine And.intro rfl ?_ | refine And.intro (by omega) ?_ | refine And.intro (by simpa only [List.length_map, List.length_append, List.length_cons, List.length_nil] using rfl) ?_ | refine And.intro (okRows_one rfl rfl) ?_ | refine Exists.intro _ (And.intro (⟨len_one⟩) ?_) | refine Exists.intro _ (And.intro (⟨Eq.refl (α := List D) _⟩) ?_) | refine Exists.intro _ (And.intro (w64 (by omega) (by omega)) ?_) | refine boolF_dect (by assumption) ?_)
        all_goals (conv => whnf)
        refine ⟨(k, ver + 1), (Ghost.re (o := 0) (rows' := (shortS t b k).map r73) rfl ?_).trans (Ghost.hold [0, 1, 5, 6] ?_), ⟨k2, hnk⟩, by dsimp only; omega⟩
        · have e : (k : Int) - (i : Int) = ((m + 1 : Nat) : Int) := by omega
          rw [hs, List.map_append, ← e]
          exact Fzl.snoc (.cons .refl (.cons .refl (.cons .refl (.cons .nils .nil))))
        · dsimp only
          rw [hs, List.length_append]; rfl
      · have hrun : ∀ j, i ≤ j → j < k → t j = true ∧ b j ≠ 0 := fun j g1 g2 => ⟨(k3 j g1 g2).1, fun e => hz (by rw [← hby]; exact (k3 j g1 g2).2.mp e)⟩
        repeat' ((conv => whnf); first
          | refine Exists.intro _ (And.intro (map_at (by omega) hy) ?_) | refine And.intro rfl ?_ | refine And.intro (by omega) ?_ | refine boolF_decf (by assumption) ?_)
        all_goals (conv => whnf)
        refine W_loopG (ι := Nat × Nat) (fun p => ⟨(d23 v :: .fn g caps :: D.undef :: D.undef :: D.undef :: .h 0 p.2 0 (shortS t b (min p.1 k)).length :: .int .i64 (p.1 : Int) :: .int .i64 (k : Int) :: D.undef :: D.undef :: D.undef :: D.undef :: D.undef :: D.undef :: D.undef :: D.undef :: D.undef :: D.undef :: D.undef :: D.undef :: D.undef :: D.undef :: D.undef :: D.undef :: D.undef :: D.undef :: D.undef :: D.undef :: D.undef :: D.undef :: D.undef :: D.undef :: D.undef :: D.undef :: D.undef :: D.undef :: D.undef :: D.undef :: D.undef :: D.undef :: D.undef :: D.undef :: D.undef :: D.undef :: D.undef :: D.undef :: D.undef :: D.undef :: D.undef :: D.undef :: D.undef :: D.undef :: D.undef :: D.undef :: D.undef :: D.undef :: D.undef :: D.undef :: D.undef :: D.undef :: D.undef :: D.undef :: D.undef :: D.undef :: D.undef :: D.undef :: D.undef :: D.undef :: D.undef :: D.undef :: D.undef :: D.undef :: D.undef :: D.undef :: D.undef :: D.undef :: D.undef :: D.undef :: []), [.arr p.2 4 ((shortS t b (min p.1 k)).map r73)]⟩) (fun p => k - p.1)
          (fun p => i ≤ p.1 ∧ p.1 ≤ k + 64 ∧ (p.1 < k → near t b p.1 → ∃ kk l, shortS t b p.1 = kk ++ [l] ∧ 64 ≤ l.data_.length)) (i, ver) (Ghost.hold [0, 1, 5, 6, 7] (by dsimp only; rw [Nat.min_eq_left (by omega)]; rfl)) ⟨Nat.le_refl _, by dsimp only; omega, fun _ h => absurd h hni⟩ ?_
        rintro ⟨p, ver⟩ ⟨p1, p2, p3⟩
        dsimp only at p1 p2 p3 ⊢
        refine exec_ok tab_ok mixed 1000 (bx := [false]) (own := []) ?_
        have hlen2 := short_len t b (min p k)
        rcases Nat.lt_or_ge p k with g | g
        · obtain ⟨q, hq'⟩ : ∃ q, q = min (p + 64) k := ⟨_, rfl⟩
          have hq : (q : Int) = if (p : Int) + 64 < (k : Int) then (p : Int) + 64 else (k : Int) := by split <;> omega
          obtain ⟨d, hd⟩ : ∃ d, q = p + (d + 1) := ⟨q - p - 1, by omega⟩
          have hs := short_seg (t := t) (b := b) (i := p) (m := d) (by omega) (fun j g1 g2 => hrun j (by omega) (by omega)) (p3 g)
          have hseg : seg b p (d + 1) = (v.drop p).take (q - p) := by rw [hb, seg_at (by omega), show q - p = d + 1 by omega]
          rw [← hd, hseg] at hs
          rw [Nat.min_eq_left (by omega)] at hlen2 ⊢
          have hdl : ((v.drop p).take (q - p)).length ≤ 64 := by rw [List.length_take]; omega
          have h22 := (f56_ok ((v.drop p).take (q - p)) (by omega) (by omega)).pure
          repeat' ((conv => whnf); first
            | refine Exists.intro ((q : Int)) (And.intro (hq) ?_) | refine And.intro (cells_map (fun _ => rfl)) ?_ | refine Exists.intro _ (And.intro (⟨(List.length_map _).symm⟩) ?_) | refine Exists.intro _ (And.intro (⟨map_slice⟩) ?_) | refine Exists.intro _ (Exists.intro _ (And.intro (⟨Eq.refl (α := Int) _⟩) (And.intro (⟨Eq.refl (α := Int) _⟩) (And.intro (by omega) (And.intro (by omega) ?_))))) | refine Exists.intro _ (And.intro (w64 (by omega) (by omega)) ?_) | refine boolF_dect (by omega) ?_)
          all_goals (conv => whnf)
          refine Pure.call h22 ?_
          repeat' ((conv => whnf); first
            | refine And.intro (by decide) ?_ | refine And.intro rfl ?_ | refine And.intro (by omega) ?_ | refine And.intro (by simpa only [List.length_map, List.length_append, List.length_cons, List.length_nil] using rfl) ?_ | refine And.intro (okRows_one rfl rfl) ?_ | refine Exists.intro _ (And.intro (⟨len_one⟩) ?_) | refine Exists.intro _ (And.intro (⟨Eq.refl (α := List D) _⟩) ?_) | refine Exists.intro _ (And.intro (w64 (by omega) (by omega)) ?_))
          all_goals (conv => whnf)
          refine ⟨(p + 64, ver + 1), Ghost.hold [0, 1, 5, 6, 7] ?_, ⟨by dsimp only; omega, by dsimp only; omega, fun g' _ => ⟨shortS t b p, writeO p ((v.drop p).take (q - p)), ?_, ?_⟩⟩, by dsimp only; omega⟩
          · dsimp only
            rw [← hq', hs, List.length_append, List.map_append]; rfl
          · have g' : p + 64 < k := g'
            rw [show p + 64 = q by omega]; exact hs
          · have g' : p + 64 < k := g'
            show 64 ≤ ((v.drop p).take (q - p)).length
            rw [List.length_take, List.length_drop]; omega
        · rw [Nat.min_eq_right g]
          repeat' ((conv => whnf); first
            | refine boolF_decf (by omega) ?_)
          all_goals (conv => whnf)
          exact ⟨(k, ver), Ghost.hold [0, 1, 5, 6] rfl, ⟨k2, hnk⟩, by dsimp only; omega⟩
  · refine exec_ok tab_ok mixed 1000 (bx := [false]) (own := []) ?_
    obtain rfl : i = v.length := by omega
    repeat' ((conv => whnf); first
      | refine Exists.intro _ (And.intro (⟨(List.length_map _).symm⟩) ?_) | refine boolF_decf (by omega) ?_)
    all_goals (conv => whnf)
    exact ⟨ver, Ghost.hold [0] (by rw [List.length_map]; rfl)⟩

end Go.Proofs.Ytlghefbapiocgaa.V


namespace Go.Proofs.Ytlghefbapiocgaa.V
open Go.A
set_option linter.unusedVariables false
set_option linter.unusedSimpArgs false
set_option linter.unnecessarySimpa false
attribute [local irreducible] IntKind.wrap bitsI
set_option maxRecDepth 100000
set_option maxHeartbeats 4000000

def rB (b : Bool) : D := .bool b
def dB (l : List Bool) : D := .sl (l.map rB)
theorem scrB (k : Nat) (l : List Bool) : scs k (l.map rB) := by rw [scs_map]; intro x _; simp [rB, D.sc]
def atB (l : List Bool) (j : Nat) : Bool := (l[j]?).getD false
theorem atB_get {l : List Bool} {j : Nat} (h : j < l.length) : l[j]? = some (atB l j) := by
  rw [atB, List.getElem?_eq_getElem h]; rfl

theorem f48_ok (T : List Bool) (j : Nat) (hj : j < T.length) : Pure Try.prog 48 [.int .i64 (j : Int), .pe [dB T]] (.bool (atB T j)) := by
  have hx := atB_get hj
  refine Pure.of ⟨trivial, ⟨scrB _ _, trivial⟩, trivial⟩ trivial ?_
  refine Go.A.CallsIn.of_exec tab_ok mixed Try.func48 rfl rfl [] [] ?_
  repeat' ((conv => whnf); first
    | refine Exists.intro _ (And.intro (map_at (by omega) hx) ?_) | refine And.intro rfl ?_ | refine And.intro (by omega) ?_)
  all_goals (conv => whnf)
  exact ⟨rfl⟩

def diffT (a b : List Nat) (j : Nat) : Bool := at0 a j != at0 b j
def ownO (p : List Op × Int) (o ver : Nat) : D := .tup [.h o ver 0 p.1.length, .int .i64 p.2]
def OwnO (f : FuncId) (args : List D) (p : List Op × Int) : Prop := OwnedR Try.prog f args (ownO p) 4 (p.1.map r73)
theorem ownO_res (p : List Op × Int) : ∀ (ρ : Nat → Nat) ver, ren ρ (ownO p 0 ver) = ownO p (ρ 0) ver := fun _ _ => rfl
theorem ownO_err (e : Int) (H : List AObj) : ∃ ver, Ghost 0 [.tup [.nils, .int .i64 e]] H [ownO ([], e) 0 ver] [.arr ver 4 (([] : List Op).map r73)] := by
  refine ⟨0, (Ghost.matD (sz := 4) (s' := [.tup [.h H.length 0 0 0, .int .i64 e]]) (.cons (.tup (.cons .nil (.cons .refl .nil))) .nil)).trans ?_⟩
  refine Ghost.pick [H.length] (by simp) rfl (fun i o ob' h1 h2 => ?_) rfl ⟨⟨Nat.zero_lt_one, trivial, trivial⟩, trivial⟩ (fun ob hob => by simp at hob; subst hob; trivial)
  cases i with
  | zero => simp at h1 h2; subst h1 h2; simp [renO, renL]
  | succ i => simp at h1
theorem ownO_ok (e : Int) (l : List Op) (k w n : Nat) (H : List AObj) (hn : n = l.length) (hk : H[k]? = some (.arr w 4 (l.map r73))) : ∃ ver, Ghost 0 [.tup [.h k w 0 n, .int .i64 e]] H [ownO (l, e) 0 ver] [.arr ver 4 (l.map r73)] := by
  subst hn
  refine ⟨w, Ghost.pick [k] (by simp) rfl (fun i o ob' h1 h2 => ?_) rfl ⟨⟨Nat.zero_lt_one, trivial, trivial⟩, trivial⟩ (fun ob hob => by simp at hob; subst hob; exact scr73 _ _)⟩
  cases i with
  | zero => simp at h1 h2; subst h1 h2; simp only [renO]; rw [renL_sc0 _ _ (scr73 _ _)]; exact hk
  | succ i => simp at h1
theorem OwnO.pure {f : FuncId} {args : List D} {p : List Op × Int} (h : OwnO f args p) : Pure Try.prog f args (.tup [d39 p.1, .int .i64 p.2]) :=
  OwnedR.pure h ⟨scd39 _ _, trivial, trivial⟩ (fun ver => .tup (.cons (.h (all_take rfl)) (.cons (.refl _) .nil)))

def diffM (a b : List Nat) : List Op × Int := if 1024 < a.length ∨ 1024 < b.length then ([], 6) else if a.length ≠ b.length then ([], 1) else (shortS (diffT a b) (at0 b) b.length, 0)

def tch (ops : List Op) (j : Nat) : Bool := (vals ops j).isSome
def zer (n : Nat) : List Nat := List.replicate n 0
def squashM (n : Int) (ops : List Op) : List Op × Int := if n < 0 ∨ 1024 < n then ([], 1) else if allOk n ops then (shortS (tch ops) (at0 (applyL (zer n.toNat) ops)) n.toNat, 0) else ([], 1)

theorem atB_set (T : List Bool) (k j : Nat) (hk : k < T.length) : atB (T.set k true) j = if j = k then true else atB T j := by
  simp only [atB]
  by_cases h : j = k
  · subst h; rw [List.getElem?_set_self hk, if_pos rfl]; rfl
  · rw [List.getElem?_set_ne (Ne.symm h), if_neg h]
theorem tch_snoc {n : Int} {ops : List Op} {i : Nat} {o : Op} (h : ops[i]? = some o) (ho : okOp n o) (j : Nat) : tch (ops.take (i + 1)) j = (tch (ops.take i) j || decide (o.off_.toNat ≤ j ∧ j < o.off_.toNat + (dat o).length)) := by
  rw [take_snoc h, tch, vals_snoc, val]
  by_cases hr : o.off_.toNat ≤ j ∧ j < o.off_.toNat + (dat o).length
  · rw [if_pos hr]; simp [hr]
  · rw [if_neg hr, decide_eq_false hr, Bool.or_false]; rfl

theorem f31_own (n : Int) (ops : List Op) (hn : ops.length ≤ 140737488351232) (ho : bigD ops) : OwnO 31 [.int .i64 n, d39 ops] (squashM n ops) := by
  refine OwnedR.of ⟨trivial, scd39 _ _, trivial⟩ (scr73 _ _) (ownO_res _) ?_
  refine Go.A.CallsIn.of_exec tab_ok mixed Try.func31 rfl rfl [] [] ?_
  by_cases h1 : n < 0 ∨ 1024 < n
  · rw [squashM, if_pos h1]
    repeat' ((conv => whnf); first
      | refine boolF_dect (by omega) ?_ | refine boolF_dec (fun _ => ?_) (fun _ => ?_))
    all_goals (conv => whnf)
    all_goals exact ⟨ownO_err 1 _⟩
  · rw [squashM, if_neg h1]
    obtain ⟨m, rfl⟩ := Int.eq_ofNat_of_zero_le (a := n) (by omega)
    have hzl : (zer m).length = m := List.length_replicate
    have hzm : List.replicate m (D.int .u64 0) = (zer m).map r51 := by rw [zer, List.map_replicate]; rfl
    have w9 := f45_own (zer m) ops (by omega) hn ho
    repeat' ((conv => whnf); first
      | refine And.intro (show ((8 : Nat) : Int) * (m : Int) ≤ 281474976710656 by omega) ?_ | refine And.intro rfl ?_ | refine And.intro (by omega) ?_ | refine boolF_decf (by omega) ?_)
    all_goals (conv => whnf)
    refine OwnedR.seeK w9 [(0, .arr 0 1 ((zer m).map r51))] (fact1 (by rw [← hzm]; rfl)) (.cons (.h List.mem_cons_self (.all (scr51 _ _)) (all_take hzl.symm)) (.cons (.same (scd39 _ _)) .nil)) (bares_map fun x => trivial) (fun ver => ⟨trivial, trivial, trivial⟩) (fun v1 => ?_)
    have hae : applyM (zer m) ops = if allOk m ops then (applyL (zer m) ops, 0) else ([], 1) := by
      rw [applyM, if_neg (by omega), hzl]
    rw [hae]
    by_cases hok : allOk m ops
    · rw [if_pos hok, if_pos hok]
      have hzl2 := (apply_at (v := zer m) (ops := ops) (by rw [hzl]; exact hok)).1
      rw [hzl] at hzl2
      rw [Int.toNat_natCast]
      generalize applyL (zer m) ops = z at hzl2 ⊢
      repeat' ((conv => whnf); first
        | refine And.intro (show ((1 : Nat) : Int) * (m : Int) ≤ 281474976710656 by omega) ?_ | refine And.intro (by decide) ?_ | refine And.intro rfl ?_ | refine And.intro (by omega) ?_ | refine Exists.intro _ (And.intro (⟨(List.length_map _).symm⟩) ?_))
      all_goals (conv => whnf)
      refine W_loopG (ι := Nat × List Bool) (fun i => ⟨(D.undef :: D.undef :: D.undef :: D.undef :: D.undef :: D.undef :: .h 1 v1 0 z.length :: D.undef :: .p 3 0 0 0 :: D.undef :: D.undef :: D.undef :: D.undef :: D.undef :: D.undef :: D.undef :: D.undef :: D.undef :: D.undef :: D.undef :: D.undef :: D.undef :: D.undef :: D.undef :: D.undef :: D.undef :: D.undef :: D.undef :: D.undef :: D.undef :: D.undef :: D.undef :: d39 ops :: .int .i64 (ops.length : Int) :: .int .i64 (i.1:Int) :: D.undef :: D.undef :: D.undef :: D.undef :: D.undef :: D.undef :: D.undef :: D.undef :: D.undef :: D.undef :: D.undef :: D.undef :: D.undef :: D.undef :: D.undef :: D.undef :: D.undef :: D.undef :: D.undef :: D.undef :: D.undef :: D.undef :: []), [.arr 0 1 ((zer m).map r51), .arr v1 1 (z.map r51), .arr 0 1 (i.2.map rB), .arr 0 1 [.h 2 0 0 m]]⟩) (fun i => ops.length - i.1)
        (fun i => i.1 ≤ ops.length ∧ i.2.length = m ∧ ∀ j, j < m → atB i.2 j = tch (ops.take i.1) j) (0, List.replicate m false) (Ghost.hold [6, 8, 32, 33, 34] (by dsimp only; rw [← hzm, List.map_replicate]; rfl)) ⟨Nat.zero_le _, List.length_replicate, fun j hj => by simp [atB, tch, vals, hj]⟩ ?_
      rintro ⟨i, T⟩ ⟨i1, i2, i3⟩
      dsimp only at i1 i2 i3 ⊢
      rcases Nat.lt_or_ge i ops.length with h | h
      · obtain ⟨x, hx⟩ := at_lt h
        have hxo := hok x (List.mem_of_getElem? hx)
        have h24 := f46_ok x (ho x (List.mem_of_getElem? hx))
        obtain ⟨d1, d2, d3', d4⟩ := dat_len hxo
        obtain ⟨a, ha⟩ := Int.eq_ofNat_of_zero_le hxo.2.2.1
        obtain ⟨c, hc⟩ : ∃ c, c = (dat x).length := ⟨_, rfl⟩
        have hsn := tch_snoc hx hxo
        rw [← hc] at d1 d4 hsn
        have hr : rng x = ((a : Int), (c : Int)) := Prod.ext (d2.trans ha) d1.symm
        rw [rngD, hr] at h24
        rw [ha] at d4 hsn
        rw [Int.toNat_natCast] at hsn
        refine exec_ok tab_ok mixed 1000 (bx := [false, false, false, true]) (own := []) ?_
        repeat' ((conv => whnf); first
          | refine Exists.intro _ (And.intro (map_at (by omega) hx) ?_) | refine And.intro (by decide) ?_ | refine And.intro rfl ?_ | refine And.intro (by omega) ?_ | refine boolF_dect (by omega) ?_)
        all_goals (conv => whnf)
        refine Pure.call h24 ?_
        (conv => whnf)
        refine W_loopG (ι := Nat × List Bool) (fun e => ⟨(D.undef :: D.undef :: D.undef :: D.undef :: D.undef :: D.undef :: .h 1 v1 0 z.length :: D.undef :: .p 3 0 0 0 :: D.undef :: D.undef :: .int .i64 (a : Int) :: D.undef :: D.undef :: D.undef :: D.undef :: D.undef :: D.undef :: D.undef :: D.undef :: D.undef :: D.undef :: D.undef :: D.undef :: D.undef :: D.undef :: D.undef :: D.undef :: D.undef :: D.undef :: D.undef :: D.undef :: d39 ops :: .int .i64 (ops.length : Int) :: .int .i64 (i:Int) :: D.undef :: D.undef :: D.undef :: D.undef :: D.undef :: D.undef :: D.undef :: D.undef :: .int .i64 (c : Int) :: .int .i64 (e.1 : Int) :: D.undef :: D.undef :: D.undef :: D.undef :: D.undef :: D.undef :: D.undef :: D.undef :: D.undef :: D.undef :: D.undef :: D.undef :: []), [.arr 0 1 ((zer m).map r51), .arr v1 1 (z.map r51), .arr 0 1 (e.2.map rB), .arr 0 1 [.h 2 0 0 m], .arr 0 4 [r73 x]]⟩) (fun e => c - e.1)
          (fun e => e.1 ≤ c ∧ e.2.length = m ∧ ∀ j, j < m → atB e.2 j = (atB T j || decide (a ≤ j ∧ j < a + e.1))) (0, T) (Ghost.hold [6, 8, 11, 32, 33, 34, 43, 44] rfl) ⟨Nat.zero_le _, i2, fun j hj => by rw [decide_eq_false (by dsimp only; omega), Bool.or_false]⟩ ?_
        rintro ⟨e, T'⟩ ⟨e1, e2, e3⟩
        dsimp only at e1 e2 e3 ⊢
        refine exec_ok tab_ok mixed 1000 (bx := [false, false, false, true, true]) (own := []) ?_
        rcases Nat.lt_or_ge e c with g | g
        · obtain ⟨w, hz⟩ := at_lt (l := T') (i := a + e) (by omega)
          repeat' ((conv => whnf); first
            | refine Exists.intro _ (And.intro (map_at (by omega) hz) ?_) | refine And.intro (by decide) ?_ | refine And.intro (by omega) ?_ | refine And.intro (by simp only [List.length_map, List.length_append, List.length_cons, List.length_nil]; omega) ?_ | refine Exists.intro _ (And.intro (w64 (by omega) (by omega)) ?_) | refine boolF_dect (by omega) ?_)
          all_goals (conv => whnf)
          refine ⟨(e + 1, T'.set (a + e) true), Ghost.hold [6, 8, 11, 32, 33, 34, 43, 44] ?_, ⟨g, by rw [List.length_set]; exact e2, fun j hj => ?_⟩, by dsimp only; omega⟩
          · have er : ∀ (bb : Bool) (l : List D) (d : D), setRow bb l (0 + ((a : Int) + (e : Int)).toNat) d = l.set (a + e) d := fun bb l d => by rw [setRow_eq]; congr 1; omega
            have em : (T'.map rB).set (a + e) (.bool true) = (T'.set (a + e) true).map rB := by rw [List.map_set]; rfl
            dsimp only
            rw [← em, ← er false]; rfl
          · dsimp only
            rw [atB_set _ _ _ (by omega), e3 j hj]
            by_cases hj2 : j = a + e
            · rw [if_pos hj2, decide_eq_true (p := a ≤ j ∧ j < a + (e + 1)) (by omega), Bool.or_true]
            · rw [if_neg hj2]
              congr 1
              exact decide_eq_decide.mpr (by omega)
        · repeat' ((conv => whnf); first
            | refine Exists.intro _ (And.intro (w64 (by omega) (by omega)) ?_) | refine boolF_decf (by omega) ?_)
          all_goals (conv => whnf)
          refine ⟨(i + 1, T'), Ghost.back [6, 8, 32, 33, 34] 4 rfl rfl (Nat.zero_le _) (by simp [scs, D.sc, scd39]) ?_, ⟨h, e2, fun j hj => ?_⟩, by dsimp only; omega⟩
          · intro ob hob
            simp only [List.mem_cons, List.not_mem_nil, or_false] at hob
            rcases hob with rfl | rfl | rfl | rfl
            · exact scr51 _ _
            · exact scr51 _ _
            · exact scrB _ _
            · exact ⟨by simp [D.sc], trivial⟩
          · dsimp only
            rw [e3 j hj, i3 j hj, hsn]
            congr 1
            exact decide_eq_decide.mpr (by omega)
      · have e : ops.take i = ops := List.take_of_length_le h
        rw [e] at i3
        have hT := shortS_congr (t := tch ops) (t' := atB T) (b := at0 z) (b' := at0 z) (n := m) (fun j hj => ⟨(i3 j hj).symm, rfl⟩)
        rw [hT]
        have h25 := f47_ok z 48 [.pe [dB T]] (atB T) (by omega) ⟨⟨scrB _ _, trivial⟩, trivial⟩ (fun j hj => f48_ok T j (by omega))
        rw [hzl2] at h25
        refine W_ghost (s' := (D.undef :: D.undef :: D.undef :: D.undef :: D.undef :: D.undef :: d23 z :: D.undef :: .pe [dB T] :: D.undef :: D.undef :: D.undef :: D.undef :: D.undef :: D.undef :: D.undef :: D.undef :: D.undef :: D.undef :: D.undef :: D.undef :: D.undef :: D.undef :: D.undef :: D.undef :: D.undef :: D.undef :: D.undef :: D.undef :: D.undef :: D.undef :: D.undef :: d39 ops :: .int .i64 (ops.length : Int) :: .int .i64 (i:Int) :: D.undef :: D.undef :: D.undef :: D.undef :: D.undef :: D.undef :: D.undef :: D.undef :: D.undef :: D.undef :: D.undef :: D.undef :: D.undef :: D.undef :: D.undef :: D.undef :: D.undef :: D.undef :: D.undef :: D.undef :: D.undef :: D.undef :: [])) (H' := [.arr 0 1 ((zer m).map r51), .gone, .gone, .gone]) ?_ ?_
        · refine Ghost.fz [(1, .arr v1 1 (z.map r51)), (2, .arr 0 1 (T.map rB)), (3, .arr 0 1 [.h 2 0 0 m])] [] ?_ (by simp) ?_ (fun x hx => by cases hx) (by simp)
          · intro y hy
            simp only [List.mem_cons, List.not_mem_nil, or_false] at hy
            rcases hy with rfl | rfl | rfl
            · exact ⟨Nat.zero_le _, rfl, _, _, _, rfl⟩
            · exact ⟨Nat.zero_le _, rfl, _, _, _, rfl⟩
            · exact ⟨Nat.zero_le _, rfl, _, _, _, rfl⟩
          · repeat (first | exact Fzs.nil | refine Fzs.cons .refl ?_ | refine Fzs.cons (.h mem0 .all (all_take rfl)) ?_ | refine Fzs.cons (.p (i := 0) (j := 0) (rows' := [dB T]) mem2 (.cons (.cons (.h mem1 .all (all_take i2.symm)) .nil) .nil) rfl rfl) ?_)
        refine exec_ok tab_ok mixed 1000 (bx := [false, false, false, false]) (own := []) ?_
        repeat' ((conv => whnf); first
          | refine boolF_decf (by omega) ?_)
        all_goals (conv => whnf)
        refine Owned.callN h25 _ (by rw [List.length_map]) (fun v4 => ?_)
        (conv => whnf)
        exact ⟨ownO_ok 0 _ 4 v4 _ _ rfl rfl⟩
    · rw [if_neg hok, if_neg hok]
      (conv => whnf)
      exact ⟨ownO_err 1 _⟩

end Go.Proofs.Ytlghefbapiocgaa.V

