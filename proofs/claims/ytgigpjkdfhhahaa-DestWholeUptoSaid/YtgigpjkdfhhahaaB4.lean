import Derived.Test.YtgigpjkdfhhahaaR
import Derived.Test.YtgigpjkdfhhahaaA37
-- merged
namespace Go.Proofs.Ytgigpjkdfhhahaa.B
open Go.A
set_option linter.unusedVariables false
set_option linter.unusedSimpArgs false
set_option linter.unnecessarySimpa false
attribute [local irreducible] IntKind.wrap bitsI
set_option maxRecDepth 100000

abbrev Op := T90
def at0 (l : List Nat) (j : Nat) : Nat := (l[j]?).getD 0
theorem at0_get {l : List Nat} {j : Nat} (h : j < l.length) : l[j]? = some (at0 l j) := by
  rw [at0, List.getElem?_eq_getElem h]; rfl
theorem at0_ext {a b : List Nat} (hl : a.length = b.length) (h : ∀ j, j < a.length → at0 a j = at0 b j) : a = b := by
  refine List.ext_getElem? fun j => ?_
  rcases Nat.lt_or_ge j a.length with g | g
  · rw [at0_get g, at0_get (by omega), h j g]
  · rw [List.getElem?_eq_none g, List.getElem?_eq_none (by omega)]
def rng (o : Op) : Int × Int := if o.kind_ = 1 then (o.off_, (o.data_.length : Int)) else if o.kind_ = 2 then (o.off_, o.len_) else (0, 0)
def okOp (n : Int) (o : Op) : Prop := 0 ≤ n ∧ n ≤ 1024 ∧ 0 ≤ o.off_ ∧ ((o.kind_ = 1 ∧ o.len_ = 0 ∧ 1 ≤ o.data_.length ∧ o.data_.length ≤ 64 ∧ o.off_ + (o.data_.length : Int) ≤ n) ∨ (o.kind_ = 2 ∧ o.data_.length = 0 ∧ 1 ≤ o.len_ ∧ o.off_ + o.len_ ≤ n))
instance (n : Int) (o : Op) : Decidable (okOp n o) := inferInstanceAs (Decidable (_ ∧ _ ∧ _ ∧ ((_ ∧ _ ∧ _ ∧ _ ∧ _) ∨ (_ ∧ _ ∧ _ ∧ _))))
def dat (o : Op) : List Nat := if o.kind_ = 2 then List.replicate o.len_.toNat 0 else o.data_
def doO (v : List Nat) (o : Op) : List Nat := spliceL v o.off_.toNat (dat o)
def applyL (v : List Nat) (ops : List Op) : List Nat := ops.foldl doO v
def allOk (n : Int) (ops : List Op) : Prop := ∀ o ∈ ops, okOp n o
instance (n : Int) (ops : List Op) : Decidable (allOk n ops) := inferInstanceAs (Decidable (∀ o ∈ ops, okOp n o))
def applyM (v : List Nat) (ops : List Op) : List Nat × Int := if 1024 < v.length then ([], 6) else if allOk v.length ops then (applyL v ops, 0) else ([], 1)

/-- What an op makes of a block. -/
def val (o : Op) (j : Nat) : Option Nat := if o.off_.toNat ≤ j ∧ j < o.off_.toNat + (dat o).length then some (at0 (dat o) (j - o.off_.toNat)) else none
def vals : List Op → Nat → Option Nat
  | [], _ => none
  | o :: l, j => match vals l j with | some x => some x | none => val o j
theorem vals_append (l m : List Op) (j : Nat) : vals (l ++ m) j = (match vals m j with | some x => some x | none => vals l j) := by
  induction l with
  | nil => simp [vals]; cases vals m j <;> rfl
  | cons o l ih =>
    rw [List.cons_append, vals, ih]
    cases vals m j <;> rfl
theorem vals_snoc (l : List Op) (o : Op) (j : Nat) : vals (l ++ [o]) j = (match val o j with | some x => some x | none => vals l j) := by
  rw [vals_append]; rfl

theorem dat_len {n : Int} {o : Op} (h : okOp n o) : ((dat o).length : Int) = (rng o).2 ∧ (rng o).1 = o.off_ ∧ 1 ≤ (dat o).length ∧ o.off_ + ((dat o).length : Int) ≤ n := by
  obtain ⟨h1, h2, h3, h | h⟩ := h
  · obtain ⟨k1, k2, k3, k4, k5⟩ := h
    simp only [dat, rng, k1]
    simp; omega
  · obtain ⟨k1, k2, k3, k4⟩ := h
    simp only [dat, rng, k1]
    simp; omega

theorem splice_at {l xs : List Nat} {off k : Nat} (h : off + xs.length ≤ l.length) : (spliceL l off xs).length = l.length ∧ at0 (spliceL l off xs) k = if off ≤ k ∧ k < off + xs.length then at0 xs (k - off) else at0 l k := by
  refine ⟨spliceL_length l off xs h, ?_⟩
  have e : (l.take off).length = off := by rw [List.length_take]; omega
  simp only [at0, spliceL]
  by_cases h1 : k < off
  · rw [if_neg (by omega), List.append_assoc, List.getElem?_append_left (by omega), List.getElem?_take_of_lt h1]
  · by_cases h2 : k < off + xs.length
    · rw [if_pos (by omega), List.append_assoc, List.getElem?_append_right (by omega), e, List.getElem?_append_left (by omega)]
    · rw [if_neg (by omega), List.getElem?_append_right (by simp; omega), List.getElem?_drop]
      congr 2
      simp; omega

theorem do_at {v : List Nat} {o : Op} (h : okOp v.length o) : (doO v o).length = v.length ∧ ∀ j, at0 (doO v o) j = (val o j).getD (at0 v j) := by
  obtain ⟨_, _, h3, h4⟩ := dat_len h
  have h0 := h.2.2.1
  have hs := fun k => splice_at (l := v) (xs := dat o) (off := o.off_.toNat) (k := k) (by omega)
  refine ⟨(hs 0).1, fun j => ?_⟩
  rw [doO, (hs j).2, val]
  split <;> rfl

theorem apply_at : ∀ {ops : List Op} {v : List Nat}, allOk v.length ops → (applyL v ops).length = v.length ∧ ∀ j, at0 (applyL v ops) j = (vals ops j).getD (at0 v j)
  | [], v, _ => ⟨rfl, fun _ => rfl⟩
  | o :: ops, v, h => by
    obtain ⟨h1, h2⟩ := do_at (h o List.mem_cons_self)
    obtain ⟨h3, h4⟩ := apply_at (ops := ops) (v := doO v o) (by rw [h1]; exact fun x hx => h x (List.mem_cons_of_mem _ hx))
    refine ⟨h3.trans h1, fun j => ?_⟩
    show at0 (applyL (doO v o) ops) j = _
    rw [h4, h2, vals]
    cases vals ops j <;> rfl

theorem val_lt {n : Int} {o : Op} (h : okOp n o) {j : Nat} (hj : n ≤ j) : val o j = none := by
  obtain ⟨_, _, h3, h4⟩ := dat_len h
  have := h.2.2.1
  rw [val, if_neg (by omega)]
theorem vals_lt {n : Int} : ∀ {ops : List Op}, allOk n ops → ∀ {j : Nat}, n ≤ j → vals ops j = none
  | [], _, _, _ => rfl
  | o :: ops, h, j, hj => by
    rw [vals, vals_lt (ops := ops) (fun x hx => h x (List.mem_cons_of_mem _ hx)) hj]
    exact val_lt (h o List.mem_cons_self) hj

/- Told shortly. -/
def near (t : Nat → Bool) (b : Nat → Nat) (i : Nat) : Prop := 0 < i ∧ t (i - 1) = true ∧ (b (i - 1) = 0 ↔ b i = 0)
instance (t : Nat → Bool) (b : Nat → Nat) (i : Nat) : Decidable (near t b i) := inferInstanceAs (Decidable (_ ∧ _ ∧ (_ ↔ _)))
def trimO (i k : Int) : Op := ⟨2, i, k, []⟩
def writeO (i : Int) (d : List Nat) : Op := ⟨1, i, 0, d⟩
def stepS (t : Nat → Bool) (b : Nat → Nat) (out : List Op) (i : Nat) : List Op :=
  if t i = false then out else
  match out[out.length - 1]? with
  | none => if b i = 0 then out ++ [trimO i 1] else out ++ [writeO i [b i]]
  | some l =>
    if near t b i ∧ b i = 0 then out.set (out.length - 1) ⟨l.kind_, l.off_, l.len_ + 1, l.data_⟩
    else if b i = 0 then out ++ [trimO i 1]
    else if near t b i ∧ l.data_.length < 64 then out.set (out.length - 1) ⟨l.kind_, l.off_, l.len_, l.data_ ++ [b i]⟩
    else out ++ [writeO i [b i]]
def shortS (t : Nat → Bool) (b : Nat → Nat) : Nat → List Op
  | 0 => []
  | i + 1 => stepS t b (shortS t b i) i

theorem snoc_of {α : Type} {l : List α} {y : α} (h : l[l.length - 1]? = some y) : ∃ k, l = k ++ [y] := by
  obtain ⟨h1, h2⟩ := List.getElem?_eq_some_iff.mp h
  refine ⟨l.take (l.length - 1), ?_⟩
  have e := take_snoc h
  rw [show l.length - 1 + 1 = l.length by omega, List.take_length] at e
  exact e
theorem set_last {α : Type} (k : List α) (y z : α) : (k ++ [y]).set ((k ++ [y]).length - 1) z = k ++ [z] := by
  rw [List.length_append, List.length_singleton, Nat.add_sub_cancel, List.set_append_right _ _ (Nat.le_refl _), Nat.sub_self]; rfl

/-- Ops in order, none meeting another. -/
def ordO (a : Int) : List Op → Prop
  | [] => True
  | o :: l => a ≤ o.off_ ∧ ordO (o.off_ + ((dat o).length : Int)) l
theorem ordO_snoc {c : Int} : ∀ {k : List Op} {a : Int} {y : Op}, ordO a k → (∀ o ∈ k, o.off_ + ((dat o).length : Int) ≤ c) → a ≤ c → c ≤ y.off_ → ordO a (k ++ [y])
  | [], a, y, _, _, h1, h2 => ⟨by omega, trivial⟩
  | x :: k, a, y, h, he, h1, h2 => ⟨h.1, ordO_snoc h.2 (fun o ho => he o (List.mem_cons_of_mem _ ho)) (he x List.mem_cons_self) h2⟩
theorem ordO_of {a : Int} : ∀ {k : List Op} {y : Op}, ordO a (k ++ [y]) → ordO a k
  | [], _, _ => trivial
  | _ :: _, _, h => ⟨h.1, ordO_of h.2⟩
theorem ordO_last {a : Int} : ∀ {k : List Op} {y z : Op}, ordO a (k ++ [y]) → y.off_ = z.off_ → ordO a (k ++ [z])
  | [], _, _, h, e => ⟨e ▸ h.1, trivial⟩
  | _ :: _, _, _, h, e => ⟨h.1, ordO_last h.2 e⟩

structure InvS (t : Nat → Bool) (b : Nat → Nat) (i : Nat) (out : List Op) : Prop where
  ok : allOk i out
  ord : ordO 0 out
  vals : ∀ j, vals out j = if j < i ∧ t j = true then some (b j) else none
  last : 0 < i → t (i - 1) = true → ∃ k l, out = k ++ [l] ∧ l.off_ + ((dat l).length : Int) = i ∧ (b (i - 1) = 0 → l.kind_ = 2) ∧ (b (i - 1) ≠ 0 → l.kind_ = 1)

theorem okOp_mono {n m : Int} {o : Op} (h : okOp n o) (h1 : n ≤ m) (h2 : m ≤ 1024) : okOp m o := by
  simp only [okOp] at h ⊢; omega

theorem at0_snoc (l : List Nat) (x : Nat) (j : Nat) : at0 (l ++ [x]) j = if j = l.length then x else at0 l j := by
  simp only [at0]
  rcases Nat.lt_trichotomy j l.length with h | h | h
  · rw [List.getElem?_append_left h, if_neg (by omega)]
  · subst h; simp
  · rw [if_neg (by omega), List.getElem?_eq_none (by simp; omega), List.getElem?_eq_none (by omega)]

theorem invS_new {t : Nat → Bool} {b : Nat → Nat} {i : Nat} {out : List Op} (h : InvS t b i out) (hi : i < 1024) (ht : t i = true) {o : Op} (ho : o = if b i = 0 then trimO i 1 else writeO i [b i]) : InvS t b (i + 1) (out ++ [o]) := by
  have hd : dat o = [b i] ∧ o.off_ = (i : Int) ∧ (b i = 0 → o.kind_ = 2) ∧ (b i ≠ 0 → o.kind_ = 1) ∧ okOp ((i : Int) + 1) o := by
    rw [ho]
    split
    · rename_i h0
      refine ⟨by simp [dat, trimO, h0], rfl, fun _ => rfl, fun h => absurd h0 h, ?_⟩
      exact ⟨by omega, by omega, by show (0 : Int) ≤ i; omega, .inr ⟨rfl, rfl, Int.le_refl _, Int.le_refl _⟩⟩
    · rename_i h0
      refine ⟨by simp [dat, writeO], rfl, fun h => absurd h h0, fun _ => rfl, ?_⟩
      exact ⟨by omega, by omega, by show (0 : Int) ≤ i; omega, .inl ⟨rfl, rfl, Nat.le_refl _, by show 1 ≤ 64; decide, Int.le_refl _⟩⟩
  obtain ⟨d1, d2, d3, d4, d5⟩ := hd
  refine ⟨fun x hx => ?_, ?_, fun j => ?_, fun _ _ => ⟨out, o, rfl, ?_, ?_, ?_⟩⟩
  · rcases List.mem_append.mp hx with hx | hx
    · exact okOp_mono (h.ok x hx) (by omega) (by omega)
    · simp only [List.mem_singleton] at hx; subst hx; exact d5
  · exact ordO_snoc (c := i) h.ord (fun x hx => (dat_len (h.ok x hx)).2.2.2) (by omega) (by omega)
  · rw [vals_snoc, h.vals, val, d1, d2]
    simp only [List.length_singleton]
    by_cases hj : j = i
    · subst hj
      have e : j - ((j : Int)).toNat = 0 := by omega
      rw [if_pos (show (j : Int).toNat ≤ j ∧ j < (j : Int).toNat + 1 by omega), e]
      show some (b j) = _
      rw [if_pos ⟨Nat.lt_succ_self j, ht⟩]
    · rw [if_neg (by omega)]
      dsimp only
      by_cases h1 : j < i
      · simp [h1, show j < i + 1 by omega]
      · rw [if_neg (by omega), if_neg (by omega)]
  · rw [d1, d2]; simp
  · exact d3
  · exact d4

theorem invS_more {t : Nat → Bool} {b : Nat → Nat} {i : Nat} {k : List Op} {l l' : Op} (h : InvS t b i (k ++ [l])) (hi : i < 1024) (ht : t i = true) (he : l.off_ + ((dat l).length : Int) = i)
    (hd : dat l' = dat l ++ [b i]) (ho : l'.off_ = l.off_) (hok : okOp ((i : Int) + 1) l') (h0 : b i = 0 → l'.kind_ = 2) (h1 : b i ≠ 0 → l'.kind_ = 1) : InvS t b (i + 1) (k ++ [l']) := by
  have hl := h.ok l (by simp)
  have hl0 := hl.2.2.1
  refine ⟨fun x hx => ?_, ?_, fun j => ?_, fun _ _ => ⟨k, l', rfl, ?_, h0, h1⟩⟩
  · rcases List.mem_append.mp hx with hx | hx
    · exact okOp_mono (h.ok x (List.mem_append_left _ hx)) (by omega) (by omega)
    · simp only [List.mem_singleton] at hx; subst hx; exact hok
  · exact ordO_last h.ord ho.symm
  · have hv := h.vals j
    rw [vals_snoc] at hv ⊢
    have e : val l' j = if j = i then some (b i) else val l j := by
      simp only [val, hd, ho, List.length_append, List.length_singleton, at0_snoc]
      by_cases hj : j = i
      · subst hj
        rw [if_pos (by omega), if_pos rfl, if_pos (by omega)]
      · rw [if_neg hj]
        by_cases hr : l.off_.toNat ≤ j ∧ j < l.off_.toNat + (dat l).length
        · rw [if_pos (by omega), if_pos hr, if_neg (by omega)]
        · rw [if_neg (by omega), if_neg hr]
    rw [e]
    by_cases hj : j = i
    · subst hj
      rw [if_pos rfl, if_pos ⟨by omega, ht⟩]
    · rw [if_neg hj, hv]
      by_cases h1 : j < i
      · simp [h1, show j < i + 1 by omega]
      · rw [if_neg (by omega), if_neg (by omega)]
  · rw [hd, ho, List.length_append, List.length_singleton]; omega

theorem invS_step {t : Nat → Bool} {b : Nat → Nat} {i : Nat} {out : List Op} (h : InvS t b i out) (hi : i < 1024) : InvS t b (i + 1) (stepS t b out i) := by
  unfold stepS
  split
  · rename_i ht
    refine ⟨fun x hx => okOp_mono (h.ok x hx) (by omega) (by omega), h.ord, fun j => ?_, fun _ h2 => ?_⟩
    · rw [h.vals]
      by_cases hj : j = i
      · subst hj; simp [ht]
      · by_cases h1 : j < i
        · simp [h1, show j < i + 1 by omega]
        · rw [if_neg (by omega), if_neg (by omega)]
    · rw [Nat.add_sub_cancel, ht] at h2; cases h2
  · rename_i ht
    have ht : t i = true := by simpa using ht
    split
    · split
      · rename_i h0; exact invS_new h hi ht (by rw [if_pos h0])
      · rename_i h0; exact invS_new h hi ht (by rw [if_neg h0])
    · rename_i l hl
      obtain ⟨k, rfl⟩ := snoc_of hl
      split
      · rename_i hc
        obtain ⟨hn, h0⟩ := hc
        obtain ⟨k', l', e, e1, e2, e3⟩ := h.last hn.1 hn.2.1
        obtain ⟨rfl, e⟩ := List.append_inj' e rfl
        obtain rfl : l = l' := by simpa using e
        have hk := e2 (hn.2.2.mpr h0)
        have hlo := h.ok l (by simp)
        rw [set_last]
        have hd : dat l = List.replicate l.len_.toNat 0 := by rw [dat, if_pos hk]
        have hd2 := e1
        rw [hd, List.length_replicate] at hd2
        simp only [okOp, hk] at hlo
        refine invS_more h hi ht e1 ?_ rfl ?_ (fun _ => hk) (fun h => absurd h0 h)
        · rw [hd, dat, if_pos (by exact hk)]
          show List.replicate (l.len_ + 1).toNat 0 = _
          rw [show (l.len_ + 1).toNat = l.len_.toNat + 1 by omega, List.replicate_succ', h0]
        · exact ⟨by omega, by omega, hlo.2.2.1, .inr ⟨hk, by show l.data_.length = 0; omega, by show 1 ≤ l.len_ + 1; omega, by show l.off_ + (l.len_ + 1) ≤ _; omega⟩⟩
      · split
        · rename_i h0; exact invS_new h hi ht (by rw [if_pos h0])
        · rename_i h0
          split
          · rename_i hc
            obtain ⟨hn, h64⟩ := hc
            obtain ⟨k', l', e, e1, e2, e3⟩ := h.last hn.1 hn.2.1
            obtain ⟨rfl, e⟩ := List.append_inj' e rfl
            obtain rfl : l = l' := by simpa using e
            have hk := e3 (fun h => h0 (hn.2.2.mp h))
            have hlo := h.ok l (by simp)
            rw [set_last]
            have hd : dat l = l.data_ := by rw [dat, if_neg (by omega)]
            rw [hd] at e1
            simp only [okOp, hk] at hlo
            refine invS_more h hi ht (by rw [hd]; exact e1) ?_ rfl ?_ (fun h => absurd h h0) (fun _ => hk)
            · rw [hd, dat, if_neg (by dsimp only; omega)]
            · have e2 : (l.data_ ++ [b i]).length = l.data_.length + 1 := by simp
              exact ⟨by omega, by omega, hlo.2.2.1, .inl ⟨hk, by show l.len_ = 0; omega, by show 1 ≤ (l.data_ ++ [b i]).length; omega, by show (l.data_ ++ [b i]).length ≤ 64; omega, by show l.off_ + ((l.data_ ++ [b i]).length : Int) ≤ _; omega⟩⟩
          · exact invS_new h hi ht (by rw [if_neg h0])

theorem shortS_ok (t : Nat → Bool) (b : Nat → Nat) : ∀ i, i ≤ 1024 → InvS t b i (shortS t b i)
  | 0, _ => ⟨fun x hx => (by cases hx), trivial, fun j => by simp [shortS, vals], fun h => absurd h (Nat.lt_irrefl _)⟩
  | i + 1, h => invS_step (shortS_ok t b i (by omega)) (by omega)

theorem shortS_congr {t t' : Nat → Bool} {b b' : Nat → Nat} : ∀ {n : Nat}, (∀ j, j < n → t j = t' j ∧ b j = b' j) → shortS t b n = shortS t' b' n
  | 0, _ => rfl
  | n + 1, h => by
    have ih := shortS_congr (n := n) fun j hj => h j (by omega)
    have hn := h n (by omega)
    rw [shortS, shortS, ih]
    have e : near t b n ↔ near t' b' n := by
      unfold near
      rcases Nat.eq_zero_or_pos n with h0 | h0
      · omega
      · have := h (n - 1) (by omega)
        rw [this.1, this.2, hn.2]
    unfold stepS
    rw [hn.1, hn.2]
    split
    · rfl
    · split
      · rfl
      · simp only [e]

/- A run of blocks, all nought, or none of them. -/
theorem short_zero {t : Nat → Bool} {b : Nat → Nat} {i : Nat} : ∀ {m : Nat}, i + (m + 1) ≤ 1024 → (∀ j, i ≤ j → j < i + (m + 1) → t j = true ∧ b j = 0) → ¬ near t b i → shortS t b (i + (m + 1)) = shortS t b i ++ [trimO i ((m + 1 : Nat) : Int)]
  | 0, h, hz, hn => by
    obtain ⟨h1, h2⟩ := hz i (by omega) (by omega)
    show stepS t b (shortS t b i) i = _
    unfold stepS
    rw [if_neg (by simp [h1])]
    split
    · rw [if_pos h2]; rfl
    · rw [if_neg (fun h => hn h.1), if_pos h2]; rfl
  | m + 1, h, hz, hn => by
    have ih := short_zero (m := m) (by omega) (fun j h1 h2 => hz j h1 (by omega)) hn
    obtain ⟨h1, h2⟩ := hz (i + (m + 1)) (by omega) (by omega)
    obtain ⟨h3, h4⟩ := hz (i + m) (by omega) (by omega)
    show stepS t b (shortS t b (i + (m + 1))) (i + (m + 1)) = _
    rw [ih]
    unfold stepS
    rw [if_neg (by simp [h1])]
    have e : (shortS t b i ++ [trimO i ((m + 1 : Nat) : Int)])[(shortS t b i ++ [trimO i ((m + 1 : Nat) : Int)]).length - 1]? = some (trimO i ((m + 1 : Nat) : Int)) := by simp
    rw [e]
    dsimp only
    rw [if_pos ⟨⟨by omega, by rw [show i + (m + 1) - 1 = i + m by omega]; exact h3, by rw [show i + (m + 1) - 1 = i + m by omega, h4, h2]⟩, h2⟩, set_last]
    rfl

def seg (b : Nat → Nat) (i : Nat) : Nat → List Nat
  | 0 => []
  | m + 1 => seg b i m ++ [b (i + m)]
theorem seg_len (b : Nat → Nat) (i : Nat) : ∀ m, (seg b i m).length = m
  | 0 => rfl
  | m + 1 => by rw [seg, List.length_append, seg_len b i m]; rfl
theorem seg_at {v : List Nat} {i : Nat} : ∀ {m : Nat}, i + m ≤ v.length → seg (at0 v) i m = (v.drop i).take m
  | 0, _ => by simp [seg]
  | m + 1, h => by
    have hg : (v.drop i)[m]? = some (at0 v (i + m)) := by rw [List.getElem?_drop]; exact at0_get (by omega)
    rw [seg, seg_at (m := m) (by omega), take_snoc hg]

theorem short_seg {t : Nat → Bool} {b : Nat → Nat} {i : Nat} : ∀ {m : Nat}, m < 64 → (∀ j, i ≤ j → j < i + (m + 1) → t j = true ∧ b j ≠ 0) → (near t b i → ∃ k l, shortS t b i = k ++ [l] ∧ 64 ≤ l.data_.length) → shortS t b (i + (m + 1)) = shortS t b i ++ [writeO i (seg b i (m + 1))]
  | 0, h, hz, hn => by
    obtain ⟨h1, h2⟩ := hz i (by omega) (by omega)
    show stepS t b (shortS t b i) i = _
    unfold stepS
    rw [if_neg (by simp [h1])]
    split
    · rw [if_neg h2]; rfl
    · rename_i l hl
      rw [if_neg (fun h => h2 h.2), if_neg h2, if_neg]
      · rfl
      · rintro ⟨g1, g2⟩
        obtain ⟨k, l', e, e2⟩ := hn g1
        rw [e] at hl
        obtain rfl : l' = l := by simpa using hl
        omega
  | m + 1, h, hz, hn => by
    have ih := short_seg (m := m) (by omega) (fun j h1 h2 => hz j h1 (by omega)) hn
    obtain ⟨h1, h2⟩ := hz (i + (m + 1)) (by omega) (by omega)
    obtain ⟨h3, h4⟩ := hz (i + m) (by omega) (by omega)
    show stepS t b (shortS t b (i + (m + 1))) (i + (m + 1)) = _
    rw [ih]
    unfold stepS
    rw [if_neg (by simp [h1])]
    have e : (shortS t b i ++ [writeO i (seg b i (m + 1))])[(shortS t b i ++ [writeO i (seg b i (m + 1))]).length - 1]? = some (writeO i (seg b i (m + 1))) := by simp
    rw [e]
    dsimp only
    have hlen := seg_len b i (m + 1)
    rw [if_neg (fun h => h2 h.2), if_neg h2, if_pos ⟨⟨by omega, by rw [show i + (m + 1) - 1 = i + m by omega]; exact h3, by rw [show i + (m + 1) - 1 = i + m by omega]; exact ⟨fun h => absurd h h4, fun h => absurd h h2⟩⟩, by show (seg b i (m + 1)).length < 64; omega⟩, set_last]
    rfl

end Go.Proofs.Ytgigpjkdfhhahaa.B


namespace Go.Proofs.Ytgigpjkdfhhahaa.B
open Go.A
set_option linter.unusedVariables false
set_option linter.unusedSimpArgs false
set_option linter.unnecessarySimpa false
attribute [local irreducible] IntKind.wrap bitsI
set_option maxRecDepth 100000
set_option maxHeartbeats 4000000

theorem scd35 (k : Nat) (l : List Nat) : (d35 l).sc k := by simp [d35, D.sc, scs_map]; intro x _; simp [r56, d56, D.sc]
theorem scr56 (k : Nat) (l : List Nat) : scs k (l.map r56) := by rw [scs_map]; intro x _; simp [r56, d56, D.sc]
theorem scd91 (k : Nat) (o : Op) : (d91 o).sc k := ⟨trivial, trivial, trivial, scd35 _ _, trivial⟩
theorem scc91 (k : Nat) (o : Op) : scs k (c91 o) := ⟨trivial, trivial, trivial, scd35 _ _, trivial⟩
theorem scr91 (k : Nat) (l : List Op) : scs k (l.map r91) := by rw [scs_map]; intro x _; exact scd91 k x
theorem scd37 (k : Nat) (l : List Op) : (d37 l).sc k := scr91 k l

def rngD (o : Op) : D := .tup [.int .i64 (rng o).1, .int .i64 (rng o).2]

theorem f75_ok (o : Op) (ho : o.data_.length ≤ 140737488351232) : Pure Try.prog 75 [d91 o] (rngD o) := by
  refine Pure.of ⟨scd91 _ _, trivial⟩ ⟨trivial, trivial, trivial⟩ ?_
  refine Go.A.CallsIn.of_exec tab_ok mixed Try.func75 rfl rfl [] [] ?_
  simp only [rngD, rng]
  by_cases h1 : o.kind_ = 1
  · rw [if_pos h1]
    repeat' ((conv => whnf); first
      | refine PairK.mk (by kernel_rfl) ?_ | refine Exists.intro _ (And.intro (⟨(List.length_map _).symm⟩) ?_) | refine boolF_dect (by assumption) ?_)
    all_goals (conv => whnf)
    exact ⟨rfl⟩
  · by_cases h2 : o.kind_ = 2
    · rw [if_neg h1, if_pos h2]
      repeat' ((conv => whnf); first
        | refine PairK.mk (by kernel_rfl) ?_ | refine boolF_dect (by assumption) ?_ | refine boolF_decf (by assumption) ?_)
      all_goals (conv => whnf)
      exact ⟨rfl⟩
    · rw [if_neg h1, if_neg h2]
      repeat' ((conv => whnf); first
        | refine boolF_decf (by assumption) ?_)
      all_goals (conv => whnf)
      exact ⟨rfl⟩

theorem f64_ok (o : Op) (ho : o.data_.length ≤ 140737488351232) : Pure Try.prog 64 [d91 o] (rngD o) := by
  refine Pure.of ⟨scd91 _ _, trivial⟩ ⟨trivial, trivial, trivial⟩ ?_
  refine Go.A.CallsIn.of_exec tab_ok mixed Try.func64 rfl rfl [] [] ?_
  simp only [rngD, rng]
  by_cases h1 : o.kind_ = 1
  · rw [if_pos h1]
    repeat' ((conv => whnf); first
      | refine PairK.mk (by kernel_rfl) ?_ | refine Exists.intro _ (And.intro (⟨(List.length_map _).symm⟩) ?_) | refine boolF_dect (by assumption) ?_)
    all_goals (conv => whnf)
    exact ⟨rfl⟩
  · by_cases h2 : o.kind_ = 2
    · rw [if_neg h1, if_pos h2]
      repeat' ((conv => whnf); first
        | refine PairK.mk (by kernel_rfl) ?_ | refine boolF_dect (by assumption) ?_ | refine boolF_decf (by assumption) ?_)
      all_goals (conv => whnf)
      exact ⟨rfl⟩
    · rw [if_neg h1, if_neg h2]
      repeat' ((conv => whnf); first
        | refine boolF_decf (by assumption) ?_)
      all_goals (conv => whnf)
      exact ⟨rfl⟩

theorem f70_ok (n off k : Int) (hn : 0 ≤ n ∧ n ≤ 1024) : Pure Try.prog 70 [.int .i64 n, .int .i64 off, .int .i64 k] (.bool (decide (0 ≤ off ∧ 0 ≤ k ∧ k ≤ n ∧ off ≤ n - k))) := by
  refine Pure.of ⟨trivial, trivial, trivial, trivial⟩ trivial ?_
  refine Go.A.CallsIn.of_exec tab_ok mixed Try.func70 rfl rfl [] [] ?_
  repeat' ((conv => whnf); first
    | refine Exists.intro _ (And.intro (w64 (by omega) (by omega)) ?_) | refine boolF_dec (fun _ => ?_) (fun _ => ?_))
  all_goals (conv => whnf)
  all_goals (first
    | exact ⟨rfl⟩
    | exact ⟨bool_t (by omega)⟩
    | exact ⟨bool_f (by omega)⟩
    | exact ⟨bool_iff (by omega)⟩
    | exact ⟨bool_beq (by omega)⟩
    | exact ⟨bool_bne (by omega)⟩
    | exact ⟨bool_not (by omega)⟩)

theorem f69_ok (n off k : Int) (hn : 0 ≤ n ∧ n ≤ 1024) : Pure Try.prog 69 [.int .i64 n, .int .i64 off, .int .i64 k] (.bool (decide (0 ≤ off ∧ off ≤ n ∧ k ≤ n - off))) := by
  refine Pure.of ⟨trivial, trivial, trivial, trivial⟩ trivial ?_
  refine Go.A.CallsIn.of_exec tab_ok mixed Try.func69 rfl rfl [] [] ?_
  repeat' ((conv => whnf); first
    | refine Exists.intro _ (And.intro (w64 (by omega) (by omega)) ?_) | refine boolF_dec (fun _ => ?_) (fun _ => ?_))
  all_goals (conv => whnf)
  all_goals (first
    | exact ⟨rfl⟩
    | exact ⟨bool_t (by omega)⟩
    | exact ⟨bool_f (by omega)⟩
    | exact ⟨bool_iff (by omega)⟩
    | exact ⟨bool_beq (by omega)⟩
    | exact ⟨bool_bne (by omega)⟩
    | exact ⟨bool_not (by omega)⟩)

theorem f44_ok (n : Int) : Pure Try.prog 44 [.int .i64 n] (.bool (decide (0 ≤ n ∧ n ≤ 1024))) := by
  refine Pure.of ⟨trivial, trivial⟩ trivial ?_
  refine Go.A.CallsIn.of_exec tab_ok mixed Try.func44 rfl rfl [] [] ?_
  repeat' ((conv => whnf); first
    | refine boolF_dec (fun _ => ?_) (fun _ => ?_))
  all_goals (conv => whnf)
  all_goals (first
    | exact ⟨rfl⟩
    | exact ⟨bool_t (by omega)⟩
    | exact ⟨bool_f (by omega)⟩
    | exact ⟨bool_iff (by omega)⟩
    | exact ⟨bool_beq (by omega)⟩
    | exact ⟨bool_bne (by omega)⟩
    | exact ⟨bool_not (by omega)⟩)

theorem f80_ok (n : Int) (o : Op) (ho : o.data_.length ≤ 140737488351232) : Pure Try.prog 80 [.int .i64 n, d91 o] (.bool (decide (okOp n o))) := by
  have h24 := f75_ok o ho
  simp only [rngD, rng] at h24
  refine Pure.of ⟨trivial, scd91 _ _, trivial⟩ trivial ?_
  refine Go.A.CallsIn.of_exec tab_ok mixed Try.func80 rfl rfl [] [] ?_
  by_cases h1 : o.kind_ = 1
  · rw [if_pos h1] at h24
    (conv => whnf)
    refine Pure.call h24 ?_
    repeat' ((conv => whnf); first
      | refine Pure.call (f70_ok _ _ _ (by omega)) ?_ | refine boolF_not ?_ | refine boolF_dect (by assumption) ?_ | refine boolF_decf (by omega) ?_ | refine boolF_dec (fun _ => ?_) (fun _ => ?_))
    all_goals (conv => whnf)
    all_goals simp only [okOp]
    all_goals (first
      | exact ⟨rfl⟩
      | exact ⟨bool_t (by omega)⟩
      | exact ⟨bool_f (by omega)⟩
      | exact ⟨bool_iff (by omega)⟩
      | exact ⟨bool_beq (by omega)⟩
      | exact ⟨bool_bne (by omega)⟩
      | exact ⟨bool_not (by omega)⟩)
  · by_cases h2 : o.kind_ = 2
    · rw [if_neg h1, if_pos h2] at h24
      (conv => whnf)
      refine Pure.call h24 ?_
      repeat' ((conv => whnf); first
        | refine Exists.intro _ (And.intro (⟨(List.length_map _).symm⟩) ?_) | refine Pure.call (f70_ok _ _ _ (by omega)) ?_ | refine boolF_not ?_ | refine boolF_dect (by assumption) ?_ | refine boolF_decf (by assumption) ?_ | refine boolF_dec (fun _ => ?_) (fun _ => ?_))
      all_goals (conv => whnf)
      all_goals simp only [okOp]
      all_goals (first
        | exact ⟨rfl⟩
        | exact ⟨bool_t (by omega)⟩
        | exact ⟨bool_f (by omega)⟩
        | exact ⟨bool_iff (by omega)⟩
        | exact ⟨bool_beq (by omega)⟩
        | exact ⟨bool_bne (by omega)⟩
        | exact ⟨bool_not (by omega)⟩)
    · rw [if_neg h1, if_neg h2] at h24
      (conv => whnf)
      refine Pure.call h24 ?_
      repeat' ((conv => whnf); first
        | refine boolF_dec (fun _ => ?_) (fun _ => ?_))
      all_goals (conv => whnf)
      all_goals simp only [okOp]
      all_goals (first
        | exact ⟨rfl⟩
        | exact ⟨bool_t (by omega)⟩
        | exact ⟨bool_f (by omega)⟩
        | exact ⟨bool_iff (by omega)⟩
        | exact ⟨bool_beq (by omega)⟩
        | exact ⟨bool_bne (by omega)⟩
        | exact ⟨bool_not (by omega)⟩)

theorem f45_ok (n : Int) (o : Op) (ho : o.data_.length ≤ 140737488351232) : Pure Try.prog 45 [.int .i64 n, d91 o] (.bool (decide (okOp n o))) := by
  refine Pure.of ⟨trivial, scd91 _ _, trivial⟩ trivial ?_
  refine Go.A.CallsIn.of_exec tab_ok mixed Try.func45 rfl rfl [] [] ?_
  by_cases hn : 0 ≤ n ∧ n ≤ 1024
  · by_cases h1 : o.kind_ = 1
    · repeat' ((conv => whnf); first
        | refine Exists.intro _ (And.intro (⟨(List.length_map _).symm⟩) ?_) | refine Pure.call (f44_ok _) ?_ | refine Pure.call (f69_ok _ _ _ (by omega)) ?_ | refine boolF_dect (by assumption) ?_ | refine boolF_dec (fun _ => ?_) (fun _ => ?_))
      all_goals (conv => whnf)
      all_goals simp only [okOp]
      all_goals (first
        | exact ⟨rfl⟩
        | exact ⟨bool_t (by omega)⟩
        | exact ⟨bool_f (by omega)⟩
        | exact ⟨bool_iff (by omega)⟩
        | exact ⟨bool_beq (by omega)⟩
        | exact ⟨bool_bne (by omega)⟩
        | exact ⟨bool_not (by omega)⟩)
    · by_cases h2 : o.kind_ = 2
      · repeat' ((conv => whnf); first
          | refine Exists.intro _ (And.intro (⟨(List.length_map _).symm⟩) ?_) | refine Pure.call (f44_ok _) ?_ | refine Pure.call (f69_ok _ _ _ (by omega)) ?_ | refine boolF_dect (by assumption) ?_ | refine boolF_decf (by assumption) ?_ | refine boolF_dec (fun _ => ?_) (fun _ => ?_))
        all_goals (conv => whnf)
        all_goals simp only [okOp]
        all_goals (first
          | exact ⟨rfl⟩
          | exact ⟨bool_t (by omega)⟩
          | exact ⟨bool_f (by omega)⟩
          | exact ⟨bool_iff (by omega)⟩
          | exact ⟨bool_beq (by omega)⟩
          | exact ⟨bool_bne (by omega)⟩
          | exact ⟨bool_not (by omega)⟩)
      · repeat' ((conv => whnf); first
          | refine boolF_decf (by assumption) ?_)
        all_goals (conv => whnf)
        all_goals simp only [okOp]
        all_goals (first
          | exact ⟨rfl⟩
          | exact ⟨bool_t (by omega)⟩
          | exact ⟨bool_f (by omega)⟩
          | exact ⟨bool_iff (by omega)⟩
          | exact ⟨bool_beq (by omega)⟩
          | exact ⟨bool_bne (by omega)⟩
          | exact ⟨bool_not (by omega)⟩)
  · by_cases h1 : o.kind_ = 1
    · repeat' ((conv => whnf); first
        | refine Pure.call (f44_ok _) ?_ | refine boolF_dect (by assumption) ?_ | refine boolF_decf (by assumption) ?_)
      all_goals (conv => whnf)
      all_goals simp only [okOp]
      all_goals (first
        | exact ⟨rfl⟩
        | exact ⟨bool_t (by omega)⟩
        | exact ⟨bool_f (by omega)⟩
        | exact ⟨bool_iff (by omega)⟩
        | exact ⟨bool_beq (by omega)⟩
        | exact ⟨bool_bne (by omega)⟩
        | exact ⟨bool_not (by omega)⟩)
    · by_cases h2 : o.kind_ = 2
      · repeat' ((conv => whnf); first
          | refine Pure.call (f44_ok _) ?_ | refine boolF_dect (by assumption) ?_ | refine boolF_decf (by assumption) ?_)
        all_goals (conv => whnf)
        all_goals simp only [okOp]
        all_goals (first
          | exact ⟨rfl⟩
          | exact ⟨bool_t (by omega)⟩
          | exact ⟨bool_f (by omega)⟩
          | exact ⟨bool_iff (by omega)⟩
          | exact ⟨bool_beq (by omega)⟩
          | exact ⟨bool_bne (by omega)⟩
          | exact ⟨bool_not (by omega)⟩)
      · repeat' ((conv => whnf); first
          | refine boolF_decf (by assumption) ?_)
        all_goals (conv => whnf)
        all_goals simp only [okOp]
        all_goals (first
          | exact ⟨rfl⟩
          | exact ⟨bool_t (by omega)⟩
          | exact ⟨bool_f (by omega)⟩
          | exact ⟨bool_iff (by omega)⟩
          | exact ⟨bool_beq (by omega)⟩
          | exact ⟨bool_bne (by omega)⟩
          | exact ⟨bool_not (by omega)⟩)

theorem f22_ok (a b : List Nat) (ha : a.length ≤ 140737488351232) (hb : b.length ≤ 140737488351232) : Pure Try.prog 22 [d35 a, d35 b] (.bool (decide (a = b))) := by
  refine Pure.of ⟨scd35 _ _, scd35 _ _, trivial⟩ trivial ?_
  refine Go.A.CallsIn.of_exec tab_ok mixed Try.func22 rfl rfl [] [] ?_
  by_cases hlen : a.length = b.length
  · repeat' ((conv => whnf); first
      | refine Exists.intro _ (And.intro (⟨(List.length_map _).symm⟩) ?_) | refine boolF_not ?_ | refine boolF_dect (by omega) ?_)
    all_goals (conv => whnf)
    refine W_loopG (ι := Nat) (fun i => ⟨(d35 a :: d35 b :: D.undef :: D.undef :: D.undef :: .int .i64 (i:Int) :: D.undef :: D.undef :: D.undef :: D.undef :: D.undef :: D.undef :: D.undef :: D.undef :: D.undef :: D.undef :: D.undef :: D.undef :: D.undef :: D.undef :: D.undef :: D.undef :: D.undef :: D.undef :: D.undef :: D.undef :: []), []⟩) (fun i => a.length - i)
      (fun i => i ≤ a.length ∧ a.take i = b.take i) 0 (Ghost.hold [0,1,5] rfl) ⟨Nat.zero_le _, rfl⟩ ?_
    rintro i ⟨h1, h2⟩
    refine exec_ok tab_ok mixed 1000 (bx := []) (own := []) ?_
    rcases Nat.lt_or_ge i a.length with h | h
    · obtain ⟨x, hx⟩ := at_lt h
      obtain ⟨y, hy⟩ := at_lt (l := b) (i := i) (by omega)
      by_cases hxy : x = y
      · repeat' ((conv => whnf); first
          | refine PairK.mk (by kernel_rfl) ?_ | refine Exists.intro _ (And.intro (map_at (by omega) hx) ?_) | refine Exists.intro _ (And.intro (map_at (by omega) hy) ?_) | refine And.intro rfl ?_ | refine And.intro (by omega) ?_ | refine Exists.intro _ (And.intro (⟨(List.length_map _).symm⟩) ?_) | refine Exists.intro _ (And.intro (w64 (by omega) (by omega)) ?_) | refine boolF_not ?_ | refine boolF_dect (by assumption) ?_ | refine boolF_dect (by omega) ?_)
        all_goals (conv => whnf)
        refine ⟨i + 1, Ghost.hold [0,1,5] rfl, ⟨by omega, ?_⟩, by omega⟩
        rw [take_snoc hx, take_snoc hy, h2, hxy]
      · repeat' ((conv => whnf); first
          | refine PairK.mk (by kernel_rfl) ?_ | refine Exists.intro _ (And.intro (map_at (by omega) hx) ?_) | refine Exists.intro _ (And.intro (map_at (by omega) hy) ?_) | refine And.intro rfl ?_ | refine And.intro (by omega) ?_ | refine Exists.intro _ (And.intro (⟨(List.length_map _).symm⟩) ?_) | refine boolF_not ?_ | refine boolF_decf (by assumption) ?_ | refine boolF_dect (by omega) ?_)
        all_goals (conv => whnf)
        refine ⟨bool_f (fun hh => hxy ?_)⟩
        subst hh
        rw [hx] at hy
        exact Option.some.inj hy
    · repeat' ((conv => whnf); first
        | refine Exists.intro _ (And.intro (⟨(List.length_map _).symm⟩) ?_) | refine boolF_decf (by omega) ?_)
      all_goals (conv => whnf)
      refine ⟨bool_t ?_⟩
      rw [List.take_of_length_le h, List.take_of_length_le (by omega)] at h2
      exact h2
  · repeat' ((conv => whnf); first
      | refine Exists.intro _ (And.intro (⟨(List.length_map _).symm⟩) ?_) | refine boolF_not ?_ | refine boolF_decf (by omega) ?_)
    all_goals (conv => whnf)
    exact ⟨bool_f (fun hh => hlen (by rw [hh]))⟩

theorem Op.ext' {a b : Op} (h : a.kind_ = b.kind_ ∧ a.off_ = b.off_ ∧ a.len_ = b.len_ ∧ a.data_ = b.data_) : a = b := by
  cases a; cases b; simp only at h; simp [h]
instance : DecidableEq Op := fun a b => if h : a.kind_ = b.kind_ ∧ a.off_ = b.off_ ∧ a.len_ = b.len_ ∧ a.data_ = b.data_ then isTrue (Op.ext' h) else isFalse (fun e => h (by simp [e]))
def bigD (l : List Op) : Prop := ∀ o ∈ l, o.data_.length ≤ 140737488351232

theorem f71_ok (l : List Nat) (hlen : l.length ≤ 140737488351232) (hl8 : l.length * 8 ≤ 140737488355328) : Owned Try.prog 71 [d35 l] 1 (l.map r56) := by
  refine Owned.of ⟨scd35 _ _, trivial⟩ (scr56 _ _) ?_
  refine Go.A.CallsIn.of_exec tab_ok mixed Try.func71 rfl rfl [5] [] ?_
  cases l with
  | nil =>
    repeat' ((conv => whnf); first
      | refine And.intro (okRows_map (fun _ _ => ⟨rfl, rfl⟩)) ?_ | refine And.intro (by decide) ?_ | refine Exists.intro _ (And.intro (⟨len_more⟩) ?_) | refine Exists.intro _ (And.intro (⟨Eq.refl (α := List D) _⟩) ?_) | refine Both.mk ?_ ?_)
    all_goals (conv => whnf)
    · exact ⟨0, Ghost.mat (t := 0) rfl⟩
    · exact ⟨1, Ghost.refl _ _ _⟩
  | cons x l =>
    repeat' ((conv => whnf); first
      | refine And.intro (okRows_map (fun _ _ => ⟨rfl, rfl⟩)) ?_ | refine And.intro (by decide) ?_ | refine And.intro (List.cons_ne_nil _ _) ?_ | refine And.intro (by omega) ?_ | refine Exists.intro _ (And.intro (⟨len_more⟩) ?_) | refine Exists.intro _ (And.intro (⟨Eq.refl (α := List D) _⟩) ?_))
    all_goals (conv => whnf)
    refine ⟨1, Ghost.hold [0] ?_⟩
    rw [Nat.zero_add (x :: l).length, List.length_map]
    rfl

end Go.Proofs.Ytgigpjkdfhhahaa.B


namespace Go.Proofs.Ytgigpjkdfhhahaa.B
open Go.A
set_option linter.unusedVariables false
set_option linter.unusedSimpArgs false
set_option linter.unnecessarySimpa false
attribute [local irreducible] IntKind.wrap bitsI
set_option maxRecDepth 100000
set_option maxHeartbeats 4000000

theorem map_splice {α β : Type} (f : α → β) (l : List α) (off : Nat) (xs : List α) : (spliceL l off xs).map f = spliceL (l.map f) off (xs.map f) := by
  simp [spliceL, List.map_append, List.map_take, List.map_drop]

def badIx (n : Int) : List Op → Nat → Int
  | [], _ => -1
  | o :: l, i => if okOp n o then badIx n l (i + 1) else (i : Int)
theorem badIx_neg {n : Int} : ∀ {l : List Op} {i : Nat}, allOk n l → badIx n l i = -1
  | [], _, _ => rfl
  | o :: l, i, h => by
    rw [badIx, if_pos (h o List.mem_cons_self)]
    exact badIx_neg fun x hx => h x (List.mem_cons_of_mem _ hx)
theorem badIx_pos {n : Int} : ∀ {l : List Op} {i : Nat}, ¬ allOk n l → 0 ≤ badIx n l i
  | [], _, h => absurd (fun x hx => by cases hx) h
  | o :: l, i, h => by
    rw [badIx]
    split
    · rename_i ho
      exact badIx_pos fun hl => h fun x hx => by
        rcases List.mem_cons.mp hx with rfl | hx
        · exact ho
        · exact hl x hx
    · omega

theorem f79_ok (v : List Nat) (o : Op) (hv : v.length ≤ 140737488351232) (ho : o.data_.length ≤ 140737488351232) : Pure Try.prog 79 [d91 o, .pe [d35 v]] (.bool (!decide (okOp v.length o))) := by
  refine Pure.of ⟨scd91 _ _, ⟨scd35 _ _, trivial⟩, trivial⟩ trivial ?_
  refine Go.A.CallsIn.of_exec tab_ok mixed Try.func79 rfl rfl [] [] ?_
  repeat' ((conv => whnf); first
    | refine Exists.intro _ (And.intro (⟨(List.length_map _).symm⟩) ?_) | refine Pure.call (f80_ok _ _ ho) ?_)
  all_goals (conv => whnf)
  exact ⟨rfl⟩

theorem f83_ok (v : List Nat) (ops : List Op) (hv : v.length ≤ 140737488351232) (hn : ops.length ≤ 140737488351232) (ho : bigD ops) : Pure Try.prog 83 [d37 ops, .fn 79 [.pe [d35 v]]] (.int .i64 (badIx v.length ops 0)) := by
  refine Pure.of ⟨scd37 _ _, ⟨⟨scd35 _ _, trivial⟩, trivial⟩, trivial⟩ trivial ?_
  refine Go.A.CallsIn.of_exec tab_ok mixed Try.func83 rfl rfl [] [] ?_
  repeat' ((conv => whnf); first
    | refine Exists.intro _ (And.intro (⟨(List.length_map _).symm⟩) ?_))
  all_goals (conv => whnf)
  refine W_loopG (ι := Nat) (fun i => ⟨(d37 ops :: .fn 79 [.pe [d35 v]] :: D.undef :: D.undef :: D.undef :: D.undef :: D.undef :: .int .i64 (ops.length : Int) :: .int .i64 (i : Int) :: D.undef :: D.undef :: D.undef :: D.undef :: D.undef :: D.undef :: D.undef :: D.undef :: D.undef :: D.undef :: []), []⟩) (fun i => ops.length - i)
    (fun i => i ≤ ops.length ∧ badIx v.length (ops.drop i) i = badIx v.length ops 0) 0 (Ghost.hold [0, 1, 7, 8] rfl) ⟨Nat.zero_le _, rfl⟩ ?_
  rintro i ⟨h1, h2⟩
  refine exec_ok tab_ok mixed 1000 (bx := []) (own := []) ?_
  rcases Nat.lt_or_ge i ops.length with h | h
  · obtain ⟨x, hx⟩ := at_lt h
    have hxd := ho x (List.mem_of_getElem? hx)
    rw [drop_of_get hx, badIx] at h2
    by_cases hok : okOp v.length x
    · rw [if_pos hok] at h2
      repeat' ((conv => whnf); first
        | refine Exists.intro _ (And.intro (map_at (by omega) hx) ?_) | refine And.intro rfl ?_ | refine And.intro (by omega) ?_ | refine Exists.intro _ (And.intro (w64 (by omega) (by omega)) ?_) | refine Pure.call (f79_ok _ _ hv hxd) ?_ | refine boolF_not ?_ | refine boolF_dect (by assumption) ?_ | refine boolF_dect (by omega) ?_)
      all_goals (conv => whnf)
      exact ⟨i + 1, Ghost.hold [0, 1, 7, 8] rfl, ⟨h, h2⟩, by omega⟩
    · rw [if_neg hok] at h2
      repeat' ((conv => whnf); first
        | refine Exists.intro _ (And.intro (map_at (by omega) hx) ?_) | refine And.intro rfl ?_ | refine And.intro (by omega) ?_ | refine Pure.call (f79_ok _ _ hv hxd) ?_ | refine boolF_not ?_ | refine boolF_decf (by assumption) ?_ | refine boolF_dect (by omega) ?_)
      all_goals (conv => whnf)
      exact ⟨by rw [h2]⟩
  · rw [List.drop_of_length_le h, badIx] at h2
    repeat' ((conv => whnf); first
      | refine boolF_decf (by omega) ?_)
    all_goals (conv => whnf)
    exact ⟨by rw [← h2]⟩

theorem f78_ok (v : List Nat) (ops : List Op) (hv : v.length ≤ 140737488351232) (hn : ops.length ≤ 140737488351232) (ho : bigD ops) : Pure Try.prog 78 [d37 ops, .fn 79 [.pe [d35 v]]] (.bool (!decide (allOk v.length ops))) := by
  refine Pure.of ⟨scd37 _ _, ⟨⟨scd35 _ _, trivial⟩, trivial⟩, trivial⟩ trivial ?_
  refine Go.A.CallsIn.of_exec tab_ok mixed Try.func78 rfl rfl [] [] ?_
  repeat' ((conv => whnf); first
    | refine Pure.call (f83_ok _ _ hv hn ho) ?_)
  all_goals (conv => whnf)
  by_cases h : allOk v.length ops
  · rw [badIx_neg h]; exact ⟨by simp [h]⟩
  · have := badIx_pos (i := 0) h
    exact ⟨by simp [h, this]⟩

theorem f81_ok (v : List Nat) (o : Op) (ver : Nat) (hv : v.length ≤ 1024) (ho : okOp v.length o) :
    Go.A.CallsIn Try.prog 81 [.h 0 ver 0 v.length, d91 o] [.arr ver 1 (v.map r56)] fun r H => r = .tup [] ∧ H = [.arr ver 1 ((doO v o).map r56)] := by
  have hd := dat_len ho
  have hoff := ho.2.2.1
  have h24 := f75_ok o (by have := ho.2.2.2; omega)
  simp only [rngD, rng] at h24
  rw [doO, map_splice]
  obtain ⟨kind, off, len, data⟩ := o
  dsimp only at hoff h24 hd
  obtain ⟨a, rfl⟩ := Int.eq_ofNat_of_zero_le hoff
  simp only [okOp] at ho
  rcases ho.2.2.2 with ⟨rfl, rfl, k3, k4, k5⟩ | ⟨rfl, k2, k3, k4⟩
  · simp only [dat] at hd
    simp at hd
    rw [if_pos rfl] at h24
    refine Go.A.CallsIn.of_exec tab_ok mixed Try.func81 rfl rfl [] [false] ?_
    (conv => whnf)
    refine Pure.call h24 ?_
    repeat' ((conv => whnf); first
      | refine PairK.mk (by kernel_rfl) ?_ | refine And.intro (okRows_map (fun _ _ => ⟨rfl, rfl⟩)) ?_ | refine And.intro (by decide) ?_ | refine And.intro rfl ?_ | refine Exists.intro _ (And.intro (⟨Eq.refl (α := Int) _⟩) (And.intro (by omega) ?_)) | refine Exists.intro _ (Exists.intro _ (And.intro (⟨Eq.refl (α := Nat) _⟩) (And.intro (⟨Eq.refl (α := Nat) _⟩) ?_))))
    all_goals (conv => whnf)
    refine ⟨rfl, ?_⟩
    have e : min (List.map r56 data).length (v.length - a) = (data.map r56).length := by rw [List.length_map]; omega
    have e2 : dat ⟨1, (a : Int), 0, data⟩ = data := by simp [dat]
    dsimp only
    rw [e, List.take_length, e2, Nat.zero_add, Int.toNat_natCast]
  · obtain ⟨l, rfl⟩ := Int.eq_ofNat_of_zero_le (a := len) (by omega)
    obtain rfl : data = [] := List.length_eq_zero_iff.mp k2
    rw [if_neg (by decide), if_pos rfl] at h24
    refine Go.A.CallsIn.of_exec tab_ok mixed Try.func81 rfl rfl [] [false] ?_
    (conv => whnf)
    refine Pure.call h24 ?_
    repeat' ((conv => whnf); first
      | refine Exists.intro a (Exists.intro (a + l) (And.intro ⟨rfl⟩ (And.intro ⟨rfl⟩ (And.intro (by omega) (And.intro (by omega) ?_))))) | refine And.intro (by decide) ?_ | refine And.intro rfl ?_ | refine Exists.intro _ (Exists.intro _ (And.intro (⟨Eq.refl (α := Nat) _⟩) (And.intro (⟨Eq.refl (α := Nat) _⟩) ?_))) | refine Exists.intro _ (And.intro (w64 (by omega) (by omega)) ?_))
    all_goals (conv => whnf)
    refine ⟨rfl, ?_⟩
    have e2 : dat ⟨2, (a : Int), (l : Int), []⟩ = List.replicate l 0 := by simp [dat]
    dsimp only
    rw [e2, Nat.zero_add, Nat.add_sub_cancel_left, List.map_replicate, Int.toNat_natCast]
    rfl

theorem f81_at (v : List Nat) (o : Op) (ver : Nat) (hv : v.length ≤ 1024) (ho : okOp v.length o) :
    Turns1 Try.prog 81 (fun k => [.h k ver 0 v.length, d91 o]) (.arr ver 1 (v.map r56)) (fun _ _ => .tup []) (fun _ => .arr ver 1 ((doO v o).map r56)) where
  arg := fun ρ => by simp only [renL, ren]; rw [ren_sc0 ρ _ (scd91 0 o)]
  res := fun _ _ => rfl
  asc := ⟨Nat.zero_lt_one, scd91 _ _, trivial⟩
  osc := scr56 _ _
  ores := fun ρ v => renO_sc0 ρ (by exact scr56 _ _)
  calls := (f81_ok v o ver hv ho).mono fun r H ⟨e1, e2⟩ => ⟨0, e1, e2⟩

def ownW (p : List Nat × Int) (o ver : Nat) : D := .tup [.h o ver 0 p.1.length, .int .i64 p.2]
def OwnW (f : FuncId) (args : List D) (p : List Nat × Int) : Prop := OwnedR Try.prog f args (ownW p) 1 (p.1.map r56)
theorem ownW_res (p : List Nat × Int) : ∀ (ρ : Nat → Nat) ver, ren ρ (ownW p 0 ver) = ownW p (ρ 0) ver := fun _ _ => rfl
theorem ownW_err (e : Int) (H : List AObj) : ∃ ver, Ghost 0 [.tup [.nils, .int .i64 e]] H [ownW ([], e) 0 ver] [.arr ver 1 (([] : List Nat).map r56)] := by
  refine ⟨0, (Ghost.matD (sz := 1) (s' := [.tup [.h H.length 0 0 0, .int .i64 e]]) (.cons (.tup (.cons .nil (.cons .refl .nil))) .nil)).trans ?_⟩
  refine Ghost.pick [H.length] (by simp) rfl (fun i o ob' h1 h2 => ?_) rfl ⟨⟨Nat.zero_lt_one, trivial, trivial⟩, trivial⟩ (fun ob hob => by simp at hob; subst hob; trivial)
  cases i with
  | zero => simp at h1 h2; subst h1 h2; simp [renO, renL]
  | succ i => simp at h1
theorem ownW_ok (e : Int) (l : List Nat) (k w n : Nat) (H : List AObj) (hn : n = l.length) (hk : H[k]? = some (.arr w 1 (l.map r56))) : ∃ ver, Ghost 0 [.tup [.h k w 0 n, .int .i64 e]] H [ownW (l, e) 0 ver] [.arr ver 1 (l.map r56)] := by
  subst hn
  refine ⟨w, Ghost.pick [k] (by simp) rfl (fun i o ob' h1 h2 => ?_) rfl ⟨⟨Nat.zero_lt_one, trivial, trivial⟩, trivial⟩ (fun ob hob => by simp at hob; subst hob; exact scr56 _ _)⟩
  cases i with
  | zero => simp at h1 h2; subst h1 h2; simp only [renO]; rw [renL_sc0 _ _ (scr56 _ _)]; exact hk
  | succ i => simp at h1
theorem OwnW.pure {f : FuncId} {args : List D} {p : List Nat × Int} (h : OwnW f args p) : Pure Try.prog f args (.tup [d35 p.1, .int .i64 p.2]) :=
  OwnedR.pure h ⟨scd35 _ _, trivial, trivial⟩ (fun ver => .tup (.cons (.h (all_take rfl)) (.cons (.refl _) .nil)))

theorem applyL_snoc {v : List Nat} {ops : List Op} {i : Nat} {o : Op} (h : ops[i]? = some o) : applyL v (ops.take (i + 1)) = doO (applyL v (ops.take i)) o := by
  rw [take_snoc h, applyL, List.foldl_append]; rfl
theorem allOk_take {n : Int} {ops : List Op} (h : allOk n ops) (i : Nat) : allOk n (ops.take i) := fun x hx => h x (List.mem_of_mem_take hx)

theorem f74_own (v : List Nat) (ops : List Op) (hv : v.length ≤ 140737488351232) (hn : ops.length ≤ 140737488351232) (ho : bigD ops) : OwnW 74 [d35 v, d37 ops] (applyM v ops) := by
  refine OwnedR.of ⟨scd35 _ _, scd37 _ _, trivial⟩ (scr56 _ _) (ownW_res _) ?_
  refine Go.A.CallsIn.of_exec tab_ok mixed Try.func74 rfl rfl [] [] ?_
  by_cases hb : 1024 < v.length
  · rw [applyM, if_pos hb]
    repeat' ((conv => whnf); first
      | refine Exists.intro _ (And.intro (⟨(List.length_map _).symm⟩) ?_) | refine boolF_dect (by omega) ?_)
    all_goals (conv => whnf)
    exact ⟨ownW_err 6 _⟩
  · rw [applyM, if_neg hb]
    by_cases hok : allOk v.length ops
    · rw [if_pos hok]
      repeat' ((conv => whnf); first
        | refine Exists.intro _ (And.intro (⟨(List.length_map _).symm⟩) ?_) | refine Pure.call (f78_ok _ _ hv hn ho) ?_ | refine boolF_not ?_ | refine boolF_dect (by assumption) ?_ | refine boolF_decf (by omega) ?_)
      all_goals (conv => whnf)
      refine Owned.callN (f71_ok v hv (by omega)) v.length (by rw [List.length_map]) (fun v1 => ?_)
      repeat' ((conv => whnf); first
        | refine Exists.intro _ (And.intro (⟨(List.length_map _).symm⟩) ?_))
      all_goals (conv => whnf)
      refine W_loopG (ι := Nat) (fun i => ⟨(D.undef :: D.undef :: D.undef :: D.undef :: D.undef :: D.undef :: .h 0 v1 0 v.length :: D.undef :: D.undef :: D.undef :: D.undef :: D.undef :: D.undef :: D.undef :: D.undef :: D.undef :: D.undef :: d37 ops :: .int .i64 (ops.length : Int) :: .int .i64 (i:Int) :: D.undef :: D.undef :: D.undef :: D.undef :: D.undef :: D.undef :: D.undef :: D.undef :: []), [.arr v1 1 ((applyL v (ops.take i)).map r56)]⟩) (fun i => ops.length - i)
        (fun i => i ≤ ops.length) 0 (Ghost.hold [6, 17, 18, 19] rfl) (Nat.zero_le _) ?_
      intro i h1
      have hl := (apply_at (v := v) (allOk_take hok i)).1
      rcases Nat.lt_or_ge i ops.length with h | h
      · obtain ⟨x, hx⟩ := at_lt h
        have hxo := hok x (List.mem_of_getElem? hx)
        have hs := applyL_snoc (v := v) hx
        generalize applyL v (ops.take i) = cur at hl hs ⊢
        refine exec_ok tab_ok mixed 1000 (bx := [false]) (own := []) ?_
        repeat' ((conv => whnf); first
          | refine Exists.intro _ (And.intro (map_at (by omega) hx) ?_) | refine And.intro (by decide) ?_ | refine And.intro rfl ?_ | refine And.intro (by omega) ?_ | refine boolF_dect (by omega) ?_)
        all_goals (conv => whnf)
        rw [← hl] at hxo ⊢
        refine Turns1.call (f81_at cur x v1 (by omega) hxo) 0 rfl (fun v' => ?_)
        repeat' ((conv => whnf); first
          | refine Exists.intro _ (And.intro (w64 (by omega) (by omega)) ?_))
        all_goals (conv => whnf)
        refine ⟨i + 1, Ghost.back [6, 17, 18, 19] 1 ?_ ?_ (Nat.zero_le _) (by simp [scs, D.sc, scd37]) (by simp only [List.mem_singleton]; intro ob hob; subst hob; exact scr56 _ _), h, by omega⟩
        · rfl
        · rw [hs]; rfl
      · refine exec_ok tab_ok mixed 1000 (bx := [false]) (own := []) ?_
        have e : ops.take i = ops := List.take_of_length_le h
        rw [e] at hl ⊢
        repeat' ((conv => whnf); first
          | refine boolF_decf (by omega) ?_)
        all_goals (conv => whnf)
        exact ⟨ownW_ok 0 _ 0 v1 _ _ hl.symm rfl⟩
    · rw [if_neg hok]
      repeat' ((conv => whnf); first
        | refine Exists.intro _ (And.intro (⟨(List.length_map _).symm⟩) ?_) | refine Pure.call (f78_ok _ _ hv hn ho) ?_ | refine boolF_not ?_ | refine boolF_decf (by assumption) ?_ | refine boolF_decf (by omega) ?_)
      all_goals (conv => whnf)
      exact ⟨ownW_err 1 _⟩

end Go.Proofs.Ytgigpjkdfhhahaa.B


namespace Go.Proofs.Ytgigpjkdfhhahaa.B
open Go.A
set_option linter.unusedVariables false
set_option linter.unusedSimpArgs false
set_option linter.unnecessarySimpa false
attribute [local irreducible] IntKind.wrap bitsI
set_option maxRecDepth 100000
set_option maxHeartbeats 4000000

theorem splice_snoc {α : Type} {l xs : List α} {off : Nat} {x : α} (h : off + (xs.length + 1) ≤ l.length) : spliceL l off (xs ++ [x]) = (spliceL l off xs).set (off + xs.length) x := by
  have e : (l.take off).length = off := by rw [List.length_take]; omega
  have e2 : (l.take off ++ xs).length = off + xs.length := by rw [List.length_append, e]
  rw [spliceL, spliceL, List.set_append_right _ _ (by omega), e2, Nat.sub_self, List.length_append, List.length_singleton]
  have hd : l.drop (off + xs.length) = l[off + xs.length] :: l.drop (off + xs.length + 1) := List.drop_eq_getElem_cons (by omega)
  rw [hd, List.set_cons_zero, ← List.append_assoc, List.append_assoc (l.take off ++ xs)]
  rfl
theorem splice_nil {α : Type} (l : List α) (off : Nat) : spliceL l off [] = l := by simp [spliceL]
theorem setRow_len (bb : Bool) (l : List D) (i : Nat) (d : D) : (setRow bb l i d).length = l.length := by rw [setRow_eq, List.length_set]
theorem setRow_get {bb : Bool} {l : List D} {i j : Nat} {d : D} (e : j = i) (h : i < l.length) : (setRow bb l i d)[j]? = some d := by
  subst e; rw [setRow_eq, List.getElem?_set_self h]

theorem f46_ok (v : List Nat) (o : Op) (hv : v.length ≤ 1024) (ho : okOp v.length o) : Owned Try.prog 46 [d35 v, d91 o] 1 ((doO v o).map r56) := by
  have hd := dat_len ho
  have hoff := ho.2.2.1
  have h29 := f64_ok o (by have := ho.2.2.2; omega)
  simp only [rngD, rng] at h29
  refine Owned.of ⟨scd35 _ _, scd91 _ _, trivial⟩ (scr56 _ _) ?_
  obtain ⟨kind, off, len, data⟩ := o
  dsimp only at hoff h29 hd
  obtain ⟨a, rfl⟩ := Int.eq_ofNat_of_zero_le hoff
  simp only [okOp] at ho
  rcases ho.2.2.2 with ⟨rfl, rfl, k3, k4, k5⟩ | ⟨rfl, k2, k3, k4⟩
  · have e2 : dat ⟨1, (a : Int), 0, data⟩ = data := by simp [dat]
    rw [doO, e2]
    rw [if_pos rfl] at h29
    refine Go.A.CallsIn.of_exec tab_ok mixed Try.func46 rfl rfl [] [false] ?_
    repeat' ((conv => whnf); first
      | refine And.intro (okRows_map (fun _ _ => ⟨rfl, rfl⟩)) ?_ | refine And.intro (by omega) ?_ | refine Exists.intro _ (And.intro (⟨(List.length_map _).symm⟩) ?_))
    all_goals (conv => whnf)
    refine Pure.call h29 ?_
    (conv => whnf)
    refine W_loopG (ι := Nat) (fun i => ⟨(D.undef :: D.undef :: D.undef :: .pe (c91 ⟨1, (a : Int), 0, data⟩) :: D.undef :: .h 0 0 0 v.length :: .int .i64 (a : Int) :: .int .i64 (data.length : Int) :: .int .i64 (i:Int) :: D.undef :: D.undef :: D.undef :: D.undef :: D.undef :: D.undef :: D.undef :: D.undef :: D.undef :: D.undef :: D.undef :: D.undef :: D.undef :: D.undef :: D.undef :: D.undef :: D.undef :: D.undef :: D.undef :: D.undef :: D.undef :: D.undef :: D.undef :: D.undef :: D.undef :: D.undef :: D.undef :: D.undef :: D.undef :: D.undef :: D.undef :: []), [.arr 0 1 ((spliceL v a (data.take i)).map r56)]⟩) (fun i => data.length - i)
      (fun i => i ≤ data.length) 0 (Ghost.hold [3, 5, 6, 7, 8] (by rw [List.take_zero, splice_nil]; rfl)) (Nat.zero_le _) ?_
    intro i h1
    have hl : (spliceL v a (data.take i)).length = v.length := spliceL_length _ _ _ (by rw [List.length_take]; omega)
    refine exec_ok tab_ok mixed 1000 (bx := [false]) (own := []) ?_
    rcases Nat.lt_or_ge i data.length with h | h
    · obtain ⟨x, hx⟩ := at_lt h
      have hs : spliceL v a (data.take (i + 1)) = (spliceL v a (data.take i)).set (a + i) x := by
        have := splice_snoc (l := v) (xs := data.take i) (off := a) (x := x) (by rw [List.length_take]; omega)
        rw [take_snoc hx, this, List.length_take, Nat.min_eq_left (by omega)]
      generalize spliceL v a (data.take i) = cur at hl hs ⊢
      obtain ⟨z, hz⟩ := at_lt (l := cur) (i := a + i) (by omega)
      repeat' ((conv => whnf); first
        | refine Exists.intro _ (And.intro (map_at (by omega) hz) ?_) | refine Exists.intro _ (And.intro (map_at (by omega) hx) ?_) | refine Exists.intro _ (And.intro (setRow_get rfl (by rw [List.length_map]; omega)) ?_) | refine And.intro (by rw [setRow_len, List.length_map]; omega) ?_ | refine And.intro (by decide) ?_ | refine And.intro rfl ?_ | refine And.intro (by omega) ?_ | refine And.intro (by simp only [List.length_map, List.length_append, List.length_cons, List.length_nil]; omega) ?_ | refine Exists.intro _ (And.intro (w64 (by omega) (by omega)) ?_) | refine boolF_dect (by omega) ?_)
      all_goals (conv => whnf)
      refine ⟨i + 1, Ghost.hold [3, 5, 6, 7, 8] ?_, h, by omega⟩
      have e : ∀ (bb : Bool) (l : List D) (d : D), setRow bb l (0 + ((a : Int) + (i : Int)).toNat) d = l.set (a + i) d := fun bb l d => by rw [setRow_eq]; congr 1; omega
      have e3 : setRow false (setRow false (cur.map r56) (0 + ((a : Int) + (i : Int)).toNat) (.int .u64 0)) (0 + ((a : Int) + (i : Int)).toNat) (r56 x) = ((spliceL v a (data.take (i + 1))).map r56) := by
        rw [e, e, List.set_set, hs, List.map_set]
      rw [← e3]
      rfl
    · have e : data.take i = data := List.take_of_length_le h
      rw [e] at hl ⊢
      repeat' ((conv => whnf); first
        | refine boolF_decf (by omega) ?_)
      all_goals (conv => whnf)
      exact ⟨0, Ghost.hold [0] (by rw [List.length_map, Int.toNat_natCast, hl]; rfl)⟩
  · obtain ⟨l, rfl⟩ := Int.eq_ofNat_of_zero_le (a := len) (by omega)
    obtain rfl : data = [] := List.length_eq_zero_iff.mp k2
    have e2 : dat ⟨2, (a : Int), (l : Int), []⟩ = List.replicate l 0 := by simp [dat]
    rw [doO, e2]
    rw [if_neg (by decide), if_pos rfl] at h29
    refine Go.A.CallsIn.of_exec tab_ok mixed Try.func46 rfl rfl [] [false] ?_
    repeat' ((conv => whnf); first
      | refine And.intro (okRows_map (fun _ _ => ⟨rfl, rfl⟩)) ?_ | refine And.intro (by omega) ?_ | refine Exists.intro _ (And.intro (⟨(List.length_map _).symm⟩) ?_))
    all_goals (conv => whnf)
    refine Pure.call h29 ?_
    (conv => whnf)
    refine W_loopG (ι := Nat) (fun i => ⟨(D.undef :: D.undef :: D.undef :: .pe (c91 ⟨2, (a : Int), (l : Int), []⟩) :: D.undef :: .h 0 0 0 v.length :: .int .i64 (a : Int) :: .int .i64 (l : Int) :: .int .i64 (i:Int) :: D.undef :: D.undef :: D.undef :: D.undef :: D.undef :: D.undef :: D.undef :: D.undef :: D.undef :: D.undef :: D.undef :: D.undef :: D.undef :: D.undef :: D.undef :: D.undef :: D.undef :: D.undef :: D.undef :: D.undef :: D.undef :: D.undef :: D.undef :: D.undef :: D.undef :: D.undef :: D.undef :: D.undef :: D.undef :: D.undef :: D.undef :: []), [.arr 0 1 ((spliceL v a (List.replicate i 0)).map r56)]⟩) (fun i => l - i)
      (fun i => i ≤ l) 0 (Ghost.hold [3, 5, 6, 7, 8] (by rw [List.replicate_zero, splice_nil]; rfl)) (Nat.zero_le _) ?_
    intro i h1
    have hl : (spliceL v a (List.replicate i 0)).length = v.length := spliceL_length _ _ _ (by rw [List.length_replicate]; omega)
    refine exec_ok tab_ok mixed 1000 (bx := [false]) (own := []) ?_
    rcases Nat.lt_or_ge i l with h | h
    · have hs : spliceL v a (List.replicate (i + 1) 0) = (spliceL v a (List.replicate i 0)).set (a + i) 0 := by
        have := splice_snoc (l := v) (xs := List.replicate i 0) (off := a) (x := 0) (by rw [List.length_replicate]; omega)
        rw [List.replicate_succ', this, List.length_replicate]
      generalize spliceL v a (List.replicate i 0) = cur at hl hs ⊢
      obtain ⟨z, hz⟩ := at_lt (l := cur) (i := a + i) (by omega)
      repeat' ((conv => whnf); first
        | refine Exists.intro _ (And.intro (map_at (by omega) hz) ?_) | refine And.intro (by decide) ?_ | refine And.intro (by omega) ?_ | refine And.intro (by simp only [List.length_map, List.length_append, List.length_cons, List.length_nil]; omega) ?_ | refine Exists.intro _ (And.intro (w64 (by omega) (by omega)) ?_) | refine boolF_dect (by omega) ?_)
      all_goals (conv => whnf)
      refine ⟨i + 1, Ghost.hold [3, 5, 6, 7, 8] ?_, h, by omega⟩
      have e : ∀ (bb : Bool) (l : List D) (d : D), setRow bb l (0 + ((a : Int) + (i : Int)).toNat) d = l.set (a + i) d := fun bb l d => by rw [setRow_eq]; congr 1; omega
      have e3 : setRow false (cur.map r56) (0 + ((a : Int) + (i : Int)).toNat) (.int .u64 0) = ((spliceL v a (List.replicate (i + 1) 0)).map r56) := by
        rw [e, hs, List.map_set]; rfl
      rw [← e3]
      rfl
    · obtain rfl : i = l := by omega
      repeat' ((conv => whnf); first
        | refine boolF_decf (by omega) ?_)
      all_goals (conv => whnf)
      exact ⟨0, Ghost.hold [0] (by rw [List.length_map, Int.toNat_natCast, hl]; rfl)⟩

theorem f17_own (v : List Nat) (ops : List Op) (hv : v.length ≤ 140737488351232) (hn : ops.length ≤ 140737488351232) (ho : bigD ops) : OwnW 17 [d35 v, d37 ops] (applyM v ops) := by
  refine OwnedR.of ⟨scd35 _ _, scd37 _ _, trivial⟩ (scr56 _ _) (ownW_res _) ?_
  refine Go.A.CallsIn.of_exec tab_ok mixed Try.func17 rfl rfl [] [] ?_
  by_cases hb : 1024 < v.length
  · rw [applyM, if_pos hb]
    repeat' ((conv => whnf); first
      | refine Exists.intro _ (And.intro (⟨(List.length_map _).symm⟩) ?_) | refine Pure.call (f44_ok _) ?_ | refine boolF_not ?_ | refine boolF_decf (by omega) ?_)
    all_goals (conv => whnf)
    exact ⟨ownW_err 6 _⟩
  · rw [applyM, if_neg hb]
    repeat' ((conv => whnf); first
      | refine Exists.intro _ (And.intro (⟨(List.length_map _).symm⟩) ?_) | refine Pure.call (f44_ok _) ?_ | refine boolF_not ?_ | refine boolF_dect (by omega) ?_)
    all_goals (conv => whnf)
    refine W_loopG (ι := Nat) (fun i => ⟨(d35 v :: d37 ops :: D.undef :: D.undef :: D.undef :: D.undef :: .int .i64 (i:Int) :: D.undef :: D.undef :: D.undef :: D.undef :: D.undef :: D.undef :: D.undef :: D.undef :: D.undef :: D.undef :: D.undef :: D.undef :: D.undef :: D.undef :: D.undef :: D.undef :: D.undef :: D.undef :: D.undef :: D.undef :: D.undef :: D.undef :: D.undef :: D.undef :: D.undef :: D.undef :: D.undef :: D.undef :: D.undef :: D.undef :: D.undef :: D.undef :: D.undef :: D.undef :: D.undef :: []), []⟩) (fun i => ops.length - i)
      (fun i => i ≤ ops.length ∧ allOk v.length (ops.take i)) 0 (Ghost.hold [0, 1, 6] rfl) ⟨Nat.zero_le _, fun x hx => by simp at hx⟩ ?_
    rintro i ⟨h1, h2⟩
    refine exec_ok tab_ok mixed 1000 (bx := []) (own := []) ?_
    rcases Nat.lt_or_ge i ops.length with h | h
    · obtain ⟨x, hx⟩ := at_lt h
      have hxd := ho x (List.mem_of_getElem? hx)
      by_cases hok : okOp v.length x
      · repeat' ((conv => whnf); first
          | refine Exists.intro _ (And.intro (map_at (by omega) hx) ?_) | refine And.intro rfl ?_ | refine And.intro (by omega) ?_ | refine Exists.intro _ (And.intro (⟨(List.length_map _).symm⟩) ?_) | refine Exists.intro _ (And.intro (w64 (by omega) (by omega)) ?_) | refine Pure.call (f45_ok _ _ hxd) ?_ | refine boolF_not ?_ | refine boolF_dect (by assumption) ?_ | refine boolF_dect (by omega) ?_)
        all_goals (conv => whnf)
        refine ⟨i + 1, Ghost.hold [0, 1, 6] rfl, ⟨h, ?_⟩, by omega⟩
        rw [take_snoc hx]
        intro y hy
        rcases List.mem_append.mp hy with hy | hy
        · exact h2 y hy
        · simp only [List.mem_singleton] at hy; subst hy; exact hok
      · rw [if_neg (fun hh => hok (hh x (List.mem_of_getElem? hx)))]
        repeat' ((conv => whnf); first
          | refine Exists.intro _ (And.intro (map_at (by omega) hx) ?_) | refine And.intro rfl ?_ | refine And.intro (by omega) ?_ | refine Exists.intro _ (And.intro (⟨(List.length_map _).symm⟩) ?_) | refine Pure.call (f45_ok _ _ hxd) ?_ | refine boolF_not ?_ | refine boolF_decf (by assumption) ?_ | refine boolF_dect (by omega) ?_)
        all_goals (conv => whnf)
        exact ⟨ownW_err 1 _⟩
    · rw [List.take_of_length_le h] at h2
      rw [if_pos h2]
      repeat' ((conv => whnf); first
        | refine And.intro (okRows_map (fun _ _ => ⟨rfl, rfl⟩)) ?_ | refine And.intro (by omega) ?_ | refine Exists.intro _ (And.intro (⟨(List.length_map _).symm⟩) ?_) | refine boolF_decf (by omega) ?_)
      all_goals (conv => whnf)
      refine W_loopG (ι := Nat × Nat) (fun i => ⟨(D.undef :: d37 ops :: D.undef :: D.undef :: D.undef :: D.undef :: D.undef :: .h 0 i.2 0 v.length :: .int .i64 (i.1:Int) :: D.undef :: D.undef :: D.undef :: D.undef :: D.undef :: D.undef :: D.undef :: D.undef :: D.undef :: D.undef :: D.undef :: D.undef :: D.undef :: D.undef :: D.undef :: D.undef :: D.undef :: D.undef :: D.undef :: D.undef :: D.undef :: D.undef :: D.undef :: D.undef :: D.undef :: D.undef :: D.undef :: D.undef :: D.undef :: D.undef :: D.undef :: D.undef :: D.undef :: []), [.arr i.2 1 ((applyL v (ops.take i.1)).map r56)]⟩) (fun i => ops.length - i.1)
        (fun i => i.1 ≤ ops.length) (0, 0) (Ghost.hold [1, 7, 8] rfl) (Nat.zero_le _) ?_
      rintro ⟨j, ver⟩ k1
      dsimp only at k1 ⊢
      have hl := (apply_at (v := v) (allOk_take h2 j)).1
      refine exec_ok tab_ok mixed 1000 (bx := [false]) (own := []) ?_
      rcases Nat.lt_or_ge j ops.length with h | h
      · obtain ⟨x, hx⟩ := at_lt h
        have hxo := h2 x (List.mem_of_getElem? hx)
        have hs := applyL_snoc (v := v) hx
        generalize applyL v (ops.take j) = cur at hl hs ⊢
        rw [← hl] at hxo
        have h35 := f46_ok cur x (by omega) hxo
        have hl2 := (do_at hxo).1
        repeat' ((conv => whnf); first
          | refine Exists.intro _ (And.intro (map_at (by omega) hx) ?_) | refine And.intro rfl ?_ | refine And.intro (by omega) ?_ | refine Exists.intro _ (And.intro (⟨(List.length_map _).symm⟩) ?_) | refine boolF_dect (by omega) ?_)
        all_goals (conv => whnf)
        refine Owned.seeN h35 v.length (by rw [List.length_map]; omega) [(0, .arr ver 1 (cur.map r56))] (fact1 rfl) (.cons (.h List.mem_cons_self (.all (scr56 _ _)) (all_take hl.symm)) (.cons (.same (scd91 0 x)) .nil)) (bares_map fun x => trivial) (fun v1 => ?_)
        repeat' ((conv => whnf); first
          | refine Exists.intro _ (And.intro (w64 (by omega) (by omega)) ?_))
        all_goals (conv => whnf)
        refine ⟨(j + 1, v1), (Ghost.hold [1, 7, 8] rfl).trans (Ghost.pickAt 1 7 rfl (show scs 0 ((D.undef :: d37 ops :: D.undef :: D.undef :: D.undef :: D.undef :: D.undef :: D.undef :: .int .i64 ((j : Int) + 1) :: D.undef :: D.undef :: D.undef :: D.undef :: D.undef :: D.undef :: D.undef :: D.undef :: D.undef :: D.undef :: D.undef :: D.undef :: D.undef :: D.undef :: D.undef :: D.undef :: D.undef :: D.undef :: D.undef :: D.undef :: D.undef :: D.undef :: D.undef :: D.undef :: D.undef :: D.undef :: D.undef :: D.undef :: D.undef :: D.undef :: D.undef :: D.undef :: D.undef :: [])) by simp [scs, D.sc, scd37]) (by rw [hs]; rfl) (scr56 _ _)), h, by dsimp only; omega⟩
      · have e : ops.take j = ops := List.take_of_length_le h
        rw [e] at hl ⊢
        repeat' ((conv => whnf); first
          | refine Exists.intro _ (And.intro (⟨(List.length_map _).symm⟩) ?_) | refine boolF_decf (by omega) ?_)
        all_goals (conv => whnf)
        exact ⟨ownW_ok 0 _ 0 ver _ _ hl.symm rfl⟩

theorem f17_ok (v : List Nat) (ops : List Op) (hv : v.length ≤ 140737488351232) (hn : ops.length ≤ 140737488351232) (ho : bigD ops) : Pure Try.prog 17 [d35 v, d37 ops] (.tup [d35 (applyM v ops).1, .int .i64 (applyM v ops).2]) := (f17_own v ops hv hn ho).pure

end Go.Proofs.Ytgigpjkdfhhahaa.B

