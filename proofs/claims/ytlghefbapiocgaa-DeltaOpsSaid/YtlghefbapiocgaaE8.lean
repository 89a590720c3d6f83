import Derived.Test.YtlghefbapiocgaaR
import Derived.Test.YtlghefbapiocgaaA38
-- merged
namespace Go.Proofs.Ytlghefbapiocgaa.E
open Go.A
set_option linter.unusedVariables false
set_option linter.unusedSimpArgs false
set_option linter.unnecessarySimpa false
attribute [local irreducible] IntKind.wrap bitsI
set_option maxRecDepth 100000

abbrev X := T56
def endX (x : X) : Int := x.off_ + x.len_
def far : Int := 1099511627776
def mayX (x : X) : Prop := 0 ≤ x.off_ ∧ x.off_ < 1024 ∧ 1 ≤ x.len_ ∧ x.len_ ≤ 1024 - x.off_ ∧ 0 ≤ x.phys_ ∧ x.phys_ ≤ far - x.len_ ∧ 0 ≤ x.birth_ ∧ x.birth_ ≤ far
instance (x : X) : Decidable (mayX x) := inferInstanceAs (Decidable (_ ∧ _ ∧ _ ∧ _ ∧ _ ∧ _ ∧ _ ∧ _))
def listP (a : Int) : List X → Prop
  | [] => True
  | x :: l => mayX x ∧ a ≤ x.off_ ∧ listP (endX x) l
def listPd : (a : Int) → (l : List X) → Decidable (listP a l)
  | _, [] => .isTrue trivial
  | a, x :: l => @instDecidableAnd _ _ _ (@instDecidableAnd _ _ _ (listPd (endX x) l))
instance (a : Int) (l : List X) : Decidable (listP a l) := listPd a l
def meets (a b : X) : Prop := endX a = b.off_ ∧ a.phys_ + a.len_ = b.phys_ ∧ a.birth_ = b.birth_
instance (a b : X) : Decidable (meets a b) := inferInstanceAs (Decidable (_ ∧ _ ∧ _))
def apartP : List X → Prop
  | [] => True
  | [_] => True
  | x :: y :: l => ¬ meets x y ∧ apartP (y :: l)
def apartPd : (l : List X) → Decidable (apartP l)
  | [] => .isTrue trivial
  | [_] => .isTrue trivial
  | _ :: y :: l => @instDecidableAnd _ _ _ (apartPd (y :: l))
instance (l : List X) : Decidable (apartP l) := apartPd l
def rightP (l : List X) : Prop := l.length ≤ 1024 ∧ listP 0 l ∧ apartP l
instance (l : List X) : Decidable (rightP l) := inferInstanceAs (Decidable (_ ∧ _ ∧ _))

def addL (out : List X) (x : X) : List X :=
  match out[out.length - 1]? with
  | some y => if meets y x then out.set (out.length - 1) ⟨y.off_, y.len_ + x.len_, y.phys_, y.birth_⟩ else out ++ [x]
  | none => out ++ [x]
def joinL (l : List X) : List X := l.foldl addL []
def clipX (x : X) (p q : Int) : X := ⟨max p x.off_, max 0 (min q (endX x) - max p x.off_), x.phys_ + max p x.off_ - x.off_, x.birth_⟩
def part1 (x : X) (p q : Int) : List X := if 0 < (clipX x p q).len_ then [clipX x p q] else []
def partL : List X → Int → Int → List X
  | [], _, _ => []
  | x :: l, p, q => part1 x p q ++ partL l p q

/-- What a list has at a block. -/
def atL : List X → Int → Option (Int × Int)
  | [], _ => none
  | x :: l, b => if x.off_ ≤ b ∧ b < x.off_ + x.len_ then some (x.phys_ + b - x.off_, x.birth_) else atL l b
theorem at_hit {x : X} {l : List X} {b : Int} (h : x.off_ ≤ b ∧ b < x.off_ + x.len_) : atL (x :: l) b = some (x.phys_ + b - x.off_, x.birth_) := if_pos h
theorem at_miss {x : X} {l : List X} {b : Int} (h : ¬ (x.off_ ≤ b ∧ b < x.off_ + x.len_)) : atL (x :: l) b = atL l b := if_neg h

theorem atL_append (l m : List X) (b : Int) : atL (l ++ m) b = (match atL l b with | some v => some v | none => atL m b) := by
  induction l with
  | nil => rfl
  | cons x l ih =>
    rw [List.cons_append, atL, atL]
    split
    · rfl
    · exact ih

theorem listP_le {a c : Int} : ∀ {l : List X}, listP a l → c ≤ a → listP c l
  | [], _, _ => trivial
  | _ :: _, h, hc => ⟨h.1, by have := h.2.1; omega, h.2.2⟩

theorem listP_mem {a : Int} : ∀ {l : List X}, listP a l → ∀ x ∈ l, mayX x ∧ a ≤ x.off_
  | [], _, x, hx => by cases hx
  | y :: l, h, x, hx => by
    rcases List.mem_cons.mp hx with rfl | hx
    · exact ⟨h.1, h.2.1⟩
    · have h1 := listP_mem h.2.2 x hx
      have h2 := h.1; have h3 := h.2.1
      simp only [mayX, endX] at h1 h2
      exact ⟨h1.1, by have := h1.2; omega⟩

theorem listP_at_lo {a : Int} : ∀ {l : List X}, listP a l → ∀ b, b < a → atL l b = none
  | [], _, _, _ => rfl
  | x :: l, h, b, hb => by
    have h1 := h.2.1
    have h2 := h.1
    simp only [mayX] at h2
    rw [at_miss (by omega)]
    exact listP_at_lo h.2.2 b (by simp only [endX]; omega)

theorem listP_len {a : Int} : ∀ {l : List X}, listP a l → 0 ≤ a → (l.length : Int) ≤ max 0 (1024 - a)
  | [], _, _ => by simp; omega
  | x :: l, h, h0 => by
    have h1 := h.2.1
    have h2 := h.1
    simp only [mayX] at h2
    have := listP_len h.2.2 (by simp only [endX]; omega)
    simp only [endX] at this
    simp only [List.length_cons]
    omega

theorem listP_short {l : List X} (h : listP 0 l) : l.length ≤ 1024 := by
  have := listP_len h (Int.le_refl _); omega

/-- Of two lists in their form that show the same, each is the other one. -/
theorem form_eq : ∀ {l m : List X} {a c : Int}, listP a l → listP c m → apartP l → apartP m → (∀ b, atL l b = atL m b) → l = m
  | [], [], _, _, _, _, _, _, _ => rfl
  | [], y :: m, _, _, _, h2, _, _, e => by
    have := e y.off_
    have h := h2.1
    simp only [mayX] at h
    rw [at_hit (by omega)] at this
    cases this
  | x :: l, [], _, _, h1, _, _, _, e => by
    have := e x.off_
    have h := h1.1
    simp only [mayX] at h
    rw [at_hit (by omega)] at this
    cases this
  | x :: l, y :: m, a, c, h1, h2, n1, n2, e => by
    have hx := h1.1
    have hy := h2.1
    simp only [mayX] at hx hy
    have key : ∀ {x y : X} {l m : List X}, mayX x → mayX y → listP (endX x) l → listP (endX y) m → (∀ b, atL (x :: l) b = atL (y :: m) b) → x.off_ ≤ y.off_ := fun {x y l m} hx hy hl hm e => by
      rcases Int.lt_or_le y.off_ x.off_ with h | h
      · have := e y.off_
        simp only [mayX] at hx hy
        rw [listP_at_lo (a := x.off_) (l := x :: l) ⟨by simp only [mayX]; omega, Int.le_refl _, hl⟩ _ h, at_hit (by omega)] at this
        cases this
      · exact h
    have eo : x.off_ = y.off_ := by
      have k1 := key h1.1 h2.1 h1.2.2 h2.2.2 e
      have k2 := key h2.1 h1.1 h2.2.2 h1.2.2 (fun b => (e b).symm)
      omega
    have e0 := e x.off_
    rw [at_hit (by omega), at_hit (by omega)] at e0
    have e0 := Option.some.inj e0
    have ep : x.phys_ = y.phys_ := by have := congrArg Prod.fst e0; dsimp only at this; omega
    have eb : x.birth_ = y.birth_ := congrArg Prod.snd e0
    have lenk : ∀ {x y : X} {l m : List X}, mayX x → mayX y → listP (endX x) l → listP (endX y) m → apartP (x :: l) → x.off_ = y.off_ → x.phys_ = y.phys_ → x.birth_ = y.birth_ → (∀ b, atL (x :: l) b = atL (y :: m) b) → y.len_ ≤ x.len_ := fun {x y l m} hx hy hl hm hn eo ep eb e => by
      rcases Int.lt_or_le x.len_ y.len_ with h | h
      · have := e (endX x)
        simp only [mayX] at hx hy
        rw [at_miss (by simp only [endX]; omega), at_hit (by simp only [endX]; omega)] at this
        cases l with
        | nil => cases this
        | cons z l =>
          have hz := hl.1
          simp only [mayX] at hz
          have hz2 := hl.2.1
          have hzo : z.off_ = endX x := by
            rcases Int.lt_or_le (endX x) z.off_ with g | g
            · rw [listP_at_lo (a := z.off_) (l := z :: l) ⟨hl.1, Int.le_refl _, hl.2.2⟩ _ g] at this
              cases this
            · omega
          rw [at_hit (by simp only [endX] at hzo ⊢; omega)] at this
          have this := Option.some.inj this
          have t1 := congrArg Prod.fst this
          have t2 := congrArg Prod.snd this
          dsimp only at t1 t2
          exact absurd (show meets x z from ⟨hzo.symm, by simp only [endX] at hzo t1; omega, by omega⟩) hn.1
      · exact h
    have el : x.len_ = y.len_ := by
      have k1 := lenk h1.1 h2.1 h1.2.2 h2.2.2 n1 eo ep eb e
      have k2 := lenk h2.1 h1.1 h2.2.2 h1.2.2 n2 eo.symm ep.symm eb.symm (fun b => (e b).symm)
      omega
    have exy : x = y := by
      cases x; cases y; simp_all
    subst exy
    have ea : ∀ {x : X} {l : List X}, apartP (x :: l) → apartP l := fun {x l} h => by
      cases l with
      | nil => trivial
      | cons z l => exact h.2
    refine congrArg (x :: ·) (form_eq h1.2.2 h2.2.2 (ea n1) (ea n2) fun b => ?_)
    have := e b
    rcases Int.lt_or_le b (endX x) with h | h
    · rw [listP_at_lo h1.2.2 _ h, listP_at_lo h2.2.2 _ h]
    · rw [at_miss (by simp only [endX] at h; omega), at_miss (by simp only [endX] at h; omega)] at this
      exact this

/- Parts. -/
theorem clip_len (x : X) (p q : Int) : 0 < (clipX x p q).len_ ↔ max p x.off_ < min q (endX x) := by
  simp only [clipX]; omega

theorem partL_append (l m : List X) (p q : Int) : partL (l ++ m) p q = partL l p q ++ partL m p q := by
  induction l with
  | nil => rfl
  | cons x l ih => rw [List.cons_append, partL, partL, ih, List.append_assoc]

theorem at_part1 {x : X} (hx : mayX x) (p q b : Int) : atL (part1 x p q) b = if p ≤ b ∧ b < q then atL [x] b else none := by
  simp only [mayX] at hx
  unfold part1
  split
  · rename_i h
    rw [clip_len] at h
    simp only [endX] at h
    by_cases h1 : p ≤ b ∧ b < q
    · rw [if_pos h1]
      by_cases h2 : x.off_ ≤ b ∧ b < x.off_ + x.len_
      · rw [at_hit h2, at_hit (by simp only [clipX, endX]; omega)]
        simp only [clipX]
        congr 2; omega
      · rw [at_miss h2, at_miss (by simp only [clipX, endX]; omega)]
    · rw [if_neg h1, at_miss (by simp only [clipX, endX]; omega), atL]
  · rename_i h
    rw [clip_len] at h
    simp only [endX] at h
    split
    · rw [at_miss (by omega)]
    · rfl

theorem at_part {a : Int} : ∀ {l : List X}, listP a l → ∀ p q b : Int, atL (partL l p q) b = if p ≤ b ∧ b < q then atL l b else none
  | [], _, p, q, b => by simp [partL, atL]
  | x :: l, h, p, q, b => by
    rw [partL, atL_append, at_part1 h.1, at_part h.2.2]
    by_cases h1 : p ≤ b ∧ b < q
    · rw [if_pos h1, if_pos h1, if_pos h1]
      by_cases h2 : x.off_ ≤ b ∧ b < x.off_ + x.len_
      · rw [at_hit h2, at_hit h2]
      · rw [at_miss h2, at_miss h2]; rfl
    · rw [if_neg h1, if_neg h1, if_neg h1]

theorem listP_append {a c : Int} : ∀ {l m : List X}, listP a l → (∀ x ∈ l, endX x ≤ c) → a ≤ c → listP c m → listP a (l ++ m)
  | [], m, _, _, h3, h => listP_le h h3
  | x :: l, m, h1, h2, h3, h => ⟨h1.1, h1.2.1, listP_append h1.2.2 (fun y hy => h2 y (List.mem_cons_of_mem _ hy)) (h2 x (List.mem_cons_self)) h⟩

theorem part_list {a : Int} (p q : Int) : ∀ {l : List X}, listP a l → 0 ≤ a → listP (max a p) (partL l p q) ∧ ∀ x ∈ partL l p q, endX x ≤ q
  | [], _, _ => ⟨trivial, fun x hx => by cases hx⟩
  | x :: l, h, h0 => by
    have hx := h.1
    have hx2 := h.2.1
    simp only [mayX, far] at hx
    obtain ⟨i1, i2⟩ := part_list p q h.2.2 (by simp only [endX]; omega)
    rw [partL]
    unfold part1
    split
    · rename_i hc
      rw [clip_len] at hc
      simp only [endX] at hc
      refine ⟨⟨?_, ?_, listP_le i1 ?_⟩, fun y hy => ?_⟩
      · simp only [clipX, mayX, endX, far]; omega
      · simp only [clipX]; omega
      · simp only [clipX, endX]; omega
      · rcases List.mem_cons.mp hy with rfl | hy
        · simp only [clipX, endX]; omega
        · exact i2 y hy
    · exact ⟨listP_le i1 (by simp only [endX]; omega), i2⟩

/-- Behind the end nothing is part. -/
theorem part_none {a : Int} (p q : Int) : ∀ {l : List X}, listP a l → q ≤ a → partL l p q = []
  | [], _, _ => rfl
  | x :: l, h, hq => by
    have hx := h.1
    simp only [mayX] at hx
    have hx2 := h.2.1
    rw [partL, part_none p q h.2.2 (by simp only [endX]; omega), part1, if_neg, List.append_nil]
    rw [clip_len]; simp only [endX]; omega

theorem apart_cons {x : X} : ∀ {l : List X}, apartP l → (∀ y, l.head? = some y → ¬ meets x y) → apartP (x :: l)
  | [], _, _ => trivial
  | _ :: _, h, h1 => ⟨h1 _ rfl, h⟩
theorem apart_tail {x : X} : ∀ {l : List X}, apartP (x :: l) → apartP l
  | [], _ => trivial
  | _ :: _, h => h.2

theorem part_apart {a : Int} (p q : Int) : ∀ {l : List X}, listP a l → apartP l → apartP (partL l p q)
  | [], _, _ => trivial
  | x :: l, h, hn => by
    have ih := part_apart p q h.2.2 (apart_tail hn)
    have hx := h.1
    simp only [mayX] at hx
    rw [partL]
    unfold part1
    split
    · rename_i hc
      rw [clip_len] at hc
      refine apart_cons ih fun y hy => ?_
      cases l with
      | nil => cases hy
      | cons z l =>
        have hz := h.2.2.1
        simp only [mayX] at hz
        have hz2 := h.2.2.2.1
        rw [partL] at hy
        unfold part1 at hy
        split at hy
        · rename_i hcz
          rw [clip_len] at hcz
          obtain rfl : clipX z p q = y := by simpa using hy
          have := hn.1
          simp only [endX] at hc hcz hz2
          rintro ⟨m1, m2, m3⟩
          simp only [endX, clipX] at m1 m2 m3
          exact this ⟨by simp only [endX]; omega, by omega, m3⟩
        · rename_i hcz
          rw [clip_len] at hcz
          simp only [endX] at hc hcz hz2
          rw [List.nil_append, part_none p q h.2.2.2.2 (by simp only [endX]; omega)] at hy
          cases hy
    · exact ih

theorem getLast_snoc {l : List X} {z : X} : l ++ [z] ≠ [] := by simp

theorem apart_append : ∀ {l m : List X}, apartP l → apartP m → (∀ x y, l[l.length - 1]? = some x → m.head? = some y → ¬ meets x y) → apartP (l ++ m)
  | [], m, _, h2, _ => h2
  | [x], m, _, h2, h3 => apart_cons h2 fun y hy => h3 x y rfl hy
  | x :: z :: l, m, h1, h2, h3 => ⟨h1.1, apart_append (l := z :: l) h1.2 h2 fun u y hu hy => h3 u y (by simpa using hu) hy⟩

/- Joining. -/
theorem addL_ne (out : List X) (x : X) : addL out x ≠ [] := by
  unfold addL
  split
  · split
    · rename_i y hy _
      have := (List.getElem?_eq_some_iff.mp hy).1
      intro h
      have := congrArg List.length h
      rw [List.length_set] at this
      simp at this
      subst this
      simp at hy
    · simp
  · simp

theorem snoc_of {l : List X} {y : X} (h : l[l.length - 1]? = some y) : ∃ k, l = k ++ [y] := by
  obtain ⟨h1, h2⟩ := List.getElem?_eq_some_iff.mp h
  refine ⟨l.take (l.length - 1), ?_⟩
  have e := take_snoc h
  rw [show l.length - 1 + 1 = l.length by omega, List.take_length] at e
  exact e

theorem addL_snoc (k : List X) (y x : X) : addL (k ++ [y]) x = if meets y x then k ++ [⟨y.off_, y.len_ + x.len_, y.phys_, y.birth_⟩] else k ++ [y] ++ [x] := by
  have e : (k ++ [y])[(k ++ [y]).length - 1]? = some y := by simp
  rw [addL, e]
  dsimp only
  split
  · rw [List.length_append, List.length_singleton, Nat.add_sub_cancel, List.set_append_right _ _ (Nat.le_refl _), Nat.sub_self]; rfl
  · rfl

theorem addL_nil (x : X) : addL [] x = [x] := rfl

/-- A list so far, and one more behind it. -/
structure Fm (c : Int) (out : List X) : Prop where
  l : listP 0 out
  e : ∀ x ∈ out, endX x ≤ c
  n : apartP out

theorem apart_last {k : List X} {y z : X} (h : apartP (k ++ [y])) (hz : ∀ u, meets u z ↔ meets u y) : apartP (k ++ [z]) := by
  induction k with
  | nil => trivial
  | cons u k ih =>
    cases k with
    | nil => exact ⟨fun hm => h.1 ((hz _).mp hm), trivial⟩
    | cons v k => exact ⟨h.1, ih h.2⟩

theorem listP_snoc {a : Int} : ∀ {k : List X} {y : X}, listP a (k ++ [y]) → listP a k ∧ mayX y ∧ (∀ x ∈ k, endX x ≤ y.off_) ∧ a ≤ y.off_
  | [], y, h => ⟨trivial, h.1, fun x hx => (by cases hx), h.2.1⟩
  | x :: k, y, h => by
    obtain ⟨h1, h2, h3, h4⟩ := listP_snoc (k := k) h.2.2
    have h5 := h.1
    have h6 := h.2.1
    simp only [mayX] at h5
    refine ⟨⟨h.1, h.2.1, h1⟩, h2, fun u hu => ?_, by simp only [endX] at h4; omega⟩
    rcases List.mem_cons.mp hu with rfl | hu
    · exact h4
    · exact h3 u hu

theorem addL_ok {c : Int} {out : List X} {x : X} (h : Fm c out) (hx : mayX x) (hc : c ≤ x.off_) (h0 : 0 ≤ c) :
    Fm (endX x) (addL out x) ∧ ∀ b, atL (addL out x) b = atL (out ++ [x]) b := by
  have hx' := hx
  simp only [mayX] at hx'
  rcases Nat.eq_zero_or_pos out.length with hz | hz
  · obtain rfl := List.length_eq_zero_iff.mp hz
    rw [addL_nil]
    exact ⟨⟨⟨hx, by omega, trivial⟩, fun y hy => by simp only [List.mem_singleton] at hy; subst hy; exact Int.le_refl _, trivial⟩, fun _ => rfl⟩
  obtain ⟨y, hy⟩ := at_lt (l := out) (i := out.length - 1) (by omega)
  obtain ⟨k, rfl⟩ := snoc_of hy
  obtain ⟨l1, l2, l3, l4⟩ := listP_snoc h.l
  have l2' := l2
  simp only [mayX, far] at l2' hx'
  have ey := h.e y (by simp)
  rw [addL_snoc]
  split
  · rename_i hm
    obtain ⟨m1, m2, m3⟩ := hm
    simp only [endX] at m1 ey
    refine ⟨⟨?_, fun u hu => ?_, ?_⟩, fun b => ?_⟩
    · refine listP_append l1 l3 l4 ⟨?_, Int.le_refl _, trivial⟩
      simp only [mayX, far]; omega
    · rcases List.mem_append.mp hu with hu | hu
      · have := l3 u hu; simp only [endX] at this ⊢; omega
      · simp only [List.mem_singleton] at hu; subst hu; simp only [endX]; omega
    · exact apart_last h.n fun u => Iff.rfl
    · rw [List.append_assoc, atL_append, atL_append]
      split
      · rfl
      · show atL [_] b = atL [y, x] b
        by_cases b1 : y.off_ ≤ b ∧ b < y.off_ + y.len_
        · rw [at_hit b1, at_hit (by dsimp only; omega)]
        · rw [at_miss b1]
          by_cases b2 : x.off_ ≤ b ∧ b < x.off_ + x.len_
          · rw [at_hit b2, at_hit (by dsimp only; omega), m3]
            dsimp only
            congr 2; omega
          · rw [at_miss b2, at_miss (by dsimp only; omega)]
  · rename_i hm
    refine ⟨⟨listP_append h.l h.e h0 ⟨hx, hc, trivial⟩, fun u hu => ?_, ?_⟩, fun _ => rfl⟩
    · rcases List.mem_append.mp hu with hu | hu
      · have := h.e u hu; simp only [endX] at this ⊢; omega
      · simp only [List.mem_singleton] at hu; subst hu; exact Int.le_refl _
    · refine apart_append h.n trivial fun u v hu hv => ?_
      simp at hu hv
      subst hu hv
      exact hm

theorem join_ok : ∀ {l : List X} {c : Int} {out : List X}, Fm c out → 0 ≤ c → listP c l →
    (∃ d, Fm d (l.foldl addL out)) ∧ ∀ b, atL (l.foldl addL out) b = atL (out ++ l) b
  | [], c, out, h, _, _ => ⟨⟨c, h⟩, fun b => by rw [List.append_nil]; rfl⟩
  | x :: l, c, out, h, h0, hl => by
    obtain ⟨h1, h2⟩ := addL_ok h hl.1 hl.2.1 h0
    have hx := hl.1
    have hx2 := hl.2.1
    simp only [mayX] at hx
    obtain ⟨h3, h4⟩ := join_ok h1 (by simp only [endX]; omega) hl.2.2
    refine ⟨h3, fun b => ?_⟩
    rw [List.foldl_cons, h4, atL_append, h2, ← atL_append, List.append_assoc]
    rfl

theorem joinL_ok {l : List X} (h : listP 0 l) : rightP (joinL l) ∧ ∀ b, atL (joinL l) b = atL l b := by
  obtain ⟨⟨d, h1⟩, h2⟩ := join_ok (l := l) (c := 0) (out := []) ⟨trivial, fun x hx => by (cases hx), trivial⟩ (Int.le_refl _) h
  exact ⟨⟨listP_short h1.l, h1.l, h1.n⟩, h2⟩

theorem join_apart : ∀ {l out : List X}, apartP (out ++ l) → l.foldl addL out = out ++ l
  | [], out, _ => by simp
  | x :: l, out, h => by
    rw [List.foldl_cons]
    have e : addL out x = out ++ [x] := by
      unfold addL
      split
      · rename_i y hy
        obtain ⟨k, rfl⟩ := snoc_of hy
        rw [if_neg]
        intro hm
        have : ∀ {k : List X} {y x : X} {l : List X}, apartP (k ++ [y] ++ x :: l) → ¬ meets y x := fun {k y x l} h => by
          induction k with
          | nil => exact h.1
          | cons u k ih => exact ih (apart_tail h)
        exact this h hm
      · rfl
    rw [e, join_apart (by rw [List.append_assoc]; exact h), List.append_assoc]
    rfl

def withL (l : List X) (off n : Int) (ins : List X) : List X := joinL (partL l 0 off ++ ins ++ partL l (off + n) 1024)
def ext (off n : Int) : Prop := 0 ≤ off ∧ off < 1024 ∧ 1 ≤ n ∧ n ≤ 1024 - off
instance (off n : Int) : Decidable (ext off n) := inferInstanceAs (Decidable (_ ∧ _ ∧ _ ∧ _))

theorem at_hi {a : Int} : ∀ {l : List X}, listP a l → ∀ b, 1024 ≤ b → atL l b = none
  | [], _, _, _ => rfl
  | x :: l, h, b, hb => by
    have h2 := h.1
    simp only [mayX] at h2
    rw [at_miss (by omega)]
    exact at_hi h.2.2 b hb

theorem with_list {l : List X} {off n : Int} {ins : List X} (hl : listP 0 l) (he : ext off n) (hi : listP off ins) (hi2 : ∀ x ∈ ins, endX x ≤ off + n) :
    listP 0 (partL l 0 off ++ ins ++ partL l (off + n) 1024) := by
  simp only [ext] at he
  obtain ⟨p1, p2⟩ := part_list 0 off hl (Int.le_refl _)
  obtain ⟨q1, q2⟩ := part_list (off + n) 1024 hl (Int.le_refl _)
  rw [List.append_assoc]
  refine listP_append (listP_le p1 (by omega)) p2 he.1 ?_
  exact listP_append hi hi2 (by omega) (listP_le q1 (by omega))

theorem with_ok {l : List X} {off n : Int} {ins : List X} (hl : listP 0 l) (he : ext off n) (hi : listP off ins) (hi2 : ∀ x ∈ ins, endX x ≤ off + n) :
    rightP (withL l off n ins) ∧ ∀ b, atL (withL l off n ins) b = if off ≤ b ∧ b < off + n then atL ins b else atL l b := by
  obtain ⟨h1, h2⟩ := joinL_ok (with_list hl he hi hi2)
  refine ⟨h1, fun b => ?_⟩
  simp only [ext] at he
  rw [withL, h2, atL_append, atL_append, at_part hl, at_part hl]
  have hin : ∀ b, ¬ (off ≤ b ∧ b < off + n) → atL ins b = none := fun b hb => by
    rcases Int.lt_or_le b off with h | h
    · exact listP_at_lo hi b h
    · have : ∀ {l : List X}, (∀ x ∈ l, endX x ≤ off + n) → atL l b = none := fun {l} hl => by
        induction l with
        | nil => rfl
        | cons x l ih =>
          have := hl x List.mem_cons_self
          rw [at_miss (by simp only [endX] at this; omega)]
          exact ih fun y hy => hl y (List.mem_cons_of_mem _ hy)
      exact this hi2
  by_cases hb : off ≤ b ∧ b < off + n
  · rw [if_pos hb, if_neg (by omega), if_neg (by omega)]
    dsimp only
    cases atL ins b <;> rfl
  · rw [if_neg hb, hin b hb]
    by_cases h1 : 0 ≤ b ∧ b < off
    · rw [if_pos h1, if_neg (by omega)]
      cases atL l b <;> rfl
    · rw [if_neg h1]
      dsimp only
      by_cases h2 : off + n ≤ b ∧ b < 1024
      · rw [if_pos h2]
      · rw [if_neg h2]
        rcases Int.lt_or_le b 0 with h | h
        · exact (listP_at_lo hl b h).symm
        · exact (at_hi hl b (by omega)).symm

/-- What lies about a gap needs no joining. -/
theorem with_nil {l : List X} {off n : Int} (hl : rightP l) (he : ext off n) : withL l off n [] = partL l 0 off ++ partL l (off + n) 1024 := by
  simp only [ext] at he
  obtain ⟨_, h1, h2⟩ := hl
  rw [withL, List.append_nil, joinL, join_apart, List.nil_append]
  rw [List.nil_append]
  refine apart_append (part_apart _ _ h1 h2) (part_apart _ _ h1 h2) fun x y hx hy => ?_
  have hx := (part_list 0 off h1 (Int.le_refl _)).2 x (List.mem_of_getElem? hx)
  have hy := (listP_mem (part_list (off + n) 1024 h1 (Int.le_refl _)).1 y (List.mem_of_head? hy)).2
  rintro ⟨m1, _, _⟩
  omega

theorem right_len {l : List X} (h : rightP l) : l.length ≤ 1024 := h.1

end Go.Proofs.Ytlghefbapiocgaa.E


namespace Go.Proofs.Ytlghefbapiocgaa.E
open Go.A
set_option linter.unusedVariables false
set_option linter.unusedSimpArgs false
set_option linter.unnecessarySimpa false
attribute [local irreducible] IntKind.wrap bitsI
set_option maxRecDepth 100000
set_option maxHeartbeats 4000000

theorem sc57 (k : Nat) (x : X) : (d57 x).sc k := by simp [d57, c57, D.sc, d3, scs]
theorem scc57 (k : Nat) (x : X) : scs k (c57 x) := by simp [c57, D.sc, d3, scs]
theorem sc22 (k : Nat) (l : List X) : (d22 l).sc k := by simp [d22, D.sc, scs_map]; intro x _; exact sc57 k x
theorem scr57 (k : Nat) (l : List X) : scs k (l.map r57) := by simp [scs_map]; intro x _; exact sc57 k x
theorem mayX_ext {x : X} (h : mayX x) : ext x.off_ x.len_ := ⟨h.1, h.2.1, h.2.2.1, h.2.2.2.1⟩

theorem f52_ok (x : X) (hx : mayX x) : Pure Try.prog 52 [d57 x] (.int .i64 (endX x)) := by
  simp only [mayX] at hx
  refine Pure.of ⟨sc57 _ _, trivial⟩ trivial ?_
  refine Go.A.CallsIn.of_exec tab_ok mixed Try.func52 rfl rfl [] [] ?_
  repeat' ((conv => whnf); first
    | refine Exists.intro _ (And.intro (w64 (by omega) (by omega)) ?_))
  all_goals (conv => whnf)
  exact ⟨rfl⟩

theorem f58_ok (a n : Int) : Pure Try.prog 58 [.int .i64 a, .int .i64 n] (.bool (decide (ext a n))) := by
  refine Pure.of ⟨trivial, trivial, trivial⟩ trivial ?_
  refine Go.A.CallsIn.of_exec tab_ok mixed Try.func58 rfl rfl [] [] ?_
  repeat' ((conv => whnf); first
    | refine Exists.intro _ (And.intro (w64 (by omega) (by omega)) ?_) | refine boolF_dec (fun _ => ?_) (fun _ => ?_))
  all_goals (conv => whnf)
  all_goals simp only [ext]
  all_goals (first
    | exact ⟨rfl⟩
    | exact ⟨bool_t (by omega)⟩
    | exact ⟨bool_f (by omega)⟩
    | exact ⟨bool_iff (by omega)⟩
    | exact ⟨bool_beq (by omega)⟩
    | exact ⟨bool_bne (by omega)⟩
    | exact ⟨bool_not (by omega)⟩)

theorem f41_ok (a n : Int) : Pure Try.prog 41 [.int .i64 a, .int .i64 n] (.bool (decide (ext a n))) := by
  refine Pure.of ⟨trivial, trivial, trivial⟩ trivial ?_
  refine Go.A.CallsIn.of_exec tab_ok mixed Try.func41 rfl rfl [] [] ?_
  repeat' ((conv => whnf); first
    | refine Exists.intro _ (And.intro (w64 (by omega) (by omega)) ?_) | refine boolF_dec (fun _ => ?_) (fun _ => ?_))
  all_goals (conv => whnf)
  all_goals simp only [ext]
  all_goals (first
    | exact ⟨rfl⟩
    | exact ⟨bool_t (by omega)⟩
    | exact ⟨bool_f (by omega)⟩
    | exact ⟨bool_iff (by omega)⟩
    | exact ⟨bool_beq (by omega)⟩
    | exact ⟨bool_bne (by omega)⟩
    | exact ⟨bool_not (by omega)⟩)


theorem f51_ok (x : X) : Pure Try.prog 51 [d57 x] (.bool (decide (mayX x))) := by
  refine Pure.of ⟨sc57 _ _, trivial⟩ trivial ?_
  refine Go.A.CallsIn.of_exec tab_ok mixed Try.func51 rfl rfl [] [] ?_
  by_cases h : ext x.off_ x.len_
  · have h' := h
    simp only [ext] at h'
    repeat' ((conv => whnf); first
      | refine Exists.intro _ (And.intro (w64 (by omega) (by omega)) ?_) | refine Pure.call (f58_ok _ _) ?_ | refine boolF_dect (by assumption) ?_ | refine boolF_dec (fun _ => ?_) (fun _ => ?_))
    all_goals (conv => whnf)
    all_goals simp only [mayX, far]
    all_goals (first
      | exact ⟨rfl⟩
      | exact ⟨bool_t (by omega)⟩
      | exact ⟨bool_f (by omega)⟩
      | exact ⟨bool_iff (by omega)⟩
      | exact ⟨bool_beq (by omega)⟩
      | exact ⟨bool_bne (by omega)⟩
      | exact ⟨bool_not (by omega)⟩)
  · repeat' ((conv => whnf); first
      | refine Pure.call (f58_ok _ _) ?_ | refine boolF_decf (by assumption) ?_)
    all_goals (conv => whnf)
    all_goals simp only [mayX, far]; simp only [ext] at h
    all_goals (first
      | exact ⟨rfl⟩
      | exact ⟨bool_t (by omega)⟩
      | exact ⟨bool_f (by omega)⟩
      | exact ⟨bool_iff (by omega)⟩
      | exact ⟨bool_beq (by omega)⟩
      | exact ⟨bool_bne (by omega)⟩
      | exact ⟨bool_not (by omega)⟩)

theorem f38_ok (x : X) : Pure Try.prog 38 [d57 x] (.bool (decide (mayX x))) := by
  refine Pure.of ⟨sc57 _ _, trivial⟩ trivial ?_
  refine Go.A.CallsIn.of_exec tab_ok mixed Try.func38 rfl rfl [] [] ?_
  by_cases h : ext x.off_ x.len_
  · have h' := h
    simp only [ext] at h'
    repeat' ((conv => whnf); first
      | refine Exists.intro _ (And.intro (w64 (by omega) (by omega)) ?_) | refine Pure.call (f41_ok _ _) ?_ | refine boolF_dect (by assumption) ?_ | refine boolF_dec (fun _ => ?_) (fun _ => ?_))
    all_goals (conv => whnf)
    all_goals simp only [mayX, far]
    all_goals (first
      | exact ⟨rfl⟩
      | exact ⟨bool_t (by omega)⟩
      | exact ⟨bool_f (by omega)⟩
      | exact ⟨bool_iff (by omega)⟩
      | exact ⟨bool_beq (by omega)⟩
      | exact ⟨bool_bne (by omega)⟩
      | exact ⟨bool_not (by omega)⟩)
  · repeat' ((conv => whnf); first
      | refine Pure.call (f41_ok _ _) ?_ | refine boolF_decf (by assumption) ?_)
    all_goals (conv => whnf)
    all_goals simp only [mayX, far]; simp only [ext] at h
    all_goals (first
      | exact ⟨rfl⟩
      | exact ⟨bool_t (by omega)⟩
      | exact ⟨bool_f (by omega)⟩
      | exact ⟨bool_iff (by omega)⟩
      | exact ⟨bool_beq (by omega)⟩
      | exact ⟨bool_bne (by omega)⟩
      | exact ⟨bool_not (by omega)⟩)

theorem f37_ok (x y : X) (hx : mayX x) : Pure Try.prog 37 [d57 x, d57 y] (.bool (decide (meets x y))) := by
  simp only [mayX, far] at hx
  refine Pure.of ⟨sc57 _ _, sc57 _ _, trivial⟩ trivial ?_
  refine Go.A.CallsIn.of_exec tab_ok mixed Try.func37 rfl rfl [] [] ?_
  repeat' ((conv => whnf); first
    | refine Exists.intro _ (And.intro (w64 (by omega) (by omega)) ?_) | refine boolF_dec (fun _ => ?_) (fun _ => ?_))
  all_goals (conv => whnf)
  all_goals simp only [meets, endX]
  all_goals (first
    | exact ⟨rfl⟩
    | exact ⟨bool_t (by omega)⟩
    | exact ⟨bool_f (by omega)⟩
    | exact ⟨bool_iff (by omega)⟩
    | exact ⟨bool_beq (by omega)⟩
    | exact ⟨bool_bne (by omega)⟩
    | exact ⟨bool_not (by omega)⟩)

theorem f43_ok (x y : X) (hx : mayX x) : Pure Try.prog 43 [d57 x, d57 y] (.bool (decide (meets x y))) := by
  have hx' := hx
  simp only [mayX, far] at hx'
  refine Pure.of ⟨sc57 _ _, sc57 _ _, trivial⟩ trivial ?_
  refine Go.A.CallsIn.of_exec tab_ok mixed Try.func43 rfl rfl [] [] ?_
  repeat' ((conv => whnf); first
    | refine PairK.mk (by kernel_rfl) ?_ | refine Exists.intro _ (And.intro (w64 (by omega) (by omega)) ?_) | refine Pure.locK (f52_ok _ hx) ?_ | refine boolF_dec (fun _ => ?_) (fun _ => ?_))
  all_goals (conv => whnf)
  all_goals simp only [meets]
  all_goals (first
    | exact ⟨rfl⟩
    | exact ⟨bool_t (by omega)⟩
    | exact ⟨bool_f (by omega)⟩
    | exact ⟨bool_iff (by omega)⟩
    | exact ⟨bool_beq (by omega)⟩
    | exact ⟨bool_bne (by omega)⟩
    | exact ⟨bool_not (by omega)⟩)

end Go.Proofs.Ytlghefbapiocgaa.E


namespace Go.Proofs.Ytlghefbapiocgaa.E
open Go.A
set_option linter.unusedVariables false
set_option linter.unusedSimpArgs false
set_option linter.unnecessarySimpa false
attribute [local irreducible] IntKind.wrap bitsI
set_option maxRecDepth 100000
set_option maxHeartbeats 4000000

theorem f42_ok (l : List X) (hlen : l.length ≤ 140737488351232) : Pure Try.prog 42 [d22 l] (.bool (decide (listP 0 l))) := by
  refine Pure.of ⟨sc22 _ _, trivial⟩ trivial ?_
  refine Go.A.CallsIn.of_exec tab_ok mixed Try.func42 rfl rfl [] [] ?_
  repeat' ((conv => whnf); first
    | refine Exists.intro _ (And.intro (⟨(List.length_map _).symm⟩) ?_))
  all_goals (conv => whnf)
  refine W_loopG (ι := Nat × Int) (fun i => ⟨(D.undef :: D.undef :: D.undef :: .int .i64 i.2 :: D.undef :: D.undef :: d22 l :: .int .i64 (l.length : Int) :: .int .i64 (i.1:Int) :: D.undef :: D.undef :: D.undef :: D.undef :: D.undef :: D.undef :: D.undef :: D.undef :: D.undef :: D.undef :: D.undef :: D.undef :: D.undef :: D.undef :: D.undef :: []), []⟩) (fun i => l.length - i.1)
    (fun i => i.1 ≤ l.length ∧ (listP i.2 (l.drop i.1) ↔ listP 0 l)) (0, 0) (Ghost.hold [3, 6, 7, 8] rfl) ⟨Nat.zero_le _, Iff.rfl⟩ ?_
  rintro ⟨i, a⟩ ⟨h1, h2⟩
  dsimp only at h1 h2 ⊢
  refine exec_ok tab_ok mixed 1000 (bx := []) (own := []) ?_
  rcases Nat.lt_or_ge i l.length with h | h
  · obtain ⟨x, hx⟩ := at_lt h
    rw [drop_of_get hx, listP] at h2
    by_cases hm : mayX x
    · by_cases ho : a ≤ x.off_
      · repeat' ((conv => whnf); first
          | refine Exists.intro _ (And.intro (map_at (by omega) hx) ?_) | refine And.intro (by decide) ?_ | refine And.intro rfl ?_ | refine And.intro (Nat.le_of_ble_eq_true rfl) ?_ | refine And.intro (by omega) ?_ | refine Exists.intro _ (And.intro (w64 (by omega) (by omega)) ?_) | refine Pure.call (f51_ok _) ?_ | refine Pure.call (f52_ok _ (by assumption)) ?_ | refine boolF_not ?_ | refine boolF_dect (by assumption) ?_ | refine boolF_dect (by omega) ?_ | refine boolF_decf (by omega) ?_)
        all_goals (conv => whnf)
        exact ⟨(i + 1, endX x), Ghost.back [3, 6, 7, 8] 0 rfl rfl (Nat.zero_le _) (by simp [scs, D.sc, sc22]) (by simp), ⟨by omega, by rw [← h2]; exact ⟨fun h => ⟨hm, ho, h⟩, fun h => h.2.2⟩⟩, by dsimp only; omega⟩
      · repeat' ((conv => whnf); first
          | refine Exists.intro _ (And.intro (map_at (by omega) hx) ?_) | refine And.intro (by decide) ?_ | refine And.intro rfl ?_ | refine And.intro (Nat.le_of_ble_eq_true rfl) ?_ | refine And.intro (by omega) ?_ | refine Pure.call (f51_ok _) ?_ | refine boolF_not ?_ | refine boolF_dect (by assumption) ?_ | refine boolF_dect (by omega) ?_)
        all_goals (conv => whnf)
        exact ⟨bool_f (fun hh => ho (h2.mpr hh).2.1)⟩
    · repeat' ((conv => whnf); first
        | refine Exists.intro _ (And.intro (map_at (by omega) hx) ?_) | refine And.intro (by decide) ?_ | refine And.intro rfl ?_ | refine And.intro (by omega) ?_ | refine Pure.call (f51_ok _) ?_ | refine boolF_not ?_ | refine boolF_decf (by assumption) ?_ | refine boolF_dect (by omega) ?_)
      all_goals (conv => whnf)
      exact ⟨bool_f (fun hh => hm (h2.mpr hh).1)⟩
  · rw [List.drop_of_length_le h] at h2
    repeat' ((conv => whnf); first
      | refine boolF_decf (by omega) ?_)
    all_goals (conv => whnf)
    exact ⟨bool_t (h2.mp trivial)⟩

theorem f36_ok (l : List X) (hlen : l.length ≤ 140737488351232) : Pure Try.prog 36 [d22 l] (.bool (decide (listP 0 l))) := by
  refine Pure.of ⟨sc22 _ _, trivial⟩ trivial ?_
  refine Go.A.CallsIn.of_exec tab_ok mixed Try.func36 rfl rfl [] [] ?_
  (conv => whnf)
  refine W_loopG (ι := Nat × Int) (fun i => ⟨(d22 l :: D.undef :: D.undef :: .int .i64 (i.1:Int) :: D.undef :: D.undef :: D.undef :: D.undef :: D.undef :: D.undef :: D.undef :: D.undef :: D.undef :: D.undef :: D.undef :: D.undef :: D.undef :: D.undef :: D.undef :: D.undef :: D.undef :: D.undef :: D.undef :: D.undef :: D.undef :: D.undef :: D.undef :: D.undef :: D.undef :: D.undef :: D.undef :: D.undef :: D.undef :: D.undef :: D.undef :: D.undef :: D.undef :: D.undef :: D.undef :: D.undef :: D.undef :: []), []⟩) (fun i => l.length - i.1)
    (fun i => i.1 ≤ l.length ∧ (listP i.2 (l.drop i.1) ↔ listP 0 l) ∧ (i.1 = 0 → i.2 = 0) ∧ ∀ y, 0 < i.1 → l[i.1 - 1]? = some y → i.2 = endX y ∧ mayX y) (0, 0) (Ghost.hold [0, 3] rfl) ⟨Nat.zero_le _, Iff.rfl, fun _ => rfl, fun _ h => absurd h (Nat.lt_irrefl _)⟩ ?_
  rintro ⟨i, a⟩ ⟨h1, h2, h3, h4⟩
  dsimp only at h1 h2 h3 h4 ⊢
  refine exec_ok tab_ok mixed 1000 (bx := []) (own := []) ?_
  rcases Nat.lt_or_ge i l.length with h | h
  · obtain ⟨x, hx⟩ := at_lt h
    rw [drop_of_get hx, listP] at h2
    by_cases hm : mayX x
    · have hnext : a ≤ x.off_ → ∃ j : Nat × Int, (Ghost 0 ((d22 l :: D.undef :: D.undef :: .int .i64 ((i + 1 : Nat):Int) :: D.undef :: D.undef :: D.undef :: D.undef :: D.undef :: D.undef :: D.undef :: D.undef :: D.undef :: D.undef :: D.undef :: D.undef :: D.undef :: D.undef :: D.undef :: D.undef :: D.undef :: D.undef :: D.undef :: D.undef :: D.undef :: D.undef :: D.undef :: D.undef :: D.undef :: D.undef :: D.undef :: D.undef :: D.undef :: D.undef :: D.undef :: D.undef :: D.undef :: D.undef :: D.undef :: D.undef :: D.undef :: [])) [] ((d22 l :: D.undef :: D.undef :: .int .i64 (j.1:Int) :: D.undef :: D.undef :: D.undef :: D.undef :: D.undef :: D.undef :: D.undef :: D.undef :: D.undef :: D.undef :: D.undef :: D.undef :: D.undef :: D.undef :: D.undef :: D.undef :: D.undef :: D.undef :: D.undef :: D.undef :: D.undef :: D.undef :: D.undef :: D.undef :: D.undef :: D.undef :: D.undef :: D.undef :: D.undef :: D.undef :: D.undef :: D.undef :: D.undef :: D.undef :: D.undef :: D.undef :: D.undef :: [])) []) ∧ (j.1 ≤ l.length ∧ (listP j.2 (l.drop j.1) ↔ listP 0 l) ∧ (j.1 = 0 → j.2 = 0) ∧ ∀ y, 0 < j.1 → l[j.1 - 1]? = some y → j.2 = endX y ∧ mayX y) ∧ l.length - j.1 < l.length - i := fun ho => by
        refine ⟨(i + 1, endX x), Ghost.refl _ _ _, ⟨by dsimp only; omega, by dsimp only; rw [← h2]; exact ⟨fun h => ⟨hm, ho, h⟩, fun h => h.2.2⟩, fun h => absurd h (Nat.succ_ne_zero _), fun y _ hy => ?_⟩, by dsimp only; omega⟩
        dsimp only at hy ⊢
        rw [Nat.add_sub_cancel, hx] at hy
        obtain rfl := Option.some.inj hy
        exact ⟨rfl, hm⟩
      rcases Nat.eq_zero_or_pos i with h0 | h0
      · have ha : a = 0 := h3 h0
        have hm' := hm
        simp only [mayX] at hm'
        obtain ⟨j, g1, g2, g3⟩ := hnext (by omega)
        repeat' ((conv => whnf); first
          | refine PairK.mk (by kernel_rfl) ?_ | refine Exists.intro _ (And.intro (map_at (by omega) hx) ?_) | refine And.intro rfl ?_ | refine And.intro (by omega) ?_ | refine Exists.intro _ (And.intro (⟨(List.length_map _).symm⟩) ?_) | refine Exists.intro _ (And.intro (w64 (by omega) (by omega)) ?_) | refine Pure.locK (f38_ok _) ?_ | refine boolF_not ?_ | refine boolF_dect (by assumption) ?_ | refine boolF_dect (by omega) ?_ | refine boolF_decf (by omega) ?_)
        all_goals (conv => whnf)
        exact ⟨j, (Ghost.hold [0, 3] rfl).trans g1, g2, g3⟩
      · obtain ⟨y, hy⟩ := at_lt (l := l) (i := i - 1) (by omega)
        obtain ⟨e1, e2⟩ := h4 y h0 hy
        simp only [endX] at e1
        simp only [mayX] at e2
        by_cases ho : a ≤ x.off_
        · obtain ⟨j, g1, g2, g3⟩ := hnext ho
          repeat' ((conv => whnf); first
            | refine PairK.mk (by kernel_rfl) ?_ | refine Exists.intro _ (And.intro (map_at (by omega) hx) ?_) | refine Exists.intro _ (And.intro (map_at (by omega) hy) ?_) | refine And.intro rfl ?_ | refine And.intro (by omega) ?_ | refine Exists.intro _ (And.intro (⟨(List.length_map _).symm⟩) ?_) | refine Exists.intro _ (And.intro (w64 (by omega) (by omega)) ?_) | refine Pure.locK (f38_ok _) ?_ | refine boolF_not ?_ | refine boolF_dect (by assumption) ?_ | refine boolF_dect (by omega) ?_ | refine boolF_decf (by omega) ?_)
          all_goals (conv => whnf)
          exact ⟨j, (Ghost.hold [0, 3] rfl).trans g1, g2, g3⟩
        · repeat' ((conv => whnf); first
            | refine PairK.mk (by kernel_rfl) ?_ | refine Exists.intro _ (And.intro (map_at (by omega) hx) ?_) | refine Exists.intro _ (And.intro (map_at (by omega) hy) ?_) | refine And.intro rfl ?_ | refine And.intro (by omega) ?_ | refine Exists.intro _ (And.intro (⟨(List.length_map _).symm⟩) ?_) | refine Exists.intro _ (And.intro (w64 (by omega) (by omega)) ?_) | refine Pure.locK (f38_ok _) ?_ | refine boolF_not ?_ | refine boolF_dect (by assumption) ?_ | refine boolF_dect (by omega) ?_)
          all_goals (conv => whnf)
          exact ⟨bool_f (fun hh => ho (h2.mpr hh).2.1)⟩
    · repeat' ((conv => whnf); first
        | refine PairK.mk (by kernel_rfl) ?_ | refine Exists.intro _ (And.intro (map_at (by omega) hx) ?_) | refine And.intro rfl ?_ | refine And.intro (by omega) ?_ | refine Exists.intro _ (And.intro (⟨(List.length_map _).symm⟩) ?_) | refine Pure.locK (f38_ok _) ?_ | refine boolF_not ?_ | refine boolF_decf (by assumption) ?_ | refine boolF_dect (by omega) ?_)
      all_goals (conv => whnf)
      exact ⟨bool_f (fun hh => hm (h2.mpr hh).1)⟩
  · rw [List.drop_of_length_le h] at h2
    repeat' ((conv => whnf); first
      | refine Exists.intro _ (And.intro (⟨(List.length_map _).symm⟩) ?_) | refine boolF_decf (by omega) ?_)
    all_goals (conv => whnf)
    exact ⟨bool_t (h2.mp trivial)⟩

theorem apart_drop : ∀ {l : List X} {i : Nat}, apartP l → apartP (l.drop i)
  | _, 0, h => by simpa using h
  | [], _ + 1, h => h
  | _ :: _, i + 1, h => apart_drop (i := i) (apart_tail h)
theorem apart_all : ∀ {l : List X}, (∀ i x y, l[i]? = some x → l[i + 1]? = some y → ¬ meets x y) → apartP l
  | [], _ => trivial
  | [_], _ => trivial
  | x :: y :: l, h => ⟨h 0 x y rfl rfl, apart_all fun i u v hu hv => h (i + 1) u v (by simpa using hu) (by simpa using hv)⟩
theorem apart_get : ∀ {l : List X} (_ : apartP l) (i : Nat) (x y : X), l[i]? = some x → l[i + 1]? = some y → ¬ meets x y
  | [], _, i, x, y, h, _ => by simp at h
  | [_], _, i, x, y, _, h => by simp at h
  | a :: b :: l, hp, 0, x, y, h1, h2 => by simp at h1 h2; subst h1 h2; exact hp.1
  | a :: b :: l, hp, i + 1, x, y, h1, h2 => apart_get hp.2 i x y (by simpa using h1) (by simpa using h2)

theorem f22_ok (l : List X) (hlen : l.length ≤ 140737488351232) : Pure Try.prog 22 [d22 l] (.bool (decide (rightP l))) := by
  refine Pure.of ⟨sc22 _ _, trivial⟩ trivial ?_
  refine Go.A.CallsIn.of_exec tab_ok mixed Try.func22 rfl rfl [] [] ?_
  by_cases hb : l.length ≤ 1024
  · by_cases hl : listP 0 l
    · have hall := fun x hx => listP_mem hl x hx
      repeat' ((conv => whnf); first
        | refine Exists.intro _ (And.intro (⟨(List.length_map _).symm⟩) ?_) | refine Pure.call (f36_ok _ hlen) ?_ | refine boolF_not ?_ | refine boolF_dect (by assumption) ?_ | refine boolF_decf (by omega) ?_)
      all_goals (conv => whnf)
      refine W_loopG (ι := Nat) (fun i => ⟨(d22 l :: D.undef :: D.undef :: .int .i64 ((i + 1 : Nat):Int) :: D.undef :: D.undef :: D.undef :: D.undef :: D.undef :: D.undef :: D.undef :: D.undef :: D.undef :: D.undef :: D.undef :: D.undef :: D.undef :: D.undef :: D.undef :: D.undef :: D.undef :: D.undef :: D.undef :: D.undef :: D.undef :: D.undef :: D.undef :: D.undef :: []), []⟩) (fun i => l.length - i)
        (fun i => i ≤ l.length ∧ ∀ j x y, j < i → l[j]? = some x → l[j + 1]? = some y → ¬ meets x y) 0 (Ghost.hold [0, 3] rfl) ⟨Nat.zero_le _, fun j x y h => absurd h (Nat.not_lt_zero _)⟩ ?_
      rintro i ⟨h1, h2⟩
      refine exec_ok tab_ok mixed 1000 (bx := []) (own := []) ?_
      rcases Nat.lt_or_ge (i + 1) l.length with h | h
      · obtain ⟨x, hx⟩ := at_lt h
        obtain ⟨y, hy⟩ := at_lt (l := l) (i := i) (by omega)
        by_cases hm : meets y x
        · repeat' ((conv => whnf); first
            | refine PairK.mk (by kernel_rfl) ?_ | refine Exists.intro _ (And.intro (map_at (by omega) hx) ?_) | refine Exists.intro _ (And.intro (map_at (by omega) hy) ?_) | refine And.intro rfl ?_ | refine And.intro (by omega) ?_ | refine Exists.intro _ (And.intro (⟨(List.length_map _).symm⟩) ?_) | refine Exists.intro _ (And.intro (w64 (by omega) (by omega)) ?_) | refine Pure.locK (f37_ok _ _ (hall _ (List.mem_of_getElem? hy)).1) ?_ | refine boolF_dect (by assumption) ?_ | refine boolF_dect (by omega) ?_)
          all_goals (conv => whnf)
          exact ⟨bool_f (fun hh => apart_get hh.2.2 i y x hy hx hm)⟩
        · repeat' ((conv => whnf); first
            | refine PairK.mk (by kernel_rfl) ?_ | refine Exists.intro _ (And.intro (map_at (by omega) hx) ?_) | refine Exists.intro _ (And.intro (map_at (by omega) hy) ?_) | refine And.intro rfl ?_ | refine And.intro (by omega) ?_ | refine Exists.intro _ (And.intro (⟨(List.length_map _).symm⟩) ?_) | refine Exists.intro _ (And.intro (w64 (by omega) (by omega)) ?_) | refine Pure.locK (f37_ok _ _ (hall _ (List.mem_of_getElem? hy)).1) ?_ | refine boolF_decf (by assumption) ?_ | refine boolF_dect (by omega) ?_)
          all_goals (conv => whnf)
          refine ⟨i + 1, Ghost.hold [0, 3] rfl, ⟨by omega, fun j u v hj hu hv => ?_⟩, by omega⟩
          rcases Nat.lt_or_ge j i with g | g
          · exact h2 j u v g hu hv
          · obtain rfl : j = i := by omega
            rw [hy] at hu; rw [hx] at hv
            obtain rfl := Option.some.inj hu
            obtain rfl := Option.some.inj hv
            exact hm
      · repeat' ((conv => whnf); first
          | refine Exists.intro _ (And.intro (⟨(List.length_map _).symm⟩) ?_) | refine boolF_decf (by omega) ?_)
        all_goals (conv => whnf)
        refine ⟨bool_t ⟨hb, hl, apart_all fun j x y hx hy => h2 j x y ?_ hx hy⟩⟩
        have := (List.getElem?_eq_some_iff.mp hy).1
        omega
    · repeat' ((conv => whnf); first
        | refine Exists.intro _ (And.intro (⟨(List.length_map _).symm⟩) ?_) | refine Pure.call (f36_ok _ hlen) ?_ | refine boolF_not ?_ | refine boolF_decf (by assumption) ?_ | refine boolF_decf (by omega) ?_)
      all_goals (conv => whnf)
      exact ⟨bool_f (fun hh => hl hh.2.1)⟩
  · repeat' ((conv => whnf); first
      | refine Exists.intro _ (And.intro (⟨(List.length_map _).symm⟩) ?_) | refine boolF_dect (by omega) ?_)
    all_goals (conv => whnf)
    exact ⟨bool_f (fun hh => hb hh.1)⟩

theorem f25_ok (l : List X) (hlen : l.length ≤ 140737488351232) : Pure Try.prog 25 [d22 l] (.bool (decide (rightP l))) := by
  refine Pure.of ⟨sc22 _ _, trivial⟩ trivial ?_
  refine Go.A.CallsIn.of_exec tab_ok mixed Try.func25 rfl rfl [] [] ?_
  by_cases hb : l.length ≤ 1024
  · by_cases hl : listP 0 l
    · have hall := fun x hx => listP_mem hl x hx
      obtain ⟨m, hm⟩ : ∃ m : Nat, m = min 1 l.length := ⟨_, rfl⟩
      have hm2 : min (1 : Int) (l.length : Int) = (m : Int) := by omega
      have hdl : (l.drop m).length = l.length - m := List.length_drop
      repeat' ((conv => whnf); first
        | refine Exists.intro (m) (And.intro (⟨hm2⟩) (And.intro (by omega) ?_)) | refine And.intro (cells_map (fun _ => rfl)) ?_ | refine Exists.intro _ (And.intro (⟨(List.length_map _).symm⟩) ?_) | refine Exists.intro _ (And.intro (⟨List.map_drop⟩) ?_) | refine Exists.intro _ (And.intro (imin) ?_) | refine Pure.call (f42_ok _ hlen) ?_ | refine boolF_not ?_ | refine boolF_dect (by assumption) ?_ | refine boolF_decf (by omega) ?_)
      all_goals (conv => whnf)
      refine W_loopG (ι := Nat) (fun i => ⟨(d22 l :: D.undef :: D.undef :: D.undef :: D.undef :: D.undef :: D.undef :: D.undef :: D.undef :: D.undef :: D.undef :: D.undef :: D.undef :: D.undef :: D.undef :: D.undef :: D.undef :: .int .i64 ((l.length - m : Nat) : Int) :: .int .i64 (i:Int) :: D.undef :: D.undef :: D.undef :: D.undef :: D.undef :: D.undef :: D.undef :: D.undef :: D.undef :: D.undef :: D.undef :: D.undef :: D.undef :: []), []⟩) (fun i => l.length - i)
        (fun i => i ≤ l.length - m ∧ ∀ j x y, j < i → l[j]? = some x → l[j + 1]? = some y → ¬ meets x y) 0 (Ghost.hold [0, 17, 18] (by rw [← hdl]; rfl)) ⟨Nat.zero_le _, fun j x y h => absurd h (Nat.not_lt_zero _)⟩ ?_
      rintro i ⟨h1, h2⟩
      refine exec_ok tab_ok mixed 1000 (bx := []) (own := []) ?_
      rcases Nat.lt_or_ge (i + 1) l.length with h | h
      · obtain ⟨x, hx⟩ := at_lt h
        obtain ⟨y, hy⟩ := at_lt (l := l) (i := i) (by omega)
        by_cases hm : meets y x
        · repeat' ((conv => whnf); first
            | refine PairK.mk (by kernel_rfl) ?_ | refine Exists.intro _ (And.intro (map_at (by omega) hx) ?_) | refine Exists.intro _ (And.intro (map_at (by omega) hy) ?_) | refine And.intro rfl ?_ | refine And.intro (by omega) ?_ | refine Exists.intro _ (And.intro (w64 (by omega) (by omega)) ?_) | refine Pure.locK (f43_ok _ _ (hall _ (List.mem_of_getElem? hy)).1) ?_ | refine boolF_dect (by assumption) ?_ | refine boolF_dect (by omega) ?_)
          all_goals (conv => whnf)
          exact ⟨bool_f (fun hh => apart_get hh.2.2 i y x hy hx hm)⟩
        · repeat' ((conv => whnf); first
            | refine PairK.mk (by kernel_rfl) ?_ | refine Exists.intro _ (And.intro (map_at (by omega) hx) ?_) | refine Exists.intro _ (And.intro (map_at (by omega) hy) ?_) | refine And.intro rfl ?_ | refine And.intro (by omega) ?_ | refine Exists.intro _ (And.intro (w64 (by omega) (by omega)) ?_) | refine Pure.locK (f43_ok _ _ (hall _ (List.mem_of_getElem? hy)).1) ?_ | refine boolF_decf (by assumption) ?_ | refine boolF_dect (by omega) ?_)
          all_goals (conv => whnf)
          refine ⟨i + 1, Ghost.hold [0, 17, 18] rfl, ⟨by omega, fun j u v hj hu hv => ?_⟩, by omega⟩
          rcases Nat.lt_or_ge j i with g | g
          · exact h2 j u v g hu hv
          · obtain rfl : j = i := by omega
            rw [hy] at hu; rw [hx] at hv
            obtain rfl := Option.some.inj hu
            obtain rfl := Option.some.inj hv
            exact hm
      · repeat' ((conv => whnf); first
          | refine boolF_decf (by omega) ?_)
        all_goals (conv => whnf)
        refine ⟨bool_t ⟨hb, hl, apart_all fun j x y hx hy => h2 j x y ?_ hx hy⟩⟩
        have := (List.getElem?_eq_some_iff.mp hy).1
        omega
    · repeat' ((conv => whnf); first
        | refine Exists.intro _ (And.intro (⟨(List.length_map _).symm⟩) ?_) | refine Pure.call (f42_ok _ hlen) ?_ | refine boolF_not ?_ | refine boolF_decf (by assumption) ?_ | refine boolF_decf (by omega) ?_)
      all_goals (conv => whnf)
      exact ⟨bool_f (fun hh => hl hh.2.1)⟩
  · repeat' ((conv => whnf); first
      | refine Exists.intro _ (And.intro (⟨(List.length_map _).symm⟩) ?_) | refine boolF_dect (by omega) ?_)
    all_goals (conv => whnf)
    exact ⟨bool_f (fun hh => hb hh.1)⟩

end Go.Proofs.Ytlghefbapiocgaa.E


namespace Go.Proofs.Ytlghefbapiocgaa.E
open Go.A
set_option linter.unusedVariables false
set_option linter.unusedSimpArgs false
set_option linter.unnecessarySimpa false
attribute [local irreducible] IntKind.wrap bitsI
set_option maxRecDepth 100000
set_option maxHeartbeats 4000000

theorem X.ext' {a b : X} (h : a.off_ = b.off_ ∧ a.len_ = b.len_ ∧ a.phys_ = b.phys_ ∧ a.birth_ = b.birth_) : a = b := by
  cases a; cases b; simp only at h; simp [h]
instance : DecidableEq X := fun a b => if h : a.off_ = b.off_ ∧ a.len_ = b.len_ ∧ a.phys_ = b.phys_ ∧ a.birth_ = b.birth_ then isTrue (X.ext' h) else isFalse (fun e => h (by simp [e]))

theorem part_snoc {l : List X} {i : Nat} {x : X} (h : l[i]? = some x) (p q : Int) : partL (l.take (i + 1)) p q = partL (l.take i) p q ++ part1 x p q := by
  rw [take_snoc h, partL_append, partL, partL, List.append_nil]
theorem part_len (l : List X) (p q : Int) : (partL l p q).length ≤ l.length := by
  induction l with
  | nil => exact Nat.le_refl _
  | cons x l ih =>
    rw [partL, List.length_append, List.length_cons]
    have : (part1 x p q).length ≤ 1 := by unfold part1; split <;> simp
    omega

theorem f39_ok (l : List X) (p q : Int) (hl : rightP l) (hp : 0 ≤ p ∧ p ≤ 2048) (hq : 0 ≤ q ∧ q ≤ 2048) : Owned Try.prog 39 [d22 l, .int .i64 p, .int .i64 q] 4 ((partL l p q).map r57) := by
  obtain ⟨hlen, hl, _⟩ := hl
  refine Owned.of ⟨sc22 _ _, trivial, trivial, trivial⟩ (scr57 _ _) ?_
  refine Go.A.CallsIn.of_exec tab_ok mixed Try.func39 rfl rfl [] [] ?_
  (conv => whnf)
  refine W_loopG (ι := Nat × Nat) (fun i => ⟨(d22 l :: .int .i64 p :: .int .i64 q :: D.undef :: D.undef :: D.undef :: D.undef :: .h 0 i.2 0 (partL (l.take i.1) p q).length :: .int .i64 (i.1:Int) :: D.undef :: D.undef :: D.undef :: D.undef :: D.undef :: D.undef :: D.undef :: D.undef :: D.undef :: D.undef :: D.undef :: D.undef :: D.undef :: D.undef :: D.undef :: D.undef :: D.undef :: D.undef :: D.undef :: D.undef :: D.undef :: D.undef :: D.undef :: D.undef :: D.undef :: D.undef :: D.undef :: D.undef :: D.undef :: D.undef :: D.undef :: D.undef :: D.undef :: D.undef :: D.undef :: D.undef :: D.undef :: D.undef :: D.undef :: D.undef :: D.undef :: D.undef :: D.undef :: D.undef :: D.undef :: []), [.arr i.2 4 ((partL (l.take i.1) p q).map r57)]⟩) (fun i => l.length - i.1)
    (fun i => i.1 ≤ l.length) (0, 0) ((Ghost.hold [0, 1, 2, 7, 8] rfl).trans (Ghost.mat (t := 7) (sz := 4) rfl)) (Nat.zero_le _) ?_
  rintro ⟨i, ver⟩ h1
  dsimp only at h1 ⊢
  refine exec_ok tab_ok mixed 1000 (bx := [false]) (own := []) ?_
  have hpl := part_len (l.take i) p q
  rw [List.length_take] at hpl
  rcases Nat.lt_or_ge i l.length with h | h
  · obtain ⟨x, hx⟩ := at_lt h
    have hs := part_snoc hx p q
    obtain ⟨hm, _⟩ := listP_mem hl x (List.mem_of_getElem? hx)
    simp only [mayX, far] at hm
    have hc := clip_len x p q
    simp only [endX] at hc
    by_cases ha : max p x.off_ < min q (x.off_ + x.len_)
    · have hp1 : part1 x p q = [⟨max p x.off_, min q (x.off_ + x.len_) - max p x.off_, x.phys_ + max p x.off_ - x.off_, x.birth_⟩] := by
        rw [part1, if_pos (hc.mpr ha)]
        simp only [clipX, endX]
        congr 2; omega
      have e1 : max x.off_ p = max p x.off_ := by omega
      have e2 : min (x.off_ + x.len_) q = min q (x.off_ + x.len_) := by omega
      repeat' ((conv => whnf); first
        | refine PairK.mk (by kernel_rfl) ?_ | refine Exists.intro _ (And.intro (map_at (by omega) hx) ?_) | refine And.intro (by decide) ?_ | refine And.intro rfl ?_ | refine And.intro (Nat.le_of_ble_eq_true rfl) ?_ | refine And.intro (by omega) ?_ | refine And.intro (by simpa only [List.length_map, List.length_append, List.length_cons, List.length_nil] using rfl) ?_ | refine And.intro (okRows_one rfl rfl) ?_ | refine Exists.intro _ (And.intro (⟨(List.length_map _).symm⟩) ?_) | refine Exists.intro _ (And.intro (⟨len_one⟩) ?_) | refine Exists.intro _ (And.intro (⟨Eq.refl (α := List D) _⟩) ?_)
        | refine Exists.intro _ (And.intro (w64 (by omega) (by omega)) ?_) | refine Exists.intro _ (And.intro (imin) ?_) | refine Exists.intro _ (And.intro (imax) ?_) | refine boolF_dect (by omega) ?_)
      all_goals (conv => whnf)
      refine ⟨(i + 1, ver + 1), Ghost.back [0, 1, 2, 7, 8] 1 ?_ ?_ (Nat.zero_le _) (by simp [scs, D.sc, sc22]) (by simp [AObj.sc, scr57]), by dsimp only; omega, by dsimp only; omega⟩
      · dsimp only; rw [hs, hp1, List.length_append]; rfl
      · dsimp only; rw [hs, hp1, List.map_append, ← e1, ← e2]; rfl
    · have hp1 : part1 x p q = [] := by rw [part1, if_neg (fun h => ha (hc.mp h))]
      rw [hp1, List.append_nil] at hs
      repeat' ((conv => whnf); first
        | refine PairK.mk (by kernel_rfl) ?_ | refine Exists.intro _ (And.intro (map_at (by omega) hx) ?_) | refine And.intro (by decide) ?_ | refine And.intro rfl ?_ | refine And.intro (Nat.le_of_ble_eq_true rfl) ?_ | refine And.intro (by omega) ?_ | refine Exists.intro _ (And.intro (⟨(List.length_map _).symm⟩) ?_) | refine Exists.intro _ (And.intro (w64 (by omega) (by omega)) ?_) | refine Exists.intro _ (And.intro (imin) ?_) | refine Exists.intro _ (And.intro (imax) ?_) | refine boolF_dect (by omega) ?_ | refine boolF_decf (by omega) ?_)
      all_goals (conv => whnf)
      refine ⟨(i + 1, ver), Ghost.back [0, 1, 2, 7, 8] 1 ?_ ?_ (Nat.zero_le _) (by simp [scs, D.sc, sc22]) (by simp [AObj.sc, scr57]), by dsimp only; omega, by dsimp only; omega⟩
      · dsimp only; rw [hs]; rfl
      · dsimp only; rw [hs]; rfl
  · have e : l.take i = l := List.take_of_length_le h
    rw [e]
    repeat' ((conv => whnf); first
      | refine Exists.intro _ (And.intro (⟨(List.length_map _).symm⟩) ?_) | refine boolF_decf (by omega) ?_)
    all_goals (conv => whnf)
    exact ⟨ver, Ghost.hold [0] (by rw [List.length_map]; rfl)⟩

end Go.Proofs.Ytlghefbapiocgaa.E


namespace Go.Proofs.Ytlghefbapiocgaa.E
open Go.A
set_option linter.unusedVariables false
set_option linter.unusedSimpArgs false
set_option linter.unnecessarySimpa false
attribute [local irreducible] IntKind.wrap bitsI
set_option maxRecDepth 100000
set_option maxHeartbeats 4000000

theorem listP_take {a : Int} : ∀ {l : List X} {i : Nat}, listP a l → listP a (l.take i)
  | _, 0, _ => by simp [listP]
  | [], _ + 1, _ => trivial
  | x :: l, i + 1, h => ⟨h.1, h.2.1, listP_take h.2.2⟩

theorem addL_empty {out : List X} {x : X} (h : out.length = 0) : addL out x = out ++ [x] := by
  obtain rfl := List.length_eq_zero_iff.mp h
  rfl
theorem addL_meet {out : List X} {x y : X} (hy : out[out.length - 1]? = some y) (hm : meets y x) : addL out x = out.set (out.length - 1) ⟨y.off_, y.len_ + x.len_, y.phys_, y.birth_⟩ := by
  rw [addL, hy]; exact if_pos hm
theorem addL_apart {out : List X} {x y : X} (hy : out[out.length - 1]? = some y) (hm : ¬ meets y x) : addL out x = out ++ [x] := by
  rw [addL, hy]; exact if_neg hm
theorem addL_len (out : List X) (x : X) : (addL out x).length ≤ out.length + 1 := by
  unfold addL
  split
  · split
    · rw [List.length_set]; omega
    · simp
  · simp
theorem join_len : ∀ (l out : List X), (l.foldl addL out).length ≤ out.length + l.length
  | [], out => by simp
  | x :: l, out => by
    have := join_len l (addL out x)
    have := addL_len out x
    rw [List.foldl_cons, List.length_cons]; omega
theorem join_snoc {l : List X} {i : Nat} {x : X} (h : l[i]? = some x) : joinL (l.take (i + 1)) = addL (joinL (l.take i)) x := by
  rw [take_snoc h, joinL, List.foldl_append]; rfl
theorem row_last {n : Nat} (hn : 0 < n) (bb : Bool) (l : List D) (d : D) : setRow bb l (0 + ((n : Int) - 1).toNat) d = l.set (n - 1) d := by
  rw [setRow_eq]; congr 1; omega

theorem f40_ok (l : List X) (hl : listP 0 l) : Owned Try.prog 40 [d22 l] 4 ((joinL l).map r57) := by
  have hlen := listP_short hl
  refine Owned.of ⟨sc22 _ _, trivial⟩ (scr57 _ _) ?_
  refine Go.A.CallsIn.of_exec tab_ok mixed Try.func40 rfl rfl [] [] ?_
  (conv => whnf)
  refine W_loopG (ι := Nat × Nat) (fun i => ⟨(d22 l :: D.undef :: D.undef :: .h 0 i.2 0 (joinL (l.take i.1)).length :: .int .i64 (i.1:Int) :: D.undef :: D.undef :: D.undef :: D.undef :: D.undef :: D.undef :: D.undef :: D.undef :: D.undef :: D.undef :: D.undef :: D.undef :: D.undef :: D.undef :: D.undef :: D.undef :: D.undef :: D.undef :: D.undef :: D.undef :: D.undef :: D.undef :: D.undef :: D.undef :: D.undef :: D.undef :: D.undef :: D.undef :: D.undef :: D.undef :: D.undef :: D.undef :: D.undef :: D.undef :: D.undef :: D.undef :: D.undef :: D.undef :: D.undef :: D.undef :: D.undef :: D.undef :: D.undef :: D.undef :: D.undef :: []), [.arr i.2 4 ((joinL (l.take i.1)).map r57)]⟩) (fun i => l.length - i.1)
    (fun i => i.1 ≤ l.length) (0, 0) ((Ghost.hold [0, 3, 4] rfl).trans (Ghost.mat (t := 3) (sz := 4) rfl)) (Nat.zero_le _) ?_
  rintro ⟨i, ver⟩ h1
  dsimp only at h1 ⊢
  refine exec_ok tab_ok mixed 1000 (bx := [false]) (own := []) ?_
  have hjl := join_len (l.take i) []
  rw [List.length_take] at hjl
  have hjl : (joinL (l.take i)).length ≤ 1024 := by simp only [joinL, List.length_nil] at hjl ⊢; omega
  rcases Nat.lt_or_ge i l.length with h | h
  · obtain ⟨x, hx⟩ := at_lt h
    have hs := join_snoc hx
    have hj := (joinL_ok (listP_take (i := i) hl)).1
    obtain ⟨hm, _⟩ := listP_mem hl x (List.mem_of_getElem? hx)
    simp only [mayX, far] at hm
    obtain ⟨out, ho⟩ : ∃ out, out = joinL (l.take i) := ⟨_, rfl⟩
    rw [← ho] at hs hj hjl ⊢
    rcases Nat.eq_zero_or_pos out.length with h0 | h0
    · rw [addL_empty h0] at hs
      repeat' ((conv => whnf); first
        | refine PairK.mk (by kernel_rfl) ?_ | refine Exists.intro _ (And.intro (map_at (by omega) hx) ?_) | refine And.intro (by decide) ?_ | refine And.intro rfl ?_ | refine And.intro (by omega) ?_ | refine And.intro (by simpa only [List.length_map, List.length_append, List.length_cons, List.length_nil] using rfl) ?_ | refine And.intro (okRows_one rfl rfl) ?_ | refine Exists.intro _ (And.intro (⟨(List.length_map _).symm⟩) ?_) | refine Exists.intro _ (And.intro (⟨len_one⟩) ?_) | refine Exists.intro _ (And.intro (⟨map_snoc⟩) ?_) | refine Exists.intro _ (And.intro (w64 (by omega) (by omega)) ?_)
        | refine boolF_dect (by omega) ?_ | refine boolF_decf (by omega) ?_)
      all_goals (conv => whnf)
      refine ⟨(i + 1, ver + 1), Ghost.hold [0, 3, 4] ?_, by dsimp only; omega, by dsimp only; omega⟩
      dsimp only; rw [hs, List.length_append, List.map_append]; rfl
    · obtain ⟨y, hy⟩ := at_lt (l := out) (i := out.length - 1) (by omega)
      obtain ⟨hym, _⟩ := listP_mem hj.2.1 y (List.mem_of_getElem? hy)
      have hym' := hym
      simp only [mayX, far] at hym'
      by_cases hmt : meets y x
      · rw [addL_meet hy hmt] at hs
        repeat' ((conv => whnf); first
          | refine PairK.mk (by kernel_rfl) ?_ | refine Exists.intro _ (And.intro (map_at (by omega) hx) ?_) | refine Exists.intro _ (And.intro (map_at (by omega) hy) ?_) | refine And.intro (by decide) ?_ | refine And.intro rfl ?_ | refine And.intro (by omega) ?_ | refine And.intro (by simp only [List.length_map, List.length_append, List.length_cons, List.length_nil]; omega) ?_ | refine Exists.intro _ (And.intro (⟨(List.length_map _).symm⟩) ?_) | refine Exists.intro _ (And.intro (w64 (by omega) (by omega)) ?_) | refine Pure.locK (f37_ok _ _ hym) ?_ | refine boolF_dect (by assumption) ?_
          | refine boolF_dect (by omega) ?_)
        all_goals (conv => whnf)
        refine ⟨(i + 1, ver), Ghost.hold [0, 3, 4] ?_, by dsimp only; omega, by dsimp only; omega⟩
        dsimp only; rw [hs, List.length_set, List.map_set, ← row_last h0 false]; rfl
      · rw [addL_apart hy hmt] at hs
        repeat' ((conv => whnf); first
          | refine PairK.mk (by kernel_rfl) ?_ | refine Exists.intro _ (And.intro (map_at (by omega) hx) ?_) | refine Exists.intro _ (And.intro (map_at (by omega) hy) ?_) | refine And.intro (by decide) ?_ | refine And.intro rfl ?_ | refine And.intro (by omega) ?_ | refine And.intro (by simp only [List.length_map, List.length_append, List.length_cons, List.length_nil]; omega) ?_ | refine And.intro (by simpa only [List.length_map, List.length_append, List.length_cons, List.length_nil] using rfl) ?_ | refine And.intro (okRows_one rfl rfl) ?_
          | refine Exists.intro _ (And.intro (⟨(List.length_map _).symm⟩) ?_) | refine Exists.intro _ (And.intro (⟨len_one⟩) ?_) | refine Exists.intro _ (And.intro (⟨map_snoc⟩) ?_) | refine Exists.intro _ (And.intro (w64 (by omega) (by omega)) ?_) | refine Pure.locK (f37_ok _ _ hym) ?_ | refine boolF_decf (by assumption) ?_ | refine boolF_dect (by omega) ?_)
        all_goals (conv => whnf)
        refine ⟨(i + 1, ver + 1), Ghost.hold [0, 3, 4] ?_, by dsimp only; omega, by dsimp only; omega⟩
        dsimp only; rw [hs, List.length_append, List.map_append]; rfl
  · have e : l.take i = l := List.take_of_length_le h
    rw [e]
    repeat' ((conv => whnf); first
      | refine Exists.intro _ (And.intro (⟨(List.length_map _).symm⟩) ?_) | refine boolF_decf (by omega) ?_)
    all_goals (conv => whnf)
    exact ⟨ver, Ghost.hold [0] (by rw [List.length_map]; rfl)⟩

end Go.Proofs.Ytlghefbapiocgaa.E


namespace Go.Proofs.Ytlghefbapiocgaa.E
open Go.A
set_option linter.unusedVariables false
set_option linter.unusedSimpArgs false
set_option linter.unnecessarySimpa false
attribute [local irreducible] IntKind.wrap bitsI
set_option maxRecDepth 100000
set_option maxHeartbeats 4000000

def ownR (p : List X × Int) (o ver : Nat) : D := .tup [.h o ver 0 p.1.length, .int .i64 p.2]
def OwnL (f : FuncId) (args : List D) (p : List X × Int) : Prop := OwnedR Try.prog f args (ownR p) 4 (p.1.map r57)
theorem ownR_res (p : List X × Int) : ∀ (ρ : Nat → Nat) ver, ren ρ (ownR p 0 ver) = ownR p (ρ 0) ver := fun _ _ => rfl
theorem ownR_rn (p : List X × Int) : ∀ k ver o, Rn k ver o (p.1.map r57).length (ownR p k ver) (ownR p o 1) := fun k ver o => by
  rw [List.length_map]
  exact .tup (.cons .h (.cons (.refl trivial) .nil))
theorem own_err (e : Int) (H : List AObj) : ∃ ver, Ghost 0 [.tup [.nils, .int .i64 e]] H [ownR ([], e) 0 ver] [.arr ver 4 (([] : List X).map r57)] := by
  refine ⟨0, (Ghost.matD (sz := 4) (s' := [.tup [.h H.length 0 0 0, .int .i64 e]]) (.cons (.tup (.cons .nil (.cons .refl .nil))) .nil)).trans ?_⟩
  refine Ghost.pick [H.length] (by simp) rfl (fun i o ob' h1 h2 => ?_) rfl ⟨⟨Nat.zero_lt_one, trivial, trivial⟩, trivial⟩ (fun ob hob => by simp at hob; subst hob; trivial)
  cases i with
  | zero => simp at h1 h2; subst h1 h2; simp [renO, renL]
  | succ i => simp at h1
theorem own_ok (e : Int) (l : List X) (k w n : Nat) (H : List AObj) (hn : n = l.length) (hk : H[k]? = some (.arr w 4 (l.map r57))) : ∃ ver, Ghost 0 [.tup [.h k w 0 n, .int .i64 e]] H [ownR (l, e) 0 ver] [.arr ver 4 (l.map r57)] := by
  subst hn
  refine ⟨w, Ghost.pick [k] (by simp) rfl (fun i o ob' h1 h2 => ?_) rfl ⟨⟨Nat.zero_lt_one, trivial, trivial⟩, trivial⟩ (fun ob hob => by simp at hob; subst hob; exact scr57 _ _)⟩
  cases i with
  | zero => simp at h1 h2; subst h1 h2; simp only [renO]; rw [renL_sc0 _ _ (scr57 _ _)]; exact hk
  | succ i => simp at h1
theorem OwnL.pure {f : FuncId} {args : List D} {p : List X × Int} (h : OwnL f args p) : Pure Try.prog f args (.tup [d22 p.1, .int .i64 p.2]) :=
  OwnedR.pure h ⟨sc22 _ _, trivial, trivial⟩ (fun ver => .tup (.cons (.h (all_take rfl)) (.cons (.refl _) .nil)))

def putM (l : List X) (x : X) : List X × Int := if rightP l ∧ mayX x then (withL l x.off_ x.len_ [x], 0) else ([], 1)
def cutM (l : List X) (off n : Int) : List X × Int := if rightP l ∧ ext off n then (withL l off n [], 0) else ([], 1)
def partM (l : List X) (off n : Int) : List X × Int := if rightP l ∧ ext off n then (partL l off (off + n), 0) else ([], 1)
def formM (l : List X) : List X × Int := if listP 0 l then (joinL l, 0) else ([], 1)

theorem one_list {x : X} (hx : mayX x) : listP x.off_ [x] ∧ ∀ y ∈ [x], endX y ≤ x.off_ + x.len_ :=
  ⟨⟨hx, Int.le_refl _, trivial⟩, fun y hy => by simp only [List.mem_singleton] at hy; subst hy; exact Int.le_refl _⟩

theorem foldl_snoc : ∀ (l out : List X), l.foldl (fun out x => out ++ [x]) out = out ++ l
  | [], out => by simp
  | x :: l, out => by rw [List.foldl_cons, foldl_snoc, List.append_assoc]; rfl


end Go.Proofs.Ytlghefbapiocgaa.E


namespace Go.Proofs.Ytlghefbapiocgaa.E
open Go.A
set_option linter.unusedVariables false
set_option linter.unusedSimpArgs false
set_option linter.unnecessarySimpa false
attribute [local irreducible] IntKind.wrap bitsI
set_option maxRecDepth 100000
set_option maxHeartbeats 4000000

theorem f23_own (l : List X) (x : X) (hlen : l.length ≤ 140737488351232) : OwnL 23 [d22 l, d57 x] (putM l x) := by
  refine OwnedR.of ⟨sc22 _ _, sc57 _ _, trivial⟩ (scr57 _ _) (ownR_res _) ?_
  refine Go.A.CallsIn.of_exec tab_ok mixed Try.func23 rfl rfl [] [] ?_
  by_cases hr : rightP l
  · by_cases hx : mayX x
    · rw [putM, if_pos ⟨hr, hx⟩]
      have hx' := hx
      simp only [mayX] at hx'
      have ho := one_list hx
      have hT := with_list hr.2.1 (mayX_ext hx) ho.1 ho.2
      have k1 := part_len l 0 x.off_
      have k2 := part_len l (x.off_ + x.len_) 1024
      have k3 := hr.1
      have hA := f39_ok l 0 x.off_ hr (by omega) (by omega)
      have hB := f39_ok l (x.off_ + x.len_) 1024 hr (by omega) (by omega)
      have hw : withL l x.off_ x.len_ [x] = joinL (partL l 0 x.off_ ++ [x] ++ partL l (x.off_ + x.len_) 1024) := rfl
      rw [hw]
      generalize partL l 0 x.off_ = A at k1 hA hT ⊢
      generalize partL l (x.off_ + x.len_) 1024 = B at k2 hB hT ⊢
      have h32 := f40_ok _ hT
      repeat' ((conv => whnf); first
        | refine Pure.call (f22_ok _ hlen) ?_ | refine Pure.call (f38_ok _) ?_ | refine boolF_not ?_ | refine boolF_dect (by assumption) ?_)
      all_goals (conv => whnf)
      refine Owned.locN hA A.length (by rw [List.length_map]) ?_
      repeat' ((conv => whnf); first
        | refine PairK.mk (by kernel_rfl) ?_ | refine And.intro (by decide) ?_ | refine And.intro (by omega) ?_ | refine And.intro (by simpa only [List.length_map, List.length_append, List.length_cons, List.length_nil] using rfl) ?_ | refine And.intro (okRows_one rfl rfl) ?_ | refine Exists.intro _ (And.intro (⟨len_one⟩) ?_) | refine Exists.intro _ (And.intro (⟨map_snoc⟩) ?_) | refine Exists.intro _ (And.intro (w64 (by omega) (by omega)) ?_))
      all_goals (conv => whnf)
      refine Owned.callN hB B.length (by rw [List.length_map]) (fun v2 => ?_)
      repeat' ((conv => whnf); first
        | refine Exists.intro _ (And.intro (⟨map_full'⟩) ?_) | refine And.intro (okRows_map (fun _ _ => ⟨rfl, rfl⟩)) ?_ | refine And.intro (by decide) ?_ | refine And.intro rfl ?_ | refine And.intro (by omega) ?_ | refine And.intro (by simpa only [List.length_map, List.length_append, List.length_cons, List.length_nil] using rfl) ?_ | refine Exists.intro _ (And.intro (⟨len_more⟩) ?_) | refine Exists.intro _ (And.intro (⟨map_full'⟩) ?_) | refine Exists.intro _ (And.intro (⟨List.map_append⟩) ?_))
      all_goals (conv => whnf)
      have eT : (A ++ [x] ++ B).length = A.length + 1 + B.length := by simp; omega
      rw [← eT]
      refine Owned.seeN h32 _ (by rw [List.length_map]) [(0, .arr _ 4 ((A ++ [x] ++ B).map r57))] (fact1 (by rw [List.map_append]; rfl)) (.cons (.h List.mem_cons_self (.all (scr57 _ _)) (all_take rfl)) .nil) (bares_map fun x => by simp [r57, c57, D.bare, bares, d3]) (fun v3 => ?_)
      (conv => whnf)
      exact ⟨own_ok 0 _ 2 v3 _ _ rfl rfl⟩
    · rw [putM, if_neg (fun h => hx h.2)]
      repeat' ((conv => whnf); first
        | refine Pure.call (f22_ok _ hlen) ?_ | refine Pure.call (f38_ok _) ?_ | refine boolF_not ?_ | refine boolF_dect (by assumption) ?_ | refine boolF_decf (by assumption) ?_)
      all_goals (conv => whnf)
      exact ⟨own_err 1 _⟩
  · rw [putM, if_neg (fun h => hr h.1)]
    repeat' ((conv => whnf); first
      | refine Pure.call (f22_ok _ hlen) ?_ | refine boolF_not ?_ | refine boolF_decf (by assumption) ?_)
    all_goals (conv => whnf)
    exact ⟨own_err 1 _⟩

end Go.Proofs.Ytlghefbapiocgaa.E


namespace Go.Proofs.Ytlghefbapiocgaa.E
open Go.A
set_option linter.unusedVariables false
set_option linter.unusedSimpArgs false
set_option linter.unnecessarySimpa false
attribute [local irreducible] IntKind.wrap bitsI
set_option maxRecDepth 100000
set_option maxHeartbeats 4000000

theorem f24_own (l : List X) (off n : Int) (hlen : l.length ≤ 140737488351232) : OwnL 24 [d22 l, .int .i64 off, .int .i64 n] (cutM l off n) := by
  refine OwnedR.of ⟨sc22 _ _, trivial, trivial, trivial⟩ (scr57 _ _) (ownR_res _) ?_
  refine Go.A.CallsIn.of_exec tab_ok mixed Try.func24 rfl rfl [] [] ?_
  by_cases hr : rightP l
  · by_cases hx : ext off n
    · rw [cutM, if_pos ⟨hr, hx⟩, with_nil hr hx]
      simp only [ext] at hx
      have hA := f39_ok l 0 off hr (by omega) (by omega)
      have hB := f39_ok l (off + n) 1024 hr (by omega) (by omega)
      have k1 := part_len l 0 off
      have k2 := part_len l (off + n) 1024
      have k3 := hr.1
      generalize partL l 0 off = A at k1 hA ⊢
      generalize partL l (off + n) 1024 = B at k2 hB ⊢
      repeat' ((conv => whnf); first
        | refine Pure.call (f22_ok _ hlen) ?_ | refine Pure.call (f41_ok _ _) ?_ | refine boolF_not ?_ | refine boolF_dect (by assumption) ?_)
      all_goals (conv => whnf)
      refine Owned.callN hA A.length (by rw [List.length_map]) (fun v1 => ?_)
      repeat' ((conv => whnf); first
        | refine Exists.intro _ (And.intro (w64 (by omega) (by omega)) ?_))
      all_goals (conv => whnf)
      refine Owned.callN hB B.length (by rw [List.length_map]) (fun v2 => ?_)
      repeat' ((conv => whnf); first
        | refine Exists.intro _ (And.intro (⟨map_full'⟩) ?_) | refine And.intro (okRows_map (fun _ _ => ⟨rfl, rfl⟩)) ?_ | refine And.intro (by decide) ?_ | refine And.intro rfl ?_ | refine And.intro (by omega) ?_ | refine And.intro (by simpa only [List.length_map, List.length_append, List.length_cons, List.length_nil] using rfl) ?_ | refine Exists.intro _ (And.intro (⟨len_more⟩) ?_) | refine Exists.intro _ (And.intro (⟨map_full'⟩) ?_) | refine Exists.intro _ (And.intro (⟨List.map_append⟩) ?_))
      all_goals (conv => whnf)
      exact ⟨own_ok 0 _ 0 (v1 + 1) _ _ (by rw [List.length_append]) (by rw [List.map_append]; rfl)⟩
    · rw [cutM, if_neg (fun h => hx h.2)]
      repeat' ((conv => whnf); first
        | refine Pure.call (f22_ok _ hlen) ?_ | refine Pure.call (f41_ok _ _) ?_ | refine boolF_not ?_ | refine boolF_dect (by assumption) ?_ | refine boolF_decf (by assumption) ?_)
      all_goals (conv => whnf)
      exact ⟨own_err 1 _⟩
  · rw [cutM, if_neg (fun h => hr h.1)]
    repeat' ((conv => whnf); first
      | refine Pure.call (f22_ok _ hlen) ?_ | refine boolF_not ?_ | refine boolF_decf (by assumption) ?_)
    all_goals (conv => whnf)
    exact ⟨own_err 1 _⟩

/-- What lies at one block. -/
def at1 (o : Option (Int × Int)) (off : Int) : List X := match o with | some (p, b) => [⟨off, 1, p, b⟩] | none => []
theorem part_one {a : Int} : ∀ {l : List X}, listP a l → ∀ off : Int, partL l off (off + 1) = at1 (atL l off) off
  | [], _, _ => rfl
  | x :: l, h, off => by
    have hx := h.1
    simp only [mayX] at hx
    have hc := clip_len x off (off + 1)
    simp only [endX] at hc
    rw [partL]
    by_cases hh : x.off_ ≤ off ∧ off < x.off_ + x.len_
    · rw [at_hit hh, part_none off (off + 1) h.2.2 (by simp only [endX]; omega), List.append_nil, part1, if_pos (hc.mpr (by omega))]
      simp only [at1, clipX, endX]
      congr 2
      · omega
      · omega
      · omega
    · rw [at_miss hh, part1, if_neg (fun h => hh (by have := hc.mp h; omega)), List.nil_append]
      exact part_one h.2.2 off

def atM (l : List X) (off : Int) : Option (Int × Int) := if rightP l ∧ ext off 1 then atL l off else none
def atD : Option (Int × Int) → D
  | some (p, b) => .tup [.int .i64 p, .int .i64 b, .bool true]
  | none => .tup [.int .i64 0, .int .i64 0, .bool false]
theorem scat (o : Option (Int × Int)) : (atD o).sc 0 := by rcases o with _ | ⟨p, b⟩ <;> simp [atD, D.sc, scs]


end Go.Proofs.Ytlghefbapiocgaa.E

