import Derived.Test.YtaolneejplmedaaR
import Derived.Test.YtaolneejplmedaaA31
namespace Go.Proofs.Ytaolneejplmedaa
open Go.A
set_option linter.unusedVariables false
set_option linter.unusedSimpArgs false
set_option linter.unnecessarySimpa false
attribute [local irreducible] IntKind.wrap bitsI
set_option maxRecDepth 100000

abbrev X := T28
def endX (x : X) : Int := x.off_ + x.len_
def far : Int := 1099511627776
def mayX (x : X) : Prop := 0 ≤ x.off_ ∧ x.off_ < 1024 ∧ 1 ≤ x.len_ ∧ x.len_ ≤ 1024 - x.off_ ∧ 0 ≤ x.phys_ ∧ x.phys_ ≤ far - x.len_ ∧ 0 ≤ x.birth_ ∧ x.birth_ ≤ far
instance (x : X) : Decidable (mayX x) := inferInstanceAs (Decidable (_ ∧ _ ∧ _ ∧ _ ∧ _ ∧ _ ∧ _ ∧ _))
def listP (a : Int) : List X → Prop
  | [] => True
  | x :: l => mayX x ∧ a ≤ x.off_ ∧ listP (endX x) l
def listPd : (a : Int) → (l : List X) → Decidable (listP a l)
  | _, [] => .isTrue trivial
  | a, x :: l => @instDecidableAnd _ _ _ (@instDecidableAnd _ _ _ (listPd (endX x) l))
instance (a : Int) (l : List X) : Decidable (listP a l) := listPd a l
def meets (a b : X) : Prop := endX a = b.off_ ∧ a.phys_ + a.len_ = b.phys_ ∧ a.birth_ = b.birth_
instance (a b : X) : Decidable (meets a b) := inferInstanceAs (Decidable (_ ∧ _ ∧ _))
def apartP : List X → Prop
  | [] => True
  | [_] => True
  | x :: y :: l => ¬ meets x y ∧ apartP (y :: l)
def apartPd : (l : List X) → Decidable (apartP l)
  | [] => .isTrue trivial
  | [_] => .isTrue trivial
  | _ :: y :: l => @instDecidableAnd _ _ _ (apartPd (y :: l))
instance (l : List X) : Decidable (apartP l) := apartPd l
def rightP (l : List X) : Prop := l.length ≤ 1024 ∧ listP 0 l ∧ apartP l
instance (l : List X) : Decidable (rightP l) := inferInstanceAs (Decidable (_ ∧ _ ∧ _))

def addL (out : List X) (x : X) : List X :=
  match out[out.length - 1]? with
  | some y => if meets y x then out.set (out.length - 1) ⟨y.off_, y.len_ + x.len_, y.phys_, y.birth_⟩ else out ++ [x]
  | none => out ++ [x]
def joinL (l : List X) : List X := l.foldl addL []
def clipX (x : X) (p q : Int) : X := ⟨max p x.off_, max 0 (min q (endX x) - max p x.off_), x.phys_ + max p x.off_ - x.off_, x.birth_⟩
def part1 (x : X) (p q : Int) : List X := if 0 < (clipX x p q).len_ then [clipX x p q] else []
def partL : List X → Int → Int → List X
  | [], _, _ => []
  | x :: l, p, q => part1 x p q ++ partL l p q

/-- What a list has at a block. -/
def atL : List X → Int → Option (Int × Int)
  | [], _ => none
  | x :: l, b => if x.off_ ≤ b ∧ b < x.off_ + x.len_ then some (x.phys_ + b - x.off_, x.birth_) else atL l b
theorem at_hit {x : X} {l : List X} {b : Int} (h : x.off_ ≤ b ∧ b < x.off_ + x.len_) : atL (x :: l) b = some (x.phys_ + b - x.off_, x.birth_) := if_pos h
theorem at_miss {x : X} {l : List X} {b : Int} (h : ¬ (x.off_ ≤ b ∧ b < x.off_ + x.len_)) : atL (x :: l) b = atL l b := if_neg h

theorem atL_append (l m : List X) (b : Int) : atL (l ++ m) b = (match atL l b with | some v => some v | none => atL m b) := by
  induction l with
  | nil => rfl
  | cons x l ih =>
    rw [List.cons_append, atL, atL]
    split
    · rfl
    · exact ih

theorem listP_le {a c : Int} : ∀ {l : List X}, listP a l → c ≤ a → listP c l
  | [], _, _ => trivial
  | _ :: _, h, hc => ⟨h.1, by have := h.2.1; omega, h.2.2⟩

theorem listP_mem {a : Int} : ∀ {l : List X}, listP a l → ∀ x ∈ l, mayX x ∧ a ≤ x.off_
  | [], _, x, hx => by cases hx
  | y :: l, h, x, hx => by
    rcases List.mem_cons.mp hx with rfl | hx
    · exact ⟨h.1, h.2.1⟩
    · have h1 := listP_mem h.2.2 x hx
      have h2 := h.1; have h3 := h.2.1
      simp only [mayX, endX] at h1 h2
      exact ⟨h1.1, by have := h1.2; omega⟩

theorem listP_at_lo {a : Int} : ∀ {l : List X}, listP a l → ∀ b, b < a → atL l b = none
  | [], _, _, _ => rfl
  | x :: l, h, b, hb => by
    have h1 := h.2.1
    have h2 := h.1
    simp only [mayX] at h2
    rw [at_miss (by omega)]
    exact listP_at_lo h.2.2 b (by simp only [endX]; omega)

theorem listP_len {a : Int} : ∀ {l : List X}, listP a l → 0 ≤ a → (l.length : Int) ≤ max 0 (1024 - a)
  | [], _, _ => by simp; omega
  | x :: l, h, h0 => by
    have h1 := h.2.1
    have h2 := h.1
    simp only [mayX] at h2
    have := listP_len h.2.2 (by simp only [endX]; omega)
    simp only [endX] at this
    simp only [List.length_cons]
    omega

theorem listP_short {l : List X} (h : listP 0 l) : l.length ≤ 1024 := by
  have := listP_len h (Int.le_refl _); omega

/-- Of two lists in their form that show the same, each is the other one. -/
theorem form_eq : ∀ {l m : List X} {a c : Int}, listP a l → listP c m → apartP l → apartP m → (∀ b, atL l b = atL m b) → l = m
  | [], [], _, _, _, _, _, _, _ => rfl
  | [], y :: m, _, _, _, h2, _, _, e => by
    have := e y.off_
    have h := h2.1
    simp only [mayX] at h
    rw [at_hit (by omega)] at this
    cases this
  | x :: l, [], _, _, h1, _, _, _, e => by
    have := e x.off_
    have h := h1.1
    simp only [mayX] at h
    rw [at_hit (by omega)] at this
    cases this
  | x :: l, y :: m, a, c, h1, h2, n1, n2, e => by
    have hx := h1.1
    have hy := h2.1
    simp only [mayX] at hx hy
    have key : ∀ {x y : X} {l m : List X}, mayX x → mayX y → listP (endX x) l → listP (endX y) m → (∀ b, atL (x :: l) b = atL (y :: m) b) → x.off_ ≤ y.off_ := fun {x y l m} hx hy hl hm e => by
      rcases Int.lt_or_le y.off_ x.off_ with h | h
      · have := e y.off_
        simp only [mayX] at hx hy
        rw [listP_at_lo (a := x.off_) (l := x :: l) ⟨by simp only [mayX]; omega, Int.le_refl _, hl⟩ _ h, at_hit (by omega)] at this
        cases this
      · exact h
    have eo : x.off_ = y.off_ := by
      have k1 := key h1.1 h2.1 h1.2.2 h2.2.2 e
      have k2 := key h2.1 h1.1 h2.2.2 h1.2.2 (fun b => (e b).symm)
      omega
    have e0 := e x.off_
    rw [at_hit (by omega), at_hit (by omega)] at e0
    have e0 := Option.some.inj e0
    have ep : x.phys_ = y.phys_ := by have := congrArg Prod.fst e0; dsimp only at this; omega
    have eb : x.birth_ = y.birth_ := congrArg Prod.snd e0
    have lenk : ∀ {x y : X} {l m : List X}, mayX x → mayX y → listP (endX x) l → listP (endX y) m → apartP (x :: l) → x.off_ = y.off_ → x.phys_ = y.phys_ → x.birth_ = y.birth_ → (∀ b, atL (x :: l) b = atL (y :: m) b) → y.len_ ≤ x.len_ := fun {x y l m} hx hy hl hm hn eo ep eb e => by
      rcases Int.lt_or_le x.len_ y.len_ with h | h
      · have := e (endX x)
        simp only [mayX] at hx hy
        rw [at_miss (by simp only [endX]; omega), at_hit (by simp only [endX]; omega)] at this
        cases l with
        | nil => cases this
        | cons z l =>
          have hz := hl.1
          simp only [mayX] at hz
          have hz2 := hl.2.1
          have hzo : z.off_ = endX x := by
            rcases Int.lt_or_le (endX x) z.off_ with g | g
            · rw [listP_at_lo (a := z.off_) (l := z :: l) ⟨hl.1, Int.le_refl _, hl.2.2⟩ _ g] at this
              cases this
            · omega
          rw [at_hit (by simp only [endX] at hzo ⊢; omega)] at this
          have this := Option.some.inj this
          have t1 := congrArg Prod.fst this
          have t2 := congrArg Prod.snd this
          dsimp only at t1 t2
          exact absurd (show meets x z from ⟨hzo.symm, by simp only [endX] at hzo t1; omega, by omega⟩) hn.1
      · exact h
    have el : x.len_ = y.len_ := by
      have k1 := lenk h1.1 h2.1 h1.2.2 h2.2.2 n1 eo ep eb e
      have k2 := lenk h2.1 h1.1 h2.2.2 h1.2.2 n2 eo.symm ep.symm eb.symm (fun b => (e b).symm)
      omega
    have exy : x = y := by
      cases x; cases y; simp_all
    subst exy
    have ea : ∀ {x : X} {l : List X}, apartP (x :: l) → apartP l := fun {x l} h => by
      cases l with
      | nil => trivial
      | cons z l => exact h.2
    refine congrArg (x :: ·) (form_eq h1.2.2 h2.2.2 (ea n1) (ea n2) fun b => ?_)
    have := e b
    rcases Int.lt_or_le b (endX x) with h | h
    · rw [listP_at_lo h1.2.2 _ h, listP_at_lo h2.2.2 _ h]
    · rw [at_miss (by simp only [endX] at h; omega), at_miss (by simp only [endX] at h; omega)] at this
      exact this

/- Parts. -/
theorem clip_len (x : X) (p q : Int) : 0 < (clipX x p q).len_ ↔ max p x.off_ < min q (endX x) := by
  simp only [clipX]; omega

theorem partL_append (l m : List X) (p q : Int) : partL (l ++ m) p q = partL l p q ++ partL m p q := by
  induction l with
  | nil => rfl
  | cons x l ih => rw [List.cons_append, partL, partL, ih, List.append_assoc]

theorem at_part1 {x : X} (hx : mayX x) (p q b : Int) : atL (part1 x p q) b = if p ≤ b ∧ b < q then atL [x] b else none := by
  simp only [mayX] at hx
  unfold part1
  split
  · rename_i h
    rw [clip_len] at h
    simp only [endX] at h
    by_cases h1 : p ≤ b ∧ b < q
    · rw [if_pos h1]
      by_cases h2 : x.off_ ≤ b ∧ b < x.off_ + x.len_
      · rw [at_hit h2, at_hit (by simp only [clipX, endX]; omega)]
        simp only [clipX]
        congr 2; omega
      · rw [at_miss h2, at_miss (by simp only [clipX, endX]; omega)]
    · rw [if_neg h1, at_miss (by simp only [clipX, endX]; omega), atL]
  · rename_i h
    rw [clip_len] at h
    simp only [endX] at h
    split
    · rw [at_miss (by omega)]
    · rfl

theorem at_part {a : Int} : ∀ {l : List X}, listP a l → ∀ p q b : Int, atL (partL l p q) b = if p ≤ b ∧ b < q then atL l b else none
  | [], _, p, q, b => by simp [partL, atL]
  | x :: l, h, p, q, b => by
    rw [partL, atL_append, at_part1 h.1, at_part h.2.2]
    by_cases h1 : p ≤ b ∧ b < q
    · rw [if_pos h1, if_pos h1, if_pos h1]
      by_cases h2 : x.off_ ≤ b ∧ b < x.off_ + x.len_
      · rw [at_hit h2, at_hit h2]
      · rw [at_miss h2, at_miss h2]; rfl
    · rw [if_neg h1, if_neg h1, if_neg h1]

theorem listP_append {a c : Int} : ∀ {l m : List X}, listP a l → (∀ x ∈ l, endX x ≤ c) → a ≤ c → listP c m → listP a (l ++ m)
  | [], m, _, _, h3, h => listP_le h h3
  | x :: l, m, h1, h2, h3, h => ⟨h1.1, h1.2.1, listP_append h1.2.2 (fun y hy => h2 y (List.mem_cons_of_mem _ hy)) (h2 x (List.mem_cons_self)) h⟩

theorem part_list {a : Int} (p q : Int) : ∀ {l : List X}, listP a l → 0 ≤ a → listP (max a p) (partL l p q) ∧ ∀ x ∈ partL l p q, endX x ≤ q
  | [], _, _ => ⟨trivial, fun x hx => by cases hx⟩
  | x :: l, h, h0 => by
    have hx := h.1
    have hx2 := h.2.1
    simp only [mayX, far] at hx
    obtain ⟨i1, i2⟩ := part_list p q h.2.2 (by simp only [endX]; omega)
    rw [partL]
    unfold part1
    split
    · rename_i hc
      rw [clip_len] at hc
      simp only [endX] at hc
      refine ⟨⟨?_, ?_, listP_le i1 ?_⟩, fun y hy => ?_⟩
      · simp only [clipX, mayX, endX, far]; omega
      · simp only [clipX]; omega
      · simp only [clipX, endX]; omega
      · rcases List.mem_cons.mp hy with rfl | hy
        · simp only [clipX, endX]; omega
        · exact i2 y hy
    · exact ⟨listP_le i1 (by simp only [endX]; omega), i2⟩

/-- Behind the end nothing is part. -/
theorem part_none {a : Int} (p q : Int) : ∀ {l : List X}, listP a l → q ≤ a → partL l p q = []
  | [], _, _ => rfl
  | x :: l, h, hq => by
    have hx := h.1
    simp only [mayX] at hx
    have hx2 := h.2.1
    rw [partL, part_none p q h.2.2 (by simp only [endX]; omega), part1, if_neg, List.append_nil]
    rw [clip_len]; simp only [endX]; omega

theorem apart_cons {x : X} : ∀ {l : List X}, apartP l → (∀ y, l.head? = some y → ¬ meets x y) → apartP (x :: l)
  | [], _, _ => trivial
  | _ :: _, h, h1 => ⟨h1 _ rfl, h⟩
theorem apart_tail {x : X} : ∀ {l : List X}, apartP (x :: l) → apartP l
  | [], _ => trivial
  | _ :: _, h => h.2

theorem part_apart {a : Int} (p q : Int) : ∀ {l : List X}, listP a l → apartP l → apartP (partL l p q)
  | [], _, _ => trivial
  | x :: l, h, hn => by
    have ih := part_apart p q h.2.2 (apart_tail hn)
    have hx := h.1
    simp only [mayX] at hx
    rw [partL]
    unfold part1
    split
    · rename_i hc
      rw [clip_len] at hc
      refine apart_cons ih fun y hy => ?_
      cases l with
      | nil => cases hy
      | cons z l =>
        have hz := h.2.2.1
        simp only [mayX] at hz
        have hz2 := h.2.2.2.1
        rw [partL] at hy
        unfold part1 at hy
        split at hy
        · rename_i hcz
          rw [clip_len] at hcz
          obtain rfl : clipX z p q = y := by simpa using hy
          have := hn.1
          simp only [endX] at hc hcz hz2
          rintro ⟨m1, m2, m3⟩
          simp only [endX, clipX] at m1 m2 m3
          exact this ⟨by simp only [endX]; omega, by omega, m3⟩
        · rename_i hcz
          rw [clip_len] at hcz
          simp only [endX] at hc hcz hz2
          rw [List.nil_append, part_none p q h.2.2.2.2 (by simp only [endX]; omega)] at hy
          cases hy
    · exact ih

theorem getLast_snoc {l : List X} {z : X} : l ++ [z] ≠ [] := by simp

theorem apart_append : ∀ {l m : List X}, apartP l → apartP m → (∀ x y, l[l.length - 1]? = some x → m.head? = some y → ¬ meets x y) → apartP (l ++ m)
  | [], m, _, h2, _ => h2
  | [x], m, _, h2, h3 => apart_cons h2 fun y hy => h3 x y rfl hy
  | x :: z :: l, m, h1, h2, h3 => ⟨h1.1, apart_append (l := z :: l) h1.2 h2 fun u y hu hy => h3 u y (by simpa using hu) hy⟩

/- Joining. -/
theorem addL_ne (out : List X) (x : X) : addL out x ≠ [] := by
  unfold addL
  split
  · split
    · rename_i y hy _
      have := (List.getElem?_eq_some_iff.mp hy).1
      intro h
      have := congrArg List.length h
      rw [List.length_set] at this
      simp at this
      subst this
      simp at hy
    · simp
  · simp

theorem snoc_of {l : List X} {y : X} (h : l[l.length - 1]? = some y) : ∃ k, l = k ++ [y] := by
  obtain ⟨h1, h2⟩ := List.getElem?_eq_some_iff.mp h
  refine ⟨l.take (l.length - 1), ?_⟩
  have e := take_snoc h
  rw [show l.length - 1 + 1 = l.length by omega, List.take_length] at e
  exact e

theorem addL_snoc (k : List X) (y x : X) : addL (k ++ [y]) x = if meets y x then k ++ [⟨y.off_, y.len_ + x.len_, y.phys_, y.birth_⟩] else k ++ [y] ++ [x] := by
  have e : (k ++ [y])[(k ++ [y]).length - 1]? = some y := by simp
  rw [addL, e]
  dsimp only
  split
  · rw [List.length_append, List.length_singleton, Nat.add_sub_cancel, List.set_append_right _ _ (Nat.le_refl _), Nat.sub_self]; rfl
  · rfl

theorem addL_nil (x : X) : addL [] x = [x] := rfl

/-- A list so far, and one more behind it. -/
structure Fm (c : Int) (out : List X) : Prop where
  l : listP 0 out
  e : ∀ x ∈ out, endX x ≤ c
  n : apartP out

theorem apart_last {k : List X} {y z : X} (h : apartP (k ++ [y])) (hz : ∀ u, meets u z ↔ meets u y) : apartP (k ++ [z]) := by
  induction k with
  | nil => trivial
  | cons u k ih =>
    cases k with
    | nil => exact ⟨fun hm => h.1 ((hz _).mp hm), trivial⟩
    | cons v k => exact ⟨h.1, ih h.2⟩

theorem listP_snoc {a : Int} : ∀ {k : List X} {y : X}, listP a (k ++ [y]) → listP a k ∧ mayX y ∧ (∀ x ∈ k, endX x ≤ y.off_) ∧ a ≤ y.off_
  | [], y, h => ⟨trivial, h.1, fun x hx => (by cases hx), h.2.1⟩
  | x :: k, y, h => by
    obtain ⟨h1, h2, h3, h4⟩ := listP_snoc (k := k) h.2.2
    have h5 := h.1
    have h6 := h.2.1
    simp only [mayX] at h5
    refine ⟨⟨h.1, h.2.1, h1⟩, h2, fun u hu => ?_, by simp only [endX] at h4; omega⟩
    rcases List.mem_cons.mp hu with rfl | hu
    · exact h4
    · exact h3 u hu

theorem addL_ok {c : Int} {out : List X} {x : X} (h : Fm c out) (hx : mayX x) (hc : c ≤ x.off_) (h0 : 0 ≤ c) :
    Fm (endX x) (addL out x) ∧ ∀ b, atL (addL out x) b = atL (out ++ [x]) b := by
  have hx' := hx
  simp only [mayX] at hx'
  rcases Nat.eq_zero_or_pos out.length with hz | hz
  · obtain rfl := List.length_eq_zero_iff.mp hz
    rw [addL_nil]
    exact ⟨⟨⟨hx, by omega, trivial⟩, fun y hy => by simp only [List.mem_singleton] at hy; subst hy; exact Int.le_refl _, trivial⟩, fun _ => rfl⟩
  obtain ⟨y, hy⟩ := at_lt (l := out) (i := out.length - 1) (by omega)
  obtain ⟨k, rfl⟩ := snoc_of hy
  obtain ⟨l1, l2, l3, l4⟩ := listP_snoc h.l
  have l2' := l2
  simp only [mayX, far] at l2' hx'
  have ey := h.e y (by simp)
  rw [addL_snoc]
  split
  · rename_i hm
    obtain ⟨m1, m2, m3⟩ := hm
    simp only [endX] at m1 ey
    refine ⟨⟨?_, fun u hu => ?_, ?_⟩, fun b => ?_⟩
    · refine listP_append l1 l3 l4 ⟨?_, Int.le_refl _, trivial⟩
      simp only [mayX, far]; omega
    · rcases List.mem_append.mp hu with hu | hu
      · have := l3 u hu; simp only [endX] at this ⊢; omega
      · simp only [List.mem_singleton] at hu; subst hu; simp only [endX]; omega
    · exact apart_last h.n fun u => Iff.rfl
    · rw [List.append_assoc, atL_append, atL_append]
      split
      · rfl
      · show atL [_] b = atL [y, x] b
        by_cases b1 : y.off_ ≤ b ∧ b < y.off_ + y.len_
        · rw [at_hit b1, at_hit (by dsimp only; omega)]
        · rw [at_miss b1]
          by_cases b2 : x.off_ ≤ b ∧ b < x.off_ + x.len_
          · rw [at_hit b2, at_hit (by dsimp only; omega), m3]
            dsimp only
            congr 2; omega
          · rw [at_miss b2, at_miss (by dsimp only; omega)]
  · rename_i hm
    refine ⟨⟨listP_append h.l h.e h0 ⟨hx, hc, trivial⟩, fun u hu => ?_, ?_⟩, fun _ => rfl⟩
    · rcases List.mem_append.mp hu with hu | hu
      · have := h.e u hu; simp only [endX] at this ⊢; omega
      · simp only [List.mem_singleton] at hu; subst hu; exact Int.le_refl _
    · refine apart_append h.n trivial fun u v hu hv => ?_
      simp at hu hv
      subst hu hv
      exact hm

theorem join_ok : ∀ {l : List X} {c : Int} {out : List X}, Fm c out → 0 ≤ c → listP c l →
    (∃ d, Fm d (l.foldl addL out)) ∧ ∀ b, atL (l.foldl addL out) b = atL (out ++ l) b
  | [], c, out, h, _, _ => ⟨⟨c, h⟩, fun b => by rw [List.append_nil]; rfl⟩
  | x :: l, c, out, h, h0, hl => by
    obtain ⟨h1, h2⟩ := addL_ok h hl.1 hl.2.1 h0
    have hx := hl.1
    have hx2 := hl.2.1
    simp only [mayX] at hx
    obtain ⟨h3, h4⟩ := join_ok h1 (by simp only [endX]; omega) hl.2.2
    refine ⟨h3, fun b => ?_⟩
    rw [List.foldl_cons, h4, atL_append, h2, ← atL_append, List.append_assoc]
    rfl

theorem joinL_ok {l : List X} (h : listP 0 l) : rightP (joinL l) ∧ ∀ b, atL (joinL l) b = atL l b := by
  obtain ⟨⟨d, h1⟩, h2⟩ := join_ok (l := l) (c := 0) (out := []) ⟨trivial, fun x hx => by (cases hx), trivial⟩ (Int.le_refl _) h
  exact ⟨⟨listP_short h1.l, h1.l, h1.n⟩, h2⟩

theorem join_apart : ∀ {l out : List X}, apartP (out ++ l) → l.foldl addL out = out ++ l
  | [], out, _ => by simp
  | x :: l, out, h => by
    rw [List.foldl_cons]
    have e : addL out x = out ++ [x] := by
      unfold addL
      split
      · rename_i y hy
        obtain ⟨k, rfl⟩ := snoc_of hy
        rw [if_neg]
        intro hm
        have : ∀ {k : List X} {y x : X} {l : List X}, apartP (k ++ [y] ++ x :: l) → ¬ meets y x := fun {k y x l} h => by
          induction k with
          | nil => exact h.1
          | cons u k ih => exact ih (apart_tail h)
        exact this h hm
      · rfl
    rw [e, join_apart (by rw [List.append_assoc]; exact h), List.append_assoc]
    rfl

def withL (l : List X) (off n : Int) (ins : List X) : List X := joinL (partL l 0 off ++ ins ++ partL l (off + n) 1024)
def ext (off n : Int) : Prop := 0 ≤ off ∧ off < 1024 ∧ 1 ≤ n ∧ n ≤ 1024 - off
instance (off n : Int) : Decidable (ext off n) := inferInstanceAs (Decidable (_ ∧ _ ∧ _ ∧ _))

theorem at_hi {a : Int} : ∀ {l : List X}, listP a l → ∀ b, 1024 ≤ b → atL l b = none
  | [], _, _, _ => rfl
  | x :: l, h, b, hb => by
    have h2 := h.1
    simp only [mayX] at h2
    rw [at_miss (by omega)]
    exact at_hi h.2.2 b hb

theorem with_list {l : List X} {off n : Int} {ins : List X} (hl : listP 0 l) (he : ext off n) (hi : listP off ins) (hi2 : ∀ x ∈ ins, endX x ≤ off + n) :
    listP 0 (partL l 0 off ++ ins ++ partL l (off + n) 1024) := by
  simp only [ext] at he
  obtain ⟨p1, p2⟩ := part_list 0 off hl (Int.le_refl _)
  obtain ⟨q1, q2⟩ := part_list (off + n) 1024 hl (Int.le_refl _)
  rw [List.append_assoc]
  refine listP_append (listP_le p1 (by omega)) p2 he.1 ?_
  exact listP_append hi hi2 (by omega) (listP_le q1 (by omega))

theorem with_ok {l : List X} {off n : Int} {ins : List X} (hl : listP 0 l) (he : ext off n) (hi : listP off ins) (hi2 : ∀ x ∈ ins, endX x ≤ off + n) :
    rightP (withL l off n ins) ∧ ∀ b, atL (withL l off n ins) b = if off ≤ b ∧ b < off + n then atL ins b else atL l b := by
  obtain ⟨h1, h2⟩ := joinL_ok (with_list hl he hi hi2)
  refine ⟨h1, fun b => ?_⟩
  simp only [ext] at he
  rw [withL, h2, atL_append, atL_append, at_part hl, at_part hl]
  have hin : ∀ b, ¬ (off ≤ b ∧ b < off + n) → atL ins b = none := fun b hb => by
    rcases Int.lt_or_le b off with h | h
    · exact listP_at_lo hi b h
    · have : ∀ {l : List X}, (∀ x ∈ l, endX x ≤ off + n) → atL l b = none := fun {l} hl => by
        induction l with
        | nil => rfl
        | cons x l ih =>
          have := hl x List.mem_cons_self
          rw [at_miss (by simp only [endX] at this; omega)]
          exact ih fun y hy => hl y (List.mem_cons_of_mem _ hy)
      exact this hi2
  by_cases hb : off ≤ b ∧ b < off + n
  · rw [if_pos hb, if_neg (by omega), if_neg (by omega)]
    dsimp only
    cases atL ins b <;> rfl
  · rw [if_neg hb, hin b hb]
    by_cases h1 : 0 ≤ b ∧ b < off
    · rw [if_pos h1, if_neg (by omega)]
      cases atL l b <;> rfl
    · rw [if_neg h1]
      dsimp only
      by_cases h2 : off + n ≤ b ∧ b < 1024
      · rw [if_pos h2]
      · rw [if_neg h2]
        rcases Int.lt_or_le b 0 with h | h
        · exact (listP_at_lo hl b h).symm
        · exact (at_hi hl b (by omega)).symm

/-- What lies about a gap needs no joining. -/
theorem with_nil {l : List X} {off n : Int} (hl : rightP l) (he : ext off n) : withL l off n [] = partL l 0 off ++ partL l (off + n) 1024 := by
  simp only [ext] at he
  obtain ⟨_, h1, h2⟩ := hl
  rw [withL, List.append_nil, joinL, join_apart, List.nil_append]
  rw [List.nil_append]
  refine apart_append (part_apart _ _ h1 h2) (part_apart _ _ h1 h2) fun x y hx hy => ?_
  have hx := (part_list 0 off h1 (Int.le_refl _)).2 x (List.mem_of_getElem? hx)
  have hy := (listP_mem (part_list (off + n) 1024 h1 (Int.le_refl _)).1 y (List.mem_of_head? hy)).2
  rintro ⟨m1, _, _⟩
  omega

theorem right_len {l : List X} (h : rightP l) : l.length ≤ 1024 := h.1

end Go.Proofs.Ytaolneejplmedaa

