/- A logic of abstract states, part 16: regions whose order is drawn. -/
import Derived.Test.YthlngafnlnincaaA15
namespace Go.A
set_option linter.unusedVariables false
set_option linter.unusedSimpArgs false

section
variable {α : Type}

def upds : List α → List (Nat × α) → List α
  | l, [] => l
  | l, x :: u => upds (l.set x.1 x.2) u

def dom (u : List (Nat × α)) : List Nat := u.map (·.1)

theorem upds_length : ∀ (u : List (Nat × α)) (l : List α), (upds l u).length = l.length
  | [], _ => rfl
  | x :: u, l => by simp only [upds]; rw [upds_length u]; simp

theorem upds_ne : ∀ (u : List (Nat × α)) (l : List α) (k : Nat), k ∉ dom u → (upds l u)[k]? = l[k]?
  | [], _, _, _ => rfl
  | x :: u, l, k, h => by
    simp only [dom, List.map_cons, List.mem_cons, not_or] at h
    simp only [upds]
    rw [upds_ne u _ k h.2, List.getElem?_set_ne (Ne.symm h.1)]

theorem upds_congr : ∀ (u : List (Nat × α)) (l l' : List α) (k : Nat), l.length = l'.length → (k ∈ dom u ∨ l[k]? = l'[k]?) → (upds l u)[k]? = (upds l' u)[k]?
  | [], l, l', k, hl, h => by
    rcases h with h | h
    · simp [dom] at h
    · exact h
  | x :: u, l, l', k, hl, h => by
    simp only [upds]
    refine upds_congr u _ _ k (by simpa using hl) ?_
    by_cases e : x.1 = k
    · right
      subst e
      simp only [List.getElem?_set_self', hl]
      rcases Nat.lt_or_ge x.1 l.length with h1 | h1
      · rw [List.getElem?_eq_getElem h1, List.getElem?_eq_getElem (by omega)]; rfl
      · rw [List.getElem?_eq_none h1, List.getElem?_eq_none (by omega)]
    · rcases h with h | h
      · simp only [dom, List.map_cons, List.mem_cons] at h
        rcases h with h | h
        · exact absurd h.symm e
        · exact .inl h
      · right
        rw [List.getElem?_set_ne e, List.getElem?_set_ne e]; exact h

def apart (u v : List (Nat × α)) : Prop := ∀ k, k ∈ dom u → k ∉ dom v

theorem upds_comm {u v : List (Nat × α)} (h : apart u v) (l : List α) : upds (upds l u) v = upds (upds l v) u := by
  apply List.ext_getElem?
  intro k
  by_cases h1 : k ∈ dom u
  · rw [upds_ne v _ k (h k h1)]
    exact upds_congr u _ _ k (upds_length v l).symm (.inl h1)
  · rw [upds_ne u _ k h1]
    refine upds_congr v _ _ k (upds_length u l) ?_
    rw [upds_ne u _ k h1]
    exact .inr rfl

def foldU (us : Nat → List (Nat × α)) (L : Nat → Bool) : Nat → List α → List α
  | 0, l => l
  | m + 1, l => if L m then upds (foldU us L m l) (us m) else foldU us L m l

variable {us : Nat → List (Nat × α)}

theorem foldU_length (L : Nat → Bool) (l : List α) : ∀ m, (foldU us L m l).length = l.length
  | 0 => rfl
  | m + 1 => by
    simp only [foldU]
    split
    · rw [upds_length]; exact foldU_length L l m
    · exact foldU_length L l m

theorem foldU_agree {L L' : Nat → Bool} {l : List α} {k : Nat} : ∀ {m : Nat}, (∀ i, i < m → k ∈ dom (us i) → L i = L' i) → (foldU us L m l)[k]? = (foldU us L' m l)[k]?
  | 0, _ => rfl
  | m + 1, h => by
    have ih := foldU_agree (L := L) (L' := L') (l := l) (k := k) (m := m) fun i hi => h i (Nat.lt_succ_of_lt hi)
    have hlen : (foldU us L m l).length = (foldU us L' m l).length := by rw [foldU_length, foldU_length]
    simp only [foldU]
    by_cases hk : k ∈ dom (us m)
    · rw [h m (Nat.lt_succ_self m) hk]
      split
      · exact upds_congr _ _ _ k hlen (.inr ih)
      · exact ih
    · have e : ∀ L : Nat → Bool, (if L m = true then upds (foldU us L m l) (us m) else foldU us L m l)[k]? = (foldU us L m l)[k]? := fun L => by
        split
        · exact upds_ne _ _ k hk
        · rfl
      rw [e, e]; exact ih

theorem foldU_same {L L' : Nat → Bool} {l : List α} : ∀ {m : Nat}, (∀ i, i < m → L i = L' i) → foldU us L m l = foldU us L' m l
  | 0, _ => rfl
  | m + 1, h => by
    simp only [foldU]
    rw [h m (Nat.lt_succ_self m), foldU_same fun i hi => h i (Nat.lt_succ_of_lt hi)]

theorem foldU_add {L L' : Nat → Bool} {l : List α} {j : Nat} (hL : L j = false) (hL' : L' j = true) (hne : ∀ i, i ≠ j → L' i = L i) : ∀ {m : Nat}, j < m → (∀ i, j < i → i < m → L i = true → apart (us i) (us j)) →
    upds (foldU us L m l) (us j) = foldU us L' m l
  | 0, h, _ => by omega
  | m + 1, h, hd => by
    simp only [foldU]
    by_cases e : m = j
    · subst e
      rw [hL, hL', foldU_same (L := L) (L' := L') fun i hi => (hne i (by omega)).symm]
      simp
    · have ih := foldU_add hL hL' hne (l := l) (m := m) (by omega) fun i h1 h2 => hd i h1 (by omega)
      rw [hne m e]
      split
      · rename_i hm
        rw [upds_comm (hd m (by omega) (Nat.lt_succ_self m) hm), ih]
      · exact ih

end

/-- What one operation did, when all were done in their order. -/
structure Rec where
  dst : Option Nat
  d : D
  looks : List Nat
  rds : List Nat
  ups : List (Nat × AObj)

def Rec.sups (r : Rec) : List (Nat × D) :=
  match r.dst with
  | some t => [(t, r.d)]
  | none => []

theorem Rec.put (r : Rec) (s : List D) : putD s r.dst r.d = upds s r.sups := by
  unfold putD Rec.sups
  cases r.dst <;> rfl

def memB (n : Nat) : List Nat → Bool
  | [] => false
  | x :: l => match Nat.beq n x with | true => true | false => memB n l

theorem memB_iff {n : Nat} : ∀ {l : List Nat}, memB n l = true ↔ n ∈ l
  | [] => by simp [memB]
  | x :: l => by
    simp only [memB]
    split
    · rename_i h
      have := Nat.eq_of_beq_eq_true h
      simp [this]
    · rename_i h
      have : n ≠ x := fun e => by subst e; simp at h
      simp [this, memB_iff (l := l)]

def noneIn : List (Nat × AObj) → List Nat → Bool
  | [], _ => true
  | x :: u, l => match memB x.1 l with | true => false | false => noneIn u l

theorem noneIn_ok : ∀ {u : List (Nat × AObj)} {l : List Nat}, noneIn u l = true → ∀ k, k ∈ dom u → k ∉ l
  | [], _, _, k, h => by simp [dom] at h
  | x :: u, l, h, k, hk => by
    simp only [noneIn] at h
    split at h
    · cases h
    · rename_i hm
      simp only [dom, List.map_cons, List.mem_cons] at hk
      rcases hk with rfl | hk
      · intro hh
        rw [memB_iff.mpr hh] at hm
        cases hm
      · exact noneIn_ok h k hk

def slotFree (d : Option Nat) (l : List Nat) : Bool :=
  match d with
  | some t => (match memB t l with | true => false | false => true)
  | none => true

theorem slotFree_ok {d : Option Nat} {l : List Nat} (h : slotFree d l = true) : ∀ t, d = some t → t ∉ l := fun t ht hh => by
  subst ht
  simp only [slotFree, memB_iff.mpr hh] at h
  cases h

def dstNe (a b : Option Nat) : Bool :=
  match a, b with
  | some x, some y => (match Nat.beq x y with | true => false | false => true)
  | _, _ => true

theorem dstNe_ok {a b : Option Nat} (h : dstNe a b = true) : ∀ t, a = some t → b = some t → False := fun t ha hb => by
  subst ha hb
  simp [dstNe] at h

def indepB (r r' : Rec) : Bool :=
  match slotFree r.dst r'.looks with
  | true => (match slotFree r'.dst r.looks with
    | true => (match dstNe r.dst r'.dst with
      | true => (match noneIn r.ups r'.rds with
        | true => noneIn r'.ups r.rds
        | false => false)
      | false => false)
    | false => false)
  | false => false

structure Indep (r r' : Rec) : Prop where
  s1 : ∀ t, r.dst = some t → t ∉ r'.looks
  s2 : ∀ t, r'.dst = some t → t ∉ r.looks
  s3 : ∀ t, r.dst = some t → r'.dst = some t → False
  o1 : ∀ k, k ∈ dom r.ups → k ∉ r'.rds
  o2 : ∀ k, k ∈ dom r'.ups → k ∉ r.rds

theorem indepB_ok {r r' : Rec} (h : indepB r r' = true) : Indep r r' := by
  unfold indepB at h
  split at h
  · rename_i h1
    split at h
    · rename_i h2
      split at h
      · rename_i h3
        split at h
        · rename_i h4
          exact ⟨slotFree_ok h1, slotFree_ok h2, dstNe_ok h3, noneIn_ok h4, noneIn_ok h⟩
        · cases h
      · cases h
    · cases h
  · cases h

theorem Indep.symm {r r' : Rec} (h : Indep r r') : Indep r' r := ⟨h.s2, h.s1, fun t a b => h.s3 t b a, h.o2, h.o1⟩

/-- Is there an edge. -/
def edgeB : List Edge → Nat → Bool
  | [], _ => false
  | e :: l, i => match Region.binds .any e with
    | true => (match Nat.beq e.on i with | true => true | false => edgeB l i)
    | false => edgeB l i

theorem edgeB_ok : ∀ {l : List Edge} {i : Nat}, edgeB l i = true → ∃ e ∈ l, Region.binds .any e = true ∧ e.on = i
  | [], _, h => by cases h
  | e :: l, i, h => by
    simp only [edgeB] at h
    split at h
    · rename_i hb
      split at h
      · rename_i he
        exact ⟨e, by simp, hb, Nat.eq_of_beq_eq_true he⟩
      · obtain ⟨e', h1, h2⟩ := edgeB_ok h
        exact ⟨e', by simp [h1], h2⟩
    · obtain ⟨e', h1, h2⟩ := edgeB_ok h
      exact ⟨e', by simp [h1], h2⟩

/-- All edges lead back. -/
def backB : List Edge → Nat → Bool
  | [], _ => true
  | e :: l, i => match Region.binds .any e with
    | true => (match Nat.blt e.on i with | true => backB l i | false => false)
    | false => backB l i

theorem backB_ok : ∀ {l : List Edge} {i : Nat}, backB l i = true → ∀ e ∈ l, Region.binds .any e = true → e.on < i
  | [], _, _, e, h => by simp at h
  | e :: l, i, h, e', he => by
    simp only [backB] at h
    intro hb'
    rcases List.mem_cons.mp he with rfl | he
    · split at h
      · split at h
        · rename_i hl
          simpa using hl
        · cases h
      · rename_i hb
        rw [hb'] at hb; cases hb
    · split at h
      · split at h
        · exact backB_ok h e' he hb'
        · cases h
      · exact backB_ok h e' he hb'

/-- One against those ahead of it (they stand in their order, from the number i on). -/
def againstB (es : List Edge) (r : Rec) : Nat → List Rec → Bool
  | _, [] => true
  | i, r' :: l => match indepB r' r with
    | true => againstB es r (i + 1) l
    | false => (match edgeB es i with | true => againstB es r (i + 1) l | false => false)

theorem againstB_ok {es : List Edge} {r : Rec} : ∀ {i : Nat} {l : List Rec}, againstB es r i l = true → ∀ k r', l[k]? = some r' → Indep r' r ∨ ∃ e ∈ es, Region.binds .any e = true ∧ e.on = i + k
  | _, [], _, k, r', h => by simp at h
  | i, r0 :: l, h, k, r', hk => by
    simp only [againstB] at h
    cases k with
    | zero =>
      simp only [List.getElem?_cons_zero, Option.some.injEq] at hk
      subst hk
      split at h
      · rename_i hi
        exact .inl (indepB_ok hi)
      · split at h
        · rename_i he
          exact .inr (edgeB_ok he)
        · cases h
    | succ k =>
      simp only [List.getElem?_cons_succ] at hk
      have h' : againstB es r (i + 1) l = true := by
        split at h
        · exact h
        · split at h
          · exact h
          · cases h
      rcases againstB_ok h' k r' hk with h1 | ⟨e, h1, h2, h3⟩
      · exact .inl h1
      · exact .inr ⟨e, h1, h2, by omega⟩

/-- All pairs. -/
def pairsB (done : List Rec) : Nat → List Oper → List Rec → Bool
  | i, o :: os, r :: rs => match backB o.after.toList i with
    | true => (match againstB o.after.toList r 0 done with
      | true => pairsB (done ++ [r]) (i + 1) os rs
      | false => false)
    | false => false
  | _, [], [] => true
  | _, _, _ => false

theorem pairsB_ok : ∀ {done : List Rec} {i : Nat} {os : List Oper} {rs : List Rec}, done.length = i → pairsB done i os rs = true →
    os.length = rs.length ∧ ∀ (j : Nat) o r, os[j]? = some o → rs[j]? = some r → (∀ e ∈ o.after.toList, Region.binds .any e = true → e.on < i + j) ∧
      ∀ k r', k < i + j → (done ++ rs)[k]? = some r' → Indep r' r ∨ ∃ e ∈ o.after.toList, Region.binds .any e = true ∧ e.on = k
  | done, i, o :: os, r :: rs, hd, h => by
    simp only [pairsB] at h
    split at h
    · rename_i h1
      split at h
      · rename_i h2
        obtain ⟨k1, k2⟩ := pairsB_ok (done := done ++ [r]) (i := i + 1) (by simp [hd]) h
        refine ⟨by simp [k1], fun j o' r' ho hr => ?_⟩
        cases j with
        | zero =>
          simp only [List.getElem?_cons_zero, Option.some.injEq] at ho hr
          subst ho hr
          refine ⟨fun e he hb => backB_ok h1 e he hb, fun k r' hk hr' => ?_⟩
          rw [List.getElem?_append_left (by omega)] at hr'
          have := againstB_ok h2 k r' hr'
          simpa using this
        | succ j =>
          simp only [List.getElem?_cons_succ] at ho hr
          obtain ⟨m1, m2⟩ := k2 j o' r' ho hr
          refine ⟨fun e he hb => by have := m1 e he hb; omega, fun k r'' hk hr'' => m2 k r'' (by omega) (by simpa using hr'')⟩
      · cases h
    · cases h
  | _, _, [], [], _, _ => ⟨rfl, fun j o r ho => by simp at ho⟩
  | _, _, [], _ :: _, _, h => by simp [pairsB] at h
  | _, _, _ :: _, [], _, h => by simp [pairsB] at h

end Go.A
