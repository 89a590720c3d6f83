/- A logic of abstract states, part 16: regions whose order is drawn. -/
import Derived.Test.YtgigpjkdfhhahaaA15
namespace Go.A
set_option linter.unusedVariables false
set_option linter.unusedSimpArgs false

section
variable {α : Type}

def upds : List α → List (Nat × α) → List α
  | l, [] => l
  | l, x :: u => upds (l.set x.1 x.2) u

def dom (u : List (Nat × α)) : List Nat := u.map (·.1)

theorem upds_length : ∀ (u : List (Nat × α)) (l : List α), (upds l u).length = l.length
  | [], _ => rfl
  | x :: u, l => by simp only [upds]; rw [upds_length u]; simp

theorem upds_ne : ∀ (u : List (Nat × α)) (l : List α) (k : Nat), k ∉ dom u → (upds l u)[k]? = l[k]?
  | [], _, _, _ => rfl
  | x :: u, l, k, h => by
    simp only [dom, List.map_cons, List.mem_cons, not_or] at h
    simp only [upds]
    rw [upds_ne u _ k h.2, List.getElem?_set_ne (Ne.symm h.1)]

theorem upds_congr : ∀ (u : List (Nat × α)) (l l' : List α) (k : Nat), l.length = l'.length → (k ∈ dom u ∨ l[k]? = l'[k]?) → (upds l u)[k]? = (upds l' u)[k]?
  | [], l, l', k, hl, h => by
    rcases h with h | h
    · simp [dom] at h
    · exact h
  | x :: u, l, l', k, hl, h => by
    simp only [upds]
    refine upds_congr u _ _ k (by simpa using hl) ?_
    by_cases e : x.1 = k
    · right
      subst e
      simp only [List.getElem?_set_self', hl]
      rcases Nat.lt_or_ge x.1 l.length with h1 | h1
      · rw [List.getElem?_eq_getElem h1, List.getElem?_eq_getElem (by omega)]; rfl
      · rw [List.getElem?_eq_none h1, List.getElem?_eq_none (by omega)]
    · rcases h with h | h
      · simp only [dom, List.map_cons, List.mem_cons] at h
        rcases h with h | h
        · exact absurd h.symm e
        · exact .inl h
      · right
        rw [List.getElem?_set_ne e, List.getElem?_set_ne e]; exact h

def apart (u v : List (Nat × α)) : Prop := ∀ k, k ∈ dom u → k ∉ dom v

theorem upds_comm {u v : List (Nat × α)} (h : apart u v) (l : List α) : upds (upds l u) v = upds (upds l v) u := by
  apply List.ext_getElem?
  intro k
  by_cases h1 : k ∈ dom u
  · rw [upds_ne v _ k (h k h1)]
    exact upds_congr u _ _ k (upds_length v l).symm (.inl h1)
  · rw [upds_ne u _ k h1]
    refine upds_congr v _ _ k (upds_length u l) ?_
    rw [upds_ne u _ k h1]
    exact .inr rfl

def foldU (us : Nat → List (Nat × α)) (L : Nat → Bool) : Nat → List α → List α
  | 0, l => l
  | m + 1, l => if L m then upds (foldU us L m l) (us m) else foldU us L m l

variable {us : Nat → List (Nat × α)}

theorem foldU_length (L : Nat → Bool) (l : List α) : ∀ m, (foldU us L m l).length = l.length
  | 0 => rfl
  | m + 1 => by
    simp only [foldU]
    split
    · rw [upds_length]; exact foldU_length L l m
    · exact foldU_length L l m

theorem foldU_agree {L L' : Nat → Bool} {l : List α} {k : Nat} : ∀ {m : Nat}, (∀ i, i < m → k ∈ dom (us i) → L i = L' i) → (foldU us L m l)[k]? = (foldU us L' m l)[k]?
  | 0, _ => rfl
  | m + 1, h => by
    have ih := foldU_agree (L := L) (L' := L') (l := l) (k := k) (m := m) fun i hi => h i (Nat.lt_succ_of_lt hi)
    have hlen : (foldU us L m l).length = (foldU us L' m l).length := by rw [foldU_length, foldU_length]
    simp only [foldU]
    by_cases hk : k ∈ dom (us m)
    · rw [h m (Nat.lt_succ_self m) hk]
      split
      · exact upds_congr _ _ _ k hlen (.inr ih)
      · exact ih
    · have e : ∀ L : Nat → Bool, (if L m = true then upds (foldU us L m l) (us m) else foldU us L m l)[k]? = (foldU us L m l)[k]? := fun L => by
        split
        · exact upds_ne _ _ k hk
        · rfl
      rw [e, e]; exact ih

theorem foldU_same {L L' : Nat → Bool} {l : List α} : ∀ {m : Nat}, (∀ i, i < m → L i = L' i) → foldU us L m l = foldU us L' m l
  | 0, _ => rfl
  | m + 1, h => by
    simp only [foldU]
    rw [h m (Nat.lt_succ_self m), foldU_same fun i hi => h i (Nat.lt_succ_of_lt hi)]

theorem foldU_add {L L' : Nat → Bool} {l : List α} {j : Nat} (hL : L j = false) (hL' : L' j = true) (hne : ∀ i, i ≠ j → L' i = L i) : ∀ {m : Nat}, j < m → (∀ i, j < i → i < m → L i = true → apart (us i) (us j)) →
    upds (foldU us L m l) (us j) = foldU us L' m l
  | 0, h, _ => by omega
  | m + 1, h, hd => by
    simp only [foldU]
    by_cases e : m = j
    · subst e
      rw [hL, hL', foldU_same (L := L) (L' := L') fun i hi => (hne i (by omega)).symm]
      simp
    · have ih := foldU_add hL hL' hne (l := l) (m := m) (by omega) fun i h1 h2 => hd i h1 (by omega)
      rw [hne m e]
      split
      · rename_i hm
        rw [upds_comm (hd m (by omega) (Nat.lt_succ_self m) hm), ih]
      · exact ih

end

/-- What one operation did, when all were done in their order. -/
structure Rec where
  dst : Option Nat
  d : D
  looks : List Nat
  rds : List Nat
  ups : List (Nat × AObj)

def Rec.sups (r : Rec) : List (Nat × D) :=
  match r.dst with
  | some t => [(t, r.d)]
  | none => []

theorem Rec.put (r : Rec) (s : List D) : putD s r.dst r.d = upds s r.sups := by
  unfold putD Rec.sups
  cases r.dst <;> rfl

def memB (n : Nat) : List Nat → Bool
  | [] => false
  | x :: l => match Nat.beq n x with | true => true | false => memB n l

theorem memB_iff {n : Nat} : ∀ {l : List Nat}, memB n l = true ↔ n ∈ l
  | [] => by simp [memB]
  | x :: l => by
    simp only [memB]
    split
    · rename_i h
      have := Nat.eq_of_beq_eq_true h
      simp [this]
    · rename_i h
      have : n ≠ x := fun e => by subst e; simp at h
      simp [this, memB_iff (l := l)]

def noneIn : List (Nat × AObj) → List Nat → Bool
  | [], _ => true
  | x :: u, l => match memB x.1 l with | true => false | false => noneIn u l

theorem noneIn_ok : ∀ {u : List (Nat × AObj)} {l : List Nat}, noneIn u l = true → ∀ k, k ∈ dom u → k ∉ l
  | [], _, _, k, h => by simp [dom] at h
  | x :: u, l, h, k, hk => by
    simp only [noneIn] at h
    split at h
    · cases h
    · rename_i hm
      simp only [dom, List.map_cons, List.mem_cons] at hk
      rcases hk with rfl | hk
      · intro hh
        rw [memB_iff.mpr hh] at hm
        cases hm
      · exact noneIn_ok h k hk

def slotFree (d : Option Nat) (l : List Nat) : Bool :=
  match d with
  | some t => (match memB t l with | true => false | false => true)
  | none => true

theorem slotFree_ok {d : Option Nat} {l : List Nat} (h : slotFree d l = true) : ∀ t, d = some t → t ∉ l := fun t ht hh => by
  subst ht
  simp only [slotFree, memB_iff.mpr hh] at h
  cases h

def dstNe (a b : Option Nat) : Bool :=
  match a, b with
  | some x, some y => (match Nat.beq x y with | true => false | false => true)
  | _, _ => true

theorem dstNe_ok {a b : Option Nat} (h : dstNe a b = true) : ∀ t, a = some t → b = some t → False := fun t ha hb => by
  subst ha hb
  simp [dstNe] at h

def indepB (r r' : Rec) : Bool :=
  match slotFree r.dst r'.looks with
  | true => (match slotFree r'.dst r.looks with
    | true => (match dstNe r.dst r'.dst with
      | true => (match noneIn r.ups r'.rds with
        | true => noneIn r'.ups r.rds
        | false => false)
      | false => false)
    | false => false)
  | false => false

structure Indep (r r' : Rec) : Prop where
  s1 : ∀ t, r.dst = some t → t ∉ r'.looks
  s2 : ∀ t, r'.dst = some t → t ∉ r.looks
  s3 : ∀ t, r.dst = some t → r'.dst = some t → False
  o1 : ∀ k, k ∈ dom r.ups → k ∉ r'.rds
  o2 : ∀ k, k ∈ dom r'.ups → k ∉ r.rds

theorem indepB_ok {r r' : Rec} (h : indepB r r' = true) : Indep r r' := by
  unfold indepB at h
  split at h
  · rename_i h1
    split at h
    · rename_i h2
      split at h
      · rename_i h3
        split at h
        · rename_i h4
          exact ⟨slotFree_ok h1, slotFree_ok h2, dstNe_ok h3, noneIn_ok h4, noneIn_ok h⟩
        · cases h
      · cases h
    · cases h
  · cases h

theorem Indep.symm {r r' : Rec} (h : Indep r r') : Indep r' r := ⟨h.s2, h.s1, fun t a b => h.s3 t b a, h.o2, h.o1⟩

/-- Is there an edge. -/
def edgeB : List Edge → Nat → Bool
  | [], _ => false
  | e :: l, i => match Region.binds .any e with
    | true => (match Nat.beq e.on i with | true => true | false => edgeB l i)
    | false => edgeB l i

theorem edgeB_ok : ∀ {l : List Edge} {i : Nat}, edgeB l i = true → ∃ e ∈ l, Region.binds .any e = true ∧ e.on = i
  | [], _, h => by cases h
  | e :: l, i, h => by
    simp only [edgeB] at h
    split at h
    · rename_i hb
      split at h
      · rename_i he
        exact ⟨e, by simp, hb, Nat.eq_of_beq_eq_true he⟩
      · obtain ⟨e', h1, h2⟩ := edgeB_ok h
        exact ⟨e', by simp [h1], h2⟩
    · obtain ⟨e', h1, h2⟩ := edgeB_ok h
      exact ⟨e', by simp [h1], h2⟩

/-- All edges lead back. -/
def backB : List Edge → Nat → Bool
  | [], _ => true
  | e :: l, i => match Region.binds .any e with
    | true => (match Nat.blt e.on i with | true => backB l i | false => false)
    | false => backB l i

theorem backB_ok : ∀ {l : List Edge} {i : Nat}, backB l i = true → ∀ e ∈ l, Region.binds .any e = true → e.on < i
  | [], _, _, e, h => by simp at h
  | e :: l, i, h, e', he => by
    simp only [backB] at h
    intro hb'
    rcases List.mem_cons.mp he with rfl | he
    · split at h
      · split at h
        · rename_i hl
          simpa using hl
        · cases h
      · rename_i hb
        rw [hb'] at hb; cases hb
    · split at h
      · split at h
        · exact backB_ok h e' he hb'
        · cases h
      · exact backB_ok h e' he hb'

/-- All that are ahead of an operation, told as bits. -/
def cloB : List Edge → List Nat → Nat
  | [], _ => 0
  | e :: l, cs => match Region.binds .any e with
    | true => (1 <<< e.on ||| cs.getD e.on 0) ||| cloB l cs
    | false => cloB l cs

/-- Ahead of it, over others. -/
inductive Pre (ops : Array Oper) (i : Nat) : Nat → Prop where
  | one {j : Nat} {o : Oper} {e : Edge} : ops[j]? = some o → e ∈ o.after → Region.binds .any e = true → e.on = i → Pre ops i j
  | more {j : Nat} {o : Oper} {e : Edge} : ops[j]? = some o → e ∈ o.after → Region.binds .any e = true → Pre ops i e.on → Pre ops i j

theorem cloB_ok {ops : Array Oper} {j : Nat} {o : Oper} (ho : ops[j]? = some o) {cs : List Nat} (hcs : ∀ a k, Nat.testBit (cs.getD a 0) k = true → Pre ops k a) : ∀ {es : List Edge}, (∀ e ∈ es, e ∈ o.after) → ∀ k, Nat.testBit (cloB es cs) k = true → Pre ops k j
  | [], _, k, h => by simp [cloB] at h
  | e :: l, hs, k, h => by
    simp only [cloB] at h
    split at h
    · rename_i hb
      rw [Nat.testBit_or, Nat.testBit_or, Bool.or_eq_true, Bool.or_eq_true] at h
      rcases h with (h | h) | h
      · rw [Nat.one_shiftLeft, Nat.testBit_two_pow] at h
        exact .one ho (hs e (by simp)) hb (by simpa using h)
      · exact .more ho (hs e (by simp)) hb (hcs _ _ h)
      · exact cloB_ok ho hcs (fun e he => hs e (by simp [he])) k h
    · exact cloB_ok ho hcs (fun e he => hs e (by simp [he])) k h

/-- One against those ahead of it (they stand in their order, from the number i on; m: which are ahead of it at all events). -/
def againstB (m : Nat) (r : Rec) : Nat → List Rec → Bool
  | _, [] => true
  | i, r' :: l => match indepB r' r with
    | true => againstB m r (i + 1) l
    | false => (match Nat.testBit m i with | true => againstB m r (i + 1) l | false => false)

theorem againstB_ok {m : Nat} {r : Rec} : ∀ {i : Nat} {l : List Rec}, againstB m r i l = true → ∀ k r', l[k]? = some r' → Indep r' r ∨ Nat.testBit m (i + k) = true
  | _, [], _, k, r', h => by simp at h
  | i, r0 :: l, h, k, r', hk => by
    simp only [againstB] at h
    cases k with
    | zero =>
      simp only [List.getElem?_cons_zero, Option.some.injEq] at hk
      subst hk
      split at h
      · rename_i hi
        exact .inl (indepB_ok hi)
      · split at h
        · rename_i he
          exact .inr he
        · cases h
    | succ k =>
      simp only [List.getElem?_cons_succ] at hk
      have h' : againstB m r (i + 1) l = true := by
        split at h
        · exact h
        · split at h
          · exact h
          · cases h
      rcases againstB_ok h' k r' hk with h1 | h1
      · exact .inl h1
      · exact .inr (by rw [show i + (k + 1) = i + 1 + k by omega]; exact h1)

def forceN (n : Nat) (X : Nat → Bool) : Bool :=
  match n with
  | 0 => X 0
  | k + 1 => X (k + 1)

theorem forceN_eq {n : Nat} {X : Nat → Bool} : forceN n X = X n := by cases n <;> rfl

/-- All pairs. -/
def pairsC : List Rec → Nat → List Nat → List Oper → List Rec → Bool
  | done, i, cs, o :: os, r :: rs => match backB o.after.toList i with
    | true => forceN (cloB o.after.toList cs) fun m => (match againstB m r 0 done with
      | true => pairsC (done ++ [r]) (i + 1) (cs ++ [m]) os rs
      | false => false)
    | false => false
  | _, _, _, [], [] => true
  | _, _, _, _, _ => false

def pairsB (done : List Rec) (i : Nat) (os : List Oper) (rs : List Rec) : Bool := pairsC done i [] os rs

theorem pairsC_ok {ops : Array Oper} : ∀ {done : List Rec} {i : Nat} {cs : List Nat} {os : List Oper} {rs : List Rec}, ops.toList.drop i = os → done.length = i → cs.length = i → (∀ a k, Nat.testBit (cs.getD a 0) k = true → Pre ops k a) → pairsC done i cs os rs = true →
    os.length = rs.length ∧ ∀ (j : Nat) o r, os[j]? = some o → rs[j]? = some r → (∀ e ∈ o.after.toList, Region.binds .any e = true → e.on < i + j) ∧
      ∀ k r', k < i + j → (done ++ rs)[k]? = some r' → Indep r' r ∨ Pre ops k (i + j)
  | done, i, cs, o :: os, r :: rs, hd, hl, hc, hcs, h => by
    have hi : ops[i]? = some o := by
      have : (ops.toList.drop i)[0]? = some o := by rw [hd]; rfl
      simpa using this
    have hd' : ops.toList.drop (i + 1) = os := by
      rw [← List.drop_drop, hd]; rfl
    simp only [pairsC] at h
    split at h
    · rename_i h1
      rw [forceN_eq] at h
      split at h
      · rename_i h2
        have hclo := cloB_ok hi hcs (es := o.after.toList) (fun e he => by simpa using he)
        obtain ⟨k1, k2⟩ := pairsC_ok (done := done ++ [r]) (i := i + 1) (cs := cs ++ [cloB o.after.toList cs]) hd' (by simp [hl]) (by simp [hc]) (fun a k ha => by
          rcases Nat.lt_trichotomy a i with h | h | h
          · refine hcs a k ?_
            rw [List.getD_eq_getElem?_getD, List.getElem?_append_left (by omega), ← List.getD_eq_getElem?_getD] at ha
            exact ha
          · subst h
            rw [List.getD_eq_getElem?_getD, List.getElem?_append_right (by omega), hc] at ha
            simp at ha
            exact hclo k ha
          · rw [List.getD_eq_getElem?_getD, List.getElem?_eq_none (by simp; omega)] at ha
            simp at ha) h
        refine ⟨by simp [k1], fun j o' r' ho hr => ?_⟩
        cases j with
        | zero =>
          simp only [List.getElem?_cons_zero, Option.some.injEq] at ho hr
          subst ho hr
          refine ⟨fun e he hb => backB_ok h1 e he hb, fun k r' hk hr' => ?_⟩
          rw [List.getElem?_append_left (by omega)] at hr'
          rcases againstB_ok h2 k r' hr' with q | q
          · exact .inl q
          · rw [Nat.zero_add] at q
            exact .inr (hclo k q)
        | succ j =>
          simp only [List.getElem?_cons_succ] at ho hr
          obtain ⟨m1, m2⟩ := k2 j o' r' ho hr
          refine ⟨fun e he hb => by have := m1 e he hb; omega, fun k r'' hk hr'' => ?_⟩
          have := m2 k r'' (by omega) (by simpa using hr'')
          rw [show i + 1 + j = i + (j + 1) by omega] at this
          exact this
      · cases h
    · cases h
  | _, _, _, [], [], _, _, _, _, _ => ⟨rfl, fun j o r ho => by simp at ho⟩
  | _, _, _, [], _ :: _, _, _, _, _, h => by simp [pairsC] at h
  | _, _, _, _ :: _, [], _, _, _, _, h => by simp [pairsC] at h

theorem pairsB_ok {ops : Array Oper} {rs : List Rec} (h : pairsB [] 0 ops.toList rs = true) :
    ops.toList.length = rs.length ∧ ∀ (j : Nat) o r, ops.toList[j]? = some o → rs[j]? = some r → (∀ e ∈ o.after.toList, Region.binds .any e = true → e.on < j) ∧
      ∀ k r', k < j → rs[k]? = some r' → Indep r' r ∨ Pre ops k j := by
  obtain ⟨h1, h2⟩ := pairsC_ok (ops := ops) (done := []) (i := 0) (cs := []) (by simp) rfl rfl (fun a k ha => by simp at ha) h
  refine ⟨h1, fun j o r ho hr => ?_⟩
  obtain ⟨a, b⟩ := h2 j o r ho hr
  rw [Nat.zero_add] at a b
  exact ⟨a, fun k r' hk hr' => b k r' hk (by simpa using hr')⟩

/-- What is listed is closed. -/
theorem Pre.listed {ops : Array Oper} {L : Nat → Bool} (hcl : ∀ i o, ops[i]? = some o → L i = true → ∀ e ∈ o.after, Region.binds .any e = true → L e.on = true) {i j : Nat} (h : Pre ops i j) : L j = true → L i = true := by
  induction h with
  | one ho he hb hi => intro hj; rw [← hi]; exact hcl _ _ ho hj _ he hb
  | more ho he hb _ ih => intro hj; exact ih (hcl _ _ ho hj _ he hb)

theorem Pre.ready {ops : Array Oper} {L : Nat → Bool} (hcl : ∀ i o, ops[i]? = some o → L i = true → ∀ e ∈ o.after, Region.binds .any e = true → L e.on = true) {i j : Nat} (h : Pre ops i j) {o : Oper} (ho : ops[j]? = some o)
    (hr : ∀ e ∈ o.after, Region.binds .any e = true → L e.on = true) : L i = true := by
  cases h with
  | one ho' he hb hi => rw [ho] at ho'; obtain rfl := Option.some.inj ho'; rw [← hi]; exact hr _ he hb
  | more ho' he hb h => rw [ho] at ho'; obtain rfl := Option.some.inj ho'; exact h.listed hcl (hr _ he hb)

end Go.A
