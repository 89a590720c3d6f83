/- A logic of abstract states, part 17: regions whose order is drawn, gone through in one order. -/
import Derived.Test.YtgigpjkdfhhahaaA16
namespace Go.A
set_option linter.unusedVariables false
set_option linter.unusedSimpArgs false

def Stp (P : Program) (T : Tab) (n0 : Nat) (ops : Array Oper) (i : Nat) (r : Rec) (s : List D) (H : List AObj) : Prop :=
  ∃ hd : Hd, hd.n = n0 ∧ ∀ (s' : List D) (H' : List AObj) (K : St → Prop), s'.length = s.length → H'.length = H.length → (∀ t ∈ r.looks, s'[t]? = s[t]?) → (∀ o ∈ r.rds, H'[o]? = H[o]?) →
    K ⟨upds s' r.sups, upds H' r.ups⟩ → stepK P T hd ops i ⟨s', H'⟩ K

inductive Chain (P : Program) (T : Tab) (n0 : Nat) (ops : Array Oper) : Nat → List D → List AObj → List Rec → List D → List AObj → Prop where
  | nil {i s H} : Chain P T n0 ops i s H [] s H
  | cons {i s H r rs s' H'} : Stp P T n0 ops i r s H → (∀ k ∈ dom r.ups, k ∈ r.rds) → Chain P T n0 ops (i + 1) (upds s r.sups) (upds H r.ups) rs s' H' → Chain P T n0 ops i s H (r :: rs) s' H'

def seqU {α : Type} (f : Rec → List (Nat × α)) : List Rec → List α → List α
  | [], l => l
  | r :: rs, l => seqU f rs (upds l (f r))

theorem Chain.at {P T n0 ops} : ∀ {i s H rs s' H'}, Chain P T n0 ops i s H rs s' H' → s' = seqU Rec.sups rs s ∧ H' = seqU Rec.ups rs H ∧ ∀ (j : Nat) r, rs[j]? = some r →
    Stp P T n0 ops (i + j) r (seqU Rec.sups (rs.take j) s) (seqU Rec.ups (rs.take j) H) ∧ ∀ k ∈ dom r.ups, k ∈ r.rds
  | _, _, _, _, _, _, .nil => ⟨rfl, rfl, fun j r h => by simp at h⟩
  | _, _, _, _, _, _, .cons h1 h2 h3 => by
    obtain ⟨k1, k2, k3⟩ := Chain.at h3
    refine ⟨k1, k2, fun j r hr => ?_⟩
    cases j with
    | zero =>
      simp only [List.getElem?_cons_zero, Option.some.injEq] at hr
      subst hr
      exact ⟨h1, h2⟩
    | succ j =>
      obtain ⟨m1, m2⟩ := k3 j r (by simpa using hr)
      refine ⟨?_, m2⟩
      have e : ∀ i : Nat, i + 1 + j = i + (j + 1) := fun i => by omega
      rw [e] at m1
      exact m1

theorem seqU_append {α : Type} (f : Rec → List (Nat × α)) : ∀ (xs ys : List Rec) (l : List α), seqU f (xs ++ ys) l = seqU f ys (seqU f xs l)
  | [], _, _ => rfl
  | x :: xs, ys, l => by simp only [List.cons_append, seqU]; exact seqU_append f xs ys _

def usOf {α : Type} (f : Rec → List (Nat × α)) (rs : List Rec) (i : Nat) : List (Nat × α) :=
  match rs[i]? with
  | some r => f r
  | none => []

theorem seqU_fold {α : Type} (f : Rec → List (Nat × α)) (rs : List Rec) (l : List α) : ∀ j, j ≤ rs.length → seqU f (rs.take j) l = foldU (usOf f rs) (fun _ => true) j l
  | 0, _ => rfl
  | j + 1, h => by
    have hj : j < rs.length := by omega
    rw [List.take_succ_eq_append_getElem hj, seqU_append, seqU_fold f rs l j (by omega)]
    simp only [seqU, foldU, if_true, usOf, List.getElem?_eq_getElem hj]

theorem foldU_lt {α : Type} {us : Nat → List (Nat × α)} {j : Nat} {l : List α} : ∀ {m : Nat}, j ≤ m → foldU us (fun i => decide (i < j)) m l = foldU us (fun _ => true) j l
  | 0, h => by
    obtain rfl : j = 0 := by omega
    rfl
  | m + 1, h => by
    by_cases e : j = m + 1
    · subst e
      exact foldU_same fun i hi => by simp [hi]
    · simp only [foldU]
      rw [if_neg (by simp; omega)]
      exact foldU_lt (by omega)

def cnt (f : Nat → Bool) : Nat → Nat
  | 0 => 0
  | m + 1 => cnt f m + (if f m then 0 else 1)

theorem cnt_zero {f : Nat → Bool} : ∀ {m : Nat}, cnt f m = 0 → ∀ i, i < m → f i = true
  | 0, _, i, hi => by omega
  | m + 1, h, i, hi => by
    simp only [cnt] at h
    by_cases e : i = m
    · subst e
      cases hf : f i with
      | true => rfl
      | false => simp [hf] at h
    · exact cnt_zero (m := m) (by omega) i (by omega)

theorem cnt_same {f g : Nat → Bool} : ∀ {m : Nat}, (∀ i, i < m → f i = g i) → cnt f m = cnt g m
  | 0, _ => rfl
  | m + 1, h => by
    simp only [cnt]
    rw [h m (Nat.lt_succ_self m), cnt_same fun i hi => h i (Nat.lt_succ_of_lt hi)]

theorem cnt_set {f g : Nat → Bool} {j : Nat} (h1 : f j = false) (h2 : g j = true) (h3 : ∀ i, i ≠ j → g i = f i) : ∀ {m : Nat}, j < m → cnt f m = cnt g m + 1
  | 0, h => by omega
  | m + 1, h => by
    simp only [cnt]
    by_cases e : m = j
    · subst e
      rw [h1, h2, cnt_same (f := f) (g := g) fun i hi => (h3 i (by omega)).symm]
      simp
    · rw [h3 m e, cnt_set h1 h2 h3 (m := m) (by omega)]
      omega

theorem cnt_all {f : Nat → Bool} (h : ∀ i, f i = false) : ∀ m, cnt f m = m
  | 0 => rfl
  | m + 1 => by simp [cnt, h m, cnt_all h m]

theorem mem_usOf {r : Rec} {rs : List Rec} {α : Type} {f : Rec → List (Nat × α)} {i k : Nat} (h : k ∈ dom (usOf f rs i)) : ∃ r, rs[i]? = some r ∧ k ∈ dom (f r) := by
  unfold usOf at h
  split at h
  · rename_i r hr
    exact ⟨r, hr, h⟩
  · simp [dom] at h

theorem sups_dom {r : Rec} {t : Nat} (h : t ∈ dom r.sups) : r.dst = some t := by
  unfold Rec.sups at h
  split at h
  · rename_i t' ht
    simp [dom] at h
    subst h; exact ht
  · simp [dom] at h

theorem wpAny_chain {P : Program} {T : Tab} {n0 : Nat} (hT : TOk P T) {ops : Array Oper} {recs : List Rec} {s0 s1 : List D} {H0 H1 : List AObj} (hch : Chain P T n0 ops 0 s0 H0 recs s1 H1)
    (hp : pairsB [] 0 ops.toList recs = true) {C : Ctx} (hle : C.le n0) {Q : Exit → Act → World → Prop} (fin : ∀ φ a w, SRel C φ ⟨s1, H1⟩ a w → Q .normal a w) :
    ∀ (fuel : Nat) (listed : Array Bool) (φ : List (Option Nat)) (a : Act) (w : World), listed.size = ops.size → cnt (fun i => listed.getD i false) ops.size = fuel →
      (∀ i o, ops[i]? = some o → listed.getD i false = true → ∀ e ∈ o.after, Region.binds .any e = true → listed.getD e.on false = true) →
      SRel C φ ⟨foldU (usOf Rec.sups recs) (fun i => listed.getD i false) ops.size s0, foldU (usOf Rec.ups recs) (fun i => listed.getD i false) ops.size H0⟩ a w →
      wpAnyIn C.F 0 P .any ops Q fuel listed a w := by
  obtain ⟨he1, he2, hst⟩ := hch.at
  obtain ⟨hlen, hpair⟩ := pairsB_ok hp
  have hm : recs.length = ops.size := by simpa using hlen.symm
  have hrec : ∀ j, j < ops.size → ∃ r o, recs[j]? = some r ∧ ops[j]? = some o := fun j hj => ⟨recs[j]'(by omega), ops[j]'hj, List.getElem?_eq_getElem (by omega), Array.getElem?_eq_getElem hj⟩
  have hpr : ∀ i j ri rj oj, i < j → recs[i]? = some ri → recs[j]? = some rj → ops[j]? = some oj → Indep ri rj ∨ Pre ops i j := fun i j ri rj oj hij h1 h2 h3 => by
    obtain ⟨_, k2⟩ := hpair j oj rj (by simpa using h3) h2
    simpa using k2 i ri (by omega) (by simpa using h1)
  have hback : ∀ j rj oj, recs[j]? = some rj → ops[j]? = some oj → ∀ e ∈ oj.after, Region.binds .any e = true → e.on < j := fun j rj oj h2 h3 e he hb => by
    obtain ⟨k1, _⟩ := hpair j oj rj (by simpa using h3) h2
    simpa using k1 e (by simpa using he) hb
  have hfin : ∀ (listed : Array Bool), (∀ i, i < ops.size → listed.getD i false = true) → ∀ φ a w,
      SRel C φ ⟨foldU (usOf Rec.sups recs) (fun i => listed.getD i false) ops.size s0, foldU (usOf Rec.ups recs) (fun i => listed.getD i false) ops.size H0⟩ a w → Q .normal a w := fun listed hall φ a w hs => by
    refine fin φ a w ?_
    have e1 := seqU_fold Rec.sups recs s0 recs.length (Nat.le_refl _)
    have e2 := seqU_fold Rec.ups recs H0 recs.length (Nat.le_refl _)
    rw [List.take_length] at e1 e2
    rw [he1, he2, e1, e2, hm]
    rw [foldU_same (L := fun i => listed.getD i false) (L' := fun _ => true) hall, foldU_same (L := fun i => listed.getD i false) (L' := fun _ => true) hall] at hs
    exact hs
  intro fuel
  induction fuel with
  | zero =>
    intro listed φ a w hsz hc hcl hs
    have hall := cnt_zero hc
    refine ⟨?_, hfin listed hall φ a w hs⟩
    cases hr : Region.ready .any ops listed with
    | nil => rfl
    | cons j l =>
      have hj : j ∈ Region.ready .any ops listed := by rw [hr]; exact List.mem_cons_self ..
      rw [mem_ready] at hj
      obtain ⟨h1, o, h2, _⟩ := hj
      have hlt := (Array.getElem?_eq_some_iff.mp h2).1
      have h3 := hall j hlt
      have hlt' : j < listed.size := by omega
      simp only [Array.getD, hlt', dite_true] at h1 h3
      rw [h1] at h3; cases h3
  | succ fuel ih =>
    intro listed φ a w hsz hc hcl hs
    refine ⟨fun hr => ?_, fun j hj => ?_⟩
    · refine hfin listed ?_ φ a w hs
      intro i hi
      induction i using Nat.strongRecOn with
      | ind i ihi =>
        cases hL : listed.getD i false with
        | true => rfl
        | false =>
          obtain ⟨r, o, k1, k2⟩ := hrec i hi
          have : i ∈ Region.ready .any ops listed := by
            rw [mem_ready]
            have hlt' : i < listed.size := by omega
            refine ⟨by simp only [Array.getD, hlt', dite_true] at hL ⊢; exact hL, o, k2, fun e he hb => ?_⟩
            have := hback i r o k1 k2 e he hb
            exact ihi e.on this (by omega)
          rw [hr] at this
          simp at this
    · rw [mem_ready] at hj
      obtain ⟨h1, o, h2, h3⟩ := hj
      have hlt := (Array.getElem?_eq_some_iff.mp h2).1
      have hlt' : j < listed.size := by omega
      have hLj : listed.getD j false = false := by simp only [Array.getD, hlt', dite_true] at h1 ⊢; exact h1
      obtain ⟨r, o', hr, h2'⟩ := hrec j hlt
      rw [h2] at h2'; obtain rfl := Option.some.inj h2'
      obtain ⟨⟨hd, hdn, hstp⟩, hsub⟩ := hst j r hr
      rw [Nat.zero_add] at hstp
      have hnew : ∀ i, i ≠ j → (listed.setIfInBounds j true).getD i false = listed.getD i false := fun i hi => getD_set_ne false (Ne.symm hi)
      have hnewj : (listed.setIfInBounds j true).getD j false = true := by simp [hlt']
      have hafter : ∀ i ri oi, j < i → recs[i]? = some ri → ops[i]? = some oi → listed.getD i false = true → Indep r ri := fun i ri oi hij k1 k2 k3 => by
        rcases hpr j i r ri oi hij hr k1 k2 with h | h
        · exact h
        · have := h.listed (L := fun i => listed.getD i false) hcl k3
          rw [hLj] at this; cases this
      have hahead : ∀ i ri, i < j → recs[i]? = some ri → Indep ri r ∨ listed.getD i false = true := fun i ri hij k1 => by
        rcases hpr i j ri r o hij k1 hr h2 with h | h
        · exact .inl h
        · exact .inr (h.ready (L := fun i => listed.getD i false) hcl h2 h3)
      have hagS : ∀ t ∈ r.looks, (foldU (usOf Rec.sups recs) (fun i => listed.getD i false) ops.size s0)[t]? = (seqU Rec.sups (recs.take j) s0)[t]? := fun t ht => by
        rw [seqU_fold Rec.sups recs s0 j (by omega), ← foldU_lt (m := ops.size) (by omega)]
        refine foldU_agree fun i hi hk => ?_
        obtain ⟨ri, k1, k2⟩ := mem_usOf (r := r) hk
        have k3 := sups_dom k2
        obtain ⟨_, oi, _, k4⟩ := hrec i hi
        rcases Nat.lt_trichotomy i j with h | h | h
        · rcases hahead i ri h k1 with q | q
          · exact absurd ht (q.s1 t k3)
          · simp only [q, h, decide_true]
        · subst h
          simp [hLj]
        · cases q : listed.getD i false with
          | true => exact absurd ht ((hafter i ri oi h k1 k4 q).s2 t k3)
          | false => simp; omega
      have hagH : ∀ k ∈ r.rds, (foldU (usOf Rec.ups recs) (fun i => listed.getD i false) ops.size H0)[k]? = (seqU Rec.ups (recs.take j) H0)[k]? := fun k ht => by
        rw [seqU_fold Rec.ups recs H0 j (by omega), ← foldU_lt (m := ops.size) (by omega)]
        refine foldU_agree fun i hi hk => ?_
        obtain ⟨ri, k1, k2⟩ := mem_usOf (r := r) hk
        obtain ⟨_, oi, _, k4⟩ := hrec i hi
        rcases Nat.lt_trichotomy i j with h | h | h
        · rcases hahead i ri h k1 with q | q
          · exact absurd ht (q.o1 k k2)
          · simp only [q, h, decide_true]
        · subst h
          simp [hLj]
        · cases q : listed.getD i false with
          | true => exact absurd ht ((hafter i ri oi h k1 k4 q).o2 k k2)
          | false => simp; omega
      refine stepK_wp hT (hd := hd) (hstp _ _ (fun s' => s' = ⟨_, _⟩) ?_ ?_ hagS hagH rfl) (hdn ▸ hle) hs ?_
      · rw [foldU_length, seqU_fold Rec.sups recs s0 j (by omega), foldU_length]
      · rw [foldU_length, seqU_fold Rec.ups recs H0 j (by omega), foldU_length]
      · rintro s' φ' a' w' rfl hs'
        have eS := foldU_add (us := usOf Rec.sups recs) (L := fun i => listed.getD i false) (L' := fun i => (listed.setIfInBounds j true).getD i false) (l := s0) (j := j) (m := ops.size) hLj hnewj hnew hlt
          (fun i hij hi hL k k1 k2 => by
            obtain ⟨ri, q1, q2⟩ := mem_usOf (r := r) k1
            obtain ⟨rj, q3, q4⟩ := mem_usOf (r := r) k2
            obtain ⟨_, oi, _, q5⟩ := hrec i hi
            rw [hr] at q3; obtain rfl := Option.some.inj q3
            exact (hafter i ri oi hij q1 q5 hL).s3 k (sups_dom q4) (sups_dom q2))
        have eH := foldU_add (us := usOf Rec.ups recs) (L := fun i => listed.getD i false) (L' := fun i => (listed.setIfInBounds j true).getD i false) (l := H0) (j := j) (m := ops.size) hLj hnewj hnew hlt
          (fun i hij hi hL k k1 k2 => by
            obtain ⟨ri, q1, q2⟩ := mem_usOf (r := r) k1
            obtain ⟨rj, q3, q4⟩ := mem_usOf (r := r) k2
            obtain ⟨_, oi, _, q5⟩ := hrec i hi
            rw [hr] at q3; obtain rfl := Option.some.inj q3
            exact (hafter i ri oi hij q1 q5 hL).o2 k q2 (hsub k q4))
        have uS : usOf Rec.sups recs j = r.sups := by simp [usOf, hr]
        have uH : usOf Rec.ups recs j = r.ups := by simp [usOf, hr]
        rw [uS] at eS; rw [uH] at eH
        rw [eS, eH] at hs'
        refine ih _ φ' a' w' (by simpa using hsz) ?_ ?_ hs'
        · have := cnt_set (f := fun i => listed.getD i false) (g := fun i => (listed.setIfInBounds j true).getD i false) hLj hnewj hnew hlt
          omega
        · intro i oi k1 k2 e he hb
          by_cases eij : i = j
          · subst eij
            rw [h2] at k1; obtain rfl := Option.some.inj k1
            have := h3 e he hb
            by_cases q : e.on = i
            · rw [q]; exact hnewj
            · rw [hnew _ q]; exact this
          · rw [hnew i eij] at k2
            have := hcl i oi k1 k2 e he hb
            by_cases q : e.on = j
            · rw [q]; exact hnewj
            · rw [hnew _ q]; exact this

end Go.A
