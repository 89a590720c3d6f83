import Derived.Test.YtgigpjkdfhhahaaD13
import Derived.Test.YtgigpjkdfhhahaaA38
-- merged
namespace Go.Proofs.Ytgigpjkdfhhahaa
open Go.A
set_option linter.unusedVariables false
set_option linter.unusedSimpArgs false
set_option linter.unnecessarySimpa false
attribute [local irreducible] IntKind.wrap bitsI
set_option maxRecDepth 100000
set_option maxHeartbeats 4000000

theorem Pre.up {ops ops' : Array Oper} (h : ∀ (j : Nat) (o : Oper), ops'[j]? = some o → ops[j]? = some o) {i j : Nat} (p : A.Pre ops' i j) : A.Pre ops i j := by
  induction p with
  | one ho he hb hi => exact .one (h _ _ ho) he hb hi
  | more ho he hb _ ih => exact .more (h _ _ ho) he hb ih
theorem cnt_true {f : Nat → Bool} : ∀ {m : Nat}, (∀ i, i < m → f i = true) → cnt f m = 0
  | 0, _ => rfl
  | m + 1, h => by
    rw [cnt, cnt_true fun i hi => h i (by omega), h m (by omega)]; rfl
theorem runD_pre {P : Program} {T : Tab} {n : Nat} {own : List Nat} {ops : Array Oper} : ∀ {rest : List Oper} {i : Nat} {s : List D} {H : List AObj} {bx : List Bool} {acc : List A.Rec} {X : List D → List AObj → List Bool → List A.Rec → Prop},
    (∃ suf, ops.toList.drop i = rest ++ suf) → runD P T n own ops.toList rest s H bx acc X →
    ∃ rs s' H' bx' k, X s' H' bx' (rs.reverse ++ acc) ∧ H'.length = H.length + k ∧ ∀ j tail, Chain P T n ops i s (H ++ List.replicate (k + j) ph ++ tail) rs s' (H' ++ List.replicate j ph ++ tail)
  | [], i, s, H, bx, acc, X, hd, h => ⟨[], s, H, bx, 0, h, rfl, fun j tail => by rw [Nat.zero_add]; exact .nil⟩
  | o :: rest, i, s, H, bx, acc, X, ⟨suf, hd⟩, h => by
    have hi : ops[i]? = some o := by
      have : (ops.toList.drop i)[0]? = some o := by rw [hd]; rfl
      simpa using this
    have hd' : ∃ suf, ops.toList.drop (i + 1) = rest ++ suf := ⟨suf, by
      rw [← List.drop_drop, hd]; rfl⟩
    rw [runD_cons] at h
    rcases guardF_ok h with ⟨h1, h2⟩ | ⟨h1, h2⟩
    · obtain ⟨d, rds, ups, H1, bx1, k1, h3, h4, h5, h6⟩ := doD_ok h1
      replace h3 := putK_iff.mp (listK_iff.mp h3)
      obtain ⟨rs, s', H', bx', k, m1, m2, m3⟩ := runD_pre hd' h3
      refine ⟨_ :: rs, s', H', bx', k1 + k, by simpa using m1, by omega, fun j tail => ?_⟩
      have m4 := m3 j tail
      obtain ⟨q1, hd, hdn, q2⟩ := h6 tail (k + j)
      refine .cons (r := ⟨o.dst, d, looksF ops.toList o, rds, ups⟩) ⟨hd, hdn, fun s2 H2 K l1 l2 l3 l4 hK => ?_⟩ h5 ?_
      · unfold stepK
        rw [hi]
        refine h2 s2 H2 _ _ (fun t ht => l3 t (by simp [looksF, ht])) ?_
        refine q2 s2 H2 K (ev_agree fun t ht => l3 t (by simp [looksF, ht])) (fun o ho => ?_) ?_
        · rw [l4 o ho, Nat.add_assoc]
        · rw [← A.Rec.put] at hK
          exact hK
      · rw [← A.Rec.put, Nat.add_assoc, q1]
        exact m4
    · replace h1 := putK_iff.mp (listK_iff.mp h1)
      obtain ⟨rs, s', H', bx', k, m1, m2, m3⟩ := runD_pre hd' h1
      refine ⟨_ :: rs, s', H', bx', k, by simpa using m1, m2, fun j tail => ?_⟩
      have m4 := m3 j tail
      refine .cons (r := ⟨o.dst, .tup [], looksF ops.toList o, [], []⟩) ⟨{ n := n }, rfl, fun s2 H2 K l1 l2 l3 l4 hK => ?_⟩ (fun k hk => by simp [dom] at hk) ?_
      · unfold stepK
        rw [hi]
        refine h2 s2 H2 _ _ (fun t ht => l3 t (by simp [looksF, ht])) ?_
        rw [← A.Rec.put] at hK
        exact hK
      · rw [← A.Rec.put]
        exact m4

theorem wpAny_pre {P : Program} {T : Tab} {n0 : Nat} (hT : TOk P T) {ops : Array Oper} {recs : List A.Rec} {s0 s1 : List D} {H0 H1 : List AObj} (hch : Chain P T n0 ops 0 s0 H0 recs s1 H1)
    {m : Nat} (hmle : m ≤ ops.size) (hp : pairsB [] 0 (ops.toList.take m) recs = true) (hPre : ∀ i j, i < m → m ≤ j → j < ops.size → A.Pre ops i j) {C : Ctx} (hle : C.le n0) {Q : Exit → Act → World → Prop}
    (fin : ∀ φ a w (listed : Array Bool), listed.size = ops.size → (∀ i, i < ops.size → listed.getD i false = decide (i < m)) → SRel C φ ⟨s1, H1⟩ a w → wpAnyIn C.F 0 P .any ops Q (ops.size - m) listed a w) :
    ∀ (fuel : Nat) (listed : Array Bool) (φ : List (Option Nat)) (a : Act) (w : World), listed.size = ops.size → cnt (fun i => listed.getD i false) m = fuel → (∀ i, m ≤ i → i < ops.size → listed.getD i false = false) →
      (∀ i o, ops[i]? = some o → listed.getD i false = true → ∀ e ∈ o.after, Region.binds .any e = true → listed.getD e.on false = true) →
      SRel C φ ⟨foldU (usOf A.Rec.sups recs) (fun i => listed.getD i false) m s0, foldU (usOf A.Rec.ups recs) (fun i => listed.getD i false) m H0⟩ a w →
      wpAnyIn C.F 0 P .any ops Q (fuel + (ops.size - m)) listed a w := by
  obtain ⟨he1, he2, hst⟩ := hch.at
  obtain ⟨ops', ho'⟩ : ∃ ops' : Array Oper, ops' = (ops.toList.take m).toArray := ⟨_, rfl⟩
  have hat : ∀ (j : Nat) (o : Oper), ops'[j]? = some o → ops[j]? = some o := fun j o h => by
    have h' : (ops.toList.take m)[j]? = some o := by rw [ho'] at h; simpa using h
    rw [List.getElem?_take] at h'
    split at h'
    · simpa using h'
    · cases h'
  obtain ⟨hlen, hpair0⟩ := pairsB_ok (ops := ops') (by rw [ho']; exact hp)
  have hm : recs.length = m := by rw [← hlen, ho']; simp; omega
  have hto : ∀ (j : Nat) (o : Oper), j < m → ops[j]? = some o → ops'.toList[j]? = some o := fun j o hj h => by
    rw [ho']
    simp only [List.getElem?_take, hj, if_true]
    simpa using h
  have hpair : ∀ (j : Nat) o r, j < m → ops[j]? = some o → recs[j]? = some r → (∀ e ∈ o.after.toList, Region.binds .any e = true → e.on < j) ∧ ∀ k r', k < j → recs[k]? = some r' → Indep r' r ∨ A.Pre ops k j := fun j o r hj h1 h2 => by
    obtain ⟨k1, k2⟩ := hpair0 j o r (hto j o hj h1) h2
    exact ⟨k1, fun k r' hk hr => (k2 k r' hk hr).imp id (Pre.up hat)⟩
  have hrec : ∀ (j : Nat), j < m → ∃ r o, recs[j]? = some r ∧ ops[j]? = some o := fun j hj => ⟨recs[j]'(by omega), ops[j]'(by omega), List.getElem?_eq_getElem (by omega), Array.getElem?_eq_getElem (by omega)⟩
  have hpr : ∀ i j ri rj oj, i < j → recs[i]? = some ri → recs[j]? = some rj → ops[j]? = some oj → Indep ri rj ∨ A.Pre ops i j := fun i j ri rj oj hij h1 h2 h3 => by
    obtain ⟨_, k2⟩ := hpair j oj rj (by have := (List.getElem?_eq_some_iff.mp h2).1; omega) h3 h2
    exact k2 i ri hij h1
  have hback : ∀ j rj oj, recs[j]? = some rj → ops[j]? = some oj → ∀ e ∈ oj.after, Region.binds .any e = true → e.on < j := fun j rj oj h2 h3 e he hb => by
    obtain ⟨k1, _⟩ := hpair j oj rj (by have := (List.getElem?_eq_some_iff.mp h2).1; omega) h3 h2
    simpa using k1 e (by simpa using he) hb
  have hfin : ∀ (listed : Array Bool), listed.size = ops.size → (∀ i, i < m → listed.getD i false = true) → (∀ i, m ≤ i → i < ops.size → listed.getD i false = false) → ∀ φ a w,
      SRel C φ ⟨foldU (usOf A.Rec.sups recs) (fun i => listed.getD i false) m s0, foldU (usOf A.Rec.ups recs) (fun i => listed.getD i false) m H0⟩ a w → wpAnyIn C.F 0 P .any ops Q (ops.size - m) listed a w := fun listed hsz hall hnone φ a w hs => by
    refine fin φ a w listed hsz (fun i hi => ?_) ?_
    · by_cases h : i < m
      · rw [hall i h, decide_eq_true h]
      · rw [hnone i (by omega) hi, decide_eq_false h]
    · have e1 := seqU_fold A.Rec.sups recs s0 recs.length (Nat.le_refl _)
      have e2 := seqU_fold A.Rec.ups recs H0 recs.length (Nat.le_refl _)
      rw [List.take_length] at e1 e2
      rw [he1, he2, e1, e2, hm]
      rw [foldU_same (L := fun i => listed.getD i false) (L' := fun _ => true) hall, foldU_same (L := fun i => listed.getD i false) (L' := fun _ => true) hall] at hs
      exact hs
  intro fuel
  induction fuel with
  | zero =>
    intro listed φ a w hsz hc hnone hcl hs
    have hall := cnt_zero hc
    rw [Nat.zero_add]
    exact hfin listed hsz hall hnone φ a w hs
  | succ fuel ih =>
    intro listed φ a w hsz hc hnone hcl hs
    have hnot : ¬ ∀ i, i < m → listed.getD i false = true := fun hall => by
      have := cnt_true (f := fun i => listed.getD i false) hall
      omega
    rw [show fuel + 1 + (ops.size - m) = (fuel + (ops.size - m)) + 1 by omega]
    refine ⟨fun hr => ?_, fun j hj => ?_⟩
    · refine absurd ?_ hnot
      intro i hi
      induction i using Nat.strongRecOn with
      | ind i ihi =>
        cases hL : listed.getD i false with
        | true => rfl
        | false =>
          obtain ⟨r, o, k1, k2⟩ := hrec i hi
          have : i ∈ Region.ready .any ops listed := by
            rw [mem_ready]
            have hlt' : i < listed.size := by omega
            refine ⟨by simp only [Array.getD, hlt', dite_true] at hL ⊢; exact hL, o, k2, fun e he hb => ?_⟩
            have := hback i r o k1 k2 e he hb
            exact ihi e.on this (by omega)
          rw [hr] at this
          simp at this
    · rw [mem_ready] at hj
      obtain ⟨h1, o, h2, h3⟩ := hj
      have hlto := (Array.getElem?_eq_some_iff.mp h2).1
      have hlt : j < m := by
        rcases Nat.lt_or_ge j m with h | h
        · exact h
        · exact absurd (fun i hi => (hPre i j hi h hlto).ready (L := fun i => listed.getD i false) hcl h2 h3) hnot
      have hlt' : j < listed.size := by omega
      have hLj : listed.getD j false = false := by simp only [Array.getD, hlt', dite_true] at h1 ⊢; exact h1
      obtain ⟨r, o', hr, h2'⟩ := hrec j hlt
      rw [h2] at h2'; obtain rfl := Option.some.inj h2'
      obtain ⟨⟨hd, hdn, hstp⟩, hsub⟩ := hst j r hr
      rw [Nat.zero_add] at hstp
      have hnew : ∀ i, i ≠ j → (listed.setIfInBounds j true).getD i false = listed.getD i false := fun i hi => getD_set_ne false (Ne.symm hi)
      have hnewj : (listed.setIfInBounds j true).getD j false = true := by simp [hlt']
      have hafter : ∀ i ri oi, j < i → recs[i]? = some ri → ops[i]? = some oi → listed.getD i false = true → Indep r ri := fun i ri oi hij k1 k2 k3 => by
        rcases hpr j i r ri oi hij hr k1 k2 with h | h
        · exact h
        · have := h.listed (L := fun i => listed.getD i false) hcl k3
          rw [hLj] at this; cases this
      have hahead : ∀ i ri, i < j → recs[i]? = some ri → Indep ri r ∨ listed.getD i false = true := fun i ri hij k1 => by
        rcases hpr i j ri r o hij k1 hr h2 with h | h
        · exact .inl h
        · exact .inr (h.ready (L := fun i => listed.getD i false) hcl h2 h3)
      have hagS : ∀ t ∈ r.looks, (foldU (usOf A.Rec.sups recs) (fun i => listed.getD i false) m s0)[t]? = (seqU A.Rec.sups (recs.take j) s0)[t]? := fun t ht => by
        rw [seqU_fold A.Rec.sups recs s0 j (by omega), ← foldU_lt (m := m) (by omega)]
        refine foldU_agree fun i hi hk => ?_
        obtain ⟨ri, k1, k2⟩ := mem_usOf (r := r) hk
        have k3 := sups_dom k2
        obtain ⟨_, oi, _, k4⟩ := hrec i hi
        rcases Nat.lt_trichotomy i j with h | h | h
        · rcases hahead i ri h k1 with q | q
          · exact absurd ht (q.s1 t k3)
          · simp only [q, h, decide_true]
        · subst h
          simp [hLj]
        · cases q : listed.getD i false with
          | true => exact absurd ht ((hafter i ri oi h k1 k4 q).s2 t k3)
          | false => simp; omega
      have hagH : ∀ k ∈ r.rds, (foldU (usOf A.Rec.ups recs) (fun i => listed.getD i false) m H0)[k]? = (seqU A.Rec.ups (recs.take j) H0)[k]? := fun k ht => by
        rw [seqU_fold A.Rec.ups recs H0 j (by omega), ← foldU_lt (m := m) (by omega)]
        refine foldU_agree fun i hi hk => ?_
        obtain ⟨ri, k1, k2⟩ := mem_usOf (r := r) hk
        obtain ⟨_, oi, _, k4⟩ := hrec i hi
        rcases Nat.lt_trichotomy i j with h | h | h
        · rcases hahead i ri h k1 with q | q
          · exact absurd ht (q.o1 k k2)
          · simp only [q, h, decide_true]
        · subst h
          simp [hLj]
        · cases q : listed.getD i false with
          | true => exact absurd ht ((hafter i ri oi h k1 k4 q).o2 k k2)
          | false => simp; omega
      refine stepK_wp hT (hd := hd) (hstp _ _ (fun s' => s' = ⟨_, _⟩) ?_ ?_ hagS hagH rfl) (hdn ▸ hle) hs ?_
      · rw [foldU_length, seqU_fold A.Rec.sups recs s0 j (by omega), foldU_length]
      · rw [foldU_length, seqU_fold A.Rec.ups recs H0 j (by omega), foldU_length]
      · rintro s' φ' a' w' rfl hs'
        have eS := foldU_add (us := usOf A.Rec.sups recs) (L := fun i => listed.getD i false) (L' := fun i => (listed.setIfInBounds j true).getD i false) (l := s0) (j := j) (m := m) hLj hnewj hnew hlt
          (fun i hij hi hL k k1 k2 => by
            obtain ⟨ri, q1, q2⟩ := mem_usOf (r := r) k1
            obtain ⟨rj, q3, q4⟩ := mem_usOf (r := r) k2
            obtain ⟨_, oi, _, q5⟩ := hrec i hi
            rw [hr] at q3; obtain rfl := Option.some.inj q3
            exact (hafter i ri oi hij q1 q5 hL).s3 k (sups_dom q4) (sups_dom q2))
        have eH := foldU_add (us := usOf A.Rec.ups recs) (L := fun i => listed.getD i false) (L' := fun i => (listed.setIfInBounds j true).getD i false) (l := H0) (j := j) (m := m) hLj hnewj hnew hlt
          (fun i hij hi hL k k1 k2 => by
            obtain ⟨ri, q1, q2⟩ := mem_usOf (r := r) k1
            obtain ⟨rj, q3, q4⟩ := mem_usOf (r := r) k2
            obtain ⟨_, oi, _, q5⟩ := hrec i hi
            rw [hr] at q3; obtain rfl := Option.some.inj q3
            exact (hafter i ri oi hij q1 q5 hL).o2 k q2 (hsub k q4))
        have uS : usOf A.Rec.sups recs j = r.sups := by simp [usOf, hr]
        have uH : usOf A.Rec.ups recs j = r.ups := by simp [usOf, hr]
        rw [uS] at eS; rw [uH] at eH
        rw [eS, eH] at hs'
        refine ih _ φ' a' w' (by simpa using hsz) ?_ (fun i h1 h2 => by rw [hnew i (by omega)]; exact hnone i h1 h2) ?_ hs'
        · have := cnt_set (f := fun i => listed.getD i false) (g := fun i => (listed.setIfInBounds j true).getD i false) hLj hnewj hnew hlt
          omega
        · intro i oi k1 k2 e he hb
          by_cases eij : i = j
          · subst eij
            rw [h2] at k1; obtain rfl := Option.some.inj k1
            have := h3 e he hb
            by_cases q : e.on = i
            · rw [q]; exact hnewj
            · rw [hnew _ q]; exact this
          · rw [hnew i eij] at k2
            have := hcl i oi k1 k2 e he hb
            by_cases q : e.on = j
            · rw [q]; exact hnewj
            · rw [hnew _ q]; exact this


theorem preTrans {ops : Array Oper} {i k j : Nat} (h1 : A.Pre ops i k) (h2 : A.Pre ops k j) : A.Pre ops i j := by
  induction h2 with
  | one ho he hb hi => exact .more ho he hb (hi ▸ h1)
  | more ho he hb _ ih => exact .more ho he hb ih
theorem pre_row {ops : Array Oper} {m : Nat} (hP : ∀ j, m ≤ j → j + 1 < ops.size → A.Pre ops j (j + 1)) {i : Nat} (hi : m ≤ i) : ∀ d, i + d + 1 < ops.size → A.Pre ops i (i + d + 1)
  | 0, h => hP i hi h
  | d + 1, h => preTrans (pre_row hP hi d (by omega)) (hP (i + d + 1) (by omega) h)
theorem wpAny_tail {P : Program} {ops : Array Oper} {F : Fence} {Q : Exit → Act → World → Prop} {m : Nat} (hP : ∀ j, m ≤ j → j + 1 < ops.size → A.Pre ops j (j + 1)) (hback : ∀ (j : Nat) (o : Oper), ops[j]? = some o → ∀ e ∈ o.after, Region.binds .any e = true → e.on < j) :
    ∀ (d j : Nat) (listed : Array Bool) (a : Act) (w : World), m ≤ j → j + d = ops.size → listed.size = ops.size → (∀ i, i < ops.size → listed.getD i false = decide (i < j)) → wpOpsIn F 0 P ops Q (List.range' j d) a w → wpAnyIn F 0 P .any ops Q d listed a w
  | 0, j, listed, a, w, hmj, hjd, hsz, hl, h => by
    refine ⟨?_, by simpa [wpOpsIn] using h⟩
    cases hr : Region.ready .any ops listed with
    | nil => rfl
    | cons i l =>
      have hi : i ∈ Region.ready .any ops listed := by rw [hr]; exact List.mem_cons_self ..
      rw [mem_ready] at hi
      obtain ⟨h1, o, h2, _⟩ := hi
      have hlt := (Array.getElem?_eq_some_iff.mp h2).1
      have h3 := hl i hlt
      have hlt' : i < listed.size := by omega
      rw [decide_eq_true (by omega)] at h3
      simp only [Array.getD, hlt', dite_true] at h1 h3
      rw [h1] at h3; cases h3
  | d + 1, j, listed, a, w, hmj, hjd, hsz, hl, h => by
    have hjlt : j < ops.size := by omega
    have hjlt' : j < listed.size := by omega
    have hcl : ∀ (i : Nat) (o : Oper), ops[i]? = some o → listed.getD i false = true → ∀ e ∈ o.after, Region.binds .any e = true → listed.getD e.on false = true := fun i o h1 h2 e he hb => by
      have hlt := (Array.getElem?_eq_some_iff.mp h1).1
      rw [hl i hlt, decide_eq_true_eq] at h2
      have := hback i o h1 e he hb
      rw [hl e.on (by omega), decide_eq_true_eq]
      omega
    refine ⟨fun hr => ?_, fun i hi => ?_⟩
    · have hj : j ∈ Region.ready .any ops listed := by
        rw [mem_ready]
        refine ⟨?_, ops[j], Array.getElem?_eq_getElem hjlt, fun e he hb => ?_⟩
        · have h3 := hl j hjlt
          rw [decide_eq_false (by omega)] at h3
          simp only [Array.getD, hjlt', dite_true] at h3 ⊢
          exact h3
        · have := hback j _ (Array.getElem?_eq_getElem hjlt) e he hb
          rw [hl e.on (by omega), decide_eq_true_eq]
          exact this
      rw [hr] at hj
      simp at hj
    · rw [mem_ready] at hi
      obtain ⟨h1, o, h2, h3⟩ := hi
      have hlt := (Array.getElem?_eq_some_iff.mp h2).1
      have hlt' : i < listed.size := by omega
      have hL : listed.getD i false = false := by simp only [Array.getD, hlt', dite_true] at h1 ⊢; exact h1
      rw [hl i hlt, decide_eq_false_iff_not] at hL
      have hij : i = j := by
        rcases Nat.lt_or_ge j i with g | g
        · have hp := pre_row hP hmj (i - j - 1) (by omega)
          rw [show j + (i - j - 1) + 1 = i by omega] at hp
          have := hp.ready (L := fun i => listed.getD i false) hcl h2 h3
          rw [hl j hjlt, decide_eq_true_eq] at this
          omega
        · omega
      subst hij
      rw [List.range'_succ, wpOpsIn_cons] at h
      refine wpOpIn_mono (fun a w hk => ?_) h
      refine wpAny_tail hP hback d (i + 1) _ a w (by omega) (by omega) (by simpa using hsz) (fun k hk => ?_) hk
      by_cases e : k = i
      · subst e
        rw [decide_eq_true (by omega)]
        simp [hlt']
      · rw [getD_set_ne false (Ne.symm e), hl k hk]
        by_cases g : k < i
        · rw [decide_eq_true g, decide_eq_true (by omega)]
        · rw [decide_eq_false g, decide_eq_false (by omega)]

/-- A drawn region whose last operations (from m on) come in their order, behind all others. -/
theorem W_drawPre {P : Program} {T : Tab} (hT : TOk P T) (hm : P.follows .mixedOrders = true) {n : Nat} {own : List Nat} {id : Nat} {ops : Array Oper} {k : List A.Item} {s : List D} {H : List AObj} {bx : List Bool} {Q : Exit → St → Prop}
    {X : List D → List AObj → List Bool → Prop} (m : Nat) (hmle : m < ops.size) (hP1 : ∀ i, i < m → A.Pre ops i m) (hP : ∀ j, m ≤ j → j + 1 < ops.size → A.Pre ops j (j + 1))
    (hback : ∀ (j : Nat) (o : Oper), ops[j]? = some o → ∀ e ∈ o.after, Region.binds .any e = true → e.on < j)
    (hX : ∀ s H bx, X s H bx → W P n (.ops id ops (List.range' m (ops.size - m)) :: k) ⟨s, H⟩ Q)
    (h : runD P T n own ops.toList (ops.toList.take m) s H bx [] fun s H bx recs => listK recs.reverse fun rs => PairK (pairsB [] 0 (ops.toList.take m) rs) (X s H bx)) : W P n (.code (.region id ops true) :: k) ⟨s, H⟩ Q := by
  obtain ⟨rs, s', H', bx', q, h1, h2, h3⟩ := runD_pre (i := 0) ⟨ops.toList.drop m, by simp⟩ h
  obtain ⟨h4, h5⟩ := listK_iff.mp h1
  simp only [List.append_nil, List.reverse_reverse] at h4
  have hW := hX _ _ _ h5
  refine W.intro fun C φ a w hn hs => ?_
  show (Code.region id ops true).wpIn C.F 0 P _ a w
  refine wpIn_region_any hm ?_
  obtain ⟨g, e⟩ := hs.g.draw (w' := { w with drawn := w.drawn + 1 }) rfl ⟨rfl, rfl, rfl, (by first | exact Nat.le_refl _ | exact Nat.le_succ _)⟩
  have hs1 : SRel C φ ⟨s, H⟩ a { w with drawn := w.drawn + 1 } := ⟨hs.defers, e ▸ hs.slots, g⟩
  obtain ⟨φ', hs2⟩ := hs1.phs q
  have hch := h3 0 []
  simp only [Nat.add_zero, List.append_nil, List.replicate_zero] at hch
  have hPre : ∀ i j, i < m → m ≤ j → j < ops.size → A.Pre ops i j := fun i j hi hj hjl => by
    rcases Nat.lt_or_ge m j with h | h
    · have hp := pre_row hP (Nat.le_refl m) (j - m - 1) (by omega)
      rw [show m + (j - m - 1) + 1 = j by omega] at hp
      exact preTrans (hP1 i hi) hp
    · obtain rfl : j = m := by omega
      exact hP1 i hi
  have hfuel : m + (ops.size - m) = ops.size := by omega
  rw [← hfuel]
  refine wpAny_pre hT hch (Nat.le_of_lt hmle) h4 hPre (C := C) hn (fun φ a w listed hsz hl hs => ?_) m (Array.replicate (m + (ops.size - m)) false) φ' a _ (by simp; omega) ?_ (fun i _ _ => by simp [Array.getElem?_replicate]; split <;> rfl) ?_ ?_
  · refine wpAny_tail hP hback (ops.size - m) m listed a w (Nat.le_refl _) hfuel hsz hl ?_
    exact W.run hW hn hs
  · exact cnt_all (fun i => by simp [Array.getElem?_replicate]; split <;> rfl) _
  · intro i o _ hi
    have : (Array.replicate (m + (ops.size - m)) false).getD i false = false := by simp [Array.getElem?_replicate]; split <;> rfl
    rw [this] at hi; cases hi
  · rw [foldU_none (fun i => by simp [Array.getElem?_replicate]; split <;> rfl), foldU_none (fun i => by simp [Array.getElem?_replicate]; split <;> rfl)]
    exact hs2

def backs : List Oper → Nat → Bool
  | [], _ => true
  | o :: l, i => backB o.after.toList i && backs l (i + 1)
theorem backs_ok : ∀ {l : List Oper} {i : Nat}, backs l i = true → ∀ (j : Nat) (o : Oper), l[j]? = some o → ∀ e ∈ o.after, Region.binds .any e = true → e.on < i + j
  | [], _, _, j, o, h => by simp at h
  | x :: l, i, hb, j, o, h => by
    simp only [backs, Bool.and_eq_true] at hb
    cases j with
    | zero =>
      obtain rfl := Option.some.inj h
      exact fun e he hq => backB_ok hb.1 e (by simpa using he) hq
    | succ j =>
      intro e he hq
      have := backs_ok hb.2 j o (by simpa using h) e he hq
      omega
def cls : List Oper → List Nat → List Nat
  | [], cs => cs
  | o :: l, cs => cls l (cs ++ [cloB o.after.toList cs])
theorem cls_ok {ops : Array Oper} : ∀ {l : List Oper} {i : Nat} {cs : List Nat}, ops.toList.drop i = l → cs.length = i → (∀ a k, Nat.testBit (cs.getD a 0) k = true → A.Pre ops k a) → ∀ a k, Nat.testBit ((cls l cs).getD a 0) k = true → A.Pre ops k a
  | [], _, _, _, _, h => h
  | o :: l, i, cs, hd, hc, h => by
    have hi : ops[i]? = some o := by
      have : (ops.toList.drop i)[0]? = some o := by rw [hd]; rfl
      simpa using this
    refine cls_ok (l := l) (i := i + 1) (by rw [← List.drop_drop, hd]; rfl) (by simp [hc]) (fun a k hk => ?_)
    rcases Nat.lt_or_ge a i with g | g
    · rw [List.getD_eq_getElem?_getD, List.getElem?_append_left (by omega), ← List.getD_eq_getElem?_getD] at hk
      exact h a k hk
    · rw [List.getD_eq_getElem?_getD, List.getElem?_append_right (by omega)] at hk
      rcases Nat.eq_or_lt_of_le g with e | e
      · subst e
        rw [hc, Nat.sub_self] at hk
        exact cloB_ok hi h (es := o.after.toList) (fun e he => by simpa using he) k hk
      · rw [List.getElem?_eq_none (by simp; omega)] at hk
        simp at hk
def preB (ops : List Oper) (m : Nat) : Bool := decide (m < ops.length) && backs ops 0 && (List.range m).all (fun i => Nat.testBit ((cls ops []).getD m 0) i) && (List.range (ops.length - m - 1)).all (fun i => Nat.testBit ((cls ops []).getD (m + i + 1) 0) (m + i))
/-- The same, with what is to be looked at as one test. -/
theorem W_drawB {P : Program} {T : Tab} (hT : TOk P T) (hm : P.follows .mixedOrders = true) {n : Nat} {own : List Nat} {id : Nat} {ops : Array Oper} {k : List A.Item} {s : List D} {H : List AObj} {bx : List Bool} {Q : Exit → St → Prop}
    (m q : Nat) (hb : preB ops.toList m = true) (hq : m + q = ops.size)
    (h : runD P T n own ops.toList (ops.toList.take m) s H bx [] fun s H bx recs => listK recs.reverse fun rs => PairK (pairsB [] 0 (ops.toList.take m) rs) (runS P T n own ops.toList ((ops.toList.drop m).take q) s H bx fun s H bx => exec P T n own 1000 k s H bx Q)) :
    W P n (.code (.region id ops true) :: k) ⟨s, H⟩ Q := by
  simp only [preB, Bool.and_eq_true, decide_eq_true_eq, List.all_eq_true, List.mem_range] at hb
  obtain ⟨⟨⟨h1, h2⟩, h3⟩, h4⟩ := hb
  have hsz : ops.toList.length = ops.size := by simp
  have hc := cls_ok (ops := ops) (l := ops.toList) (i := 0) (cs := []) (by simp) rfl (fun a k hk => by simp at hk)
  refine W_drawPre hT hm m (by omega) (fun i hi => hc _ _ (h3 i hi)) (fun j hj hjl => ?_) (fun j o ho e he hq => ?_) (fun s H bx h => ?_) h
  · have := h4 (j - m) (by omega)
    rw [show m + (j - m) = j by omega] at this
    exact hc _ _ this
  · have := backs_ok h2 j o (by simpa using ho) e he hq
    omega
  · rw [show ops.size - m = q by omega]
    exact W_opsR hT m q (by omega) (fun s H bx h => exec_ok hT hm 1000 h) h

end Go.Proofs.Ytgigpjkdfhhahaa


namespace Go.Proofs.Ytgigpjkdfhhahaa
open Go.A
set_option linter.unusedVariables false
set_option linter.unusedSimpArgs false
set_option linter.unnecessarySimpa false
attribute [local irreducible] IntKind.wrap bitsI
open B L M
set_option maxRecDepth 100000
set_option maxHeartbeats 4000000

theorem f12_ok (m : T23) : Pure Try.prog 12 [d24 m] (d33 m) := by
  refine Pure.of ⟨sc24 _ _, trivial⟩ ⟨trivial, trivial, scd22 _ _, trivial⟩ ?_
  refine Go.A.CallsIn.of_exec tab_ok mixed Try.func12 rfl rfl [] [] ?_
  repeat' ((conv => whnf); first
    | refine And.intro (by decide) ?_ | refine Exists.intro _ (And.intro (Eq.refl (α := Option D) _) ?_))
  all_goals (conv => whnf)
  exact ⟨rfl⟩

theorem inv_set {d : Dst} (hd : InvD d) {j : Nat} (hj : j < 16) {b : Bt} (hb : InvB (j : Int) d.version d.n.toNat b) : InvD (setB d j b) where
  n := hd.n
  b := fun i hi => by
    show InvB (i : Int) d.version d.n.toNat (upd d.bs j ((d.bs j).1, b) i).2
    unfold upd
    split
    · rename_i e; subst e; exact hb
    · exact hd.b i hi
  id := hd.id
  mp := hd.mp
  out := hd.out
  outv := hd.outv
  room := hd.room
  nd := hd.nd
  fresh := hd.fresh
  pos := hd.pos
  ver := hd.ver
theorem isNode_nat {i : Int} (h : isNode i) : ∃ j : Nat, i = (j : Int) ∧ j < 16 ∧ i.toNat = j := by
  obtain ⟨j, rfl⟩ := Int.eq_ofNat_of_zero_le h.1
  exact ⟨j, rfl, by have := h.2; omega, Int.toNat_natCast j⟩
theorem inv_takeD {d : Dst} (hd : InvD d) (i k : Int) (r : T43) : InvD (takeD d i k r).1 := by
  unfold takeD
  split
  · exact hd
  rename_i h
  split
  · exact hd
  split
  · exact hd
  obtain ⟨j, e1, e2, e3⟩ := isNode_nat (Classical.byContradiction h)
  rw [e3]
  exact inv_set hd e2 (inv_take (hd.b j e2) k r)
theorem inv_syncD {d : Dst} (hd : InvD d) (i : Int) : InvD (syncD d i) := by
  unfold syncD
  split
  · rename_i h
    obtain ⟨j, e1, e2, e3⟩ := isNode_nat h
    rw [e3]
    exact inv_set hd e2 (inv_sync (hd.b j e2))
  · exact hd
theorem inv_each {d : Dst} (hd : InvD d) {F : Bt → Bt} (hF : ∀ s v n b, InvB s v n b → InvB s v n (F b)) (k : Nat) : InvD (eachD F k d) where
  n := hd.n
  b := fun i hi => by
    show InvB (i : Int) d.version d.n.toNat (if i < k then ((d.bs i).1, F (d.bs i).2) else d.bs i).2
    split
    · exact hF _ _ _ _ (hd.b i hi)
    · exact hd.b i hi
  id := hd.id
  mp := hd.mp
  out := hd.out
  outv := hd.outv
  room := hd.room
  nd := hd.nd
  fresh := hd.fresh
  pos := hd.pos
  ver := hd.ver
theorem inv_crashD {d : Dst} (hd : InvD d) : InvD (crashD d) := inv_each hd (fun _ _ _ _ h => inv_crash h) 16
theorem inv_free {d : Dst} (hd : InvD d) : InvD { d with id := 0 } where
  n := hd.n
  b := hd.b
  id := Int.le_refl _
  mp := fun g => absurd rfl g
  out := hd.out
  outv := hd.outv
  room := fun g => absurd rfl g
  nd := hd.nd
  fresh := fun g => absurd rfl g
  pos := hd.pos
  ver := hd.ver
theorem inv_cancelD {d : Dst} (hd : InvD d) : InvD (cancelD d).1 := by
  unfold cancelD
  split
  · exact hd
  · exact inv_each (inv_free hd) (fun _ _ _ _ h => inv_drop h) 16
theorem inv_deleteD {d : Dst} (hd : InvD d) (id : Int) : InvD (deleteD d id).1 := by
  unfold deleteD
  split
  · exact hd
  · have hsub : List.Sublist (delO id d.out) d.out := List.filter_sublist
    exact ⟨hd.n, hd.b, hd.id, hd.mp, Nat.le_trans hsub.length_le hd.out, fun x hx => hd.outv x (hsub.subset hx), fun g => Nat.lt_of_le_of_lt hsub.length_le (hd.room g), (hsub.map _).nodup hd.nd,
      fun g x hx => hd.fresh g x (hsub.subset hx), fun x hx => hd.pos x (hsub.subset hx), hd.ver⟩
theorem parts_len {d : Dst} {N : Nat} (hb : ∀ j : Nat, j < 16 → (d.bs j).2.all.length = N) : ∀ (l : List T50) (a : Nat), M.endsAt (a : Int) l = some (N : Int) → (partsD d l).length + a = N
  | [], a, h => by
    rw [M.endsAt] at h
    have := Option.some.inj h
    simp [partsD]; omega
  | p :: l, a, h => by
    rw [M.endsAt] at h
    split at h
    · rename_i hc
      have hle := M.endsAt_le h
      obtain ⟨c1, c2, c3, c4⟩ := hc
      obtain ⟨t, ht⟩ := Int.eq_ofNat_of_zero_le (show 0 ≤ p.to_ by omega)
      rw [ht] at h
      have ih := parts_len hb l t h
      have hpl : (partD d p).length = t - a := by
        rw [partD, List.length_take, List.length_drop, hb _ (by omega)]
        omega
      have : partsD d (p :: l) = partD d p ++ partsD d l := by simp [partsD]
      rw [this, List.length_append, hpl]
      omega
    · cases h
theorem inv_publishD {d : Dst} (hd : InvD d) : InvD (publishD d).1 := by
  unfold publishD
  split
  · exact hd
  rename_i h1
  split
  · have hm := hd.mp h1
    have hall : ∀ j : Nat, j < 16 → (d.bs j).2.all.length = d.n.toNat := fun j hj => (hd.b j hj).all
    have hpl := parts_len hall d.mp 0 (by
      have := hm.1.2.2.2.2.2
      rw [show ((0 : Nat) : Int) = 0 from rfl, this]
      congr 1
      have h2 := hm.2
      have h3 := hd.n
      show d.mn = _
      omega)
    have hf := inv_free hd
    refine ⟨hd.n, hd.b, Int.le_refl _, fun g => absurd rfl g, ?_, fun x hx => ?_, fun g => absurd rfl g, ?_, fun g => absurd rfl g, fun x hx => ?_, hd.ver⟩
    · show (d.out ++ [_]).length ≤ 32
      have := hd.room h1
      rw [List.length_append, List.length_singleton]; omega
    · rcases List.mem_append.mp hx with hx | hx
      · exact hd.outv x hx
      · simp only [List.mem_singleton] at hx; subst hx
        exact hpl
    · show ((d.out ++ [_]).map Out.id).Nodup
      rw [List.map_append, List.nodup_append]
      refine ⟨hd.nd, by simp, fun a ha b hb => ?_⟩
      obtain ⟨x, hx, rfl⟩ := List.mem_map.mp ha
      simp only [List.map_cons, List.map_nil, List.mem_singleton] at hb
      subst hb
      exact hd.fresh h1 x hx
    · rcases List.mem_append.mp hx with hx | hx
      · exact hd.pos x hx
      · simp only [List.mem_singleton] at hx; subst hx
        have := hd.id
        show 1 ≤ d.id
        omega
  · exact hd

noncomputable def doesD (d : Dst) (a : T61) (vs : List Nat) : Dst × Int :=
  match a.kind_ % 8 with
  | 0 => takeD d a.node_ a.i_ a.r_
  | 1 => (syncD d a.node_, 0)
  | 2 => (crashD d, 0)
  | 3 => annD d a.i_ a.m_ vs
  | 4 => publishD d
  | 5 => cancelD d
  | 6 => deleteD d a.i_
  | _ => (d, 0)
theorem inv_does {d : Dst} (hd : InvD d) (a : T61) (vs : List Nat) : InvD (doesD d a vs).1 := by
  unfold doesD
  split
  · exact inv_takeD hd _ _ _
  · exact inv_syncD hd _
  · exact inv_crashD hd
  · exact inv_ann hd
  · exact inv_publishD hd
  · exact inv_cancelD hd
  · exact inv_deleteD hd _
  · exact hd

end Go.Proofs.Ytgigpjkdfhhahaa


namespace Go.Proofs.Ytgigpjkdfhhahaa
open Go.A
set_option linter.unusedVariables false
set_option linter.unusedSimpArgs false
set_option linter.unnecessarySimpa false
attribute [local irreducible] IntKind.wrap bitsI
open B L M
set_option maxRecDepth 100000
set_option maxHeartbeats 4000000

theorem sc62 (k : Nat) (a : T61) : (d62 a).sc k := by
  show scs k (c62 a)
  simp only [c62, scs_append]
  exact ⟨⟨⟨⟨⟨trivial, trivial⟩, ⟨trivial, trivial⟩⟩, ⟨trivial, trivial⟩⟩, scd44 k a.r_⟩, sc24 k a.m_⟩
theorem f21_at (dv ov : Nat) {d : Dst} (hd : InvD d) (a : T61) (ha : ok62 a) : Go.A.CallsIn Try.prog 21 [.p 0 dv 0 0, d62 a] (HD dv ov d) fun r H' => ∃ vs, r = .int .i64 (doesD d a vs).2 ∧ Near dv (doesD d a vs).1 H' := by
  have hk8 : Int.tmod (a.kind_ : Int) 8 = ((a.kind_ % 8 : Nat) : Int) := rfl
  have hq8 : a.kind_ % 8 < 8 := Nat.mod_lt _ (by decide)
  have h12 := f12_ok a.m_
  unfold doesD
  obtain ⟨q, hq⟩ : ∃ q, q = a.kind_ % 8 := ⟨_, rfl⟩
  rw [← hq] at hk8 hq8 ⊢
  have hrd : a.r_.data_.length ≤ 140737488351232 := by have := ha.2.2.2.1.2.2.2.2.2.2.2.2; simp [td56] at this; omega
  have hok : ok24 a.m_ := ha.2.2.2.2
  have h16 := f16_at dv ov hd a.node_ a.i_ a.r_ hrd
  have h28 := f28_at dv ov hd a.node_
  have h27 := f27_at dv ov hd
  have h14 := f14_at dv ov hd
  have h23 := f23_at dv ov hd
  have h24 := f24_at dv ov hd a.i_
  match q, hq8 with
  | 0, _ =>
    refine Go.A.CallsIn.of_exec tab_ok mixed Try.func21 rfl rfl [] bxD ?_
    repeat' ((conv => whnf); first
      | refine TurnD.call h16 [] trivial ?_ | refine And.intro (by decide) ?_ | refine boolF_dect (by omega) ?_)
    all_goals (conv => whnf)
    exact ⟨[], rfl, near_hd _ _ _ _⟩
  | 1, _ =>
    refine Go.A.CallsIn.of_exec tab_ok mixed Try.func21 rfl rfl [] bxD ?_
    repeat' ((conv => whnf); first
      | refine TurnD.call h28 [] trivial ?_ | refine And.intro (by decide) ?_ | refine boolF_dect (by omega) ?_ | refine boolF_decf (by omega) ?_)
    all_goals (conv => whnf)
    exact ⟨[], rfl, near_hd _ _ _ _⟩
  | 2, _ =>
    refine Go.A.CallsIn.of_exec tab_ok mixed Try.func21 rfl rfl [] bxD ?_
    repeat' ((conv => whnf); first
      | refine TurnD.call h27 [] trivial ?_ | refine And.intro (by decide) ?_ | refine boolF_dect (by omega) ?_ | refine boolF_decf (by omega) ?_)
    all_goals (conv => whnf)
    exact ⟨[], rfl, near_hd _ _ _ _⟩
  | 3, _ =>
    refine Go.A.CallsIn.of_execN 18 tab_ok mixed Try.func21 rfl rfl [] bxD ?_
    repeat' ((conv => whnf); first
      | refine And.intro (by decide) ?_ | refine boolF_dect (by omega) ?_ | refine boolF_decf (by omega) ?_)
    all_goals (conv => whnf)
    refine W_seq ?_
    refine W_drawB tab_ok mixed (own := []) (bx := bxD) 6 2 ?_ ?_ ?_
    · decide
    · rfl
    repeat' ((conv => whnf); first
      | refine PairK.mk (by kernel_rfl) ?_ | refine Pure.locK (h12) ?_)
    all_goals (conv => whnf)
    refine (f11_at dv ov hd a.i_ a.m_ hok).mono ?_
    rintro r H' ⟨vs, rfl, hN⟩
    (conv => whnf)
    exact ⟨vs, rfl, hN⟩
  | 4, _ =>
    refine Go.A.CallsIn.of_exec tab_ok mixed Try.func21 rfl rfl [] bxD ?_
    repeat' ((conv => whnf); first
      | refine And.intro (by decide) ?_ | refine boolF_dect (by omega) ?_ | refine boolF_decf (by omega) ?_)
    all_goals (conv => whnf)
    refine turnV.call h14 [] trivial trivial (fun ov' => ?_)
    (conv => whnf)
    exact ⟨[], rfl, near_hd _ _ _ _⟩
  | 5, _ =>
    refine Go.A.CallsIn.of_exec tab_ok mixed Try.func21 rfl rfl [] bxD ?_
    repeat' ((conv => whnf); first
      | refine TurnD.call h23 [] trivial ?_ | refine And.intro (by decide) ?_ | refine boolF_dect (by omega) ?_ | refine boolF_decf (by omega) ?_)
    all_goals (conv => whnf)
    exact ⟨[], rfl, near_hd _ _ _ _⟩
  | 6, _ =>
    refine Go.A.CallsIn.of_exec tab_ok mixed Try.func21 rfl rfl [] bxD ?_
    repeat' ((conv => whnf); first
      | refine And.intro (by decide) ?_ | refine boolF_dect (by omega) ?_ | refine boolF_decf (by omega) ?_)
    all_goals (conv => whnf)
    refine turnV.call h24 [] ⟨trivial, trivial⟩ trivial (fun ov' => ?_)
    (conv => whnf)
    exact ⟨[], rfl, near_hd _ _ _ _⟩
  | 7, _ =>
    refine Go.A.CallsIn.of_exec tab_ok mixed Try.func21 rfl rfl [] bxD ?_
    repeat' ((conv => whnf); first
      | refine And.intro (by decide) ?_ | refine boolF_decf (by omega) ?_)
    all_goals (conv => whnf)
    exact ⟨[], rfl, near_hd _ _ _ []⟩

end Go.Proofs.Ytgigpjkdfhhahaa


namespace Go.Proofs.Ytgigpjkdfhhahaa
open Go.A
set_option linter.unusedVariables false
set_option linter.unusedSimpArgs false
set_option linter.unnecessarySimpa false
attribute [local irreducible] IntKind.wrap bitsI
open B L M
set_option maxRecDepth 100000
set_option maxHeartbeats 4000000

theorem W_opsA {P : Program} {T : Tab} (hT : TOk P T) {n : Nat} {own : List Nat} {id : Nat} {ops : Array Oper} {k : List A.Item} {Q : Exit → St → Prop} {l2 : List Nat} {X : List D → List AObj → List Bool → Prop}
    (hX : ∀ s H bx, X s H bx → W P n (.ops id ops l2 :: k) ⟨s, H⟩ Q) : ∀ {pre : List Oper} {l : List Nat} {s : List D} {H : List AObj} {bx : List Bool},
    l.map (fun i => ops[i]?) = pre.map some → runS P T n own ops.toList pre s H bx X → W P n (.ops id ops (l ++ l2) :: k) ⟨s, H⟩ Q
  | [], [], s, H, bx, _, h => hX _ _ _ h
  | [], i :: l, s, H, bx, hl, h => by simp at hl
  | o :: rest, [], s, H, bx, hl, h => by simp at hl
  | o :: rest, i :: l, s, H, bx, hl, h => by
    simp only [List.map_cons, List.cons.injEq] at hl
    rw [runS_cons] at h
    rcases guardF_ok h with ⟨h1, h2⟩ | ⟨h1, h2⟩
    · refine W_ops_cons hT (hd := ⟨ownAt own o.dst, none, n⟩) rfl ?_
      unfold stepK
      rw [hl.1]
      refine h2 s H _ _ (fun _ _ => rfl) ?_
      exact doS_ok h1 fun d H' bx' hx => W_opsA hT hX hl.2 (putK_iff.mp hx)
    · refine W_ops_cons hT (hd := { n := n }) rfl ?_
      unfold stepK
      rw [hl.1]
      refine h2 s H _ _ (fun _ _ => rfl) ?_
      exact W_opsA hT hX hl.2 (putK_iff.mp h1)

theorem W_opsB {P : Program} {T : Tab} (hT : TOk P T) {n : Nat} {own : List Nat} {id : Nat} {ops : Array Oper} {k : List A.Item} {Q : Exit → St → Prop} {l2 : List Nat} {X : List D → List AObj → List Bool → Prop} {s : List D} {H : List AObj} {bx : List Bool}
    (i j : Nat) (hij : i + j ≤ ops.size) (hX : ∀ s H bx, X s H bx → W P n (.ops id ops l2 :: k) ⟨s, H⟩ Q) (h : runS P T n own ops.toList ((ops.toList.drop i).take j) s H bx X) : W P n (.ops id ops (List.range' i j ++ l2) :: k) ⟨s, H⟩ Q := by
  refine W_opsA hT hX ?_ h
  apply List.ext_getElem?
  intro m
  simp only [List.getElem?_map, List.getElem?_range', List.getElem?_take, List.getElem?_drop]
  by_cases hm : m < j
  · rw [if_pos hm]
    have : i + m < ops.size := by omega
    simp [hm, this]
  · rw [if_neg hm]
    simp [hm]

/-- Between two operations of one region. -/
theorem W_opsG {P : Program} {T : Tab} (hT : TOk P T) {n : Nat} {own : List Nat} {id : Nat} {ops : Array Oper} {k : List A.Item} {Q : Exit → St → Prop} {l2 : List Nat} {s : List D} {H : List AObj} {bx : List Bool} {ι : Type} (S : ι → St) (I : ι → Prop)
    (i j : Nat) (hij : i + j ≤ ops.size) (h : runS P T n own ops.toList ((ops.toList.drop i).take j) s H bx fun s' H' _ => ∃ x, Ghost n s' H' (S x).slots (S x).H ∧ I x) (h2 : ∀ x, I x → W P n (.ops id ops l2 :: k) (S x) Q) : W P n (.ops id ops (List.range' i j ++ l2) :: k) ⟨s, H⟩ Q :=
  W_opsB hT i j hij (fun s H bx ⟨x, g, hI⟩ => W_ghost g (h2 x hI)) h

def twoM : T23 := ⟨1, 4, [⟨0, 2, 0⟩, ⟨2, 4, 1⟩]⟩
theorem f29_own : OwnedR Try.prog 29 [] (fun o w => .agg [.int .i64 1, .int .i64 4, .h o w 0 2]) 3 (twoM.pieces_.map r51) := by
  refine OwnedR.of trivial (scr51 _ _) (fun _ _ => rfl) ?_
  refine Go.A.CallsIn.of_exec tab_ok mixed Try.func29 rfl rfl [3] [] ?_
  repeat' ((conv => whnf); first
    | refine And.intro (by decide) ?_ | refine Exists.intro _ (And.intro (Eq.refl (α := Option D) _) ?_))
  all_goals (conv => whnf)
  refine ⟨⟨0, Ghost.pick [1] (by simp) rfl (fun i o ob' h1 h2 => ?_) rfl ⟨⟨trivial, trivial, Nat.zero_lt_one, trivial⟩, trivial⟩ (fun ob hob => by simp only [List.mem_singleton] at hob; subst hob; exact scr51 _ _)⟩⟩
  cases i with
  | zero => simp at h1 h2; subst h1 h2; rfl
  | succ i => simp at h1
theorem f29_ok : Pure Try.prog 29 [] (d24 twoM) := OwnedR.pure f29_own (sc24 _ _) (fun ver => .agg (.cons (.refl _) (.cons (.refl _) (.cons (.h (all_take rfl)) .nil))))

def rc0 (node id : Int) : T43 := ⟨1, node, id, 0, 1, 0, 4, []⟩
def rc1 (off : Int) : T43 := ⟨2, 0, 0, 0, 0, off, 0, [5]⟩
def rc2 : T43 := ⟨4, 0, 0, 0, 0, 0, 1, []⟩
def rcs (node id off : Int) : List T43 := [rc0 node id, rc1 off, rc2]
theorem f30_at (dv ov : Nat) (node id off : Int) (ds : Nat → Dst) (hd : ∀ i, i < 4 → InvD (ds i)) (h0 : takeD (ds 0) node 0 (rc0 node id) = (ds 1, 0)) (h1 : takeD (ds 1) node 1 (rc1 off) = (ds 2, 0)) (h2 : takeD (ds 2) node 2 rc2 = (ds 3, 0)) (h3 : thereD (ds 3) node = id) :
    TurnD 30 [.int .i64 node, .int .i64 id, .int .i64 off] dv ov (ds 0) (.bool true) (ds 3) := by
  refine turnD ⟨trivial, trivial, trivial, trivial⟩ ?_
  have ht : ∀ i, i < 3 → ∃ r, (rcs node id off)[i]? = some r ∧ takeD (ds i) node (i : Int) r = (ds (i + 1), 0) ∧ r.data_.length ≤ 140737488351232 := fun i hi => by
    match i, hi with
    | 0, _ => exact ⟨_, rfl, h0, Nat.zero_le _⟩
    | 1, _ => exact ⟨_, rfl, h1, show 1 ≤ 140737488351232 by decide⟩
    | 2, _ => exact ⟨_, rfl, h2, Nat.zero_le _⟩
  have h25 := f25_at dv ov (hd 3 (by decide)) node
  rw [h3] at h25
  refine Go.A.CallsIn.of_exec tab_ok mixed Try.func30 rfl rfl [] bxD ?_
  repeat' ((conv => whnf); first
    | refine Exists.intro _ (And.intro (⟨lenl_3⟩) ?_))
  all_goals (conv => whnf)
  refine W_loopG (ι := Nat) (fun i => ⟨(.p 0 dv 0 0 :: .int .i64 node :: .int .i64 id :: D.undef :: D.undef :: D.undef :: D.undef :: D.undef :: D.undef :: D.undef :: D.undef :: D.undef :: D.undef :: D.undef :: D.undef :: D.undef :: D.undef :: D.undef :: D.undef :: D.undef :: d40 (rcs node id off) :: .int .i64 3 :: .int .i64 (i : Int) :: D.undef :: D.undef :: D.undef :: D.undef :: D.undef :: D.undef :: D.undef :: D.undef :: D.undef :: D.undef :: D.undef :: D.undef :: D.undef :: D.undef :: D.undef :: D.undef :: []), HD dv ov (ds i)⟩) (fun i => 3 - i) (fun i => i ≤ 3) 0 ?_ (Nat.zero_le _) ?_
  · refine (Ghost.hold [0, 1, 2, 20, 21, 22] rfl).trans (Ghost.wkAt 20 rfl ?_)
    refine .sl (.cons ?_ (.cons ?_ (.cons ?_ .nil)))
    all_goals repeat (first | exact Wks.nil | refine Wks.cons .refl ?_ | refine Wks.cons .nils ?_)
  rintro i h4
  refine exec_ok tab_ok mixed 1000 (bx := bxD) (own := []) ?_
  rcases Nat.lt_or_ge i 3 with h | h
  · obtain ⟨r, hr, h5, h6⟩ := ht i h
    have h16 := f16_at dv ov (hd i (by omega)) node (i : Int) r h6
    rw [h5] at h16
    repeat' ((conv => whnf); first
      | refine Exists.intro _ (And.intro (map_at (by omega) hr) ?_) | refine TurnD.call h16 [_] trivial ?_ | refine And.intro (by decide) ?_ | refine And.intro rfl ?_ | refine And.intro (by omega) ?_ | refine Exists.intro _ (And.intro (w64 (by omega) (by omega)) ?_) | refine boolF_dect (by omega) ?_)
    all_goals (conv => whnf)
    exact ⟨i + 1, Ghost.back [0, 1, 2, 20, 21, 22] 18 rfl rfl (Nat.le_refl _) (by simp [scs, D.sc, scd40]) (scHDn (by decide) _ _ _), h, by omega⟩
  · obtain rfl : i = 3 := by omega
    repeat' ((conv => whnf); first
      | refine look.call h25 [] trivial ?_)
    all_goals (conv => whnf)
    exact ⟨by rw [beq_self_eq_true], rfl⟩

theorem setB_bs (d : Dst) (j : Nat) (b : Bt) : ((setB d j b).bs j).2 = b := by simp [setB, upd]
theorem setB_ne (d : Dst) {j i : Nat} (h : i ≠ j) (b : Bt) : (setB d j b).bs i = d.bs i := by simp [setB, upd, h]
theorem setB_set (d : Dst) (j : Nat) (a b : Bt) : setB (setB d j a) j b = setB d j b := by
  unfold setB
  congr 1
  funext i
  unfold upd
  by_cases h : i = j
  · simp [h]
  · simp [h]
/-- A node's stream lands. -/
theorem lands_at (dv ov : Nat) {d : Dst} (hd : InvD d) {j : Nat} (hj : j < 16) {id off : Int} (hid : d.id = id) (hz : id ≠ 0) {x1 x2 x3 : Bt} (h0 : takeM (d.bs j).2 0 (rc0 (j : Int) id) = (x1, 0)) (h1 : takeM x1 1 (rc1 off) = (x2, 0)) (h2 : takeM x2 2 rc2 = (x3, 0)) (h3 : x3.there = id) :
    TurnD 30 [.int .i64 (j : Int), .int .i64 id, .int .i64 off] dv ov d (.bool true) (setB d j x3) ∧ InvD (setB d j x3) := by
  have hn : isNode (j : Int) := ⟨by omega, by omega⟩
  have tk : ∀ (e : Dst) (k : Int) (r : T43) (y : Bt), e.id = id → (r.kind_ = 1 → r.snap_ = id) → takeM (e.bs j).2 k r = (y, 0) → takeD e (j : Int) k r = (setB e j y, 0) := fun e k r y he hr ht => by
    rw [takeD, if_neg (fun g => g hn), if_neg (by rw [he]; exact hz), if_neg (fun g => g.2 (by rw [hr g.1, he])), Int.toNat_natCast, ht]
  have t0 := tk d 0 (rc0 (j : Int) id) x1 hid (fun _ => rfl) h0
  have t1 := tk (setB d j x1) 1 (rc1 off) x2 hid (fun g => absurd g (by show ¬ (2 : Int) = 1; decide)) (by rw [setB_bs]; exact h1)
  have t2 := tk (setB (setB d j x1) j x2) 2 rc2 x3 hid (fun g => absurd g (by show ¬ (4 : Int) = 1; decide)) (by rw [setB_bs]; exact h2)
  have i1 := inv_takeD hd (j : Int) 0 (rc0 (j : Int) id)
  rw [t0] at i1
  have i2 := inv_takeD i1 (j : Int) 1 (rc1 off)
  rw [t1] at i2
  have i3 := inv_takeD i2 (j : Int) 2 rc2
  rw [t2] at i3
  have h := f30_at dv ov (j : Int) id off (fun i => if i = 0 then d else if i = 1 then setB d j x1 else if i = 2 then setB (setB d j x1) j x2 else setB (setB (setB d j x1) j x2) j x3) (fun i hi => by
    match i, hi with
    | 0, _ => exact hd
    | 1, _ => exact i1
    | 2, _ => exact i2
    | 3, _ => exact i3) t0 t1 t2 (by
      show thereD (setB (setB (setB d j x1) j x2) j x3) (j : Int) = id
      rw [thereD, if_pos hn, Int.toNat_natCast, setB_bs, h3])
  have e3 : setB (setB (setB d j x1) j x2) j x3 = setB d j x3 := by rw [setB_set, setB_set]
  have h' : TurnD 30 [.int .i64 (j : Int), .int .i64 id, .int .i64 off] dv ov d (.bool true) (setB (setB (setB d j x1) j x2) j x3) := h
  rw [e3] at h' i3
  exact ⟨h', i3⟩

/-- A berth behind a stream of one write, in a destination of four blocks. -/
def lb0 (s : Int) : Bt := newB s 1 4
def lb1 (s : Int) : Bt := ⟨⟨1, 1, 0, [0, 0, 0, 0]⟩, 0, [0, 0, 0, 0], true, s, 1, cm0⟩
def lb2 (s off : Int) (v : List Nat) : Bt := ⟨⟨1, 2, off + 1, v⟩, 0, [0, 0, 0, 0], true, s, 1, cm0⟩
def lb3 (s : Int) (v : List Nat) : Bt := ⟨cm0, 1, v, true, s, 1, cm0⟩
theorem lt00 : takeM (lb0 0) 0 (rc0 0 1) = (lb1 0, 0) := by rfl
theorem lt01 : takeM (lb1 0) 1 (rc1 1) = (lb2 0 1 [0, 5, 0, 0], 0) := by rfl
theorem lt02 : takeM (lb2 0 1 [0, 5, 0, 0]) 2 rc2 = (lb3 0 [0, 5, 0, 0], 0) := by rfl
theorem lt10 : takeM (lb0 1) 0 (rc0 1 1) = (lb1 1, 0) := by rfl
theorem lt11 : takeM (lb1 1) 1 (rc1 2) = (lb2 1 2 [0, 0, 5, 0], 0) := by rfl
theorem lt12 : takeM (lb2 1 2 [0, 0, 5, 0]) 2 rc2 = (lb3 1 [0, 0, 5, 0], 0) := by rfl
def ad0 (vs vs2 : List Nat) : Dst := ⟨4, 1, 1, 1, 4, twoM.pieces_, bsOf 1 4 vs2, []⟩
def ad1 (vs2 : List Nat) : Dst := setB (ad0 [] vs2) 0 (lb3 0 [0, 5, 0, 0])
def ad2 (vs2 : List Nat) : Dst := setB (ad1 vs2) 1 (lb3 1 [0, 0, 5, 0])
theorem ann_two (vs vs2 : List Nat) : annD (newDst 4 (bsOf 0 4 vs)) 1 twoM vs2 = (ad0 [] vs2, 0) := by
  have e1 : (newDst 4 (bsOf 0 4 vs)).n = 4 := rfl
  have e2 : (newDst 4 (bsOf 0 4 vs)).id = 0 := rfl
  have e3 : (newDst 4 (bsOf 0 4 vs)).out.length = 0 := rfl
  rw [annD, find_not (fun x hx => by cases hx), e1, e2, e3, if_neg (by decide), if_neg (by decide), if_neg (by decide), if_neg (by decide)]
  rfl
theorem pub_one (vs2 : List Nat) : publishD (ad1 vs2) = (ad1 vs2, 15) := by
  have e1 : (ad1 vs2).id = 1 := rfl
  have h : ¬ allThere (ad1 vs2) := fun h => by
    have : (0 : Int) = 1 := h ⟨2, 4, 1⟩ (show _ ∈ twoM.pieces_ by simp [twoM])
    exact absurd this (by decide)
  rw [publishD, if_neg h, e1, if_neg (by decide)]
def ad3 (vs2 : List Nat) : Dst := { ad2 vs2 with id := 0, out := [⟨1, [0, 5, 5, 0]⟩] }
theorem pub_two (vs2 : List Nat) : publishD (ad2 vs2) = (ad3 vs2, 0) := by
  have e1 : (ad2 vs2).id = 1 := rfl
  have h : allThere (ad2 vs2) := fun p hp => by
    simp only [ad2, ad1, ad0, setB, twoM, List.mem_cons, List.not_mem_nil, or_false] at hp
    rcases hp with rfl | rfl <;> rfl
  rw [publishD, if_pos h, e1, if_neg (by decide)]
  rfl

end Go.Proofs.Ytgigpjkdfhhahaa


namespace Go.Proofs.Ytgigpjkdfhhahaa
open Go.A
set_option linter.unusedVariables false
set_option linter.unusedSimpArgs false
set_option linter.unnecessarySimpa false
attribute [local irreducible] IntKind.wrap bitsI
open B L M
set_option maxRecDepth 100000
set_option maxHeartbeats 4000000

theorem inv_ad0 (vs vs2 : List Nat) : InvD (ad0 [] vs2) := by
  have h := inv_ann (inv_newD (n := 4) ⟨by decide, by decide⟩ vs) (id := 1) (m := twoM) (vs := vs2)
  rw [ann_two] at h
  exact h
theorem ok_two : ok24 twoM := ⟨⟨by decide, by decide⟩, ⟨by decide, by decide⟩, fun x hx => by
  simp only [twoM, List.mem_cons, List.not_mem_nil, or_false] at hx
  rcases hx with rfl | rfl <;> exact ⟨⟨by decide, by decide⟩, ⟨by decide, by decide⟩, ⟨by decide, by decide⟩⟩, by decide⟩
theorem near_pick0 {dv : Nat} {d : Dst} {H : List AObj} (h : Near dv d H) {s : List D} (hs : ∀ ρ : Nat → Nat, ρ 0 = 0 → renL ρ s = s) (hsc : scs 18 s) : ∃ ov, Ghost 0 s H s (HD dv ov d) := by
  obtain ⟨ov, g⟩ := near_pick h (F := []) (fl := []) rfl (by simp) (fun k hk _ => pickM_nodup (by omega) (by decide) (by omega)) (fun k => (hs _ rfl).symm) hsc
  rw [List.append_nil] at g
  exact ⟨ov, g⟩

theorem f9_ok : Pure Try.prog 9 [] (.bool true) := by
  refine Pure.of trivial trivial ?_
  refine Go.A.CallsIn.of_execN 5 tab_ok mixed Try.func9 rfl rfl [] [] ?_
  (conv => whnf)
  refine (f10_own 4 ⟨by decide, by decide⟩).mono ?_
  rintro r H' ⟨dv, ov, vs, rfl, rfl⟩
  (conv => whnf)
  refine W_seq ?_
  refine W_region ?_
  show W Try.prog 0 (.ops _ _ (List.range' 0 11 ++ List.range' 11 22) :: _) _ _
  refine W_opsG tab_ok (own := []) (bx := bxD) (ι := Nat × List Nat) (fun x => ⟨(D.undef :: .p 0 dv 0 0 :: D.undef :: D.undef :: D.undef :: D.undef :: D.undef :: D.undef :: D.undef :: D.undef :: D.undef :: D.undef :: D.undef :: D.undef :: D.undef :: .bool false :: D.undef :: D.undef :: D.undef :: .int .i64 0 :: D.undef :: D.undef :: D.undef :: D.undef :: D.undef :: D.undef :: D.undef :: D.undef :: D.undef :: D.undef :: D.undef :: D.undef :: D.undef :: D.undef :: D.undef :: D.undef :: D.undef :: D.undef :: D.undef :: D.undef :: D.undef :: D.undef :: D.undef :: D.undef :: D.undef :: D.undef :: D.undef :: D.undef :: D.undef :: D.undef :: D.undef :: D.undef :: D.undef :: D.undef :: D.undef :: D.undef :: D.undef :: D.undef :: D.undef :: D.undef :: D.undef :: D.undef :: D.undef :: D.undef :: D.undef :: []), HD dv x.1 (ad0 [] x.2)⟩) (fun _ => True) 0 11 (by decide) ?_ ?_
  · repeat' ((conv => whnf); first
      | refine And.intro rfl ?_ | refine Pure.call (f29_ok) ?_ | refine Pure.call (f12_ok twoM) ?_)
    all_goals (conv => whnf)
    refine (f11_at dv ov (inv_newD ⟨by decide, by decide⟩ vs) 1 twoM ok_two).mono ?_
    rintro r H' ⟨vs2, rfl, hN⟩
    rw [ann_two] at hN ⊢
    (conv => whnf)
    obtain ⟨ov', g⟩ := near_pick0 hN (s := (D.undef :: .p 0 dv 0 0 :: D.undef :: D.undef :: D.undef :: D.undef :: D.undef :: D.undef :: D.undef :: D.undef :: D.undef :: D.undef :: D.undef :: D.undef :: D.undef :: .bool false :: D.undef :: D.undef :: D.undef :: .int .i64 0 :: D.undef :: D.undef :: D.undef :: D.undef :: D.undef :: D.undef :: D.undef :: D.undef :: D.undef :: D.undef :: D.undef :: D.undef :: D.undef :: D.undef :: D.undef :: D.undef :: D.undef :: D.undef :: D.undef :: D.undef :: D.undef :: D.undef :: D.undef :: D.undef :: D.undef :: D.undef :: D.undef :: D.undef :: D.undef :: D.undef :: D.undef :: D.undef :: D.undef :: D.undef :: D.undef :: D.undef :: D.undef :: D.undef :: D.undef :: D.undef :: D.undef :: D.undef :: D.undef :: D.undef :: D.undef :: [])) (fun ρ h => by simp [renL, ren, h]) (by simp [scs, D.sc])
    exact ⟨(ov', vs2), (Ghost.hold [1, 15, 19] rfl).trans g, trivial⟩
  · rintro ⟨ov, vs2⟩ _
    obtain ⟨l1, i1⟩ := lands_at dv ov (inv_ad0 [] vs2) (j := 0) (by decide) (id := 1) (off := 1) rfl (by decide) lt00 lt01 lt02 rfl
    have p1 := fun ov => f14_at dv ov i1
    refine W_opsR tab_ok (own := []) (bx := bxD) (X := fun s H bx => exec Try.prog tab 0 [] 1000 _ s H bx _) 11 22 (by decide) (fun s H bx h => exec_ok tab_ok mixed 1000 h) ?_
    (conv => whnf)
    refine TurnD.call l1 [] trivial ?_
    (conv => whnf)
    refine turnV.call (p1 ov) [] trivial trivial (fun ov2 => ?_)
    have e1 := pub_one vs2
    rw [show setB (ad0 [] vs2) 0 (lb3 0 [0, 5, 0, 0]) = ad1 vs2 from rfl, e1]
    (conv => whnf)
    obtain ⟨l2, i2⟩ := lands_at dv ov2 (d := ad1 vs2) i1 (j := 1) (by decide) (id := 1) (off := 2) rfl (by decide) lt10 lt11 lt12 rfl
    refine TurnD.call l2 [] trivial ?_
    (conv => whnf)
    refine turnV.call (f14_at dv ov2 i2) [] trivial trivial (fun ov3 => ?_)
    have e2 := pub_two vs2
    have i3 := inv_publishD i2
    rw [show setB (ad1 vs2) 1 (lb3 1 [0, 0, 5, 0]) = ad2 vs2 from rfl, e2] at i3 ⊢
    (conv => whnf)
    refine lookN.call (f19_at dv ov3 (d := ad3 vs2) i3 (x := ⟨1, [0, 5, 5, 0]⟩) List.mem_cons_self (fun y hy _ => by simpa [ad3] using hy) 0 4 (p := ([0, 5, 5, 0], 0)) rfl) [] (fun w => ?_)
    (conv => whnf)
    have h22 := f22_ok [0, 5, 5, 0] [0, 5, 5, 0] (by decide) (by decide)
    rw [decide_eq_true rfl] at h22
    refine Pure.seeK h22 [(18, .arr w 1 ([0, 5, 5, 0].map r56))] (fact1 rfl) (.cons (.h mem0 (.all (scr56 _ _)) (all_take rfl)) (.cons (.same (scr56 0 [0, 5, 5, 0])) .nil)) trivial trivial ?_
    (conv => whnf)
    refine lookN.call (f18_at dv ov3 (d := ad3 vs2) i3) [_] (fun w2 => ?_)
    repeat' ((conv => whnf); first
      | refine And.intro rfl ?_)
    all_goals (conv => whnf)
    refine look.call (f15_at dv ov3 (ad3 vs2)) [_, _] trivial ?_
    rw [if_pos (show (0 : Int) < (ad3 vs2).n from (by decide : (0 : Int) < 4))]
    (conv => whnf)
    exact ⟨rfl⟩

end Go.Proofs.Ytgigpjkdfhhahaa


namespace Go.Proofs.Ytgigpjkdfhhahaa
open Go.A
set_option linter.unusedVariables false
set_option linter.unusedSimpArgs false
set_option linter.unnecessarySimpa false
attribute [local irreducible] IntKind.wrap bitsI
open B L M
set_option maxRecDepth 100000
set_option maxHeartbeats 4000000

/-- A destination is there, its berths from somewhere on, behind c things more. -/
def NearC (c dv : Nat) (d : Dst) (H : List AObj) : Prop := ∃ k ov, (k = 2 ∨ 18 + c ≤ k) ∧ H[0]? = some (oDt k 1 dv ov d) ∧ H[1]? = some (oO ov d.out) ∧ ∀ j, j < 16 → H[k + j]? = some (oj d.bs j)
theorem near_frame {f : FuncId} {args : List D} {dv ov : Nat} {d : Dst} {α : Type} {r0 : α → D} {d1 : α → Dst} (h : Go.A.CallsIn Try.prog f args (HD dv ov d) fun r H' => ∃ x, r = r0 x ∧ Near dv (d1 x) H') (ha : scs 18 args) (hr : ∀ x, (r0 x).sc 0) (F : List AObj)
    {K : D → List AObj → Prop} (hk : ∀ x Z, NearC F.length dv (d1 x) Z → (∀ i, i < F.length → Z[18 + i]? = F[i]?) → K (r0 x) Z) : Go.A.CallsIn Try.prog f args (HD dv ov d ++ F) K := by
  refine callsSelf h F ha (scHD _ _ _) ?_
  rintro r H0 ⟨x, rfl, k, ov', hk2, h0, h1, hb⟩ hlen
  rw [ren_sc0 _ _ (hr x)]
  obtain ⟨ρ, hρ⟩ : ∃ ρ, ρ = ixOf (List.range (HD dv ov d).length) (HD dv ov d ++ F).length := ⟨_, rfl⟩
  rw [← hρ]
  have hlo : ∀ i, i < 18 → ρ i = i := fun i hi => by rw [hρ]; exact ixOf_range hi
  have hhi : ∀ i, 18 ≤ i → ρ i = i + F.length := fun i hi => by
    rw [hρ, ixOf, List.getElem?_eq_none (by rw [List.length_range]; exact hi)]
    show (HD dv ov d ++ F).length + (i - (List.range (HD dv ov d).length).length) = _
    rw [List.length_append, List.length_range]
    show 18 + F.length + (i - 18) = _
    omega
  have hl18 : 18 ≤ H0.length := hlen
  have hZ : place (List.range (HD dv ov d).length) (HD dv ov d ++ F) (H0.map (renO ρ)) = (H0.take 18).map (renO ρ) ++ F ++ (H0.drop 18).map (renO ρ) := by
    have e : H0.map (renO ρ) = (H0.take 18).map (renO ρ) ++ (H0.drop 18).map (renO ρ) := by rw [← List.map_append, List.take_append_drop]
    rw [e]
    exact place_more (by rw [List.length_map, List.length_take]; show min 18 H0.length = 18; omega)
  have htl : ((H0.take 18).map (renO ρ)).length = 18 := by rw [List.length_map, List.length_take]; omega
  have atlo : ∀ i ob, i < 18 → H0[i]? = some ob → ((H0.take 18).map (renO ρ) ++ F ++ (H0.drop 18).map (renO ρ))[i]? = some (renO ρ ob) := fun i ob hi ho => by
    rw [List.append_assoc, List.getElem?_append_left (by omega), List.getElem?_map, List.getElem?_take, if_pos hi, ho]; rfl
  have athi : ∀ i ob, 18 ≤ i → H0[i]? = some ob → ((H0.take 18).map (renO ρ) ++ F ++ (H0.drop 18).map (renO ρ))[i + F.length]? = some (renO ρ ob) := fun i ob hi ho => by
    rw [List.getElem?_append_right (by rw [List.length_append]; omega), List.length_append, htl, List.getElem?_map, List.getElem?_drop, show 18 + (i + F.length - (18 + F.length)) = i by omega, ho]; rfl
  rw [hZ]
  refine hk x _ ?_ (fun i hi => ?_)
  · have ro : ∀ j, renO ρ (oj (d1 x).bs j) = oj (d1 x).bs j := fun j => renO_sc0 ρ ⟨scB _ _, trivial⟩
    rcases hk2 with rfl | hk2
    · refine ⟨2, ov', .inl rfl, ?_, ?_, fun j hj => ?_⟩
      · rw [atlo 0 _ (by decide) h0, ren_oDt (fun j hj => hlo (2 + j) (by omega)) (hlo 1 (by decide))]
      · rw [atlo 1 _ (by decide) h1, renO_sc0 ρ (show (oO ov' (d1 x).out).sc 0 from scrO 0 _)]
      · rw [atlo (2 + j) _ (by omega) (hb j hj), ro]
    · refine ⟨k + F.length, ov', .inr (by omega), ?_, ?_, fun j hj => ?_⟩
      · rw [atlo 0 _ (by decide) h0, ren_oDt (k' := k + F.length) (fun j hj => by rw [hhi (k + j) (by omega)]; omega) (hlo 1 (by decide))]
      · rw [atlo 1 _ (by decide) h1, renO_sc0 ρ (show (oO ov' (d1 x).out).sc 0 from scrO 0 _)]
      · rw [show k + F.length + j = k + j + F.length by omega, athi (k + j) _ (by omega) (hb j hj), ro]
  · rw [List.append_assoc, List.getElem?_append_right (by omega), htl, show 18 + i - 18 = i by omega, List.getElem?_append_left hi]
theorem pickF_nodup {k c : Nat} (h : k = 2 ∨ 18 + c ≤ k) : (pickM k 1 (List.range' 18 c)).Nodup := by
  have h0 := pickM_nodup (k := k) (t := 1) (by omega) (by decide) (by omega)
  rw [pickM, List.append_nil, List.nodup_cons, List.nodup_cons] at h0
  obtain ⟨g1, g2, g3⟩ := h0
  rw [pickM, List.nodup_cons, List.nodup_cons]
  refine ⟨?_, ?_, ?_⟩
  · rw [List.mem_cons, List.mem_append] at *
    rintro (g | g | g)
    · cases g
    · exact g1 (.inr g)
    · rw [List.mem_range'_1] at g; omega
  · rw [List.mem_append]
    rintro (g | g)
    · exact g2 g
    · rw [List.mem_range'_1] at g; omega
  · rw [List.nodup_append]
    refine ⟨g3, List.nodup_range', fun a ha b hb e => ?_⟩
    obtain ⟨j, hj, rfl⟩ := List.mem_map.mp ha
    rw [List.mem_range] at hj
    rw [List.mem_range'_1] at hb
    omega
/-- The destination is found again, and what else is owned. -/
theorem nearC_pick {c dv : Nat} {d : Dst} {H F : List AObj} (h : NearC c dv d H) (hc : c = F.length) (hf : ∀ i, i < F.length → H[18 + i]? = F[i]?) (hF : ∀ ob ∈ F, ob.sc 0) {s : List D} (hs : ∀ k, s = renL (fun i => (pickM k 1 (List.range' 18 c)).getD i 0) s) (hsc : scs (18 + c) s) :
    ∃ ov, Ghost 0 s H s (HD dv ov d ++ F) := by
  obtain ⟨k, ov, h1, h2, h3, h4⟩ := h
  refine ⟨ov, pickHD h2 h3 h4 (fl := List.range' 18 c) ?_ hF (pickF_nodup h1) (hs k) (by rw [List.length_range']; exact hsc)⟩
  refine List.ext_getElem? fun i => ?_
  rw [List.getElem?_map, List.getElem?_map]
  rcases Nat.lt_or_ge i F.length with hi | hi
  · rw [List.getElem?_range' (by omega), List.getElem?_eq_getElem hi, Option.map_some, Option.map_some, Nat.one_mul, hf i hi, List.getElem?_eq_getElem hi]
  · rw [List.getElem?_eq_none (by rw [List.length_range']; omega), List.getElem?_eq_none hi]; rfl

theorem does_call {dv ov : Nat} {d : Dst} (hd : InvD d) {a : T61} (ha : ok62 a) (F : List AObj) {K : D → List AObj → Prop} (hk : ∀ vs Z, NearC F.length dv (doesD d a vs).1 Z → (∀ i, i < F.length → Z[18 + i]? = F[i]?) → K (.int .i64 (doesD d a vs).2) Z) :
    Go.A.CallsIn Try.prog 21 [.p 0 dv 0 0, d62 a] (HD dv ov d ++ F) K :=
  near_frame (α := List Nat) (f21_at dv ov hd a ha) ⟨Nat.zero_lt_succ _, sc62 _ _, trivial⟩ (fun _ => trivial) F hk
/-- A new destination, behind what there is. -/
theorem new_at {n : Int} (h : newP n) (F : List AObj) {K : D → List AObj → Prop} (hk : ∀ dv ov vs, K (.tup [.p F.length dv 0 0, .int .i64 0]) (F ++ (HD dv ov (newDst n (bsOf 0 n vs))).map (renO fun i => F.length + i))) : Go.A.CallsIn Try.prog 10 [.int .i64 n] F K := by
  refine (f10_own n h).at [] (H := F) rfl (by simp) rfl rfl ⟨trivial, trivial⟩ (fun ob hob => by simp at hob) ?_
  rintro r0 H0 ⟨dv, ov, vs, rfl, rfl⟩ _
  have e : ixOf [] F.length = fun i => F.length + i := by funext i; simp [ixOf]
  rw [e]
  exact hk dv ov vs
def newM (c : Nat) : List Nat := List.range' c 18 ++ List.range c
theorem newM_lo {c i : Nat} (h : i < 18) : (newM c).getD i 0 = c + i := by
  rw [newM, List.getD_eq_getElem?_getD, List.getElem?_append_left (by simpa using h), List.getElem?_range' h, Nat.one_mul]; rfl
theorem new_pick {dv ov : Nat} {d : Dst} {F : List AObj} (hF : ∀ ob ∈ F, ob.sc 0) {s s' : List D} (hs : s = renL (fun i => (newM F.length).getD i 0) s') (hsc : scs (18 + F.length) s') : Ghost 0 s (F ++ (HD dv ov d).map (renO fun i => F.length + i)) s' (HD dv ov d ++ F) := by
  have hml : (newM F.length).length = 18 + F.length := by simp [newM]
  refine Ghost.pick (newM F.length) ?_ (by rw [hml, List.length_append]; rfl) (fun i o ob' g1 g2 => ?_) hs (by rw [hml]; exact hsc) (fun ob hob => ?_)
  · rw [newM, List.nodup_append]
    refine ⟨List.nodup_range', List.nodup_range, fun a ha b hb e => ?_⟩
    rw [List.mem_range'_1] at ha
    rw [List.mem_range] at hb
    omega
  · rcases Nat.lt_or_ge i 18 with hi | hi
    · rw [newM, List.getElem?_append_left (by simpa using hi), List.getElem?_range' hi, Nat.one_mul] at g1
      obtain rfl := Option.some.inj g1
      rw [List.getElem?_append_left (show i < (HD dv ov d).length from hi)] at g2
      rw [List.getElem?_append_right (Nat.le_add_right _ _), Nat.add_sub_cancel_left, List.getElem?_map, g2]
      have hsc := scHDn (n := 18) (Nat.le_refl _) dv ov d ob' (List.mem_of_getElem? g2)
      have : ∀ ob : AObj, ob.sc 18 → renO (fun i => F.length + i) ob = renO (fun i => (newM F.length).getD i 0) ob := fun ob h => renO_same (fun i hi => (newM_lo hi).symm) h
      show some (renO (fun i => F.length + i) ob') = _
      rw [this ob' hsc]
    · rw [newM, List.getElem?_append_right (by simpa using hi), List.length_range'] at g1
      rw [List.getElem?_append_right (show (HD dv ov d).length ≤ i from hi), show (HD dv ov d).length = 18 from rfl] at g2
      have hlt := (List.getElem?_eq_some_iff.mp g2).1
      rw [List.getElem?_range hlt] at g1
      obtain rfl := Option.some.inj g1
      rw [List.getElem?_append_left hlt, g2, renO_sc0 _ (hF ob' (List.mem_of_getElem? g2))]
  · rw [hml]
    rcases List.mem_append.mp hob with h | h
    · exact scHDn (by omega) _ _ _ ob h
    · exact osc_le (hF ob h)

end Go.Proofs.Ytgigpjkdfhhahaa

