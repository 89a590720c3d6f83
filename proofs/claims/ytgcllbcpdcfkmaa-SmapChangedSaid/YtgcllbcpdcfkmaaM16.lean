import Derived.Test.YtgcllbcpdcfkmaaM14
namespace Go.Proofs.Ytgcllbcpdcfkmaa
open Go.A
set_option linter.unusedVariables false
set_option linter.unusedSimpArgs false
set_option linter.unnecessarySimpa false
attribute [local irreducible] IntKind.wrap bitsI
set_option maxRecDepth 100000
set_option maxHeartbeats 4000000

def addS (out : List T58) (p q x : Int) : List T58 :=
  match out[out.length - 1]? with
  | some l => if l.to_ = p ∧ l.node_ = x then out.set (out.length - 1) ⟨l.from_, q, l.node_⟩ else out ++ [⟨p, q, x⟩]
  | none => out ++ [⟨p, q, x⟩]

theorem addS_last (out : List T58) (p q x : Int) : ∃ l, (addS out p q x)[(addS out p q x).length - 1]? = some l ∧ l.to_ = q ∧ l.node_ = x := by
  unfold addS
  split
  · rename_i l hl
    split
    · rename_i hc
      have hlt := (List.getElem?_eq_some_iff.mp hl).1
      exact ⟨⟨l.from_, q, l.node_⟩, by rw [List.length_set, List.getElem?_set_self hlt], rfl, hc.2⟩
    · exact ⟨⟨p, q, x⟩, by simp, rfl, rfl⟩
  · exact ⟨⟨p, q, x⟩, by simp, rfl, rfl⟩

theorem addS_addS (out : List T58) (p r q x : Int) : addS (addS out p r x) r q x = addS out p q x := by
  obtain ⟨l, h1, h2, h3⟩ := addS_last out p r x
  have e : addS (addS out p r x) r q x = (addS out p r x).set ((addS out p r x).length - 1) ⟨l.from_, q, l.node_⟩ := by
    rw [addS, h1]; dsimp only; rw [if_pos ⟨h2, h3⟩]
  rw [e]
  unfold addS at h1 ⊢
  split at h1
  · rename_i l0 hl0
    have hlt := (List.getElem?_eq_some_iff.mp hl0).1
    split at h1
    · rename_i hc
      rw [if_pos hc, if_pos hc]
      rw [List.length_set, List.getElem?_set_self hlt] at h1
      obtain rfl := Option.some.inj h1
      rw [List.length_set, List.set_set]
    · rename_i hc
      rw [if_neg hc, if_neg hc]
      simp at h1
      subst h1
      simp
  · rename_i hl0
    simp at h1
    subst h1
    simp

def chg (a b : T24) : Nat → List T58
  | 0 => []
  | i + 1 => if nodeL (i : Int) a.pieces_ ≠ nodeL (i : Int) b.pieces_ then addS (chg a b i) (i : Int) ((i + 1 : Nat) : Int) (nodeL (i : Int) b.pieces_) else chg a b i

theorem chg_seg {a b : T24} {p : Nat} {u v : Int} : ∀ {k : Nat}, (∀ j : Nat, p ≤ j → j < p + (k + 1) → nodeL (j : Int) a.pieces_ = u ∧ nodeL (j : Int) b.pieces_ = v) →
    chg a b (p + (k + 1)) = if u ≠ v then addS (chg a b p) (p : Int) ((p + (k + 1) : Nat) : Int) v else chg a b p
  | 0, h => by
    obtain ⟨h1, h2⟩ := h p (Nat.le_refl _) (by omega)
    rw [show p + (0 + 1) = p + 1 from rfl, chg, h1, h2]
  | k + 1, h => by
    obtain ⟨h1, h2⟩ := h (p + (k + 1)) (by omega) (by omega)
    have ih := chg_seg (k := k) fun j hj1 hj2 => h j hj1 (by omega)
    rw [show p + (k + 1 + 1) = p + (k + 1) + 1 by omega, chg, h1, h2, ih]
    split
    · rw [addS_addS]
    · rfl

def diffAt (a b : T24) (i : Nat) : Prop := 0 < i ∧ nodeL ((i - 1 : Nat) : Int) a.pieces_ ≠ nodeL ((i - 1 : Nat) : Int) b.pieces_
instance (a b : T24) (i : Nat) : Decidable (diffAt a b i) := inferInstanceAs (Decidable (_ ∧ _))

theorem chg_last (a b : T24) : ∀ i : Nat, (diffAt a b i → ∃ l, (chg a b i)[(chg a b i).length - 1]? = some l ∧ l.to_ = (i : Int)) ∧ (∀ l, (chg a b i)[(chg a b i).length - 1]? = some l → l.to_ ≤ (i : Int) ∧ (l.to_ = (i : Int) → diffAt a b i)) ∧ (chg a b i).length ≤ i
  | 0 => by simp [chg, diffAt]
  | i + 1 => by
    obtain ⟨h1, h2, h3⟩ := chg_last a b i
    rw [chg]
    split
    · rename_i hne
      have hd : diffAt a b (i + 1) := ⟨by omega, by simpa using hne⟩
      obtain ⟨l, e1, e2, e3⟩ := addS_last (chg a b i) (i : Int) ((i + 1 : Nat) : Int) (nodeL (i : Int) b.pieces_)
      refine ⟨fun _ => ⟨l, e1, e2⟩, fun l' hl' => ?_, ?_⟩
      · rw [e1] at hl'
        obtain rfl := Option.some.inj hl'
        exact ⟨by omega, fun _ => hd⟩
      · unfold addS
        split
        · split
          · rw [List.length_set]; omega
          · simp; omega
        · simp; omega
    · rename_i hne
      refine ⟨fun hd => absurd hd.2 (by simpa using hne), fun l hl => ?_, by omega⟩
      have := h2 l hl
      exact ⟨by omega, fun e => by omega⟩

theorem chg_ok (a b : T24) (n : Int) (hn : n ≤ 1024) (hb : ∀ j : Int, 0 ≤ j → j < n → ok3 (nodeL j b.pieces_)) : ∀ i : Nat, (i : Int) ≤ n → ∀ p ∈ chg a b i, ok59 p
  | 0, _, p, hp => by simp [chg] at hp
  | i + 1, hi, p, hp => by
    have ih := chg_ok a b n hn hb i (by omega)
    have h3 := hb i (by omega) (by omega)
    have o1 : ok3 ((i : Nat) : Int) := by simp only [ok3]; omega
    have o2 : ok3 ((i + 1 : Nat) : Int) := by simp only [ok3]; omega
    rw [chg] at hp
    split at hp
    · unfold addS at hp
      split at hp
      · rename_i l hl
        have hl := ih l (List.mem_of_getElem? hl)
        split at hp
        · rcases List.mem_or_eq_of_mem_set hp with h | h
          · exact ih p h
          · subst h; exact ⟨hl.1, o2, hl.2.2⟩
        · rcases List.mem_append.mp hp with h | h
          · exact ih p h
          · simp only [List.mem_singleton] at h; subst h; exact ⟨o1, o2, h3⟩
      · rcases List.mem_append.mp hp with h | h
        · exact ih p h
        · simp only [List.mem_singleton] at h; subst h; exact ⟨o1, o2, h3⟩
    · exact ih p hp

def chgM (a b : T24) : List T58 × Int := if rightP a ∧ rightP b ∧ a.n_ = b.n_ then (chg a b a.n_.toNat, 0) else ([], 1)

theorem nodeL_at {l : List T58} {i : Nat} {x : T58} {n j : Int} (he : endsAt 0 (l.take i) = some x.from_) (hx : l[i]? = some x) (h1 : x.from_ ≤ j) (h2 : j < x.to_) (h0 : 0 ≤ j) : nodeL j l = x.node_ := by
  have hl := split_list hx
  rw [hl, List.append_assoc, nodeL_append he h0, if_neg (by omega)]
  show nodeL j (x :: _) = _
  rw [nodeL, if_pos h2]

end Go.Proofs.Ytgcllbcpdcfkmaa

