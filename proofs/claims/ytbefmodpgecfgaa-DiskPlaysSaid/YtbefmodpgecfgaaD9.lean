import Derived.Test.YtbefmodpgecfgaaD8
namespace Go.Proofs.Ytbefmodpgecfgaa
open Go.A
set_option linter.unusedVariables false
set_option linter.unusedSimpArgs false
set_option linter.unnecessarySimpa false
attribute [local irreducible] IntKind.wrap bitsI
set_option maxRecDepth 100000
set_option maxHeartbeats 4000000

abbrev Act := T35
theorem putC_mem {i : Nat} {x : List Nat} {y : Nat × List Nat} : ∀ {l}, y ∈ putC i x l → y = (i, x) ∨ y ∈ l
  | [], h => by simp [putC] at h; exact .inl h
  | z :: r, h => by
    rw [putC] at h
    split at h
    · rcases List.mem_cons.mp h with h | h
      · exact .inl h
      · exact .inr (List.mem_cons_of_mem _ h)
    · rcases List.mem_cons.mp h with h | h
      · exact .inr (h ▸ List.mem_cons_self)
      · rcases putC_mem h with h | h
        · exact .inl h
        · exact .inr (List.mem_cons_of_mem _ h)
theorem putC_keys {i : Nat} {x : List Nat} : ∀ {l : List (Nat × List Nat)}, (l.map (·.1)).Nodup → ((putC i x l).map (·.1)).Nodup
  | [], _ => by simp [putC]
  | z :: r, h => by
    simp only [List.map_cons, List.nodup_cons] at h
    rw [putC]
    split
    · rename_i e
      simp only [List.map_cons, List.nodup_cons]
      exact ⟨e ▸ h.1, h.2⟩
    · rename_i e
      simp only [List.map_cons, List.nodup_cons]
      refine ⟨fun hm => ?_, putC_keys h.2⟩
      obtain ⟨y, hy, e2⟩ := List.mem_map.mp hm
      rcases putC_mem hy with h3 | h3
      · subst h3; exact e e2.symm
      · exact h.1 (e2 ▸ List.mem_map_of_mem h3)
theorem find_put (i : Nat) (x : List Nat) (j : Nat) : ∀ l, findC j (putC i x l) = if i = j then some x else findC j l
  | [] => by simp [putC, findC]
  | z :: r => by
    rw [putC]
    split
    · rename_i e
      subst e
      simp only [findC]
      split <;> rfl
    · rename_i e
      rw [findC, findC, find_put i x j r]
      split
      · rename_i e2
        subst e2
        rw [if_neg (fun h => e h.symm)]
      · rfl
theorem writeM_ok {s : Dk} (hs : OkK s) (i : Int) (b : List Nat) : OkK (writeM s i b).2 := by
  have h1 := stepM_ok hs
  rw [writeM]
  split
  · exact hs
  · rename_i g
    split
    · exact h1
    · have g1 : 0 ≤ i ∧ i < s.plate.length := Classical.byContradiction fun h => g (.inl h)
      have g2 : b.length ≤ 64 := Classical.byContradiction fun h => g (.inr (by omega))
      have hp : (stepM s).2.plate = s.plate := by
        unfold stepM; split
        · rfl
        · split
          · split <;> rfl
          · rfl
      refine ⟨h1.n, h1.plate, fun y hy => ?_, putC_keys h1.keys, h1.fuse⟩
      rcases putC_mem hy with e | e
      · subst e; exact ⟨by dsimp only; rw [hp]; omega, pad_len g2⟩
      · exact h1.cache y e
theorem allM_len (s : Dk) : (allM s).length = s.plate.length := by simp [allM]
theorem flushM_ok {s : Dk} (hs : OkK s) : OkK (flushM s).2 := by
  have h1 := stepM_ok hs
  rw [flushM]
  split
  · exact h1
  · refine ⟨by dsimp only; rw [allM_len]; exact h1.n, fun x hx => ?_, fun x hx => by simp at hx, by simp, h1.fuse⟩
    obtain ⟨k, hk, rfl⟩ := List.mem_map.mp hx
    exact lookM_len h1 (by simpa using hk)
theorem startM_ok {s : Dk} (hs : OkK s) (keep : List Bool) : OkK (startM s keep).2 := by
  rw [startM]
  split
  · exact hs
  · exact ⟨by dsimp only; rw [plS_len]; exact hs.n, fun x hx => plS_sec hs x hx, fun x hx => by simp at hx, by simp, hs.fuse⟩
theorem armM_ok {s : Dk} (hs : OkK s) {n : Int} (hn : n ≤ 9223372036854775807) : OkK (armM s n) := ⟨hs.n, hs.plate, hs.cache, hs.keys, by simp only [armM]; omega⟩
theorem cutM_ok {s : Dk} (hs : OkK s) : OkK (cutM s) := ⟨hs.n, hs.plate, hs.cache, hs.keys, hs.fuse⟩

def doesM (s : Dk) (a : Act) : Bool × Dk :=
  if a.kind_ % 7 = 0 then ((writeM s a.i_ a.data_).1 == 0, (writeM s a.i_ a.data_).2) else if a.kind_ % 7 = 1 then ((readM s a.i_).2 == 0, s) else if a.kind_ % 7 = 2 then ((flushM s).1 == 0, (flushM s).2)
  else if a.kind_ % 7 = 3 then (true, armM s a.i_) else if a.kind_ % 7 = 4 then (true, cutM s) else if a.kind_ % 7 = 5 then ((startM s a.keep_).1 == 0, (startM s a.keep_).2) else (true, s)
structure OkA (a : Act) : Prop where
  i : a.i_ ≤ 9223372036854775807
  data : a.data_.length ≤ 140737488351232
  keep : a.keep_.length ≤ 140737488351232
  byte : ∀ x ∈ a.data_, x < 256
theorem okA {a : Act} (h : ok36 a) : OkA a := by
  obtain ⟨h1, h2, h3, h4⟩ := h
  exact ⟨by have := h2.2; omega, by have := h3.2; simp [td5] at this; omega, by have := h4.2; simp [td4] at this; omega, fun x hx => h3.1 x hx⟩
theorem doesM_ok {s : Dk} (hs : OkK s) {a : Act} (ha : OkA a) : OkK (doesM s a).2 := by
  unfold doesM
  split
  · exact writeM_ok hs _ _
  split
  · exact hs
  split
  · exact flushM_ok hs
  split
  · exact armM_ok hs ha.i
  split
  · exact cutM_ok hs
  split
  · exact startM_ok hs _
  · exact hs
theorem scd36 (k : Nat) (a : Act) : (d36 a).sc k := ⟨trivial, trivial, scr5 _ _, scd28 _ _, trivial⟩

theorem f30_ok (s : Dk) (a : Act) (hs : OkK s) (ha : OkA a) : TurnsK 30 [d36 a] s (.bool (doesM s a).1) (doesM s a).2 := by
  refine TurnsK.of ⟨scd36 _ _, trivial⟩ ?_
  rw [doesM]
  refine CallsIn.of_exec tab_ok mixed Try.func30 rfl rfl [] [true, false, false] ?_
  by_cases k0 : a.kind_ % 7 = 0
  · rw [if_pos k0]
    repeat' ((conv => whnf); first
      | refine And.intro (by decide) ?_ | refine boolF_dect (by assumption) ?_)
    all_goals (conv => whnf)
    refine TurnsK.call (f12_ok s a.i_ a.data_ hs ha.data) 0 1 2 (by decide) ⟨trivial, scr5 _ _, trivial⟩ trivial rfl rfl rfl ?_
    (conv => whnf)
    exact ⟨⟨_, _, Ghost.refl _ _ _, rfl, rfl⟩⟩
  rw [if_neg k0]
  by_cases k1 : a.kind_ % 7 = 1
  · rw [if_pos k1]
    repeat' ((conv => whnf); first
      | refine And.intro (by decide) ?_ | refine boolF_dect (by assumption) ?_ | refine boolF_decf (by assumption) ?_)
    all_goals (conv => whnf)
    refine TurnsK.call (f14_ok s a.i_ hs) 0 1 2 (by decide) ⟨trivial, trivial⟩ ⟨scr5 _ _, trivial, trivial⟩ rfl rfl rfl ?_
    (conv => whnf)
    exact ⟨⟨_, _, Ghost.refl _ _ _, rfl, rfl⟩⟩
  rw [if_neg k1]
  by_cases k2 : a.kind_ % 7 = 2
  · rw [if_pos k2]
    repeat' ((conv => whnf); first
      | refine And.intro (by decide) ?_ | refine boolF_dect (by assumption) ?_ | refine boolF_decf (by assumption) ?_)
    all_goals (conv => whnf)
    refine TurnsK.call (f17_ok s hs) 0 1 2 (by decide) trivial trivial rfl rfl rfl ?_
    (conv => whnf)
    exact ⟨⟨_, _, Ghost.refl _ _ _, rfl, rfl⟩⟩
  rw [if_neg k2]
  by_cases k3 : a.kind_ % 7 = 3
  · rw [if_pos k3]
    repeat' ((conv => whnf); first
      | refine And.intro (by decide) ?_ | refine boolF_dect (by assumption) ?_ | refine boolF_decf (by assumption) ?_)
    all_goals (conv => whnf)
    refine TurnsK.call (f19_ok s a.i_) 0 1 2 (by decide) ⟨trivial, trivial⟩ trivial rfl rfl rfl ?_
    (conv => whnf)
    exact ⟨⟨_, _, Ghost.refl _ _ _, rfl, rfl⟩⟩
  rw [if_neg k3]
  by_cases k4 : a.kind_ % 7 = 4
  · rw [if_pos k4]
    repeat' ((conv => whnf); first
      | refine And.intro (by decide) ?_ | refine boolF_dect (by assumption) ?_ | refine boolF_decf (by assumption) ?_)
    all_goals (conv => whnf)
    refine TurnsK.call (f21_ok s) 0 1 2 (by decide) trivial trivial rfl rfl rfl ?_
    (conv => whnf)
    exact ⟨⟨_, _, Ghost.refl _ _ _, rfl, rfl⟩⟩
  rw [if_neg k4]
  by_cases k5 : a.kind_ % 7 = 5
  · rw [if_pos k5]
    repeat' ((conv => whnf); first
      | refine And.intro (by decide) ?_ | refine boolF_dect (by assumption) ?_ | refine boolF_decf (by assumption) ?_)
    all_goals (conv => whnf)
    refine TurnsK.call (f23_ok s a.keep_ hs ha.keep) 0 1 2 (by decide) ⟨scd28 _ _, trivial⟩ trivial rfl rfl rfl ?_
    (conv => whnf)
    exact ⟨⟨_, _, Ghost.refl _ _ _, rfl, rfl⟩⟩
  · rw [if_neg k5]
    repeat' ((conv => whnf); first
      | refine And.intro (by decide) ?_ | refine boolF_decf (by assumption) ?_)
    all_goals (conv => whnf)
    exact ⟨⟨_, _, Ghost.refl _ _ _, rfl, rfl⟩⟩

end Go.Proofs.Ytbefmodpgecfgaa

