import Derived.Test.YtbefmodpgecfgaaR
import Derived.Test.YtbefmodpgecfgaaA37
namespace Go.Proofs.Ytbefmodpgecfgaa
open Go.A
set_option linter.unusedVariables false
set_option linter.unusedSimpArgs false
set_option linter.unnecessarySimpa false
attribute [local irreducible] IntKind.wrap bitsI
set_option maxRecDepth 100000
set_option maxHeartbeats 4000000

/-- A sector's bytes. -/
def sD (bs : List Nat) : D := .agg (bs.map r5)
def eD (p : Nat × List Nat) : D × D := (.int .i64 (p.1 : Int), sD p.2)
structure Dk where
  plate : List (List Nat)
  cache : List (Nat × List Nat)
  off : Bool
  armed : Bool
  fuse : Int
def rowK (b c : Nat) (s : Dk) : List D := [.h b 0 0 s.plate.length, .map c, .bool s.off, .bool s.armed, .int .i64 s.fuse]
def oS (b c : Nat) (s : Dk) : AObj := .arr 0 5 [.agg (rowK b c s)]
def oP (s : Dk) : AObj := .arr 0 64 (s.plate.map sD)
def oM (s : Dk) : AObj := .map (s.cache.map eD)
def oK (s : Dk) : List AObj := [oS 1 2 s, oP s, oM s]
structure OkK (s : Dk) : Prop where
  n : 1 ≤ s.plate.length ∧ s.plate.length ≤ 256
  plate : ∀ x ∈ s.plate, x.length = 64
  cache : ∀ x ∈ s.cache, x.1 < s.plate.length ∧ x.2.length = 64
  keys : (s.cache.map (·.1)).Nodup
  fuse : 0 ≤ s.fuse ∧ s.fuse ≤ 9223372036854775807

theorem scr5 (k : Nat) (l : List Nat) : scs k (l.map r5) := by rw [scs_map]; intro x _; trivial
theorem scsD (k : Nat) (l : List Nat) : (sD l).sc k := scr5 k l
theorem oscK (s : Dk) : ∀ ob ∈ oK s, ob.sc 3 := fun ob hob => by
  simp only [oK, List.mem_cons, List.not_mem_nil, or_false] at hob
  rcases hob with rfl | rfl | rfl
  · exact ⟨⟨show 1 < 3 by decide, show 2 < 3 by decide, trivial, trivial, trivial, trivial⟩, trivial⟩
  · show scs 3 (s.plate.map sD)
    rw [scs_map]; intro x _; exact scsD _ _
  · intro e he
    obtain ⟨p, _, rfl⟩ := List.mem_map.mp he
    exact ⟨trivial, scsD _ _⟩
/-- A call on a disk. -/
def TurnsK (f : FuncId) (xs : List D) (s : Dk) (r : D) (s' : Dk) : Prop := TurnsM Try.prog f (.p 0 0 0 0 :: xs) (oK s) r (oK s')
theorem TurnsK.of {f : FuncId} {xs : List D} {s : Dk} {r : D} {s' : Dk} (hx : scs 0 xs) (h : CallsIn Try.prog f (.p 0 0 0 0 :: xs) (oK s) fun r' H' => ∃ r'' H'', Ghost 3 [r'] H' [r''] H'' ∧ r'' = r ∧ H'' = oK s') : TurnsK f xs s r s' :=
  ⟨CallsIn.ghost (h.mono fun r' H' ⟨r'', H'', g, e1, e2⟩ => ⟨r'', H'', g, e1, e2⟩), rfl, ⟨show 0 < 3 by decide, scs_le _ _ hx⟩, oscK s⟩

theorem f31_ok (s : Dk) : TurnsK 31 [] s (.bool true) s := by
  refine TurnsK.of trivial ?_
  refine CallsIn.of_exec tab_ok mixed Try.func31 rfl rfl [] [true, false, false] ?_
  repeat' ((conv => whnf); first
    | refine And.intro (by decide) ?_ | refine And.intro (Nat.le_of_ble_eq_true rfl) ?_)
  all_goals (conv => whnf)
  exact ⟨⟨_, _, Ghost.refl _ _ _, rfl, rfl⟩⟩
theorem f31_nil : Pure Try.prog 31 [.pnil] (.bool false) := by
  refine Pure.of ⟨trivial, trivial⟩ trivial ?_
  refine CallsIn.of_exec tab_ok mixed Try.func31 rfl rfl [] [] ?_
  (conv => whnf)
  exact ⟨rfl⟩

theorem f32_ok (s : Dk) (i : Int) : TurnsK 32 [.int .i64 i] s (.bool (decide (0 ≤ i ∧ i < s.plate.length))) s := by
  refine TurnsK.of ⟨trivial, trivial⟩ ?_
  refine CallsIn.of_exec tab_ok mixed Try.func32 rfl rfl [] [true, false, false] ?_
  by_cases h1 : 0 ≤ i
  · repeat' ((conv => whnf); first
      | refine And.intro (by decide) ?_ | refine And.intro (Nat.le_of_ble_eq_true rfl) ?_ | refine boolF_dect (by assumption) ?_)
    all_goals (conv => whnf)
    all_goals exact ⟨⟨_, _, Ghost.refl _ _ _, by rw [decide_eq_decide.mpr (show (0 ≤ i ∧ i < s.plate.length) ↔ i < s.plate.length from ⟨fun h => h.2, fun h => ⟨h1, h⟩⟩)], rfl⟩⟩
  · repeat' ((conv => whnf); first
      | refine boolF_decf (by assumption) ?_)
    all_goals (conv => whnf)
    exact ⟨⟨_, _, Ghost.refl _ _ _, by rw [decide_eq_false (fun h => h1 h.1)], rfl⟩⟩

theorem bool_cases (x : Bool) : x = true ∨ x = false := by cases x <;> simp
def stepM (s : Dk) : Bool × Dk := if s.off then (false, s) else if s.armed then (if s.fuse = 0 then (false, { s with off := true }) else (true, { s with fuse := s.fuse - 1 })) else (true, s)
theorem f33_ok (s : Dk) (hs : OkK s) : TurnsK 33 [] s (.bool (stepM s).1) (stepM s).2 := by
  refine TurnsK.of trivial ?_
  refine CallsIn.of_exec tab_ok mixed Try.func33 rfl rfl [] [true, false, false] ?_
  have hf := hs.fuse
  rcases bool_cases s.off with ho | ho
  · have e : stepM s = (false, s) := by rw [stepM, if_pos ho]
    rw [e]
    repeat' ((conv => whnf); first
      | refine And.intro (by decide) ?_ | refine And.intro (Nat.le_of_ble_eq_true rfl) ?_ | refine boolF_t (by assumption) ?_)
    all_goals (conv => whnf)
    exact ⟨⟨_, _, Ghost.refl _ _ _, rfl, rfl⟩⟩
  rcases bool_cases s.armed with ha | ha
  · by_cases h0 : s.fuse = 0
    · have e : stepM s = (false, { s with off := true }) := by rw [stepM, if_neg (by simp [ho]), if_pos ha, if_pos h0]
      rw [e]
      repeat' ((conv => whnf); first
        | refine And.intro (by decide) ?_ | refine And.intro (Nat.le_of_ble_eq_true rfl) ?_ | refine boolF_dect (by assumption) ?_ | refine boolF_t (by assumption) ?_ | refine boolF_f (by assumption) ?_)
      all_goals (conv => whnf)
      exact ⟨⟨_, _, Ghost.refl _ _ _, rfl, rfl⟩⟩
    · have e : stepM s = (true, { s with fuse := s.fuse - 1 }) := by rw [stepM, if_neg (by simp [ho]), if_pos ha, if_neg h0]
      rw [e]
      repeat' ((conv => whnf); first
        | refine And.intro (by decide) ?_ | refine And.intro (Nat.le_of_ble_eq_true rfl) ?_ | refine Exists.intro _ (And.intro (w64 (by omega) (by omega)) ?_) | refine boolF_decf (by assumption) ?_ | refine boolF_t (by assumption) ?_ | refine boolF_f (by assumption) ?_)
      all_goals (conv => whnf)
      exact ⟨⟨_, _, Ghost.refl _ _ _, rfl, rfl⟩⟩
  · have e : stepM s = (true, s) := by rw [stepM, if_neg (by simp [ho]), if_neg (by simp [ha])]
    rw [e]
    repeat' ((conv => whnf); first
      | refine And.intro (by decide) ?_ | refine And.intro (Nat.le_of_ble_eq_true rfl) ?_ | refine boolF_f (by assumption) ?_)
    all_goals (conv => whnf)
    exact ⟨⟨_, _, Ghost.refl _ _ _, rfl, rfl⟩⟩
theorem stepM_ok {s : Dk} (hs : OkK s) : OkK (stepM s).2 := by
  have hf := hs.fuse
  unfold stepM
  split
  · exact hs
  · split
    · split
      · exact ⟨hs.n, hs.plate, hs.cache, hs.keys, hs.fuse⟩
      · exact ⟨hs.n, hs.plate, hs.cache, hs.keys, by dsimp only; omega⟩
    · exact hs

end Go.Proofs.Ytbefmodpgecfgaa

