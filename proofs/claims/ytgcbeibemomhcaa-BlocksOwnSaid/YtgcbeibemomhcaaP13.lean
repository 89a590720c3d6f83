import Derived.Test.YtgcbeibemomhcaaP12
namespace Go.Proofs.Ytgcbeibemomhcaa
open Go.A
set_option linter.unusedVariables false
set_option linter.unusedSimpArgs false
set_option linter.unnecessarySimpa false
attribute [local irreducible] IntKind.wrap bitsI
set_option maxRecDepth 100000
set_option maxHeartbeats 4000000

def readM (v : List Nat) (off n : Int) : List Nat × Int := if 1024 < v.length then ([], 6) else if 0 ≤ off ∧ 0 ≤ n ∧ n ≤ v.length ∧ off ≤ v.length - n then ((v.drop off.toNat).take n.toNat, 0) else ([], 1)

theorem f18_own (v : List Nat) (off n : Int) (hv : v.length ≤ 140737488351232) : OwnW 18 [d22 v, .int .i64 off, .int .i64 n] (readM v off n) := by
  refine OwnedR.of ⟨scd22 _ _, trivial, trivial, trivial⟩ (scr45 _ _) (ownW_res _) ?_
  refine CallsIn.of_exec tab_ok mixed Try.func18 rfl rfl [] [] ?_
  by_cases hb : 1024 < v.length
  · rw [readM, if_pos hb]
    repeat' ((conv => whnf); first
      | refine Exists.intro _ (And.intro (⟨(List.length_map _).symm⟩) ?_) | refine boolF_dect (by omega) ?_)
    all_goals (conv => whnf)
    exact ⟨ownW_err 6 _⟩
  · rw [readM, if_neg hb]
    by_cases hl : 0 ≤ off ∧ 0 ≤ n ∧ n ≤ v.length ∧ off ≤ v.length - n
    · rw [if_pos hl]
      obtain ⟨a, rfl⟩ := Int.eq_ofNat_of_zero_le hl.1
      obtain ⟨c, rfl⟩ := Int.eq_ofNat_of_zero_le hl.2.1
      have hlen : ((v.drop a).take (a + c - a)).length ≤ 1024 := by rw [List.length_take, List.length_drop]; omega
      have h22 := f22_ok ((v.drop a).take (a + c - a)) (by omega) (by omega)
      repeat' ((conv => whnf); first
        | refine Exists.intro a (Exists.intro (a + c) (And.intro ⟨rfl⟩ (And.intro ⟨rfl⟩ (And.intro (by omega) (And.intro (by omega) ?_))))) | refine And.intro (cells_map (fun _ => rfl)) ?_ | refine Exists.intro _ (And.intro (⟨(List.length_map _).symm⟩) ?_) | refine Exists.intro _ (And.intro (⟨map_slice⟩) ?_) | refine Exists.intro _ (And.intro (w64 (by omega) (by omega)) ?_) | refine Pure.call (f32_ok _ _ _ (by omega)) ?_ | refine boolF_not ?_ | refine boolF_dect (by assumption) ?_ | refine boolF_decf (by omega) ?_)
      all_goals (conv => whnf)
      refine Owned.callN h22 _ (by rw [List.length_map]) (fun v1 => ?_)
      (conv => whnf)
      have e : (v.drop ((a : Int)).toNat).take ((c : Int)).toNat = (v.drop a).take (a + c - a) := by
        rw [Int.toNat_natCast, Int.toNat_natCast, Nat.add_sub_cancel_left]
      rw [e]
      exact ⟨ownW_ok 0 _ 0 v1 _ _ rfl rfl⟩
    · rw [if_neg hl]
      repeat' ((conv => whnf); first
        | refine Exists.intro _ (And.intro (⟨(List.length_map _).symm⟩) ?_) | refine Pure.call (f32_ok _ _ _ (by omega)) ?_ | refine boolF_not ?_ | refine boolF_decf (by assumption) ?_ | refine boolF_decf (by omega) ?_)
      all_goals (conv => whnf)
      exact ⟨ownW_err 1 _⟩

end Go.Proofs.Ytgcbeibemomhcaa

