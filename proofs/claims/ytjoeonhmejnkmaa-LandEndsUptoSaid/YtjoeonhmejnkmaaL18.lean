import Derived.Test.YtjoeonhmejnkmaaL17
namespace Go.Proofs.Ytjoeonhmejnkmaa
open Go.A
set_option linter.unusedVariables false
set_option linter.unusedSimpArgs false
set_option linter.unnecessarySimpa false
attribute [local irreducible] IntKind.wrap bitsI
open B
set_option maxRecDepth 100000
set_option maxHeartbeats 4000000

/-- A stream of one snapshot, told by what is there. -/
def stAt (h : Rec) (ops : List Op) (v0 : List Nat) (th : Int) (all : List Nat) (j : Nat) : Bt := if j = 0 then ⟨cm0, th, all, true, h.shard_, h.map_, cm0⟩ else if j ≤ ops.length + 1 then ⟨partC h ops v0 j, th, all, true, h.shard_, h.map_, cm0⟩ else ⟨cm0, h.snap_, applyL v0 ops, true, h.shard_, h.map_, cm0⟩
theorem st_step {n h ops} (s : Stream n h ops) {th : Int} {all : List Nat} (hall : all.length = n) (hth : h.snap_ ≠ th) (hba : h.base_ = 0 ∨ h.base_ = th) {j : Nat} (hj : j < ops.length + 2) :
    ∃ r, (strmL h ops)[j]? = some r ∧ takeM (stAt h ops (if h.base_ = 0 then zer n else all) th all j) (j : Int) r = (stAt h ops (if h.base_ = 0 then zer n else all) th all (j + 1), 0) := by
  have hv : (if h.base_ = 0 then zer n else all).length = n := by
    split
    · simp [zer]
    · exact hall
  obtain ⟨v0, hv0⟩ : ∃ v0, v0 = (if h.base_ = 0 then zer n else all) := ⟨_, rfl⟩
  rcases Nat.eq_zero_or_pos j with rfl | hpos
  · refine ⟨h, rfl, ?_⟩
    have := take_first s (b := stAt h ops (if h.base_ = 0 then zer n else all) th all 0) rfl hall rfl rfl rfl hth hba
    rw [show ((0 : Nat) : Int) = 0 from rfl, this]
    simp [stAt, hall]
  · rw [← hv0] at hv ⊢
    obtain ⟨k, rfl⟩ : ∃ k, j = k + 1 := ⟨j - 1, by omega⟩
    rcases Nat.lt_or_ge k ops.length with hk | hk
    · obtain ⟨o, ho⟩ := at_lt hk
      refine ⟨recOf o, recAti h ho, ?_⟩
      have e1 : stAt h ops v0 th all (k + 1) = ⟨partC h ops v0 (k + 1), th, all, true, h.shard_, h.map_, cm0⟩ := by rw [stAt, if_neg (by omega), if_pos (by omega)]
      have e2 : stAt h ops v0 th all (k + 1 + 1) = ⟨partC h ops v0 (k + 2), th, all, true, h.shard_, h.map_, cm0⟩ := by rw [stAt, if_neg (by omega), if_pos (by omega)]
      rw [e1, e2]
      exact take_mid s hv ho rfl rfl
    · obtain rfl : k = ops.length := by omega
      refine ⟨tailR ops.length, recAtn h ops, ?_⟩
      have e1 : stAt h ops v0 th all (ops.length + 1) = ⟨partC h ops v0 (ops.length + 1), th, all, true, h.shard_, h.map_, cm0⟩ := by rw [stAt, if_neg (by omega), if_pos (by omega)]
      have e2 : stAt h ops v0 th all (ops.length + 1 + 1) = ⟨cm0, h.snap_, applyL v0 ops, true, h.shard_, h.map_, cm0⟩ := by rw [stAt, if_neg (by omega), if_neg (by omega)]
      rw [e1, e2]
      exact take_tail s rfl rfl

end Go.Proofs.Ytjoeonhmejnkmaa

