import Derived.Test.YtjoeonhmejnkmaaL14
namespace Go.Proofs.Ytjoeonhmejnkmaa
open Go.A
set_option linter.unusedVariables false
set_option linter.unusedSimpArgs false
set_option linter.unnecessarySimpa false
attribute [local irreducible] IntKind.wrap bitsI
open B
set_option maxRecDepth 100000
set_option maxHeartbeats 4000000

def CmOk (n : Nat) (c : Cm) : Prop := c = cm0 ∨ (c.snap ≠ 0 ∧ 1 ≤ c.count ∧ c.count ≤ 1 + c.behind ∧ 0 ≤ c.behind ∧ c.behind ≤ (n : Int) ∧ c.v.length = n)
structure InvB (s v : Int) (n : Nat) (b : Bt) : Prop where
  made : b.made = true
  n1 : n ≤ 1024
  all : b.all.length = n
  now : CmOk n b.now
  sure : CmOk n b.sure
  shard : b.shard = s
  version : b.version = v

theorem InvB.ok {s v n b} (h : InvB s v n b) : OkB b := by
  have h1 := h.n1
  refine ⟨by have := h.all; omega, ?_, ?_⟩
  · rcases h.now with e | e
    · rw [e]; decide
    · omega
  · rcases h.now with e | e
    · rw [e]; decide
    · omega
theorem inv_new {s v n : Int} (h : newOk s v n) : InvB s v n.toNat (newB s v n) :=
  ⟨rfl, by have := h.2.2; omega, by simp [newB, zer], .inl rfl, .inl rfl, rfl, rfl⟩
theorem inv_drop {s v n b} (h : InvB s v n b) : InvB s v n (dropB b) := by
  rw [dropB, if_pos h.made]
  exact ⟨h.made, h.n1, h.all, .inl rfl, .inl rfl, h.shard, h.version⟩
theorem inv_sync {s v n b} (h : InvB s v n b) : InvB s v n (syncB b) := by
  rw [syncB, if_pos h.made]
  exact ⟨h.made, h.n1, h.all, h.now, h.now, h.shard, h.version⟩
theorem inv_crash {s v n b} (h : InvB s v n b) : InvB s v n (crashB b) := by
  rw [crashB, if_pos h.made]
  exact ⟨h.made, h.n1, h.all, h.sure, h.sure, h.shard, h.version⟩
theorem inv_begin {s v n b} (h : InvB s v n b) (i : Int) (r : Rec) : InvB s v n (beginM b i r).1 := by
  unfold beginM
  repeat (split; exact h)
  rename_i g _
  refine ⟨h.made, h.n1, h.all, .inr ⟨fun e => g (.inl e), Int.le_refl _, show (1 : Int) ≤ 1 + 0 by omega, Int.le_refl _, show (0 : Int) ≤ n by omega, ?_⟩, h.sure, h.shard, h.version⟩
  dsimp only
  split
  · simp [zer, h.all]
  · exact h.all
theorem applyM_at {v : List Nat} {o : Op} (h1 : v.length ≤ 1024) (h2 : okOp v.length o) : applyM v [o] = (doO v o, 0) := by
  have h3 : allOk v.length [o] := fun x hx => by simp only [List.mem_singleton] at hx; subst hx; exact h2
  rw [applyM, if_neg (by omega), if_pos h3]; rfl
theorem inv_done {s v n b} (h : InvB s v n b) (h0 : b.now.snap ≠ 0) (o : Op) : InvB s v n (doneM b o).1 := by
  unfold doneM
  split
  · exact h
  · rename_i g
    have g1 : (applyM b.now.v [o]).2 = 0 := Classical.byContradiction fun e => g (.inl e)
    have g2 : ¬ o.off_ < b.now.behind := fun e => g (.inr e)
    obtain ⟨h1, h2⟩ := applyM1 g1
    rcases h.now with e | ⟨e1, e2, e3, e4, e5, e6⟩
    · rw [e] at h0; exact absurd rfl h0
    · have hd := dat_len h2
      have hl := (do_at h2).1
      refine ⟨h.made, h.n1, h.all, .inr ⟨h0, ?_, ?_, ?_, ?_, ?_⟩, h.sure, h.shard, h.version⟩
      · show 1 ≤ b.now.count + 1; omega
      · show b.now.count + 1 ≤ 1 + endOf o; rw [endOf]; omega
      · show 0 ≤ endOf o; rw [endOf]; omega
      · show endOf o ≤ n; rw [endOf]; omega
      · show (applyM b.now.v [o]).1.length = n
        rw [applyM_at h1 h2, hl, e6]
theorem inv_land {s v n b} (h : InvB s v n b) (h0 : b.now.snap ≠ 0) : InvB s v n (landB b) := by
  refine inv_drop (b := ⟨b.now, b.now.snap, b.now.v, b.made, b.shard, b.version, b.sure⟩) ⟨h.made, h.n1, ?_, h.now, h.sure, h.shard, h.version⟩
  rcases h.now with e | e
  · rw [e] at h0; exact absurd rfl h0
  · exact e.2.2.2.2.2
theorem inv_take {s v n b} (h : InvB s v n b) (i : Int) (r : Rec) : InvB s v n (takeM b i r).1 := by
  unfold takeM
  split
  · exact h
  split
  · exact h
  split
  · exact inv_begin h i r
  rename_i h0
  split
  · exact h
  split
  · exact h
  split
  · exact inv_done h h0 _
  split
  · exact inv_done h h0 _
  split
  · exact inv_land h h0
  · exact h

theorem begin_bad {b : Bt} {i : Int} {r : Rec} (h : (beginM b i r).2 ≠ 0) : (beginM b i r).1 = b := by
  unfold beginM at h ⊢
  repeat (split; rfl)
  rename_i g1 g2 g3 g4 g5 g6
  rw [if_neg g1, if_neg g2, if_neg g3, if_neg g4, if_neg g5, if_neg g6] at h
  exact absurd rfl h
theorem done_bad {b : Bt} {o : Op} (h : (doneM b o).2 ≠ 0) : (doneM b o).1 = b := by
  unfold doneM at h ⊢
  split
  · rfl
  · rename_i g
    rw [if_neg g] at h
    exact absurd rfl h
theorem take_bad {b : Bt} {i : Int} {r : Rec} (h : (takeM b i r).2 ≠ 0) : (takeM b i r).1 = b := by
  unfold takeM at h ⊢
  split
  · rfl
  rename_i g1
  rw [if_neg g1] at h
  split
  · rfl
  rename_i g2
  rw [if_neg g2] at h
  split
  · rename_i g3
    rw [if_pos g3] at h
    exact begin_bad h
  rename_i g3
  rw [if_neg g3] at h
  split
  · rfl
  rename_i g4
  rw [if_neg g4] at h
  split
  · rfl
  rename_i g5
  rw [if_neg g5] at h
  split
  · rename_i g6
    rw [if_pos g6] at h
    exact done_bad h
  rename_i g6
  rw [if_neg g6] at h
  split
  · rename_i g7
    rw [if_pos g7] at h
    exact done_bad h
  rename_i g7
  rw [if_neg g7] at h
  split
  · rename_i g8
    rw [if_pos g8] at h
    exact absurd rfl h
  · rfl

end Go.Proofs.Ytjoeonhmejnkmaa

