import Derived.Test.YtjoeonhmejnkmaaL10
namespace Go.Proofs.Ytjoeonhmejnkmaa
open Go.A
set_option linter.unusedVariables false
set_option linter.unusedSimpArgs false
set_option linter.unnecessarySimpa false
attribute [local irreducible] IntKind.wrap bitsI
open B
set_option maxRecDepth 100000
set_option maxHeartbeats 4000000

def zer (n : Nat) : List Nat := List.replicate n 0
def beginM (b : Bt) (i : Int) (r : Rec) : Bt × Int :=
  if i ≠ 0 then (b, 15) else if r.kind_ ≠ 1 then (b, 14) else if r.shard_ ≠ b.shard ∨ r.len_ ≠ (b.all.length : Int) then (b, 1) else if r.map_ ≠ b.version then (b, 13)
  else if r.snap_ = 0 ∨ r.snap_ = b.there then (b, 10) else if r.base_ ≠ 0 ∧ r.base_ ≠ b.there then (b, 12)
  else (⟨⟨r.snap_, 1, 0, if r.base_ = 0 then zer b.all.length else b.all⟩, b.there, b.all, b.made, b.shard, b.version, b.sure⟩, 0)

theorem f24_at (b : Bt) (i : Int) (r : Rec) (ver : Nat) (hv : b.all.length ≤ 1024) :
    Turns1 Try.prog 24 (fun k => [.p k ver 0 0, .int .i64 i, d26 r]) (oB ver b) (fun _ _ => .int .i64 (beginM b i r).2) (fun _ => oB ver (beginM b i r).1) := by
  refine turnB ⟨trivial, scd26 _ _, trivial⟩ trivial ?_
  have h32 := f32_ok b.all (by omega) (by omega)
  rw [beginM]
  refine CallsIn.of_exec tab_ok mixed Try.func24 rfl rfl [] [true] ?_
  by_cases h1 : i = 0
  case neg =>
    rw [if_pos h1]
    repeat' ((conv => whnf); first
      | refine boolF_not ?_ | refine boolF_decf (by assumption) ?_)
    all_goals (conv => whnf)
    exact ⟨⟨_, _, endB b [] (fun x hx => by cases hx) (by simp) trivial Fzs.all, rfl, rfl⟩⟩
  rw [if_neg (by simp [h1])]
  by_cases h2 : r.kind_ = 1
  case neg =>
    rw [if_pos h2]
    repeat' ((conv => whnf); first
      | refine boolF_not ?_ | refine boolF_dect (by assumption) ?_ | refine boolF_decf (by assumption) ?_)
    all_goals (conv => whnf)
    exact ⟨⟨_, _, endB b [] (fun x hx => by cases hx) (by simp) trivial Fzs.all, rfl, rfl⟩⟩
  rw [if_neg (by simp [h2])]
  by_cases h3 : r.shard_ ≠ b.shard ∨ r.len_ ≠ (b.all.length : Int)
  · rw [if_pos h3]
    rcases h3 with h3 | h3
    · repeat' ((conv => whnf); first
        | refine PairK.mk (by kernel_rfl) ?_ | refine And.intro (by decide) ?_ | refine And.intro rfl ?_ | refine And.intro (Nat.le_of_ble_eq_true rfl) ?_ | refine boolF_not ?_ | refine boolF_dect (by assumption) ?_ | refine boolF_decf (by assumption) ?_)
      all_goals (conv => whnf)
      exact ⟨⟨_, _, endB b [] (fun x hx => by cases hx) (by simp) trivial Fzs.all, rfl, rfl⟩⟩
    · repeat' ((conv => whnf); first
        | refine PairK.mk (by kernel_rfl) ?_ | refine And.intro (by decide) ?_ | refine And.intro rfl ?_ | refine And.intro (Nat.le_of_ble_eq_true rfl) ?_ | refine Exists.intro _ (And.intro (⟨(List.length_map _).symm⟩) ?_) | refine boolF_not ?_ | refine boolF_dect (by assumption) ?_ | refine boolF_decf (by assumption) ?_ | refine boolF_dec (fun _ => ?_) (fun _ => ?_))
      all_goals (conv => whnf)
      all_goals exact ⟨⟨_, _, endB b [] (fun x hx => by cases hx) (by simp) trivial Fzs.all, rfl, rfl⟩⟩
  rw [if_neg h3]
  have h3a : r.shard_ = b.shard := by omega
  have h3b : r.len_ = (b.all.length : Int) := by omega
  clear h3
  by_cases h4 : r.map_ = b.version
  case neg =>
    rw [if_pos h4]
    repeat' ((conv => whnf); first
      | refine PairK.mk (by kernel_rfl) ?_ | refine And.intro (by decide) ?_ | refine And.intro rfl ?_ | refine And.intro (Nat.le_of_ble_eq_true rfl) ?_ | refine Exists.intro _ (And.intro (⟨(List.length_map _).symm⟩) ?_) | refine boolF_not ?_ | refine boolF_dect (by assumption) ?_ | refine boolF_decf (by assumption) ?_)
    all_goals (conv => whnf)
    exact ⟨⟨_, _, endB b [] (fun x hx => by cases hx) (by simp) trivial Fzs.all, rfl, rfl⟩⟩
  rw [if_neg (by simp [h4])]
  by_cases h5 : r.snap_ = 0 ∨ r.snap_ = b.there
  · rw [if_pos h5]
    rcases h5 with h5 | h5
    · repeat' ((conv => whnf); first
        | refine PairK.mk (by kernel_rfl) ?_ | refine And.intro (by decide) ?_ | refine And.intro rfl ?_ | refine And.intro (Nat.le_of_ble_eq_true rfl) ?_ | refine Exists.intro _ (And.intro (⟨(List.length_map _).symm⟩) ?_) | refine boolF_not ?_ | refine boolF_dect (by assumption) ?_)
      all_goals (conv => whnf)
      exact ⟨⟨_, _, endB b [] (fun x hx => by cases hx) (by simp) trivial Fzs.all, rfl, rfl⟩⟩
    · repeat' ((conv => whnf); first
        | refine PairK.mk (by kernel_rfl) ?_ | refine And.intro (by decide) ?_ | refine And.intro rfl ?_ | refine And.intro (Nat.le_of_ble_eq_true rfl) ?_ | refine Exists.intro _ (And.intro (⟨(List.length_map _).symm⟩) ?_) | refine boolF_not ?_ | refine boolF_dect (by assumption) ?_ | refine boolF_dec (fun _ => ?_) (fun _ => ?_))
      all_goals (conv => whnf)
      all_goals exact ⟨⟨_, _, endB b [] (fun x hx => by cases hx) (by simp) trivial Fzs.all, rfl, rfl⟩⟩
  rw [if_neg h5]
  have h5a : r.snap_ ≠ 0 := by omega
  have h5b : r.snap_ ≠ b.there := by omega
  clear h5
  by_cases h6 : r.base_ = 0
  · rw [if_neg (by simp [h6]), if_pos h6]
    repeat' ((conv => whnf); first
      | refine PairK.mk (by kernel_rfl) ?_ | refine And.intro (by decide) ?_ | refine And.intro rfl ?_ | refine And.intro (Nat.le_of_ble_eq_true rfl) ?_ | refine Exists.intro _ (And.intro (⟨(List.length_map _).symm⟩) ?_) | refine boolF_not ?_ | refine boolF_dect (by assumption) ?_ | refine boolF_decf (by assumption) ?_)
    all_goals (conv => whnf)
    refine Owned.locN h32 b.all.length (by rw [List.length_map]) ?_
    repeat' ((conv => whnf); first
      | refine PairK.mk (by kernel_rfl) ?_ | refine And.intro (by decide) ?_ | refine And.intro rfl ?_ | refine And.intro (Nat.le_of_ble_eq_true rfl) ?_ | refine boolF_dect (by assumption) ?_)
    all_goals (conv => whnf)
    have e : spliceL (b.all.map r63) 0 (List.replicate b.all.length (D.int .u64 0)) = (zer b.all.length).map r63 := by simp [spliceL, zer, r63, d63]
    refine ⟨⟨_, _, endB _ [(1, .arr 1 1 (spliceL (b.all.map r63) 0 (List.replicate b.all.length (D.int .u64 0))))] ?_ (by simp) trivial ?_, rfl, rfl⟩⟩
    · intro x hx
      simp only [List.mem_singleton] at hx; subst hx
      exact ⟨Nat.le_refl _, rfl, _, _, _, rfl⟩
    · repeat (first | exact Fzs.nil | refine Fzs.cons .refl ?_ | refine Fzs.cons (.h mem0 .all (by rw [e]; exact all_take (by simp [zer]))) ?_)
  · by_cases h7 : r.base_ = b.there
    · rw [if_neg (by simp [h7]), if_neg h6]
      repeat' ((conv => whnf); first
        | refine PairK.mk (by kernel_rfl) ?_ | refine And.intro (by decide) ?_ | refine And.intro rfl ?_ | refine And.intro (Nat.le_of_ble_eq_true rfl) ?_ | refine Exists.intro _ (And.intro (⟨(List.length_map _).symm⟩) ?_) | refine boolF_not ?_ | refine boolF_dect (by assumption) ?_ | refine boolF_decf (by assumption) ?_)
      all_goals (conv => whnf)
      refine Owned.locN h32 b.all.length (by rw [List.length_map]) ?_
      repeat' ((conv => whnf); first
        | refine PairK.mk (by kernel_rfl) ?_ | refine And.intro (by decide) ?_ | refine And.intro rfl ?_ | refine And.intro (Nat.le_of_ble_eq_true rfl) ?_ | refine boolF_decf (by assumption) ?_)
      all_goals (conv => whnf)
      refine ⟨⟨_, _, endB _ [(1, .arr 1 1 (b.all.map r63))] ?_ (by simp) trivial ?_, rfl, rfl⟩⟩
      · intro x hx
        simp only [List.mem_singleton] at hx; subst hx
        exact ⟨Nat.le_refl _, rfl, _, _, _, rfl⟩
      · repeat (first | exact Fzs.nil | refine Fzs.cons .refl ?_ | refine Fzs.cons (.h mem0 .all (all_take rfl)) ?_)
    · rw [if_pos ⟨h6, h7⟩]
      repeat' ((conv => whnf); first
        | refine PairK.mk (by kernel_rfl) ?_ | refine And.intro (by decide) ?_ | refine And.intro rfl ?_ | refine And.intro (Nat.le_of_ble_eq_true rfl) ?_ | refine Exists.intro _ (And.intro (⟨(List.length_map _).symm⟩) ?_) | refine boolF_not ?_ | refine boolF_dect (by assumption) ?_ | refine boolF_decf (by assumption) ?_)
      all_goals (conv => whnf)
      exact ⟨⟨_, _, endB b [] (fun x hx => by cases hx) (by simp) trivial Fzs.all, rfl, rfl⟩⟩

end Go.Proofs.Ytjoeonhmejnkmaa

