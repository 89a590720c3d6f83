import Derived.Test.YtjoeonhmejnkmaaL9
namespace Go.Proofs.Ytjoeonhmejnkmaa
open Go.A
set_option linter.unusedVariables false
set_option linter.unusedSimpArgs false
set_option linter.unnecessarySimpa false
attribute [local irreducible] IntKind.wrap bitsI
open B
set_option maxRecDepth 100000
set_option maxHeartbeats 4000000

theorem ownW_rn (p : List Nat × Int) : ∀ k ver o, Rn k ver o (p.1.map r63).length (ownW p k ver) (ownW p o 1) := fun k ver o => by
  rw [List.length_map]
  exact .tup (.cons .h (.cons (.refl trivial) .nil))

theorem endB {ver : Nat} {row : D} {rest : List AObj} {r : D} (b' : Bt) (F : List (Nat × AObj)) (hF : ∀ x ∈ F, 1 ≤ x.1 ∧ (AObj.arr ver 13 [row] :: rest)[x.1]? = some x.2 ∧ ∃ v sz rows, x.2 = .arr v sz rows) (hd : (F.map Prod.fst).Nodup)
    (hr : r.sc 0) (hz : Fzs F row.cells (cB b')) : Ghost 1 [r] (.arr ver 13 [row] :: rest) [r] [oB ver b'] := by
  have h0 : 0 ∉ F.map Prod.fst := fun h => by
    obtain ⟨x, hx, e⟩ := List.mem_map.mp h
    have := (hF x hx).1
    omega
  refine (Ghost.fz F [(0, oB ver b')] hF hd Fzs.all (fun x hx => ?_) (by simp)).trans (Ghost.back [0] 1 rfl ?_ (Nat.le_refl _) ⟨sc_le _ _ hr, trivial⟩ (fun ob hob => ?_))
  · simp only [List.mem_singleton] at hx; subst hx
    exact ⟨h0, ver, 13, [row], [.agg (cB b')], rfl, rfl, .cons hz .nil⟩
  · have e : (goneL (AObj.arr ver 13 [row] :: rest) F)[0]? = some (.arr ver 13 [row]) := goneL_ne F _ h0
    cases hG : goneL (AObj.arr ver 13 [row] :: rest) F with
    | nil => rw [hG] at e; simp at e
    | cons x l => rfl
  · simp only [List.mem_singleton] at hob; subst hob
    exact ⟨scB _ _, trivial⟩

theorem applyM1 {v : List Nat} {o : Op} (h : (applyM v [o]).2 = 0) : v.length ≤ 1024 ∧ okOp v.length o := by
  rw [applyM] at h
  split at h
  · cases h
  · split at h
    · rename_i h1 h2; exact ⟨by omega, h2 o List.mem_cons_self⟩
    · cases h

def doneM (b : Bt) (o : Op) : Bt × Int :=
  if (applyM b.now.v [o]).2 ≠ 0 ∨ o.off_ < b.now.behind then (b, 5)
  else (⟨⟨b.now.snap, b.now.count + 1, endOf o, (applyM b.now.v [o]).1⟩, b.there, b.all, b.made, b.shard, b.version, b.sure⟩, 0)

theorem f25_at (b : Bt) (o : Op) (ver : Nat) (hv : b.now.v.length ≤ 140737488351232) (ho : o.data_.length ≤ 140737488351232) (hc : 0 ≤ b.now.count ∧ b.now.count ≤ 1000000) :
    Turns1 Try.prog 25 (fun k => [.p k ver 0 0, d69 o]) (oB ver b) (fun _ _ => .int .i64 (doneM b o).2) (fun _ => oB ver (doneM b o).1) := by
  refine turnB ⟨scd69 _ _, trivial⟩ trivial ?_
  have h9 := f35_own b.now.v [o] hv (by simp) (fun x hx => by simp only [List.mem_singleton] at hx; subst hx; exact ho)
  obtain ⟨A, hA⟩ : ∃ A, A = applyM b.now.v [o] := ⟨_, rfl⟩
  have hA1 := applyM1 (v := b.now.v) (o := o)
  rw [doneM]
  rw [← hA] at h9 hA1 ⊢
  refine CallsIn.of_exec tab_ok mixed Try.func25 rfl rfl [] [true] ?_
  repeat' ((conv => whnf); first
    | refine And.intro (by decide) ?_ | refine And.intro rfl ?_ | refine And.intro (Nat.le_of_ble_eq_true rfl) ?_)
  all_goals (conv => whnf)
  refine OwnedR.locK h9 (ownW_rn _) ?_
  by_cases h1 : A.2 = 0
  · obtain ⟨hv2, hok⟩ := hA1 h1
    have hd := dat_len hok
    have hoff := hok.2.2.1
    by_cases h2 : o.off_ < b.now.behind
    · rw [if_pos (.inr h2)]
      repeat' ((conv => whnf); first
        | refine PairK.mk (by kernel_rfl) ?_ | refine And.intro (by decide) ?_ | refine And.intro rfl ?_ | refine And.intro (Nat.le_of_ble_eq_true rfl) ?_ | refine boolF_not ?_ | refine boolF_dect (by assumption) ?_)
      all_goals (conv => whnf)
      exact ⟨⟨_, _, endB b [] (fun x hx => by cases hx) (by simp) trivial Fzs.all, rfl, rfl⟩⟩
    · rw [if_neg (by rintro (g | g); exact g h1; exact h2 g)]
      repeat' ((conv => whnf); first
        | refine PairK.mk (by kernel_rfl) ?_ | refine And.intro (by decide) ?_ | refine And.intro rfl ?_ | refine And.intro (Nat.le_of_ble_eq_true rfl) ?_ | refine Exists.intro _ (And.intro (w64 (by omega) (by omega)) ?_) | refine Pure.call (f36_ok _ ho) ?_ | refine boolF_not ?_ | refine boolF_dect (by assumption) ?_ | refine boolF_decf (by assumption) ?_)
      all_goals (conv => whnf)
      refine ⟨⟨_, _, endB _ [(1, .arr 1 1 (A.1.map r63))] ?_ (by simp) trivial ?_, rfl, rfl⟩⟩
      · intro x hx
        simp only [List.mem_singleton] at hx; subst hx
        exact ⟨Nat.le_refl _, rfl, _, _, _, rfl⟩
      · repeat (first | exact Fzs.nil | refine Fzs.cons .refl ?_ | refine Fzs.cons (.h mem0 .all (all_take rfl)) ?_)
  · rw [if_pos (.inl h1)]
    repeat' ((conv => whnf); first
      | refine PairK.mk (by kernel_rfl) ?_ | refine boolF_not ?_ | refine boolF_decf (by assumption) ?_)
    all_goals (conv => whnf)
    exact ⟨⟨_, _, endB b [] (fun x hx => by cases hx) (by simp) trivial Fzs.all, rfl, rfl⟩⟩

end Go.Proofs.Ytjoeonhmejnkmaa

