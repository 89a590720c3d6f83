import Derived.Test.YtjoeonhmejnkmaaL8
namespace Go.Proofs.Ytjoeonhmejnkmaa
open Go.A
set_option linter.unusedVariables false
set_option linter.unusedSimpArgs false
set_option linter.unnecessarySimpa false
attribute [local irreducible] IntKind.wrap bitsI
open B
set_option maxRecDepth 100000
set_option maxHeartbeats 4000000

theorem turnB {f : FuncId} {xs : List D} {b b' : Bt} {r : D} {ver : Nat} (hx : scs 0 xs) (hr : r.sc 0)
    (h : CallsIn Try.prog f (.p 0 ver 0 0 :: xs) [oB ver b] fun r' H' => ∃ r'' H'', Ghost 1 [r'] H' [r''] H'' ∧ r'' = r ∧ H'' = [oB ver b']) :
    Turns1 Try.prog f (fun k => .p k ver 0 0 :: xs) (oB ver b) (fun _ _ => r) (fun _ => oB ver b') where
  arg := fun ρ => by simp only [renL, ren]; rw [renL_sc0 ρ _ hx]
  res := fun ρ v => ren_sc0 ρ _ hr
  asc := ⟨Nat.zero_lt_one, scs_le _ _ hx⟩
  osc := ⟨scB _ _, trivial⟩
  ores := fun ρ v => renO_sc0 ρ (by exact ⟨scB _ _, trivial⟩)
  calls := CallsIn.ghost (h.mono fun r' H' ⟨r'', H'', g, e1, e2⟩ => ⟨r'', H'', g, 0, e1, e2⟩)

theorem bool_cases (x : Bool) : x = true ∨ x = false := by cases x <;> simp
theorem seeB (n : Nat) (ver : Nat) (b : Bt) {F : List (Nat × AObj)} (hF : (0, oB ver b) ∈ F) : Sees 0 (fun i => n + i) F (.p 0 ver 0 0) (.pe (cB b)) := .p hF (.all ⟨scB _ _, trivial⟩) rfl rfl

def dropB (b : Bt) : Bt := if b.made then ⟨cm0, b.there, b.all, b.made, b.shard, b.version, cm0⟩ else b
theorem f15_at (b : Bt) (ver : Nat) : Turns1 Try.prog 15 (fun k => [.p k ver 0 0]) (oB ver b) (fun _ _ => .tup []) (fun _ => oB ver (dropB b)) := by
  refine turnB trivial trivial ?_
  have h21 := f21_ok b
  refine CallsIn.of_exec tab_ok mixed Try.func15 rfl rfl [] [true] ?_
  (conv => whnf)
  refine Pure.seeK h21 [(0, oB ver b)] (fact1 rfl) (.cons (seeB _ ver b List.mem_cons_self) .nil) trivial trivial ?_
  rcases bool_cases b.made with hm | hm
  · rw [dropB, if_pos hm]
    repeat' ((conv => whnf); first
      | refine And.intro (by decide) ?_ | refine And.intro rfl ?_ | refine And.intro (Nat.le_of_ble_eq_true rfl) ?_ | refine boolF_t (by assumption) ?_)
    all_goals (conv => whnf)
    refine ⟨⟨_, _, Ghost.re (o := 0) (rows' := [.agg (cB _)]) rfl (.cons ?_ .nil), rfl, rfl⟩⟩
    repeat (first | exact Fzs.nil | refine Fzs.cons .refl ?_ | refine Fzs.cons .nils ?_)
  · rw [dropB, if_neg (by simp [hm])]
    repeat' ((conv => whnf); first
      | refine boolF_f (by assumption) ?_)
    all_goals (conv => whnf)
    exact ⟨⟨_, _, Ghost.refl _ _ _, rfl, rfl⟩⟩

theorem f15_nil : Pure Try.prog 15 [.pnil] (.tup []) := by
  refine Pure.of ⟨trivial, trivial⟩ trivial ?_
  refine CallsIn.of_exec tab_ok mixed Try.func15 rfl rfl [] [] ?_
  repeat' ((conv => whnf); first
    | refine Pure.call (f21_nil) ?_)
  all_goals (conv => whnf)
  exact ⟨rfl⟩

def syncB (b : Bt) : Bt := if b.made then ⟨b.now, b.there, b.all, b.made, b.shard, b.version, b.now⟩ else b
theorem f18_at (b : Bt) (ver : Nat) : Turns1 Try.prog 18 (fun k => [.p k ver 0 0]) (oB ver b) (fun _ _ => .int .i64 (if b.made then b.now.count else 0)) (fun _ => oB ver (syncB b)) := by
  refine turnB trivial trivial ?_
  have h21 := f21_ok b
  refine CallsIn.of_exec tab_ok mixed Try.func18 rfl rfl [] [true] ?_
  (conv => whnf)
  refine Pure.seeK h21 [(0, oB ver b)] (fact1 rfl) (.cons (seeB _ ver b List.mem_cons_self) .nil) trivial trivial ?_
  rcases bool_cases b.made with hm | hm
  · rw [syncB, if_pos hm, if_pos hm]
    repeat' ((conv => whnf); first
      | refine And.intro (by decide) ?_ | refine And.intro rfl ?_ | refine And.intro (Nat.le_of_ble_eq_true rfl) ?_ | refine boolF_not ?_ | refine boolF_t (by assumption) ?_)
    all_goals (conv => whnf)
    exact ⟨⟨_, _, Ghost.refl _ _ _, rfl, rfl⟩⟩
  · rw [syncB, if_neg (by simp [hm]), if_neg (by simp [hm])]
    repeat' ((conv => whnf); first
      | refine boolF_not ?_ | refine boolF_f (by assumption) ?_)
    all_goals (conv => whnf)
    exact ⟨⟨_, _, Ghost.refl _ _ _, rfl, rfl⟩⟩
theorem f18_nil : Pure Try.prog 18 [.pnil] (.int .i64 0) := by
  refine Pure.of ⟨trivial, trivial⟩ trivial ?_
  refine CallsIn.of_exec tab_ok mixed Try.func18 rfl rfl [] [] ?_
  repeat' ((conv => whnf); first
    | refine Pure.call (f21_nil) ?_)
  all_goals (conv => whnf)
  exact ⟨rfl⟩

def crashB (b : Bt) : Bt := if b.made then ⟨b.sure, b.there, b.all, b.made, b.shard, b.version, b.sure⟩ else b
theorem f19_at (b : Bt) (ver : Nat) : Turns1 Try.prog 19 (fun k => [.p k ver 0 0]) (oB ver b) (fun _ _ => .tup []) (fun _ => oB ver (crashB b)) := by
  refine turnB trivial trivial ?_
  have h21 := f21_ok b
  refine CallsIn.of_exec tab_ok mixed Try.func19 rfl rfl [] [true] ?_
  (conv => whnf)
  refine Pure.seeK h21 [(0, oB ver b)] (fact1 rfl) (.cons (seeB _ ver b List.mem_cons_self) .nil) trivial trivial ?_
  rcases bool_cases b.made with hm | hm
  · rw [crashB, if_pos hm]
    repeat' ((conv => whnf); first
      | refine And.intro (by decide) ?_ | refine And.intro rfl ?_ | refine And.intro (Nat.le_of_ble_eq_true rfl) ?_ | refine boolF_t (by assumption) ?_)
    all_goals (conv => whnf)
    exact ⟨⟨_, _, Ghost.refl _ _ _, rfl, rfl⟩⟩
  · rw [crashB, if_neg (by simp [hm])]
    repeat' ((conv => whnf); first
      | refine boolF_f (by assumption) ?_)
    all_goals (conv => whnf)
    exact ⟨⟨_, _, Ghost.refl _ _ _, rfl, rfl⟩⟩
theorem f19_nil : Pure Try.prog 19 [.pnil] (.tup []) := by
  refine Pure.of ⟨trivial, trivial⟩ trivial ?_
  refine CallsIn.of_exec tab_ok mixed Try.func19 rfl rfl [] [] ?_
  repeat' ((conv => whnf); first
    | refine Pure.call (f21_nil) ?_)
  all_goals (conv => whnf)
  exact ⟨rfl⟩

end Go.Proofs.Ytjoeonhmejnkmaa

