import Derived.Test.YtjoeonhmejnkmaaL11
namespace Go.Proofs.Ytjoeonhmejnkmaa
open Go.A
set_option linter.unusedVariables false
set_option linter.unusedSimpArgs false
set_option linter.unnecessarySimpa false
attribute [local irreducible] IntKind.wrap bitsI
open B
set_option maxRecDepth 100000
set_option maxHeartbeats 4000000

def landB (b : Bt) : Bt := dropB ⟨b.now, b.now.snap, b.now.v, b.made, b.shard, b.version, b.sure⟩
def takeM (b : Bt) (i : Int) (r : Rec) : Bt × Int :=
  if b.made = false then (b, 2) else if i < 0 ∨ ¬ mayR r then (b, 1) else if b.now.snap = 0 then beginM b i r
  else if i < b.now.count then (b, 10) else if b.now.count < i then (b, 15)
  else if r.kind_ = 2 then doneM b ⟨1, r.off_, 0, r.data_⟩ else if r.kind_ = 3 then doneM b ⟨2, r.off_, r.len_, []⟩
  else if r.kind_ = 4 ∧ r.len_ = b.now.count - 1 then (landB b, 0) else (b, 5)

structure OkB (b : Bt) : Prop where
  all : b.all.length ≤ 1024
  v : b.now.v.length ≤ 1024
  c : 0 ≤ b.now.count ∧ b.now.count ≤ 1000000

theorem stayB (ver : Nat) (b : Bt) (e : Int) : ∃ r'' H'', Ghost 1 [D.int .i64 e] [oB ver b] [r''] H'' ∧ r'' = D.int .i64 e ∧ H'' = [oB ver b] := ⟨_, _, Ghost.refl _ _ _, rfl, rfl⟩

theorem f13_at (b : Bt) (i : Int) (r : Rec) (ver : Nat) (hb : OkB b) (hd : r.data_.length ≤ 140737488351232) :
    Turns1 Try.prog 13 (fun k => [.p k ver 0 0, .int .i64 i, d26 r]) (oB ver b) (fun _ _ => .int .i64 (takeM b i r).2) (fun _ => oB ver (takeM b i r).1) := by
  refine turnB ⟨trivial, scd26 _ _, trivial⟩ trivial ?_
  have h21 := f21_ok b
  rw [takeM]
  refine CallsIn.of_exec tab_ok mixed Try.func13 rfl rfl [] [true] ?_
  (conv => whnf)
  refine Pure.seeK h21 [(0, oB ver b)] (fact1 rfl) (.cons (seeB _ ver b List.mem_cons_self) .nil) trivial trivial ?_
  rcases bool_cases b.made with hm | hm
  case inr =>
    rw [if_pos hm]
    repeat' ((conv => whnf); first
      | refine boolF_not ?_ | refine boolF_f (by assumption) ?_)
    all_goals (conv => whnf)
    exact ⟨stayB _ _ _⟩
  rw [if_neg (by simp [hm])]
  by_cases h1 : i < 0
  · rw [if_pos (.inl h1)]
    repeat' ((conv => whnf); first
      | refine boolF_not ?_ | refine boolF_dect (by assumption) ?_ | refine boolF_t (by assumption) ?_)
    all_goals (conv => whnf)
    exact ⟨stayB _ _ _⟩
  by_cases h2 : mayR r
  case neg =>
    rw [if_pos (.inr h2)]
    repeat' ((conv => whnf); first
      | refine Pure.call (f23_ok r hd) ?_ | refine boolF_not ?_ | refine boolF_decf (by assumption) ?_ | refine boolF_t (by assumption) ?_)
    all_goals (conv => whnf)
    exact ⟨stayB _ _ _⟩
  rw [if_neg (by simp only [h2, h1, not_true_eq_false, or_self, not_false_eq_true])]
  by_cases h3 : b.now.snap = 0
  · rw [if_pos h3]
    repeat' ((conv => whnf); first
      | refine And.intro (by decide) ?_ | refine And.intro rfl ?_ | refine And.intro (Nat.le_of_ble_eq_true rfl) ?_ | refine Pure.call (f23_ok r hd) ?_ | refine boolF_not ?_ | refine boolF_dect (by assumption) ?_ | refine boolF_decf (by assumption) ?_ | refine boolF_t (by assumption) ?_)
    all_goals (conv => whnf)
    refine Turns1.call (f24_at b i r ver hb.all) 0 rfl (fun _ => ?_)
    (conv => whnf)
    exact ⟨stayB _ _ _⟩
  rw [if_neg h3]
  by_cases h4 : i < b.now.count
  · rw [if_pos h4]
    repeat' ((conv => whnf); first
      | refine And.intro (by decide) ?_ | refine And.intro rfl ?_ | refine And.intro (Nat.le_of_ble_eq_true rfl) ?_ | refine Pure.call (f23_ok r hd) ?_ | refine boolF_not ?_ | refine boolF_dect (by assumption) ?_ | refine boolF_decf (by assumption) ?_ | refine boolF_t (by assumption) ?_)
    all_goals (conv => whnf)
    exact ⟨stayB _ _ _⟩
  rw [if_neg h4]
  by_cases h5 : b.now.count < i
  · rw [if_pos h5]
    repeat' ((conv => whnf); first
      | refine And.intro (by decide) ?_ | refine And.intro rfl ?_ | refine And.intro (Nat.le_of_ble_eq_true rfl) ?_ | refine Pure.call (f23_ok r hd) ?_ | refine boolF_not ?_ | refine boolF_dect (by assumption) ?_ | refine boolF_decf (by assumption) ?_ | refine boolF_t (by assumption) ?_)
    all_goals (conv => whnf)
    exact ⟨stayB _ _ _⟩
  rw [if_neg h5]
  by_cases h6 : r.kind_ = 2
  · rw [if_pos h6]
    repeat' ((conv => whnf); first
      | refine And.intro (by decide) ?_ | refine And.intro rfl ?_ | refine And.intro (Nat.le_of_ble_eq_true rfl) ?_ | refine Pure.call (f23_ok r hd) ?_ | refine boolF_not ?_ | refine boolF_dect (by assumption) ?_ | refine boolF_decf (by assumption) ?_ | refine boolF_t (by assumption) ?_)
    all_goals (conv => whnf)
    refine Turns1.call (f25_at b ⟨1, r.off_, 0, r.data_⟩ ver (by have := hb.v; omega) hd hb.c) 0 rfl (fun _ => ?_)
    (conv => whnf)
    exact ⟨stayB _ _ _⟩
  rw [if_neg h6]
  by_cases h7 : r.kind_ = 3
  · rw [if_pos h7]
    repeat' ((conv => whnf); first
      | refine And.intro (by decide) ?_ | refine And.intro rfl ?_ | refine And.intro (Nat.le_of_ble_eq_true rfl) ?_ | refine Pure.call (f23_ok r hd) ?_ | refine boolF_not ?_ | refine boolF_dect (by assumption) ?_ | refine boolF_decf (by assumption) ?_ | refine boolF_t (by assumption) ?_)
    all_goals (conv => whnf)
    refine CallsIn.wk (args' := [.p 0 ver 0 0, d69 ⟨2, r.off_, r.len_, []⟩]) ?_ (.cons .refl (.cons (.agg (.cons .refl (.cons .refl (.cons .refl (.cons .nils .nil))))) .nil))
    refine Turns1.call (f25_at b ⟨2, r.off_, r.len_, []⟩ ver (by have := hb.v; omega) (Nat.zero_le _) hb.c) 0 rfl (fun _ => ?_)
    (conv => whnf)
    exact ⟨stayB _ _ _⟩
  rw [if_neg h7]
  by_cases h8 : r.kind_ = 4
  case neg =>
    rw [if_neg (fun h => h8 h.1)]
    repeat' ((conv => whnf); first
      | refine And.intro (by decide) ?_ | refine And.intro rfl ?_ | refine And.intro (Nat.le_of_ble_eq_true rfl) ?_ | refine Pure.call (f23_ok r hd) ?_ | refine boolF_not ?_ | refine boolF_dect (by assumption) ?_ | refine boolF_decf (by assumption) ?_ | refine boolF_t (by assumption) ?_)
    all_goals (conv => whnf)
    exact ⟨stayB _ _ _⟩
  by_cases h9 : r.len_ = b.now.count - 1
  · rw [if_pos ⟨h8, h9⟩]
    have hc := hb.c
    repeat' ((conv => whnf); first
      | refine PairK.mk (by kernel_rfl) ?_ | refine And.intro (by decide) ?_ | refine And.intro rfl ?_ | refine And.intro (Nat.le_of_ble_eq_true rfl) ?_ | refine Exists.intro _ (And.intro (w64 (by omega) (by omega)) ?_) | refine Pure.call (f23_ok r hd) ?_ | refine boolF_not ?_ | refine boolF_dect (by assumption) ?_ | refine boolF_decf (by assumption) ?_ | refine boolF_t (by assumption) ?_)
    all_goals (conv => whnf)
    refine Turns1.call (f15_at ⟨b.now, b.now.snap, b.now.v, b.made, b.shard, b.version, b.sure⟩ ver) 0 rfl (fun _ => ?_)
    (conv => whnf)
    exact ⟨stayB _ _ _⟩
  · rw [if_neg (fun h => h9 h.2)]
    have hc := hb.c
    repeat' ((conv => whnf); first
      | refine PairK.mk (by kernel_rfl) ?_ | refine And.intro (by decide) ?_ | refine And.intro rfl ?_ | refine And.intro (Nat.le_of_ble_eq_true rfl) ?_ | refine Exists.intro _ (And.intro (w64 (by omega) (by omega)) ?_) | refine Pure.call (f23_ok r hd) ?_ | refine boolF_not ?_ | refine boolF_dect (by assumption) ?_ | refine boolF_decf (by assumption) ?_ | refine boolF_t (by assumption) ?_)
    all_goals (conv => whnf)
    exact ⟨stayB _ _ _⟩

theorem f13_nil (i : Int) (r : Rec) : Pure Try.prog 13 [.pnil, .int .i64 i, d26 r] (.int .i64 2) := by
  refine Pure.of ⟨trivial, trivial, scd26 _ _, trivial⟩ trivial ?_
  refine CallsIn.of_exec tab_ok mixed Try.func13 rfl rfl [] [] ?_
  repeat' ((conv => whnf); first
    | refine Pure.call (f21_nil) ?_)
  all_goals (conv => whnf)
  exact ⟨rfl⟩

end Go.Proofs.Ytjoeonhmejnkmaa

