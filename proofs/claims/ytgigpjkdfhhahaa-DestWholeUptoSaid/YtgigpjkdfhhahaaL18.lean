import Derived.Test.YtgigpjkdfhhahaaL9
-- merged
namespace Go.Proofs.Ytgigpjkdfhhahaa.L
open Go.A
set_option linter.unusedVariables false
set_option linter.unusedSimpArgs false
set_option linter.unnecessarySimpa false
attribute [local irreducible] IntKind.wrap bitsI
open B
set_option maxRecDepth 100000
set_option maxHeartbeats 4000000

theorem ownW_rn (p : List Nat × Int) : ∀ k ver o, Rn k ver o (p.1.map r56).length (ownW p k ver) (ownW p o 1) := fun k ver o => by
  rw [List.length_map]
  exact .tup (.cons .h (.cons (.refl trivial) .nil))

theorem endB {ver : Nat} {row : D} {rest : List AObj} {r : D} (b' : Bt) (F : List (Nat × AObj)) (hF : ∀ x ∈ F, 1 ≤ x.1 ∧ (AObj.arr ver 13 [row] :: rest)[x.1]? = some x.2 ∧ ∃ v sz rows, x.2 = .arr v sz rows) (hd : (F.map Prod.fst).Nodup)
    (hr : r.sc 0) (hz : Fzs F row.cells (cB b')) : Ghost 1 [r] (.arr ver 13 [row] :: rest) [r] [oB ver b'] := by
  have h0 : 0 ∉ F.map Prod.fst := fun h => by
    obtain ⟨x, hx, e⟩ := List.mem_map.mp h
    have := (hF x hx).1
    omega
  refine (Ghost.fz F [(0, oB ver b')] hF hd Fzs.all (fun x hx => ?_) (by simp)).trans (Ghost.back [0] 1 rfl ?_ (Nat.le_refl _) ⟨sc_le _ _ hr, trivial⟩ (fun ob hob => ?_))
  · simp only [List.mem_singleton] at hx; subst hx
    exact ⟨h0, ver, 13, [row], [.agg (cB b')], rfl, rfl, .cons hz .nil⟩
  · have e : (goneL (AObj.arr ver 13 [row] :: rest) F)[0]? = some (.arr ver 13 [row]) := goneL_ne F _ h0
    cases hG : goneL (AObj.arr ver 13 [row] :: rest) F with
    | nil => rw [hG] at e; simp at e
    | cons x l => rfl
  · simp only [List.mem_singleton] at hob; subst hob
    exact ⟨scB _ _, trivial⟩

theorem applyM1 {v : List Nat} {o : Op} (h : (applyM v [o]).2 = 0) : v.length ≤ 1024 ∧ okOp v.length o := by
  rw [applyM] at h
  split at h
  · cases h
  · split at h
    · rename_i h1 h2; exact ⟨by omega, h2 o List.mem_cons_self⟩
    · cases h

def doneM (b : Bt) (o : Op) : Bt × Int :=
  if (applyM b.now.v [o]).2 ≠ 0 ∨ o.off_ < b.now.behind then (b, 5)
  else (⟨⟨b.now.snap, b.now.count + 1, endOf o, (applyM b.now.v [o]).1⟩, b.there, b.all, b.made, b.shard, b.version, b.sure⟩, 0)

theorem f68_at (b : Bt) (o : Op) (ver : Nat) (hv : b.now.v.length ≤ 140737488351232) (ho : o.data_.length ≤ 140737488351232) (hc : 0 ≤ b.now.count ∧ b.now.count ≤ 1000000) :
    Turns1 Try.prog 68 (fun k => [.p k ver 0 0, d91 o]) (oB ver b) (fun _ _ => .int .i64 (doneM b o).2) (fun _ => oB ver (doneM b o).1) := by
  refine turnB ⟨scd91 _ _, trivial⟩ trivial ?_
  have h9 := f74_own b.now.v [o] hv (by simp) (fun x hx => by simp only [List.mem_singleton] at hx; subst hx; exact ho)
  obtain ⟨A, hA⟩ : ∃ A, A = applyM b.now.v [o] := ⟨_, rfl⟩
  have hA1 := applyM1 (v := b.now.v) (o := o)
  rw [doneM]
  rw [← hA] at h9 hA1 ⊢
  refine Go.A.CallsIn.of_exec tab_ok mixed Try.func68 rfl rfl [] [true] ?_
  repeat' ((conv => whnf); first
    | refine And.intro (by decide) ?_ | refine And.intro rfl ?_ | refine And.intro (Nat.le_of_ble_eq_true rfl) ?_)
  all_goals (conv => whnf)
  refine OwnedR.locK h9 (ownW_rn _) ?_
  by_cases h1 : A.2 = 0
  · obtain ⟨hv2, hok⟩ := hA1 h1
    have hd := dat_len hok
    have hoff := hok.2.2.1
    by_cases h2 : o.off_ < b.now.behind
    · rw [if_pos (.inr h2)]
      repeat' ((conv => whnf); first
        | refine PairK.mk (by kernel_rfl) ?_ | refine And.intro (by decide) ?_ | refine And.intro rfl ?_ | refine And.intro (Nat.le_of_ble_eq_true rfl) ?_ | refine boolF_not ?_ | refine boolF_dect (by assumption) ?_)
      all_goals (conv => whnf)
      exact ⟨⟨_, _, endB b [] (fun x hx => by cases hx) (by simp) trivial Fzs.all, rfl, rfl⟩⟩
    · rw [if_neg (by rintro (g | g); exact g h1; exact h2 g)]
      repeat' ((conv => whnf); first
        | refine PairK.mk (by kernel_rfl) ?_ | refine And.intro (by decide) ?_ | refine And.intro rfl ?_ | refine And.intro (Nat.le_of_ble_eq_true rfl) ?_ | refine Exists.intro _ (And.intro (w64 (by omega) (by omega)) ?_) | refine Pure.call (f75_ok _ ho) ?_ | refine boolF_not ?_ | refine boolF_dect (by assumption) ?_ | refine boolF_decf (by assumption) ?_)
      all_goals (conv => whnf)
      refine ⟨⟨_, _, endB _ [(1, .arr 1 1 (A.1.map r56))] ?_ (by simp) trivial ?_, rfl, rfl⟩⟩
      · intro x hx
        simp only [List.mem_singleton] at hx; subst hx
        exact ⟨Nat.le_refl _, rfl, _, _, _, rfl⟩
      · repeat (first | exact Fzs.nil | refine Fzs.cons .refl ?_ | refine Fzs.cons (.h mem0 .all (all_take rfl)) ?_)
  · rw [if_pos (.inl h1)]
    repeat' ((conv => whnf); first
      | refine PairK.mk (by kernel_rfl) ?_ | refine boolF_not ?_ | refine boolF_decf (by assumption) ?_)
    all_goals (conv => whnf)
    exact ⟨⟨_, _, endB b [] (fun x hx => by cases hx) (by simp) trivial Fzs.all, rfl, rfl⟩⟩

end Go.Proofs.Ytgigpjkdfhhahaa.L


namespace Go.Proofs.Ytgigpjkdfhhahaa.L
open Go.A
set_option linter.unusedVariables false
set_option linter.unusedSimpArgs false
set_option linter.unnecessarySimpa false
attribute [local irreducible] IntKind.wrap bitsI
open B
set_option maxRecDepth 100000
set_option maxHeartbeats 4000000

def zer (n : Nat) : List Nat := List.replicate n 0
def beginM (b : Bt) (i : Int) (r : Rec) : Bt × Int :=
  if i ≠ 0 then (b, 15) else if r.kind_ ≠ 1 then (b, 14) else if r.shard_ ≠ b.shard ∨ r.len_ ≠ (b.all.length : Int) then (b, 1) else if r.map_ ≠ b.version then (b, 13)
  else if r.snap_ = 0 ∨ r.snap_ = b.there then (b, 10) else if r.base_ ≠ 0 ∧ r.base_ ≠ b.there then (b, 12)
  else (⟨⟨r.snap_, 1, 0, if r.base_ = 0 then zer b.all.length else b.all⟩, b.there, b.all, b.made, b.shard, b.version, b.sure⟩, 0)

theorem f67_at (b : Bt) (i : Int) (r : Rec) (ver : Nat) (hv : b.all.length ≤ 1024) :
    Turns1 Try.prog 67 (fun k => [.p k ver 0 0, .int .i64 i, d44 r]) (oB ver b) (fun _ _ => .int .i64 (beginM b i r).2) (fun _ => oB ver (beginM b i r).1) := by
  refine turnB ⟨trivial, scd44 _ _, trivial⟩ trivial ?_
  have h32 := f71_ok b.all (by omega) (by omega)
  rw [beginM]
  refine Go.A.CallsIn.of_exec tab_ok mixed Try.func67 rfl rfl [] [true] ?_
  by_cases h1 : i = 0
  case neg =>
    rw [if_pos h1]
    repeat' ((conv => whnf); first
      | refine boolF_not ?_ | refine boolF_decf (by assumption) ?_)
    all_goals (conv => whnf)
    exact ⟨⟨_, _, endB b [] (fun x hx => by cases hx) (by simp) trivial Fzs.all, rfl, rfl⟩⟩
  rw [if_neg (by simp [h1])]
  by_cases h2 : r.kind_ = 1
  case neg =>
    rw [if_pos h2]
    repeat' ((conv => whnf); first
      | refine boolF_not ?_ | refine boolF_dect (by assumption) ?_ | refine boolF_decf (by assumption) ?_)
    all_goals (conv => whnf)
    exact ⟨⟨_, _, endB b [] (fun x hx => by cases hx) (by simp) trivial Fzs.all, rfl, rfl⟩⟩
  rw [if_neg (by simp [h2])]
  by_cases h3 : r.shard_ ≠ b.shard ∨ r.len_ ≠ (b.all.length : Int)
  · rw [if_pos h3]
    rcases h3 with h3 | h3
    · repeat' ((conv => whnf); first
        | refine PairK.mk (by kernel_rfl) ?_ | refine And.intro (by decide) ?_ | refine And.intro rfl ?_ | refine And.intro (Nat.le_of_ble_eq_true rfl) ?_ | refine boolF_not ?_ | refine boolF_dect (by assumption) ?_ | refine boolF_decf (by assumption) ?_)
      all_goals (conv => whnf)
      exact ⟨⟨_, _, endB b [] (fun x hx => by cases hx) (by simp) trivial Fzs.all, rfl, rfl⟩⟩
    · repeat' ((conv => whnf); first
        | refine PairK.mk (by kernel_rfl) ?_ | refine And.intro (by decide) ?_ | refine And.intro rfl ?_ | refine And.intro (Nat.le_of_ble_eq_true rfl) ?_ | refine Exists.intro _ (And.intro (⟨(List.length_map _).symm⟩) ?_) | refine boolF_not ?_ | refine boolF_dect (by assumption) ?_ | refine boolF_decf (by assumption) ?_ | refine boolF_dec (fun _ => ?_) (fun _ => ?_))
      all_goals (conv => whnf)
      all_goals exact ⟨⟨_, _, endB b [] (fun x hx => by cases hx) (by simp) trivial Fzs.all, rfl, rfl⟩⟩
  rw [if_neg h3]
  have h3a : r.shard_ = b.shard := by omega
  have h3b : r.len_ = (b.all.length : Int) := by omega
  clear h3
  by_cases h4 : r.map_ = b.version
  case neg =>
    rw [if_pos h4]
    repeat' ((conv => whnf); first
      | refine PairK.mk (by kernel_rfl) ?_ | refine And.intro (by decide) ?_ | refine And.intro rfl ?_ | refine And.intro (Nat.le_of_ble_eq_true rfl) ?_ | refine Exists.intro _ (And.intro (⟨(List.length_map _).symm⟩) ?_) | refine boolF_not ?_ | refine boolF_dect (by assumption) ?_ | refine boolF_decf (by assumption) ?_)
    all_goals (conv => whnf)
    exact ⟨⟨_, _, endB b [] (fun x hx => by cases hx) (by simp) trivial Fzs.all, rfl, rfl⟩⟩
  rw [if_neg (by simp [h4])]
  by_cases h5 : r.snap_ = 0 ∨ r.snap_ = b.there
  · rw [if_pos h5]
    rcases h5 with h5 | h5
    · repeat' ((conv => whnf); first
        | refine PairK.mk (by kernel_rfl) ?_ | refine And.intro (by decide) ?_ | refine And.intro rfl ?_ | refine And.intro (Nat.le_of_ble_eq_true rfl) ?_ | refine Exists.intro _ (And.intro (⟨(List.length_map _).symm⟩) ?_) | refine boolF_not ?_ | refine boolF_dect (by assumption) ?_)
      all_goals (conv => whnf)
      exact ⟨⟨_, _, endB b [] (fun x hx => by cases hx) (by simp) trivial Fzs.all, rfl, rfl⟩⟩
    · repeat' ((conv => whnf); first
        | refine PairK.mk (by kernel_rfl) ?_ | refine And.intro (by decide) ?_ | refine And.intro rfl ?_ | refine And.intro (Nat.le_of_ble_eq_true rfl) ?_ | refine Exists.intro _ (And.intro (⟨(List.length_map _).symm⟩) ?_) | refine boolF_not ?_ | refine boolF_dect (by assumption) ?_ | refine boolF_dec (fun _ => ?_) (fun _ => ?_))
      all_goals (conv => whnf)
      all_goals exact ⟨⟨_, _, endB b [] (fun x hx => by cases hx) (by simp) trivial Fzs.all, rfl, rfl⟩⟩
  rw [if_neg h5]
  have h5a : r.snap_ ≠ 0 := by omega
  have h5b : r.snap_ ≠ b.there := by omega
  clear h5
  by_cases h6 : r.base_ = 0
  · rw [if_neg (by simp [h6]), if_pos h6]
    repeat' ((conv => whnf); first
      | refine PairK.mk (by kernel_rfl) ?_ | refine And.intro (by decide) ?_ | refine And.intro rfl ?_ | refine And.intro (Nat.le_of_ble_eq_true rfl) ?_ | refine Exists.intro _ (And.intro (⟨(List.length_map _).symm⟩) ?_) | refine boolF_not ?_ | refine boolF_dect (by assumption) ?_ | refine boolF_decf (by assumption) ?_)
    all_goals (conv => whnf)
    refine Owned.locN h32 b.all.length (by rw [List.length_map]) ?_
    repeat' ((conv => whnf); first
      | refine PairK.mk (by kernel_rfl) ?_ | refine And.intro (by decide) ?_ | refine And.intro rfl ?_ | refine And.intro (Nat.le_of_ble_eq_true rfl) ?_ | refine boolF_dect (by assumption) ?_)
    all_goals (conv => whnf)
    have e : spliceL (b.all.map r56) 0 (List.replicate b.all.length (D.int .u64 0)) = (zer b.all.length).map r56 := by simp [spliceL, zer, r56, d56]
    refine ⟨⟨_, _, endB _ [(1, .arr 1 1 (spliceL (b.all.map r56) 0 (List.replicate b.all.length (D.int .u64 0))))] ?_ (by simp) trivial ?_, rfl, rfl⟩⟩
    · intro x hx
      simp only [List.mem_singleton] at hx; subst hx
      exact ⟨Nat.le_refl _, rfl, _, _, _, rfl⟩
    · repeat (first | exact Fzs.nil | refine Fzs.cons .refl ?_ | refine Fzs.cons (.h mem0 .all (by rw [e]; exact all_take (by simp [zer]))) ?_)
  · by_cases h7 : r.base_ = b.there
    · rw [if_neg (by simp [h7]), if_neg h6]
      repeat' ((conv => whnf); first
        | refine PairK.mk (by kernel_rfl) ?_ | refine And.intro (by decide) ?_ | refine And.intro rfl ?_ | refine And.intro (Nat.le_of_ble_eq_true rfl) ?_ | refine Exists.intro _ (And.intro (⟨(List.length_map _).symm⟩) ?_) | refine boolF_not ?_ | refine boolF_dect (by assumption) ?_ | refine boolF_decf (by assumption) ?_)
      all_goals (conv => whnf)
      refine Owned.locN h32 b.all.length (by rw [List.length_map]) ?_
      repeat' ((conv => whnf); first
        | refine PairK.mk (by kernel_rfl) ?_ | refine And.intro (by decide) ?_ | refine And.intro rfl ?_ | refine And.intro (Nat.le_of_ble_eq_true rfl) ?_ | refine boolF_decf (by assumption) ?_)
      all_goals (conv => whnf)
      refine ⟨⟨_, _, endB _ [(1, .arr 1 1 (b.all.map r56))] ?_ (by simp) trivial ?_, rfl, rfl⟩⟩
      · intro x hx
        simp only [List.mem_singleton] at hx; subst hx
        exact ⟨Nat.le_refl _, rfl, _, _, _, rfl⟩
      · repeat (first | exact Fzs.nil | refine Fzs.cons .refl ?_ | refine Fzs.cons (.h mem0 .all (all_take rfl)) ?_)
    · rw [if_pos ⟨h6, h7⟩]
      repeat' ((conv => whnf); first
        | refine PairK.mk (by kernel_rfl) ?_ | refine And.intro (by decide) ?_ | refine And.intro rfl ?_ | refine And.intro (Nat.le_of_ble_eq_true rfl) ?_ | refine Exists.intro _ (And.intro (⟨(List.length_map _).symm⟩) ?_) | refine boolF_not ?_ | refine boolF_dect (by assumption) ?_ | refine boolF_decf (by assumption) ?_)
      all_goals (conv => whnf)
      exact ⟨⟨_, _, endB b [] (fun x hx => by cases hx) (by simp) trivial Fzs.all, rfl, rfl⟩⟩

end Go.Proofs.Ytgigpjkdfhhahaa.L


namespace Go.Proofs.Ytgigpjkdfhhahaa.L
open Go.A
set_option linter.unusedVariables false
set_option linter.unusedSimpArgs false
set_option linter.unnecessarySimpa false
attribute [local irreducible] IntKind.wrap bitsI
open B
set_option maxRecDepth 100000
set_option maxHeartbeats 4000000

def landB (b : Bt) : Bt := dropB ⟨b.now, b.now.snap, b.now.v, b.made, b.shard, b.version, b.sure⟩
def takeM (b : Bt) (i : Int) (r : Rec) : Bt × Int :=
  if b.made = false then (b, 2) else if i < 0 ∨ ¬ mayR r then (b, 1) else if b.now.snap = 0 then beginM b i r
  else if i < b.now.count then (b, 10) else if b.now.count < i then (b, 15)
  else if r.kind_ = 2 then doneM b ⟨1, r.off_, 0, r.data_⟩ else if r.kind_ = 3 then doneM b ⟨2, r.off_, r.len_, []⟩
  else if r.kind_ = 4 ∧ r.len_ = b.now.count - 1 then (landB b, 0) else (b, 5)

structure OkB (b : Bt) : Prop where
  all : b.all.length ≤ 1024
  v : b.now.v.length ≤ 1024
  c : 0 ≤ b.now.count ∧ b.now.count ≤ 1000000

theorem stayB (ver : Nat) (b : Bt) (e : Int) : ∃ r'' H'', Ghost 1 [D.int .i64 e] [oB ver b] [r''] H'' ∧ r'' = D.int .i64 e ∧ H'' = [oB ver b] := ⟨_, _, Ghost.refl _ _ _, rfl, rfl⟩

theorem f43_at (b : Bt) (i : Int) (r : Rec) (ver : Nat) (hb : OkB b) (hd : r.data_.length ≤ 140737488351232) :
    Turns1 Try.prog 43 (fun k => [.p k ver 0 0, .int .i64 i, d44 r]) (oB ver b) (fun _ _ => .int .i64 (takeM b i r).2) (fun _ => oB ver (takeM b i r).1) := by
  refine turnB ⟨trivial, scd44 _ _, trivial⟩ trivial ?_
  have h21 := f65_ok b
  rw [takeM]
  refine Go.A.CallsIn.of_exec tab_ok mixed Try.func43 rfl rfl [] [true] ?_
  (conv => whnf)
  refine Pure.seeK h21 [(0, oB ver b)] (fact1 rfl) (.cons (seeB _ ver b List.mem_cons_self) .nil) trivial trivial ?_
  rcases bool_cases b.made with hm | hm
  case inr =>
    rw [if_pos hm]
    repeat' ((conv => whnf); first
      | refine boolF_not ?_ | refine boolF_f (by assumption) ?_)
    all_goals (conv => whnf)
    exact ⟨stayB _ _ _⟩
  rw [if_neg (by simp [hm])]
  by_cases h1 : i < 0
  · rw [if_pos (.inl h1)]
    repeat' ((conv => whnf); first
      | refine boolF_not ?_ | refine boolF_dect (by assumption) ?_ | refine boolF_t (by assumption) ?_)
    all_goals (conv => whnf)
    exact ⟨stayB _ _ _⟩
  by_cases h2 : mayR r
  case neg =>
    rw [if_pos (.inr h2)]
    repeat' ((conv => whnf); first
      | refine Pure.call (f66_ok r hd) ?_ | refine boolF_not ?_ | refine boolF_decf (by assumption) ?_ | refine boolF_t (by assumption) ?_)
    all_goals (conv => whnf)
    exact ⟨stayB _ _ _⟩
  rw [if_neg (by simp only [h2, h1, not_true_eq_false, or_self, not_false_eq_true])]
  by_cases h3 : b.now.snap = 0
  · rw [if_pos h3]
    repeat' ((conv => whnf); first
      | refine And.intro (by decide) ?_ | refine And.intro rfl ?_ | refine And.intro (Nat.le_of_ble_eq_true rfl) ?_ | refine Pure.call (f66_ok r hd) ?_ | refine boolF_not ?_ | refine boolF_dect (by assumption) ?_ | refine boolF_decf (by assumption) ?_ | refine boolF_t (by assumption) ?_)
    all_goals (conv => whnf)
    refine Turns1.call (f67_at b i r ver hb.all) 0 rfl (fun _ => ?_)
    (conv => whnf)
    exact ⟨stayB _ _ _⟩
  rw [if_neg h3]
  by_cases h4 : i < b.now.count
  · rw [if_pos h4]
    repeat' ((conv => whnf); first
      | refine And.intro (by decide) ?_ | refine And.intro rfl ?_ | refine And.intro (Nat.le_of_ble_eq_true rfl) ?_ | refine Pure.call (f66_ok r hd) ?_ | refine boolF_not ?_ | refine boolF_dect (by assumption) ?_ | refine boolF_decf (by assumption) ?_ | refine boolF_t (by assumption) ?_)
    all_goals (conv => whnf)
    exact ⟨stayB _ _ _⟩
  rw [if_neg h4]
  by_cases h5 : b.now.count < i
  · rw [if_pos h5]
    repeat' ((conv => whnf); first
      | refine And.intro (by decide) ?_ | refine And.intro rfl ?_ | refine And.intro (Nat.le_of_ble_eq_true rfl) ?_ | refine Pure.call (f66_ok r hd) ?_ | refine boolF_not ?_ | refine boolF_dect (by assumption) ?_ | refine boolF_decf (by assumption) ?_ | refine boolF_t (by assumption) ?_)
    all_goals (conv => whnf)
    exact ⟨stayB _ _ _⟩
  rw [if_neg h5]
  by_cases h6 : r.kind_ = 2
  · rw [if_pos h6]
    repeat' ((conv => whnf); first
      | refine And.intro (by decide) ?_ | refine And.intro rfl ?_ | refine And.intro (Nat.le_of_ble_eq_true rfl) ?_ | refine Pure.call (f66_ok r hd) ?_ | refine boolF_not ?_ | refine boolF_dect (by assumption) ?_ | refine boolF_decf (by assumption) ?_ | refine boolF_t (by assumption) ?_)
    all_goals (conv => whnf)
    refine Turns1.call (f68_at b ⟨1, r.off_, 0, r.data_⟩ ver (by have := hb.v; omega) hd hb.c) 0 rfl (fun _ => ?_)
    (conv => whnf)
    exact ⟨stayB _ _ _⟩
  rw [if_neg h6]
  by_cases h7 : r.kind_ = 3
  · rw [if_pos h7]
    repeat' ((conv => whnf); first
      | refine And.intro (by decide) ?_ | refine And.intro rfl ?_ | refine And.intro (Nat.le_of_ble_eq_true rfl) ?_ | refine Pure.call (f66_ok r hd) ?_ | refine boolF_not ?_ | refine boolF_dect (by assumption) ?_ | refine boolF_decf (by assumption) ?_ | refine boolF_t (by assumption) ?_)
    all_goals (conv => whnf)
    refine Go.A.CallsIn.wk (args' := [.p 0 ver 0 0, d91 ⟨2, r.off_, r.len_, []⟩]) ?_ (.cons .refl (.cons (.agg (.cons .refl (.cons .refl (.cons .refl (.cons .nils .nil))))) .nil))
    refine Turns1.call (f68_at b ⟨2, r.off_, r.len_, []⟩ ver (by have := hb.v; omega) (Nat.zero_le _) hb.c) 0 rfl (fun _ => ?_)
    (conv => whnf)
    exact ⟨stayB _ _ _⟩
  rw [if_neg h7]
  by_cases h8 : r.kind_ = 4
  case neg =>
    rw [if_neg (fun h => h8 h.1)]
    repeat' ((conv => whnf); first
      | refine And.intro (by decide) ?_ | refine And.intro rfl ?_ | refine And.intro (Nat.le_of_ble_eq_true rfl) ?_ | refine Pure.call (f66_ok r hd) ?_ | refine boolF_not ?_ | refine boolF_dect (by assumption) ?_ | refine boolF_decf (by assumption) ?_ | refine boolF_t (by assumption) ?_)
    all_goals (conv => whnf)
    exact ⟨stayB _ _ _⟩
  by_cases h9 : r.len_ = b.now.count - 1
  · rw [if_pos ⟨h8, h9⟩]
    have hc := hb.c
    repeat' ((conv => whnf); first
      | refine PairK.mk (by kernel_rfl) ?_ | refine And.intro (by decide) ?_ | refine And.intro rfl ?_ | refine And.intro (Nat.le_of_ble_eq_true rfl) ?_ | refine Exists.intro _ (And.intro (w64 (by omega) (by omega)) ?_) | refine Pure.call (f66_ok r hd) ?_ | refine boolF_not ?_ | refine boolF_dect (by assumption) ?_ | refine boolF_decf (by assumption) ?_ | refine boolF_t (by assumption) ?_)
    all_goals (conv => whnf)
    refine Turns1.call (f50_at ⟨b.now, b.now.snap, b.now.v, b.made, b.shard, b.version, b.sure⟩ ver) 0 rfl (fun _ => ?_)
    (conv => whnf)
    exact ⟨stayB _ _ _⟩
  · rw [if_neg (fun h => h9 h.2)]
    have hc := hb.c
    repeat' ((conv => whnf); first
      | refine PairK.mk (by kernel_rfl) ?_ | refine And.intro (by decide) ?_ | refine And.intro rfl ?_ | refine And.intro (Nat.le_of_ble_eq_true rfl) ?_ | refine Exists.intro _ (And.intro (w64 (by omega) (by omega)) ?_) | refine Pure.call (f66_ok r hd) ?_ | refine boolF_not ?_ | refine boolF_dect (by assumption) ?_ | refine boolF_decf (by assumption) ?_ | refine boolF_t (by assumption) ?_)
    all_goals (conv => whnf)
    exact ⟨stayB _ _ _⟩

theorem f43_nil (i : Int) (r : Rec) : Pure Try.prog 43 [.pnil, .int .i64 i, d44 r] (.int .i64 2) := by
  refine Pure.of ⟨trivial, trivial, scd44 _ _, trivial⟩ trivial ?_
  refine Go.A.CallsIn.of_exec tab_ok mixed Try.func43 rfl rfl [] [] ?_
  repeat' ((conv => whnf); first
    | refine Pure.call (f65_nil) ?_)
  all_goals (conv => whnf)
  exact ⟨rfl⟩

end Go.Proofs.Ytgigpjkdfhhahaa.L


namespace Go.Proofs.Ytgigpjkdfhhahaa.L
open Go.A
set_option linter.unusedVariables false
set_option linter.unusedSimpArgs false
set_option linter.unnecessarySimpa false
attribute [local irreducible] IntKind.wrap bitsI
open B
set_option maxRecDepth 100000
set_option maxHeartbeats 4000000

def newB (s v n : Int) : Bt := ⟨cm0, 0, zer n.toNat, true, s, v, cm0⟩
def newD (o ver : Nat) : D := .tup [.p o ver 0 0, .int .i64 0]
def newOk (s v n : Int) : Prop := 0 ≤ s ∧ 0 ≤ v ∧ 0 ≤ n ∧ n ≤ 1024
instance (s v n : Int) : Decidable (newOk s v n) := inferInstanceAs (Decidable (_ ∧ _ ∧ _ ∧ _))

theorem newEnd {w v0 : Nat} {rows0 : List D} {row : D} (b : Bt) (hz : Fzs [(0, .arr v0 1 rows0)] row.cells (cB b)) :
    ∃ ver, Ghost 0 [.tup [.p 1 w 0 0, .int .i64 0]] [.arr v0 1 rows0, .arr w 13 [row]] [newD 0 ver] [.arr ver 13 [.agg (cB b)]] := by
  refine ⟨w, (Ghost.fz [(0, .arr v0 1 rows0)] [(1, oB w b)] (fun x hx => ?_) (by simp) Fzs.all (fun x hx => ?_) (by simp)).trans (Ghost.pick [1] (by simp) rfl (fun i o ob' h1 h2 => ?_) rfl ⟨⟨Nat.zero_lt_one, trivial, trivial⟩, trivial⟩ (fun ob hob => ?_))⟩
  · simp only [List.mem_singleton] at hx; subst hx
    exact ⟨Nat.zero_le _, rfl, _, _, _, rfl⟩
  · simp only [List.mem_singleton] at hx; subst hx
    exact ⟨by simp, w, 13, [row], [.agg (cB b)], rfl, rfl, .cons hz .nil⟩
  · cases i with
    | zero =>
      simp at h1 h2; subst h1 h2
      rw [renO_sc0 _ (by exact ⟨scB _ _, trivial⟩)]; rfl
    | succ i => simp at h1
  · simp only [List.mem_singleton] at hob; subst hob
    exact ⟨scB _ _, trivial⟩

theorem f56_own (s v n : Int) (h : newOk s v n) : OwnedR Try.prog 56 [.int .i64 s, .int .i64 v, .int .i64 n] newD 13 [.agg (cB (newB s v n))] := by
  refine OwnedR.of ⟨trivial, trivial, trivial, trivial⟩ ⟨scB _ _, trivial⟩ (fun _ _ => rfl) ?_
  obtain ⟨h1, h2, h3, h4⟩ := h
  obtain ⟨m, rfl⟩ := Int.eq_ofNat_of_zero_le h3
  refine Go.A.CallsIn.of_exec tab_ok mixed Try.func56 rfl rfl [28] [] ?_
  repeat' ((conv => whnf); first
    | refine And.intro (show ((8 : Nat) : Int) * (m : Int) ≤ 281474976710656 by omega) ?_ | refine And.intro rfl ?_ | refine And.intro (by omega) ?_ | refine boolF_decf (by omega) ?_)
  all_goals (conv => whnf)
  exact ⟨newEnd _ (by
    have e : List.replicate m (D.int .u64 0) = (zer m).map r56 := by rw [zer, List.map_replicate]; rfl
    repeat (first | exact Fzs.nil | refine Fzs.cons .refl ?_ | refine Fzs.cons .nils ?_ | refine Fzs.cons (show Fz [(0, .arr 0 1 (List.replicate m (D.int .u64 0)))] (.h 0 0 0 m) (.sl ((zer m).map r56)) from .h mem0 .all (by rw [e]; exact all_take (by simp [zer]))) ?_))⟩

theorem f56_bad (s v n : Int) (h : ¬ newOk s v n) : Pure Try.prog 56 [.int .i64 s, .int .i64 v, .int .i64 n] (.tup [.pnil, .int .i64 1]) := by
  refine Pure.of ⟨trivial, trivial, trivial, trivial⟩ ⟨trivial, trivial, trivial⟩ ?_
  refine Go.A.CallsIn.of_exec tab_ok mixed Try.func56 rfl rfl [] [] ?_
  simp only [newOk] at h
  repeat' ((conv => whnf); first
    | refine boolF_dect (by omega) ?_ | refine boolF_dec (fun _ => ?_) (fun _ => ?_))
  all_goals (conv => whnf)
  all_goals (first | exact ⟨rfl⟩ | (exfalso; omega))

end Go.Proofs.Ytgigpjkdfhhahaa.L


namespace Go.Proofs.Ytgigpjkdfhhahaa.L
open Go.A
set_option linter.unusedVariables false
set_option linter.unusedSimpArgs false
set_option linter.unnecessarySimpa false
attribute [local irreducible] IntKind.wrap bitsI
open B
set_option maxRecDepth 100000
set_option maxHeartbeats 4000000

def sm0 : Rec := ⟨1, 0, 1, 0, 0, 0, 4, []⟩
def sm1 : Rec := ⟨2, 0, 0, 0, 0, 2, 0, [5]⟩
def sm2 : Rec := ⟨4, 0, 0, 0, 0, 0, 1, []⟩
def smL : List Rec := [sm0, sm1, sm2]
def sb0 : Bt := newB 0 0 4
def sb1 : Bt := ⟨⟨1, 1, 0, [0, 0, 0, 0]⟩, 0, [0, 0, 0, 0], true, 0, 0, cm0⟩
def sb2 : Bt := ⟨⟨1, 2, 3, [0, 0, 5, 0]⟩, 0, [0, 0, 0, 0], true, 0, 0, cm0⟩
def sb3 : Bt := ⟨cm0, 1, [0, 0, 5, 0], true, 0, 0, cm0⟩
theorem st0 : takeM sb0 0 sm0 = (sb1, 0) := by rfl
theorem st1 : takeM sb1 1 sm1 = (sb2, 0) := by rfl
theorem st2 : takeM sb2 2 sm2 = (sb3, 0) := by rfl

def sbs (i : Nat) : Bt := if i = 0 then sb0 else if i = 1 then sb1 else if i = 2 then sb2 else sb3
theorem st_at {i : Nat} (h : i < 3) : ∃ r, smL[i]? = some r ∧ takeM (sbs i) (i : Int) r = (sbs (i + 1), 0) ∧ OkB (sbs i) ∧ r.data_.length ≤ 140737488351232 := by
  match i, h with
  | 0, _ => exact ⟨sm0, rfl, st0, ⟨by decide, by decide, by decide, by decide⟩, by decide⟩
  | 1, _ => exact ⟨sm1, rfl, st1, ⟨by decide, by decide, by decide, by decide⟩, by decide⟩
  | 2, _ => exact ⟨sm2, rfl, st2, ⟨by decide, by decide, by decide, by decide⟩, by decide⟩
theorem rd3 : readB sb3 2 1 = ([5], 0) := by rfl

theorem seeBo (o n : Nat) (ver : Nat) (b : Bt) {F : List (Nat × AObj)} (hF : (o, oB ver b) ∈ F) : Sees 0 (fun i => n + i) F (.p o ver 0 0) (.pe (cB b)) := .p hF (.all ⟨scB _ _, trivial⟩) rfl rfl
theorem readC {b : Bt} {ver o : Nat} {H : List AObj} {off n : Int} {p : List Nat × Int} (ho : H[o]? = some (oB ver b)) (hv : b.all.length ≤ 140737488351232) (hp : readB b off n = p) {K : D → List AObj → Prop}
    (hk : ∀ w, lenK H 0 fun o' => snocK H (.arr w 1 (p.1.map r56)) fun H' => K (ownW p o' w) H') : Go.A.CallsIn Try.prog 42 [.p o ver 0 0, .int .i64 off, .int .i64 n] H K := by
  subst hp
  exact OwnedR.seeK (f42_own b off n hv) [(o, oB ver b)] (fact1 ho) (.cons (seeBo o _ ver b List.mem_cons_self) (.cons (.same trivial) (.cons (.same trivial) .nil))) (bares_map fun x => trivial) (fun v => ⟨trivial, trivial, trivial⟩) hk
theorem comingC {b : Bt} {ver o : Nat} {H : List AObj} (ho : H[o]? = some (oB ver b)) (hm : b.made = true) {K : D → List AObj → Prop}
    (hk : K (.tup [.int .i64 b.now.snap, .int .i64 b.now.count]) H) : Go.A.CallsIn Try.prog 53 [.p o ver 0 0] H K :=
  Pure.seeK (f53_ok b) [(o, oB ver b)] (fact1 ho) (.cons (seeBo o _ ver b List.mem_cons_self) .nil) ⟨trivial, trivial, trivial⟩ ⟨trivial, trivial, trivial⟩ (by rw [if_pos hm, if_pos hm]; exact hk)
theorem snapC {b : Bt} {ver o : Nat} {H : List AObj} (ho : H[o]? = some (oB ver b)) (hm : b.made = true) {K : D → List AObj → Prop}
    (hk : K (.int .i64 b.there) H) : Go.A.CallsIn Try.prog 41 [.p o ver 0 0] H K :=
  Pure.seeK (f41_ok b) [(o, oB ver b)] (fact1 ho) (.cons (seeBo o _ ver b List.mem_cons_self) .nil) trivial trivial (by rw [if_pos hm]; exact hk)
theorem snapL {b : Bt} {ver o : Nat} {H : List AObj} (ho : H[o]? = some (oB ver b)) (hm : b.made = true) {bx : List Bool} {X : D → List Nat → List (Nat × AObj) → List AObj → List Bool → Prop}
    (hx : X (.int .i64 b.there) [o] [] H bx) : LocK Try.prog 41 [.p o ver 0 0] H bx X :=
  Pure.seeL (f41_ok b) [(o, oB ver b)] (fact1 ho) (fun n => .cons (seeBo o n ver b List.mem_cons_self) .nil) trivial trivial (by rw [if_pos hm]; exact hx)


end Go.Proofs.Ytgigpjkdfhhahaa.L


namespace Go.Proofs.Ytgigpjkdfhhahaa.L
open Go.A
set_option linter.unusedVariables false
set_option linter.unusedSimpArgs false
set_option linter.unnecessarySimpa false
attribute [local irreducible] IntKind.wrap bitsI
open B
set_option maxRecDepth 100000
set_option maxHeartbeats 4000000

def CmOk (n : Nat) (c : Cm) : Prop := c = cm0 ∨ (c.snap ≠ 0 ∧ 1 ≤ c.count ∧ c.count ≤ 1 + c.behind ∧ 0 ≤ c.behind ∧ c.behind ≤ (n : Int) ∧ c.v.length = n)
structure InvB (s v : Int) (n : Nat) (b : Bt) : Prop where
  made : b.made = true
  n1 : n ≤ 1024
  all : b.all.length = n
  now : CmOk n b.now
  sure : CmOk n b.sure
  shard : b.shard = s
  version : b.version = v

theorem InvB.ok {s v n b} (h : InvB s v n b) : OkB b := by
  have h1 := h.n1
  refine ⟨by have := h.all; omega, ?_, ?_⟩
  · rcases h.now with e | e
    · rw [e]; decide
    · omega
  · rcases h.now with e | e
    · rw [e]; decide
    · omega
theorem inv_new {s v n : Int} (h : newOk s v n) : InvB s v n.toNat (newB s v n) :=
  ⟨rfl, by have := h.2.2; omega, by simp [newB, zer], .inl rfl, .inl rfl, rfl, rfl⟩
theorem inv_drop {s v n b} (h : InvB s v n b) : InvB s v n (dropB b) := by
  rw [dropB, if_pos h.made]
  exact ⟨h.made, h.n1, h.all, .inl rfl, .inl rfl, h.shard, h.version⟩
theorem inv_sync {s v n b} (h : InvB s v n b) : InvB s v n (syncB b) := by
  rw [syncB, if_pos h.made]
  exact ⟨h.made, h.n1, h.all, h.now, h.now, h.shard, h.version⟩
theorem inv_crash {s v n b} (h : InvB s v n b) : InvB s v n (crashB b) := by
  rw [crashB, if_pos h.made]
  exact ⟨h.made, h.n1, h.all, h.sure, h.sure, h.shard, h.version⟩
theorem inv_begin {s v n b} (h : InvB s v n b) (i : Int) (r : Rec) : InvB s v n (beginM b i r).1 := by
  unfold beginM
  repeat (split; exact h)
  rename_i g _
  refine ⟨h.made, h.n1, h.all, .inr ⟨fun e => g (.inl e), Int.le_refl _, show (1 : Int) ≤ 1 + 0 by omega, Int.le_refl _, show (0 : Int) ≤ n by omega, ?_⟩, h.sure, h.shard, h.version⟩
  dsimp only
  split
  · simp [zer, h.all]
  · exact h.all
theorem applyM_at {v : List Nat} {o : Op} (h1 : v.length ≤ 1024) (h2 : okOp v.length o) : applyM v [o] = (doO v o, 0) := by
  have h3 : allOk v.length [o] := fun x hx => by simp only [List.mem_singleton] at hx; subst hx; exact h2
  rw [applyM, if_neg (by omega), if_pos h3]; rfl
theorem inv_done {s v n b} (h : InvB s v n b) (h0 : b.now.snap ≠ 0) (o : Op) : InvB s v n (doneM b o).1 := by
  unfold doneM
  split
  · exact h
  · rename_i g
    have g1 : (applyM b.now.v [o]).2 = 0 := Classical.byContradiction fun e => g (.inl e)
    have g2 : ¬ o.off_ < b.now.behind := fun e => g (.inr e)
    obtain ⟨h1, h2⟩ := applyM1 g1
    rcases h.now with e | ⟨e1, e2, e3, e4, e5, e6⟩
    · rw [e] at h0; exact absurd rfl h0
    · have hd := dat_len h2
      have hl := (do_at h2).1
      refine ⟨h.made, h.n1, h.all, .inr ⟨h0, ?_, ?_, ?_, ?_, ?_⟩, h.sure, h.shard, h.version⟩
      · show 1 ≤ b.now.count + 1; omega
      · show b.now.count + 1 ≤ 1 + endOf o; rw [endOf]; omega
      · show 0 ≤ endOf o; rw [endOf]; omega
      · show endOf o ≤ n; rw [endOf]; omega
      · show (applyM b.now.v [o]).1.length = n
        rw [applyM_at h1 h2, hl, e6]
theorem inv_land {s v n b} (h : InvB s v n b) (h0 : b.now.snap ≠ 0) : InvB s v n (landB b) := by
  refine inv_drop (b := ⟨b.now, b.now.snap, b.now.v, b.made, b.shard, b.version, b.sure⟩) ⟨h.made, h.n1, ?_, h.now, h.sure, h.shard, h.version⟩
  rcases h.now with e | e
  · rw [e] at h0; exact absurd rfl h0
  · exact e.2.2.2.2.2
theorem inv_take {s v n b} (h : InvB s v n b) (i : Int) (r : Rec) : InvB s v n (takeM b i r).1 := by
  unfold takeM
  split
  · exact h
  split
  · exact h
  split
  · exact inv_begin h i r
  rename_i h0
  split
  · exact h
  split
  · exact h
  split
  · exact inv_done h h0 _
  split
  · exact inv_done h h0 _
  split
  · exact inv_land h h0
  · exact h

theorem begin_bad {b : Bt} {i : Int} {r : Rec} (h : (beginM b i r).2 ≠ 0) : (beginM b i r).1 = b := by
  unfold beginM at h ⊢
  repeat (split; rfl)
  rename_i g1 g2 g3 g4 g5 g6
  rw [if_neg g1, if_neg g2, if_neg g3, if_neg g4, if_neg g5, if_neg g6] at h
  exact absurd rfl h
theorem done_bad {b : Bt} {o : Op} (h : (doneM b o).2 ≠ 0) : (doneM b o).1 = b := by
  unfold doneM at h ⊢
  split
  · rfl
  · rename_i g
    rw [if_neg g] at h
    exact absurd rfl h
theorem take_bad {b : Bt} {i : Int} {r : Rec} (h : (takeM b i r).2 ≠ 0) : (takeM b i r).1 = b := by
  unfold takeM at h ⊢
  split
  · rfl
  rename_i g1
  rw [if_neg g1] at h
  split
  · rfl
  rename_i g2
  rw [if_neg g2] at h
  split
  · rename_i g3
    rw [if_pos g3] at h
    exact begin_bad h
  rename_i g3
  rw [if_neg g3] at h
  split
  · rfl
  rename_i g4
  rw [if_neg g4] at h
  split
  · rfl
  rename_i g5
  rw [if_neg g5] at h
  split
  · rename_i g6
    rw [if_pos g6] at h
    exact done_bad h
  rename_i g6
  rw [if_neg g6] at h
  split
  · rename_i g7
    rw [if_pos g7] at h
    exact done_bad h
  rename_i g7
  rw [if_neg g7] at h
  split
  · rename_i g8
    rw [if_pos g8] at h
    exact absurd rfl h
  · rfl

end Go.Proofs.Ytgigpjkdfhhahaa.L


namespace Go.Proofs.Ytgigpjkdfhhahaa.L
open Go.A
set_option linter.unusedVariables false
set_option linter.unusedSimpArgs false
set_option linter.unnecessarySimpa false
attribute [local irreducible] IntKind.wrap bitsI
open B
set_option maxRecDepth 100000
set_option maxHeartbeats 4000000

theorem read_all {b : Bt} {n : Nat} (h1 : b.made = true) (h2 : b.all.length = n) (hn : n ≤ 1024) : readB b 0 (n : Int) = (b.all, 0) := by
  rw [readB, if_pos h1, readM, if_neg (by omega), if_pos ⟨Int.le_refl _, by omega, by omega, by omega⟩, Int.toNat_natCast, Int.toNat_zero, List.drop_zero, List.take_of_length_le (by omega)]
theorem begin_ok {b : Bt} {i : Int} {r : Rec} (h : (beginM b i r).2 = 0) : r.kind_ = 1 ∧ r.shard_ = b.shard ∧ r.len_ = (b.all.length : Int) ∧ r.map_ = b.version ∧ r.snap_ ≠ 0 ∧ r.snap_ ≠ b.there ∧ (r.base_ = 0 ∨ r.base_ = b.there) := by
  unfold beginM at h
  split at h
  · cases h
  split at h
  · cases h
  split at h
  · cases h
  split at h
  · cases h
  split at h
  · cases h
  split at h
  · cases h
  omega
theorem begin_there {b : Bt} {i : Int} {r : Rec} : (beginM b i r).1.there = b.there := by
  unfold beginM
  repeat (split; rfl)
  rfl

theorem take0_ok {b : Bt} {r : Rec} (h : (takeM b 0 r).2 = 0) (h0 : b.now.snap = 0) : takeM b 0 r = beginM b 0 r := by
  unfold takeM at h ⊢
  split at h
  · cases h
  rename_i g1
  rw [if_neg g1]
  split at h
  · cases h
  rename_i g2
  rw [if_neg g2, if_pos h0]

end Go.Proofs.Ytgigpjkdfhhahaa.L


namespace Go.Proofs.Ytgigpjkdfhhahaa.L
open Go.A
set_option linter.unusedVariables false
set_option linter.unusedSimpArgs false
set_option linter.unnecessarySimpa false
attribute [local irreducible] IntKind.wrap bitsI
open B
set_option maxRecDepth 100000

/-- A stream that fits. -/
structure Stream (n : Nat) (h : Rec) (ops : List Op) : Prop where
  k : h.kind_ = 1
  len : h.len_ = (n : Int)
  n1 : n ≤ 1024
  snap : h.snap_ ≠ 0
  may : allMay (strmL h ops)
  fit : fits h.len_ 0 (ops.map recOf)

theorem build_ok {h : Rec} {ops : List Op} {n : Nat} (hl : h.len_ = (n : Int)) (hn : n ≤ 1024) (hs : h.snap_ ≠ 0) (h0 : (buildM h ops).2 = 0) : (buildM h ops).1 = strmL h ops ∧ Stream n h ops := by
  unfold buildM at h0 ⊢
  split at h0
  · cases h0
  · rename_i g1
    rw [if_neg g1]
    split at h0
    · rename_i g2
      rw [if_pos g2]
      refine ⟨rfl, ?_⟩
      unfold checkM at g2
      split at g2
      · cases g2
      · rename_i g3
        split at g2
        · cases g2
        · split at g2
          · rename_i g4 g5
            exact ⟨by omega, hl, hn, hs, Classical.byContradiction g3, g5⟩
          · cases g2
    · rename_i g2
      exact absurd h0 g2

theorem Stream.mayAt {n h ops} (s : Stream n h ops) {o : Op} (ho : o ∈ ops) : mayR (recOf o) :=
  s.may _ (List.mem_cons_of_mem _ (List.mem_append_left _ (List.mem_map_of_mem ho)))
theorem opOf_rec {o : Op} (h : mayR (recOf o)) : opOf (recOf o) = o ∧ ((recOf o).kind_ = 2 ∧ o = ⟨1, o.off_, 0, o.data_⟩ ∨ (recOf o).kind_ = 3 ∧ o = ⟨2, o.off_, o.len_, []⟩) := by
  have hk := h.2
  obtain ⟨k, off, len, data⟩ := o
  simp only [kindOk, recOf, kd] at hk
  by_cases h1 : k = 1
  · subst h1
    rw [if_pos rfl] at hk
    have hlen : len = 0 := by omega
    subst hlen
    refine ⟨?_, .inl ⟨rfl, rfl⟩⟩
    rfl
  · rw [if_neg h1] at hk
    by_cases h2 : k = 2
    · subst h2
      rw [if_pos rfl] at hk
      have hd : data.length = 0 := by omega
      obtain rfl := List.length_eq_zero_iff.mp hd
      refine ⟨?_, .inr ⟨rfl, rfl⟩⟩
      rfl
    · rw [if_neg h2] at hk
      omega

def bhF (b : Int) (l : List Op) : Int := match l.getLast? with | none => b | some o => endOf o
theorem bhF_cons (b : Int) (o : Op) (l : List Op) : bhF b (o :: l) = bhF (endOf o) l := by
  cases l with
  | nil => rfl
  | cons x l => simp [bhF, List.getLast?_cons]
theorem bhF_snoc (b : Int) (o : Op) (l : List Op) : bhF b (l ++ [o]) = endOf o := by simp [bhF]
theorem fits_at {n : Int} : ∀ {ops : List Op} {b : Int}, (∀ o ∈ ops, opOf (recOf o) = o) → fits n b (ops.map recOf) → ∀ (k : Nat) (o : Op), ops[k]? = some o → okOp n o ∧ bhF b (ops.take k) ≤ o.off_
  | [], _, _, _, k, o, hk => by simp at hk
  | x :: ops, b, he, hf, k, o, hk => by
    simp only [List.map_cons, fits] at hf
    rw [he x List.mem_cons_self] at hf
    cases k with
    | zero => simp at hk; subst hk; exact ⟨hf.1, hf.2.1⟩
    | succ k =>
      have := fits_at (fun o ho => he o (List.mem_cons_of_mem _ ho)) hf.2.2 k o (by simpa using hk)
      rw [List.take_succ_cons, bhF_cons]
      exact this

theorem Stream.at {n h ops} (s : Stream n h ops) {k : Nat} {o : Op} (hk : ops[k]? = some o) : okOp n o ∧ bhF 0 (ops.take k) ≤ o.off_ := by
  have := fits_at (fun o ho => (opOf_rec (s.mayAt ho)).1) s.fit k o hk
  rw [s.len] at this
  exact this
theorem Stream.allOk {n h ops} (s : Stream n h ops) : B.allOk n ops := fun o ho => by
  obtain ⟨k, hk⟩ := List.getElem?_of_mem ho
  exact (s.at hk).1
theorem Stream.app {n h ops} (s : Stream n h ops) {v0 : List Nat} (hv : v0.length = n) (k : Nat) : (applyL v0 (ops.take k)).length = n := by
  rw [← hv]
  exact (apply_at (fun o ho => by rw [hv]; exact s.allOk o (List.mem_of_mem_take ho))).1

/-- So far taken. -/
def partC (h : Rec) (ops : List Op) (v0 : List Nat) (j : Nat) : Cm := ⟨h.snap_, (j : Int), bhF 0 (ops.take (j - 1)), applyL v0 (ops.take (j - 1))⟩
theorem recAt0 (h : Rec) (ops : List Op) : (strmL h ops)[0]? = some h := rfl
theorem recAti (h : Rec) {ops : List Op} {j : Nat} {o : Op} (hj : ops[j]? = some o) : (strmL h ops)[j + 1]? = some (recOf o) := by
  rw [strmL, List.getElem?_cons_succ, List.getElem?_append_left (by rw [List.length_map]; exact (List.getElem?_eq_some_iff.mp hj).1), List.getElem?_map, hj]; rfl
theorem recAtn (h : Rec) (ops : List Op) : (strmL h ops)[ops.length + 1]? = some (tailR ops.length) := by
  rw [strmL, List.getElem?_cons_succ]; simp
theorem strm_len (h : Rec) (ops : List Op) : (strmL h ops).length = ops.length + 2 := by simp [strmL]

theorem take_first {n h ops} (s : Stream n h ops) {b : Bt} (hm : b.made = true) (hall : b.all.length = n) (hnow : b.now = cm0) (hsh : h.shard_ = b.shard) (hmap : h.map_ = b.version) (hth : h.snap_ ≠ b.there) (hba : h.base_ = 0 ∨ h.base_ = b.there) :
    takeM b 0 h = (⟨partC h ops (if h.base_ = 0 then zer b.all.length else b.all) 1, b.there, b.all, b.made, b.shard, b.version, b.sure⟩, 0) := by
  have hmay := s.may h List.mem_cons_self
  rw [takeM, if_neg (by simp [hm]), if_neg (by simp [hmay]), if_pos (by rw [hnow]; rfl)]
  have h3 := s.snap
  have h4 := s.k
  have h5 := s.len
  rw [beginM, if_neg (by decide), if_neg (by simp [h4]), if_neg (by omega), if_neg (by simp [hmap]), if_neg (by omega), if_neg (by omega)]
  rfl
theorem take_mid {n h ops} (s : Stream n h ops) {b : Bt} {v0 : List Nat} (hv : v0.length = n) {j : Nat} {o : Op} (ho : ops[j]? = some o) (hm : b.made = true) (hnow : b.now = partC h ops v0 (j + 1)) :
    takeM b ((j + 1 : Nat) : Int) (recOf o) = (⟨partC h ops v0 (j + 2), b.there, b.all, b.made, b.shard, b.version, b.sure⟩, 0) := by
  have hmem := List.mem_of_getElem? ho
  have hmay := s.mayAt hmem
  obtain ⟨hok, hbh⟩ := s.at ho
  have hlen := s.app hv j
  have hts : ops.take (j + 1) = ops.take j ++ [o] := by rw [List.take_add_one, ho]; rfl
  have hdone : doneM b o = (⟨partC h ops v0 (j + 2), b.there, b.all, b.made, b.shard, b.version, b.sure⟩, 0) := by
    have hnv : b.now.v = applyL v0 (ops.take j) := by rw [hnow]; rfl
    have ha : applyM b.now.v [o] = (doO (applyL v0 (ops.take j)) o, 0) := by
      rw [hnv]
      exact applyM_at (by rw [hlen]; exact s.n1) (by rw [hlen]; exact hok)
    have hb : ¬ o.off_ < b.now.behind := by rw [hnow]; exact Int.not_lt.mpr hbh
    rw [doneM, ha, if_neg (by rintro (g | g); exact g rfl; exact hb g), hnow]
    simp only [partC, Nat.add_sub_cancel, show j + 2 - 1 = j + 1 from rfl]
    rw [hts, bhF_snoc, applyL, applyL, List.foldl_append]
    rfl
  have hsn : b.now.snap ≠ 0 := by rw [hnow]; exact s.snap
  have hct : b.now.count = ((j + 1 : Nat) : Int) := by rw [hnow]; rfl
  rw [takeM, if_neg (by simp [hm]), if_neg (by rintro (g | g); omega; exact g hmay), if_neg hsn, if_neg (by omega), if_neg (by omega)]
  obtain ⟨_, ⟨k2, e⟩ | ⟨k3, e⟩⟩ := opOf_rec hmay
  · rw [if_pos k2]
    have : (⟨1, (recOf o).off_, 0, (recOf o).data_⟩ : Op) = o := e.symm
    rw [this, hdone]
  · rw [if_neg (by omega), if_pos k3]
    have : (⟨2, (recOf o).off_, (recOf o).len_, []⟩ : Op) = o := e.symm
    rw [this, hdone]
theorem take_tail {n h ops} (s : Stream n h ops) {b : Bt} {v0 : List Nat} (hm : b.made = true) (hnow : b.now = partC h ops v0 (ops.length + 1)) :
    takeM b ((ops.length + 1 : Nat) : Int) (tailR ops.length) = (⟨cm0, h.snap_, applyL v0 ops, b.made, b.shard, b.version, cm0⟩, 0) := by
  have hmay : mayR (tailR ops.length) := s.may _ (List.mem_cons_of_mem _ (List.mem_append_right _ List.mem_cons_self))
  have hsn : b.now.snap ≠ 0 := by rw [hnow]; exact s.snap
  have hct : b.now.count = ((ops.length + 1 : Nat) : Int) := by rw [hnow]; rfl
  rw [takeM, if_neg (by simp [hm]), if_neg (by rintro (g | g); omega; exact g hmay), if_neg hsn, if_neg (by omega), if_neg (by omega), if_neg (by show ¬ (4 : Int) = 2; decide), if_neg (by show ¬ (4 : Int) = 3; decide),
    if_pos ⟨rfl, by rw [hct]; show (ops.length : Int) = _; omega⟩]
  rw [landB, dropB, if_pos hm, hnow]
  simp [partC]
theorem take_not {b : Bt} {i : Int} {r : Rec} (hm : b.made = true) (hr : mayR r) (hi : 0 ≤ i) (h : b.now.snap = 0 ∧ i ≠ 0 ∨ b.now.snap ≠ 0 ∧ i ≠ b.now.count) : (takeM b i r).1 = b ∧ (takeM b i r).2 ≠ 0 ∧ (i < b.now.count → b.now.snap ≠ 0 → (takeM b i r).2 = 10) := by
  rw [takeM, if_neg (by simp [hm]), if_neg (by rintro (g | g); omega; exact g hr)]
  rcases h with ⟨h1, h2⟩ | ⟨h1, h2⟩
  · rw [if_pos h1, beginM, if_pos h2]
    exact ⟨rfl, show (15 : Int) ≠ 0 by decide, fun _ g => absurd h1 g⟩
  · rw [if_neg h1]
    split
    · exact ⟨rfl, show (10 : Int) ≠ 0 by decide, fun _ _ => rfl⟩
    · rw [if_pos (by omega)]
      exact ⟨rfl, show (15 : Int) ≠ 0 by decide, fun g => by omega⟩

end Go.Proofs.Ytgigpjkdfhhahaa.L


namespace Go.Proofs.Ytgigpjkdfhhahaa.L
open Go.A
set_option linter.unusedVariables false
set_option linter.unusedSimpArgs false
set_option linter.unnecessarySimpa false
attribute [local irreducible] IntKind.wrap bitsI
open B
set_option maxRecDepth 100000
set_option maxHeartbeats 4000000

/-- A stream of one snapshot, told by what is there. -/
def stAt (h : Rec) (ops : List Op) (v0 : List Nat) (th : Int) (all : List Nat) (j : Nat) : Bt := if j = 0 then ⟨cm0, th, all, true, h.shard_, h.map_, cm0⟩ else if j ≤ ops.length + 1 then ⟨partC h ops v0 j, th, all, true, h.shard_, h.map_, cm0⟩ else ⟨cm0, h.snap_, applyL v0 ops, true, h.shard_, h.map_, cm0⟩
theorem st_step {n h ops} (s : Stream n h ops) {th : Int} {all : List Nat} (hall : all.length = n) (hth : h.snap_ ≠ th) (hba : h.base_ = 0 ∨ h.base_ = th) {j : Nat} (hj : j < ops.length + 2) :
    ∃ r, (strmL h ops)[j]? = some r ∧ takeM (stAt h ops (if h.base_ = 0 then zer n else all) th all j) (j : Int) r = (stAt h ops (if h.base_ = 0 then zer n else all) th all (j + 1), 0) := by
  have hv : (if h.base_ = 0 then zer n else all).length = n := by
    split
    · simp [zer]
    · exact hall
  obtain ⟨v0, hv0⟩ : ∃ v0, v0 = (if h.base_ = 0 then zer n else all) := ⟨_, rfl⟩
  rcases Nat.eq_zero_or_pos j with rfl | hpos
  · refine ⟨h, rfl, ?_⟩
    have := take_first s (b := stAt h ops (if h.base_ = 0 then zer n else all) th all 0) rfl hall rfl rfl rfl hth hba
    rw [show ((0 : Nat) : Int) = 0 from rfl, this]
    simp [stAt, hall]
  · rw [← hv0] at hv ⊢
    obtain ⟨k, rfl⟩ : ∃ k, j = k + 1 := ⟨j - 1, by omega⟩
    rcases Nat.lt_or_ge k ops.length with hk | hk
    · obtain ⟨o, ho⟩ := at_lt hk
      refine ⟨recOf o, recAti h ho, ?_⟩
      have e1 : stAt h ops v0 th all (k + 1) = ⟨partC h ops v0 (k + 1), th, all, true, h.shard_, h.map_, cm0⟩ := by rw [stAt, if_neg (by omega), if_pos (by omega)]
      have e2 : stAt h ops v0 th all (k + 1 + 1) = ⟨partC h ops v0 (k + 2), th, all, true, h.shard_, h.map_, cm0⟩ := by rw [stAt, if_neg (by omega), if_pos (by omega)]
      rw [e1, e2]
      exact take_mid s hv ho rfl rfl
    · obtain rfl : k = ops.length := by omega
      refine ⟨tailR ops.length, recAtn h ops, ?_⟩
      have e1 : stAt h ops v0 th all (ops.length + 1) = ⟨partC h ops v0 (ops.length + 1), th, all, true, h.shard_, h.map_, cm0⟩ := by rw [stAt, if_neg (by omega), if_pos (by omega)]
      have e2 : stAt h ops v0 th all (ops.length + 1 + 1) = ⟨cm0, h.snap_, applyL v0 ops, true, h.shard_, h.map_, cm0⟩ := by rw [stAt, if_neg (by omega), if_neg (by omega)]
      rw [e1, e2]
      exact take_tail s rfl rfl

end Go.Proofs.Ytgigpjkdfhhahaa.L

