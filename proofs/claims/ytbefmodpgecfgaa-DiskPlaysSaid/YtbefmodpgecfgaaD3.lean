import Derived.Test.YtbefmodpgecfgaaD2
namespace Go.Proofs.Ytbefmodpgecfgaa
open Go.A
set_option linter.unusedVariables false
set_option linter.unusedSimpArgs false
set_option linter.unnecessarySimpa false
attribute [local irreducible] IntKind.wrap bitsI
set_option maxRecDepth 100000
set_option maxHeartbeats 4000000

def zer (n : Nat) : List Nat := List.replicate n 0
def pad (l : List Nat) : List Nat := l ++ zer (64 - l.length)
def putC (i : Nat) (x : List Nat) : List (Nat × List Nat) → List (Nat × List Nat)
  | [] => [(i, x)]
  | y :: r => if y.1 = i then (i, x) :: r else y :: putC i x r
def findC (i : Nat) : List (Nat × List Nat) → Option (List Nat)
  | [] => none
  | y :: r => if y.1 = i then some y.2 else findC i r
theorem eqI (a b : Nat) : eq1 (.int .i64 (a : Int)) (.int .i64 (b : Int)) = decide (a = b) := by
  show ((a : Int) == (b : Int)) = _
  rw [Bool.eq_iff_iff, beq_iff_eq, decide_eq_true_eq]
  omega
theorem put_map (i : Nat) (x : List Nat) : ∀ l, mapPut (.int .i64 (i : Int)) (sD x) (l.map eD) = (putC i x l).map eD
  | [] => rfl
  | y :: r => by
    show (if eq1 (.int .i64 (i : Int)) (.int .i64 (y.1 : Int)) = true then _ else _) = _
    rw [eqI, putC]
    by_cases h : i = y.1
    · rw [if_pos (by simp [h]), if_pos h.symm]; rfl
    · rw [if_neg (by simp [h]), if_neg (fun e => h e.symm), put_map i x r]; rfl
theorem find_map (i : Nat) : ∀ l, mapFind (.int .i64 (i : Int)) (l.map eD) = (findC i l).map sD
  | [] => rfl
  | y :: r => by
    show (if eq1 (.int .i64 (i : Int)) (.int .i64 (y.1 : Int)) = true then _ else _) = _
    rw [eqI, findC]
    by_cases h : i = y.1
    · rw [if_pos (by simp [h]), if_pos h.symm]; rfl
    · rw [if_neg (by simp [h]), if_neg (fun e => h e.symm), find_map i r]
theorem keyOkC (i : Int) (l : List (Nat × List Nat)) : keyOk (.int .i64 i) (l.map eD) := ⟨.i64, rfl, fun x hx => by
  obtain ⟨p, _, rfl⟩ := List.mem_map.mp hx
  rfl⟩

theorem pad_splice {b : List Nat} (h : b.length ≤ 64) : spliceL ((zer 64).map r5) 0 ((b.map r5).take (min (b.map r5).length 64)) = (pad b).map r5 := by
  have e : min (b.map r5).length 64 = (b.map r5).length := by rw [List.length_map]; omega
  rw [e, List.take_of_length_le (Nat.le_refl _), spliceL, pad, List.map_append, List.take_zero, List.nil_append, Nat.zero_add, List.length_map]
  congr 1
  simp only [zer, List.map_replicate, List.drop_replicate]
theorem flat_sD (x : List Nat) : flat [sD x] = x.map r5 := by
  show x.map r5 ++ [] = _
  rw [List.append_nil]
theorem flat_r5 (x : List Nat) : flat (x.map r5) = x.map r5 := flat_one fun y hy => by
  obtain ⟨z, _, rfl⟩ := List.mem_map.mp hy; rfl
theorem pad_len {b : List Nat} (h : b.length ≤ 64) : (pad b).length = 64 := by simp [pad, zer]; omega

def writeM (s : Dk) (i : Int) (b : List Nat) : Int × Dk :=
  if ¬ (0 ≤ i ∧ i < s.plate.length) ∨ 64 < b.length then (1, s) else if (stepM s).1 = false then (8, (stepM s).2) else (0, { (stepM s).2 with cache := putC i.toNat (pad b) (stepM s).2.cache })
theorem f12_ok (s : Dk) (i : Int) (b : List Nat) (hs : OkK s) (hb : b.length ≤ 140737488351232) : TurnsK 12 [.int .i64 i, d34 b] s (.int .i64 (writeM s i b).1) (writeM s i b).2 := by
  refine TurnsK.of ⟨trivial, scr5 _ _, trivial⟩ ?_
  rw [writeM]
  refine CallsIn.of_execN 17 tab_ok mixed Try.func12 rfl rfl [] [true, false, false] ?_
  (conv => whnf)
  refine TurnsK.call (f31_ok s) 0 1 2 (by decide) trivial trivial rfl rfl rfl ?_
  (conv => whnf)
  refine TurnsK.call (f32_ok s i) 0 1 2 (by decide) ⟨trivial, trivial⟩ trivial rfl rfl rfl ?_
  by_cases h1 : 0 ≤ i ∧ i < s.plate.length
  case neg =>
    rw [if_pos (.inl h1)]
    repeat' ((conv => whnf); first
      | refine boolF_not ?_ | refine boolF_decf (by assumption) ?_)
    all_goals (conv => whnf)
    exact ⟨⟨_, _, Ghost.refl _ _ _, rfl, rfl⟩⟩
  by_cases h2 : 64 < b.length
  · rw [if_pos (.inr h2)]
    repeat' ((conv => whnf); first
      | refine Exists.intro _ (And.intro (⟨(List.length_map _).symm⟩) ?_) | refine boolF_not ?_ | refine boolF_dect (by assumption) ?_ | refine boolF_dect (by omega) ?_)
    all_goals (conv => whnf)
    exact ⟨⟨_, _, Ghost.refl _ _ _, rfl, rfl⟩⟩
  rw [if_neg (fun h => h.elim (fun h => h h1) h2)]
  have h33 := f33_ok s hs
  have hs' := stepM_ok hs
  obtain ⟨B, hB⟩ : ∃ B, B = stepM s := ⟨_, rfl⟩
  rw [← hB] at h33 hs' ⊢
  repeat' ((conv => whnf); first
    | refine Exists.intro _ (And.intro (⟨(List.length_map _).symm⟩) ?_) | refine boolF_not ?_ | refine boolF_dect (by assumption) ?_ | refine boolF_decf (by omega) ?_)
  all_goals (conv => whnf)
  refine TurnsK.call h33 0 1 2 (by decide) trivial trivial rfl rfl rfl ?_
  rcases bool_cases B.1 with hb1 | hb1
  case inr =>
    rw [if_pos hb1]
    repeat' ((conv => whnf); first
      | refine boolF_not ?_ | refine boolF_f (by assumption) ?_)
    all_goals (conv => whnf)
    exact ⟨⟨_, _, Ghost.refl _ _ _, rfl, rfl⟩⟩
  rw [if_neg (by simp [hb1])]
  repeat' ((conv => whnf); first
    | refine boolF_not ?_ | refine boolF_t (by assumption) ?_)
  all_goals (conv => whnf)
  refine W_ghost (Ghost.regroup 7 (i' := 0) (j' := 0) (sz' := 1) (rows' := (zer 64).map r5) rfl rfl rfl (by decide) (fun x hx => ?_) rfl (by decide) (by decide)) ?_
  · obtain ⟨y, _, rfl⟩ := List.mem_map.mp hx; rfl
  refine exec_ok tab_ok mixed 2 (bx := [true, false, false, false]) (own := []) ?_
  repeat' ((conv => whnf); first
    | refine And.intro (by decide) ?_ | refine And.intro (rows_map (fun _ => rfl) (fun _ => rfl)) ?_)
  all_goals (conv => whnf)
  refine W_ghost (Ghost.regroup 7 (i' := 0) (j' := 0) (sz' := 64) (rows' := [sD (pad b)]) rfl rfl ?_ (by decide) (fun x hx => ?_) rfl (Nat.zero_lt_one) (by decide)) ?_
  · rw [pad_splice (by omega), flat_sD, flat_r5]
  · simp only [List.mem_singleton] at hx; subst hx
    show ((pad b).map r5).length = 64
    rw [List.length_map]; exact pad_len (by omega)
  obtain ⟨m, rfl⟩ := Int.eq_ofNat_of_zero_le h1.1
  have hpl : ((pad b).map r5).length = 64 := by rw [List.length_map]; exact pad_len (by omega)
  refine exec_ok tab_ok mixed 1000 (bx := [true, false, false, true]) (own := []) ?_
  repeat' ((conv => whnf); first
    | refine PairK.mk (by kernel_rfl) ?_ | refine takeK_len hpl ?_ | refine And.intro (keyOkC _ _) ?_ | refine And.intro (by decide) ?_ | refine And.intro (Nat.le_of_ble_eq_true rfl) ?_)
  all_goals (conv => whnf)
  exact ⟨⟨_, _, Ghost.back [0] 3 rfl (by
    show [oS 1 2 B.2, oP B.2, AObj.map (mapPut (.int .i64 (m : Int)) (sD (pad b)) (B.2.cache.map eD))] = oK { B.2 with cache := putC m (pad b) B.2.cache }
    rw [put_map]; rfl) (Nat.le_refl _) ⟨trivial, trivial⟩ (oscK _), rfl, rfl⟩⟩

end Go.Proofs.Ytbefmodpgecfgaa

