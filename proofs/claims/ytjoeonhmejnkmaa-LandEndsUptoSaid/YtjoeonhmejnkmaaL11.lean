import Derived.Test.YtjoeonhmejnkmaaL7
-- merged
namespace Go.Proofs.Ytjoeonhmejnkmaa
open Go.A
set_option linter.unusedVariables false
set_option linter.unusedSimpArgs false
set_option linter.unnecessarySimpa false
attribute [local irreducible] IntKind.wrap bitsI
open B
set_option maxRecDepth 100000
set_option maxHeartbeats 4000000

def readM (v : List Nat) (off n : Int) : List Nat × Int := if 1024 < v.length then ([], 6) else if 0 ≤ off ∧ 0 ≤ n ∧ n ≤ v.length ∧ off ≤ v.length - n then ((v.drop off.toNat).take n.toNat, 0) else ([], 1)

theorem f22_own (v : List Nat) (off n : Int) (hv : v.length ≤ 140737488351232) : OwnW 22 [d24 v, .int .i64 off, .int .i64 n] (readM v off n) := by
  refine OwnedR.of ⟨scd24 _ _, trivial, trivial, trivial⟩ (scr63 _ _) (ownW_res _) ?_
  refine CallsIn.of_exec tab_ok mixed Try.func22 rfl rfl [] [] ?_
  by_cases hb : 1024 < v.length
  · rw [readM, if_pos hb]
    repeat' ((conv => whnf); first
      | refine Exists.intro _ (And.intro (⟨(List.length_map _).symm⟩) ?_) | refine boolF_dect (by omega) ?_)
    all_goals (conv => whnf)
    exact ⟨ownW_err 6 _⟩
  · rw [readM, if_neg hb]
    by_cases hl : 0 ≤ off ∧ 0 ≤ n ∧ n ≤ v.length ∧ off ≤ v.length - n
    · rw [if_pos hl]
      obtain ⟨a, rfl⟩ := Int.eq_ofNat_of_zero_le hl.1
      obtain ⟨c, rfl⟩ := Int.eq_ofNat_of_zero_le hl.2.1
      have hlen : ((v.drop a).take (a + c - a)).length ≤ 1024 := by rw [List.length_take, List.length_drop]; omega
      have h22 := f32_ok ((v.drop a).take (a + c - a)) (by omega) (by omega)
      repeat' ((conv => whnf); first
        | refine Exists.intro a (Exists.intro (a + c) (And.intro ⟨rfl⟩ (And.intro ⟨rfl⟩ (And.intro (by omega) (And.intro (by omega) ?_))))) | refine And.intro (cells_map (fun _ => rfl)) ?_ | refine Exists.intro _ (And.intro (⟨(List.length_map _).symm⟩) ?_) | refine Exists.intro _ (And.intro (⟨map_slice⟩) ?_) | refine Exists.intro _ (And.intro (w64 (by omega) (by omega)) ?_) | refine Pure.call (f31_ok _ _ _ (by omega)) ?_ | refine boolF_not ?_ | refine boolF_dect (by assumption) ?_ | refine boolF_decf (by omega) ?_)
      all_goals (conv => whnf)
      refine Owned.callN h22 _ (by rw [List.length_map]) (fun v1 => ?_)
      (conv => whnf)
      have e : (v.drop ((a : Int)).toNat).take ((c : Int)).toNat = (v.drop a).take (a + c - a) := by
        rw [Int.toNat_natCast, Int.toNat_natCast, Nat.add_sub_cancel_left]
      rw [e]
      exact ⟨ownW_ok 0 _ 0 v1 _ _ rfl rfl⟩
    · rw [if_neg hl]
      repeat' ((conv => whnf); first
        | refine Exists.intro _ (And.intro (⟨(List.length_map _).symm⟩) ?_) | refine Pure.call (f31_ok _ _ _ (by omega)) ?_ | refine boolF_not ?_ | refine boolF_decf (by assumption) ?_ | refine boolF_decf (by omega) ?_)
      all_goals (conv => whnf)
      exact ⟨ownW_err 1 _⟩

/-- What comes. -/
structure Cm where
  snap : Int
  count : Int
  behind : Int
  v : List Nat
def cm0 : Cm := ⟨0, 0, 0, []⟩
/-- A berth. -/
structure Bt where
  now : Cm
  there : Int
  all : List Nat
  made : Bool
  shard : Int
  version : Int
  sure : Cm
def cC (c : Cm) : List D := [.int .i64 c.snap, .int .i64 c.count, .int .i64 c.behind, d24 c.v]
def cB (b : Bt) : List D := [.int .i64 b.now.snap, .int .i64 b.now.count, .int .i64 b.now.behind, d24 b.now.v, .int .i64 b.there, d24 b.all, .bool b.made, .int .i64 b.shard, .int .i64 b.version,
  .int .i64 b.sure.snap, .int .i64 b.sure.count, .int .i64 b.sure.behind, d24 b.sure.v]
def oB (ver : Nat) (b : Bt) : AObj := .arr ver 13 [.agg (cB b)]
theorem scB (k : Nat) (b : Bt) : scs k (cB b) := ⟨trivial, trivial, trivial, scd24 _ _, trivial, scd24 _ _, trivial, trivial, trivial, trivial, trivial, trivial, scd24 _ _, trivial⟩

theorem f21_ok (b : Bt) : Pure Try.prog 21 [.pe (cB b)] (.bool b.made) := by
  refine Pure.of ⟨scB _ _, trivial⟩ trivial ?_
  refine CallsIn.of_exec tab_ok mixed Try.func21 rfl rfl [] [] ?_
  (conv => whnf)
  exact ⟨rfl⟩
theorem f21_nil : Pure Try.prog 21 [.pnil] (.bool false) := by
  refine Pure.of ⟨trivial, trivial⟩ trivial ?_
  refine CallsIn.of_exec tab_ok mixed Try.func21 rfl rfl [] [] ?_
  (conv => whnf)
  exact ⟨rfl⟩

theorem f10_ok (b : Bt) : Pure Try.prog 10 [.pe (cB b)] (.tup [.int .i64 (if b.made then b.now.snap else 0), .int .i64 (if b.made then b.now.count else 0)]) := by
  refine Pure.of ⟨scB _ _, trivial⟩ ⟨trivial, trivial, trivial⟩ ?_
  refine CallsIn.of_exec tab_ok mixed Try.func10 rfl rfl [] [] ?_
  cases hm : b.made
  all_goals
    have h21 := f21_ok b
    rw [hm] at h21
  · repeat' ((conv => whnf); first
      | refine Pure.call (f21_ok b) ?_ | refine boolF_not ?_ | refine boolF_f (by assumption) ?_)
    all_goals (conv => whnf)
    exact ⟨rfl⟩
  · repeat' ((conv => whnf); first
      | refine PairK.mk (by kernel_rfl) ?_ | refine Pure.call (f21_ok b) ?_ | refine boolF_not ?_ | refine boolF_t (by assumption) ?_)
    all_goals (conv => whnf)
    exact ⟨rfl⟩

theorem f10_nil : Pure Try.prog 10 [.pnil] (.tup [.int .i64 0, .int .i64 0]) := by
  refine Pure.of ⟨trivial, trivial⟩ ⟨trivial, trivial, trivial⟩ ?_
  refine CallsIn.of_exec tab_ok mixed Try.func10 rfl rfl [] [] ?_
  repeat' ((conv => whnf); first
    | refine Pure.call (f21_nil) ?_)
  all_goals (conv => whnf)
  exact ⟨rfl⟩
theorem f11_ok (b : Bt) : Pure Try.prog 11 [.pe (cB b)] (.int .i64 (if b.made then b.there else 0)) := by
  refine Pure.of ⟨scB _ _, trivial⟩ trivial ?_
  refine CallsIn.of_exec tab_ok mixed Try.func11 rfl rfl [] [] ?_
  cases hm : b.made
  all_goals
    have h21 := f21_ok b
    rw [hm] at h21
  · repeat' ((conv => whnf); first
      | refine Pure.call (f21_ok b) ?_ | refine boolF_not ?_ | refine boolF_f (by assumption) ?_)
    all_goals (conv => whnf)
    exact ⟨rfl⟩
  · repeat' ((conv => whnf); first
      | refine Pure.call (f21_ok b) ?_ | refine boolF_not ?_ | refine boolF_t (by assumption) ?_)
    all_goals (conv => whnf)
    exact ⟨rfl⟩
theorem f11_nil : Pure Try.prog 11 [.pnil] (.int .i64 0) := by
  refine Pure.of ⟨trivial, trivial⟩ trivial ?_
  refine CallsIn.of_exec tab_ok mixed Try.func11 rfl rfl [] [] ?_
  repeat' ((conv => whnf); first
    | refine Pure.call (f21_nil) ?_)
  all_goals (conv => whnf)
  exact ⟨rfl⟩
def readB (b : Bt) (off n : Int) : List Nat × Int := if b.made then readM b.all off n else ([], 2)
theorem f12_own (b : Bt) (off n : Int) (hv : b.all.length ≤ 140737488351232) : OwnW 12 [.pe (cB b), .int .i64 off, .int .i64 n] (readB b off n) := by
  refine OwnedR.of ⟨scB _ _, trivial, trivial, trivial⟩ (scr63 _ _) (ownW_res _) ?_
  refine CallsIn.of_exec tab_ok mixed Try.func12 rfl rfl [] [] ?_
  have h21 := f21_ok b
  rw [readB]
  cases hm : b.made
  all_goals rw [hm] at h21
  · repeat' ((conv => whnf); first
      | refine Pure.call (f21_ok b) ?_ | refine boolF_not ?_ | refine boolF_f (by assumption) ?_)
    all_goals (conv => whnf)
    exact ⟨ownW_err 2 _⟩
  · rw [if_pos rfl]
    have h22 := f22_own b.all off n hv
    obtain ⟨A, hA⟩ : ∃ A, A = readM b.all off n := ⟨_, rfl⟩
    rw [← hA] at h22 ⊢
    repeat' ((conv => whnf); first
      | refine Pure.call (f21_ok b) ?_ | refine boolF_not ?_ | refine boolF_t (by assumption) ?_)
    all_goals (conv => whnf)
    refine OwnedR.call h22 (fun v1 => ?_)
    (conv => whnf)
    exact ⟨ownW_ok _ _ 0 v1 _ _ rfl rfl⟩
theorem f12_nil (off n : Int) : Pure Try.prog 12 [.pnil, .int .i64 off, .int .i64 n] (.tup [d24 [], .int .i64 2]) := by
  refine Pure.ofT ⟨trivial, trivial, trivial, trivial⟩ ⟨scd24 _ _, trivial, trivial⟩ ?_
  refine CallsIn.of_exec tab_ok mixed Try.func12 rfl rfl [] [] ?_
  repeat' ((conv => whnf); first
    | refine Pure.call (f21_nil) ?_)
  all_goals (conv => whnf)
  exact ⟨Told.wk (.tup (.cons .nils (.cons .refl .nil)))⟩

end Go.Proofs.Ytjoeonhmejnkmaa


namespace Go.Proofs.Ytjoeonhmejnkmaa
open Go.A
set_option linter.unusedVariables false
set_option linter.unusedSimpArgs false
set_option linter.unnecessarySimpa false
attribute [local irreducible] IntKind.wrap bitsI
open B
set_option maxRecDepth 100000
set_option maxHeartbeats 4000000

theorem turnB {f : FuncId} {xs : List D} {b b' : Bt} {r : D} {ver : Nat} (hx : scs 0 xs) (hr : r.sc 0)
    (h : CallsIn Try.prog f (.p 0 ver 0 0 :: xs) [oB ver b] fun r' H' => ∃ r'' H'', Ghost 1 [r'] H' [r''] H'' ∧ r'' = r ∧ H'' = [oB ver b']) :
    Turns1 Try.prog f (fun k => .p k ver 0 0 :: xs) (oB ver b) (fun _ _ => r) (fun _ => oB ver b') where
  arg := fun ρ => by simp only [renL, ren]; rw [renL_sc0 ρ _ hx]
  res := fun ρ v => ren_sc0 ρ _ hr
  asc := ⟨Nat.zero_lt_one, scs_le _ _ hx⟩
  osc := ⟨scB _ _, trivial⟩
  ores := fun ρ v => renO_sc0 ρ (by exact ⟨scB _ _, trivial⟩)
  calls := CallsIn.ghost (h.mono fun r' H' ⟨r'', H'', g, e1, e2⟩ => ⟨r'', H'', g, 0, e1, e2⟩)

theorem bool_cases (x : Bool) : x = true ∨ x = false := by cases x <;> simp
theorem seeB (n : Nat) (ver : Nat) (b : Bt) {F : List (Nat × AObj)} (hF : (0, oB ver b) ∈ F) : Sees 0 (fun i => n + i) F (.p 0 ver 0 0) (.pe (cB b)) := .p hF (.all ⟨scB _ _, trivial⟩) rfl rfl

def dropB (b : Bt) : Bt := if b.made then ⟨cm0, b.there, b.all, b.made, b.shard, b.version, cm0⟩ else b
theorem f15_at (b : Bt) (ver : Nat) : Turns1 Try.prog 15 (fun k => [.p k ver 0 0]) (oB ver b) (fun _ _ => .tup []) (fun _ => oB ver (dropB b)) := by
  refine turnB trivial trivial ?_
  have h21 := f21_ok b
  refine CallsIn.of_exec tab_ok mixed Try.func15 rfl rfl [] [true] ?_
  (conv => whnf)
  refine Pure.seeK h21 [(0, oB ver b)] (fact1 rfl) (.cons (seeB _ ver b List.mem_cons_self) .nil) trivial trivial ?_
  rcases bool_cases b.made with hm | hm
  · rw [dropB, if_pos hm]
    repeat' ((conv => whnf); first
      | refine And.intro (by decide) ?_ | refine And.intro rfl ?_ | refine And.intro (Nat.le_of_ble_eq_true rfl) ?_ | refine boolF_t (by assumption) ?_)
    all_goals (conv => whnf)
    refine ⟨⟨_, _, Ghost.re (o := 0) (rows' := [.agg (cB _)]) rfl (.cons ?_ .nil), rfl, rfl⟩⟩
    repeat (first | exact Fzs.nil | refine Fzs.cons .refl ?_ | refine Fzs.cons .nils ?_)
  · rw [dropB, if_neg (by simp [hm])]
    repeat' ((conv => whnf); first
      | refine boolF_f (by assumption) ?_)
    all_goals (conv => whnf)
    exact ⟨⟨_, _, Ghost.refl _ _ _, rfl, rfl⟩⟩

theorem f15_nil : Pure Try.prog 15 [.pnil] (.tup []) := by
  refine Pure.of ⟨trivial, trivial⟩ trivial ?_
  refine CallsIn.of_exec tab_ok mixed Try.func15 rfl rfl [] [] ?_
  repeat' ((conv => whnf); first
    | refine Pure.call (f21_nil) ?_)
  all_goals (conv => whnf)
  exact ⟨rfl⟩

def syncB (b : Bt) : Bt := if b.made then ⟨b.now, b.there, b.all, b.made, b.shard, b.version, b.now⟩ else b
theorem f18_at (b : Bt) (ver : Nat) : Turns1 Try.prog 18 (fun k => [.p k ver 0 0]) (oB ver b) (fun _ _ => .int .i64 (if b.made then b.now.count else 0)) (fun _ => oB ver (syncB b)) := by
  refine turnB trivial trivial ?_
  have h21 := f21_ok b
  refine CallsIn.of_exec tab_ok mixed Try.func18 rfl rfl [] [true] ?_
  (conv => whnf)
  refine Pure.seeK h21 [(0, oB ver b)] (fact1 rfl) (.cons (seeB _ ver b List.mem_cons_self) .nil) trivial trivial ?_
  rcases bool_cases b.made with hm | hm
  · rw [syncB, if_pos hm, if_pos hm]
    repeat' ((conv => whnf); first
      | refine And.intro (by decide) ?_ | refine And.intro rfl ?_ | refine And.intro (Nat.le_of_ble_eq_true rfl) ?_ | refine boolF_not ?_ | refine boolF_t (by assumption) ?_)
    all_goals (conv => whnf)
    exact ⟨⟨_, _, Ghost.refl _ _ _, rfl, rfl⟩⟩
  · rw [syncB, if_neg (by simp [hm]), if_neg (by simp [hm])]
    repeat' ((conv => whnf); first
      | refine boolF_not ?_ | refine boolF_f (by assumption) ?_)
    all_goals (conv => whnf)
    exact ⟨⟨_, _, Ghost.refl _ _ _, rfl, rfl⟩⟩
theorem f18_nil : Pure Try.prog 18 [.pnil] (.int .i64 0) := by
  refine Pure.of ⟨trivial, trivial⟩ trivial ?_
  refine CallsIn.of_exec tab_ok mixed Try.func18 rfl rfl [] [] ?_
  repeat' ((conv => whnf); first
    | refine Pure.call (f21_nil) ?_)
  all_goals (conv => whnf)
  exact ⟨rfl⟩

def crashB (b : Bt) : Bt := if b.made then ⟨b.sure, b.there, b.all, b.made, b.shard, b.version, b.sure⟩ else b
theorem f19_at (b : Bt) (ver : Nat) : Turns1 Try.prog 19 (fun k => [.p k ver 0 0]) (oB ver b) (fun _ _ => .tup []) (fun _ => oB ver (crashB b)) := by
  refine turnB trivial trivial ?_
  have h21 := f21_ok b
  refine CallsIn.of_exec tab_ok mixed Try.func19 rfl rfl [] [true] ?_
  (conv => whnf)
  refine Pure.seeK h21 [(0, oB ver b)] (fact1 rfl) (.cons (seeB _ ver b List.mem_cons_self) .nil) trivial trivial ?_
  rcases bool_cases b.made with hm | hm
  · rw [crashB, if_pos hm]
    repeat' ((conv => whnf); first
      | refine And.intro (by decide) ?_ | refine And.intro rfl ?_ | refine And.intro (Nat.le_of_ble_eq_true rfl) ?_ | refine boolF_t (by assumption) ?_)
    all_goals (conv => whnf)
    exact ⟨⟨_, _, Ghost.refl _ _ _, rfl, rfl⟩⟩
  · rw [crashB, if_neg (by simp [hm])]
    repeat' ((conv => whnf); first
      | refine boolF_f (by assumption) ?_)
    all_goals (conv => whnf)
    exact ⟨⟨_, _, Ghost.refl _ _ _, rfl, rfl⟩⟩
theorem f19_nil : Pure Try.prog 19 [.pnil] (.tup []) := by
  refine Pure.of ⟨trivial, trivial⟩ trivial ?_
  refine CallsIn.of_exec tab_ok mixed Try.func19 rfl rfl [] [] ?_
  repeat' ((conv => whnf); first
    | refine Pure.call (f21_nil) ?_)
  all_goals (conv => whnf)
  exact ⟨rfl⟩

end Go.Proofs.Ytjoeonhmejnkmaa


namespace Go.Proofs.Ytjoeonhmejnkmaa
open Go.A
set_option linter.unusedVariables false
set_option linter.unusedSimpArgs false
set_option linter.unnecessarySimpa false
attribute [local irreducible] IntKind.wrap bitsI
open B
set_option maxRecDepth 100000
set_option maxHeartbeats 4000000

theorem ownW_rn (p : List Nat × Int) : ∀ k ver o, Rn k ver o (p.1.map r63).length (ownW p k ver) (ownW p o 1) := fun k ver o => by
  rw [List.length_map]
  exact .tup (.cons .h (.cons (.refl trivial) .nil))

theorem endB {ver : Nat} {row : D} {rest : List AObj} {r : D} (b' : Bt) (F : List (Nat × AObj)) (hF : ∀ x ∈ F, 1 ≤ x.1 ∧ (AObj.arr ver 13 [row] :: rest)[x.1]? = some x.2 ∧ ∃ v sz rows, x.2 = .arr v sz rows) (hd : (F.map Prod.fst).Nodup)
    (hr : r.sc 0) (hz : Fzs F row.cells (cB b')) : Ghost 1 [r] (.arr ver 13 [row] :: rest) [r] [oB ver b'] := by
  have h0 : 0 ∉ F.map Prod.fst := fun h => by
    obtain ⟨x, hx, e⟩ := List.mem_map.mp h
    have := (hF x hx).1
    omega
  refine (Ghost.fz F [(0, oB ver b')] hF hd Fzs.all (fun x hx => ?_) (by simp)).trans (Ghost.back [0] 1 rfl ?_ (Nat.le_refl _) ⟨sc_le _ _ hr, trivial⟩ (fun ob hob => ?_))
  · simp only [List.mem_singleton] at hx; subst hx
    exact ⟨h0, ver, 13, [row], [.agg (cB b')], rfl, rfl, .cons hz .nil⟩
  · have e : (goneL (AObj.arr ver 13 [row] :: rest) F)[0]? = some (.arr ver 13 [row]) := goneL_ne F _ h0
    cases hG : goneL (AObj.arr ver 13 [row] :: rest) F with
    | nil => rw [hG] at e; simp at e
    | cons x l => rfl
  · simp only [List.mem_singleton] at hob; subst hob
    exact ⟨scB _ _, trivial⟩

theorem applyM1 {v : List Nat} {o : Op} (h : (applyM v [o]).2 = 0) : v.length ≤ 1024 ∧ okOp v.length o := by
  rw [applyM] at h
  split at h
  · cases h
  · split at h
    · rename_i h1 h2; exact ⟨by omega, h2 o List.mem_cons_self⟩
    · cases h

def doneM (b : Bt) (o : Op) : Bt × Int :=
  if (applyM b.now.v [o]).2 ≠ 0 ∨ o.off_ < b.now.behind then (b, 5)
  else (⟨⟨b.now.snap, b.now.count + 1, endOf o, (applyM b.now.v [o]).1⟩, b.there, b.all, b.made, b.shard, b.version, b.sure⟩, 0)

theorem f25_at (b : Bt) (o : Op) (ver : Nat) (hv : b.now.v.length ≤ 140737488351232) (ho : o.data_.length ≤ 140737488351232) (hc : 0 ≤ b.now.count ∧ b.now.count ≤ 1000000) :
    Turns1 Try.prog 25 (fun k => [.p k ver 0 0, d69 o]) (oB ver b) (fun _ _ => .int .i64 (doneM b o).2) (fun _ => oB ver (doneM b o).1) := by
  refine turnB ⟨scd69 _ _, trivial⟩ trivial ?_
  have h9 := f35_own b.now.v [o] hv (by simp) (fun x hx => by simp only [List.mem_singleton] at hx; subst hx; exact ho)
  obtain ⟨A, hA⟩ : ∃ A, A = applyM b.now.v [o] := ⟨_, rfl⟩
  have hA1 := applyM1 (v := b.now.v) (o := o)
  rw [doneM]
  rw [← hA] at h9 hA1 ⊢
  refine CallsIn.of_exec tab_ok mixed Try.func25 rfl rfl [] [true] ?_
  repeat' ((conv => whnf); first
    | refine And.intro (by decide) ?_ | refine And.intro rfl ?_ | refine And.intro (Nat.le_of_ble_eq_true rfl) ?_)
  all_goals (conv => whnf)
  refine OwnedR.locK h9 (ownW_rn _) ?_
  by_cases h1 : A.2 = 0
  · obtain ⟨hv2, hok⟩ := hA1 h1
    have hd := dat_len hok
    have hoff := hok.2.2.1
    by_cases h2 : o.off_ < b.now.behind
    · rw [if_pos (.inr h2)]
      repeat' ((conv => whnf); first
        | refine PairK.mk (by kernel_rfl) ?_ | refine And.intro (by decide) ?_ | refine And.intro rfl ?_ | refine And.intro (Nat.le_of_ble_eq_true rfl) ?_ | refine boolF_not ?_ | refine boolF_dect (by assumption) ?_)
      all_goals (conv => whnf)
      exact ⟨⟨_, _, endB b [] (fun x hx => by cases hx) (by simp) trivial Fzs.all, rfl, rfl⟩⟩
    · rw [if_neg (by rintro (g | g); exact g h1; exact h2 g)]
      repeat' ((conv => whnf); first
        | refine PairK.mk (by kernel_rfl) ?_ | refine And.intro (by decide) ?_ | refine And.intro rfl ?_ | refine And.intro (Nat.le_of_ble_eq_true rfl) ?_ | refine Exists.intro _ (And.intro (w64 (by omega) (by omega)) ?_) | refine Pure.call (f36_ok _ ho) ?_ | refine boolF_not ?_ | refine boolF_dect (by assumption) ?_ | refine boolF_decf (by assumption) ?_)
      all_goals (conv => whnf)
      refine ⟨⟨_, _, endB _ [(1, .arr 1 1 (A.1.map r63))] ?_ (by simp) trivial ?_, rfl, rfl⟩⟩
      · intro x hx
        simp only [List.mem_singleton] at hx; subst hx
        exact ⟨Nat.le_refl _, rfl, _, _, _, rfl⟩
      · repeat (first | exact Fzs.nil | refine Fzs.cons .refl ?_ | refine Fzs.cons (.h mem0 .all (all_take rfl)) ?_)
  · rw [if_pos (.inl h1)]
    repeat' ((conv => whnf); first
      | refine PairK.mk (by kernel_rfl) ?_ | refine boolF_not ?_ | refine boolF_decf (by assumption) ?_)
    all_goals (conv => whnf)
    exact ⟨⟨_, _, endB b [] (fun x hx => by cases hx) (by simp) trivial Fzs.all, rfl, rfl⟩⟩

end Go.Proofs.Ytjoeonhmejnkmaa


namespace Go.Proofs.Ytjoeonhmejnkmaa
open Go.A
set_option linter.unusedVariables false
set_option linter.unusedSimpArgs false
set_option linter.unnecessarySimpa false
attribute [local irreducible] IntKind.wrap bitsI
open B
set_option maxRecDepth 100000
set_option maxHeartbeats 4000000

def zer (n : Nat) : List Nat := List.replicate n 0
def beginM (b : Bt) (i : Int) (r : Rec) : Bt × Int :=
  if i ≠ 0 then (b, 15) else if r.kind_ ≠ 1 then (b, 14) else if r.shard_ ≠ b.shard ∨ r.len_ ≠ (b.all.length : Int) then (b, 1) else if r.map_ ≠ b.version then (b, 13)
  else if r.snap_ = 0 ∨ r.snap_ = b.there then (b, 10) else if r.base_ ≠ 0 ∧ r.base_ ≠ b.there then (b, 12)
  else (⟨⟨r.snap_, 1, 0, if r.base_ = 0 then zer b.all.length else b.all⟩, b.there, b.all, b.made, b.shard, b.version, b.sure⟩, 0)

theorem f24_at (b : Bt) (i : Int) (r : Rec) (ver : Nat) (hv : b.all.length ≤ 1024) :
    Turns1 Try.prog 24 (fun k => [.p k ver 0 0, .int .i64 i, d26 r]) (oB ver b) (fun _ _ => .int .i64 (beginM b i r).2) (fun _ => oB ver (beginM b i r).1) := by
  refine turnB ⟨trivial, scd26 _ _, trivial⟩ trivial ?_
  have h32 := f32_ok b.all (by omega) (by omega)
  rw [beginM]
  refine CallsIn.of_exec tab_ok mixed Try.func24 rfl rfl [] [true] ?_
  by_cases h1 : i = 0
  case neg =>
    rw [if_pos h1]
    repeat' ((conv => whnf); first
      | refine boolF_not ?_ | refine boolF_decf (by assumption) ?_)
    all_goals (conv => whnf)
    exact ⟨⟨_, _, endB b [] (fun x hx => by cases hx) (by simp) trivial Fzs.all, rfl, rfl⟩⟩
  rw [if_neg (by simp [h1])]
  by_cases h2 : r.kind_ = 1
  case neg =>
    rw [if_pos h2]
    repeat' ((conv => whnf); first
      | refine boolF_not ?_ | refine boolF_dect (by assumption) ?_ | refine boolF_decf (by assumption) ?_)
    all_goals (conv => whnf)
    exact ⟨⟨_, _, endB b [] (fun x hx => by cases hx) (by simp) trivial Fzs.all, rfl, rfl⟩⟩
  rw [if_neg (by simp [h2])]
  by_cases h3 : r.shard_ ≠ b.shard ∨ r.len_ ≠ (b.all.length : Int)
  · rw [if_pos h3]
    rcases h3 with h3 | h3
    · repeat' ((conv => whnf); first
        | refine PairK.mk (by kernel_rfl) ?_ | refine And.intro (by decide) ?_ | refine And.intro rfl ?_ | refine And.intro (Nat.le_of_ble_eq_true rfl) ?_ | refine boolF_not ?_ | refine boolF_dect (by assumption) ?_ | refine boolF_decf (by assumption) ?_)
      all_goals (conv => whnf)
      exact ⟨⟨_, _, endB b [] (fun x hx => by cases hx) (by simp) trivial Fzs.all, rfl, rfl⟩⟩
    · repeat' ((conv => whnf); first
        | refine PairK.mk (by kernel_rfl) ?_ | refine And.intro (by decide) ?_ | refine And.intro rfl ?_ | refine And.intro (Nat.le_of_ble_eq_true rfl) ?_ | refine Exists.intro _ (And.intro (⟨(List.length_map _).symm⟩) ?_) | refine boolF_not ?_ | refine boolF_dect (by assumption) ?_ | refine boolF_decf (by assumption) ?_ | refine boolF_dec (fun _ => ?_) (fun _ => ?_))
      all_goals (conv => whnf)
      all_goals exact ⟨⟨_, _, endB b [] (fun x hx => by cases hx) (by simp) trivial Fzs.all, rfl, rfl⟩⟩
  rw [if_neg h3]
  have h3a : r.shard_ = b.shard := by omega
  have h3b : r.len_ = (b.all.length : Int) := by omega
  clear h3
  by_cases h4 : r.map_ = b.version
  case neg =>
    rw [if_pos h4]
    repeat' ((conv => whnf); first
      | refine PairK.mk (by kernel_rfl) ?_ | refine And.intro (by decide) ?_ | refine And.intro rfl ?_ | refine And.intro (Nat.le_of_ble_eq_true rfl) ?_ | refine Exists.intro _ (And.intro (⟨(List.length_map _).symm⟩) ?_) | refine boolF_not ?_ | refine boolF_dect (by assumption) ?_ | refine boolF_decf (by assumption) ?_)
    all_goals (conv => whnf)
    exact ⟨⟨_, _, endB b [] (fun x hx => by cases hx) (by simp) trivial Fzs.all, rfl, rfl⟩⟩
  rw [if_neg (by simp [h4])]
  by_cases h5 : r.snap_ = 0 ∨ r.snap_ = b.there
  · rw [if_pos h5]
    rcases h5 with h5 | h5
    · repeat' ((conv => whnf); first
        | refine PairK.mk (by kernel_rfl) ?_ | refine And.intro (by decide) ?_ | refine And.intro rfl ?_ | refine And.intro (Nat.le_of_ble_eq_true rfl) ?_ | refine Exists.intro _ (And.intro (⟨(List.length_map _).symm⟩) ?_) | refine boolF_not ?_ | refine boolF_dect (by assumption) ?_)
      all_goals (conv => whnf)
      exact ⟨⟨_, _, endB b [] (fun x hx => by cases hx) (by simp) trivial Fzs.all, rfl, rfl⟩⟩
    · repeat' ((conv => whnf); first
        | refine PairK.mk (by kernel_rfl) ?_ | refine And.intro (by decide) ?_ | refine And.intro rfl ?_ | refine And.intro (Nat.le_of_ble_eq_true rfl) ?_ | refine Exists.intro _ (And.intro (⟨(List.length_map _).symm⟩) ?_) | refine boolF_not ?_ | refine boolF_dect (by assumption) ?_ | refine boolF_dec (fun _ => ?_) (fun _ => ?_))
      all_goals (conv => whnf)
      all_goals exact ⟨⟨_, _, endB b [] (fun x hx => by cases hx) (by simp) trivial Fzs.all, rfl, rfl⟩⟩
  rw [if_neg h5]
  have h5a : r.snap_ ≠ 0 := by omega
  have h5b : r.snap_ ≠ b.there := by omega
  clear h5
  by_cases h6 : r.base_ = 0
  · rw [if_neg (by simp [h6]), if_pos h6]
    repeat' ((conv => whnf); first
      | refine PairK.mk (by kernel_rfl) ?_ | refine And.intro (by decide) ?_ | refine And.intro rfl ?_ | refine And.intro (Nat.le_of_ble_eq_true rfl) ?_ | refine Exists.intro _ (And.intro (⟨(List.length_map _).symm⟩) ?_) | refine boolF_not ?_ | refine boolF_dect (by assumption) ?_ | refine boolF_decf (by assumption) ?_)
    all_goals (conv => whnf)
    refine Owned.locN h32 b.all.length (by rw [List.length_map]) ?_
    repeat' ((conv => whnf); first
      | refine PairK.mk (by kernel_rfl) ?_ | refine And.intro (by decide) ?_ | refine And.intro rfl ?_ | refine And.intro (Nat.le_of_ble_eq_true rfl) ?_ | refine boolF_dect (by assumption) ?_)
    all_goals (conv => whnf)
    have e : spliceL (b.all.map r63) 0 (List.replicate b.all.length (D.int .u64 0)) = (zer b.all.length).map r63 := by simp [spliceL, zer, r63, d63]
    refine ⟨⟨_, _, endB _ [(1, .arr 1 1 (spliceL (b.all.map r63) 0 (List.replicate b.all.length (D.int .u64 0))))] ?_ (by simp) trivial ?_, rfl, rfl⟩⟩
    · intro x hx
      simp only [List.mem_singleton] at hx; subst hx
      exact ⟨Nat.le_refl _, rfl, _, _, _, rfl⟩
    · repeat (first | exact Fzs.nil | refine Fzs.cons .refl ?_ | refine Fzs.cons (.h mem0 .all (by rw [e]; exact all_take (by simp [zer]))) ?_)
  · by_cases h7 : r.base_ = b.there
    · rw [if_neg (by simp [h7]), if_neg h6]
      repeat' ((conv => whnf); first
        | refine PairK.mk (by kernel_rfl) ?_ | refine And.intro (by decide) ?_ | refine And.intro rfl ?_ | refine And.intro (Nat.le_of_ble_eq_true rfl) ?_ | refine Exists.intro _ (And.intro (⟨(List.length_map _).symm⟩) ?_) | refine boolF_not ?_ | refine boolF_dect (by assumption) ?_ | refine boolF_decf (by assumption) ?_)
      all_goals (conv => whnf)
      refine Owned.locN h32 b.all.length (by rw [List.length_map]) ?_
      repeat' ((conv => whnf); first
        | refine PairK.mk (by kernel_rfl) ?_ | refine And.intro (by decide) ?_ | refine And.intro rfl ?_ | refine And.intro (Nat.le_of_ble_eq_true rfl) ?_ | refine boolF_decf (by assumption) ?_)
      all_goals (conv => whnf)
      refine ⟨⟨_, _, endB _ [(1, .arr 1 1 (b.all.map r63))] ?_ (by simp) trivial ?_, rfl, rfl⟩⟩
      · intro x hx
        simp only [List.mem_singleton] at hx; subst hx
        exact ⟨Nat.le_refl _, rfl, _, _, _, rfl⟩
      · repeat (first | exact Fzs.nil | refine Fzs.cons .refl ?_ | refine Fzs.cons (.h mem0 .all (all_take rfl)) ?_)
    · rw [if_pos ⟨h6, h7⟩]
      repeat' ((conv => whnf); first
        | refine PairK.mk (by kernel_rfl) ?_ | refine And.intro (by decide) ?_ | refine And.intro rfl ?_ | refine And.intro (Nat.le_of_ble_eq_true rfl) ?_ | refine Exists.intro _ (And.intro (⟨(List.length_map _).symm⟩) ?_) | refine boolF_not ?_ | refine boolF_dect (by assumption) ?_ | refine boolF_decf (by assumption) ?_)
      all_goals (conv => whnf)
      exact ⟨⟨_, _, endB b [] (fun x hx => by cases hx) (by simp) trivial Fzs.all, rfl, rfl⟩⟩

end Go.Proofs.Ytjoeonhmejnkmaa

