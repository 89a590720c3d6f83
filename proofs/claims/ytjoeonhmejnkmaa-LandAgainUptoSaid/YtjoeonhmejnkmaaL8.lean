import Derived.Test.YtjoeonhmejnkmaaL7
namespace Go.Proofs.Ytjoeonhmejnkmaa
open Go.A
set_option linter.unusedVariables false
set_option linter.unusedSimpArgs false
set_option linter.unnecessarySimpa false
attribute [local irreducible] IntKind.wrap bitsI
open B
set_option maxRecDepth 100000
set_option maxHeartbeats 4000000

def readM (v : List Nat) (off n : Int) : List Nat × Int := if 1024 < v.length then ([], 6) else if 0 ≤ off ∧ 0 ≤ n ∧ n ≤ v.length ∧ off ≤ v.length - n then ((v.drop off.toNat).take n.toNat, 0) else ([], 1)

theorem f22_own (v : List Nat) (off n : Int) (hv : v.length ≤ 140737488351232) : OwnW 22 [d24 v, .int .i64 off, .int .i64 n] (readM v off n) := by
  refine OwnedR.of ⟨scd24 _ _, trivial, trivial, trivial⟩ (scr63 _ _) (ownW_res _) ?_
  refine CallsIn.of_exec tab_ok mixed Try.func22 rfl rfl [] [] ?_
  by_cases hb : 1024 < v.length
  · rw [readM, if_pos hb]
    repeat' ((conv => whnf); first
      | refine Exists.intro _ (And.intro (⟨(List.length_map _).symm⟩) ?_) | refine boolF_dect (by omega) ?_)
    all_goals (conv => whnf)
    exact ⟨ownW_err 6 _⟩
  · rw [readM, if_neg hb]
    by_cases hl : 0 ≤ off ∧ 0 ≤ n ∧ n ≤ v.length ∧ off ≤ v.length - n
    · rw [if_pos hl]
      obtain ⟨a, rfl⟩ := Int.eq_ofNat_of_zero_le hl.1
      obtain ⟨c, rfl⟩ := Int.eq_ofNat_of_zero_le hl.2.1
      have hlen : ((v.drop a).take (a + c - a)).length ≤ 1024 := by rw [List.length_take, List.length_drop]; omega
      have h22 := f32_ok ((v.drop a).take (a + c - a)) (by omega) (by omega)
      repeat' ((conv => whnf); first
        | refine Exists.intro a (Exists.intro (a + c) (And.intro ⟨rfl⟩ (And.intro ⟨rfl⟩ (And.intro (by omega) (And.intro (by omega) ?_))))) | refine And.intro (cells_map (fun _ => rfl)) ?_ | refine Exists.intro _ (And.intro (⟨(List.length_map _).symm⟩) ?_) | refine Exists.intro _ (And.intro (⟨map_slice⟩) ?_) | refine Exists.intro _ (And.intro (w64 (by omega) (by omega)) ?_) | refine Pure.call (f31_ok _ _ _ (by omega)) ?_ | refine boolF_not ?_ | refine boolF_dect (by assumption) ?_ | refine boolF_decf (by omega) ?_)
      all_goals (conv => whnf)
      refine Owned.callN h22 _ (by rw [List.length_map]) (fun v1 => ?_)
      (conv => whnf)
      have e : (v.drop ((a : Int)).toNat).take ((c : Int)).toNat = (v.drop a).take (a + c - a) := by
        rw [Int.toNat_natCast, Int.toNat_natCast, Nat.add_sub_cancel_left]
      rw [e]
      exact ⟨ownW_ok 0 _ 0 v1 _ _ rfl rfl⟩
    · rw [if_neg hl]
      repeat' ((conv => whnf); first
        | refine Exists.intro _ (And.intro (⟨(List.length_map _).symm⟩) ?_) | refine Pure.call (f31_ok _ _ _ (by omega)) ?_ | refine boolF_not ?_ | refine boolF_decf (by assumption) ?_ | refine boolF_decf (by omega) ?_)
      all_goals (conv => whnf)
      exact ⟨ownW_err 1 _⟩

/-- What comes. -/
structure Cm where
  snap : Int
  count : Int
  behind : Int
  v : List Nat
def cm0 : Cm := ⟨0, 0, 0, []⟩
/-- A berth. -/
structure Bt where
  now : Cm
  there : Int
  all : List Nat
  made : Bool
  shard : Int
  version : Int
  sure : Cm
def cC (c : Cm) : List D := [.int .i64 c.snap, .int .i64 c.count, .int .i64 c.behind, d24 c.v]
def cB (b : Bt) : List D := [.int .i64 b.now.snap, .int .i64 b.now.count, .int .i64 b.now.behind, d24 b.now.v, .int .i64 b.there, d24 b.all, .bool b.made, .int .i64 b.shard, .int .i64 b.version,
  .int .i64 b.sure.snap, .int .i64 b.sure.count, .int .i64 b.sure.behind, d24 b.sure.v]
def oB (ver : Nat) (b : Bt) : AObj := .arr ver 13 [.agg (cB b)]
theorem scB (k : Nat) (b : Bt) : scs k (cB b) := ⟨trivial, trivial, trivial, scd24 _ _, trivial, scd24 _ _, trivial, trivial, trivial, trivial, trivial, trivial, scd24 _ _, trivial⟩

theorem f21_ok (b : Bt) : Pure Try.prog 21 [.pe (cB b)] (.bool b.made) := by
  refine Pure.of ⟨scB _ _, trivial⟩ trivial ?_
  refine CallsIn.of_exec tab_ok mixed Try.func21 rfl rfl [] [] ?_
  (conv => whnf)
  exact ⟨rfl⟩
theorem f21_nil : Pure Try.prog 21 [.pnil] (.bool false) := by
  refine Pure.of ⟨trivial, trivial⟩ trivial ?_
  refine CallsIn.of_exec tab_ok mixed Try.func21 rfl rfl [] [] ?_
  (conv => whnf)
  exact ⟨rfl⟩

theorem f10_ok (b : Bt) : Pure Try.prog 10 [.pe (cB b)] (.tup [.int .i64 (if b.made then b.now.snap else 0), .int .i64 (if b.made then b.now.count else 0)]) := by
  refine Pure.of ⟨scB _ _, trivial⟩ ⟨trivial, trivial, trivial⟩ ?_
  refine CallsIn.of_exec tab_ok mixed Try.func10 rfl rfl [] [] ?_
  cases hm : b.made
  all_goals
    have h21 := f21_ok b
    rw [hm] at h21
  · repeat' ((conv => whnf); first
      | refine Pure.call (f21_ok b) ?_ | refine boolF_not ?_ | refine boolF_f (by assumption) ?_)
    all_goals (conv => whnf)
    exact ⟨rfl⟩
  · repeat' ((conv => whnf); first
      | refine PairK.mk (by kernel_rfl) ?_ | refine Pure.call (f21_ok b) ?_ | refine boolF_not ?_ | refine boolF_t (by assumption) ?_)
    all_goals (conv => whnf)
    exact ⟨rfl⟩

theorem f10_nil : Pure Try.prog 10 [.pnil] (.tup [.int .i64 0, .int .i64 0]) := by
  refine Pure.of ⟨trivial, trivial⟩ ⟨trivial, trivial, trivial⟩ ?_
  refine CallsIn.of_exec tab_ok mixed Try.func10 rfl rfl [] [] ?_
  repeat' ((conv => whnf); first
    | refine Pure.call (f21_nil) ?_)
  all_goals (conv => whnf)
  exact ⟨rfl⟩
theorem f11_ok (b : Bt) : Pure Try.prog 11 [.pe (cB b)] (.int .i64 (if b.made then b.there else 0)) := by
  refine Pure.of ⟨scB _ _, trivial⟩ trivial ?_
  refine CallsIn.of_exec tab_ok mixed Try.func11 rfl rfl [] [] ?_
  cases hm : b.made
  all_goals
    have h21 := f21_ok b
    rw [hm] at h21
  · repeat' ((conv => whnf); first
      | refine Pure.call (f21_ok b) ?_ | refine boolF_not ?_ | refine boolF_f (by assumption) ?_)
    all_goals (conv => whnf)
    exact ⟨rfl⟩
  · repeat' ((conv => whnf); first
      | refine Pure.call (f21_ok b) ?_ | refine boolF_not ?_ | refine boolF_t (by assumption) ?_)
    all_goals (conv => whnf)
    exact ⟨rfl⟩
theorem f11_nil : Pure Try.prog 11 [.pnil] (.int .i64 0) := by
  refine Pure.of ⟨trivial, trivial⟩ trivial ?_
  refine CallsIn.of_exec tab_ok mixed Try.func11 rfl rfl [] [] ?_
  repeat' ((conv => whnf); first
    | refine Pure.call (f21_nil) ?_)
  all_goals (conv => whnf)
  exact ⟨rfl⟩
def readB (b : Bt) (off n : Int) : List Nat × Int := if b.made then readM b.all off n else ([], 2)
theorem f12_own (b : Bt) (off n : Int) (hv : b.all.length ≤ 140737488351232) : OwnW 12 [.pe (cB b), .int .i64 off, .int .i64 n] (readB b off n) := by
  refine OwnedR.of ⟨scB _ _, trivial, trivial, trivial⟩ (scr63 _ _) (ownW_res _) ?_
  refine CallsIn.of_exec tab_ok mixed Try.func12 rfl rfl [] [] ?_
  have h21 := f21_ok b
  rw [readB]
  cases hm : b.made
  all_goals rw [hm] at h21
  · repeat' ((conv => whnf); first
      | refine Pure.call (f21_ok b) ?_ | refine boolF_not ?_ | refine boolF_f (by assumption) ?_)
    all_goals (conv => whnf)
    exact ⟨ownW_err 2 _⟩
  · rw [if_pos rfl]
    have h22 := f22_own b.all off n hv
    obtain ⟨A, hA⟩ : ∃ A, A = readM b.all off n := ⟨_, rfl⟩
    rw [← hA] at h22 ⊢
    repeat' ((conv => whnf); first
      | refine Pure.call (f21_ok b) ?_ | refine boolF_not ?_ | refine boolF_t (by assumption) ?_)
    all_goals (conv => whnf)
    refine OwnedR.call h22 (fun v1 => ?_)
    (conv => whnf)
    exact ⟨ownW_ok _ _ 0 v1 _ _ rfl rfl⟩
theorem f12_nil (off n : Int) : Pure Try.prog 12 [.pnil, .int .i64 off, .int .i64 n] (.tup [d24 [], .int .i64 2]) := by
  refine Pure.ofT ⟨trivial, trivial, trivial, trivial⟩ ⟨scd24 _ _, trivial, trivial⟩ ?_
  refine CallsIn.of_exec tab_ok mixed Try.func12 rfl rfl [] [] ?_
  repeat' ((conv => whnf); first
    | refine Pure.call (f21_nil) ?_)
  all_goals (conv => whnf)
  exact ⟨Told.wk (.tup (.cons .nils (.cons .refl .nil)))⟩

end Go.Proofs.Ytjoeonhmejnkmaa

