import Derived.Test.YtjoeonhmejnkmaaB4
-- merged
namespace Go.Proofs.Ytjoeonhmejnkmaa
open Go.A
set_option linter.unusedVariables false
set_option linter.unusedSimpArgs false
set_option linter.unnecessarySimpa false
attribute [local irreducible] IntKind.wrap bitsI
open B
set_option maxRecDepth 100000
set_option maxHeartbeats 4000000

abbrev Rec := T25
def numOk (n : Int) : Prop := 0 ≤ n ∧ n ≤ 2147483648
instance (n : Int) : Decidable (numOk n) := inferInstanceAs (Decidable (_ ∧ _))
def nums (r : Rec) : List Int := [r.kind_, r.shard_, r.snap_, r.base_, r.map_, r.off_, r.len_]
def kindOk (r : Rec) : Prop :=
  (r.kind_ = 1 ∧ r.off_ = 0 ∧ r.data_.length = 0) ∨
  (r.kind_ = 2 ∧ (r.shard_ = 0 ∧ r.snap_ = 0 ∧ r.base_ = 0 ∧ r.map_ = 0 ∧ r.len_ = 0) ∧ 1 ≤ r.data_.length ∧ r.data_.length ≤ 64) ∨
  (r.kind_ = 3 ∧ (r.shard_ = 0 ∧ r.snap_ = 0 ∧ r.base_ = 0 ∧ r.map_ = 0) ∧ 1 ≤ r.len_ ∧ r.data_.length = 0) ∨
  (r.kind_ = 4 ∧ (r.shard_ = 0 ∧ r.snap_ = 0 ∧ r.base_ = 0 ∧ r.map_ = 0 ∧ r.off_ = 0) ∧ r.data_.length = 0)
instance (r : Rec) : Decidable (kindOk r) := inferInstanceAs (Decidable (_ ∨ _ ∨ _ ∨ _))
def mayR (r : Rec) : Prop := (∀ n ∈ nums r, numOk n) ∧ kindOk r
instance (r : Rec) : Decidable (mayR r) := inferInstanceAs (Decidable (_ ∧ _))

theorem scd26 (k : Nat) (r : Rec) : (d26 r).sc k := ⟨trivial, trivial, trivial, trivial, trivial, trivial, trivial, scd24 _ _, trivial⟩
theorem scc26 (k : Nat) (r : Rec) : scs k (c26 r) := ⟨trivial, trivial, trivial, trivial, trivial, trivial, trivial, scd24 _ _, trivial⟩
theorem scr26 (k : Nat) (l : List Rec) : scs k (l.map r26) := by rw [scs_map]; intro x _; exact scd26 k x
theorem scd43 (k : Nat) (l : List Rec) : (d43 l).sc k := scr26 k l

theorem f44_ok (n : Int) : Pure Try.prog 44 [.int .i64 n] (.bool (!decide (n = 0))) := by
  refine Pure.of ⟨trivial, trivial⟩ trivial ?_
  refine CallsIn.of_exec tab_ok mixed Try.func44 rfl rfl [] [] ?_
  (conv => whnf)
  exact ⟨by by_cases h : n = 0 <;> simp [h]⟩

def iR (n : Int) : D := .int .i64 n
theorem scI (k : Nat) (l : List Int) : scs k (l.map iR) := by rw [scs_map]; intro x _; trivial
def nzIx : List Int → Nat → Int
  | [], _ => -1
  | x :: l, i => if x = 0 then nzIx l (i + 1) else (i : Int)
theorem nzIx_spec : ∀ (l : List Int) (i : Nat), (0 ≤ nzIx l i) ↔ ¬ ∀ x ∈ l, x = 0
  | [], i => by simp [nzIx]
  | x :: l, i => by
    rw [nzIx]
    split
    · rename_i h
      rw [nzIx_spec l (i + 1)]
      simp [h]
    · rename_i h
      simp [h]

theorem f49_ok (l : List Int) (hn : l.length ≤ 140737488351232) : Pure Try.prog 49 [.sl (l.map iR), .fn 44 []] (.int .i64 (nzIx l 0)) := by
  refine Pure.of ⟨scI _ _, trivial, trivial⟩ trivial ?_
  refine CallsIn.of_exec tab_ok mixed Try.func49 rfl rfl [] [] ?_
  repeat' ((conv => whnf); first
    | refine Exists.intro _ (And.intro (⟨(List.length_map _).symm⟩) ?_))
  all_goals (conv => whnf)
  refine W_loopG (ι := Nat) (fun i => ⟨(.sl (l.map iR) :: .fn 44 [] :: D.undef :: D.undef :: D.undef :: D.undef :: D.undef :: .int .i64 (l.length : Int) :: .int .i64 (i : Int) :: D.undef :: D.undef :: D.undef :: D.undef :: D.undef :: D.undef :: D.undef :: D.undef :: D.undef :: D.undef :: []), []⟩) (fun i => l.length - i)
    (fun i => i ≤ l.length ∧ nzIx (l.drop i) i = nzIx l 0) 0 (Ghost.hold [0, 1, 7, 8] rfl) ⟨Nat.zero_le _, rfl⟩ ?_
  rintro i ⟨h1, h2⟩
  refine exec_ok tab_ok mixed 1000 (bx := []) (own := []) ?_
  rcases Nat.lt_or_ge i l.length with h | h
  · obtain ⟨x, hx⟩ := at_lt h
    rw [drop_of_get hx, nzIx] at h2
    by_cases hok : x = 0
    · rw [if_pos hok] at h2
      repeat' ((conv => whnf); first
        | refine Exists.intro _ (And.intro (map_at (by omega) hx) ?_) | refine And.intro rfl ?_ | refine And.intro (by omega) ?_ | refine Exists.intro _ (And.intro (w64 (by omega) (by omega)) ?_) | refine Pure.call (f44_ok x) ?_ | refine boolF_not ?_ | refine boolF_dect (by assumption) ?_ | refine boolF_dect (by omega) ?_)
      all_goals (conv => whnf)
      exact ⟨i + 1, Ghost.hold [0, 1, 7, 8] rfl, ⟨h, h2⟩, by omega⟩
    · rw [if_neg hok] at h2
      repeat' ((conv => whnf); first
        | refine Exists.intro _ (And.intro (map_at (by omega) hx) ?_) | refine And.intro rfl ?_ | refine And.intro (by omega) ?_ | refine Pure.call (f44_ok x) ?_ | refine boolF_not ?_ | refine boolF_decf (by assumption) ?_ | refine boolF_dect (by omega) ?_)
      all_goals (conv => whnf)
      exact ⟨by rw [h2]⟩
  · rw [List.drop_of_length_le h, nzIx] at h2
    repeat' ((conv => whnf); first
      | refine boolF_decf (by omega) ?_)
    all_goals (conv => whnf)
    exact ⟨by rw [← h2]⟩

theorem f43_ok (l : List Int) (hn : l.length ≤ 140737488351232) : Pure Try.prog 43 [.sl (l.map iR), .fn 44 []] (.bool (!decide (∀ x ∈ l, x = 0))) := by
  refine Pure.of ⟨scI _ _, trivial, trivial⟩ trivial ?_
  refine CallsIn.of_exec tab_ok mixed Try.func43 rfl rfl [] [] ?_
  repeat' ((conv => whnf); first
    | refine Pure.call (f49_ok _ hn) ?_)
  all_goals (conv => whnf)
  have := nzIx_spec l 0
  exact ⟨by simp only [ge_iff_le, decide_eq_decide.mpr this, decide_not]⟩

theorem f34_ok (l : List Int) (hn : l.length ≤ 140737488351232) : Pure Try.prog 34 [.sl (l.map iR)] (.bool (decide (∀ x ∈ l, x = 0))) := by
  refine Pure.of ⟨scI _ _, trivial⟩ trivial ?_
  refine CallsIn.of_exec tab_ok mixed Try.func34 rfl rfl [] [] ?_
  repeat' ((conv => whnf); first
    | refine Pure.call (f43_ok _ hn) ?_)
  all_goals (conv => whnf)
  exact ⟨by simp⟩

def ptrs (r : Rec) : List D := [.pe (c26 r), .pe ((c26 r).drop 1), .pe ((c26 r).drop 2), .pe ((c26 r).drop 3), .pe ((c26 r).drop 4), .pe ((c26 r).drop 5), .pe ((c26 r).drop 6)]
theorem scP (k : Nat) (r : Rec) : scs k (ptrs r) := ⟨scc26 _ _, (scc26 k r).2, (scc26 k r).2.2, (scc26 k r).2.2.2, (scc26 k r).2.2.2.2, (scc26 k r).2.2.2.2.2, (scc26 k r).2.2.2.2.2.2, trivial⟩
theorem f33_ok (r : Rec) : Pure Try.prog 33 [.pe (c26 r)] (.sl (ptrs r)) := by
  refine Pure.of ⟨scc26 _ _, trivial⟩ (scP _ _) ?_
  refine CallsIn.of_exec tab_ok mixed Try.func33 rfl rfl [] [] ?_
  repeat' ((conv => whnf); first
    | refine PairK.mk (by kernel_rfl) ?_)
  all_goals (conv => whnf)
  exact ⟨rfl⟩

theorem f38_ok (n : Int) : Pure Try.prog 38 [.int .i64 n] (.bool (decide (numOk n))) := by
  refine Pure.of ⟨trivial, trivial⟩ trivial ?_
  refine CallsIn.of_exec tab_ok mixed Try.func38 rfl rfl [] [] ?_
  repeat' ((conv => whnf); first
    | refine boolF_dec (fun _ => ?_) (fun _ => ?_))
  all_goals (conv => whnf)
  · rename_i h1; exact ⟨by simp [numOk, h1]⟩
  · rename_i h1; exact ⟨by simp [numOk, h1]⟩

end Go.Proofs.Ytjoeonhmejnkmaa


namespace Go.Proofs.Ytjoeonhmejnkmaa
open Go.A
set_option linter.unusedVariables false
set_option linter.unusedSimpArgs false
set_option linter.unnecessarySimpa false
attribute [local irreducible] IntKind.wrap bitsI
open B
set_option maxRecDepth 100000
set_option maxHeartbeats 4000000

theorem ptr_at (r : Rec) : ∀ {i : Nat}, i < 7 → ∃ n rest, (nums r)[i]? = some n ∧ (ptrs r)[i]? = some (.pe (.int .i64 n :: rest))
  | 0, _ => ⟨_, _, rfl, rfl⟩
  | 1, _ => ⟨_, _, rfl, rfl⟩
  | 2, _ => ⟨_, _, rfl, rfl⟩
  | 3, _ => ⟨_, _, rfl, rfl⟩
  | 4, _ => ⟨_, _, rfl, rfl⟩
  | 5, _ => ⟨_, _, rfl, rfl⟩
  | 6, _ => ⟨_, _, rfl, rfl⟩
  | n + 7, h => by omega
theorem all_takeN {l : List Int} {i : Nat} {n : Int} (h : l[i]? = some n) (hn : numOk n) (ht : ∀ x ∈ l.take i, numOk x) : ∀ x ∈ l.take (i + 1), numOk x := by
  rw [List.take_add_one, h]
  intro x hx
  rcases List.mem_append.mp hx with hx | hx
  · exact ht x hx
  · simp at hx; subst hx; exact hn

theorem i5 (a b c d e : Int) : Pure Try.prog 34 [.sl [.int .i64 a, .int .i64 b, .int .i64 c, .int .i64 d, .int .i64 e]] (.bool (decide (a = 0 ∧ b = 0 ∧ c = 0 ∧ d = 0 ∧ e = 0))) := by
  have := f34_ok [a, b, c, d, e] (by simp)
  simpa [iR] using this
theorem i4 (a b c d : Int) : Pure Try.prog 34 [.sl [.int .i64 a, .int .i64 b, .int .i64 c, .int .i64 d]] (.bool (decide (a = 0 ∧ b = 0 ∧ c = 0 ∧ d = 0))) := by
  have := f34_ok [a, b, c, d] (by simp)
  simpa [iR] using this

theorem bool_eq {a : Bool} {p : Prop} [Decidable p] (h : a = true ↔ p) : D.bool a = D.bool (decide p) := by
  congr 1; by_cases hp : p <;> simp [hp] at h ⊢ <;> exact h

theorem f23_ok (r : Rec) (hd : r.data_.length ≤ 140737488351232) : Pure Try.prog 23 [d26 r] (.bool (decide (mayR r))) := by
  refine Pure.of ⟨scd26 _ _, trivial⟩ trivial ?_
  refine CallsIn.of_exec tab_ok mixed Try.func23 rfl rfl [] [] ?_
  repeat' ((conv => whnf); first
    | refine Exists.intro _ (And.intro (⟨Eq.refl (α := Nat) _⟩) ?_) | refine Pure.call (f33_ok r) ?_)
  all_goals (conv => whnf)
  refine W_loopG (ι := Nat) (fun i => ⟨(D.undef :: .pe (c26 r) :: D.undef :: D.undef :: D.undef :: .sl (ptrs r) :: .int .i64 7 :: .int .i64 (i : Int) :: D.undef :: D.undef :: D.undef :: D.undef :: D.undef :: D.undef :: D.undef :: D.undef :: D.undef :: D.undef :: D.undef :: D.undef :: D.undef :: D.undef :: D.undef :: D.undef :: D.undef :: D.undef :: D.undef :: D.undef :: D.undef :: D.undef :: D.undef :: D.undef :: D.undef :: D.undef :: D.undef :: D.undef :: D.undef :: D.undef :: D.undef :: D.undef :: D.undef :: D.undef :: D.undef :: D.undef :: D.undef :: D.undef :: D.undef :: D.undef :: D.undef :: D.undef :: D.undef :: D.undef :: D.undef :: D.undef :: D.undef :: D.undef :: D.undef :: D.undef :: D.undef :: D.undef :: D.undef :: D.undef :: D.undef :: D.undef :: D.undef :: D.undef :: D.undef :: D.undef :: D.undef :: D.undef :: D.undef :: D.undef :: D.undef :: D.undef :: D.undef :: D.undef :: D.undef :: D.undef :: D.undef :: D.undef :: D.undef :: D.undef :: D.undef :: D.undef :: D.undef :: D.undef :: D.undef :: D.undef :: D.undef :: D.undef :: D.undef :: D.undef :: D.undef :: D.undef :: D.undef :: D.undef :: D.undef :: D.undef :: D.undef :: D.undef :: D.undef :: D.undef :: D.undef :: D.undef :: []), []⟩) (fun i => 7 - i)
    (fun i => i ≤ 7 ∧ ∀ x ∈ (nums r).take i, numOk x) 0 (Ghost.hold [1, 5, 6, 7] rfl) ⟨Nat.zero_le _, fun x hx => by simp at hx⟩ ?_
  rintro i ⟨h1, h2⟩
  refine exec_ok tab_ok mixed 1000 (bx := []) (own := []) ?_
  rcases Nat.lt_or_ge i 7 with h | h
  · obtain ⟨n, rest, hn, hp⟩ := ptr_at r h
    repeat' ((conv => whnf); first
      | refine Exists.intro _ (And.intro (hp) ?_) | refine And.intro rfl ?_ | refine And.intro (by omega) ?_ | refine Exists.intro _ (And.intro (w64 (by omega) (by omega)) ?_) | refine boolF_dect (by omega) ?_ | refine boolF_dec (fun _ => ?_) (fun _ => ?_))
    all_goals (conv => whnf)
    · rename_i g1
      exact ⟨bool_eq (by simp only [Bool.false_eq_true, false_iff]; intro hm; have := hm.1 n (List.mem_of_getElem? hn); exact absurd this.1 (by omega))⟩
    · rename_i g1 g2
      exact ⟨bool_eq (by simp only [Bool.false_eq_true, false_iff]; intro hm; have := hm.1 n (List.mem_of_getElem? hn); exact absurd this.2 (by omega))⟩
    · exact ⟨i + 1, Ghost.hold [1, 5, 6, 7] rfl, ⟨h, all_takeN hn ⟨by omega, by omega⟩ h2⟩, by omega⟩
  · have hm : mayR r ↔ kindOk r := ⟨fun g => g.2, fun g => ⟨fun x hx => h2 x (by rw [List.take_of_length_le (show (nums r).length ≤ i from h)]; exact hx), g⟩⟩
    repeat' ((conv => whnf); first
      | refine Exists.intro _ (And.intro (⟨(List.length_map _).symm⟩) ?_) | refine Pure.call (i5 _ _ _ _ _) ?_ | refine Pure.call (i4 _ _ _ _) ?_ | refine boolF_decf (by omega) ?_ | refine boolF_dec (fun _ => ?_) (fun _ => ?_))
    all_goals (conv => whnf)
    all_goals (refine ⟨bool_eq ?_⟩; rw [hm]; simp only [kindOk, beq_iff_eq, decide_eq_true_eq, Bool.false_eq_true, false_iff]; omega)

end Go.Proofs.Ytjoeonhmejnkmaa


namespace Go.Proofs.Ytjoeonhmejnkmaa
open Go.A
set_option linter.unusedVariables false
set_option linter.unusedSimpArgs false
set_option linter.unnecessarySimpa false
attribute [local irreducible] IntKind.wrap bitsI
open B
set_option maxRecDepth 100000
set_option maxHeartbeats 4000000

theorem Rec.ext' {a b : Rec} (h : a.kind_ = b.kind_ ∧ a.shard_ = b.shard_ ∧ a.snap_ = b.snap_ ∧ a.base_ = b.base_ ∧ a.map_ = b.map_ ∧ a.off_ = b.off_ ∧ a.len_ = b.len_ ∧ a.data_ = b.data_) : a = b := by
  cases a; cases b; simp_all
def sameR (a b : Rec) : Prop := a.kind_ = b.kind_ ∧ a.shard_ = b.shard_ ∧ a.snap_ = b.snap_ ∧ a.base_ = b.base_ ∧ a.map_ = b.map_ ∧ a.off_ = b.off_ ∧ a.len_ = b.len_ ∧ a.data_ = b.data_
instance (a b : Rec) : Decidable (sameR a b) := inferInstanceAs (Decidable (_ ∧ _ ∧ _ ∧ _ ∧ _ ∧ _ ∧ _ ∧ _))

theorem f37_ok (a b : Rec) (ha : a.data_.length ≤ 140737488351232) (hb : b.data_.length ≤ 140737488351232) : Pure Try.prog 37 [d26 a, d26 b] (.bool (decide (sameR a b))) := by
  refine Pure.of ⟨scd26 _ _, scd26 _ _, trivial⟩ trivial ?_
  refine CallsIn.of_exec tab_ok mixed Try.func37 rfl rfl [] [] ?_
  repeat' ((conv => whnf); first
    | refine Pure.call (f14_ok _ _ ha hb) ?_ | refine boolF_dec (fun _ => ?_) (fun _ => ?_))
  all_goals (conv => whnf)
  all_goals (refine ⟨bool_eq ?_⟩; simp only [sameR, decide_eq_true_eq, Bool.false_eq_true, false_iff]; simp_all)

end Go.Proofs.Ytjoeonhmejnkmaa


namespace Go.Proofs.Ytjoeonhmejnkmaa
open Go.A
set_option linter.unusedVariables false
set_option linter.unusedSimpArgs false
set_option linter.unnecessarySimpa false
attribute [local irreducible] IntKind.wrap bitsI
open B
set_option maxRecDepth 100000
set_option maxHeartbeats 4000000

theorem may_all {r : Rec} : (∀ n ∈ nums r, numOk n) ↔ numOk r.kind_ ∧ numOk r.shard_ ∧ numOk r.snap_ ∧ numOk r.base_ ∧ numOk r.map_ ∧ numOk r.off_ ∧ numOk r.len_ := by
  simp [nums]
theorem nilEq {l : List Nat} : ([] = l) ↔ l.length = 0 := ⟨fun h => by simp [← h], fun h => (List.length_eq_zero_iff.mp h).symm⟩
theorem f26_ok (r : Rec) (hd : r.data_.length ≤ 140737488351232) : Pure Try.prog 26 [d26 r] (.bool (decide (mayR r))) := by
  refine Pure.of ⟨scd26 _ _, trivial⟩ trivial ?_
  refine CallsIn.of_execN 4 tab_ok mixed Try.func26 rfl rfl [] [] ?_
  repeat' ((conv => whnf); first
    | refine And.intro (by decide) ?_)
  all_goals (conv => whnf)
  refine W_ghost (s' := (D.undef :: .pe (c26 r) :: D.undef :: .p 0 0 0 0 :: D.undef :: D.undef :: D.undef :: D.undef :: D.undef :: D.undef :: D.undef :: D.undef :: D.undef :: D.undef :: D.undef :: D.undef :: D.undef :: D.undef :: D.undef :: D.undef :: D.undef :: D.undef :: D.undef :: D.undef :: D.undef :: D.undef :: D.undef :: D.undef :: D.undef :: D.undef :: D.undef :: D.undef :: D.undef :: D.undef :: D.undef :: D.undef :: D.undef :: D.undef :: D.undef :: D.undef :: D.undef :: D.undef :: D.undef :: D.undef :: D.undef :: D.undef :: D.undef :: D.undef :: D.undef :: D.undef :: D.undef :: D.undef :: D.undef :: D.undef :: D.undef :: D.undef :: D.undef :: D.undef :: D.undef :: D.undef :: D.undef :: D.undef :: D.undef :: D.undef :: D.undef :: D.undef :: D.undef :: D.undef :: D.undef :: D.undef :: D.undef :: D.undef :: D.undef :: D.undef :: D.undef :: D.undef :: D.undef :: D.undef :: D.undef :: D.undef :: D.undef :: D.undef :: D.undef :: D.undef :: D.undef :: D.undef :: D.undef :: D.undef :: D.undef :: D.undef :: D.undef :: D.undef :: D.undef :: D.undef :: D.undef :: D.undef :: D.undef :: [])) (H' := [.arr 0 8 [d26 ⟨r.kind_, 0, 0, 0, 0, 0, 0, []⟩]]) ((Ghost.re (o := 0) (rows' := [d26 ⟨r.kind_, 0, 0, 0, 0, 0, 0, []⟩]) rfl (.cons (.cons .refl (.cons .refl (.cons .refl (.cons .refl (.cons .refl (.cons .refl (.cons .refl (.cons .nils .nil)))))))) .nil)).trans (Ghost.hold [1, 3] rfl)) ?_
  refine exec_ok tab_ok mixed 1000 (bx := [true]) (own := []) ?_
  repeat' ((conv => whnf); first
    | refine PairK.mk (by kernel_rfl) ?_ | refine And.intro (by decide) ?_ | refine And.intro (Nat.le_of_ble_eq_true rfl) ?_ | refine Exists.intro _ (And.intro (⟨(List.length_map _).symm⟩) ?_) | refine Pure.call (f37_ok ⟨r.kind_, r.shard_, r.snap_, r.base_, r.map_, 0, r.len_, []⟩ r (Nat.zero_le _) hd) ?_ | refine Pure.call (f37_ok ⟨r.kind_, 0, 0, 0, 0, r.off_, 0, r.data_⟩ r hd hd) ?_ | refine Pure.call (f37_ok ⟨r.kind_, 0, 0, 0, 0, r.off_, r.len_, []⟩ r (Nat.zero_le _) hd) ?_ | refine Pure.call (f37_ok ⟨r.kind_, 0, 0, 0, 0, 0, r.len_, []⟩ r (Nat.zero_le _) hd) ?_ | refine Pure.call (f38_ok _) ?_
    | refine boolF_dec (fun _ => ?_) (fun _ => ?_))
  all_goals (conv => whnf)
  all_goals (refine ⟨bool_eq ?_⟩; simp only [mayR, may_all, decide_eq_true_eq] at *; simp only [kindOk, sameR, numOk, nilEq, beq_iff_eq, Bool.false_eq_true, false_iff, true_and, and_true] at *; omega)

end Go.Proofs.Ytjoeonhmejnkmaa

