import Derived.Test.YtgigpjkdfhhahaaB4
-- merged
namespace Go.Proofs.Ytgigpjkdfhhahaa.L
open Go.A
set_option linter.unusedVariables false
set_option linter.unusedSimpArgs false
set_option linter.unnecessarySimpa false
attribute [local irreducible] IntKind.wrap bitsI
open B
set_option maxRecDepth 100000
set_option maxHeartbeats 4000000

abbrev Rec := T43
def numOk (n : Int) : Prop := 0 ≤ n ∧ n ≤ 2147483648
instance (n : Int) : Decidable (numOk n) := inferInstanceAs (Decidable (_ ∧ _))
def nums (r : Rec) : List Int := [r.kind_, r.shard_, r.snap_, r.base_, r.map_, r.off_, r.len_]
def kindOk (r : Rec) : Prop :=
  (r.kind_ = 1 ∧ r.off_ = 0 ∧ r.data_.length = 0) ∨
  (r.kind_ = 2 ∧ (r.shard_ = 0 ∧ r.snap_ = 0 ∧ r.base_ = 0 ∧ r.map_ = 0 ∧ r.len_ = 0) ∧ 1 ≤ r.data_.length ∧ r.data_.length ≤ 64) ∨
  (r.kind_ = 3 ∧ (r.shard_ = 0 ∧ r.snap_ = 0 ∧ r.base_ = 0 ∧ r.map_ = 0) ∧ 1 ≤ r.len_ ∧ r.data_.length = 0) ∨
  (r.kind_ = 4 ∧ (r.shard_ = 0 ∧ r.snap_ = 0 ∧ r.base_ = 0 ∧ r.map_ = 0 ∧ r.off_ = 0) ∧ r.data_.length = 0)
instance (r : Rec) : Decidable (kindOk r) := inferInstanceAs (Decidable (_ ∨ _ ∨ _ ∨ _))
def mayR (r : Rec) : Prop := (∀ n ∈ nums r, numOk n) ∧ kindOk r
instance (r : Rec) : Decidable (mayR r) := inferInstanceAs (Decidable (_ ∧ _))

theorem scd44 (k : Nat) (r : Rec) : (d44 r).sc k := ⟨trivial, trivial, trivial, trivial, trivial, trivial, trivial, scd35 _ _, trivial⟩
theorem scc44 (k : Nat) (r : Rec) : scs k (c44 r) := ⟨trivial, trivial, trivial, trivial, trivial, trivial, trivial, scd35 _ _, trivial⟩
theorem scr44 (k : Nat) (l : List Rec) : scs k (l.map r44) := by rw [scs_map]; intro x _; exact scd44 k x
theorem scd40 (k : Nat) (l : List Rec) : (d40 l).sc k := scr44 k l

theorem f77_ok (n : Int) : Pure Try.prog 77 [.int .i64 n] (.bool (!decide (n = 0))) := by
  refine Pure.of ⟨trivial, trivial⟩ trivial ?_
  refine Go.A.CallsIn.of_exec tab_ok mixed Try.func77 rfl rfl [] [] ?_
  (conv => whnf)
  exact ⟨by by_cases h : n = 0 <;> simp [h]⟩

def iR (n : Int) : D := .int .i64 n
theorem scI (k : Nat) (l : List Int) : scs k (l.map iR) := by rw [scs_map]; intro x _; trivial
def nzIx : List Int → Nat → Int
  | [], _ => -1
  | x :: l, i => if x = 0 then nzIx l (i + 1) else (i : Int)
theorem nzIx_spec : ∀ (l : List Int) (i : Nat), (0 ≤ nzIx l i) ↔ ¬ ∀ x ∈ l, x = 0
  | [], i => by simp [nzIx]
  | x :: l, i => by
    rw [nzIx]
    split
    · rename_i h
      rw [nzIx_spec l (i + 1)]
      simp [h]
    · rename_i h
      simp [h]

theorem f82_ok (l : List Int) (hn : l.length ≤ 140737488351232) : Pure Try.prog 82 [.sl (l.map iR), .fn 77 []] (.int .i64 (nzIx l 0)) := by
  refine Pure.of ⟨scI _ _, trivial, trivial⟩ trivial ?_
  refine Go.A.CallsIn.of_exec tab_ok mixed Try.func82 rfl rfl [] [] ?_
  repeat' ((conv => whnf); first
    | refine Exists.intro _ (And.intro (⟨(List.length_map _).symm⟩) ?_))
  all_goals (conv => whnf)
  refine W_loopG (ι := Nat) (fun i => ⟨(.sl (l.map iR) :: .fn 77 [] :: D.undef :: D.undef :: D.undef :: D.undef :: D.undef :: .int .i64 (l.length : Int) :: .int .i64 (i : Int) :: D.undef :: D.undef :: D.undef :: D.undef :: D.undef :: D.undef :: D.undef :: D.undef :: D.undef :: D.undef :: []), []⟩) (fun i => l.length - i)
    (fun i => i ≤ l.length ∧ nzIx (l.drop i) i = nzIx l 0) 0 (Ghost.hold [0, 1, 7, 8] rfl) ⟨Nat.zero_le _, rfl⟩ ?_
  rintro i ⟨h1, h2⟩
  refine exec_ok tab_ok mixed 1000 (bx := []) (own := []) ?_
  rcases Nat.lt_or_ge i l.length with h | h
  · obtain ⟨x, hx⟩ := at_lt h
    rw [drop_of_get hx, nzIx] at h2
    by_cases hok : x = 0
    · rw [if_pos hok] at h2
      repeat' ((conv => whnf); first
        | refine Exists.intro _ (And.intro (map_at (by omega) hx) ?_) | refine And.intro rfl ?_ | refine And.intro (by omega) ?_ | refine Exists.intro _ (And.intro (w64 (by omega) (by omega)) ?_) | refine Pure.call (f77_ok x) ?_ | refine boolF_not ?_ | refine boolF_dect (by assumption) ?_ | refine boolF_dect (by omega) ?_)
      all_goals (conv => whnf)
      exact ⟨i + 1, Ghost.hold [0, 1, 7, 8] rfl, ⟨h, h2⟩, by omega⟩
    · rw [if_neg hok] at h2
      repeat' ((conv => whnf); first
        | refine Exists.intro _ (And.intro (map_at (by omega) hx) ?_) | refine And.intro rfl ?_ | refine And.intro (by omega) ?_ | refine Pure.call (f77_ok x) ?_ | refine boolF_not ?_ | refine boolF_decf (by assumption) ?_ | refine boolF_dect (by omega) ?_)
      all_goals (conv => whnf)
      exact ⟨by rw [h2]⟩
  · rw [List.drop_of_length_le h, nzIx] at h2
    repeat' ((conv => whnf); first
      | refine boolF_decf (by omega) ?_)
    all_goals (conv => whnf)
    exact ⟨by rw [← h2]⟩

theorem f76_ok (l : List Int) (hn : l.length ≤ 140737488351232) : Pure Try.prog 76 [.sl (l.map iR), .fn 77 []] (.bool (!decide (∀ x ∈ l, x = 0))) := by
  refine Pure.of ⟨scI _ _, trivial, trivial⟩ trivial ?_
  refine Go.A.CallsIn.of_exec tab_ok mixed Try.func76 rfl rfl [] [] ?_
  repeat' ((conv => whnf); first
    | refine Pure.call (f82_ok _ hn) ?_)
  all_goals (conv => whnf)
  have := nzIx_spec l 0
  exact ⟨by simp only [ge_iff_le, decide_eq_decide.mpr this, decide_not]⟩

theorem f73_ok (l : List Int) (hn : l.length ≤ 140737488351232) : Pure Try.prog 73 [.sl (l.map iR)] (.bool (decide (∀ x ∈ l, x = 0))) := by
  refine Pure.of ⟨scI _ _, trivial⟩ trivial ?_
  refine Go.A.CallsIn.of_exec tab_ok mixed Try.func73 rfl rfl [] [] ?_
  repeat' ((conv => whnf); first
    | refine Pure.call (f76_ok _ hn) ?_)
  all_goals (conv => whnf)
  exact ⟨by simp⟩

def ptrs (r : Rec) : List D := [.pe (c44 r), .pe ((c44 r).drop 1), .pe ((c44 r).drop 2), .pe ((c44 r).drop 3), .pe ((c44 r).drop 4), .pe ((c44 r).drop 5), .pe ((c44 r).drop 6)]
theorem scP (k : Nat) (r : Rec) : scs k (ptrs r) := ⟨scc44 _ _, (scc44 k r).2, (scc44 k r).2.2, (scc44 k r).2.2.2, (scc44 k r).2.2.2.2, (scc44 k r).2.2.2.2.2, (scc44 k r).2.2.2.2.2.2, trivial⟩
theorem f72_ok (r : Rec) : Pure Try.prog 72 [.pe (c44 r)] (.sl (ptrs r)) := by
  refine Pure.of ⟨scc44 _ _, trivial⟩ (scP _ _) ?_
  refine Go.A.CallsIn.of_exec tab_ok mixed Try.func72 rfl rfl [] [] ?_
  repeat' ((conv => whnf); first
    | refine PairK.mk (by kernel_rfl) ?_)
  all_goals (conv => whnf)
  exact ⟨rfl⟩

theorem f61_ok (n : Int) : Pure Try.prog 61 [.int .i64 n] (.bool (decide (numOk n))) := by
  refine Pure.of ⟨trivial, trivial⟩ trivial ?_
  refine Go.A.CallsIn.of_exec tab_ok mixed Try.func61 rfl rfl [] [] ?_
  repeat' ((conv => whnf); first
    | refine boolF_dec (fun _ => ?_) (fun _ => ?_))
  all_goals (conv => whnf)
  · rename_i h1; exact ⟨by simp [numOk, h1]⟩
  · rename_i h1; exact ⟨by simp [numOk, h1]⟩

end Go.Proofs.Ytgigpjkdfhhahaa.L


namespace Go.Proofs.Ytgigpjkdfhhahaa.L
open Go.A
set_option linter.unusedVariables false
set_option linter.unusedSimpArgs false
set_option linter.unnecessarySimpa false
attribute [local irreducible] IntKind.wrap bitsI
open B
set_option maxRecDepth 100000
set_option maxHeartbeats 4000000

theorem ptr_at (r : Rec) : ∀ {i : Nat}, i < 7 → ∃ n rest, (nums r)[i]? = some n ∧ (ptrs r)[i]? = some (.pe (.int .i64 n :: rest))
  | 0, _ => ⟨_, _, rfl, rfl⟩
  | 1, _ => ⟨_, _, rfl, rfl⟩
  | 2, _ => ⟨_, _, rfl, rfl⟩
  | 3, _ => ⟨_, _, rfl, rfl⟩
  | 4, _ => ⟨_, _, rfl, rfl⟩
  | 5, _ => ⟨_, _, rfl, rfl⟩
  | 6, _ => ⟨_, _, rfl, rfl⟩
  | n + 7, h => by omega
theorem all_takeN {l : List Int} {i : Nat} {n : Int} (h : l[i]? = some n) (hn : numOk n) (ht : ∀ x ∈ l.take i, numOk x) : ∀ x ∈ l.take (i + 1), numOk x := by
  rw [List.take_add_one, h]
  intro x hx
  rcases List.mem_append.mp hx with hx | hx
  · exact ht x hx
  · simp at hx; subst hx; exact hn

theorem i5 (a b c d e : Int) : Pure Try.prog 73 [.sl [.int .i64 a, .int .i64 b, .int .i64 c, .int .i64 d, .int .i64 e]] (.bool (decide (a = 0 ∧ b = 0 ∧ c = 0 ∧ d = 0 ∧ e = 0))) := by
  have := f73_ok [a, b, c, d, e] (by simp)
  simpa [iR] using this
theorem i4 (a b c d : Int) : Pure Try.prog 73 [.sl [.int .i64 a, .int .i64 b, .int .i64 c, .int .i64 d]] (.bool (decide (a = 0 ∧ b = 0 ∧ c = 0 ∧ d = 0))) := by
  have := f73_ok [a, b, c, d] (by simp)
  simpa [iR] using this

theorem bool_eq {a : Bool} {p : Prop} [Decidable p] (h : a = true ↔ p) : D.bool a = D.bool (decide p) := by
  congr 1; by_cases hp : p <;> simp [hp] at h ⊢ <;> exact h

theorem f66_ok (r : Rec) (hd : r.data_.length ≤ 140737488351232) : Pure Try.prog 66 [d44 r] (.bool (decide (mayR r))) := by
  refine Pure.of ⟨scd44 _ _, trivial⟩ trivial ?_
  refine Go.A.CallsIn.of_exec tab_ok mixed Try.func66 rfl rfl [] [] ?_
  repeat' ((conv => whnf); first
    | refine Exists.intro _ (And.intro (⟨Eq.refl (α := Nat) _⟩) ?_) | refine Pure.call (f72_ok r) ?_)
  all_goals (conv => whnf)
  refine W_loopG (ι := Nat) (fun i => ⟨(D.undef :: .pe (c44 r) :: D.undef :: D.undef :: D.undef :: .sl (ptrs r) :: .int .i64 7 :: .int .i64 (i : Int) :: D.undef :: D.undef :: D.undef :: D.undef :: D.undef :: D.undef :: D.undef :: D.undef :: D.undef :: D.undef :: D.undef :: D.undef :: D.undef :: D.undef :: D.undef :: D.undef :: D.undef :: D.undef :: D.undef :: D.undef :: D.undef :: D.undef :: D.undef :: D.undef :: D.undef :: D.undef :: D.undef :: D.undef :: D.undef :: D.undef :: D.undef :: D.undef :: D.undef :: D.undef :: D.undef :: D.undef :: D.undef :: D.undef :: D.undef :: D.undef :: D.undef :: D.undef :: D.undef :: D.undef :: D.undef :: D.undef :: D.undef :: D.undef :: D.undef :: D.undef :: D.undef :: D.undef :: D.undef :: D.undef :: D.undef :: D.undef :: D.undef :: D.undef :: D.undef :: D.undef :: D.undef :: D.undef :: D.undef :: D.undef :: D.undef :: D.undef :: D.undef :: D.undef :: D.undef :: D.undef :: D.undef :: D.undef :: D.undef :: D.undef :: D.undef :: D.undef :: D.undef :: D.undef :: D.undef :: D.undef :: D.undef :: D.undef :: D.undef :: D.undef :: D.undef :: D.undef :: D.undef :: D.undef :: D.undef :: D.undef :: D.undef :: D.undef :: D.undef :: D.undef :: D.undef :: D.undef :: []), []⟩) (fun i => 7 - i)
    (fun i => i ≤ 7 ∧ ∀ x ∈ (nums r).take i, numOk x) 0 (Ghost.hold [1, 5, 6, 7] rfl) ⟨Nat.zero_le _, fun x hx => by simp at hx⟩ ?_
  rintro i ⟨h1, h2⟩
  refine exec_ok tab_ok mixed 1000 (bx := []) (own := []) ?_
  rcases Nat.lt_or_ge i 7 with h | h
  · obtain ⟨n, rest, hn, hp⟩ := ptr_at r h
    repeat' ((conv => whnf); first
      | refine Exists.intro _ (And.intro (hp) ?_) | refine And.intro rfl ?_ | refine And.intro (by omega) ?_ | refine Exists.intro _ (And.intro (w64 (by omega) (by omega)) ?_) | refine boolF_dect (by omega) ?_ | refine boolF_dec (fun _ => ?_) (fun _ => ?_))
    all_goals (conv => whnf)
    · rename_i g1
      exact ⟨bool_eq (by simp only [Bool.false_eq_true, false_iff]; intro hm; have := hm.1 n (List.mem_of_getElem? hn); exact absurd this.1 (by omega))⟩
    · rename_i g1 g2
      exact ⟨bool_eq (by simp only [Bool.false_eq_true, false_iff]; intro hm; have := hm.1 n (List.mem_of_getElem? hn); exact absurd this.2 (by omega))⟩
    · exact ⟨i + 1, Ghost.hold [1, 5, 6, 7] rfl, ⟨h, all_takeN hn ⟨by omega, by omega⟩ h2⟩, by omega⟩
  · have hm : mayR r ↔ kindOk r := ⟨fun g => g.2, fun g => ⟨fun x hx => h2 x (by rw [List.take_of_length_le (show (nums r).length ≤ i from h)]; exact hx), g⟩⟩
    repeat' ((conv => whnf); first
      | refine Exists.intro _ (And.intro (⟨(List.length_map _).symm⟩) ?_) | refine Pure.call (i5 _ _ _ _ _) ?_ | refine Pure.call (i4 _ _ _ _) ?_ | refine boolF_decf (by omega) ?_ | refine boolF_dec (fun _ => ?_) (fun _ => ?_))
    all_goals (conv => whnf)
    all_goals (refine ⟨bool_eq ?_⟩; rw [hm]; simp only [kindOk, beq_iff_eq, decide_eq_true_eq, Bool.false_eq_true, false_iff]; omega)

end Go.Proofs.Ytgigpjkdfhhahaa.L


namespace Go.Proofs.Ytgigpjkdfhhahaa.L
open Go.A
set_option linter.unusedVariables false
set_option linter.unusedSimpArgs false
set_option linter.unnecessarySimpa false
attribute [local irreducible] IntKind.wrap bitsI
open B
set_option maxRecDepth 100000
set_option maxHeartbeats 4000000

theorem Rec.ext' {a b : Rec} (h : a.kind_ = b.kind_ ∧ a.shard_ = b.shard_ ∧ a.snap_ = b.snap_ ∧ a.base_ = b.base_ ∧ a.map_ = b.map_ ∧ a.off_ = b.off_ ∧ a.len_ = b.len_ ∧ a.data_ = b.data_) : a = b := by
  cases a; cases b; simp_all
def sameR (a b : Rec) : Prop := a.kind_ = b.kind_ ∧ a.shard_ = b.shard_ ∧ a.snap_ = b.snap_ ∧ a.base_ = b.base_ ∧ a.map_ = b.map_ ∧ a.off_ = b.off_ ∧ a.len_ = b.len_ ∧ a.data_ = b.data_
instance (a b : Rec) : Decidable (sameR a b) := inferInstanceAs (Decidable (_ ∧ _ ∧ _ ∧ _ ∧ _ ∧ _ ∧ _ ∧ _))

theorem f60_ok (a b : Rec) (ha : a.data_.length ≤ 140737488351232) (hb : b.data_.length ≤ 140737488351232) : Pure Try.prog 60 [d44 a, d44 b] (.bool (decide (sameR a b))) := by
  refine Pure.of ⟨scd44 _ _, scd44 _ _, trivial⟩ trivial ?_
  refine Go.A.CallsIn.of_exec tab_ok mixed Try.func60 rfl rfl [] [] ?_
  repeat' ((conv => whnf); first
    | refine Pure.call (f22_ok _ _ ha hb) ?_ | refine boolF_dec (fun _ => ?_) (fun _ => ?_))
  all_goals (conv => whnf)
  all_goals (refine ⟨bool_eq ?_⟩; simp only [sameR, decide_eq_true_eq, Bool.false_eq_true, false_iff]; simp_all)

end Go.Proofs.Ytgigpjkdfhhahaa.L


namespace Go.Proofs.Ytgigpjkdfhhahaa.L
open Go.A
set_option linter.unusedVariables false
set_option linter.unusedSimpArgs false
set_option linter.unnecessarySimpa false
attribute [local irreducible] IntKind.wrap bitsI
open B
set_option maxRecDepth 100000
set_option maxHeartbeats 4000000

theorem may_all {r : Rec} : (∀ n ∈ nums r, numOk n) ↔ numOk r.kind_ ∧ numOk r.shard_ ∧ numOk r.snap_ ∧ numOk r.base_ ∧ numOk r.map_ ∧ numOk r.off_ ∧ numOk r.len_ := by
  simp [nums]
theorem nilEq {l : List Nat} : ([] = l) ↔ l.length = 0 := ⟨fun h => by simp [← h], fun h => (List.length_eq_zero_iff.mp h).symm⟩
theorem f37_ok (r : Rec) (hd : r.data_.length ≤ 140737488351232) : Pure Try.prog 37 [d44 r] (.bool (decide (mayR r))) := by
  refine Pure.of ⟨scd44 _ _, trivial⟩ trivial ?_
  refine Go.A.CallsIn.of_execN 4 tab_ok mixed Try.func37 rfl rfl [] [] ?_
  repeat' ((conv => whnf); first
    | refine And.intro (by decide) ?_)
  all_goals (conv => whnf)
  refine W_ghost (s' := (D.undef :: .pe (c44 r) :: D.undef :: .p 0 0 0 0 :: D.undef :: D.undef :: D.undef :: D.undef :: D.undef :: D.undef :: D.undef :: D.undef :: D.undef :: D.undef :: D.undef :: D.undef :: D.undef :: D.undef :: D.undef :: D.undef :: D.undef :: D.undef :: D.undef :: D.undef :: D.undef :: D.undef :: D.undef :: D.undef :: D.undef :: D.undef :: D.undef :: D.undef :: D.undef :: D.undef :: D.undef :: D.undef :: D.undef :: D.undef :: D.undef :: D.undef :: D.undef :: D.undef :: D.undef :: D.undef :: D.undef :: D.undef :: D.undef :: D.undef :: D.undef :: D.undef :: D.undef :: D.undef :: D.undef :: D.undef :: D.undef :: D.undef :: D.undef :: D.undef :: D.undef :: D.undef :: D.undef :: D.undef :: D.undef :: D.undef :: D.undef :: D.undef :: D.undef :: D.undef :: D.undef :: D.undef :: D.undef :: D.undef :: D.undef :: D.undef :: D.undef :: D.undef :: D.undef :: D.undef :: D.undef :: D.undef :: D.undef :: D.undef :: D.undef :: D.undef :: D.undef :: D.undef :: D.undef :: D.undef :: D.undef :: D.undef :: D.undef :: D.undef :: D.undef :: D.undef :: D.undef :: D.undef :: D.undef :: [])) (H' := [.arr 0 8 [d44 ⟨r.kind_, 0, 0, 0, 0, 0, 0, []⟩]]) ((Ghost.re (o := 0) (rows' := [d44 ⟨r.kind_, 0, 0, 0, 0, 0, 0, []⟩]) rfl (.cons (.cons .refl (.cons .refl (.cons .refl (.cons .refl (.cons .refl (.cons .refl (.cons .refl (.cons .nils .nil)))))))) .nil)).trans (Ghost.hold [1, 3] rfl)) ?_
  refine exec_ok tab_ok mixed 1000 (bx := [true]) (own := []) ?_
  repeat' ((conv => whnf); first
    | refine PairK.mk (by kernel_rfl) ?_ | refine And.intro (by decide) ?_ | refine And.intro (Nat.le_of_ble_eq_true rfl) ?_ | refine Exists.intro _ (And.intro (⟨(List.length_map _).symm⟩) ?_) | refine Pure.call (f60_ok ⟨r.kind_, r.shard_, r.snap_, r.base_, r.map_, 0, r.len_, []⟩ r (Nat.zero_le _) hd) ?_ | refine Pure.call (f60_ok ⟨r.kind_, 0, 0, 0, 0, r.off_, 0, r.data_⟩ r hd hd) ?_ | refine Pure.call (f60_ok ⟨r.kind_, 0, 0, 0, 0, r.off_, r.len_, []⟩ r (Nat.zero_le _) hd) ?_ | refine Pure.call (f60_ok ⟨r.kind_, 0, 0, 0, 0, 0, r.len_, []⟩ r (Nat.zero_le _) hd) ?_ | refine Pure.call (f61_ok _) ?_
    | refine boolF_dec (fun _ => ?_) (fun _ => ?_))
  all_goals (conv => whnf)
  all_goals (refine ⟨bool_eq ?_⟩; simp only [mayR, may_all, decide_eq_true_eq] at *; simp only [kindOk, sameR, numOk, nilEq, beq_iff_eq, Bool.false_eq_true, false_iff, true_and, and_true] at *; omega)

end Go.Proofs.Ytgigpjkdfhhahaa.L


namespace Go.Proofs.Ytgigpjkdfhhahaa.L
open Go.A
set_option linter.unusedVariables false
set_option linter.unusedSimpArgs false
set_option linter.unnecessarySimpa false
attribute [local irreducible] IntKind.wrap bitsI
open B
set_option maxRecDepth 100000
set_option maxHeartbeats 4000000

abbrev Op := B.Op
def opOf (r : Rec) : Op := if r.kind_ = 2 then ⟨1, r.off_, 0, r.data_⟩ else ⟨2, r.off_, r.len_, []⟩
theorem f63_ok (r : Rec) : Pure Try.prog 63 [d44 r] (d91 (opOf r)) := by
  refine Pure.ofT ⟨scd44 _ _, trivial⟩ (scd91 _ _) ?_
  refine Go.A.CallsIn.of_exec tab_ok mixed Try.func63 rfl rfl [] [] ?_
  by_cases h : r.kind_ = 2
  · rw [opOf, if_pos h]
    repeat' ((conv => whnf); first
      | refine And.intro (by decide) ?_ | refine Exists.intro _ (And.intro (Eq.refl (α := Option D) _) ?_) | refine boolF_dect (by assumption) ?_)
    all_goals (conv => whnf)
    exact ⟨Told.refl⟩
  · rw [opOf, if_neg h]
    repeat' ((conv => whnf); first
      | refine And.intro (by decide) ?_ | refine Exists.intro _ (And.intro (Eq.refl (α := Option D) _) ?_) | refine boolF_decf (by assumption) ?_)
    all_goals (conv => whnf)
    exact ⟨Told.wk (.agg (.cons .refl (.cons .refl (.cons .refl (.cons .nils .nil)))))⟩

/-- The list of a stream's records. -/
structure Strm (L : List Rec) (h : Rec) (ms : List Rec) (t : Rec) : Prop where
  eq : L = h :: (ms ++ [t])
  k0 : h.kind_ = 1
  kt : t.kind_ = 4
theorem Strm.len {L h ms t} (s : Strm L h ms t) : L.length = ms.length + 2 := by rw [s.eq]; simp
theorem Strm.at0 {L h ms t} (s : Strm L h ms t) : L[0]? = some h := by rw [s.eq]; rfl
theorem Strm.atn {L h ms t} (s : Strm L h ms t) : L[ms.length + 1]? = some t := by rw [s.eq, List.getElem?_cons_succ]; simp
theorem Strm.ati {L h ms t} (s : Strm L h ms t) {i : Nat} {m : Rec} (hm : ms[i]? = some m) : L[i + 1]? = some m := by
  rw [s.eq, List.getElem?_cons_succ, List.getElem?_append_left (List.getElem?_eq_some_iff.mp hm).1, hm]

theorem f62_ok {L h ms t} (s : Strm L h ms t) (hL : L.length ≤ 140737488351232) (hk : ∀ m ∈ ms, m.kind_ ≠ 1 ∧ m.kind_ ≠ 4) : Pure Try.prog 62 [d40 L] (.bool true) := by
  have hl := s.len
  have h0 := s.at0
  have hn := s.atn
  have k0 := s.k0
  have kt := s.kt
  refine Pure.of ⟨scd40 _ _, trivial⟩ trivial ?_
  refine Go.A.CallsIn.of_exec tab_ok mixed Try.func62 rfl rfl [] [] ?_
  repeat' ((conv => whnf); first
    | refine Exists.intro _ (And.intro (map_at (by omega) h0) ?_) | refine Exists.intro _ (And.intro (map_at (by omega) hn) ?_) | refine And.intro (by decide) ?_ | refine And.intro rfl ?_ | refine And.intro (by omega) ?_ | refine Exists.intro _ (And.intro (⟨(List.length_map _).symm⟩) ?_) | refine Exists.intro _ (And.intro (w64 (by omega) (by omega)) ?_) | refine boolF_not ?_ | refine boolF_dect (by assumption) ?_ | refine boolF_decf (by omega) ?_)
  all_goals (conv => whnf)
  refine W_loopG (ι := Nat) (fun i => ⟨(d40 L :: D.undef :: D.undef :: .int .i64 (L.length : Int) :: .int .i64 ((i + 1 : Nat) : Int) :: D.undef :: D.undef :: D.undef :: D.undef :: D.undef :: D.undef :: D.undef :: D.undef :: D.undef :: D.undef :: D.undef :: D.undef :: D.undef :: D.undef :: D.undef :: D.undef :: D.undef :: D.undef :: D.undef :: D.undef :: D.undef :: D.undef :: D.undef :: D.undef :: D.undef :: D.undef :: D.undef :: D.undef :: D.undef :: D.undef :: D.undef :: D.undef :: D.undef :: D.undef :: D.undef :: D.undef :: D.undef :: D.undef :: D.undef :: D.undef :: []), []⟩) (fun i => ms.length - i)
    (fun i => i ≤ ms.length) 0 (Ghost.hold [0, 3, 4] rfl) (Nat.zero_le _) ?_
  rintro i h1
  refine exec_ok tab_ok mixed 1000 (bx := []) (own := []) ?_
  rcases Nat.lt_or_ge i ms.length with h | h
  · obtain ⟨x, hx0⟩ := at_lt h
    have hx := s.ati hx0
    have hxk := hk x (List.mem_of_getElem? hx0)
    repeat' ((conv => whnf); first
      | refine Exists.intro _ (And.intro (map_at (by omega) hx) ?_) | refine And.intro rfl ?_ | refine And.intro (by omega) ?_ | refine Exists.intro _ (And.intro (w64 (by omega) (by omega)) ?_) | refine boolF_dect (by omega) ?_ | refine boolF_decf (by omega) ?_)
    all_goals (conv => whnf)
    exact ⟨i + 1, Ghost.hold [0, 3, 4] rfl, h, by omega⟩
  · repeat' ((conv => whnf); first
      | refine Exists.intro _ (And.intro (w64 (by omega) (by omega)) ?_) | refine boolF_decf (by omega) ?_)
    all_goals (conv => whnf)
    exact ⟨rfl⟩

end Go.Proofs.Ytgigpjkdfhhahaa.L


namespace Go.Proofs.Ytgigpjkdfhhahaa.L
open Go.A
set_option linter.unusedVariables false
set_option linter.unusedSimpArgs false
set_option linter.unnecessarySimpa false
attribute [local irreducible] IntKind.wrap bitsI
open B
set_option maxRecDepth 100000
set_option maxHeartbeats 4000000

def endOf (o : Op) : Int := (rng o).1 + (rng o).2
def fits (n : Int) : Int → List Rec → Prop
  | _, [] => True
  | b, m :: ms => okOp n (opOf m) ∧ b ≤ (opOf m).off_ ∧ fits n (endOf (opOf m)) ms
def fitsDec (n : Int) : ∀ (b : Int) (ms : List Rec), Decidable (fits n b ms)
  | _, [] => isTrue trivial
  | b, m :: ms => @instDecidableAnd _ _ _ (@instDecidableAnd _ _ _ (fitsDec n (endOf (opOf m)) ms))
instance (n b : Int) (ms : List Rec) : Decidable (fits n b ms) := fitsDec n b ms
def allMay (L : List Rec) : Prop := ∀ r ∈ L, mayR r
instance (L : List Rec) : Decidable (allMay L) := inferInstanceAs (Decidable (∀ r ∈ L, mayR r))
def bigR (L : List Rec) : Prop := ∀ r ∈ L, r.data_.length ≤ 140737488351232
def checkM (L : List Rec) (h : Rec) (ms : List Rec) : Int := if ¬ allMay L then 1 else if 1024 < h.len_ then 6 else if fits h.len_ 0 ms then 0 else 5
theorem may_take {L : List Rec} {i : Nat} {x : Rec} (h : L[i]? = some x) (hx : mayR x) (ht : ∀ r ∈ L.take i, mayR r) : ∀ r ∈ L.take (i + 1), mayR r := by
  rw [List.take_add_one, h]
  intro y hy
  rcases List.mem_append.mp hy with hy | hy
  · exact ht y hy
  · simp at hy; subst hy; exact hx
theorem opOf_big {r : Rec} (h : r.data_.length ≤ 140737488351232) : (opOf r).data_.length ≤ 140737488351232 := by
  rw [opOf]; split
  · exact h
  · exact Nat.zero_le _

theorem f38_ok {L h ms t} (s : Strm L h ms t) (hL : L.length ≤ 140737488351232) (hb : bigR L) (hk : ∀ m ∈ ms, m.kind_ ≠ 1 ∧ m.kind_ ≠ 4) (ht : t.len_ = (ms.length : Int)) : Pure Try.prog 38 [d40 L] (.int .i64 (checkM L h ms)) := by
  have hl := s.len
  have h0 := s.at0
  have hn := s.atn
  refine Pure.of ⟨scd40 _ _, trivial⟩ trivial ?_
  refine Go.A.CallsIn.of_exec tab_ok mixed Try.func38 rfl rfl [] [] ?_
  (conv => whnf)
  refine W_loopG (ι := Nat) (fun i => ⟨(d40 L :: D.undef :: D.undef :: .int .i64 (i : Int) :: D.undef :: D.undef :: D.undef :: D.undef :: D.undef :: D.undef :: D.undef :: D.undef :: D.undef :: D.undef :: D.undef :: D.undef :: D.undef :: D.undef :: D.undef :: D.undef :: D.undef :: D.undef :: D.undef :: D.undef :: D.undef :: D.undef :: D.undef :: D.undef :: D.undef :: D.undef :: D.undef :: D.undef :: D.undef :: D.undef :: D.undef :: D.undef :: D.undef :: D.undef :: D.undef :: D.undef :: D.undef :: D.undef :: D.undef :: D.undef :: D.undef :: D.undef :: D.undef :: D.undef :: D.undef :: D.undef :: D.undef :: D.undef :: D.undef :: D.undef :: D.undef :: D.undef :: D.undef :: D.undef :: D.undef :: D.undef :: D.undef :: D.undef :: D.undef :: D.undef :: D.undef :: D.undef :: D.undef :: D.undef :: D.undef :: D.undef :: D.undef :: D.undef :: []), []⟩) (fun i => L.length - i)
    (fun i => i ≤ L.length ∧ ∀ r ∈ L.take i, mayR r) 0 (Ghost.hold [0, 3] rfl) ⟨Nat.zero_le _, fun r hr => by simp at hr⟩ ?_
  rintro i ⟨h1, h2⟩
  refine exec_ok tab_ok mixed 1000 (bx := []) (own := []) ?_
  rcases Nat.lt_or_ge i L.length with g | g
  · obtain ⟨x, hx⟩ := at_lt g
    have hxd := hb x (List.mem_of_getElem? hx)
    by_cases hm : mayR x
    · repeat' ((conv => whnf); first
        | refine Exists.intro _ (And.intro (map_at (by omega) hx) ?_) | refine And.intro rfl ?_ | refine And.intro (by omega) ?_ | refine Exists.intro _ (And.intro (⟨(List.length_map _).symm⟩) ?_) | refine Exists.intro _ (And.intro (w64 (by omega) (by omega)) ?_) | refine Pure.call (f37_ok _ hxd) ?_ | refine boolF_not ?_ | refine boolF_dect (by assumption) ?_ | refine boolF_dect (by omega) ?_)
      all_goals (conv => whnf)
      exact ⟨i + 1, Ghost.hold [0, 3] rfl, ⟨g, may_take hx hm h2⟩, by omega⟩
    · repeat' ((conv => whnf); first
        | refine Exists.intro _ (And.intro (map_at (by omega) hx) ?_) | refine And.intro rfl ?_ | refine And.intro (by omega) ?_ | refine Exists.intro _ (And.intro (⟨(List.length_map _).symm⟩) ?_) | refine Pure.call (f37_ok _ hxd) ?_ | refine boolF_not ?_ | refine boolF_decf (by assumption) ?_ | refine boolF_dect (by omega) ?_)
      all_goals (conv => whnf)
      have : ¬ allMay L := fun q => hm (q x (List.mem_of_getElem? hx))
      exact ⟨by rw [checkM, if_pos this]⟩
  · have ha : allMay L := fun r hr => h2 r (by rw [List.take_of_length_le g]; exact hr)
    have hc : checkM L h ms = if 1024 < h.len_ then 6 else if fits h.len_ 0 ms then 0 else 5 := by rw [checkM, if_neg (by simp [ha])]
    clear h2
    by_cases hbig : 1024 < h.len_
    · rw [if_pos hbig] at hc
      repeat' ((conv => whnf); first
        | refine Exists.intro _ (And.intro (map_at (by omega) h0) ?_) | refine And.intro (by decide) ?_ | refine And.intro rfl ?_ | refine Exists.intro _ (And.intro (⟨(List.length_map _).symm⟩) ?_) | refine Pure.call (f62_ok s hL hk) ?_ | refine boolF_dect (by assumption) ?_ | refine boolF_decf (by omega) ?_)
      all_goals (conv => whnf)
      exact ⟨by rw [hc]⟩
    · rw [if_neg hbig] at hc
      repeat' ((conv => whnf); first
        | refine Exists.intro _ (And.intro (map_at (by omega) h0) ?_) | refine And.intro (by decide) ?_ | refine And.intro rfl ?_ | refine Exists.intro _ (And.intro (⟨(List.length_map _).symm⟩) ?_) | refine Pure.call (f62_ok s hL hk) ?_ | refine boolF_decf (by assumption) ?_ | refine boolF_decf (by omega) ?_)
      all_goals (conv => whnf)
      refine W_loopG (ι := Nat × Int) (fun i => ⟨(d40 L :: D.undef :: D.undef :: D.undef :: .int .i64 i.2 :: .int .i64 ((i.1 + 1 : Nat) : Int) :: D.undef :: D.undef :: D.undef :: D.undef :: D.undef :: D.undef :: D.undef :: D.undef :: D.undef :: D.undef :: D.undef :: D.undef :: D.undef :: D.undef :: D.undef :: D.undef :: D.undef :: D.undef :: D.undef :: D.undef :: D.undef :: D.undef :: D.undef :: D.undef :: D.undef :: D.undef :: D.undef :: D.undef :: D.undef :: D.undef :: D.undef :: D.undef :: D.undef :: D.undef :: D.undef :: D.undef :: D.undef :: D.undef :: D.undef :: D.undef :: D.undef :: D.undef :: D.undef :: D.undef :: D.undef :: D.undef :: D.undef :: D.undef :: D.undef :: D.undef :: D.undef :: D.undef :: D.undef :: D.undef :: D.undef :: D.undef :: D.undef :: D.undef :: D.undef :: D.undef :: D.undef :: D.undef :: D.undef :: D.undef :: D.undef :: D.undef :: []), []⟩) (fun i => ms.length - i.1)
        (fun i => i.1 ≤ ms.length ∧ 0 ≤ i.2 ∧ i.2 ≤ 1024 ∧ (fits h.len_ i.2 (ms.drop i.1) ↔ fits h.len_ 0 ms)) (0, 0) (Ghost.hold [0, 4, 5] rfl) ⟨Nat.zero_le _, by decide, by decide, Iff.rfl⟩ ?_
      rintro ⟨j, b⟩ ⟨i1, i2, i3, i4⟩
      dsimp only at i1 i2 i3 i4 ⊢
      refine exec_ok tab_ok mixed 1000 (bx := []) (own := []) ?_
      rcases Nat.lt_or_ge j ms.length with q | q
      · obtain ⟨x, hx0⟩ := at_lt q
        have hx := s.ati hx0
        have hxd := hb x (List.mem_of_getElem? hx)
        have hxo := opOf_big hxd
        rw [drop_of_get hx0, fits] at i4
        by_cases ho : okOp h.len_ (opOf x)
        · have hd := dat_len ho
          by_cases hlt : (opOf x).off_ < b
          · repeat' ((conv => whnf); first
              | refine PairK.mk (by kernel_rfl) ?_ | refine Exists.intro _ (And.intro (map_at (by omega) h0) ?_) | refine Exists.intro _ (And.intro (map_at (by omega) hx) ?_) | refine And.intro (by decide) ?_ | refine And.intro rfl ?_ | refine And.intro (by omega) ?_ | refine Exists.intro _ (And.intro (⟨(List.length_map _).symm⟩) ?_) | refine Exists.intro _ (And.intro (w64 (by omega) (by omega)) ?_) | refine Pure.call (f63_ok _) ?_ | refine Pure.call (f64_ok _ hxo) ?_ | refine Pure.locK (f45_ok _ _ hxo) ?_ | refine boolF_not ?_ | refine boolF_dect (by assumption) ?_ | refine boolF_dect (by omega) ?_)
            all_goals (conv => whnf)
            have hnf : ¬ fits h.len_ 0 ms := fun hf => by have := (i4.mpr hf).2.1; omega
            exact ⟨by rw [hc, if_neg hnf]⟩
          · repeat' ((conv => whnf); first
              | refine PairK.mk (by kernel_rfl) ?_ | refine Exists.intro _ (And.intro (map_at (by omega) h0) ?_) | refine Exists.intro _ (And.intro (map_at (by omega) hx) ?_) | refine And.intro (by decide) ?_ | refine And.intro rfl ?_ | refine And.intro (by omega) ?_ | refine Exists.intro _ (And.intro (⟨(List.length_map _).symm⟩) ?_) | refine Exists.intro _ (And.intro (w64 (by omega) (by omega)) ?_) | refine Pure.call (f63_ok _) ?_ | refine Pure.call (f64_ok _ hxo) ?_ | refine Pure.locK (f45_ok _ _ hxo) ?_ | refine boolF_not ?_ | refine boolF_dect (by assumption) ?_ | refine boolF_dect (by omega) ?_
              | refine boolF_decf (by omega) ?_)
            all_goals (conv => whnf)
            refine ⟨(j + 1, endOf (opOf x)), Ghost.back [0, 4, 5] 0 rfl rfl (Nat.zero_le _) (by simp [scs, D.sc, scd40]) (fun ob hob => by cases hob), ⟨q, ?_, ?_, ?_⟩, by dsimp only; omega⟩
            · simp only [endOf]; have := ho.2.2.1; omega
            · simp only [endOf]; have := ho.2.1; omega
            · rw [← i4]; exact ⟨fun hf => ⟨ho, by omega, hf⟩, fun hf => hf.2.2⟩
        · repeat' ((conv => whnf); first
            | refine PairK.mk (by kernel_rfl) ?_ | refine Exists.intro _ (And.intro (map_at (by omega) h0) ?_) | refine Exists.intro _ (And.intro (map_at (by omega) hx) ?_) | refine And.intro (by decide) ?_ | refine And.intro rfl ?_ | refine And.intro (by omega) ?_ | refine Exists.intro _ (And.intro (⟨(List.length_map _).symm⟩) ?_) | refine Exists.intro _ (And.intro (w64 (by omega) (by omega)) ?_) | refine Pure.call (f63_ok _) ?_ | refine Pure.call (f64_ok _ hxo) ?_ | refine Pure.locK (f45_ok _ _ hxo) ?_ | refine boolF_not ?_ | refine boolF_decf (by assumption) ?_ | refine boolF_dect (by omega) ?_)
          all_goals (conv => whnf)
          have hnf : ¬ fits h.len_ 0 ms := fun hf => ho (i4.mpr hf).1
          exact ⟨by rw [hc, if_neg hnf]⟩
      · repeat' ((conv => whnf); first
          | refine Exists.intro _ (And.intro (map_at (by omega) hn) ?_) | refine And.intro rfl ?_ | refine And.intro (by omega) ?_ | refine Exists.intro _ (And.intro (⟨(List.length_map _).symm⟩) ?_) | refine Exists.intro _ (And.intro (w64 (by omega) (by omega)) ?_) | refine boolF_not ?_ | refine boolF_dect (by omega) ?_ | refine boolF_decf (by omega) ?_)
        all_goals (conv => whnf)
        rw [List.drop_of_length_le q] at i4
        exact ⟨by rw [hc, if_pos (i4.mp trivial)]⟩

end Go.Proofs.Ytgigpjkdfhhahaa.L


namespace Go.Proofs.Ytgigpjkdfhhahaa.L
open Go.A
set_option linter.unusedVariables false
set_option linter.unusedSimpArgs false
set_option linter.unnecessarySimpa false
attribute [local irreducible] IntKind.wrap bitsI
open B
set_option maxRecDepth 100000
set_option maxHeartbeats 4000000

def kd (o : Op) : Int := if o.kind_ = 1 then 2 else if o.kind_ = 2 then 3 else 0
def recOf (o : Op) : Rec := ⟨kd o, 0, 0, 0, 0, o.off_, o.len_, o.data_⟩
def tailR (n : Nat) : Rec := ⟨4, 0, 0, 0, 0, 0, (n : Int), []⟩
def strmL (h : Rec) (ops : List Op) : List Rec := h :: (ops.map recOf ++ [tailR ops.length])
def buildM (h : Rec) (ops : List Op) : List Rec × Int :=
  if h.kind_ ≠ 1 ∨ ¬ mayR h then ([], 1) else if checkM (strmL h ops) h (ops.map recOf) = 0 then (strmL h ops, 0) else ([], checkM (strmL h ops) h (ops.map recOf))

def sofar (h : Rec) (ops : List Op) (i : Nat) : List Rec := h :: (ops.take i).map recOf
theorem sofar_len (h : Rec) (ops : List Op) (i : Nat) (hi : i ≤ ops.length) : (sofar h ops i).length = i + 1 := by simp [sofar]; omega
theorem sofar_snoc (h : Rec) {ops : List Op} {i : Nat} {x : Op} (hx : ops[i]? = some x) : sofar h ops (i + 1) = sofar h ops i ++ [recOf x] := by
  simp [sofar, List.take_add_one, hx]

def ownB (p : List Rec × Int) (o ver : Nat) : D := .tup [.h o ver 0 p.1.length, .int .i64 p.2]
def OwnB (f : FuncId) (args : List D) (p : List Rec × Int) : Prop := OwnedR Try.prog f args (ownB p) 8 (p.1.map r44)
theorem ownB_res (p : List Rec × Int) : ∀ (ρ : Nat → Nat) ver, ren ρ (ownB p 0 ver) = ownB p (ρ 0) ver := fun _ _ => rfl
theorem ownB_err (e : Int) (H : List AObj) : ∃ ver, Ghost 0 [.tup [.nils, .int .i64 e]] H [ownB ([], e) 0 ver] [.arr ver 8 (([] : List Rec).map r44)] := by
  refine ⟨0, (Ghost.matD (sz := 8) (s' := [.tup [.h H.length 0 0 0, .int .i64 e]]) (.cons (.tup (.cons .nil (.cons .refl .nil))) .nil)).trans ?_⟩
  refine Ghost.pick [H.length] (by simp) rfl (fun i o ob' h1 h2 => ?_) rfl ⟨⟨Nat.zero_lt_one, trivial, trivial⟩, trivial⟩ (fun ob hob => by simp at hob; subst hob; trivial)
  cases i with
  | zero => simp at h1 h2; subst h1 h2; simp [renO, renL]
  | succ i => simp at h1
theorem ownB_ok (e : Int) (l : List Rec) (k w n : Nat) (H : List AObj) (hn : n = l.length) (hk : H[k]? = some (.arr w 8 (l.map r44))) : ∃ ver, Ghost 0 [.tup [.h k w 0 n, .int .i64 e]] H [ownB (l, e) 0 ver] [.arr ver 8 (l.map r44)] := by
  subst hn
  refine ⟨w, Ghost.pick [k] (by simp) rfl (fun i o ob' h1 h2 => ?_) rfl ⟨⟨Nat.zero_lt_one, trivial, trivial⟩, trivial⟩ (fun ob hob => by simp at hob; subst hob; exact scr44 _ _)⟩
  cases i with
  | zero => simp at h1 h2; subst h1 h2; simp only [renO]; rw [renL_sc0 _ _ (scr44 _ _)]; exact hk
  | succ i => simp at h1
theorem OwnB.pure {f : FuncId} {args : List D} {p : List Rec × Int} (h : OwnB f args p) : Pure Try.prog f args (.tup [d40 p.1, .int .i64 p.2]) :=
  OwnedR.pure h ⟨scd40 _ _, trivial, trivial⟩ (fun ver => .tup (.cons (.h (all_take rfl)) (.cons (.refl _) .nil)))

theorem f13_own (h : Rec) (ops : List Op) (hd : h.data_.length ≤ 140737488351232) (hn : ops.length ≤ 1048576) (ho : bigD ops) : OwnB 13 [d44 h, d37 ops] (buildM h ops) := by
  refine OwnedR.of ⟨scd44 _ _, scd37 _ _, trivial⟩ (scr44 _ _) (ownB_res _) ?_
  refine Go.A.CallsIn.of_exec tab_ok mixed Try.func13 rfl rfl [19] [] ?_
  by_cases k1 : h.kind_ = 1
  case neg =>
    rw [buildM, if_pos (.inl k1)]
    repeat' ((conv => whnf); first
      | refine boolF_not ?_ | refine boolF_decf (by assumption) ?_)
    all_goals (conv => whnf)
    exact ⟨ownB_err 1 _⟩
  by_cases k2 : mayR h
  case neg =>
    rw [buildM, if_pos (.inr k2)]
    repeat' ((conv => whnf); first
      | refine Pure.call (f37_ok _ hd) ?_ | refine boolF_not ?_ | refine boolF_dect (by assumption) ?_ | refine boolF_decf (by assumption) ?_)
    all_goals (conv => whnf)
    exact ⟨ownB_err 1 _⟩
  · rw [buildM, if_neg (by simp [k1, k2])]
    repeat' ((conv => whnf); first
      | refine Pure.call (f37_ok _ hd) ?_ | refine boolF_not ?_ | refine boolF_dect (by assumption) ?_)
    all_goals (conv => whnf)
    refine W_loopG (ι := Nat × Nat) (fun i => ⟨(D.undef :: d37 ops :: D.undef :: D.undef :: D.undef :: D.undef :: .h 0 i.2 0 (sofar h ops i.1).length :: .int .i64 (i.1 : Int) :: D.undef :: D.undef :: D.undef :: D.undef :: D.undef :: D.undef :: D.undef :: D.undef :: D.undef :: D.undef :: D.undef :: D.undef :: D.undef :: D.undef :: D.undef :: D.undef :: D.undef :: D.undef :: D.undef :: D.undef :: D.undef :: D.undef :: D.undef :: D.undef :: D.undef :: D.undef :: D.undef :: D.undef :: D.undef :: D.undef :: D.undef :: D.undef :: D.undef :: D.undef :: D.undef :: D.undef :: D.undef :: D.undef :: D.undef :: D.undef :: D.undef :: D.undef :: D.undef :: D.undef :: D.undef :: D.undef :: D.undef :: D.undef :: D.undef :: D.undef :: D.undef :: D.undef :: D.undef :: D.undef :: D.undef :: D.undef :: D.undef :: D.undef :: D.undef :: D.undef :: D.undef :: D.undef :: D.undef :: D.undef :: D.undef :: D.undef :: D.undef :: D.undef :: D.undef :: D.undef :: D.undef :: []), [.arr i.2 8 ((sofar h ops i.1).map r44)]⟩) (fun i => ops.length - i.1)
      (fun i => i.1 ≤ ops.length) (0, 0) (Ghost.hold [1, 6, 7] rfl) (Nat.zero_le _) ?_
    rintro ⟨i, ver⟩ i1
    dsimp only at i1 ⊢
    have hsl := sofar_len h ops i i1
    rcases Nat.lt_or_ge i ops.length with g | g
    · obtain ⟨x, hx⟩ := at_lt g
      refine exec_ok tab_ok mixed 1000 (bx := [false]) (own := []) ?_
      by_cases q1 : x.kind_ = 1
      · repeat' ((conv => whnf); first
          | refine PairK.mk (by kernel_rfl) ?_ | refine Exists.intro _ (And.intro (map_at (by omega) hx) ?_) | refine And.intro (by rw [List.length_map]; done) ?_ | refine And.intro (by decide) ?_ | refine And.intro rfl ?_ | refine And.intro (by omega) ?_ | refine And.intro (okRows_one rfl rfl) ?_ | refine Exists.intro _ (And.intro (⟨(List.length_map _).symm⟩) ?_) | refine Exists.intro _ (And.intro (⟨len_one⟩) ?_) | refine Exists.intro _ (And.intro (⟨Eq.refl (α := List D) _⟩) ?_) | refine Exists.intro _ (And.intro (w64 (by omega) (by omega)) ?_) | refine boolF_not ?_
          | refine boolF_dect (by assumption) ?_ | refine boolF_dect (by omega) ?_)
        all_goals (conv => whnf)
        refine ⟨(i + 1, ver + 1), Ghost.back [1, 6, 7] 1 ?_ ?_ (Nat.zero_le _) (by simp [scs, D.sc, scd37]) (by simp only [List.mem_singleton]; intro ob hob; subst hob; exact scr44 _ _), g, by dsimp only; omega⟩
        · dsimp only; rw [sofar_snoc h hx, List.length_append]; rfl
        · dsimp only; simp [sofar_snoc h hx, r44, c44, recOf, kd, q1, d3]
      · by_cases q2 : x.kind_ = 2
        · repeat' ((conv => whnf); first
            | refine PairK.mk (by kernel_rfl) ?_ | refine Exists.intro _ (And.intro (map_at (by omega) hx) ?_) | refine And.intro (by rw [List.length_map]; done) ?_ | refine And.intro (by decide) ?_ | refine And.intro rfl ?_ | refine And.intro (by omega) ?_ | refine And.intro (okRows_one rfl rfl) ?_ | refine Exists.intro _ (And.intro (⟨(List.length_map _).symm⟩) ?_) | refine Exists.intro _ (And.intro (⟨len_one⟩) ?_) | refine Exists.intro _ (And.intro (⟨Eq.refl (α := List D) _⟩) ?_) | refine Exists.intro _ (And.intro (w64 (by omega) (by omega)) ?_) | refine boolF_not ?_
            | refine boolF_dect (by assumption) ?_ | refine boolF_decf (by assumption) ?_ | refine boolF_dect (by omega) ?_)
          all_goals (conv => whnf)
          refine ⟨(i + 1, ver + 1), Ghost.back [1, 6, 7] 1 ?_ ?_ (Nat.zero_le _) (by simp [scs, D.sc, scd37]) (by simp only [List.mem_singleton]; intro ob hob; subst hob; exact scr44 _ _), g, by dsimp only; omega⟩
          · dsimp only; rw [sofar_snoc h hx, List.length_append]; rfl
          · dsimp only; simp [sofar_snoc h hx, r44, c44, recOf, kd, q1, q2, d3]
        · repeat' ((conv => whnf); first
            | refine Exists.intro _ (And.intro (map_at (by omega) hx) ?_) | refine And.intro rfl ?_ | refine And.intro (by omega) ?_ | refine Exists.intro _ (And.intro (⟨(List.length_map _).symm⟩) ?_) | refine boolF_dect (by omega) ?_)
          all_goals (conv => whnf)
          refine Exists.intro (IntKind.i64.wrap (x.kind_ + 1)) (And.intro rfl ?_)
          generalize IntKind.i64.wrap (x.kind_ + 1) = z
          repeat' ((conv => whnf); first
            | refine PairK.mk (by kernel_rfl) ?_ | refine Exists.intro _ (And.intro (map_at (by omega) hx) ?_) | refine And.intro (by rw [List.length_map]; done) ?_ | refine And.intro (by decide) ?_ | refine And.intro rfl ?_ | refine And.intro (Nat.le_of_ble_eq_true rfl) ?_ | refine And.intro (by omega) ?_ | refine And.intro (okRows_one rfl rfl) ?_ | refine Exists.intro _ (And.intro (⟨len_one⟩) ?_) | refine Exists.intro _ (And.intro (⟨Eq.refl (α := List D) _⟩) ?_) | refine Exists.intro _ (And.intro (w64 (by omega) (by omega)) ?_) | refine boolF_not ?_ | refine boolF_decf (by assumption) ?_)
          all_goals (conv => whnf)
          refine ⟨(i + 1, ver + 1), Ghost.back [1, 6, 7] 1 ?_ ?_ (Nat.zero_le _) (by simp [scs, D.sc, scd37]) (by simp only [List.mem_singleton]; intro ob hob; subst hob; exact scr44 _ _), g, by dsimp only; omega⟩
          · dsimp only; rw [sofar_snoc h hx, List.length_append]; rfl
          · dsimp only; simp [sofar_snoc h hx, r44, c44, recOf, kd, q1, q2, d3]
    · have hsf : sofar h ops i = h :: ops.map recOf := by rw [sofar, List.take_of_length_le g]
      have hst : strmL h ops = sofar h ops i ++ [tailR ops.length] := by rw [hsf]; rfl
      have hS : Strm (strmL h ops) h (ops.map recOf) (tailR ops.length) := ⟨rfl, k1, rfl⟩
      have hSl : (strmL h ops).length = ops.length + 2 := by rw [hS.len, List.length_map]
      have hbig : bigR (strmL h ops) := fun r hr => by
        rcases List.mem_cons.mp hr with rfl | hr
        · exact hd
        · rcases List.mem_append.mp hr with hr | hr
          · obtain ⟨o, ho', rfl⟩ := List.mem_map.mp hr
            exact ho o ho'
          · simp only [List.mem_singleton] at hr; subst hr; exact Nat.zero_le _
      have hkind : ∀ m ∈ ops.map recOf, m.kind_ ≠ 1 ∧ m.kind_ ≠ 4 := fun m hm => by
        obtain ⟨o, _, rfl⟩ := List.mem_map.mp hm
        show kd o ≠ 1 ∧ kd o ≠ 4
        rw [kd]
        split
        · decide
        · split <;> decide
      have hchk := f38_ok hS (by omega) hbig hkind (by rw [List.length_map]; rfl)
      refine exec_ok tab_ok mixed 8 (bx := [false]) (own := []) ?_
      repeat' ((conv => whnf); first
        | refine And.intro (by rw [List.length_map]; done) ?_ | refine And.intro (by decide) ?_ | refine And.intro rfl ?_ | refine And.intro (by omega) ?_ | refine And.intro (okRows_one rfl rfl) ?_ | refine Exists.intro _ (And.intro (⟨(List.length_map _).symm⟩) ?_) | refine Exists.intro _ (And.intro (⟨len_one⟩) ?_) | refine Exists.intro _ (And.intro (⟨Eq.refl (α := List D) _⟩) ?_) | refine boolF_decf (by omega) ?_)
      all_goals (conv => whnf)
      refine W_ghost (s' := (D.undef :: D.undef :: D.undef :: D.undef :: D.undef :: D.undef :: .h 0 (ver + 1) 0 (strmL h ops).length :: D.undef :: D.undef :: D.undef :: D.undef :: D.undef :: D.undef :: D.undef :: D.undef :: D.undef :: D.undef :: D.undef :: D.undef :: D.undef :: D.undef :: D.undef :: D.undef :: D.undef :: D.undef :: D.undef :: D.undef :: D.undef :: D.undef :: D.undef :: D.undef :: D.undef :: D.undef :: D.undef :: D.undef :: D.undef :: D.undef :: D.undef :: D.undef :: D.undef :: D.undef :: D.undef :: D.undef :: D.undef :: D.undef :: D.undef :: D.undef :: D.undef :: D.undef :: D.undef :: D.undef :: D.undef :: D.undef :: D.undef :: D.undef :: D.undef :: D.undef :: D.undef :: D.undef :: D.undef :: D.undef :: D.undef :: D.undef :: D.undef :: D.undef :: D.undef :: D.undef :: D.undef :: D.undef :: D.undef :: D.undef :: D.undef :: D.undef :: D.undef :: D.undef :: D.undef :: D.undef :: D.undef :: D.undef :: [])) (H' := [.arr (ver + 1) 8 ((strmL h ops).map r44)]) ((Ghost.re (o := 0) (rows' := (strmL h ops).map r44) rfl ?_).trans (Ghost.hold [6] ?_)) ?_
      · rw [hst, List.map_append]
        exact Fzl.snoc (.cons .refl (.cons .refl (.cons .refl (.cons .refl (.cons .refl (.cons .refl (.cons .refl (.cons .nils .nil))))))))
      · rw [hst, List.length_append]; rfl
      refine exec_ok tab_ok mixed 1000 (bx := [false]) (own := []) ?_
      (conv => whnf)
      refine Pure.seeK hchk [(0, .arr (ver + 1) 8 ((strmL h ops).map r44))] (fact1 rfl) (.cons (.h List.mem_cons_self (.all (scr44 _ _)) (all_take rfl)) .nil) trivial trivial ?_
      generalize hL : strmL h ops = L at hchk hSl ⊢
      generalize hE : checkM L h (ops.map recOf) = e at hchk ⊢
      by_cases he : e = 0
      · rw [if_pos he]
        repeat' ((conv => whnf); first
          | refine boolF_not ?_ | refine boolF_dect (by assumption) ?_)
        all_goals (conv => whnf)
        exact ⟨ownB_ok 0 _ 0 _ _ _ rfl rfl⟩
      · rw [if_neg he]
        repeat' ((conv => whnf); first
          | refine boolF_not ?_ | refine boolF_decf (by assumption) ?_)
        all_goals (conv => whnf)
        exact ⟨ownB_err e _⟩

end Go.Proofs.Ytgigpjkdfhhahaa.L


namespace Go.Proofs.Ytgigpjkdfhhahaa.L
open Go.A
set_option linter.unusedVariables false
set_option linter.unusedSimpArgs false
set_option linter.unnecessarySimpa false
attribute [local irreducible] IntKind.wrap bitsI
open B
set_option maxRecDepth 100000
set_option maxHeartbeats 4000000

def readM (v : List Nat) (off n : Int) : List Nat × Int := if 1024 < v.length then ([], 6) else if 0 ≤ off ∧ 0 ≤ n ∧ n ≤ v.length ∧ off ≤ v.length - n then ((v.drop off.toNat).take n.toNat, 0) else ([], 1)

theorem f47_own (v : List Nat) (off n : Int) (hv : v.length ≤ 140737488351232) : OwnW 47 [d35 v, .int .i64 off, .int .i64 n] (readM v off n) := by
  refine OwnedR.of ⟨scd35 _ _, trivial, trivial, trivial⟩ (scr56 _ _) (ownW_res _) ?_
  refine Go.A.CallsIn.of_exec tab_ok mixed Try.func47 rfl rfl [] [] ?_
  by_cases hb : 1024 < v.length
  · rw [readM, if_pos hb]
    repeat' ((conv => whnf); first
      | refine Exists.intro _ (And.intro (⟨(List.length_map _).symm⟩) ?_) | refine boolF_dect (by omega) ?_)
    all_goals (conv => whnf)
    exact ⟨ownW_err 6 _⟩
  · rw [readM, if_neg hb]
    by_cases hl : 0 ≤ off ∧ 0 ≤ n ∧ n ≤ v.length ∧ off ≤ v.length - n
    · rw [if_pos hl]
      obtain ⟨a, rfl⟩ := Int.eq_ofNat_of_zero_le hl.1
      obtain ⟨c, rfl⟩ := Int.eq_ofNat_of_zero_le hl.2.1
      have hlen : ((v.drop a).take (a + c - a)).length ≤ 1024 := by rw [List.length_take, List.length_drop]; omega
      have h22 := f71_ok ((v.drop a).take (a + c - a)) (by omega) (by omega)
      repeat' ((conv => whnf); first
        | refine Exists.intro a (Exists.intro (a + c) (And.intro ⟨rfl⟩ (And.intro ⟨rfl⟩ (And.intro (by omega) (And.intro (by omega) ?_))))) | refine And.intro (cells_map (fun _ => rfl)) ?_ | refine Exists.intro _ (And.intro (⟨(List.length_map _).symm⟩) ?_) | refine Exists.intro _ (And.intro (⟨map_slice⟩) ?_) | refine Exists.intro _ (And.intro (w64 (by omega) (by omega)) ?_) | refine Pure.call (f70_ok _ _ _ (by omega)) ?_ | refine boolF_not ?_ | refine boolF_dect (by assumption) ?_ | refine boolF_decf (by omega) ?_)
      all_goals (conv => whnf)
      refine Owned.callN h22 _ (by rw [List.length_map]) (fun v1 => ?_)
      (conv => whnf)
      have e : (v.drop ((a : Int)).toNat).take ((c : Int)).toNat = (v.drop a).take (a + c - a) := by
        rw [Int.toNat_natCast, Int.toNat_natCast, Nat.add_sub_cancel_left]
      rw [e]
      exact ⟨ownW_ok 0 _ 0 v1 _ _ rfl rfl⟩
    · rw [if_neg hl]
      repeat' ((conv => whnf); first
        | refine Exists.intro _ (And.intro (⟨(List.length_map _).symm⟩) ?_) | refine Pure.call (f70_ok _ _ _ (by omega)) ?_ | refine boolF_not ?_ | refine boolF_decf (by assumption) ?_ | refine boolF_decf (by omega) ?_)
      all_goals (conv => whnf)
      exact ⟨ownW_err 1 _⟩

/-- What comes. -/
structure Cm where
  snap : Int
  count : Int
  behind : Int
  v : List Nat
def cm0 : Cm := ⟨0, 0, 0, []⟩
/-- A berth. -/
structure Bt where
  now : Cm
  there : Int
  all : List Nat
  made : Bool
  shard : Int
  version : Int
  sure : Cm
def cC (c : Cm) : List D := [.int .i64 c.snap, .int .i64 c.count, .int .i64 c.behind, d35 c.v]
def cB (b : Bt) : List D := [.int .i64 b.now.snap, .int .i64 b.now.count, .int .i64 b.now.behind, d35 b.now.v, .int .i64 b.there, d35 b.all, .bool b.made, .int .i64 b.shard, .int .i64 b.version,
  .int .i64 b.sure.snap, .int .i64 b.sure.count, .int .i64 b.sure.behind, d35 b.sure.v]
def oB (ver : Nat) (b : Bt) : AObj := .arr ver 13 [.agg (cB b)]
theorem scB (k : Nat) (b : Bt) : scs k (cB b) := ⟨trivial, trivial, trivial, scd35 _ _, trivial, scd35 _ _, trivial, trivial, trivial, trivial, trivial, trivial, scd35 _ _, trivial⟩

theorem f65_ok (b : Bt) : Pure Try.prog 65 [.pe (cB b)] (.bool b.made) := by
  refine Pure.of ⟨scB _ _, trivial⟩ trivial ?_
  refine Go.A.CallsIn.of_exec tab_ok mixed Try.func65 rfl rfl [] [] ?_
  (conv => whnf)
  exact ⟨rfl⟩
theorem f65_nil : Pure Try.prog 65 [.pnil] (.bool false) := by
  refine Pure.of ⟨trivial, trivial⟩ trivial ?_
  refine Go.A.CallsIn.of_exec tab_ok mixed Try.func65 rfl rfl [] [] ?_
  (conv => whnf)
  exact ⟨rfl⟩

theorem f53_ok (b : Bt) : Pure Try.prog 53 [.pe (cB b)] (.tup [.int .i64 (if b.made then b.now.snap else 0), .int .i64 (if b.made then b.now.count else 0)]) := by
  refine Pure.of ⟨scB _ _, trivial⟩ ⟨trivial, trivial, trivial⟩ ?_
  refine Go.A.CallsIn.of_exec tab_ok mixed Try.func53 rfl rfl [] [] ?_
  cases hm : b.made
  all_goals
    have h21 := f65_ok b
    rw [hm] at h21
  · repeat' ((conv => whnf); first
      | refine Pure.call (f65_ok b) ?_ | refine boolF_not ?_ | refine boolF_f (by assumption) ?_)
    all_goals (conv => whnf)
    exact ⟨rfl⟩
  · repeat' ((conv => whnf); first
      | refine PairK.mk (by kernel_rfl) ?_ | refine Pure.call (f65_ok b) ?_ | refine boolF_not ?_ | refine boolF_t (by assumption) ?_)
    all_goals (conv => whnf)
    exact ⟨rfl⟩

theorem f53_nil : Pure Try.prog 53 [.pnil] (.tup [.int .i64 0, .int .i64 0]) := by
  refine Pure.of ⟨trivial, trivial⟩ ⟨trivial, trivial, trivial⟩ ?_
  refine Go.A.CallsIn.of_exec tab_ok mixed Try.func53 rfl rfl [] [] ?_
  repeat' ((conv => whnf); first
    | refine Pure.call (f65_nil) ?_)
  all_goals (conv => whnf)
  exact ⟨rfl⟩
theorem f41_ok (b : Bt) : Pure Try.prog 41 [.pe (cB b)] (.int .i64 (if b.made then b.there else 0)) := by
  refine Pure.of ⟨scB _ _, trivial⟩ trivial ?_
  refine Go.A.CallsIn.of_exec tab_ok mixed Try.func41 rfl rfl [] [] ?_
  cases hm : b.made
  all_goals
    have h21 := f65_ok b
    rw [hm] at h21
  · repeat' ((conv => whnf); first
      | refine Pure.call (f65_ok b) ?_ | refine boolF_not ?_ | refine boolF_f (by assumption) ?_)
    all_goals (conv => whnf)
    exact ⟨rfl⟩
  · repeat' ((conv => whnf); first
      | refine Pure.call (f65_ok b) ?_ | refine boolF_not ?_ | refine boolF_t (by assumption) ?_)
    all_goals (conv => whnf)
    exact ⟨rfl⟩
theorem f41_nil : Pure Try.prog 41 [.pnil] (.int .i64 0) := by
  refine Pure.of ⟨trivial, trivial⟩ trivial ?_
  refine Go.A.CallsIn.of_exec tab_ok mixed Try.func41 rfl rfl [] [] ?_
  repeat' ((conv => whnf); first
    | refine Pure.call (f65_nil) ?_)
  all_goals (conv => whnf)
  exact ⟨rfl⟩
def readB (b : Bt) (off n : Int) : List Nat × Int := if b.made then readM b.all off n else ([], 2)
theorem f42_own (b : Bt) (off n : Int) (hv : b.all.length ≤ 140737488351232) : OwnW 42 [.pe (cB b), .int .i64 off, .int .i64 n] (readB b off n) := by
  refine OwnedR.of ⟨scB _ _, trivial, trivial, trivial⟩ (scr56 _ _) (ownW_res _) ?_
  refine Go.A.CallsIn.of_exec tab_ok mixed Try.func42 rfl rfl [] [] ?_
  have h21 := f65_ok b
  rw [readB]
  cases hm : b.made
  all_goals rw [hm] at h21
  · repeat' ((conv => whnf); first
      | refine Pure.call (f65_ok b) ?_ | refine boolF_not ?_ | refine boolF_f (by assumption) ?_)
    all_goals (conv => whnf)
    exact ⟨ownW_err 2 _⟩
  · rw [if_pos rfl]
    have h22 := f47_own b.all off n hv
    obtain ⟨A, hA⟩ : ∃ A, A = readM b.all off n := ⟨_, rfl⟩
    rw [← hA] at h22 ⊢
    repeat' ((conv => whnf); first
      | refine Pure.call (f65_ok b) ?_ | refine boolF_not ?_ | refine boolF_t (by assumption) ?_)
    all_goals (conv => whnf)
    refine OwnedR.call h22 (fun v1 => ?_)
    (conv => whnf)
    exact ⟨ownW_ok _ _ 0 v1 _ _ rfl rfl⟩
theorem f42_nil (off n : Int) : Pure Try.prog 42 [.pnil, .int .i64 off, .int .i64 n] (.tup [d35 [], .int .i64 2]) := by
  refine Pure.ofT ⟨trivial, trivial, trivial, trivial⟩ ⟨scd35 _ _, trivial, trivial⟩ ?_
  refine Go.A.CallsIn.of_exec tab_ok mixed Try.func42 rfl rfl [] [] ?_
  repeat' ((conv => whnf); first
    | refine Pure.call (f65_nil) ?_)
  all_goals (conv => whnf)
  exact ⟨Told.wk (.tup (.cons .nils (.cons .refl .nil)))⟩

end Go.Proofs.Ytgigpjkdfhhahaa.L


namespace Go.Proofs.Ytgigpjkdfhhahaa.L
open Go.A
set_option linter.unusedVariables false
set_option linter.unusedSimpArgs false
set_option linter.unnecessarySimpa false
attribute [local irreducible] IntKind.wrap bitsI
open B
set_option maxRecDepth 100000
set_option maxHeartbeats 4000000

theorem turnB {f : FuncId} {xs : List D} {b b' : Bt} {r : D} {ver : Nat} (hx : scs 0 xs) (hr : r.sc 0)
    (h : Go.A.CallsIn Try.prog f (.p 0 ver 0 0 :: xs) [oB ver b] fun r' H' => ∃ r'' H'', Ghost 1 [r'] H' [r''] H'' ∧ r'' = r ∧ H'' = [oB ver b']) :
    Turns1 Try.prog f (fun k => .p k ver 0 0 :: xs) (oB ver b) (fun _ _ => r) (fun _ => oB ver b') where
  arg := fun ρ => by simp only [renL, ren]; rw [renL_sc0 ρ _ hx]
  res := fun ρ v => ren_sc0 ρ _ hr
  asc := ⟨Nat.zero_lt_one, scs_le _ _ hx⟩
  osc := ⟨scB _ _, trivial⟩
  ores := fun ρ v => renO_sc0 ρ (by exact ⟨scB _ _, trivial⟩)
  calls := Go.A.CallsIn.ghost (h.mono fun r' H' ⟨r'', H'', g, e1, e2⟩ => ⟨r'', H'', g, 0, e1, e2⟩)

theorem bool_cases (x : Bool) : x = true ∨ x = false := by cases x <;> simp
theorem seeB (n : Nat) (ver : Nat) (b : Bt) {F : List (Nat × AObj)} (hF : (0, oB ver b) ∈ F) : Sees 0 (fun i => n + i) F (.p 0 ver 0 0) (.pe (cB b)) := .p hF (.all ⟨scB _ _, trivial⟩) rfl rfl

def dropB (b : Bt) : Bt := if b.made then ⟨cm0, b.there, b.all, b.made, b.shard, b.version, cm0⟩ else b
theorem f50_at (b : Bt) (ver : Nat) : Turns1 Try.prog 50 (fun k => [.p k ver 0 0]) (oB ver b) (fun _ _ => .tup []) (fun _ => oB ver (dropB b)) := by
  refine turnB trivial trivial ?_
  have h21 := f65_ok b
  refine Go.A.CallsIn.of_exec tab_ok mixed Try.func50 rfl rfl [] [true] ?_
  (conv => whnf)
  refine Pure.seeK h21 [(0, oB ver b)] (fact1 rfl) (.cons (seeB _ ver b List.mem_cons_self) .nil) trivial trivial ?_
  rcases bool_cases b.made with hm | hm
  · rw [dropB, if_pos hm]
    repeat' ((conv => whnf); first
      | refine And.intro (by decide) ?_ | refine And.intro rfl ?_ | refine And.intro (Nat.le_of_ble_eq_true rfl) ?_ | refine boolF_t (by assumption) ?_)
    all_goals (conv => whnf)
    refine ⟨⟨_, _, Ghost.re (o := 0) (rows' := [.agg (cB _)]) rfl (.cons ?_ .nil), rfl, rfl⟩⟩
    repeat (first | exact Fzs.nil | refine Fzs.cons .refl ?_ | refine Fzs.cons .nils ?_)
  · rw [dropB, if_neg (by simp [hm])]
    repeat' ((conv => whnf); first
      | refine boolF_f (by assumption) ?_)
    all_goals (conv => whnf)
    exact ⟨⟨_, _, Ghost.refl _ _ _, rfl, rfl⟩⟩

theorem f50_nil : Pure Try.prog 50 [.pnil] (.tup []) := by
  refine Pure.of ⟨trivial, trivial⟩ trivial ?_
  refine Go.A.CallsIn.of_exec tab_ok mixed Try.func50 rfl rfl [] [] ?_
  repeat' ((conv => whnf); first
    | refine Pure.call (f65_nil) ?_)
  all_goals (conv => whnf)
  exact ⟨rfl⟩

def syncB (b : Bt) : Bt := if b.made then ⟨b.now, b.there, b.all, b.made, b.shard, b.version, b.now⟩ else b
theorem f55_at (b : Bt) (ver : Nat) : Turns1 Try.prog 55 (fun k => [.p k ver 0 0]) (oB ver b) (fun _ _ => .int .i64 (if b.made then b.now.count else 0)) (fun _ => oB ver (syncB b)) := by
  refine turnB trivial trivial ?_
  have h21 := f65_ok b
  refine Go.A.CallsIn.of_exec tab_ok mixed Try.func55 rfl rfl [] [true] ?_
  (conv => whnf)
  refine Pure.seeK h21 [(0, oB ver b)] (fact1 rfl) (.cons (seeB _ ver b List.mem_cons_self) .nil) trivial trivial ?_
  rcases bool_cases b.made with hm | hm
  · rw [syncB, if_pos hm, if_pos hm]
    repeat' ((conv => whnf); first
      | refine And.intro (by decide) ?_ | refine And.intro rfl ?_ | refine And.intro (Nat.le_of_ble_eq_true rfl) ?_ | refine boolF_not ?_ | refine boolF_t (by assumption) ?_)
    all_goals (conv => whnf)
    exact ⟨⟨_, _, Ghost.refl _ _ _, rfl, rfl⟩⟩
  · rw [syncB, if_neg (by simp [hm]), if_neg (by simp [hm])]
    repeat' ((conv => whnf); first
      | refine boolF_not ?_ | refine boolF_f (by assumption) ?_)
    all_goals (conv => whnf)
    exact ⟨⟨_, _, Ghost.refl _ _ _, rfl, rfl⟩⟩
theorem f55_nil : Pure Try.prog 55 [.pnil] (.int .i64 0) := by
  refine Pure.of ⟨trivial, trivial⟩ trivial ?_
  refine Go.A.CallsIn.of_exec tab_ok mixed Try.func55 rfl rfl [] [] ?_
  repeat' ((conv => whnf); first
    | refine Pure.call (f65_nil) ?_)
  all_goals (conv => whnf)
  exact ⟨rfl⟩

def crashB (b : Bt) : Bt := if b.made then ⟨b.sure, b.there, b.all, b.made, b.shard, b.version, b.sure⟩ else b
theorem f54_at (b : Bt) (ver : Nat) : Turns1 Try.prog 54 (fun k => [.p k ver 0 0]) (oB ver b) (fun _ _ => .tup []) (fun _ => oB ver (crashB b)) := by
  refine turnB trivial trivial ?_
  have h21 := f65_ok b
  refine Go.A.CallsIn.of_exec tab_ok mixed Try.func54 rfl rfl [] [true] ?_
  (conv => whnf)
  refine Pure.seeK h21 [(0, oB ver b)] (fact1 rfl) (.cons (seeB _ ver b List.mem_cons_self) .nil) trivial trivial ?_
  rcases bool_cases b.made with hm | hm
  · rw [crashB, if_pos hm]
    repeat' ((conv => whnf); first
      | refine And.intro (by decide) ?_ | refine And.intro rfl ?_ | refine And.intro (Nat.le_of_ble_eq_true rfl) ?_ | refine boolF_t (by assumption) ?_)
    all_goals (conv => whnf)
    exact ⟨⟨_, _, Ghost.refl _ _ _, rfl, rfl⟩⟩
  · rw [crashB, if_neg (by simp [hm])]
    repeat' ((conv => whnf); first
      | refine boolF_f (by assumption) ?_)
    all_goals (conv => whnf)
    exact ⟨⟨_, _, Ghost.refl _ _ _, rfl, rfl⟩⟩
theorem f54_nil : Pure Try.prog 54 [.pnil] (.tup []) := by
  refine Pure.of ⟨trivial, trivial⟩ trivial ?_
  refine Go.A.CallsIn.of_exec tab_ok mixed Try.func54 rfl rfl [] [] ?_
  repeat' ((conv => whnf); first
    | refine Pure.call (f65_nil) ?_)
  all_goals (conv => whnf)
  exact ⟨rfl⟩

end Go.Proofs.Ytgigpjkdfhhahaa.L

