import Derived.Test.YtgigpjkdfhhahaaL18
-- merged
namespace Go.Proofs.Ytgigpjkdfhhahaa.M
open Go.A
set_option linter.unusedVariables false
set_option linter.unusedSimpArgs false
set_option linter.unnecessarySimpa false
attribute [local irreducible] IntKind.wrap bitsI
set_option maxRecDepth 100000

theorem f59_ok (x : Int) : Pure Try.prog 59 [.int .i64 x] (.bool (decide (0 ≤ x ∧ x < 16))) := by
  refine Pure.of ⟨trivial, trivial⟩ trivial ?_
  refine Go.A.CallsIn.of_exec tab_ok mixed Try.func59 rfl rfl [] [] ?_
  repeat' ((conv => whnf); first
    | refine boolF_dec (fun _ => ?_) (fun _ => ?_))
  all_goals (conv => whnf)
  all_goals (first
    | exact ⟨rfl⟩
    | exact ⟨bool_t (by omega)⟩
    | exact ⟨bool_f (by omega)⟩
    | exact ⟨bool_iff (by omega)⟩
    | exact ⟨bool_beq (by omega)⟩
    | exact ⟨bool_bne (by omega)⟩
    | exact ⟨bool_not (by omega)⟩)

theorem f31_ok (x : Int) : Pure Try.prog 31 [.int .i64 x] (.bool (decide (0 ≤ x ∧ x < 16))) := by
  refine Pure.of ⟨trivial, trivial⟩ trivial ?_
  refine Go.A.CallsIn.of_exec tab_ok mixed Try.func31 rfl rfl [] [] ?_
  repeat' ((conv => whnf); first
    | refine boolF_dec (fun _ => ?_) (fun _ => ?_))
  all_goals (conv => whnf)
  all_goals (first
    | exact ⟨rfl⟩
    | exact ⟨bool_t (by omega)⟩
    | exact ⟨bool_f (by omega)⟩
    | exact ⟨bool_iff (by omega)⟩
    | exact ⟨bool_beq (by omega)⟩
    | exact ⟨bool_bne (by omega)⟩
    | exact ⟨bool_not (by omega)⟩)


end Go.Proofs.Ytgigpjkdfhhahaa.M


namespace Go.Proofs.Ytgigpjkdfhhahaa.M
open Go.A
set_option linter.unusedVariables false
set_option linter.unusedSimpArgs false
set_option linter.unnecessarySimpa false
attribute [local irreducible] IntKind.wrap bitsI
set_option maxRecDepth 100000


def endsAt (a : Int) : List T50 → Option Int
  | [] => some a
  | p :: l => if p.from_ = a ∧ a < p.to_ ∧ 0 ≤ p.node_ ∧ p.node_ < 16 then endsAt p.to_ l else none

def rightP (m : T23) : Prop := 1 ≤ m.version_ ∧ m.version_ ≤ 1099511627776 ∧ 1 ≤ m.n_ ∧ m.n_ ≤ 1024 ∧ m.pieces_.length ≤ 16 ∧ endsAt 0 m.pieces_ = some m.n_
instance (m : T23) : Decidable (rightP m) := inferInstanceAs (Decidable (_ ∧ _ ∧ _ ∧ _ ∧ _ ∧ _))

theorem sc22 (k : Nat) (l : List T50) : (d22 l).sc k := by simp [D.sc, d3, d22, scs_map, scs]; intro x _; simp [r51, c51, D.sc, d3, scs]
theorem sc24 (k : Nat) (m : T23) : (d24 m).sc k := by simp [d24, c24, D.sc, d3, d22, scs_map, scs]; intro x _; simp [r51, c51, D.sc, d3, scs]

theorem f35_ok (m : T23) (hm : ok24 m) : Pure Try.prog 35 [d24 m] (.bool (decide (rightP m))) := by
  have hlen : m.pieces_.length ≤ 140737488351232 := by have := hm.2.2.2; simp [td51] at this; omega
  refine Pure.of ⟨sc24 _ _, trivial⟩ trivial ?_
  refine Go.A.CallsIn.of_exec tab_ok mixed Try.func35 rfl rfl [] [] ?_
  repeat' ((conv => whnf); first
    | refine Exists.intro _ (And.intro (⟨(List.length_map _).symm⟩) ?_) | refine boolF_dec (fun _ => ?_) (fun _ => ?_))
  all_goals (conv => whnf)
  all_goals try exact ⟨bool_f (by rw [rightP]; omega)⟩
  refine W_loopG (ι := Nat × Int) (fun i => ⟨(D.undef :: .pe (c24 m) :: D.undef :: d3 i.2 :: D.undef :: D.undef :: D.undef :: D.undef :: D.undef :: D.undef :: D.undef :: D.undef :: D.undef :: D.undef :: D.undef :: D.undef :: D.undef :: D.undef :: D.undef :: D.undef :: D.undef :: D.undef :: D.undef :: D.undef :: D.undef :: D.undef :: D.undef :: D.undef :: D.undef :: D.undef :: D.undef :: d22 m.pieces_ :: .int .i64 (m.pieces_.length:Int) :: .int .i64 (i.1:Int) :: D.undef :: D.undef :: D.undef :: D.undef :: D.undef :: D.undef :: D.undef :: D.undef :: D.undef :: D.undef :: D.undef :: D.undef :: D.undef :: D.undef :: D.undef :: D.undef :: D.undef :: D.undef :: D.undef :: D.undef :: D.undef :: D.undef :: D.undef :: D.undef :: D.undef :: D.undef :: []), []⟩) (fun i => m.pieces_.length - i.1)
    (fun i => i.1 ≤ m.pieces_.length ∧ endsAt i.2 (m.pieces_.drop i.1) = endsAt 0 m.pieces_) (0, 0) (Ghost.hold [1,3,31,32,33] rfl) ⟨Nat.zero_le _, rfl⟩ ?_
  rintro ⟨i, a⟩ ⟨h1, h2⟩
  dsimp only at h1 h2 ⊢
  refine exec_ok tab_ok mixed 1000 (bx := [true]) (own := []) ?_
  rcases Nat.lt_or_ge i m.pieces_.length with h | h
  · obtain ⟨x, hx⟩ := at_lt h
    rw [drop_of_get hx, endsAt] at h2
    have key : ¬ (x.from_ = a ∧ a < x.to_ ∧ 0 ≤ x.node_ ∧ x.node_ < 16) → D.bool false = D.bool (decide (rightP m)) := fun hn => by
      rw [if_neg hn] at h2
      refine bool_f ?_
      rw [rightP, ← h2]; simp
    repeat' ((conv => whnf); first
      | refine And.intro (by decide) ?_ | refine And.intro rfl ?_ | refine And.intro (Nat.le_of_ble_eq_true rfl) ?_ | refine And.intro (by omega) ?_ | refine Exists.intro _ (And.intro (map_get (by assumption)) ?_) | refine Exists.intro _ (And.intro (w64 (by omega) (by omega)) ?_) | refine Pure.call (f59_ok _) ?_ | refine boolF_not ?_ | refine boolF_dect (by omega) ?_ | refine boolF_dec (fun _ => ?_) (fun _ => ?_))
    all_goals (conv => whnf)
    · exact ⟨key (by omega)⟩
    · rw [if_pos (by omega)] at h2
      exact ⟨(i + 1, x.to_), Ghost.back [1,3,31,32,33] 0 rfl rfl (Nat.zero_le _) (by simp [scs, D.sc, c24, d3, sc22]) (by simp), ⟨by omega, h2⟩, by dsimp only; omega⟩
    · exact ⟨key (by omega)⟩
    · exact ⟨key (by omega)⟩
  · rw [List.drop_of_length_le h, endsAt] at h2
    repeat' ((conv => whnf); first
      | refine boolF_decf (by omega) ?_)
    all_goals (conv => whnf)
    refine ⟨bool_beq ?_⟩
    rw [rightP, ← h2]
    simp only [Option.some.injEq]
    omega

end Go.Proofs.Ytgigpjkdfhhahaa.M


namespace Go.Proofs.Ytgigpjkdfhhahaa.M
open Go.A
set_option linter.unusedVariables false
set_option linter.unusedSimpArgs false
set_option linter.unnecessarySimpa false
attribute [local irreducible] IntKind.wrap bitsI
set_option maxRecDepth 100000


theorem f8_ok (m : T23) (hm : ok24 m) : Pure Try.prog 8 [d24 m] (.bool (decide (rightP m))) := by
  have hlen : m.pieces_.length ≤ 140737488351232 := by have := hm.2.2.2; simp [td51] at this; omega
  have h0 : m.pieces_.length = 0 → 1 ≤ m.n_ → ¬ endsAt 0 m.pieces_ = some m.n_ := fun e hn => by
    rw [List.length_eq_zero_iff.mp e]; simp [endsAt]; omega
  refine Pure.of ⟨sc24 _ _, trivial⟩ trivial ?_
  refine Go.A.CallsIn.of_exec tab_ok mixed Try.func8 rfl rfl [] [] ?_
  repeat' ((conv => whnf); first
    | refine Exists.intro _ (And.intro (⟨(List.length_map _).symm⟩) ?_) | refine boolF_dec (fun _ => ?_) (fun _ => ?_))
  all_goals (conv => whnf)
  all_goals try exact ⟨bool_f (by rw [rightP]; omega)⟩
  all_goals try exact ⟨bool_f (fun hh => absurd hh.2.2.2.2.2 (h0 (by omega) hh.2.2.1))⟩
  refine W_loopG (ι := Nat × Int) (fun i => ⟨(D.undef :: .pe (c24 m) :: D.undef :: d3 i.2 :: .int .i64 (i.1:Int) :: D.undef :: D.undef :: D.undef :: D.undef :: D.undef :: D.undef :: D.undef :: D.undef :: D.undef :: D.undef :: D.undef :: D.undef :: D.undef :: D.undef :: D.undef :: D.undef :: D.undef :: D.undef :: D.undef :: D.undef :: D.undef :: D.undef :: D.undef :: D.undef :: D.undef :: D.undef :: D.undef :: D.undef :: D.undef :: D.undef :: D.undef :: D.undef :: D.undef :: D.undef :: D.undef :: D.undef :: D.undef :: D.undef :: D.undef :: D.undef :: D.undef :: D.undef :: D.undef :: D.undef :: D.undef :: D.undef :: D.undef :: D.undef :: D.undef :: D.undef :: D.undef :: D.undef :: D.undef :: D.undef :: D.undef :: D.undef :: D.undef :: D.undef :: D.undef :: D.undef :: D.undef :: D.undef :: D.undef :: D.undef :: D.undef :: D.undef :: []), []⟩) (fun i => m.pieces_.length - i.1)
    (fun i => i.1 ≤ m.pieces_.length ∧ endsAt i.2 (m.pieces_.drop i.1) = endsAt 0 m.pieces_) (0, 0) (Ghost.hold [1,3,4] rfl) ⟨Nat.zero_le _, rfl⟩ ?_
  rintro ⟨i, a⟩ ⟨h1, h2⟩
  dsimp only at h1 h2 ⊢
  refine exec_ok tab_ok mixed 1000 (bx := [true]) (own := []) ?_
  rcases Nat.lt_or_ge i m.pieces_.length with h | h
  · obtain ⟨x, hx⟩ := at_lt h
    rw [drop_of_get hx, endsAt] at h2
    have key : ¬ (x.from_ = a ∧ a < x.to_ ∧ 0 ≤ x.node_ ∧ x.node_ < 16) → D.bool false = D.bool (decide (rightP m)) := fun hn => by
      rw [if_neg hn] at h2
      refine bool_f ?_
      rw [rightP, ← h2]; simp
    repeat' ((conv => whnf); first
      | refine And.intro (by decide) ?_ | refine And.intro rfl ?_ | refine And.intro (Nat.le_of_ble_eq_true rfl) ?_ | refine And.intro (by omega) ?_ | refine Exists.intro _ (And.intro (map_get (by assumption)) ?_) | refine Exists.intro _ (And.intro (⟨(List.length_map _).symm⟩) ?_) | refine Exists.intro _ (And.intro (w64 (by omega) (by omega)) ?_) | refine Pure.call (f31_ok _) ?_ | refine boolF_not ?_ | refine boolF_dect (by omega) ?_ | refine boolF_dec (fun _ => ?_) (fun _ => ?_))
    all_goals (conv => whnf)
    all_goals try exact ⟨key (by omega)⟩
    rw [if_pos (by omega)] at h2
    exact ⟨(i + 1, x.to_), Ghost.back [1,3,4] 0 rfl rfl (Nat.zero_le _) (by simp [scs, D.sc, c24, d3, sc22]) (by simp), ⟨by omega, h2⟩, by dsimp only; omega⟩
  · rw [List.drop_of_length_le h, endsAt] at h2
    repeat' ((conv => whnf); first
      | refine Exists.intro _ (And.intro (⟨(List.length_map _).symm⟩) ?_) | refine boolF_decf (by omega) ?_)
    all_goals (conv => whnf)
    refine ⟨bool_beq ?_⟩
    rw [rightP, ← h2]
    simp only [Option.some.injEq]
    omega

theorem T50.ext' {a b : T50} (h : a.from_ = b.from_ ∧ a.to_ = b.to_ ∧ a.node_ = b.node_) : a = b := by
  cases a; cases b; simp only at h; simp [h]

instance : DecidableEq T50 := fun a b => if h : a.from_ = b.from_ ∧ a.to_ = b.to_ ∧ a.node_ = b.node_ then isTrue (T50.ext' h) else isFalse (fun e => h (by simp [e]))

theorem T23.ext' {a b : T23} (h : a.version_ = b.version_ ∧ a.n_ = b.n_ ∧ a.pieces_ = b.pieces_) : a = b := by
  cases a; cases b; simp only at h; simp [h]

instance : DecidableEq T23 := fun a b => if h : a.version_ = b.version_ ∧ a.n_ = b.n_ ∧ a.pieces_ = b.pieces_ then isTrue (T23.ext' h) else isFalse (fun e => h (by simp [e]))


end Go.Proofs.Ytgigpjkdfhhahaa.M


namespace Go.Proofs.Ytgigpjkdfhhahaa.M
open Go.A
set_option linter.unusedVariables false
set_option linter.unusedSimpArgs false
set_option linter.unnecessarySimpa false
attribute [local irreducible] IntKind.wrap bitsI
set_option maxRecDepth 100000

theorem sc52 (k : Nat) (l : List Int) : (d52 l).sc k := by simp [D.sc, d52, scs_map, scs]; intro x _; simp [r3, D.sc, d3]

def badAt (k : Int) : List Int → Int
  | [] => -1
  | x :: l => if 0 ≤ x ∧ x < 16 then badAt (k + 1) l else k

theorem badAt_iff : ∀ (l : List Int) (k : Int), 0 ≤ k → (0 ≤ badAt k l ↔ ¬ ∀ x ∈ l, 0 ≤ x ∧ x < 16)
  | [], k, h => by simp [badAt]
  | x :: l, k, h => by
    simp only [badAt]
    split
    · rename_i hx
      rw [badAt_iff l (k + 1) (by omega)]
      simp [hx]
    · rename_i hx
      simp only [h, true_iff]
      intro hh
      exact hx (hh x (by simp))


def pieceAt (n : Int) (k : Nat) (i : Nat) (x : Int) : T50 := ⟨(i : Int) * n.tdiv k + min (i : Int) (n.tmod k), ((i : Int) + 1) * n.tdiv k + min ((i : Int) + 1) (n.tmod k), x⟩

def piecesTo (n : Int) (k : Nat) (nodes : List Int) : Nat → List T50
  | 0 => []
  | i + 1 => piecesTo n k nodes i ++ (match nodes[i]? with | some x => [pieceAt n k i x] | none => [])

def newM (n : Int) (nodes : List Int) : T23 × Int :=
  if n < 1 ∨ 1024 < n ∨ nodes.length = 0 ∨ ¬ ∀ x ∈ nodes, 0 ≤ x ∧ x < 16 then (⟨0, 0, []⟩, 1)
  else if 16 < nodes.length ∨ n < nodes.length then (⟨0, 0, []⟩, 6)
  else (⟨1, n, piecesTo n nodes.length nodes nodes.length⟩, 0)

theorem piecesTo_succ {n : Int} {k i : Nat} {nodes : List Int} {x : Int} (h : nodes[i]? = some x) : piecesTo n k nodes (i + 1) = piecesTo n k nodes i ++ [pieceAt n k i x] := by
  simp only [piecesTo, h]

theorem piecesTo_len {n : Int} {k : Nat} {nodes : List Int} : ∀ {i : Nat}, i ≤ nodes.length → (piecesTo n k nodes i).length = i
  | 0, _ => rfl
  | i + 1, h => by
    obtain ⟨x, hx⟩ := at_lt (l := nodes) (i := i) (by omega)
    rw [piecesTo_succ hx, List.length_append, piecesTo_len (by omega)]; rfl

theorem newM_1 {n : Int} {nodes : List Int} (h : n < 1 ∨ 1024 < n ∨ nodes.length = 0 ∨ ¬ ∀ x ∈ nodes, 0 ≤ x ∧ x < 16) : newM n nodes = (⟨0, 0, []⟩, 1) := if_pos h
theorem newM_6 {n : Int} {nodes : List Int} (h : ¬ (n < 1 ∨ 1024 < n ∨ nodes.length = 0 ∨ ¬ ∀ x ∈ nodes, 0 ≤ x ∧ x < 16)) (h2 : 16 < nodes.length ∨ n < nodes.length) : newM n nodes = (⟨0, 0, []⟩, 6) := by
  rw [newM, if_neg h, if_pos h2]
theorem newM_0 {n : Int} {nodes : List Int} (h : ¬ (n < 1 ∨ 1024 < n ∨ nodes.length = 0 ∨ ¬ ∀ x ∈ nodes, 0 ≤ x ∧ x < 16)) (h2 : ¬ (16 < nodes.length ∨ n < nodes.length)) : newM n nodes = (⟨1, n, piecesTo n nodes.length nodes nodes.length⟩, 0) := by
  rw [newM, if_neg h, if_neg h2]

theorem piece_bd {n : Int} {k : Nat} (h1 : 1 ≤ n) (h2 : n ≤ 1024) (h3 : 0 < k) : 0 ≤ n.tdiv k ∧ n.tdiv k ≤ 1024 ∧ 0 ≤ n.tmod k ∧ n.tmod k < k ∧ (k : Int) * n.tdiv k + n.tmod k = n ∧
    ∀ i : Nat, i < k → 0 ≤ (i : Int) * n.tdiv k ∧ (i : Int) * n.tdiv k ≤ 1024 ∧ ((i : Int) + 1) * n.tdiv k = (i : Int) * n.tdiv k + n.tdiv k ∧ (i : Int) * n.tdiv k + n.tdiv k ≤ 1024 := by
  have a1 : 0 ≤ n.tdiv k := Int.tdiv_nonneg (by omega) (by omega)
  have a3 : 0 ≤ n.tmod k := Int.tmod_nonneg _ (by omega)
  have a4 : n.tmod k < k := Int.tmod_lt_of_pos _ (by omega)
  have a5 : (k : Int) * n.tdiv k + n.tmod k = n := Int.mul_tdiv_add_tmod n k
  have a6 : ∀ i : Nat, i < k → ((i : Int) + 1) * n.tdiv k ≤ (k : Int) * n.tdiv k := fun i hi => Int.mul_le_mul_of_nonneg_right (by omega) a1
  refine ⟨a1, ?_, a3, a4, a5, fun i hi => ?_⟩
  · have := a6 0 h3
    simp at this
    omega
  · have b1 : 0 ≤ (i : Int) * n.tdiv k := Int.mul_nonneg (by omega) a1
    have b2 : ((i : Int) + 1) * n.tdiv k = (i : Int) * n.tdiv k + n.tdiv k := by rw [Int.add_mul, Int.one_mul]
    have b3 := a6 i hi
    refine ⟨b1, by omega, b2, by omega⟩


theorem wk_zero {e : Int} : Wk (.tup [.agg [.int .i64 0, .int .i64 0, .nils], .int .i64 e]) (.tup [d24 ⟨0, 0, []⟩, d3 e]) := .tup (.cons (.agg (.cons .refl (.cons .refl (.cons .nils .nil)))) (.cons .refl .nil))

end Go.Proofs.Ytgigpjkdfhhahaa.M


namespace Go.Proofs.Ytgigpjkdfhhahaa.M
open Go.A
set_option linter.unusedVariables false
set_option linter.unusedSimpArgs false
set_option linter.unnecessarySimpa false
attribute [local irreducible] IntKind.wrap bitsI
set_option maxRecDepth 100000


def pieceIx (b : Int) (k : Int) : List T50 → Int
  | [] => -1
  | x :: l => if b < x.to_ then k else pieceIx b (k + 1) l


def findM (m : T23) (b : Int) : Int × Int :=
  if rightP m then (if b < 0 ∨ m.n_ ≤ b then (0, 9) else (pieceIx b 0 m.pieces_, 0)) else (0, 1)


theorem new_alive : newM 10 [0, 1, 2] = (⟨1, 10, [⟨0, 4, 0⟩, ⟨4, 7, 1⟩, ⟨7, 10, 2⟩]⟩, 0) := by decide
theorem okm_alive : ok24 ⟨1, 10, [⟨0, 4, 0⟩, ⟨4, 7, 1⟩, ⟨7, 10, 2⟩]⟩ := by simp [ok24, ok3, ok22, ok51, td51]
theorem find_alive : findM ⟨1, 10, [⟨0, 4, 0⟩, ⟨4, 7, 1⟩, ⟨7, 10, 2⟩]⟩ 6 = (1, 0) := by decide
theorem right_alive : decide (rightP ⟨1, 10, [⟨0, 4, 0⟩, ⟨4, 7, 1⟩, ⟨7, 10, 2⟩]⟩) = true := by decide

theorem piecesTo_ok {n : Int} {a : List Int} (h1 : 1 ≤ n) (h2 : n ≤ 1024) (ha : ok52 a) : ∀ {i : Nat}, i ≤ a.length → ∀ p ∈ piecesTo n a.length a i, ok51 p
  | 0, _, p, hp => by simp [piecesTo] at hp
  | i + 1, hi, p, hp => by
    obtain ⟨x, hx⟩ := at_lt (l := a) (i := i) (by omega)
    rw [piecesTo_succ hx] at hp
    rcases List.mem_append.mp hp with hp | hp
    · exact piecesTo_ok h1 h2 ha (by omega) p hp
    · simp only [List.mem_singleton] at hp
      subst hp
      obtain ⟨b1, b2, b3, b4, b5, b6⟩ := piece_bd (n := n) (k := a.length) h1 h2 (by omega)
      obtain ⟨c1, c2, c3, c4⟩ := b6 i (by omega)
      have hx3 := ha.1 x (List.mem_of_getElem? hx)
      have hb := b4
      simp only [ok3] at hx3
      have hm : 0 ≤ (a.length : Int) * n.tdiv a.length := Int.mul_nonneg (by omega) b1
      refine ⟨?_, ?_, hx3⟩
      · simp only [pieceAt, ok3]; omega
      · simp only [pieceAt, ok3]; omega

theorem newM_ok {n : Int} {a : List Int} (hn : ok3 n) (ha : ok52 a) : ok24 (newM n a).1 ∧ ok3 (newM n a).2 := by
  unfold newM
  split
  · exact ⟨⟨by simp [ok3], by simp [ok3], by simp [ok22]⟩, by simp [ok3]⟩
  · split
    · exact ⟨⟨by simp [ok3], by simp [ok3], by simp [ok22]⟩, by simp [ok3]⟩
    · refine ⟨⟨by simp [ok3], hn, ?_, ?_⟩, by simp [ok3]⟩
      · exact piecesTo_ok (by omega) (by omega) ha (Nat.le_refl _)
      · simp only [piecesTo_len (Nat.le_refl _), td51]; omega


end Go.Proofs.Ytgigpjkdfhhahaa.M


namespace Go.Proofs.Ytgigpjkdfhhahaa.M
open Go.A
set_option linter.unusedVariables false
set_option linter.unusedSimpArgs false
set_option linter.unnecessarySimpa false
attribute [local irreducible] IntKind.wrap bitsI
set_option maxRecDepth 100000

theorem scr51 (k : Nat) (l : List T50) : scs k (l.map r51) := by rw [scs_map]; intro x _; simp [r51, c51, D.sc, d3, scs]

def nextM (m : T23) (l : List T50) : T23 × Int := if 1099511627776 ≤ m.version_ then (⟨0, 0, []⟩, 6) else (⟨m.version_ + 1, m.n_, l⟩, 0)

theorem endsAt_le : ∀ {l : List T50} {a n : Int}, endsAt a l = some n → a ≤ n
  | [], a, n, h => by simp [endsAt] at h; omega
  | x :: l, a, n, h => by
    simp only [endsAt] at h
    split at h
    · have := endsAt_le h; omega
    · cases h


theorem f48_ok (m : T23) (b : Int) (hm : ok24 m) (hb : ok3 b) : Pure Try.prog 48 [d24 m, d3 b] (.tup [d3 (findM m b).1, d3 (findM m b).2]) := by
  have hlen : m.pieces_.length ≤ 140737488351232 := by have := hm.2.2.2; simp [td51] at this; omega
  refine Pure.of ⟨sc24 _ _, trivial, trivial⟩ ⟨trivial, trivial, trivial⟩ ?_
  refine Go.A.CallsIn.of_exec tab_ok mixed Try.func48 rfl rfl [] [] ?_
  by_cases hr : rightP m
  · repeat' ((conv => whnf); first
      | refine Pure.call (f8_ok _ hm) ?_ | refine boolF_not ?_ | refine boolF_dect (by assumption) ?_)
    all_goals (conv => whnf)
    refine W_loopG (ι := Nat × Int) (fun i => ⟨(D.undef :: d3 b :: .pe (c24 m) :: D.undef :: D.undef :: D.undef :: .int .i64 (i.1:Int) :: D.undef :: D.undef :: D.undef :: D.undef :: D.undef :: D.undef :: D.undef :: D.undef :: D.undef :: D.undef :: D.undef :: D.undef :: D.undef :: D.undef :: D.undef :: D.undef :: D.undef :: D.undef :: D.undef :: D.undef :: D.undef :: D.undef :: D.undef :: D.undef :: D.undef :: D.undef :: D.undef :: D.undef :: D.undef :: []), []⟩) (fun i => m.pieces_.length - i.1)
      (fun i => i.1 ≤ m.pieces_.length ∧ endsAt i.2 (m.pieces_.drop i.1) = some m.n_ ∧ 0 ≤ i.2 ∧ (0 ≤ b → i.2 ≤ b ∧ pieceIx b i.1 (m.pieces_.drop i.1) = pieceIx b 0 m.pieces_)) (0, 0) (Ghost.hold [1,2,6] rfl) ⟨Nat.zero_le _, hr.2.2.2.2.2, Int.le_refl _, fun h => ⟨h, rfl⟩⟩ ?_
    rintro ⟨i, a⟩ ⟨h1, h2, h3, h4⟩
    dsimp only at h1 h2 h3 h4 ⊢
    refine exec_ok tab_ok mixed 1000 (bx := [true]) (own := []) ?_
    rcases Nat.lt_or_ge i m.pieces_.length with h | h
    · obtain ⟨x, hx⟩ := at_lt h
      rw [drop_of_get hx] at h2 h4
      have hc : x.from_ = a ∧ a < x.to_ ∧ 0 ≤ x.node_ ∧ x.node_ < 16 := by
        rw [endsAt] at h2
        split at h2
        · assumption
        · cases h2
      rw [endsAt, if_pos hc] at h2
      have hle := endsAt_le h2
      repeat' ((conv => whnf); first
        | refine And.intro rfl ?_ | refine And.intro (by omega) ?_ | refine Exists.intro _ (And.intro (map_get (by assumption)) ?_) | refine Exists.intro _ (And.intro (⟨(List.length_map _).symm⟩) ?_) | refine Exists.intro _ (And.intro (w64 (by omega) (by omega)) ?_) | refine boolF_dect (by omega) ?_ | refine boolF_dec (fun _ => ?_) (fun _ => ?_))
      all_goals (conv => whnf)
      · have e : findM m b = ((i : Int), 0) := by
          rw [findM, if_pos hr, if_neg (by omega), ← (h4 (by omega)).2, pieceIx, if_pos (by omega)]
        rw [e]
        exact ⟨rfl⟩
      all_goals
        refine ⟨(i + 1, x.to_), Ghost.hold [1,2,6] rfl, ⟨by omega, h2, by dsimp only; omega, fun h0 => ?_⟩, by dsimp only; omega⟩
        obtain ⟨g1, g2⟩ := h4 h0
        refine ⟨by dsimp only; omega, ?_⟩
        rw [pieceIx, if_neg (by omega)] at g2
        exact g2
    · rw [List.drop_of_length_le h, endsAt] at h2
      have ha := Option.some.inj h2
      have hb9 : b < 0 ∨ m.n_ ≤ b := by
        by_cases h0 : 0 ≤ b
        · have := (h4 h0).1; omega
        · omega
      have e : findM m b = (0, 9) := by rw [findM, if_pos hr, if_pos hb9]
      rw [e]
      repeat' ((conv => whnf); first
        | refine Exists.intro _ (And.intro (⟨(List.length_map _).symm⟩) ?_) | refine boolF_decf (by omega) ?_)
      all_goals (conv => whnf)
      exact ⟨rfl⟩
  · have e : findM m b = (0, 1) := by rw [findM, if_neg hr]
    rw [e]
    repeat' ((conv => whnf); first
      | refine Pure.call (f8_ok _ hm) ?_ | refine boolF_not ?_ | refine boolF_decf (by assumption) ?_)
    all_goals (conv => whnf)
    exact ⟨rfl⟩

end Go.Proofs.Ytgigpjkdfhhahaa.M

