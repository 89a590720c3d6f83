import Derived.Test.YtlfbchkcgchoaaaB4
import Derived.Scope
-- merged
namespace Go.Proofs.Ytlfbchkcgchoaaa.C
open Go.A
set_option linter.unusedVariables false
set_option linter.unusedSimpArgs false
set_option linter.unnecessarySimpa false
attribute [local irreducible] IntKind.wrap bitsI
open B
set_option maxRecDepth 100000
set_option maxHeartbeats 4000000

abbrev Dn := T41
def aheadD (a b : Dn) : Prop := 0 ≤ a.end_ ∧ a.end_ < b.start_
instance (a b : Dn) : Decidable (aheadD a b) := inferInstanceAs (Decidable (_ ∧ _))
def rightD (n : Int) (d : Dn) : Prop := okOp n d.op_ ∧ 0 ≤ d.start_ ∧ (d.start_ ≤ d.end_ ∨ d.end_ = -1)
instance (n : Int) (d : Dn) : Decidable (rightD n d) := inferInstanceAs (Decidable (_ ∧ _ ∧ _))
def allD (n : Int) (h : List Dn) : Prop := ∀ d ∈ h, rightD n d
instance (n : Int) (h : List Dn) : Decidable (allD n h) := inferInstanceAs (Decidable (∀ d ∈ h, rightD n d))
def rightC (n : Int) (h : List Dn) : Int := if 6 < h.length then 6 else if allD n h then 0 else 1
def bigH (h : List Dn) : Prop := ∀ d ∈ h, d.op_.data_.length ≤ 140737488351232

theorem scd42 (k : Nat) (d : Dn) : (d42 d).sc k := by
  simp only [d42, c42, c39, c3, D.sc]
  exact ⟨trivial, trivial, trivial, scd34 _ _, trivial, trivial, trivial⟩
theorem scr42 (k : Nat) (l : List Dn) : scs k (l.map r42) := by
  rw [scs_map]
  intro x _
  exact scd42 k x
theorem scd24 (k : Nat) (l : List Dn) : (d24 l).sc k := scr42 k l

theorem f40_ok (a b : Dn) : Pure Try.prog 40 [d42 a, d42 b] (.bool (decide (aheadD a b))) := by
  refine Pure.of ⟨scd42 _ _, scd42 _ _, trivial⟩ trivial ?_
  refine Go.A.CallsIn.of_exec tab_ok mixed Try.func40 rfl rfl [] [] ?_
  by_cases h1 : 0 ≤ a.end_
  · repeat' ((conv => whnf); first
      | refine boolF_dect (by assumption) ?_)
    all_goals (conv => whnf)
    exact ⟨by simp [aheadD, h1]⟩
  · repeat' ((conv => whnf); first
      | refine boolF_decf (by assumption) ?_)
    all_goals (conv => whnf)
    exact ⟨bool_f (fun h => h1 h.1)⟩
theorem f17_ok (a b : Dn) : Pure Try.prog 17 [d42 a, d42 b] (.bool (decide (aheadD a b))) := by
  refine Pure.of ⟨scd42 _ _, scd42 _ _, trivial⟩ trivial ?_
  refine Go.A.CallsIn.of_exec tab_ok mixed Try.func17 rfl rfl [] [] ?_
  by_cases h1 : 0 ≤ a.end_
  · repeat' ((conv => whnf); first
      | refine boolF_dect (by assumption) ?_)
    all_goals (conv => whnf)
    exact ⟨by simp [aheadD, h1]⟩
  · repeat' ((conv => whnf); first
      | refine boolF_decf (by assumption) ?_)
    all_goals (conv => whnf)
    exact ⟨bool_f (fun h => h1 h.1)⟩

theorem f37_ok (n : Int) (d : Dn) (hd : d.op_.data_.length ≤ 140737488351232) : Pure Try.prog 37 [d42 d, .pe [.int .i64 n]] (.bool (!decide (rightD n d))) := by
  refine Pure.of ⟨scd42 _ _, ⟨trivial, trivial⟩, trivial⟩ trivial ?_
  refine Go.A.CallsIn.of_exec tab_ok mixed Try.func37 rfl rfl [] [] ?_
  by_cases h1 : okOp n d.op_
  · by_cases h2 : d.start_ < 0
    · rw [decide_eq_false (fun h : rightD n d => by have := h.2.1; omega)]
      repeat' ((conv => whnf); first
        | refine Pure.call (f38_ok _ _ hd) ?_ | refine boolF_not ?_ | refine boolF_dect (by assumption) ?_)
      all_goals (conv => whnf)
      exact ⟨rfl⟩
    · by_cases h3 : d.end_ < d.start_
      · by_cases h4 : d.end_ = -1
        · rw [decide_eq_true (show rightD n d from ⟨h1, by omega, .inr h4⟩)]
          repeat' ((conv => whnf); first
            | refine Pure.call (f38_ok _ _ hd) ?_ | refine boolF_not ?_ | refine boolF_dect (by assumption) ?_ | refine boolF_decf (by assumption) ?_)
          all_goals (conv => whnf)
          exact ⟨by simp [h4]⟩
        · rw [decide_eq_false (fun h : rightD n d => by have := h.2.2; omega)]
          repeat' ((conv => whnf); first
            | refine Pure.call (f38_ok _ _ hd) ?_ | refine boolF_not ?_ | refine boolF_dect (by assumption) ?_ | refine boolF_decf (by assumption) ?_)
          all_goals (conv => whnf)
          exact ⟨by simp [h4]⟩
      · rw [decide_eq_true (show rightD n d from ⟨h1, by omega, .inl (by omega)⟩)]
        repeat' ((conv => whnf); first
          | refine Pure.call (f38_ok _ _ hd) ?_ | refine boolF_not ?_ | refine boolF_dect (by assumption) ?_ | refine boolF_decf (by assumption) ?_)
        all_goals (conv => whnf)
        exact ⟨rfl⟩
  · repeat' ((conv => whnf); first
      | refine Pure.call (f38_ok _ _ hd) ?_ | refine boolF_not ?_ | refine boolF_decf (by assumption) ?_)
    all_goals (conv => whnf)
    exact ⟨by simp [rightD, h1]⟩

def badH (n : Int) : List Dn → Nat → Int
  | [], _ => -1
  | o :: l, i => if rightD n o then badH n l (i + 1) else (i : Int)
theorem badH_neg {n : Int} : ∀ {l : List Dn} {i : Nat}, allD n l → badH n l i = -1
  | [], _, _ => rfl
  | o :: l, i, h => by
    rw [badH, if_pos (h o List.mem_cons_self)]
    exact badH_neg fun x hx => h x (List.mem_cons_of_mem _ hx)
theorem badH_pos {n : Int} : ∀ {l : List Dn} {i : Nat}, ¬ allD n l → 0 ≤ badH n l i
  | [], _, h => absurd (fun x hx => by cases hx) h
  | o :: l, i, h => by
    rw [badH]
    split
    · rename_i ho
      exact badH_pos fun hl => h fun x hx => by
        rcases List.mem_cons.mp hx with rfl | hx
        · exact ho
        · exact hl x hx
    · omega

theorem f51_ok (n : Int) (h : List Dn) (hn : h.length ≤ 140737488351232) (hb : bigH h) : Pure Try.prog 51 [d24 h, .fn 37 [.pe [.int .i64 n]]] (.int .i64 (badH n h 0)) := by
  refine Pure.of ⟨scd24 _ _, ⟨⟨trivial, trivial⟩, trivial⟩, trivial⟩ trivial ?_
  refine Go.A.CallsIn.of_exec tab_ok mixed Try.func51 rfl rfl [] [] ?_
  repeat' ((conv => whnf); first
    | refine Exists.intro _ (And.intro (⟨(List.length_map _).symm⟩) ?_))
  all_goals (conv => whnf)
  refine W_loopG (ι := Nat) (fun i => ⟨(d24 h :: .fn 37 [.pe [.int .i64 n]] :: D.undef :: D.undef :: D.undef :: D.undef :: D.undef :: .int .i64 (h.length : Int) :: .int .i64 (i : Int) :: D.undef :: D.undef :: D.undef :: D.undef :: D.undef :: D.undef :: D.undef :: D.undef :: D.undef :: D.undef :: []), []⟩) (fun i => h.length - i)
    (fun i => i ≤ h.length ∧ badH n (h.drop i) i = badH n h 0) 0 (Ghost.hold [0, 1, 7, 8] rfl) ⟨Nat.zero_le _, rfl⟩ ?_
  rintro i ⟨h1, h2⟩
  refine exec_ok tab_ok mixed 1000 (bx := []) (own := []) ?_
  rcases Nat.lt_or_ge i h.length with hi | hi
  · obtain ⟨x, hx⟩ := at_lt hi
    have hxd := hb x (List.mem_of_getElem? hx)
    rw [drop_of_get hx, badH] at h2
    by_cases hok : rightD n x
    · rw [if_pos hok] at h2
      repeat' ((conv => whnf); first
        | refine Exists.intro _ (And.intro (map_at (by omega) hx) ?_) | refine And.intro rfl ?_ | refine And.intro (by omega) ?_ | refine Exists.intro _ (And.intro (w64 (by omega) (by omega)) ?_) | refine Pure.call (f37_ok _ _ hxd) ?_ | refine boolF_not ?_ | refine boolF_dect (by assumption) ?_ | refine boolF_dect (by omega) ?_)
      all_goals (conv => whnf)
      exact ⟨i + 1, Ghost.hold [0, 1, 7, 8] rfl, ⟨hi, h2⟩, by omega⟩
    · rw [if_neg hok] at h2
      repeat' ((conv => whnf); first
        | refine Exists.intro _ (And.intro (map_at (by omega) hx) ?_) | refine And.intro rfl ?_ | refine And.intro (by omega) ?_ | refine Pure.call (f37_ok _ _ hxd) ?_ | refine boolF_not ?_ | refine boolF_decf (by assumption) ?_ | refine boolF_dect (by omega) ?_)
      all_goals (conv => whnf)
      exact ⟨by rw [h2]⟩
  · rw [List.drop_of_length_le hi, badH] at h2
    repeat' ((conv => whnf); first
      | refine boolF_decf (by omega) ?_)
    all_goals (conv => whnf)
    exact ⟨by rw [← h2]⟩

theorem f36_ok (n : Int) (h : List Dn) (hn : h.length ≤ 140737488351232) (hb : bigH h) : Pure Try.prog 36 [d24 h, .fn 37 [.pe [.int .i64 n]]] (.bool (!decide (allD n h))) := by
  refine Pure.of ⟨scd24 _ _, ⟨⟨trivial, trivial⟩, trivial⟩, trivial⟩ trivial ?_
  refine Go.A.CallsIn.of_exec tab_ok mixed Try.func36 rfl rfl [] [] ?_
  repeat' ((conv => whnf); first
    | refine Pure.call (f51_ok _ _ hn hb) ?_)
  all_goals (conv => whnf)
  by_cases ha : allD n h
  · rw [badH_neg ha]; exact ⟨by simp [ha]⟩
  · have := badH_pos (i := 0) ha
    exact ⟨by simp [ha, this]⟩

theorem f20_ok (n : Int) (h : List Dn) (hn : h.length ≤ 140737488351232) (hb : bigH h) : Pure Try.prog 20 [.int .i64 n, d24 h] (.int .i64 (rightC n h)) := by
  refine Pure.of ⟨trivial, scd24 _ _, trivial⟩ trivial ?_
  refine Go.A.CallsIn.of_exec tab_ok mixed Try.func20 rfl rfl [] [] ?_
  by_cases h1 : 6 < h.length
  · repeat' ((conv => whnf); first
      | refine Exists.intro _ (And.intro (⟨(List.length_map _).symm⟩) ?_) | refine boolF_dect (by omega) ?_)
    all_goals (conv => whnf)
    exact ⟨by simp [rightC, h1]⟩
  · by_cases h2 : allD n h
    · repeat' ((conv => whnf); first
        | refine Exists.intro _ (And.intro (⟨(List.length_map _).symm⟩) ?_) | refine Pure.call (f36_ok _ _ hn hb) ?_ | refine boolF_not ?_ | refine boolF_dect (by assumption) ?_ | refine boolF_decf (by omega) ?_)
      all_goals (conv => whnf)
      exact ⟨by simp [rightC, h1, h2]⟩
    · repeat' ((conv => whnf); first
        | refine Exists.intro _ (And.intro (⟨(List.length_map _).symm⟩) ?_) | refine Pure.call (f36_ok _ _ hn hb) ?_ | refine boolF_not ?_ | refine boolF_decf (by assumption) ?_ | refine boolF_decf (by omega) ?_)
      all_goals (conv => whnf)
      exact ⟨by simp [rightC, h1, h2]⟩

theorem f19_ok (n : Int) (h : List Dn) (hn : h.length ≤ 140737488351232) (hb : bigH h) : Pure Try.prog 19 [.int .i64 n, d24 h] (.int .i64 (rightC n h)) := by
  refine Pure.of ⟨trivial, scd24 _ _, trivial⟩ trivial ?_
  refine Go.A.CallsIn.of_exec tab_ok mixed Try.func19 rfl rfl [] [] ?_
  by_cases h1 : 6 < h.length
  · repeat' ((conv => whnf); first
      | refine Exists.intro _ (And.intro (⟨(List.length_map _).symm⟩) ?_) | refine boolF_dect (by omega) ?_)
    all_goals (conv => whnf)
    exact ⟨by simp [rightC, h1]⟩
  · rw [rightC, if_neg h1]
    repeat' ((conv => whnf); first
      | refine Exists.intro _ (And.intro (⟨(List.length_map _).symm⟩) ?_) | refine boolF_decf (by omega) ?_)
    all_goals (conv => whnf)
    refine W_loopG (ι := Nat) (fun i => ⟨(.int .i64 n :: d24 h :: D.undef :: D.undef :: D.undef :: .int .i64 (i : Int) :: D.undef :: D.undef :: D.undef :: D.undef :: D.undef :: D.undef :: D.undef :: D.undef :: D.undef :: D.undef :: D.undef :: D.undef :: D.undef :: D.undef :: D.undef :: D.undef :: D.undef :: D.undef :: D.undef :: D.undef :: D.undef :: D.undef :: D.undef :: D.undef :: D.undef :: D.undef :: D.undef :: D.undef :: D.undef :: D.undef :: D.undef :: D.undef :: D.undef :: D.undef :: D.undef :: D.undef :: D.undef :: D.undef :: D.undef :: D.undef :: D.undef :: D.undef :: D.undef :: D.undef :: D.undef :: D.undef :: []), []⟩) (fun i => h.length - i)
      (fun i => i ≤ h.length ∧ allD n (h.take i)) 0 (Ghost.hold [0, 1, 5] rfl) ⟨Nat.zero_le _, fun d hd => by simp at hd⟩ ?_
    rintro i ⟨i1, i2⟩
    refine exec_ok tab_ok mixed 1000 (bx := []) (own := []) ?_
    rcases Nat.lt_or_ge i h.length with hi | hi
    · obtain ⟨x, hx⟩ := at_lt hi
      have hxm := List.mem_of_getElem? hx
      have hxd := hb x hxm
      have hbad : ¬ rightD n x → (if allD n h then (0 : Int) else 1) = 1 := fun hr => if_neg fun ha => hr (ha x hxm)
      have hnx : rightD n x → allD n (h.take (i + 1)) := fun hr d hd => by
        rw [take_snoc hx] at hd
        rcases List.mem_append.mp hd with hd | hd
        · exact i2 d hd
        · simp only [List.mem_singleton] at hd; subst hd; exact hr
      by_cases g1 : okOp n x.op_
      · by_cases g2 : x.start_ < 0
        · repeat' ((conv => whnf); first
            | refine PairK.mk (by kernel_rfl) ?_ | refine Exists.intro _ (And.intro (map_at (by omega) hx) ?_) | refine And.intro rfl ?_ | refine And.intro (by omega) ?_ | refine Exists.intro _ (And.intro (⟨(List.length_map _).symm⟩) ?_) | refine Pure.locK (f14_ok _ _ hxd) ?_ | refine boolF_not ?_ | refine boolF_dect (by assumption) ?_ | refine boolF_dect (by omega) ?_)
          all_goals (conv => whnf)
          exact ⟨by rw [hbad (fun h => by have := h.2.1; have := h.2.2; omega)]⟩
        · by_cases g4 : x.end_ = -1
          · repeat' ((conv => whnf); first
              | refine PairK.mk (by kernel_rfl) ?_ | refine Exists.intro _ (And.intro (map_at (by omega) hx) ?_) | refine And.intro rfl ?_ | refine And.intro (by omega) ?_ | refine Exists.intro _ (And.intro (⟨(List.length_map _).symm⟩) ?_) | refine Exists.intro _ (And.intro (w64 (by omega) (by omega)) ?_) | refine Pure.locK (f14_ok _ _ hxd) ?_ | refine boolF_not ?_ | refine boolF_dect (by assumption) ?_ | refine boolF_decf (by assumption) ?_ | refine boolF_dect (by omega) ?_)
            all_goals (conv => whnf)
            exact ⟨i + 1, Ghost.hold [0, 1, 5] rfl, ⟨hi, hnx ⟨g1, by omega, .inr g4⟩⟩, by omega⟩
          · by_cases g3 : x.end_ < x.start_
            · repeat' ((conv => whnf); first
                | refine PairK.mk (by kernel_rfl) ?_ | refine Exists.intro _ (And.intro (map_at (by omega) hx) ?_) | refine And.intro rfl ?_ | refine And.intro (by omega) ?_ | refine Exists.intro _ (And.intro (⟨(List.length_map _).symm⟩) ?_) | refine Pure.locK (f14_ok _ _ hxd) ?_ | refine boolF_not ?_ | refine boolF_dect (by assumption) ?_ | refine boolF_decf (by assumption) ?_ | refine boolF_dect (by omega) ?_)
              all_goals (conv => whnf)
              exact ⟨by rw [hbad (fun h => by have := h.2.1; have := h.2.2; omega)]⟩
            · repeat' ((conv => whnf); first
                | refine PairK.mk (by kernel_rfl) ?_ | refine Exists.intro _ (And.intro (map_at (by omega) hx) ?_) | refine And.intro rfl ?_ | refine And.intro (by omega) ?_ | refine Exists.intro _ (And.intro (⟨(List.length_map _).symm⟩) ?_) | refine Exists.intro _ (And.intro (w64 (by omega) (by omega)) ?_) | refine Pure.locK (f14_ok _ _ hxd) ?_ | refine boolF_not ?_ | refine boolF_dect (by assumption) ?_ | refine boolF_decf (by assumption) ?_ | refine boolF_dect (by omega) ?_)
              all_goals (conv => whnf)
              exact ⟨i + 1, Ghost.hold [0, 1, 5] rfl, ⟨hi, hnx ⟨g1, by omega, .inl (by omega)⟩⟩, by omega⟩
      · repeat' ((conv => whnf); first
          | refine PairK.mk (by kernel_rfl) ?_ | refine Exists.intro _ (And.intro (map_at (by omega) hx) ?_) | refine And.intro rfl ?_ | refine And.intro (by omega) ?_ | refine Exists.intro _ (And.intro (⟨(List.length_map _).symm⟩) ?_) | refine Pure.locK (f14_ok _ _ hxd) ?_ | refine boolF_not ?_ | refine boolF_decf (by assumption) ?_ | refine boolF_dect (by omega) ?_)
        all_goals (conv => whnf)
        exact ⟨by rw [hbad (fun h => g1 h.1)]⟩
    · rw [List.take_of_length_le hi] at i2
      rw [if_pos i2]
      repeat' ((conv => whnf); first
        | refine Exists.intro _ (And.intro (⟨(List.length_map _).symm⟩) ?_) | refine boolF_decf (by omega) ?_)
      all_goals (conv => whnf)
      exact ⟨rfl⟩

end Go.Proofs.Ytlfbchkcgchoaaa.C


namespace Go.Proofs.Ytlfbchkcgchoaaa.C
open Go.A
set_option linter.unusedVariables false
set_option linter.unusedSimpArgs false
set_option linter.unnecessarySimpa false
attribute [local irreducible] IntKind.wrap bitsI
open B
set_option maxRecDepth 100000
set_option maxHeartbeats 4000000

def rB (b : Bool) : D := .bool b
def dB (l : List Bool) : D := .sl (l.map rB)
theorem scrB (k : Nat) (l : List Bool) : scs k (l.map rB) := by rw [scs_map]; intro x _; simp [rB, D.sc]
def atB (l : List Bool) (j : Nat) : Bool := (l[j]?).getD false
theorem atB_get {l : List Bool} {j : Nat} (h : j < l.length) : l[j]? = some (atB l j) := by
  rw [atB, List.getElem?_eq_getElem h]; rfl

theorem atB_set (T : List Bool) (k j : Nat) (hk : k < T.length) : atB (T.set k true) j = if j = k then true else atB T j := by
  simp only [atB]
  by_cases h : j = k
  · subst h; rw [List.getElem?_set_self hk, if_pos rfl]; rfl
  · rw [List.getElem?_set_ne (Ne.symm h), if_neg h]

theorem powK_lt {n : Nat} (h : n < 64) {X : Nat → Prop} (hx : X (2 ^ n)) : powK (minBits n .u64) X := by
  rw [minBits_eq, show min n IntKind.u64.bits = n from Nat.min_eq_left (by show n ≤ 64; omega)]
  exact powK_iff.mpr hx
def bitP (s i : Nat) : Prop := s.testBit i = true
instance (s i : Nat) : Decidable (bitP s i) := inferInstanceAs (Decidable (_ = true))
theorem has_eq (s i : Nat) : ((s / 2 ^ i &&& 1) == 1) = s.testBit i := by
  rw [Nat.testBit, Nat.shiftRight_eq_div_pow, Nat.and_comm, bne, Bool.eq_iff_iff]
  have h2 := Nat.mod_two_eq_zero_or_one (s / 2 ^ i)
  have e : 1 &&& s / 2 ^ i = s / 2 ^ i % 2 := by rw [Nat.and_comm]; exact Nat.and_one_is_mod _
  rw [e]
  rcases h2 with h | h <;> simp [h]

attribute [local irreducible] powK
theorem f39_ok (s i : Nat) (hs : s < 18446744073709551616) (hi : i < 64) : Pure Try.prog 39 [.int .u64 (s : Int), .int .i64 (i : Int)] (.bool (decide (bitP s i))) := by
  have hq : s / 2 ^ i < 18446744073709551616 := Nat.lt_of_le_of_lt (Nat.div_le_self _ _) hs
  refine Pure.of ⟨trivial, trivial, trivial⟩ trivial ?_
  refine Go.A.CallsIn.of_exec tab_ok mixed Try.func39 rfl rfl [] [] ?_
  repeat' ((conv => whnf); first
    | refine powK_lt hi ?_ | refine Exists.intro _ (And.intro (u64and hq (by decide)) ?_))
  all_goals (conv => whnf)
  exact ⟨by rw [show decide (bitP s i) = s.testBit i from Bool.decide_eq_true, ← has_eq]⟩

end Go.Proofs.Ytlfbchkcgchoaaa.C


namespace Go.Proofs.Ytlfbchkcgchoaaa.C
open Go.A
set_option linter.unusedVariables false
set_option linter.unusedSimpArgs false
set_option linter.unnecessarySimpa false
attribute [local irreducible] IntKind.wrap bitsI
open B
set_option maxRecDepth 100000
set_option maxHeartbeats 4000000

def lastD (h : List Dn) (s : Nat) (d : Dn) : Prop := ∀ (k : Nat) (e : Dn), h[k]? = some e → bitP s k → ¬ aheadD d e
noncomputable instance (h : List Dn) (s : Nat) (d : Dn) : Decidable (lastD h s d) := Classical.propDecidable _
def mayAt (h : List Dn) (s : Nat) (a b : Int) (i : Nat) (d : Dn) : Prop := if bitP s i then d.start_ ≤ b ∧ ∀ (k : Nat) (e : Dn), h[k]? = some e → aheadD e d → bitP s k else ¬ (0 ≤ d.end_ ∧ d.end_ < a)
def mayD (h : List Dn) (s : Nat) (a b : Int) : Prop := ∀ (i : Nat) (d : Dn), h[i]? = some d → mayAt h s a b i d
noncomputable instance (h : List Dn) (s : Nat) (a b : Int) : Decidable (mayD h s a b) := Classical.propDecidable _

theorem f48_ok (h : List Dn) (s i : Nat) (d : Dn) (hn : h.length ≤ 6) (hs : s < 18446744073709551616) (hd : h[i]? = some d) : Pure Try.prog 48 [d24 h, .int .u64 (s : Int), .int .i64 (i : Int)] (.bool (decide (lastD h s d))) := by
  have hil := (List.getElem?_eq_some_iff.mp hd).1
  refine Pure.of ⟨scd24 _ _, trivial, trivial, trivial⟩ trivial ?_
  refine Go.A.CallsIn.of_exec tab_ok mixed Try.func48 rfl rfl [] [] ?_
  repeat' ((conv => whnf); first
    | refine Exists.intro _ (And.intro (⟨(List.length_map _).symm⟩) ?_))
  all_goals (conv => whnf)
  refine W_loopG (ι := Nat) (fun j => ⟨(d24 h :: .int .u64 (s : Int) :: .int .i64 (i : Int) :: D.undef :: D.undef :: D.undef :: D.undef :: D.undef :: d24 h :: .int .i64 (h.length : Int) :: .int .i64 (j : Int) :: D.undef :: D.undef :: D.undef :: D.undef :: D.undef :: D.undef :: D.undef :: D.undef :: D.undef :: D.undef :: D.undef :: D.undef :: D.undef :: D.undef :: D.undef :: D.undef :: D.undef :: []), []⟩) (fun j => h.length - j)
    (fun j => j ≤ h.length ∧ ∀ k e, k < j → h[k]? = some e → bitP s k → ¬ aheadD d e) 0 (Ghost.hold [0, 1, 2, 8, 9, 10] rfl) ⟨Nat.zero_le _, fun k e h0 => absurd h0 (Nat.not_lt_zero _)⟩ ?_
  rintro j ⟨h1, h2⟩
  refine exec_ok tab_ok mixed 1000 (bx := []) (own := []) ?_
  rcases Nat.lt_or_ge j h.length with hj | hj
  · obtain ⟨x, hx⟩ := at_lt hj
    have hk64 : j < 64 := by omega
    have next : (bitP s j → ¬ aheadD d x) → ∀ k e, k < j + 1 → h[k]? = some e → bitP s k → ¬ aheadD d e := fun g k e hk he => by
      rcases Nat.lt_or_ge k j with h3 | h3
      · exact h2 k e h3 he
      · obtain rfl : k = j := by omega
        rw [hx] at he; cases he
        exact g
    by_cases hb : bitP s j
    · by_cases ha : aheadD d x
      · repeat' ((conv => whnf); first
          | refine PairK.mk (by kernel_rfl) ?_ | refine Exists.intro _ (And.intro (map_at (by omega) hx) ?_) | refine Exists.intro _ (And.intro (map_at (by omega) hd) ?_) | refine And.intro rfl ?_ | refine And.intro (by omega) ?_ | refine Pure.locK (f39_ok _ _ hs hk64) ?_ | refine Pure.locK (f40_ok _ _) ?_ | refine boolF_dect (by assumption) ?_ | refine boolF_dect (by omega) ?_)
        all_goals (conv => whnf)
        exact ⟨bool_f (fun hl => hl j x hx hb ha)⟩
      · repeat' ((conv => whnf); first
          | refine PairK.mk (by kernel_rfl) ?_ | refine Exists.intro _ (And.intro (map_at (by omega) hx) ?_) | refine Exists.intro _ (And.intro (map_at (by omega) hd) ?_) | refine And.intro rfl ?_ | refine And.intro (by omega) ?_ | refine Exists.intro _ (And.intro (w64 (by omega) (by omega)) ?_) | refine Pure.locK (f39_ok _ _ hs hk64) ?_ | refine Pure.locK (f40_ok _ _) ?_ | refine boolF_dect (by assumption) ?_ | refine boolF_decf (by assumption) ?_ | refine boolF_dect (by omega) ?_)
        all_goals (conv => whnf)
        exact ⟨j + 1, Ghost.hold [0, 1, 2, 8, 9, 10] rfl, ⟨hj, next (fun _ => ha)⟩, by omega⟩
    · repeat' ((conv => whnf); first
        | refine PairK.mk (by kernel_rfl) ?_ | refine Exists.intro _ (And.intro (w64 (by omega) (by omega)) ?_) | refine Pure.locK (f39_ok _ _ hs hk64) ?_ | refine boolF_decf (by assumption) ?_ | refine boolF_dect (by omega) ?_)
      all_goals (conv => whnf)
      exact ⟨j + 1, Ghost.hold [0, 1, 2, 8, 9, 10] rfl, ⟨hj, next (fun h => absurd h hb)⟩, by omega⟩
  · rw [decide_eq_true (show lastD h s d from fun k e he => h2 k e (by have := (List.getElem?_eq_some_iff.mp he).1; omega) he)]
    repeat' ((conv => whnf); first
      | refine boolF_decf (by omega) ?_)
    all_goals (conv => whnf)
    exact ⟨rfl⟩

theorem f21_ok (h : List Dn) (s : Nat) (a b : Int) (hn : h.length ≤ 6) (hs : s < 18446744073709551616) : Pure Try.prog 21 [d24 h, .int .u64 (s : Int), .int .i64 a, .int .i64 b] (.bool (decide (mayD h s a b))) := by
  refine Pure.of ⟨scd24 _ _, trivial, trivial, trivial, trivial⟩ trivial ?_
  refine Go.A.CallsIn.of_exec tab_ok mixed Try.func21 rfl rfl [] [] ?_
  repeat' ((conv => whnf); first
    | refine Exists.intro _ (And.intro (⟨(List.length_map _).symm⟩) ?_))
  all_goals (conv => whnf)
  refine W_loopG (ι := Nat) (fun i => ⟨(d24 h :: .int .u64 (s : Int) :: .int .i64 a :: .int .i64 b :: D.undef :: D.undef :: D.undef :: D.undef :: D.undef :: D.undef :: D.undef :: D.undef :: d24 h :: .int .i64 (h.length : Int) :: .int .i64 (i : Int) :: D.undef :: D.undef :: D.undef :: D.undef :: D.undef :: D.undef :: D.undef :: D.undef :: D.undef :: D.undef :: D.undef :: D.undef :: D.undef :: D.undef :: D.undef :: D.undef :: D.undef :: D.undef :: D.undef :: D.undef :: D.undef :: D.undef :: D.undef :: D.undef :: D.undef :: D.undef :: D.undef :: D.undef :: D.undef :: D.undef :: D.undef :: D.undef :: D.undef :: D.undef :: D.undef :: D.undef :: D.undef :: D.undef :: D.undef :: D.undef :: D.undef :: D.undef :: []), []⟩) (fun i => h.length - i)
    (fun i => i ≤ h.length ∧ ∀ j d, j < i → h[j]? = some d → mayAt h s a b j d) 0 (Ghost.hold [0, 1, 2, 3, 12, 13, 14] rfl) ⟨Nat.zero_le _, fun k e h0 => absurd h0 (Nat.not_lt_zero _)⟩ ?_
  rintro i ⟨h1, h2⟩
  refine exec_ok tab_ok mixed 1000 (bx := []) (own := []) ?_
  rcases Nat.lt_or_ge i h.length with hi | hi
  · obtain ⟨x, hx⟩ := at_lt hi
    have hi64 : i < 64 := by omega
    have next : mayAt h s a b i x → ∀ j d, j < i + 1 → h[j]? = some d → mayAt h s a b j d := fun g j d hj hd => by
      rcases Nat.lt_or_ge j i with h3 | h3
      · exact h2 j d h3 hd
      · obtain rfl : j = i := by omega
        rw [hx] at hd; cases hd
        exact g
    by_cases hb : bitP s i
    · by_cases hst : b < x.start_
      · repeat' ((conv => whnf); first
          | refine Exists.intro _ (And.intro (map_at (by omega) hx) ?_) | refine And.intro (by decide) ?_ | refine And.intro rfl ?_ | refine And.intro (Nat.le_of_ble_eq_true rfl) ?_ | refine And.intro (by omega) ?_ | refine Pure.call (f39_ok _ _ hs hi64) ?_ | refine boolF_not ?_ | refine boolF_dect (by assumption) ?_ | refine boolF_dect (by omega) ?_)
        all_goals (conv => whnf)
        exact ⟨bool_f (fun hm => by have := hm i x hx; rw [mayAt, if_pos hb] at this; omega)⟩
      · repeat' ((conv => whnf); first
          | refine Exists.intro _ (And.intro (map_at (by omega) hx) ?_) | refine And.intro (by decide) ?_ | refine And.intro rfl ?_ | refine And.intro (Nat.le_of_ble_eq_true rfl) ?_ | refine And.intro (by omega) ?_ | refine Exists.intro _ (And.intro (⟨(List.length_map _).symm⟩) ?_) | refine Pure.call (f39_ok _ _ hs hi64) ?_ | refine boolF_not ?_ | refine boolF_dect (by assumption) ?_ | refine boolF_decf (by assumption) ?_ | refine boolF_dect (by omega) ?_)
        all_goals (conv => whnf)
        refine W_loopG (ι := Nat) (fun k => ⟨(d24 h :: .int .u64 (s : Int) :: .int .i64 a :: .int .i64 b :: D.undef :: D.undef :: D.undef :: D.undef :: D.undef :: D.undef :: .p 0 0 0 0 :: D.undef :: d24 h :: .int .i64 (h.length : Int) :: .int .i64 (i : Int) :: D.undef :: D.undef :: D.undef :: D.undef :: D.undef :: D.undef :: D.undef :: D.undef :: D.undef :: D.undef :: D.undef :: D.undef :: D.undef :: D.undef :: D.undef :: D.undef :: D.undef :: D.undef :: D.undef :: D.undef :: D.undef :: D.undef :: D.undef :: D.undef :: .int .i64 (h.length : Int) :: .int .i64 (k : Int) :: D.undef :: D.undef :: D.undef :: D.undef :: D.undef :: D.undef :: D.undef :: D.undef :: D.undef :: D.undef :: D.undef :: D.undef :: D.undef :: D.undef :: D.undef :: D.undef :: []), [.arr 0 6 [d42 x]]⟩) (fun k => h.length - k)
          (fun k => k ≤ h.length ∧ ∀ j e, j < k → h[j]? = some e → aheadD e x → bitP s j) 0 (Ghost.hold [0, 1, 2, 3, 10, 12, 13, 14, 39, 40] rfl) ⟨Nat.zero_le _, fun k e h0 => absurd h0 (Nat.not_lt_zero _)⟩ ?_
        rintro k ⟨k1, k2⟩
        refine exec_ok tab_ok mixed 1000 (bx := []) (own := []) ?_
        rcases Nat.lt_or_ge k h.length with hk | hk
        · obtain ⟨y, hy⟩ := at_lt hk
          have hk64 : k < 64 := by omega
          have nextk : (aheadD y x → bitP s k) → ∀ j e, j < k + 1 → h[j]? = some e → aheadD e x → bitP s j := fun g j e hj he => by
            rcases Nat.lt_or_ge j k with h3 | h3
            · exact k2 j e h3 he
            · obtain rfl : j = k := by omega
              rw [hy] at he; cases he
              exact g
          by_cases ha : aheadD y x
          · by_cases hb2 : bitP s k
            · repeat' ((conv => whnf); first
                | refine PairK.mk (by kernel_rfl) ?_ | refine Exists.intro _ (And.intro (map_at (by omega) hy) ?_) | refine And.intro (by decide) ?_ | refine And.intro rfl ?_ | refine And.intro (by omega) ?_ | refine Exists.intro _ (And.intro (Eq.refl (α := Option D) _) ?_) | refine Exists.intro _ (And.intro (w64 (by omega) (by omega)) ?_) | refine Pure.locK (f39_ok _ _ hs hk64) ?_ | refine Pure.locK (f40_ok _ _) ?_ | refine boolF_not ?_ | refine boolF_dect (by assumption) ?_ | refine boolF_dect (by omega) ?_)
              all_goals (conv => whnf)
              exact ⟨k + 1, Ghost.hold [0, 1, 2, 3, 10, 12, 13, 14, 39, 40] rfl, ⟨hk, nextk (fun _ => hb2)⟩, by omega⟩
            · repeat' ((conv => whnf); first
                | refine PairK.mk (by kernel_rfl) ?_ | refine Exists.intro _ (And.intro (map_at (by omega) hy) ?_) | refine And.intro (by decide) ?_ | refine And.intro rfl ?_ | refine And.intro (by omega) ?_ | refine Exists.intro _ (And.intro (Eq.refl (α := Option D) _) ?_) | refine Pure.locK (f39_ok _ _ hs hk64) ?_ | refine Pure.locK (f40_ok _ _) ?_ | refine boolF_not ?_ | refine boolF_dect (by assumption) ?_ | refine boolF_decf (by assumption) ?_ | refine boolF_dect (by omega) ?_)
              all_goals (conv => whnf)
              exact ⟨bool_f (fun hm => by have := hm i x hx; rw [mayAt, if_pos hb] at this; exact hb2 (this.2 k y hy ha))⟩
          · repeat' ((conv => whnf); first
              | refine PairK.mk (by kernel_rfl) ?_ | refine Exists.intro _ (And.intro (map_at (by omega) hy) ?_) | refine And.intro (by decide) ?_ | refine And.intro rfl ?_ | refine And.intro (by omega) ?_ | refine Exists.intro _ (And.intro (Eq.refl (α := Option D) _) ?_) | refine Exists.intro _ (And.intro (w64 (by omega) (by omega)) ?_) | refine Pure.locK (f40_ok _ _) ?_ | refine boolF_decf (by assumption) ?_ | refine boolF_dect (by omega) ?_)
            all_goals (conv => whnf)
            exact ⟨k + 1, Ghost.hold [0, 1, 2, 3, 10, 12, 13, 14, 39, 40] rfl, ⟨hk, nextk (fun h => absurd h ha)⟩, by omega⟩
        · repeat' ((conv => whnf); first
            | refine Exists.intro _ (And.intro (w64 (by omega) (by omega)) ?_) | refine boolF_decf (by omega) ?_)
          all_goals (conv => whnf)
          exact ⟨i + 1, Ghost.back [0, 1, 2, 3, 12, 13, 14] 0 rfl rfl (Nat.zero_le _) (by simp [scs, D.sc, scd24]) (fun _ h => by cases h), ⟨hi, next (by
            rw [mayAt, if_pos hb]
            exact ⟨by omega, fun j e he => k2 j e (by have := (List.getElem?_eq_some_iff.mp he).1; omega) he⟩)⟩, by omega⟩
    · by_cases he1 : 0 ≤ x.end_
      · by_cases he2 : x.end_ < a
        · repeat' ((conv => whnf); first
            | refine Exists.intro _ (And.intro (map_at (by omega) hx) ?_) | refine And.intro (by decide) ?_ | refine And.intro rfl ?_ | refine And.intro (Nat.le_of_ble_eq_true rfl) ?_ | refine And.intro (by omega) ?_ | refine Pure.call (f39_ok _ _ hs hi64) ?_ | refine boolF_not ?_ | refine boolF_dect (by assumption) ?_ | refine boolF_decf (by assumption) ?_ | refine boolF_dect (by omega) ?_)
          all_goals (conv => whnf)
          exact ⟨bool_f (fun hm => by have := hm i x hx; rw [mayAt, if_neg hb] at this; exact this ⟨he1, he2⟩)⟩
        · repeat' ((conv => whnf); first
            | refine Exists.intro _ (And.intro (map_at (by omega) hx) ?_) | refine And.intro (by decide) ?_ | refine And.intro rfl ?_ | refine And.intro (Nat.le_of_ble_eq_true rfl) ?_ | refine And.intro (by omega) ?_ | refine Exists.intro _ (And.intro (w64 (by omega) (by omega)) ?_) | refine Pure.call (f39_ok _ _ hs hi64) ?_ | refine boolF_not ?_ | refine boolF_dect (by assumption) ?_ | refine boolF_decf (by assumption) ?_ | refine boolF_dect (by omega) ?_)
          all_goals (conv => whnf)
          exact ⟨i + 1, Ghost.back [0, 1, 2, 3, 12, 13, 14] 0 rfl rfl (Nat.zero_le _) (by simp [scs, D.sc, scd24]) (fun _ h => by cases h), ⟨hi, next (by rw [mayAt, if_neg hb]; omega)⟩, by omega⟩
      · repeat' ((conv => whnf); first
          | refine Exists.intro _ (And.intro (map_at (by omega) hx) ?_) | refine And.intro (by decide) ?_ | refine And.intro rfl ?_ | refine And.intro (Nat.le_of_ble_eq_true rfl) ?_ | refine And.intro (by omega) ?_ | refine Exists.intro _ (And.intro (w64 (by omega) (by omega)) ?_) | refine Pure.call (f39_ok _ _ hs hi64) ?_ | refine boolF_not ?_ | refine boolF_decf (by assumption) ?_ | refine boolF_dect (by omega) ?_)
        all_goals (conv => whnf)
        exact ⟨i + 1, Ghost.back [0, 1, 2, 3, 12, 13, 14] 0 rfl rfl (Nat.zero_le _) (by simp [scs, D.sc, scd24]) (fun _ h => by cases h), ⟨hi, next (by rw [mayAt, if_neg hb]; omega)⟩, by omega⟩
  · rw [decide_eq_true (show mayD h s a b from fun j d hd => h2 j d (by have := (List.getElem?_eq_some_iff.mp hd).1; omega) hd)]
    repeat' ((conv => whnf); first
      | refine boolF_decf (by omega) ?_)
    all_goals (conv => whnf)
    exact ⟨rfl⟩

end Go.Proofs.Ytlfbchkcgchoaaa.C


namespace Go.Proofs.Ytlfbchkcgchoaaa.C
open Go.A
set_option linter.unusedVariables false
set_option linter.unusedSimpArgs false
set_option linter.unnecessarySimpa false
attribute [local irreducible] IntKind.wrap bitsI
open B
set_option maxRecDepth 100000
set_option maxHeartbeats 4000000

abbrev Mk := Nat → Bool
def Mk.with (S : Mk) (i : Nat) : Mk := fun k => decide (k = i) || S k
def Mk.wo (S : Mk) (i : Nat) : Mk := fun k => !decide (k = i) && S k
def emp : Mk := fun _ => false
def zer (n : Nat) : List Nat := List.replicate n 0
theorem zer_len (n : Nat) : (zer n).length = n := List.length_replicate
theorem zer_at (n j : Nat) : at0 (zer n) j = 0 := by
  unfold at0 zer
  rw [List.getElem?_replicate]
  split <;> rfl

/-- What some requests, done in some order, make of a volume that has nothing. -/
inductive Ord (h : List Dn) (n : Nat) : Mk → List Nat → Prop where
  | nil : Ord h n emp (zer n)
  | snoc {S : Mk} {x : List Nat} {i : Nat} {d : Dn} : Ord h n S x → h[i]? = some d → S i = false → (∀ (k : Nat) (e : Dn), h[k]? = some e → aheadD e d → S k = true) → Ord h n (S.with i) (doO x d.op_)

theorem Mk.with_at (S : Mk) (i k : Nat) : S.with i k = true ↔ k = i ∨ S k = true := by simp [Mk.with]
theorem Mk.wo_at (S : Mk) (i k : Nat) : S.wo i k = true ↔ k ≠ i ∧ S k = true := by simp [Mk.wo]
theorem Mk.ext {S T : Mk} (h : ∀ k, S k = true ↔ T k = true) : S = T := funext fun k => by
  have := h k
  cases hs : S k <;> cases ht : T k <;> simp_all
theorem emp_at (k : Nat) : ¬ emp k = true := by simp [emp]

theorem Ord.len {h : List Dn} {n : Nat} (ha : allD n h) {S : Mk} {x : List Nat} (o : Ord h n S x) : x.length = n := by
  induction o with
  | nil => exact zer_len n
  | snoc o hd _ _ ih =>
    have := (ha _ (List.mem_of_getElem? hd)).1
    exact (do_at (by rw [ih]; exact this)).1.trans ih
theorem Ord.lt {h : List Dn} {n : Nat} {S : Mk} {x : List Nat} (o : Ord h n S x) {k : Nat} (hk : S k = true) : k < h.length := by
  induction o with
  | nil => exact absurd hk (emp_at k)
  | snoc o hd _ _ ih =>
    rcases (Mk.with_at _ _ _).mp hk with rfl | hk
    · exact (List.getElem?_eq_some_iff.mp hd).1
    · exact ih hk
/-- Whatever is ahead of what was done was done. -/
theorem Ord.closed {h : List Dn} {n : Nat} {S : Mk} {x : List Nat} (o : Ord h n S x) {i k : Nat} {d e : Dn} (hi : S i = true) (hd : h[i]? = some d) (he : h[k]? = some e) (hae : aheadD e d) : S k = true := by
  induction o with
  | nil => exact absurd hi (emp_at i)
  | snoc o hd2 _ hc ih =>
    rw [Mk.with_at] at hi ⊢
    rcases hi with rfl | hi
    · rw [hd] at hd2; cases hd2
      exact .inr (hc k e he hae)
    · exact .inr (ih hi)
theorem self_ahead {n : Int} {d : Dn} (h : rightD n d) : ¬ aheadD d d := fun ⟨h1, h2⟩ => by have := h.2.2; omega

def lastM (h : List Dn) (S : Mk) (d : Dn) : Prop := ∀ (k : Nat) (e : Dn), h[k]? = some e → S k = true → ¬ aheadD d e

/-- One that may have been the last is taken out: the blocks beside its own stay. -/
theorem Ord.out {h : List Dn} {n : Nat} (ha : allD n h) {S : Mk} {x : List Nat} (o : Ord h n S x) {i : Nat} {d : Dn} (hd : h[i]? = some d) (hi : S i = true) (hl : lastM h S d) :
    ∃ x', Ord h n (S.wo i) x' ∧ ∀ j, val d.op_ j = none → at0 x j = at0 x' j := by
  induction o with
  | nil => exact absurd hi (emp_at i)
  | snoc o hd2 hn hc ih =>
    rename_i S0 x0 k e
    have hok := (ha _ (List.mem_of_getElem? hd2)).1
    by_cases hk : k = i
    · subst hk
      rw [hd] at hd2; cases hd2
      have e1 : (S0.with k).wo k = S0 := Mk.ext fun m => by
        rw [Mk.wo_at, Mk.with_at]
        constructor
        · rintro ⟨h1, h2 | h2⟩
          · exact absurd h2 h1
          · exact h2
        · intro h2
          exact ⟨fun h1 => (by rw [h1, hn] at h2; cases h2), .inr h2⟩
      rw [e1]
      exact ⟨x0, o, fun j hj => by rw [(do_at (by rw [o.len ha]; exact hok)).2 j, hj]; rfl⟩
    · have hi0 : S0 i = true := by
        rcases (Mk.with_at _ _ _).mp hi with h1 | h1
        · exact absurd h1.symm hk
        · exact h1
      obtain ⟨x', o', h'⟩ := ih hi0 (fun m f hf hm => hl m f hf ((Mk.with_at _ _ _).mpr (.inr hm)))
      have e1 : (S0.with k).wo i = (S0.wo i).with k := Mk.ext fun m => by
        rw [Mk.wo_at, Mk.with_at, Mk.with_at, Mk.wo_at]
        constructor
        · rintro ⟨h1, h2 | h2⟩
          · exact .inl h2
          · exact .inr ⟨h1, h2⟩
        · rintro (h2 | ⟨h1, h2⟩)
          · exact ⟨by rw [h2]; exact hk, .inl h2⟩
          · exact ⟨h1, .inr h2⟩
      rw [e1]
      refine ⟨doO x' e.op_, .snoc o' hd2 (by simp [Mk.wo, hn]) (fun m f hf hae => ?_), fun j hj => ?_⟩
      · rw [Mk.wo_at]
        refine ⟨fun hm => ?_, hc m f hf hae⟩
        rw [hm, hd] at hf; cases hf
        exact hl k e hd2 ((Mk.with_at _ _ _).mpr (.inl rfl)) hae
      · rw [(do_at (by rw [o.len ha]; exact hok)).2 j, (do_at (by rw [o'.len ha]; exact hok)).2 j, h' j hj]

/-- Some requests make what a volume has, but for what is covered. -/
def Can (h : List Dn) (v : List Nat) (S : Mk) (cov : List Bool) : Prop := ∃ x, Ord h v.length S x ∧ ∀ j, j < v.length → atB cov j = false → at0 v j = at0 x j
def fitsP (v : List Nat) (cov : List Bool) (o : T38) : Prop := ∀ j x, val o j = some x → atB cov j = false → at0 v j = x
noncomputable instance (v : List Nat) (cov : List Bool) (o : T38) : Decidable (fitsP v cov o) := Classical.propDecidable _
def closedM (h : List Dn) (S : Mk) : Prop := ∀ (i k : Nat) (d e : Dn), S i = true → h[i]? = some d → h[k]? = some e → aheadD e d → S k = true
def addC (cov : List Bool) (o : T38) (cov' : List Bool) : Prop := ∀ j, atB cov' j = (atB cov j || (val o j).isSome)

theorem can_step {h : List Dn} {v : List Nat} (ha : allD v.length h) {S : Mk} {cov cov' : List Bool} {i : Nat} {d : Dn} (hd : h[i]? = some d) (hi : S i = true) (hl : lastM h S d) (hf : fitsP v cov d.op_) (hc : closedM h S) (hcov : addC cov d.op_ cov') :
    Can h v S cov ↔ Can h v (S.wo i) cov' := by
  have hr := ha _ (List.mem_of_getElem? hd)
  constructor
  · rintro ⟨x, o, hx⟩
    obtain ⟨x', o', h'⟩ := o.out ha hd hi hl
    refine ⟨x', o', fun j hj hj2 => ?_⟩
    rw [hcov, Bool.or_eq_false_iff] at hj2
    rw [hx j hj hj2.1, h' j (by simpa using hj2.2)]
  · rintro ⟨x', o', hx⟩
    have e1 : (S.wo i).with i = S := Mk.ext fun m => by
      rw [Mk.with_at, Mk.wo_at]
      constructor
      · rintro (h1 | h1)
        · rw [h1]; exact hi
        · exact h1.2
      · intro h1
        by_cases hm : m = i
        · exact .inl hm
        · exact .inr ⟨hm, h1⟩
    have o2 := Ord.snoc o' hd (by simp [Mk.wo]) (fun k e he hae => by
      rw [Mk.wo_at]
      refine ⟨fun hk => ?_, hc i k d e hi hd he hae⟩
      rw [hk, hd] at he; cases he
      exact self_ahead hr hae)
    rw [e1] at o2
    refine ⟨_, o2, fun j hj hj2 => ?_⟩
    rw [(do_at (by rw [o'.len ha]; exact hr.1)).2 j]
    cases hv : val d.op_ j with
    | some y => exact hf j y hv hj2
    | none => exact hx j hj (by rw [hcov, hj2, hv]; rfl)

theorem can_none {h : List Dn} {v : List Nat} (ha : allD v.length h) {S : Mk} {cov : List Bool} (hS : ∃ i, S i = true) (hno : ∀ (i : Nat) (d : Dn), h[i]? = some d → S i = true → lastM h S d → ¬ fitsP v cov d.op_) : ¬ Can h v S cov := by
  rintro ⟨x, o, hx⟩
  cases o with
  | nil => obtain ⟨i, hi⟩ := hS; exact emp_at i hi
  | snoc o hd hn hc =>
    rename_i S0 x0 i d
    have hr := ha _ (List.mem_of_getElem? hd)
    refine hno i d hd ((Mk.with_at _ _ _).mpr (.inl rfl)) (fun k e he hk hae => ?_) (fun j y hy hj => ?_)
    · rcases (Mk.with_at _ _ _).mp hk with rfl | hk
      · rw [hd] at he; cases he
        exact self_ahead hr hae
      · have := o.closed hk he hd hae
        rw [hn] at this; cases this
    · have hjl : j < v.length := Nat.lt_of_not_le fun hj2 => by
        rw [val_lt hr.1 (by omega)] at hy; cases hy
      rw [hx j hjl hj, (do_at (by rw [o.len ha]; exact hr.1)).2 j, hy]; rfl

theorem can_zero {h : List Dn} {v : List Nat} {cov : List Bool} : Can h v emp cov ↔ ∀ j, j < v.length → atB cov j = false → at0 v j = 0 := by
  constructor
  · rintro ⟨x, o, hx⟩ j hj hj2
    rw [hx j hj hj2]
    have key : ∀ {S x}, Ord h v.length S x → S = emp → x = zer v.length := fun o => by
      cases o with
      | nil => intro _; rfl
      | @snoc S0 x0 i d o _ _ _ => intro he; exact absurd ((congrFun he i).symm.trans ((Mk.with_at S0 i i).mpr (.inl rfl))) (emp_at i)
    rw [key o rfl, zer_at]
  · exact fun hx => ⟨_, .nil, fun j hj hj2 => by rw [hx j hj hj2, zer_at]⟩

theorem closed_wo {h : List Dn} {S : Mk} (hc : closedM h S) {i : Nat} {d : Dn} (hd : h[i]? = some d) (hl : lastM h S d) : closedM h (S.wo i) := fun m k f e hm hf he hae => by
  rw [Mk.wo_at] at hm ⊢
  refine ⟨fun hk => ?_, hc m k f e hm.2 hf he hae⟩
  rw [hk, hd] at he; cases he
  exact hl m f hf hm.2 hae

theorem can_all {h : List Dn} {v : List Nat} (ha : allD v.length h) {S : Mk} {cov : List Bool} (hcov : ∀ j, atB cov j = false) : Can h v S cov ↔ Ord h v.length S v := by
  constructor
  · rintro ⟨x, o, hx⟩
    have : v = x := at0_ext (o.len ha).symm fun j hj => hx j hj (hcov j)
    rw [← this] at o; exact o
  · exact fun o => ⟨v, o, fun _ _ _ => rfl⟩

end Go.Proofs.Ytlfbchkcgchoaaa.C


namespace Go.Proofs.Ytlfbchkcgchoaaa.C
open Go.A
set_option linter.unusedVariables false
set_option linter.unusedSimpArgs false
set_option linter.unnecessarySimpa false
attribute [local irreducible] IntKind.wrap bitsI
open B
set_option maxRecDepth 100000
set_option maxHeartbeats 4000000

def mk (s : Nat) : Mk := fun i => s.testBit i
noncomputable instance (h : List Dn) (n : Nat) (S : Mk) (x : List Nat) : Decidable (Ord h n S x) := Classical.propDecidable _
/-- A bit less. -/
def clr (s i : Nat) : Nat := (BitVec.ofNat 64 s &&& ~~~(BitVec.ofNat 64 (2 ^ i))).toNat
theorem clr_lt (s i : Nat) : clr s i < 18446744073709551616 := BitVec.isLt _
theorem clr_mk {s i : Nat} (hs : s < 18446744073709551616) (hi : i < 64) : mk (clr s i) = (mk s).wo i := by
  funext k
  have h2 : (2 ^ i : Nat) < 18446744073709551616 := Nat.pow_lt_pow_right (a := 2) (by omega) hi
  show (clr s i).testBit k = (!decide (k = i) && s.testBit k)
  rw [clr, ← BitVec.getLsbD, BitVec.getLsbD_and, BitVec.getLsbD_not, BitVec.getLsbD_ofNat, BitVec.getLsbD_ofNat, Nat.testBit_two_pow]
  by_cases hk : k < 64
  · by_cases e : k = i
    · subst e; simp [hk]
    · simp [hk, e, Ne.symm e]
  · have hsk : s.testBit k = false := Nat.testBit_lt_two_pow (Nat.lt_of_lt_of_le hs (Nat.pow_le_pow_right (n := 2) (by omega) (by omega : 64 ≤ k)))
    simp [hk, hsk]
theorem clr_eq {s i : Nat} (hs : s < 18446744073709551616) (hi : i < 64) : ((clr s i : Nat) : Int) = bitsI .andNot .u64 (s : Int) ((2 ^ i : Nat) : Int) := by
  have h2 : (2 ^ i : Nat) < 18446744073709551616 := Nat.pow_lt_pow_right (a := 2) (by omega) hi
  have e : ∀ z : Nat, BitVec.ofInt 64 (z : Int) = BitVec.ofNat 64 z := fun z => BitVec.ofInt_natCast _ _
  simp only [bitsI]
  rw [show IntKind.u64.bits = 64 from rfl, e, e]
  exact u64w (clr_lt s i)
theorem clr_less {s i : Nat} (hs : s < 18446744073709551616) (hi : i < 64) (hb : bitP s i) : clr s i < s := by
  have hm := clr_mk hs hi
  have hle : clr s i ≤ s := by
    rw [clr, BitVec.toNat_and]
    refine Nat.le_trans Nat.and_le_left ?_
    rw [BitVec.toNat_ofNat]
    exact Nat.mod_le _ _
  refine Nat.lt_of_le_of_ne hle fun e => ?_
  rw [e] at hm
  have := congrFun hm i
  rw [show mk s i = true from hb] at this
  simp [Mk.wo] at this
theorem shl_eq {i : Nat} (hi : i < 64) : ((2 ^ i : Nat) : Int) = IntKind.u64.wrap (((1 : Nat) : Int) * ((2 ^ i : Nat) : Int)) := by
  have h2 : (2 ^ i : Nat) < 18446744073709551616 := Nat.pow_lt_pow_right (a := 2) (by omega) hi
  have e : ((1 : Nat) : Int) * ((2 ^ i : Nat) : Int) = ((2 ^ i : Nat) : Int) := Int.one_mul _
  rw [e]
  exact u64w h2

theorem val_in {n : Int} {o : T38} (ho : okOp n o) {a c : Nat} (ha : o.off_ = (a : Int)) (hc : c = (dat o).length) (j : Nat) : val o j = if a ≤ j ∧ j < a + c then some (at0 (dat o) (j - a)) else none := by
  rw [val, ha, ← hc, Int.toNat_natCast]

theorem f49_ok (v : List Nat) (cov : List Bool) (o : T38) (hv : v.length ≤ 1024) (hcl : cov.length = v.length) (ho : okOp v.length o) : Pure Try.prog 49 [d34 v, dB cov, d39 o] (.bool (decide (fitsP v cov o))) := by
  have hod : o.data_.length ≤ 140737488351232 := by have := ho.2.2.2; omega
  have h50 := f50_ok o hod
  obtain ⟨d1, d2, d3', d4⟩ := dat_len ho
  obtain ⟨a, ha⟩ := Int.eq_ofNat_of_zero_le ho.2.2.1
  obtain ⟨c, hc⟩ : ∃ c, c = (dat o).length := ⟨_, rfl⟩
  have hval := val_in ho ha hc
  rw [← hc] at d1 d4
  have hr : rng o = ((a : Int), (c : Int)) := Prod.ext (d2.trans ha) d1.symm
  rw [rngD, hr] at h50
  rw [ha] at d4
  have hat : ∀ e, e < c → val o (a + e) = some (at0 (dat o) e) := fun e he => by rw [hval, if_pos (by omega), Nat.add_sub_cancel_left]
  refine Pure.of ⟨scd34 _ _, scrB _ _, scd39 _ _, trivial⟩ trivial ?_
  refine Go.A.CallsIn.of_exec tab_ok mixed Try.func49 rfl rfl [] [] ?_
  repeat' ((conv => whnf); first
    | refine Pure.call (h50) ?_)
  all_goals (conv => whnf)
  refine W_loopG (ι := Nat) (fun e => ⟨(d34 v :: dB cov :: D.undef :: D.undef :: D.undef :: .pe (c39 o) :: D.undef :: .int .i64 (a : Int) :: .int .i64 (c : Int) :: .int .i64 ((a + e : Nat) : Int) :: D.undef :: D.undef :: D.undef :: D.undef :: D.undef :: D.undef :: D.undef :: D.undef :: D.undef :: D.undef :: D.undef :: D.undef :: D.undef :: D.undef :: D.undef :: D.undef :: D.undef :: D.undef :: D.undef :: D.undef :: D.undef :: D.undef :: D.undef :: D.undef :: D.undef :: D.undef :: D.undef :: D.undef :: D.undef :: D.undef :: D.undef :: D.undef :: D.undef :: D.undef :: D.undef :: D.undef :: D.undef :: []), []⟩) (fun e => c - e)
    (fun e => e ≤ c ∧ ∀ f, f < e → atB cov (a + f) = false → at0 v (a + f) = at0 (dat o) f) 0 (Ghost.hold [0, 1, 5, 7, 8, 9] rfl) ⟨Nat.zero_le _, fun k h0 => absurd h0 (Nat.not_lt_zero _)⟩ ?_
  rintro e ⟨e1, e2⟩
  refine exec_ok tab_ok mixed 1000 (bx := []) (own := []) ?_
  rcases Nat.lt_or_ge e c with he | he
  · have hx := at0_get (l := v) (j := a + e) (by omega)
    have hy := atB_get (l := cov) (j := a + e) (by omega)
    obtain ⟨p, hp⟩ : ∃ p, p = at0 v (a + e) := ⟨_, rfl⟩
    rw [← hp] at hx
    have next : (atB cov (a + e) = false → p = at0 (dat o) e) → ∀ f, f < e + 1 → atB cov (a + f) = false → at0 v (a + f) = at0 (dat o) f := fun g f hf => by
      rcases Nat.lt_or_ge f e with h3 | h3
      · exact e2 f h3
      · obtain rfl : f = e := by omega
        rw [← hp]
        exact g
    have bad : atB cov (a + e) = false → ¬ p = at0 (dat o) e → ¬ fitsP v cov o := fun g1 g2 hf => g2 (hp.trans (hf _ _ (hat e he) g1))
    have hok := ho.2.2.2
    by_cases hk : o.kind_ = 1
    · have hdat : dat o = o.data_ := by rw [dat, if_neg (by omega)]
      rw [hdat] at hc next bad
      have hz := at0_get (l := o.data_) (j := e) (by omega)
      obtain ⟨q, hq⟩ : ∃ q, q = at0 o.data_ e := ⟨_, rfl⟩
      rw [← hq] at hz next bad
      cases hcv : atB cov (a + e) with
      | true =>
        rw [hcv] at hy next
        repeat' ((conv => whnf); first
          | refine Exists.intro _ (And.intro (map_at (by omega) hy) ?_) | refine Exists.intro _ (And.intro (map_at (by omega) hz) ?_) | refine And.intro (by decide) ?_ | refine And.intro rfl ?_ | refine And.intro (by omega) ?_ | refine Exists.intro _ (And.intro (w64 (by omega) (by omega)) ?_) | refine boolF_dect (by assumption) ?_ | refine boolF_dect (by omega) ?_)
        all_goals (conv => whnf)
        exact ⟨e + 1, Ghost.hold [0, 1, 5, 7, 8, 9] rfl, ⟨he, by rw [hdat]; exact next (fun h => by cases h)⟩, by omega⟩
      | false =>
        rw [hcv] at hy next bad
        by_cases hpq : p = q
        · repeat' ((conv => whnf); first
            | refine Exists.intro _ (And.intro (map_at (by omega) hx) ?_) | refine Exists.intro _ (And.intro (map_at (by omega) hy) ?_) | refine Exists.intro _ (And.intro (map_at (by omega) hz) ?_) | refine And.intro (by decide) ?_ | refine And.intro rfl ?_ | refine And.intro (by omega) ?_ | refine Exists.intro _ (And.intro (w64 (by omega) (by omega)) ?_) | refine boolF_not ?_ | refine boolF_dect (by assumption) ?_ | refine boolF_dect (by omega) ?_)
          all_goals (conv => whnf)
          exact ⟨e + 1, Ghost.hold [0, 1, 5, 7, 8, 9] rfl, ⟨he, by rw [hdat]; exact next (fun _ => hpq)⟩, by omega⟩
        · repeat' ((conv => whnf); first
            | refine Exists.intro _ (And.intro (map_at (by omega) hx) ?_) | refine Exists.intro _ (And.intro (map_at (by omega) hy) ?_) | refine Exists.intro _ (And.intro (map_at (by omega) hz) ?_) | refine And.intro (by decide) ?_ | refine And.intro rfl ?_ | refine And.intro (by omega) ?_ | refine Exists.intro _ (And.intro (w64 (by omega) (by omega)) ?_) | refine boolF_not ?_ | refine boolF_dect (by assumption) ?_ | refine boolF_decf (by assumption) ?_ | refine boolF_dect (by omega) ?_)
          all_goals (conv => whnf)
          exact ⟨bool_f (bad rfl hpq)⟩
    · have hdat : at0 (dat o) e = 0 := by
        rw [dat, if_pos (by omega), at0, List.getElem?_replicate]
        split <;> rfl
      rw [hdat] at next bad
      cases hcv : atB cov (a + e) with
      | true =>
        rw [hcv] at hy next
        repeat' ((conv => whnf); first
          | refine Exists.intro _ (And.intro (map_at (by omega) hy) ?_) | refine And.intro (by decide) ?_ | refine And.intro (by omega) ?_ | refine Exists.intro _ (And.intro (w64 (by omega) (by omega)) ?_) | refine boolF_decf (by assumption) ?_ | refine boolF_dect (by omega) ?_)
        all_goals (conv => whnf)
        exact ⟨e + 1, Ghost.hold [0, 1, 5, 7, 8, 9] rfl, ⟨he, next (fun h => by cases h)⟩, by omega⟩
      | false =>
        rw [hcv] at hy next bad
        by_cases hpq : p = 0
        · repeat' ((conv => whnf); first
            | refine Exists.intro _ (And.intro (map_at (by omega) hx) ?_) | refine Exists.intro _ (And.intro (map_at (by omega) hy) ?_) | refine And.intro (by decide) ?_ | refine And.intro rfl ?_ | refine And.intro (by omega) ?_ | refine Exists.intro _ (And.intro (w64 (by omega) (by omega)) ?_) | refine boolF_not ?_ | refine boolF_dect (by assumption) ?_ | refine boolF_decf (by assumption) ?_ | refine boolF_dect (by omega) ?_)
          all_goals (conv => whnf)
          exact ⟨e + 1, Ghost.hold [0, 1, 5, 7, 8, 9] rfl, ⟨he, next (fun _ => hpq)⟩, by omega⟩
        · repeat' ((conv => whnf); first
            | refine Exists.intro _ (And.intro (map_at (by omega) hx) ?_) | refine Exists.intro _ (And.intro (map_at (by omega) hy) ?_) | refine And.intro (by decide) ?_ | refine And.intro rfl ?_ | refine And.intro (by omega) ?_ | refine Exists.intro _ (And.intro (w64 (by omega) (by omega)) ?_) | refine boolF_not ?_ | refine boolF_decf (by assumption) ?_ | refine boolF_dect (by omega) ?_)
          all_goals (conv => whnf)
          exact ⟨bool_f (bad rfl hpq)⟩
  · rw [decide_eq_true (show fitsP v cov o from fun j x hj hj2 => by
      rw [hval] at hj
      split at hj
      · rename_i hin
        cases hj
        have := e2 (j - a) (by omega)
        rw [show a + (j - a) = j by omega] at this
        exact this hj2
      · cases hj)]
    repeat' ((conv => whnf); first
      | refine Exists.intro _ (And.intro (w64 (by omega) (by omega)) ?_) | refine boolF_decf (by omega) ?_)
    all_goals (conv => whnf)
    exact ⟨rfl⟩

end Go.Proofs.Ytlfbchkcgchoaaa.C


namespace Go.Proofs.Ytlfbchkcgchoaaa.C
open Go.A
set_option linter.unusedVariables false
set_option linter.unusedSimpArgs false
set_option linter.unnecessarySimpa false
attribute [local irreducible] IntKind.wrap bitsI
open B
attribute [local irreducible] powK
set_option maxRecDepth 100000
set_option maxHeartbeats 4000000

section
variable {F : Fence} {n : Nat} {P : Program} {b : Frame} {a : Act} {k : List Go.Item} {cs : List Frame} {w : World} {Q : Exit → Act → World → Prop}
theorem stepR_scope {c : Code} : step P (lone (b.atR a (.code (.scope c) :: k)) cs w) = .next (lone (b.atR a (.code c :: .inScope c :: k)) cs w) :=
  step_lone_go (by simp [stepG, stepG.exec, Frame.atR])
theorem stepR_inScope {c : Code} : step P (lone (b.atR a (.inScope c :: k)) cs w) = .next (lone (b.atR a k) cs w) :=
  step_lone_go (by simp [stepG, stepG.exec, Frame.atR])
theorem wpIn_scope {c : Code} (h : c.wpIn F n P (Exit.noGoto Q) a w) : (Code.scope c).wpIn F n P Q a w := by
  intro b k cs hro hb hr
  have h0 : (lone (b.atR a (.code (.scope c) :: k)) cs w).fenced P F := fenced_calm hb hr rfl
  obtain ⟨e, a₁, w₁, hq, harr⟩ := h b (.inScope c :: k) cs hro hb hr
  cases e with
  | normal => exact ⟨.normal, a₁, w₁, hq, .head h0 stepR_scope (StepsIn.trans harr (.one (fenced_calm hb hr rfl) stepR_inScope))⟩
  | exit id' =>
    have hx : exitTo id' (.inScope c :: k) = exitTo id' k := by simp [exitTo]
    exact ⟨.exit id', a₁, w₁, hq, fun k' hk => .head h0 stepR_scope (harr.1 k' (by rw [hx]; exact hk)),
      fun hr' hk => let ⟨k₁, h1, h2⟩ := harr.2 hr' (by rw [hx]; exact hk); ⟨k₁, h1, .head h0 stepR_scope h2⟩⟩
  | goto l => exact hq.elim
  | ret => exact ⟨_, a₁, w₁, hq, .of_steps (.one h0 stepR_scope) harr⟩
  | panic ch => exact ⟨_, a₁, w₁, hq, .of_steps (.one h0 stepR_scope) harr⟩
  | outgrown => exact ⟨_, a₁, w₁, hq, .of_steps (.one h0 stepR_scope) harr⟩
end
theorem after_goto {P : Program} {C : Ctx} {Post : Exit → Act → World → Prop} {l : Nat} : ∀ {k : List A.Item} {a w}, after P C k Post (.goto l) a w → Post (.goto l) a w
  | [], _, _, h => h
  | .code _ :: k, _, _, h => after_goto (k := k) h
  | .ops _ _ _ :: k, _, _, h => after_goto (k := k) h
  | .any _ _ _ :: k, _, _, h => after_goto (k := k) h
  | .inBlock _ :: k, _, _, h => after_goto (k := k) h
  | .hyp _ :: k, _, _, h => after_goto (k := k) h
theorem W_scope {P : Program} {n : Nat} {k : List A.Item} {s : St} {Q : Exit → St → Prop} {c : Code} (hQ : ∀ l s, ¬ Q (.goto l) s) (h : W P n (.code c :: k) s Q) : W P n (.code (.scope c) :: k) s Q :=
  W.intro fun C φ a w hn hs => wpIn_scope (wpIn_mono (h.run hn hs) fun e a w q => by
    cases e with
    | goto l => obtain ⟨_, _, _, h⟩ := after_goto q; exact hQ _ _ h
    | normal => exact q
    | exit id => exact q
    | ret => exact q
    | panic ch => exact q
    | outgrown => exact q)
theorem W_label {P : Program} {n : Nat} {k : List A.Item} {s : St} {Q : Exit → St → Prop} {l : Nat} (h : W P n k s Q) : W P n (.code (.label l) :: k) s Q := W.intro fun C φ a w hn hs => wpIn_label (h.run hn hs)

theorem mk_zero : mk 0 = emp := funext fun i => Nat.zero_testBit i
theorem bit_of {s : Nat} (h : s ≠ 0) : ∃ i, mk s i = true := Nat.exists_testBit_of_ne_zero h

theorem f32_ok (v : List Nat) (h : List Dn) (s0 : Nat) (hv : v.length ≤ 1024) (hn : h.length ≤ 6) (ha : allD v.length h) (hs0 : s0 < 18446744073709551616) (hc0 : closedM h (mk s0)) (hb0 : ∀ i, mk s0 i = true → i < h.length) :
    Pure Try.prog 32 [d34 v, d24 h, .int .u64 (s0 : Int)] (.bool (decide (Ord h v.length (mk s0) v))) := by
  refine Pure.of ⟨scd34 _ _, scd24 _ _, trivial, trivial⟩ trivial ?_
  refine Go.A.CallsIn.of_exec tab_ok mixed Try.func32 rfl rfl [] [] ?_
  (conv => whnf)
  refine W_scope (fun _ _ h => h) ?_
  refine exec_ok tab_ok mixed 1000 (bx := []) (own := []) ?_
  repeat' ((conv => whnf); first
    | refine And.intro (show ((1 : Nat) : Int) * (v.length : Int) ≤ 281474976710656 by omega) ?_ | refine And.intro rfl ?_ | refine And.intro (by omega) ?_ | refine Exists.intro _ (And.intro (⟨(List.length_map _).symm⟩) ?_))
  all_goals (conv => whnf)
  refine W_label ?_
  refine exec_ok tab_ok mixed 1000 (bx := [false]) (own := []) ?_
  (conv => whnf)
  refine W_loopG (ι := Nat × List Bool) (fun e => ⟨(d34 v :: d24 h :: .int .u64 (e.1 : Int) :: D.undef :: D.undef :: D.undef :: D.undef :: .h 0 0 0 v.length :: D.undef :: D.undef :: D.undef :: D.undef :: D.undef :: D.undef :: D.undef :: D.undef :: D.undef :: D.undef :: D.undef :: D.undef :: D.undef :: D.undef :: D.undef :: D.undef :: D.undef :: D.undef :: D.undef :: D.undef :: D.undef :: D.undef :: D.undef :: D.undef :: D.undef :: D.undef :: D.undef :: D.undef :: D.undef :: D.undef :: D.undef :: D.undef :: D.undef :: D.undef :: D.undef :: D.undef :: D.undef :: D.undef :: D.undef :: D.undef :: D.undef :: D.undef :: D.undef :: D.undef :: D.undef :: D.undef :: D.undef :: D.undef :: D.undef :: D.undef :: D.undef :: D.undef :: D.undef :: D.undef :: D.undef :: D.undef :: D.undef :: D.undef :: D.undef :: D.undef :: D.undef :: D.undef :: D.undef :: D.undef :: D.undef :: D.undef :: D.undef :: D.undef :: D.undef :: D.undef :: D.undef :: D.undef :: D.undef :: D.undef :: D.undef :: D.undef :: []), [.arr 0 1 (e.2.map rB)]⟩) (fun e => e.1)
    (fun e => e.1 < 18446744073709551616 ∧ e.2.length = v.length ∧ closedM h (mk e.1) ∧ (∀ i, mk e.1 i = true → i < h.length) ∧ (Can h v (mk e.1) e.2 ↔ Ord h v.length (mk s0) v)) (s0, List.replicate v.length false) (Ghost.hold [0, 1, 2, 7] (by dsimp only; rw [List.map_replicate]; rfl)) ⟨hs0, List.length_replicate, hc0, hb0, can_all ha fun j => by
      unfold atB; rw [List.getElem?_replicate]; split <;> rfl⟩ ?_
  rintro ⟨s, cov⟩ ⟨hs, hcl, hc, hb, hcan⟩
  dsimp only at hs hcl hc hb hcan ⊢
  refine exec_ok tab_ok mixed 1000 (bx := [false]) (own := []) ?_
  by_cases hz : s = 0
  · rw [hz, mk_zero, can_zero] at hcan
    repeat' ((conv => whnf); first
      | refine Exists.intro _ (And.intro (⟨(List.length_map _).symm⟩) ?_) | refine boolF_not ?_ | refine boolF_dect (by assumption) ?_)
    all_goals (conv => whnf)
    refine W_loopG (ι := Nat) (fun i => ⟨(d34 v :: d24 h :: .int .u64 (s : Int) :: D.undef :: D.undef :: D.undef :: D.undef :: .h 0 0 0 v.length :: D.undef :: D.undef :: D.undef :: D.undef :: D.undef :: D.undef :: D.undef :: D.undef :: D.undef :: D.undef :: D.undef :: D.undef :: D.undef :: D.undef :: D.undef :: D.undef :: D.undef :: D.undef :: D.undef :: D.undef :: D.undef :: D.undef :: D.undef :: D.undef :: D.undef :: D.undef :: D.undef :: D.undef :: D.undef :: D.undef :: D.undef :: D.undef :: D.undef :: D.undef :: D.undef :: D.undef :: D.undef :: D.undef :: D.undef :: D.undef :: D.undef :: D.undef :: D.undef :: D.undef :: D.undef :: D.undef :: D.undef :: D.undef :: D.undef :: D.undef :: D.undef :: D.undef :: D.undef :: D.undef :: D.undef :: D.undef :: D.undef :: D.undef :: D.undef :: d34 v :: .int .i64 (v.length : Int) :: .int .i64 (i : Int) :: D.undef :: D.undef :: D.undef :: D.undef :: D.undef :: D.undef :: D.undef :: D.undef :: D.undef :: D.undef :: D.undef :: D.undef :: D.undef :: D.undef :: []), [.arr 0 1 (cov.map rB)]⟩) (fun i => v.length - i)
      (fun i => i ≤ v.length ∧ ∀ j, j < i → atB cov j = false → at0 v j = 0) 0 (Ghost.hold [0, 1, 2, 7, 67, 68, 69] rfl) ⟨Nat.zero_le _, fun j h0 => absurd h0 (Nat.not_lt_zero _)⟩ ?_
    rintro i ⟨i1, i2⟩
    refine exec_ok tab_ok mixed 1000 (bx := [false]) (own := []) ?_
    rcases Nat.lt_or_ge i v.length with hi | hi
    · have hx := at0_get (l := v) (j := i) hi
      have hy := atB_get (l := cov) (j := i) (by omega)
      obtain ⟨p, hp⟩ : ∃ p, p = at0 v i := ⟨_, rfl⟩
      rw [← hp] at hx
      have next : (atB cov i = false → p = 0) → ∀ j, j < i + 1 → atB cov j = false → at0 v j = 0 := fun g j hj => by
        rcases Nat.lt_or_ge j i with h3 | h3
        · exact i2 j h3
        · obtain rfl : j = i := by omega
          rw [← hp]; exact g
      by_cases hp0 : p = 0
      · repeat' ((conv => whnf); first
          | refine Exists.intro _ (And.intro (map_at (by omega) hx) ?_) | refine And.intro rfl ?_ | refine And.intro (by omega) ?_ | refine Exists.intro _ (And.intro (w64 (by omega) (by omega)) ?_) | refine boolF_not ?_ | refine boolF_dect (by assumption) ?_ | refine boolF_dect (by omega) ?_)
        all_goals (conv => whnf)
        exact ⟨i + 1, Ghost.hold [0, 1, 2, 7, 67, 68, 69] rfl, ⟨hi, next (fun _ => hp0)⟩, by omega⟩
      · cases hcv : atB cov i with
        | true =>
          rw [hcv] at hy next
          repeat' ((conv => whnf); first
            | refine Exists.intro _ (And.intro (map_at (by omega) hx) ?_) | refine Exists.intro _ (And.intro (map_at (by omega) hy) ?_) | refine And.intro (by decide) ?_ | refine And.intro rfl ?_ | refine And.intro (by omega) ?_ | refine And.intro (by simp only [List.length_map, List.length_append, List.length_cons, List.length_nil]; omega) ?_ | refine Exists.intro _ (And.intro (w64 (by omega) (by omega)) ?_) | refine boolF_not ?_ | refine boolF_decf (by assumption) ?_ | refine boolF_dect (by omega) ?_)
          all_goals (conv => whnf)
          exact ⟨i + 1, Ghost.hold [0, 1, 2, 7, 67, 68, 69] rfl, ⟨hi, next (fun h => by cases h)⟩, by omega⟩
        | false =>
          rw [hcv] at hy
          repeat' ((conv => whnf); first
            | refine Exists.intro _ (And.intro (map_at (by omega) hx) ?_) | refine Exists.intro _ (And.intro (map_at (by omega) hy) ?_) | refine And.intro (by decide) ?_ | refine And.intro rfl ?_ | refine And.intro (by omega) ?_ | refine And.intro (by simp only [List.length_map, List.length_append, List.length_cons, List.length_nil]; omega) ?_ | refine boolF_not ?_ | refine boolF_decf (by assumption) ?_ | refine boolF_dect (by omega) ?_)
          all_goals (conv => whnf)
          exact ⟨bool_f (fun ho => hp0 (hp.trans (hcan.mpr ho i hi hcv)))⟩
    · rw [decide_eq_true (hcan.mp fun j hj => i2 j (by omega))]
      repeat' ((conv => whnf); first
        | refine boolF_decf (by omega) ?_)
      all_goals (conv => whnf)
      exact ⟨rfl⟩
  · repeat' ((conv => whnf); first
      | refine Exists.intro _ (And.intro (⟨(List.length_map _).symm⟩) ?_) | refine boolF_not ?_ | refine boolF_decf (by assumption) ?_)
    all_goals (conv => whnf)
    refine W_loopG (ι := Nat) (fun i => ⟨(d34 v :: d24 h :: .int .u64 (s : Int) :: D.undef :: D.undef :: D.undef :: D.undef :: .h 0 0 0 v.length :: D.undef :: D.undef :: D.undef :: D.undef :: D.undef :: D.undef :: D.undef :: D.undef :: D.undef :: D.undef :: D.undef :: D.undef :: d24 h :: .int .i64 (h.length : Int) :: .int .i64 (i : Int) :: D.undef :: D.undef :: D.undef :: D.undef :: D.undef :: D.undef :: D.undef :: D.undef :: D.undef :: D.undef :: D.undef :: D.undef :: D.undef :: D.undef :: D.undef :: D.undef :: D.undef :: D.undef :: D.undef :: D.undef :: D.undef :: D.undef :: D.undef :: D.undef :: D.undef :: D.undef :: D.undef :: D.undef :: D.undef :: D.undef :: D.undef :: D.undef :: D.undef :: D.undef :: D.undef :: D.undef :: D.undef :: D.undef :: D.undef :: D.undef :: D.undef :: D.undef :: D.undef :: D.undef :: D.undef :: D.undef :: D.undef :: D.undef :: D.undef :: D.undef :: D.undef :: D.undef :: D.undef :: D.undef :: D.undef :: D.undef :: D.undef :: D.undef :: D.undef :: D.undef :: D.undef :: []), [.arr 0 1 (cov.map rB)]⟩) (fun i => h.length - i)
      (fun i => i ≤ h.length ∧ ∀ j d, j < i → h[j]? = some d → mk s j = true → lastM h (mk s) d → ¬ fitsP v cov d.op_) 0 (Ghost.hold [0, 1, 2, 7, 20, 21, 22] rfl) ⟨Nat.zero_le _, fun j d h0 => absurd h0 (Nat.not_lt_zero _)⟩ ?_
    rintro i ⟨i1, i2⟩
    refine exec_ok tab_ok mixed 1000 (bx := [false]) (own := []) ?_
    rcases Nat.lt_or_ge i h.length with hi | hi
    · obtain ⟨x, hx⟩ := at_lt hi
      have hi64 : i < 64 := by omega
      have hxr := ha x (List.mem_of_getElem? hx)
      have hxo := hxr.1
      have next : (mk s i = true → lastM h (mk s) x → ¬ fitsP v cov x.op_) → ∀ j d, j < i + 1 → h[j]? = some d → mk s j = true → lastM h (mk s) d → ¬ fitsP v cov d.op_ := fun g j d hj hd => by
        rcases Nat.lt_or_ge j i with h3 | h3
        · exact i2 j d h3 hd
        · obtain rfl : j = i := by omega
          rw [hx] at hd; cases hd
          exact g
      have h48 := f48_ok h s i x hn hs hx
      have h49 := f49_ok v cov x.op_ hv hcl hxo
      by_cases hb1 : bitP s i
      · by_cases hb2 : lastD h s x
        · by_cases hb3 : fitsP v cov x.op_
          · have hod : x.op_.data_.length ≤ 140737488351232 := by have := hxo.2.2.2; omega
            have h50 := f50_ok x.op_ hod
            obtain ⟨d1, d2, d3', d4⟩ := dat_len hxo
            obtain ⟨a, hao⟩ := Int.eq_ofNat_of_zero_le hxo.2.2.1
            obtain ⟨c, hcc⟩ : ∃ c, c = (dat x.op_).length := ⟨_, rfl⟩
            have hval := val_in hxo hao hcc
            rw [← hcc] at d1 d4
            have hr : rng x.op_ = ((a : Int), (c : Int)) := Prod.ext (d2.trans hao) d1.symm
            rw [rngD, hr] at h50
            rw [hao] at d4
            repeat' ((conv => whnf); first
              | refine Exists.intro _ (And.intro (map_at (by omega) hx) ?_) | refine Pure.seeK h49 [(0, .arr 0 1 (cov.map rB))] (fact1 rfl) (.cons (.same (scd34 _ _)) (.cons (.h List.mem_cons_self (.all (scrB _ _)) (all_take hcl.symm)) (.cons (.same (scd39 _ _)) .nil))) trivial trivial ?_ | refine And.intro (by decide) ?_ | refine And.intro rfl ?_ | refine And.intro (Nat.le_of_ble_eq_true rfl) ?_ | refine And.intro (by omega) ?_ | refine Pure.call (f39_ok _ _ hs hi64) ?_ | refine Pure.call (h48) ?_ | refine Pure.call (h50) ?_ | refine boolF_not ?_ | refine boolF_dect (by assumption) ?_
              | refine boolF_dect (by omega) ?_)
            all_goals (conv => whnf)
            refine W_loopG (ι := Nat × List Bool) (fun e => ⟨(d34 v :: d24 h :: .int .u64 (s : Int) :: D.undef :: D.undef :: D.undef :: D.undef :: .h 0 0 0 v.length :: .int .i64 (i : Int) :: D.undef :: .int .i64 (a : Int) :: D.undef :: D.undef :: D.undef :: D.undef :: D.undef :: D.undef :: D.undef :: D.undef :: D.undef :: D.undef :: D.undef :: D.undef :: D.undef :: D.undef :: D.undef :: D.undef :: D.undef :: D.undef :: D.undef :: D.undef :: D.undef :: D.undef :: D.undef :: D.undef :: D.undef :: D.undef :: D.undef :: D.undef :: D.undef :: D.undef :: D.undef :: D.undef :: D.undef :: D.undef :: D.undef :: D.undef :: D.undef :: D.undef :: D.undef :: D.undef :: D.undef :: .int .i64 (c : Int) :: .int .i64 (e.1 : Int) :: D.undef :: D.undef :: D.undef :: D.undef :: D.undef :: D.undef :: D.undef :: D.undef :: D.undef :: D.undef :: D.undef :: D.undef :: D.undef :: D.undef :: D.undef :: D.undef :: D.undef :: D.undef :: D.undef :: D.undef :: D.undef :: D.undef :: D.undef :: D.undef :: D.undef :: D.undef :: D.undef :: D.undef :: D.undef :: D.undef :: []), [.arr 0 1 (e.2.map rB)]⟩) (fun e => c - e.1)
              (fun e => e.1 ≤ c ∧ e.2.length = v.length ∧ ∀ j, atB e.2 j = (atB cov j || decide (a ≤ j ∧ j < a + e.1))) (0, cov) (Ghost.back [0, 1, 2, 7, 8, 10, 52, 53] 1 rfl rfl (Nat.zero_le _) (by simp [scs, D.sc, scd24, scd34]) (fun ob h => by
                simp only [List.mem_singleton] at h; subst h; exact scrB _ _)) ⟨Nat.zero_le _, hcl, fun j => by rw [decide_eq_false (by dsimp only; omega), Bool.or_false]⟩ ?_
            rintro ⟨e, T⟩ ⟨e1, e2, e3⟩
            dsimp only at e1 e2 e3 ⊢
            refine exec_ok tab_ok mixed 1000 (bx := [false]) (own := []) ?_
            rcases Nat.lt_or_ge e c with g | g
            · obtain ⟨w, hz2⟩ := at_lt (l := T) (i := a + e) (by omega)
              repeat' ((conv => whnf); first
                | refine Exists.intro _ (And.intro (map_at (by omega) hz2) ?_) | refine And.intro (by decide) ?_ | refine And.intro (by omega) ?_ | refine And.intro (by simp only [List.length_map, List.length_append, List.length_cons, List.length_nil]; omega) ?_ | refine Exists.intro _ (And.intro (w64 (by omega) (by omega)) ?_) | refine boolF_dect (by omega) ?_)
              all_goals (conv => whnf)
              refine ⟨(e + 1, T.set (a + e) true), Ghost.hold [0, 1, 2, 7, 8, 10, 52, 53] ?_, ⟨g, by rw [List.length_set]; exact e2, fun j => ?_⟩, by dsimp only; omega⟩
              · have er : ∀ (bb : Bool) (l : List D) (d : D), setRow bb l (0 + ((a : Int) + (e : Int)).toNat) d = l.set (a + e) d := fun bb l d => by rw [setRow_eq]; congr 1; omega
                have em : (T.map rB).set (a + e) (.bool true) = (T.set (a + e) true).map rB := by rw [List.map_set]; rfl
                dsimp only
                rw [← em, ← er false]; rfl
              · dsimp only
                rw [atB_set _ _ _ (by omega), e3 j]
                by_cases hj2 : j = a + e
                · rw [if_pos hj2, decide_eq_true (p := a ≤ j ∧ j < a + (e + 1)) (by omega), Bool.or_true]
                · rw [if_neg hj2]
                  congr 1
                  exact decide_eq_decide.mpr (by omega)
            · repeat' ((conv => whnf); first
                | refine powK_lt hi64 ?_ | refine Exists.intro _ (And.intro (shl_eq hi64) ?_) | refine Exists.intro _ (And.intro (clr_eq hs hi64) ?_) | refine boolF_decf (by omega) ?_)
              all_goals (conv => whnf)
              have hadd : addC cov x.op_ T := fun j => by
                rw [e3, hval, show e = c by omega]
                split
                · rename_i hin; rw [decide_eq_true hin]; rfl
                · rename_i hin; rw [decide_eq_false hin]; rfl
              refine ⟨(clr s i, T), Ghost.hold [0, 1, 2, 7] rfl, ⟨clr_lt s i, e2, ?_, fun j hj => ?_, ?_⟩, clr_less hs hi64 hb1⟩
              · dsimp only
                rw [clr_mk hs hi64]
                exact closed_wo hc hx hb2
              · dsimp only at hj
                rw [clr_mk hs hi64, Mk.wo_at] at hj
                exact hb j hj.2
              · dsimp only
                rw [clr_mk hs hi64]
                exact (can_step ha hx hb1 hb2 hb3 hc hadd).symm.trans hcan
          · repeat' ((conv => whnf); first
              | refine Exists.intro _ (And.intro (map_at (by omega) hx) ?_) | refine Pure.seeK h49 [(0, .arr 0 1 (cov.map rB))] (fact1 rfl) (.cons (.same (scd34 _ _)) (.cons (.h List.mem_cons_self (.all (scrB _ _)) (all_take hcl.symm)) (.cons (.same (scd39 _ _)) .nil))) trivial trivial ?_ | refine And.intro (by decide) ?_ | refine And.intro rfl ?_ | refine And.intro (Nat.le_of_ble_eq_true rfl) ?_ | refine And.intro (by omega) ?_ | refine Exists.intro _ (And.intro (w64 (by omega) (by omega)) ?_) | refine Pure.call (f39_ok _ _ hs hi64) ?_ | refine Pure.call (h48) ?_ | refine boolF_not ?_
              | refine boolF_dect (by assumption) ?_ | refine boolF_decf (by assumption) ?_ | refine boolF_dect (by omega) ?_)
            all_goals (conv => whnf)
            exact ⟨i + 1, Ghost.back [0, 1, 2, 7, 20, 21, 22] 1 rfl rfl (Nat.zero_le _) (by simp [scs, D.sc, scd24, scd34]) (fun ob h => by
              simp only [List.mem_singleton] at h; subst h; exact scrB _ _), ⟨hi, next (fun _ _ => hb3)⟩, by omega⟩
        · repeat' ((conv => whnf); first
            | refine Exists.intro _ (And.intro (map_at (by omega) hx) ?_) | refine And.intro (by decide) ?_ | refine And.intro rfl ?_ | refine And.intro (by omega) ?_ | refine Exists.intro _ (And.intro (w64 (by omega) (by omega)) ?_) | refine Pure.call (f39_ok _ _ hs hi64) ?_ | refine Pure.call (h48) ?_ | refine boolF_not ?_ | refine boolF_dect (by assumption) ?_ | refine boolF_decf (by assumption) ?_ | refine boolF_dect (by omega) ?_)
          all_goals (conv => whnf)
          exact ⟨i + 1, Ghost.back [0, 1, 2, 7, 20, 21, 22] 1 rfl rfl (Nat.zero_le _) (by simp [scs, D.sc, scd24, scd34]) (fun ob h => by
              simp only [List.mem_singleton] at h; subst h; exact scrB _ _), ⟨hi, next (fun _ h => absurd h hb2)⟩, by omega⟩
      · repeat' ((conv => whnf); first
          | refine Exists.intro _ (And.intro (map_at (by omega) hx) ?_) | refine And.intro (by decide) ?_ | refine And.intro rfl ?_ | refine And.intro (by omega) ?_ | refine Exists.intro _ (And.intro (w64 (by omega) (by omega)) ?_) | refine Pure.call (f39_ok _ _ hs hi64) ?_ | refine boolF_not ?_ | refine boolF_decf (by assumption) ?_ | refine boolF_dect (by omega) ?_)
        all_goals (conv => whnf)
        exact ⟨i + 1, Ghost.back [0, 1, 2, 7, 20, 21, 22] 1 rfl rfl (Nat.zero_le _) (by simp [scs, D.sc, scd24, scd34]) (fun ob h => by
              simp only [List.mem_singleton] at h; subst h; exact scrB _ _), ⟨hi, next (fun h => absurd h hb1)⟩, by omega⟩
    · repeat' ((conv => whnf); first
        | refine boolF_decf (by omega) ?_)
      all_goals (conv => whnf)
      exact ⟨bool_f (fun ho => can_none ha (bit_of hz) (fun j d hd => i2 j d (by have := (List.getElem?_eq_some_iff.mp hd).1; omega) hd) (hcan.mpr ho))⟩

end Go.Proofs.Ytlfbchkcgchoaaa.C


namespace Go.Proofs.Ytlfbchkcgchoaaa.C
open Go.A
set_option linter.unusedVariables false
set_option linter.unusedSimpArgs false
set_option linter.unnecessarySimpa false
attribute [local irreducible] IntKind.wrap bitsI
open B
attribute [local irreducible] powK
set_option maxRecDepth 100000
set_option maxHeartbeats 4000000

def mayM (h : List Dn) (S : Mk) (a b : Int) : Prop := ∀ (i : Nat) (d : Dn), h[i]? = some d →
  (S i = true → d.start_ ≤ b ∧ ∀ (k : Nat) (e : Dn), h[k]? = some e → aheadD e d → S k = true) ∧ (S i = false → ¬ (0 ≤ d.end_ ∧ d.end_ < a))
theorem mayD_iff {h : List Dn} {s : Nat} {a b : Int} : mayD h s a b ↔ mayM h (mk s) a b := by
  have key : ∀ i d, mayAt h s a b i d ↔ ((mk s i = true → d.start_ ≤ b ∧ ∀ (k : Nat) (e : Dn), h[k]? = some e → aheadD e d → mk s k = true) ∧ (mk s i = false → ¬ (0 ≤ d.end_ ∧ d.end_ < a))) := fun i d => by
    unfold mayAt
    by_cases hb : bitP s i
    · rw [if_pos hb]
      have hb' : mk s i = true := hb
      exact ⟨fun h1 => ⟨fun _ => h1, fun h2 => by rw [hb'] at h2; cases h2⟩, fun h1 => h1.1 hb'⟩
    · rw [if_neg hb]
      have hb' : mk s i = false := by simpa using (show ¬ mk s i = true from hb)
      exact ⟨fun h1 => ⟨fun h2 => (by rw [hb'] at h2; cases h2), fun _ => h1⟩, fun h1 => h1.2 hb'⟩
  exact ⟨fun h1 i d hd => (key i d).mp (h1 i d hd), fun h1 i d hd => (key i d).mpr (h1 i d hd)⟩
/-- What a disk may hold at the end. -/
def Cut (h : List Dn) (n : Nat) (a b : Int) (v : List Nat) : Prop := ∃ S, Ord h n S v ∧ mayM h S a b
noncomputable instance (h : List Dn) (n : Nat) (a b : Int) (v : List Nat) : Decidable (Cut h n a b v) := Classical.propDecidable _
theorem mk_of {h : List Dn} {n : Nat} {S : Mk} {x : List Nat} (o : Ord h n S x) : ∃ s, s < 2 ^ h.length ∧ mk s = S := by
  induction o with
  | nil => exact ⟨0, Nat.pow_pos (by omega), mk_zero⟩
  | @snoc S0 x0 i d o hd _ _ ih =>
    obtain ⟨s, h1, h2⟩ := ih
    have hi := (List.getElem?_eq_some_iff.mp hd).1
    refine ⟨s ||| 2 ^ i, Nat.or_lt_two_pow h1 (Nat.pow_lt_pow_right (by omega) hi), ?_⟩
    funext k
    show (s ||| 2 ^ i).testBit k = (decide (k = i) || S0 k)
    rw [Nat.testBit_or, Nat.testBit_two_pow, show s.testBit k = S0 k from congrFun h2 k, Bool.or_comm]
    congr 1
    exact decide_eq_decide.mpr ⟨Eq.symm, Eq.symm⟩
theorem mk_bits {s m : Nat} (hs : s < 2 ^ m) (i : Nat) (hi : mk s i = true) : i < m := Nat.lt_of_not_le fun h => by
  rw [show mk s i = s.testBit i from rfl, Nat.testBit_lt_two_pow (Nat.lt_of_lt_of_le hs (Nat.pow_le_pow_right (by omega) h))] at hi
  cases hi
theorem may_closed {h : List Dn} {S : Mk} {a b : Int} (hm : mayM h S a b) : closedM h S := fun i k d e hi hd he hae => ((hm i d hd).1 hi).2 k e he hae
noncomputable def isM (v : List Nat) (a b : Int) (h : List Dn) : Bool × Int := if 1024 < v.length then (false, 6) else if rightC v.length h = 0 then (decide (Cut h v.length a b v), 0) else (false, rightC v.length h)
noncomputable def isD (v : List Nat) (a b : Int) (h : List Dn) : D := .tup [.bool (isM v a b h).1, .int .i64 (isM v a b h).2]
theorem rightC_ok {n : Int} {h : List Dn} (e : rightC n h = 0) : h.length ≤ 6 ∧ allD n h := by
  unfold rightC at e
  split at e
  · cases e
  · split at e
    · rename_i h2; exact ⟨by omega, h2⟩
    · cases e

theorem f15_ok (v : List Nat) (a b : Int) (h : List Dn) (hv : v.length ≤ 140737488351232) (hn : h.length ≤ 140737488351232) (hb : bigH h) : Pure Try.prog 15 [d34 v, .int .i64 a, .int .i64 b, d24 h] (isD v a b h) := by
  refine Pure.of ⟨scd34 _ _, trivial, trivial, scd24 _ _, trivial⟩ ⟨trivial, trivial, trivial⟩ ?_
  refine Go.A.CallsIn.of_exec tab_ok mixed Try.func15 rfl rfl [] [] ?_
  by_cases h1 : 1024 < v.length
  · rw [isD, isM, if_pos h1]
    repeat' ((conv => whnf); first
      | refine Exists.intro _ (And.intro (⟨(List.length_map _).symm⟩) ?_) | refine boolF_dect (by omega) ?_)
    all_goals (conv => whnf)
    exact ⟨rfl⟩
  · by_cases h2 : rightC v.length h = 0
    · rw [isD, isM, if_neg h1, if_pos h2]
      obtain ⟨hn6, ha⟩ := rightC_ok h2
      repeat' ((conv => whnf); first
        | refine Exists.intro _ (And.intro (⟨(List.length_map _).symm⟩) ?_) | refine Pure.call (f20_ok _ _ hn hb) ?_ | refine boolF_not ?_ | refine boolF_dect (by assumption) ?_ | refine boolF_decf (by omega) ?_)
      all_goals (conv => whnf)
      obtain ⟨N, hN⟩ : ∃ N, N = 2 ^ h.length := ⟨_, rfl⟩
      have hl64 : h.length < 64 := by omega
      have hsh : ((N : Nat) : Int) = IntKind.u64.wrap (((1 : Nat) : Int) * ((2 ^ h.length : Nat) : Int)) := by rw [hN]; exact shl_eq hl64
      have hN64 : N ≤ 64 := by rw [hN]; exact Nat.pow_le_pow_right (n := 2) (by omega) hn6
      refine W_loopG (ι := Nat) (fun s => ⟨(d34 v :: .int .i64 a :: .int .i64 b :: d24 h :: D.undef :: D.undef :: D.undef :: D.undef :: D.undef :: D.undef :: D.undef :: .int .u64 (s : Int) :: D.undef :: D.undef :: D.undef :: D.undef :: D.undef :: D.undef :: D.undef :: D.undef :: D.undef :: D.undef :: D.undef :: D.undef :: D.undef :: D.undef :: D.undef :: D.undef :: D.undef :: D.undef :: D.undef :: D.undef :: D.undef :: D.undef :: D.undef :: D.undef :: D.undef :: D.undef :: D.undef :: D.undef :: []), []⟩) (fun s => N - s)
        (fun s => s ≤ N ∧ ∀ r, r < s → ¬ (mayD h r a b ∧ Ord h v.length (mk r) v)) 0 (Ghost.hold [0, 1, 2, 3, 11] rfl) ⟨Nat.zero_le _, fun j h0 => absurd h0 (Nat.not_lt_zero _)⟩ ?_
      rintro s ⟨s1, s2⟩
      refine exec_ok tab_ok mixed 1000 (bx := []) (own := []) ?_
      rcases Nat.lt_or_ge s N with hs | hs
      · have hs64 : s < 18446744073709551616 := by omega
        have next : ¬ (mayD h s a b ∧ Ord h v.length (mk s) v) → ∀ r, r < s + 1 → ¬ (mayD h r a b ∧ Ord h v.length (mk r) v) := fun g r hr => by
          rcases Nat.lt_or_ge r s with h3 | h3
          · exact s2 r h3
          · obtain rfl : r = s := by omega
            exact g
        have h21 := f21_ok h s a b hn6 hs64
        by_cases hm : mayD h s a b
        · have h32 := f32_ok v h s (by omega) hn6 ha hs64 (may_closed (mayD_iff.mp hm)) (mk_bits (hN ▸ hs))
          by_cases ho : Ord h v.length (mk s) v
          · repeat' ((conv => whnf); first
              | refine powK_lt hl64 ?_ | refine Exists.intro _ (And.intro (hsh) ?_) | refine Exists.intro _ (And.intro (⟨(List.length_map _).symm⟩) ?_) | refine Pure.call (h21) ?_ | refine Pure.call (h32) ?_ | refine boolF_dect (by assumption) ?_)
            all_goals (conv => whnf)
            exact ⟨by rw [decide_eq_true (show Cut h v.length a b v from ⟨_, ho, mayD_iff.mp hm⟩)]⟩
          · repeat' ((conv => whnf); first
              | refine powK_lt hl64 ?_ | refine Exists.intro _ (And.intro (hsh) ?_) | refine Exists.intro _ (And.intro (⟨(List.length_map _).symm⟩) ?_) | refine Exists.intro _ (And.intro (u64add (by omega)) ?_) | refine Pure.call (h21) ?_ | refine Pure.call (h32) ?_ | refine boolF_dect (by assumption) ?_ | refine boolF_decf (by assumption) ?_)
            all_goals (conv => whnf)
            exact ⟨s + 1, Ghost.hold [0, 1, 2, 3, 11] rfl, ⟨hs, next (fun h => ho h.2)⟩, by omega⟩
        · repeat' ((conv => whnf); first
            | refine powK_lt hl64 ?_ | refine Exists.intro _ (And.intro (hsh) ?_) | refine Exists.intro _ (And.intro (⟨(List.length_map _).symm⟩) ?_) | refine Exists.intro _ (And.intro (u64add (by omega)) ?_) | refine Pure.call (h21) ?_ | refine boolF_dect (by assumption) ?_ | refine boolF_decf (by assumption) ?_)
          all_goals (conv => whnf)
          exact ⟨s + 1, Ghost.hold [0, 1, 2, 3, 11] rfl, ⟨hs, next (fun h => hm h.1)⟩, by omega⟩
      · rw [decide_eq_false (show ¬ Cut h v.length a b v from fun ⟨S, ho, hm⟩ => by
          obtain ⟨r, hr, rfl⟩ := mk_of ho
          exact s2 r (by omega) ⟨mayD_iff.mpr hm, ho⟩)]
        repeat' ((conv => whnf); first
          | refine powK_lt hl64 ?_ | refine Exists.intro _ (And.intro (hsh) ?_) | refine Exists.intro _ (And.intro (⟨(List.length_map _).symm⟩) ?_) | refine boolF_decf (by omega) ?_)
        all_goals (conv => whnf)
        exact ⟨rfl⟩
    · rw [isD, isM, if_neg h1, if_neg h2]
      repeat' ((conv => whnf); first
        | refine Exists.intro _ (And.intro (⟨(List.length_map _).symm⟩) ?_) | refine Pure.call (f20_ok _ _ hn hb) ?_ | refine boolF_not ?_ | refine boolF_decf (by assumption) ?_ | refine boolF_decf (by omega) ?_)
      all_goals (conv => whnf)
      exact ⟨rfl⟩

end Go.Proofs.Ytlfbchkcgchoaaa.C


namespace Go.Proofs.Ytlfbchkcgchoaaa.C
open Go.A
set_option linter.unusedVariables false
set_option linter.unusedSimpArgs false
set_option linter.unnecessarySimpa false
attribute [local irreducible] IntKind.wrap bitsI
open B
set_option maxRecDepth 100000
set_option maxHeartbeats 4000000

def cmpN (a b : Nat) : Int := if a < b then -1 else if b < a then 1 else 0
def cmpL : List Nat → List Nat → Int
  | [], [] => 0
  | [], _ :: _ => -1
  | _ :: _, [] => 1
  | a :: s, b :: t => if a = b then cmpL s t else cmpN a b

theorem f67_ok (x : Nat) : Pure Try.prog 67 [.int .u64 (x : Int)] (.bool false) := by
  refine Pure.of ⟨trivial, trivial⟩ trivial ?_
  refine Go.A.CallsIn.of_exec tab_ok mixed Try.func67 rfl rfl [] [] ?_
  (conv => whnf)
  exact ⟨by simp⟩

theorem f44_ok (x y : Nat) : Pure Try.prog 44 [.int .u64 (x : Int), .int .u64 (y : Int)] (.int .i64 (cmpN x y)) := by
  refine Pure.of ⟨trivial, trivial, trivial⟩ trivial ?_
  refine Go.A.CallsIn.of_exec tab_ok mixed Try.func44 rfl rfl [] [] ?_
  rw [cmpN]
  by_cases h1 : x < y
  · rw [if_pos h1]
    repeat' ((conv => whnf); first
      | refine Pure.call (f67_ok _) ?_ | refine boolF_dect (by assumption) ?_)
    all_goals (conv => whnf)
    exact ⟨rfl⟩
  · rw [if_neg h1]
    by_cases h2 : y < x
    · rw [if_pos h2]
      repeat' ((conv => whnf); first
        | refine Pure.call (f67_ok _) ?_ | refine boolF_dect (by assumption) ?_ | refine boolF_decf (by assumption) ?_)
      all_goals (conv => whnf)
      exact ⟨rfl⟩
    · rw [if_neg h2]
      repeat' ((conv => whnf); first
        | refine Pure.call (f67_ok _) ?_ | refine boolF_decf (by assumption) ?_)
      all_goals (conv => whnf)
      exact ⟨rfl⟩

theorem cmpL_drop {a b : List Nat} : ∀ {i : Nat}, (∀ j, j < i → j < a.length ∧ j < b.length ∧ at0 a j = at0 b j) → cmpL a b = cmpL (a.drop i) (b.drop i)
  | 0, _ => rfl
  | i + 1, h => by
    rw [cmpL_drop (i := i) fun j hj => h j (by omega)]
    obtain ⟨h1, h2, h3⟩ := h i (by omega)
    rw [drop_of_get (at0_get h1), drop_of_get (at0_get h2), cmpL, if_pos h3]

theorem f25_ok (a b : List Nat) (ha : a.length ≤ 140737488351232) (hb : b.length ≤ 140737488351232) : Pure Try.prog 25 [d34 a, d34 b] (.int .i64 (cmpL a b)) := by
  refine Pure.of ⟨scd34 _ _, scd34 _ _, trivial⟩ trivial ?_
  refine Go.A.CallsIn.of_exec tab_ok mixed Try.func25 rfl rfl [] [] ?_
  repeat' ((conv => whnf); first
    | refine Exists.intro _ (And.intro (⟨(List.length_map _).symm⟩) ?_))
  all_goals (conv => whnf)
  refine W_loopG (ι := Nat) (fun i => ⟨(d34 a :: d34 b :: D.undef :: D.undef :: D.undef :: D.undef :: D.undef :: D.undef :: D.undef :: d34 a :: .int .i64 (a.length : Int) :: .int .i64 (i : Int) :: D.undef :: D.undef :: D.undef :: D.undef :: D.undef :: D.undef :: D.undef :: D.undef :: D.undef :: D.undef :: D.undef :: D.undef :: D.undef :: D.undef :: D.undef :: D.undef :: D.undef :: D.undef :: D.undef :: D.undef :: D.undef :: D.undef :: D.undef :: D.undef :: []), []⟩) (fun i => a.length - i)
    (fun i => i ≤ a.length ∧ ∀ j, j < i → j < a.length ∧ j < b.length ∧ at0 a j = at0 b j) 0 (Ghost.hold [0, 1, 9, 10, 11] rfl) ⟨Nat.zero_le _, fun j h0 => absurd h0 (Nat.not_lt_zero _)⟩ ?_
  rintro i ⟨h1, h2⟩
  have hd := cmpL_drop h2
  refine exec_ok tab_ok mixed 1000 (bx := []) (own := []) ?_
  rcases Nat.lt_or_ge i a.length with hi | hi
  · have hx := at0_get hi
    obtain ⟨p, hp⟩ : ∃ p, p = at0 a i := ⟨_, rfl⟩
    rw [← hp] at hx
    rcases Nat.lt_or_ge i b.length with hj | hj
    · have hy := at0_get hj
      obtain ⟨q, hq⟩ : ∃ q, q = at0 b i := ⟨_, rfl⟩
      rw [← hq] at hy
      by_cases hpq : p = q
      · have hc : cmpN p q = 0 := by rw [cmpN, if_neg (by omega), if_neg (by omega)]
        repeat' ((conv => whnf); first
          | refine Exists.intro _ (And.intro (map_at (by omega) hx) ?_) | refine Exists.intro _ (And.intro (map_at (by omega) hy) ?_) | refine And.intro rfl ?_ | refine And.intro (by omega) ?_ | refine Exists.intro _ (And.intro (⟨(List.length_map _).symm⟩) ?_) | refine Exists.intro _ (And.intro (w64 (by omega) (by omega)) ?_) | refine Pure.call (f44_ok _ _) ?_ | refine boolF_not ?_ | refine boolF_dect (by assumption) ?_ | refine boolF_dect (by omega) ?_ | refine boolF_decf (by omega) ?_)
        all_goals (conv => whnf)
        exact ⟨i + 1, Ghost.hold [0, 1, 9, 10, 11] rfl, ⟨hi, fun j hj2 => by
          rcases Nat.lt_or_ge j i with h3 | h3
          · exact h2 j h3
          · obtain rfl : j = i := by omega
            exact ⟨hi, hj, by rw [← hp, ← hq]; exact hpq⟩⟩, by omega⟩
      · have hc : ¬ cmpN p q = 0 := by
          rw [cmpN]; split
          · decide
          · split
            · decide
            · omega
        rw [drop_of_get hx, drop_of_get hy, cmpL, if_neg hpq] at hd
        rw [hd]
        repeat' ((conv => whnf); first
          | refine Exists.intro _ (And.intro (map_at (by omega) hx) ?_) | refine Exists.intro _ (And.intro (map_at (by omega) hy) ?_) | refine And.intro rfl ?_ | refine And.intro (by omega) ?_ | refine Exists.intro _ (And.intro (⟨(List.length_map _).symm⟩) ?_) | refine Pure.call (f44_ok _ _) ?_ | refine boolF_not ?_ | refine boolF_decf (by assumption) ?_ | refine boolF_dect (by omega) ?_ | refine boolF_decf (by omega) ?_)
        all_goals (conv => whnf)
        exact ⟨rfl⟩
    · rw [drop_of_get hx, List.drop_of_length_le hj, cmpL] at hd
      rw [hd]
      repeat' ((conv => whnf); first
        | refine Exists.intro _ (And.intro (map_at (by omega) hx) ?_) | refine And.intro rfl ?_ | refine And.intro (by omega) ?_ | refine Exists.intro _ (And.intro (⟨(List.length_map _).symm⟩) ?_) | refine boolF_dect (by omega) ?_)
      all_goals (conv => whnf)
      exact ⟨rfl⟩
  · rw [List.drop_of_length_le hi] at hd
    by_cases hab : a.length < b.length
    · obtain ⟨y, hy⟩ := at_lt (l := b) (i := i) (by omega)
      rw [drop_of_get hy, cmpL] at hd
      rw [hd]
      repeat' ((conv => whnf); first
        | refine Exists.intro _ (And.intro (⟨(List.length_map _).symm⟩) ?_) | refine boolF_dect (by omega) ?_ | refine boolF_decf (by omega) ?_)
      all_goals (conv => whnf)
      exact ⟨rfl⟩
    · have hle : b.length ≤ i := by
        rcases Nat.lt_or_ge i b.length with h3 | h3
        · omega
        · exact h3
      rw [List.drop_of_length_le hle, cmpL] at hd
      rw [hd]
      repeat' ((conv => whnf); first
        | refine Exists.intro _ (And.intro (⟨(List.length_map _).symm⟩) ?_) | refine boolF_decf (by omega) ?_)
      all_goals (conv => whnf)
      exact ⟨rfl⟩

theorem f27_ok (a b : List Nat) (ha : a.length ≤ 140737488351232) (hb : b.length ≤ 140737488351232) : Pure Try.prog 27 [d34 a, d34 b] (.bool (decide (a = b))) := by
  refine Pure.of ⟨scd34 _ _, scd34 _ _, trivial⟩ trivial ?_
  refine Go.A.CallsIn.of_exec tab_ok mixed Try.func27 rfl rfl [] [] ?_
  by_cases hl : a.length = b.length
  · repeat' ((conv => whnf); first
      | refine Exists.intro _ (And.intro (⟨(List.length_map _).symm⟩) ?_) | refine boolF_not ?_ | refine boolF_dect (by omega) ?_)
    all_goals (conv => whnf)
    refine W_loopG (ι := Nat) (fun i => ⟨(d34 a :: d34 b :: D.undef :: D.undef :: D.undef :: D.undef :: D.undef :: D.undef :: D.undef :: D.undef :: D.undef :: D.undef :: .int .i64 (a.length : Int) :: .int .i64 (i : Int) :: D.undef :: D.undef :: D.undef :: D.undef :: D.undef :: D.undef :: D.undef :: D.undef :: D.undef :: D.undef :: D.undef :: D.undef :: []), []⟩) (fun i => a.length - i)
      (fun i => i ≤ a.length ∧ ∀ j, j < i → at0 a j = at0 b j) 0 (Ghost.hold [0, 1, 12, 13] rfl) ⟨Nat.zero_le _, fun j h0 => absurd h0 (Nat.not_lt_zero _)⟩ ?_
    rintro i ⟨h1, h2⟩
    refine exec_ok tab_ok mixed 1000 (bx := []) (own := []) ?_
    rcases Nat.lt_or_ge i a.length with hi | hi
    · have hx := at0_get hi
      have hy := at0_get (l := b) (j := i) (by omega)
      obtain ⟨p, hp⟩ : ∃ p, p = at0 a i := ⟨_, rfl⟩
      obtain ⟨q, hq⟩ : ∃ q, q = at0 b i := ⟨_, rfl⟩
      rw [← hp] at hx
      rw [← hq] at hy
      by_cases hpq : p = q
      · repeat' ((conv => whnf); first
          | refine PairK.mk (by kernel_rfl) ?_ | refine Exists.intro _ (And.intro (map_at (by omega) hx) ?_) | refine Exists.intro _ (And.intro (map_at (by omega) hy) ?_) | refine And.intro rfl ?_ | refine And.intro (by omega) ?_ | refine Exists.intro _ (And.intro (w64 (by omega) (by omega)) ?_) | refine boolF_not ?_ | refine boolF_dect (by assumption) ?_ | refine boolF_dect (by omega) ?_)
        all_goals (conv => whnf)
        exact ⟨i + 1, Ghost.hold [0, 1, 12, 13] rfl, ⟨hi, fun j hj2 => by
          rcases Nat.lt_or_ge j i with h3 | h3
          · exact h2 j h3
          · obtain rfl : j = i := by omega
            rw [← hp, ← hq]; exact hpq⟩, by omega⟩
      · repeat' ((conv => whnf); first
          | refine PairK.mk (by kernel_rfl) ?_ | refine Exists.intro _ (And.intro (map_at (by omega) hx) ?_) | refine Exists.intro _ (And.intro (map_at (by omega) hy) ?_) | refine And.intro rfl ?_ | refine And.intro (by omega) ?_ | refine boolF_not ?_ | refine boolF_decf (by assumption) ?_ | refine boolF_dect (by omega) ?_)
        all_goals (conv => whnf)
        exact ⟨bool_f (fun e => hpq (by rw [hp, hq, e]))⟩
    · rw [decide_eq_true (at0_ext hl fun j hj => h2 j (by omega))]
      repeat' ((conv => whnf); first
        | refine boolF_decf (by omega) ?_)
      all_goals (conv => whnf)
      exact ⟨rfl⟩
  · rw [decide_eq_false (fun e => hl (by rw [e]))]
    repeat' ((conv => whnf); first
      | refine Exists.intro _ (And.intro (⟨(List.length_map _).symm⟩) ?_) | refine boolF_not ?_ | refine boolF_decf (by omega) ?_)
    all_goals (conv => whnf)
    exact ⟨rfl⟩

end Go.Proofs.Ytlfbchkcgchoaaa.C

