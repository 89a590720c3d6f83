import Derived.Test.YtlghefbapiocgaaD12
-- merged
namespace Go.Proofs.Ytlghefbapiocgaa.V
open Go.A
set_option linter.unusedVariables false
set_option linter.unusedSimpArgs false
set_option linter.unnecessarySimpa false
attribute [local irreducible] IntKind.wrap bitsI
open E (atL listP mayX endX far rightP)
set_option maxRecDepth 100000

theorem lenX {l : List X} (h : ok22 l) : l.length ≤ 140737488351232 := by have := h.2; simp [td57] at this; omega

def a0 : List X := [⟨0, 4, 0, 1⟩]
def b0 : List X := [⟨0, 2, 0, 1⟩, ⟨2, 1, 9, 2⟩]
def u0 : List Nat := [1, 2, 3, 4, 5, 6, 7, 8, 9, 10]
def p0 : List Pc := [⟨2, 4, 0⟩]
def q1 : List Op := [⟨1, 2, 0, [10]⟩, ⟨2, 3, 1, []⟩]
theorem right0 : rightP a0 ∧ rightP b0 := by decide +kernel
theorem young0 : ∀ j, j < 1024 → youngB a0 b0 1 j = decide (j = 2 ∨ j = 3) := by decide +kernel
theorem pcs0 : pcs (fun j => decide (j = 2 ∨ j = 3)) 1024 = p0 := by decide +kernel
theorem pieces0 : piecesM a0 b0 1 = (p0, 0) := by
  have h : youngM a0 b0 1 = (youngL a0 b0 1, 0) := by rw [youngM, if_pos right0]
  rw [piecesM, h]
  refine Prod.ext ?_ rfl
  dsimp only
  rw [youngL_len, ← pcs0]
  exact pcs_congr fun j hj => (youngL_at a0 b0 1 hj).trans (young0 j hj)
theorem show0 : showB b0 u0 2 = 10 ∧ showB b0 u0 3 = 0 := by decide +kernel
theorem short0 : shortS (fun j => decide (j = 2 ∨ j = 3)) (fun j => if j = 2 then 10 else 0) 1024 = q1 := by decide +kernel
theorem ops0 : opsM a0 b0 1 u0 = (q1, 0) := by
  rw [opsM, if_pos right0]
  refine Prod.ext ?_ rfl
  dsimp only
  rw [← short0]
  refine shortS_congr2 fun j hj => ⟨young0 j hj, fun h => ?_⟩
  rw [young0 j hj] at h
  have h' := of_decide_eq_true h
  rcases h' with rfl | rfl
  · exact show0.1
  · exact show0.2
theorem grown0 : grownP a0 b0 1 := ⟨right0.1, right0.2, by decide +kernel⟩

theorem f12_ok : Pure Try.prog 12 [] (.bool true) := by
  refine Pure.of trivial trivial ?_
  have h1 := (f13_own a0 b0 1 (by simp [a0]) (by simp [b0])).pure
  rw [pieces0] at h1
  have h2 := f15_ok a0 b0 1 u0 (by simp [a0]) (by simp [b0]) (by simp [u0])
  rw [ops0] at h2
  have h3 := f19_ok p0 p0 (by simp [p0]) (by simp [p0])
  have h4 := f20_ok q1 q1 (by simp [q1]) (by simp [q1]) (fun o ho => by simp [q1] at ho; rcases ho with rfl | rfl <;> simp) (fun o ho => by simp [q1] at ho; rcases ho with rfl | rfl <;> simp)
  have h5 := f17_ok a0 b0 1 (by simp [a0]) (by simp [b0])
  rw [decide_eq_true grown0] at h5
  rw [decide_eq_true (p := p0 = p0) rfl] at h3
  rw [decide_eq_true (p := q1 = q1) rfl] at h4
  refine Go.A.CallsIn.of_exec tab_ok mixed Try.func12 rfl rfl [] [] ?_
  repeat' ((conv => whnf); first
    | refine Pure.call (h1) ?_ | refine Pure.call (h2) ?_ | refine Pure.call (h3) ?_)
  all_goals (conv => whnf)
  refine Pure.call (h4.wk (.cons .refl wkN)) ?_
  repeat' ((conv => whnf); first
    | refine Pure.call (h5) ?_)
  all_goals (conv => whnf)
  exact ⟨rfl⟩

theorem deltaViews_true (l : List X) (n : Int) (units : List Nat) (h0 : ok22 l) (h1 : ok3 n) (h2 : ok23 units) : Go.A.CallsIn Try.prog 3 [d22 l, d3 n, d23 units] [] fun r _ => r = .bool true := by
  have hl := lenX h0
  have hu := lenW h2
  have c1 := (f9_own l n units hl hu).pure
  have c2 := (f10_own l n units hl hu).pure
  have hv : (viewM l n units).1.length ≤ 140737488351232 := by
    unfold viewM
    split
    · rename_i h; simp only [viewL_len]; omega
    · simp
  have c3 := f11_ok (viewM l n units).1 (viewM l n units).1 hv hv
  rw [decide_eq_true (p := (viewM l n units).1 = (viewM l n units).1) rfl] at c3
  generalize (viewM l n units).1 = V at c1 c2 c3
  generalize (viewM l n units).2 = e at c1 c2
  refine Go.A.CallsIn.of_exec tab_ok mixed Try.func3 rfl rfl [] [] ?_
  repeat' ((conv => whnf); first
    | refine boolF_t (beq_self_eq_true _) ?_ | refine Pure.call (c1) ?_ | refine Pure.call (c2) ?_ | refine Pure.call (c3) ?_ | refine Pure.call (f12_ok) ?_)
  all_goals (conv => whnf)
  exact ⟨rfl⟩

theorem pieces_len (a b : List X) (gen : Int) : (piecesM a b gen).1.length ≤ 140737488351232 := by
  have := youngM_len a b gen
  have := pcs_len (atB (youngM a b gen).1) (youngM a b gen).1.length
  simp only [piecesM]
  omega
theorem ops_props (a b : List X) (gen : Int) (units : List Nat) : (opsM a b gen units).1.length ≤ 140737488351232 ∧ bigD (opsM a b gen units).1 := by
  unfold opsM
  split
  · have := short_props (youngB a b gen) (showB b units) (Nat.le_refl 1024)
    exact ⟨this.1, this.2.1⟩
  · exact ⟨by simp, fun o ho => by cases ho⟩

theorem deltaOps_true (x : T32) (gen : Int) (units : List Nat) (h0 : ok33 x) (h1 : ok3 gen) (h2 : ok23 units) : Go.A.CallsIn Try.prog 4 [d33 x, d3 gen, d23 units] [] fun r _ => r = .bool true := by
  obtain ⟨a, b⟩ := x
  have ha := lenX h0.1
  have hb := lenX h0.2
  have hu := lenW h2
  clear h0 h1 h2
  dsimp only at ha hb
  have c1 := (f13_own a b gen ha hb).pure
  have c2 := (f14_own a b gen ha hb).pure
  have c3 := f15_ok a b gen units ha hb hu
  have c4 := f16_ok a b gen units ha hb hu
  have c5 := f17_ok a b gen ha hb
  have c6 := f18_ok a b gen ha hb
  have hp := pieces_len a b gen
  have ho := ops_props a b gen units
  have c7 := f19_ok (piecesM a b gen).1 (piecesM a b gen).1 hp hp
  have c8 := f20_ok (opsM a b gen units).1 (opsM a b gen units).1 ho.1 ho.1 ho.2 ho.2
  rw [decide_eq_true (p := (piecesM a b gen).1 = (piecesM a b gen).1) rfl] at c7
  rw [decide_eq_true (p := (opsM a b gen units).1 = (opsM a b gen units).1) rfl] at c8
  generalize decide (grownP a b gen) = g at c5 c6
  clear hp ho
  generalize (piecesM a b gen).1 = P at c1 c2 c7
  generalize (piecesM a b gen).2 = e at c1 c2
  generalize (opsM a b gen units).1 = O at c3 c4 c8
  generalize (opsM a b gen units).2 = f at c3 c4
  refine Go.A.CallsIn.of_exec tab_ok mixed Try.func4 rfl rfl [] [] ?_
  repeat' ((conv => whnf); first
    | refine PairK.mk (by kernel_rfl) ?_ | refine boolF_t (beq_self_eq_true _) ?_ | refine Pure.call (c1) ?_ | refine Pure.call (c2) ?_ | refine Pure.call (c3) ?_ | refine Pure.call (c4) ?_ | refine Pure.locK (c5) ?_ | refine Pure.locK (c6) ?_ | refine Pure.locK (c7) ?_ | refine Pure.locK (c8) ?_ | refine Pure.locK (f12_ok) ?_)
  all_goals (conv => whnf)
  exact ⟨rfl⟩

end Go.Proofs.Ytlghefbapiocgaa.V


namespace Go.Proofs.Ytlghefbapiocgaa.V
open Go.A
set_option linter.unusedVariables false
set_option linter.unusedSimpArgs false
set_option linter.unnecessarySimpa false
attribute [local irreducible] IntKind.wrap bitsI
open E (atL listP mayX endX far rightP)
set_option maxRecDepth 100000

/-- What is not young shows what it showed. -/
theorem same_old {a b : List X} {gen : Int} (hg : grownP a b gen) (units : List Nat) {j : Nat} (hj : j < 1024) (hy : youngB a b gen j = false) : showB a units j = showB b units j := by
  have hbad := (bad_iff hg.2.1.2.1 gen).mp hg.2.2 j hj
  unfold youngB gtB at hy
  unfold badB at hbad
  unfold showB
  cases hb : atL b (j : Int) with
  | none =>
    rw [hb] at hy
    cases ha : atL a (j : Int) with
    | none => rfl
    | some v => rw [ha] at hy; simp at hy
  | some v =>
    obtain ⟨p, bi⟩ := v
    rw [hb] at hy hbad
    simp only [Option.isSome_some, if_true, decide_eq_false_iff_not] at hy
    cases ha : atL a (j : Int) with
    | none => rw [ha] at hbad; simp at hbad; omega
    | some w =>
      obtain ⟨q, ci⟩ := w
      rw [ha] at hbad
      simp only [Bool.and_eq_false_iff, decide_eq_false_iff_not, Decidable.not_not] at hbad
      rcases hbad with h | h
      · exact absurd (by omega) h
      · simp only [h]

theorem makes {a b : List X} {gen : Int} (hg : grownP a b gen) (units : List Nat) : applyM (viewL a 1024 units) (opsM a b gen units).1 = (viewL b 1024 units, 0) := by
  have ho : opsM a b gen units = (shortS (youngB a b gen) (showB b units) 1024, 0) := by rw [opsM, if_pos ⟨hg.1, hg.2.1⟩]
  obtain ⟨k1, k2, k3, k4⟩ := shortS_ok (youngB a b gen) (showB b units) 1024 (Nat.le_refl _)
  have hl : (viewL a 1024 units).length = 1024 := viewL_len _ _ _
  rw [ho]
  dsimp only
  generalize shortS (youngB a b gen) (showB b units) 1024 = O at k1 k2 k3
  have hok : allOk (viewL a 1024 units).length O := by rw [hl]; exact k1
  rw [applyM_of (by omega) hok]
  refine Prod.ext ?_ rfl
  obtain ⟨e1, e2⟩ := apply_at hok
  refine at0_ext (by rw [e1, hl, viewL_len]) fun j hj => ?_
  rw [e1, hl] at hj
  rw [e2, k3, viewL_at b units hj, viewL_at a units hj]
  by_cases hy : youngB a b gen j = true
  · rw [if_pos ⟨hj, hy⟩]; rfl
  · rw [if_neg (fun h => hy h.2)]
    exact same_old hg units hj (by simpa using hy)

theorem deltaMakes_true (x : T32) (gen : Int) (units : List Nat) (h0 : ok33 x) (h1 : ok3 gen) (h2 : ok23 units) : Go.A.CallsIn Try.prog 5 [d33 x, d3 gen, d23 units] [] fun r _ => r = .bool true := by
  obtain ⟨a, b⟩ := x
  have ha := lenX h0.1
  have hb := lenX h0.2
  have hu := lenW h2
  clear h0 h1 h2
  dsimp only at ha hb
  have c5 := f17_ok a b gen ha hb
  refine Go.A.CallsIn.of_exec tab_ok mixed Try.func5 rfl rfl [] [] ?_
  by_cases hg : grownP a b gen
  · rw [decide_eq_true hg] at c5
    have c1 := f15_ok a b gen units ha hb hu
    have c2 := (f9_own a 1024 units ha hu).pure
    have c3 := (f9_own b 1024 units hb hu).pure
    rw [viewM_all hg.1] at c2
    rw [viewM_all hg.2.1] at c3
    have ho := ops_props a b gen units
    have hm := makes hg units
    have c4 := f21_ok (viewL a 1024 units) (opsM a b gen units).1 (by rw [viewL_len]; omega) ho.1 ho.2
    rw [hm] at c4
    have ho2 : (opsM a b gen units).2 = 0 := by rw [opsM, if_pos ⟨hg.1, hg.2.1⟩]
    rw [ho2] at c1
    have c6 := f11_ok (viewL b 1024 units) (viewL b 1024 units) (by rw [viewL_len]; omega) (by rw [viewL_len]; omega)
    rw [decide_eq_true (p := viewL b 1024 units = viewL b 1024 units) rfl] at c6
    clear hm ho ho2
    generalize viewL a 1024 units = A at c2 c4
    generalize viewL b 1024 units = B at c3 c4 c6
    generalize (opsM a b gen units).1 = O at c1 c4
    dsimp only at c2 c3 c4
    repeat' ((conv => whnf); first
      | refine Pure.call (c5) ?_ | refine Pure.call (c1) ?_ | refine Pure.call (c2) ?_ | refine Pure.call (c3) ?_ | refine Pure.call (c4) ?_ | refine Pure.call (c6) ?_ | refine Pure.call (f12_ok) ?_)
    all_goals (conv => whnf)
    exact ⟨rfl⟩
  · rw [decide_eq_false hg] at c5
    repeat' ((conv => whnf); first
      | refine Pure.call (c5) ?_ | refine Pure.call (f12_ok) ?_)
    all_goals (conv => whnf)
    exact ⟨rfl⟩

theorem youngest_le {l : List X} (m : Int) (hm : ∀ x ∈ l, x.birth_ ≤ m) {j : Nat} {p bi : Int} (h : atL l (j : Int) = some (p, bi)) : bi ≤ m := by
  induction l with
  | nil => simp [atL] at h
  | cons x l ih =>
    rw [atL] at h
    split at h
    · simp only [Option.some.injEq, Prod.mk.injEq] at h
      rw [← h.2]
      exact hm x (List.mem_cons_self ..)
    · exact ih (fun y hy => hm y (List.mem_cons_of_mem _ hy)) h
theorem self_grown {l : List X} (hr : rightP l) (gen : Int) : grownP l l gen := by
  refine ⟨hr, hr, fun u hu => ?_⟩
  obtain ⟨h1, _⟩ := units_mem hr.2.1 (Int.le_refl _) u hu
  unfold badU
  rw [h1]
  simp
theorem self_young {l : List X} {m : Int} (hm : ∀ x ∈ l, x.birth_ ≤ m) (j : Nat) : youngB l l m j = false := by
  unfold youngB gtB
  cases h : atL l (j : Int) with
  | none => rfl
  | some v =>
    obtain ⟨p, bi⟩ := v
    have := youngest_le m hm h
    simp; omega
theorem pcs_false {t : Nat → Bool} : ∀ {n : Nat}, (∀ j, j < n → t j = false) → pcs t n = []
  | 0, _ => rfl
  | n + 1, h => by
    rw [pcs, h n (by omega)]
    exact pcs_false fun j hj => h j (by omega)

theorem deltaSelf_true (l : List X) (gen : Int) (units : List Nat) (h0 : ok22 l) (h1 : ok3 gen) (h2 : ok23 units) : Go.A.CallsIn Try.prog 8 [d22 l, d3 gen, d23 units] [] fun r _ => r = .bool true := by
  have hlen := lenX h0
  have hu := lenW h2
  clear h0 h1 h2
  have c5 := f17_ok l l gen hlen hlen
  refine Go.A.CallsIn.of_exec tab_ok mixed Try.func8 rfl rfl [] [] ?_
  by_cases hr : rightP l
  · rw [decide_eq_true (self_grown hr gen)] at c5
    repeat' ((conv => whnf); first
      | refine Exists.intro _ (And.intro (⟨(List.length_map _).symm⟩) ?_) | refine Pure.call (E.f22_ok l hlen) ?_ | refine boolF_not ?_ | refine boolF_dect (by assumption) ?_)
    all_goals (conv => whnf)
    refine W_loopG (ι := Nat × Int) (fun i => ⟨(d22 l :: .int .i64 gen :: d23 units :: D.undef :: D.undef :: D.undef :: D.undef :: .int .i64 i.2 :: D.undef :: D.undef :: D.undef :: D.undef :: D.undef :: D.undef :: D.undef :: D.undef :: D.undef :: D.undef :: D.undef :: D.undef :: D.undef :: D.undef :: D.undef :: D.undef :: D.undef :: d22 l :: .int .i64 (l.length:Int) :: .int .i64 (i.1:Int) :: D.undef :: D.undef :: D.undef :: D.undef :: D.undef :: D.undef :: D.undef :: D.undef :: D.undef :: D.undef :: D.undef :: D.undef :: D.undef :: D.undef :: D.undef :: D.undef :: D.undef :: D.undef :: D.undef :: D.undef :: D.undef :: D.undef :: D.undef :: D.undef :: D.undef :: D.undef :: D.undef :: D.undef :: D.undef :: D.undef :: D.undef :: D.undef :: D.undef :: D.undef :: D.undef :: D.undef :: D.undef :: D.undef :: D.undef :: D.undef :: D.undef :: D.undef :: D.undef :: D.undef :: D.undef :: D.undef :: D.undef :: D.undef :: []), []⟩) (fun i => l.length - i.1)
      (fun i => i.1 ≤ l.length ∧ ∀ x ∈ l.take i.1, x.birth_ ≤ i.2) (0, 0) (Ghost.hold [0, 1, 2, 7, 25, 26, 27] rfl) ⟨Nat.zero_le _, fun x hx => by simp at hx⟩ ?_
    rintro ⟨i, m⟩ ⟨i1, i2⟩
    dsimp only at i1 i2 ⊢
    refine exec_ok tab_ok mixed 1000 (bx := []) (own := []) ?_
    rcases Nat.lt_or_ge i l.length with h | h
    · obtain ⟨x, hx⟩ := at_lt h
      repeat' ((conv => whnf); first
        | refine Exists.intro _ (And.intro (map_at (by omega) hx) ?_) | refine And.intro (by decide) ?_ | refine And.intro rfl ?_ | refine And.intro (Nat.le_of_ble_eq_true rfl) ?_ | refine And.intro (by omega) ?_ | refine Exists.intro _ (And.intro (w64 (by omega) (by omega)) ?_) | refine Exists.intro _ (And.intro (imax) ?_) | refine boolF_dect (by omega) ?_)
      all_goals (conv => whnf)
      refine ⟨(i + 1, max m x.birth_), Ghost.back [0, 1, 2, 7, 25, 26, 27] 0 rfl rfl (Nat.le_refl _) ?_ ?_, ⟨h, fun y hy => ?_⟩, by dsimp only; omega⟩
      · simp [scs, D.sc, E.sc22, scd23]
      · simp
      · dsimp only at hy ⊢
        rw [take_snoc hx] at hy
        rcases List.mem_append.mp hy with hy | hy
        · have := i2 y hy; omega
        · simp only [List.mem_singleton] at hy; subst hy; omega
    · have hm : ∀ x ∈ l, x.birth_ ≤ m := by rw [List.take_of_length_le h] at i2; exact i2
      have hyf := self_young hm
      have c1 := (f13_own l l m hlen hlen).pure
      have c2 := f15_ok l l m units hlen hlen hu
      have hp : piecesM l l m = ([], 0) := by
        have hy : youngM l l m = (youngL l l m, 0) := by rw [youngM, if_pos ⟨hr, hr⟩]
        rw [piecesM, hy]
        refine Prod.ext ?_ rfl
        dsimp only
        rw [youngL_len]
        exact pcs_false fun j hj => (youngL_at l l m hj).trans (hyf j)
      have ho : opsM l l m units = ([], 0) := by
        rw [opsM, if_pos ⟨hr, hr⟩]
        refine Prod.ext ?_ rfl
        exact (short_nil (Nat.le_refl _)).mpr fun j _ => hyf j
      rw [hp] at c1
      rw [ho] at c2
      dsimp only at c1 c2
      repeat' ((conv => whnf); first
        | refine Exists.intro _ (And.intro (⟨(List.length_map _).symm⟩) ?_) | refine Pure.call (c1) ?_ | refine Pure.call (c2) ?_ | refine Pure.call (c5) ?_ | refine Pure.call (f12_ok) ?_ | refine boolF_decf (by omega) ?_)
      all_goals (conv => whnf)
      exact ⟨rfl⟩
  · rw [decide_eq_false (fun h : grownP l l gen => hr h.1)] at c5
    repeat' ((conv => whnf); first
      | refine Pure.call (E.f22_ok l hlen) ?_ | refine Pure.call (c5) ?_ | refine Pure.call (f12_ok) ?_ | refine boolF_not ?_ | refine boolF_decf (by assumption) ?_)
    all_goals (conv => whnf)
    exact ⟨rfl⟩

end Go.Proofs.Ytlghefbapiocgaa.V


namespace Go.Proofs.Ytlghefbapiocgaa.V
open Go.A
set_option linter.unusedVariables false
set_option linter.unusedSimpArgs false
set_option linter.unnecessarySimpa false
attribute [local irreducible] IntKind.wrap bitsI
open E (atL listP mayX endX far rightP)
set_option maxRecDepth 100000
set_option maxHeartbeats 4000000

def inP (y : Pc) (j : Nat) : Bool := decide (y.from_ ≤ (j : Int)) && decide ((j : Int) < y.to_)
def inB (l : List Pc) (j : Nat) : Bool := l.any fun y => inP y j

theorem pcs_from (t : Nat → Bool) : ∀ n, ∀ y ∈ pcs t n, y.from_ < (n : Int)
  | 0, y, h => by cases h
  | n + 1, y, h => by
    rw [pcs] at h
    split at h
    · split at h
      · rename_i ho
        obtain ⟨z, hz, hz2, hz3⟩ := pcs_last t n ho
        rw [bump_at hz] at h
        obtain ⟨i, hi⟩ := List.getElem?_of_mem h
        rw [List.getElem?_set] at hi
        split at hi
        · split at hi
          · simp only [Option.some.injEq] at hi
            have := pcs_from t n z (List.mem_of_getElem? hz)
            rw [← hi]; dsimp only; omega
          · cases hi
        · have := pcs_from t n y (List.mem_of_getElem? hi); omega
      · rcases List.mem_append.mp h with h | h
        · have := pcs_from t n y h; omega
        · simp only [List.mem_singleton] at h; subst h; dsimp only; omega
    · have := pcs_from t n y h; omega

theorem pcs_in (t : Nat → Bool) : ∀ n j, j < n → t j = true → ∃ y ∈ pcs t n, y.from_ ≤ (j : Int) ∧ (j : Int) < y.to_
  | n + 1, j, hj, ht => by
    rw [pcs]
    rcases Nat.lt_or_ge j n with h | h
    · obtain ⟨y, hy, h1, h2⟩ := pcs_in t n j h ht
      split
      · split
        · rename_i ho
          obtain ⟨z, hz, hz2, hz3⟩ := pcs_last t n ho
          rw [bump_at hz]
          obtain ⟨i, hi⟩ := List.getElem?_of_mem hy
          have hil := (List.getElem?_eq_some_iff.mp hi).1
          by_cases hlast : (pcs t n).length - 1 = i
          · rw [hlast, hi] at hz
            cases hz
            refine ⟨⟨y.from_, (n : Int) + 1, y.node_⟩, ?_, h1, by dsimp only; omega⟩
            exact List.mem_of_getElem? (i := i) (by rw [hlast, List.getElem?_set_self hil])
          · exact ⟨y, List.mem_of_getElem? (i := i) (by rw [List.getElem?_set_ne hlast]; exact hi), h1, h2⟩
        · exact ⟨y, List.mem_append_left _ hy, h1, h2⟩
      · exact ⟨y, hy, h1, h2⟩
    · obtain rfl : j = n := by omega
      rw [if_pos ht]
      split
      · rename_i ho
        obtain ⟨z, hz, hz2, hz3⟩ := pcs_last t j ho
        have hf := pcs_from t j z (List.mem_of_getElem? hz)
        rw [bump_at hz]
        refine ⟨⟨z.from_, (j : Int) + 1, z.node_⟩, List.mem_of_getElem? (i := (pcs t j).length - 1) (by rw [List.getElem?_set_self (by omega)]), by dsimp only; omega, by dsimp only; omega⟩
      · exact ⟨⟨(j : Int), (j : Int) + 1, 0⟩, List.mem_append_right _ (List.mem_singleton.mpr rfl), by dsimp only; omega, by dsimp only; omega⟩

theorem young_in {a b : List X} {gen : Int} (hg : grownP a b gen) (units : List Nat) {j : Nat} (hj : j < 1024) (hne : showB a units j ≠ showB b units j) : inB (piecesM a b gen).1 j = true := by
  have hy : youngB a b gen j = true := by
    cases h : youngB a b gen j with
    | true => rfl
    | false => exact absurd (same_old hg units hj h) hne
  have hY : youngM a b gen = (youngL a b gen, 0) := by rw [youngM, if_pos ⟨hg.1, hg.2.1⟩]
  have hp : (piecesM a b gen).1 = pcs (youngB a b gen) 1024 := by
    rw [piecesM, hY]
    dsimp only
    rw [youngL_len]
    exact pcs_congr fun j hj => youngL_at a b gen hj
  rw [hp]
  obtain ⟨y, hy1, h1, h2⟩ := pcs_in (youngB a b gen) 1024 j hj hy
  simp only [inB, List.any_eq_true]
  exact ⟨y, hy1, by simp [inP, h1, h2]⟩

theorem deltaYoung_true (x : T32) (gen : Int) (units : List Nat) (h0 : ok33 x) (h1 : ok3 gen) (h2 : ok23 units) : Go.A.CallsIn Try.prog 6 [d33 x, d3 gen, d23 units] [] fun r _ => r = .bool true := by
  obtain ⟨a, b⟩ := x
  have ha := lenX h0.1
  have hb := lenX h0.2
  have hu := lenW h2
  clear h0 h1 h2
  dsimp only at ha hb
  have c5 := f17_ok a b gen ha hb
  refine Go.A.CallsIn.of_exec tab_ok mixed Try.func6 rfl rfl [] [] ?_
  by_cases hg : grownP a b gen
  · rw [decide_eq_true hg] at c5
    have c1 := (f13_own a b gen ha hb).pure
    have c2 := (f9_own a 1024 units ha hu).pure
    have c3 := (f9_own b 1024 units hb hu).pure
    rw [viewM_all hg.1] at c2
    rw [viewM_all hg.2.1] at c3
    have hAl := viewL_len a 1024 units
    have hBl := viewL_len b 1024 units
    have hin : ∀ j, j < 1024 → at0 (viewL a 1024 units) j ≠ at0 (viewL b 1024 units) j → inB (piecesM a b gen).1 j = true := fun j hj hne => by
      rw [viewL_at a units hj, viewL_at b units hj] at hne
      exact young_in hg units hj hne
    have hpl := pieces_len a b gen
    have he : (piecesM a b gen).2 = 0 := by rw [piecesM, youngM, if_pos ⟨hg.1, hg.2.1⟩]
    rw [he] at c1
    generalize viewL a 1024 units = A at c2 hAl hin
    generalize viewL b 1024 units = B at c3 hBl hin
    generalize (piecesM a b gen).1 = P at c1 hin hpl
    clear he
    dsimp only at c2 c3
    repeat' ((conv => whnf); first
      | refine Exists.intro _ (And.intro (⟨(List.length_map _).symm⟩) ?_) | refine Pure.call (c5) ?_ | refine Pure.call (c1) ?_ | refine Pure.call (c2) ?_ | refine Pure.call (c3) ?_ | refine boolF_not ?_ | refine boolF_dect (by omega) ?_)
    all_goals (conv => whnf)
    refine W_loopG (ι := Nat) (fun i => ⟨(D.undef :: D.undef :: D.undef :: D.undef :: D.undef :: D.undef :: D.undef :: d34 P :: D.undef :: d23 A :: D.undef :: d23 B :: D.undef :: D.undef :: D.undef :: D.undef :: D.undef :: D.undef :: D.undef :: D.undef :: D.undef :: D.undef :: D.undef :: D.undef :: D.undef :: D.undef :: D.undef :: D.undef :: D.undef :: D.undef :: D.undef :: D.undef :: D.undef :: D.undef :: D.undef :: D.undef :: D.undef :: D.undef :: D.undef :: D.undef :: D.undef :: D.undef :: D.undef :: D.undef :: D.undef :: D.undef :: D.undef :: D.undef :: D.undef :: D.undef :: D.undef :: D.undef :: D.undef :: D.undef :: D.undef :: D.undef :: D.undef :: D.undef :: D.undef :: D.undef :: D.undef :: D.undef :: D.undef :: D.undef :: D.undef :: D.undef :: D.undef :: D.undef :: D.undef :: .int .i64 1024 :: .int .i64 (i:Int) :: D.undef :: D.undef :: D.undef :: D.undef :: D.undef :: D.undef :: D.undef :: D.undef :: D.undef :: D.undef :: D.undef :: D.undef :: D.undef :: D.undef :: D.undef :: D.undef :: D.undef :: D.undef :: D.undef :: D.undef :: D.undef :: D.undef :: D.undef :: D.undef :: D.undef :: D.undef :: D.undef :: D.undef :: D.undef :: D.undef :: D.undef :: D.undef :: D.undef :: D.undef :: D.undef :: D.undef :: D.undef :: []), []⟩) (fun i => 1024 - i)
      (fun i => i ≤ 1024) 0 (Ghost.hold [7, 9, 11, 69, 70] (by rw [hAl]; rfl)) (Nat.zero_le _) ?_
    intro i i1
    refine exec_ok tab_ok mixed 1000 (bx := []) (own := []) ?_
    rcases Nat.lt_or_ge i 1024 with h | h
    · obtain ⟨x, hx⟩ := at_lt (l := A) (i := i) (by omega)
      obtain ⟨y, hy⟩ := at_lt (l := B) (i := i) (by omega)
      have hxy := hin i h
      rw [show at0 A i = x by simp [at0, hx], show at0 B i = y by simp [at0, hy]] at hxy
      repeat' ((conv => whnf); first
        | refine Exists.intro _ (And.intro (⟨(List.length_map _).symm⟩) ?_) | refine boolF_dect (by omega) ?_)
      all_goals (conv => whnf)
      refine W_loopG (ι := Nat) (fun k => ⟨(D.undef :: D.undef :: D.undef :: D.undef :: D.undef :: D.undef :: D.undef :: d34 P :: D.undef :: d23 A :: D.undef :: d23 B :: D.undef :: .int .i64 (i:Int) :: .bool (inB (P.take k) i) :: D.undef :: D.undef :: D.undef :: D.undef :: D.undef :: D.undef :: D.undef :: D.undef :: D.undef :: D.undef :: D.undef :: D.undef :: D.undef :: D.undef :: D.undef :: D.undef :: D.undef :: D.undef :: D.undef :: D.undef :: D.undef :: D.undef :: D.undef :: D.undef :: D.undef :: D.undef :: D.undef :: D.undef :: D.undef :: D.undef :: D.undef :: D.undef :: D.undef :: D.undef :: D.undef :: D.undef :: D.undef :: D.undef :: D.undef :: D.undef :: D.undef :: D.undef :: D.undef :: D.undef :: D.undef :: D.undef :: D.undef :: D.undef :: D.undef :: D.undef :: D.undef :: D.undef :: D.undef :: D.undef :: .int .i64 1024 :: .int .i64 (i:Int) :: D.undef :: D.undef :: d34 P :: .int .i64 (P.length:Int) :: .int .i64 (k:Int) :: D.undef :: D.undef :: D.undef :: D.undef :: D.undef :: D.undef :: D.undef :: D.undef :: D.undef :: D.undef :: D.undef :: D.undef :: D.undef :: D.undef :: D.undef :: D.undef :: D.undef :: D.undef :: D.undef :: D.undef :: D.undef :: D.undef :: D.undef :: D.undef :: D.undef :: D.undef :: D.undef :: D.undef :: D.undef :: D.undef :: D.undef :: D.undef :: []), []⟩) (fun k => P.length - k)
        (fun k => k ≤ P.length) 0 (Ghost.hold [7, 9, 11, 13, 14, 69, 70, 73, 74, 75] rfl) (Nat.zero_le _) ?_
      intro k k1
      refine exec_ok tab_ok mixed 1000 (bx := []) (own := []) ?_
      rcases Nat.lt_or_ge k P.length with g | g
      · obtain ⟨z, hz⟩ := at_lt g
        have hst : inB (P.take (k + 1)) i = (inB (P.take k) i || inP z i) := by rw [take_snoc hz]; simp [inB]
        generalize inB (P.take k) i = cur at hst
        have fin : ∀ (v : Bool) (s : List D) (H : List AObj), (cur || inP z i) = v → keepL [7, 9, 11, 13, 14, 69, 70, 73, 74, 75] 0 s = ((D.undef :: D.undef :: D.undef :: D.undef :: D.undef :: D.undef :: D.undef :: d34 P :: D.undef :: d23 A :: D.undef :: d23 B :: D.undef :: .int .i64 (i:Int) :: .bool v :: D.undef :: D.undef :: D.undef :: D.undef :: D.undef :: D.undef :: D.undef :: D.undef :: D.undef :: D.undef :: D.undef :: D.undef :: D.undef :: D.undef :: D.undef :: D.undef :: D.undef :: D.undef :: D.undef :: D.undef :: D.undef :: D.undef :: D.undef :: D.undef :: D.undef :: D.undef :: D.undef :: D.undef :: D.undef :: D.undef :: D.undef :: D.undef :: D.undef :: D.undef :: D.undef :: D.undef :: D.undef :: D.undef :: D.undef :: D.undef :: D.undef :: D.undef :: D.undef :: D.undef :: D.undef :: D.undef :: D.undef :: D.undef :: D.undef :: D.undef :: D.undef :: D.undef :: D.undef :: D.undef :: .int .i64 1024 :: .int .i64 (i:Int) :: D.undef :: D.undef :: d34 P :: .int .i64 (P.length:Int) :: .int .i64 ((k + 1 : Nat):Int) :: D.undef :: D.undef :: D.undef :: D.undef :: D.undef :: D.undef :: D.undef :: D.undef :: D.undef :: D.undef :: D.undef :: D.undef :: D.undef :: D.undef :: D.undef :: D.undef :: D.undef :: D.undef :: D.undef :: D.undef :: D.undef :: D.undef :: D.undef :: D.undef :: D.undef :: D.undef :: D.undef :: D.undef :: D.undef :: D.undef :: D.undef :: D.undef :: [])) →
            Ghost 0 s H ((D.undef :: D.undef :: D.undef :: D.undef :: D.undef :: D.undef :: D.undef :: d34 P :: D.undef :: d23 A :: D.undef :: d23 B :: D.undef :: .int .i64 (i:Int) :: .bool (inB (P.take (k + 1)) i) :: D.undef :: D.undef :: D.undef :: D.undef :: D.undef :: D.undef :: D.undef :: D.undef :: D.undef :: D.undef :: D.undef :: D.undef :: D.undef :: D.undef :: D.undef :: D.undef :: D.undef :: D.undef :: D.undef :: D.undef :: D.undef :: D.undef :: D.undef :: D.undef :: D.undef :: D.undef :: D.undef :: D.undef :: D.undef :: D.undef :: D.undef :: D.undef :: D.undef :: D.undef :: D.undef :: D.undef :: D.undef :: D.undef :: D.undef :: D.undef :: D.undef :: D.undef :: D.undef :: D.undef :: D.undef :: D.undef :: D.undef :: D.undef :: D.undef :: D.undef :: D.undef :: D.undef :: D.undef :: D.undef :: .int .i64 1024 :: .int .i64 (i:Int) :: D.undef :: D.undef :: d34 P :: .int .i64 (P.length:Int) :: .int .i64 ((k + 1 : Nat):Int) :: D.undef :: D.undef :: D.undef :: D.undef :: D.undef :: D.undef :: D.undef :: D.undef :: D.undef :: D.undef :: D.undef :: D.undef :: D.undef :: D.undef :: D.undef :: D.undef :: D.undef :: D.undef :: D.undef :: D.undef :: D.undef :: D.undef :: D.undef :: D.undef :: D.undef :: D.undef :: D.undef :: D.undef :: D.undef :: D.undef :: D.undef :: D.undef :: [])) [] := fun v s H hv hs => by
          rw [hst, hv]
          exact Ghost.back [7, 9, 11, 13, 14, 69, 70, 73, 74, 75] 0 hs rfl (Nat.le_refl _) (by simp [scs, D.sc, scd23, scd34]) (by simp)
        cases cur with
        | true =>
          repeat' ((conv => whnf); first
            | refine Exists.intro _ (And.intro (map_at (by omega) hz) ?_) | refine And.intro (by decide) ?_ | refine And.intro rfl ?_ | refine And.intro (by omega) ?_ | refine Exists.intro _ (And.intro (w64 (by omega) (by omega)) ?_) | refine boolF_dect (by omega) ?_)
          all_goals (conv => whnf)
          exact ⟨k + 1, fin true _ _ rfl rfl, g, by omega⟩
        | false =>
          by_cases q1 : z.from_ ≤ (i : Int)
          · repeat' ((conv => whnf); first
              | refine Exists.intro _ (And.intro (map_at (by omega) hz) ?_) | refine And.intro (by decide) ?_ | refine And.intro rfl ?_ | refine And.intro (Nat.le_of_ble_eq_true rfl) ?_ | refine And.intro (by omega) ?_ | refine Exists.intro _ (And.intro (w64 (by omega) (by omega)) ?_) | refine boolF_dect (by assumption) ?_ | refine boolF_dect (by omega) ?_)
            all_goals (conv => whnf)
            exact ⟨k + 1, fin (decide ((i : Int) < z.to_)) _ _ (by simp [inP, q1]) rfl, g, by omega⟩
          · repeat' ((conv => whnf); first
              | refine Exists.intro _ (And.intro (map_at (by omega) hz) ?_) | refine And.intro (by decide) ?_ | refine And.intro rfl ?_ | refine And.intro (Nat.le_of_ble_eq_true rfl) ?_ | refine And.intro (by omega) ?_ | refine Exists.intro _ (And.intro (w64 (by omega) (by omega)) ?_) | refine boolF_decf (by assumption) ?_ | refine boolF_dect (by omega) ?_)
            all_goals (conv => whnf)
            exact ⟨k + 1, fin false _ _ (by simp [inP, q1]) rfl, g, by omega⟩
      · rw [List.take_of_length_le g]
        by_cases hq : x = y
        · repeat' ((conv => whnf); first
            | refine PairK.mk (by kernel_rfl) ?_ | refine Exists.intro _ (And.intro (map_at (by omega) hx) ?_) | refine Exists.intro _ (And.intro (map_at (by omega) hy) ?_) | refine And.intro rfl ?_ | refine And.intro (by omega) ?_ | refine Exists.intro _ (And.intro (w64 (by omega) (by omega)) ?_) | refine boolF_not ?_ | refine boolF_dect (by assumption) ?_ | refine boolF_decf (by omega) ?_)
          all_goals (conv => whnf)
          exact ⟨i + 1, Ghost.hold [7, 9, 11, 69, 70] rfl, h, by omega⟩
        · rw [hxy hq]
          repeat' ((conv => whnf); first
            | refine PairK.mk (by kernel_rfl) ?_ | refine Exists.intro _ (And.intro (map_at (by omega) hx) ?_) | refine Exists.intro _ (And.intro (map_at (by omega) hy) ?_) | refine And.intro rfl ?_ | refine And.intro (by omega) ?_ | refine Exists.intro _ (And.intro (w64 (by omega) (by omega)) ?_) | refine boolF_not ?_ | refine boolF_decf (by assumption) ?_ | refine boolF_decf (by omega) ?_)
          all_goals (conv => whnf)
          exact ⟨i + 1, Ghost.hold [7, 9, 11, 69, 70] rfl, h, by omega⟩
    · repeat' ((conv => whnf); first
        | refine Pure.call (f12_ok) ?_ | refine boolF_decf (by omega) ?_)
      all_goals (conv => whnf)
      exact ⟨rfl⟩
  · rw [decide_eq_false hg] at c5
    repeat' ((conv => whnf); first
      | refine Pure.call (c5) ?_ | refine Pure.call (f12_ok) ?_)
    all_goals (conv => whnf)
    exact ⟨rfl⟩

end Go.Proofs.Ytlghefbapiocgaa.V


namespace Go.Proofs.Ytlghefbapiocgaa.V
open Go.A
set_option linter.unusedVariables false
set_option linter.unusedSimpArgs false
set_option linter.unnecessarySimpa false
attribute [local irreducible] IntKind.wrap bitsI
open E (atL listP mayX endX far rightP withL putM cutM ext)
set_option maxRecDepth 100000
set_option maxHeartbeats 4000000

/-- Where a list has come of another one. -/
structure Came (l : List X) (gen : Int) (b : List X) : Prop where
  right : rightP b
  at_ : ∀ (j : Nat) p bi, atL b (j : Int) = some (p, bi) → gen < bi ∨ atL l (j : Int) = some (p, bi)

theorem Came.refl {l : List X} (hr : rightP l) (gen : Int) : Came l gen l := ⟨hr, fun j p bi h => .inr h⟩

theorem Came.grown {l b : List X} {gen : Int} (h : Came l gen b) (hr : rightP l) : grownP l b gen := by
  refine ⟨hr, h.right, (bad_iff h.right.2.1 gen).mpr fun j hj => ?_⟩
  unfold badB
  cases hb : atL b (j : Int) with
  | none => rfl
  | some v =>
    obtain ⟨p, bi⟩ := v
    rcases h.at_ j p bi hb with h1 | h1
    · have : decide (bi ≤ gen) = false := decide_eq_false (by omega)
      simp [this]
    · rw [h1]; simp

theorem Came.with {l b : List X} {gen : Int} (h : Came l gen b) {off n : Int} {ins : List X} (he : ext off n) (hi : listP off ins) (hi2 : ∀ x ∈ ins, endX x ≤ off + n) (hy : ∀ x ∈ ins, x.birth_ = gen + 1) : Came l gen (withL b off n ins) := by
  obtain ⟨k1, k2⟩ := E.with_ok h.right.2.1 he hi hi2
  refine ⟨k1, fun j p bi hat => ?_⟩
  rw [k2] at hat
  split at hat
  · left
    have : ∀ {l : List X} {b p bi : Int}, (∀ x ∈ l, x.birth_ = gen + 1) → atL l b = some (p, bi) → bi = gen + 1 := fun {l b p bi} hl => by
      induction l with
      | nil => intro h; simp [atL] at h
      | cons x l ih =>
        intro h
        rw [atL] at h
        split at h
        · simp only [Option.some.injEq, Prod.mk.injEq] at h
          rw [← h.2]
          exact hl x (List.mem_cons_self ..)
        · exact ih (fun y hy => hl y (List.mem_cons_of_mem _ hy)) h
    have := this hy hat
    omega
  · exact h.at_ j p bi hat

theorem Came.put {l b : List X} {gen : Int} (h : Came l gen b) (x : X) (hx : x.birth_ = gen + 1) : (putM b x).2 = 0 → Came l gen (putM b x).1 := by
  unfold putM
  split
  · rename_i hh
    intro _
    have ho := E.one_list hh.2
    exact h.with (E.mayX_ext hh.2) ho.1 ho.2 (fun y hy => by simp only [List.mem_singleton] at hy; subst hy; exact hx)
  · intro h; cases h
theorem Came.cut {l b : List X} {gen : Int} (h : Came l gen b) (off n : Int) : (cutM b off n).2 = 0 → Came l gen (cutM b off n).1 := by
  unfold cutM
  split
  · rename_i hh
    intro _
    exact h.with hh.2 trivial (fun y hy => by cases hy) (fun y hy => by cases hy)
  · intro h; cases h

def doM (gen : Int) (b : List X) (c : T58) : List X × Int := if c.cut_ then cutM b c.x_.off_ c.x_.len_ else putM b ⟨c.x_.off_, c.x_.len_, c.x_.phys_, gen + 1⟩
def nextM (gen : Int) (b : List X) (c : T58) : List X := if (doM gen b c).2 = 0 then (doM gen b c).1 else b

theorem Came.next {l b : List X} {gen : Int} (h : Came l gen b) (c : T58) : Came l gen (nextM gen b c) := by
  unfold nextM
  split
  · rename_i he
    unfold doM at he ⊢
    split
    · rename_i hc
      rw [if_pos hc] at he
      exact h.cut _ _ he
    · rename_i hc
      rw [if_neg hc] at he
      exact h.put _ rfl he
  · exact h

theorem scd54 (k : Nat) (l : List T58) : (d54 l).sc k := by
  simp only [d54, D.sc, scs_map]
  intro x _
  simp [r59, c59, c57, c4, D.sc, d4, d3, scs]

theorem grows_walk (l : List X) (gen : Int) (sc : List T58) (units : List Nat) (hlen : l.length ≤ 140737488351232) (hsl : sc.length ≤ 140737488351232) (hu : units.length ≤ 140737488351232) : Go.A.CallsIn Try.prog 7 [.agg [d22 l, .int .i64 gen], d54 sc, d23 units] [] fun r _ => r = .bool true := by
  refine Go.A.CallsIn.of_exec tab_ok mixed Try.func7 rfl rfl [] [] ?_
  by_cases hr : rightP l
  · by_cases hg : 0 ≤ gen ∧ gen < 1099511627776
    · obtain ⟨m, hm⟩ : ∃ m : Nat, m = min sc.length 100 := ⟨_, rfl⟩
      have hmin : min (sc.length : Int) 100 = (m : Int) := by omega
      have hmt : (sc.take m).length = m := by rw [List.length_take]; omega
      repeat' ((conv => whnf); first
        | refine PairK.mk (by kernel_rfl) ?_ | refine Exists.intro (m) (And.intro (⟨hmin⟩) (And.intro (by omega) ?_)) | refine And.intro (cells_map (fun _ => rfl)) ?_ | refine Exists.intro _ (And.intro (⟨(List.length_map _).symm⟩) ?_) | refine Exists.intro _ (And.intro (⟨List.map_take⟩) ?_) | refine Exists.intro _ (And.intro (imin) ?_) | refine Pure.call (E.f22_ok l hlen) ?_ | refine boolF_not ?_ | refine boolF_dect (by assumption) ?_ | refine boolF_decf (by omega) ?_)
      all_goals (conv => whnf)
      refine W_loopG (ι := Nat × List X) (fun i => ⟨(D.undef :: D.undef :: d23 units :: D.undef :: D.undef :: D.undef :: D.undef :: d22 l :: .int .i64 gen :: d22 i.2 :: D.undef :: D.undef :: D.undef :: D.undef :: D.undef :: D.undef :: D.undef :: D.undef :: D.undef :: D.undef :: D.undef :: D.undef :: D.undef :: D.undef :: D.undef :: D.undef :: D.undef :: D.undef :: D.undef :: D.undef :: D.undef :: D.undef :: D.undef :: D.undef :: D.undef :: D.undef :: D.undef :: D.undef :: D.undef :: D.undef :: D.undef :: D.undef :: D.undef :: d54 (sc.take m) :: .int .i64 (m:Int) :: .int .i64 (i.1:Int) :: D.undef :: D.undef :: D.undef :: D.undef :: D.undef :: D.undef :: D.undef :: D.undef :: D.undef :: D.undef :: D.undef :: D.undef :: D.undef :: D.undef :: D.undef :: D.undef :: D.undef :: D.undef :: D.undef :: D.undef :: D.undef :: D.undef :: D.undef :: D.undef :: D.undef :: D.undef :: D.undef :: D.undef :: D.undef :: D.undef :: D.undef :: D.undef :: D.undef :: D.undef :: D.undef :: D.undef :: D.undef :: D.undef :: D.undef :: D.undef :: D.undef :: D.undef :: D.undef :: D.undef :: D.undef :: D.undef :: D.undef :: D.undef :: D.undef :: D.undef :: D.undef :: D.undef :: D.undef :: D.undef :: D.undef :: D.undef :: D.undef :: D.undef :: D.undef :: D.undef :: D.undef :: D.undef :: D.undef :: D.undef :: D.undef :: D.undef :: D.undef :: D.undef :: D.undef :: D.undef :: D.undef :: D.undef :: D.undef :: D.undef :: D.undef :: D.undef :: D.undef :: D.undef :: D.undef :: D.undef :: D.undef :: D.undef :: D.undef :: D.undef :: D.undef :: []), []⟩) (fun i => m - i.1)
        (fun i => i.1 ≤ m ∧ Came l gen i.2) (0, l) (Ghost.hold [2, 7, 8, 9, 43, 44, 45] (by rw [hmt]; rfl)) ⟨Nat.zero_le _, Came.refl hr gen⟩ ?_
      rintro ⟨i, B⟩ ⟨i1, i2⟩
      dsimp only at i1 i2 ⊢
      have hBl : B.length ≤ 140737488351232 := by have := i2.right.1; omega
      refine exec_ok tab_ok mixed 1000 (bx := []) (own := []) ?_
      rcases Nat.lt_or_ge i m with h | h
      · obtain ⟨c, hc⟩ := at_lt (l := sc.take m) (i := i) (by omega)
        obtain ⟨cu, co, cl, cp, cb⟩ := c
        have hn := i2.next ⟨cu, ⟨co, cl, cp, cb⟩⟩
        have c1 := (E.f23_own B ⟨co, cl, cp, gen + 1⟩ hBl).pure
        have c2 := (E.f24_own B co cl hBl).pure
        have fin : ∀ (B' : List X) (s : List D) (H : List AObj), nextM gen B ⟨cu, ⟨co, cl, cp, cb⟩⟩ = B' → keepL [2, 7, 8, 9, 43, 44, 45] 0 s = ((D.undef :: D.undef :: d23 units :: D.undef :: D.undef :: D.undef :: D.undef :: d22 l :: .int .i64 gen :: d22 B' :: D.undef :: D.undef :: D.undef :: D.undef :: D.undef :: D.undef :: D.undef :: D.undef :: D.undef :: D.undef :: D.undef :: D.undef :: D.undef :: D.undef :: D.undef :: D.undef :: D.undef :: D.undef :: D.undef :: D.undef :: D.undef :: D.undef :: D.undef :: D.undef :: D.undef :: D.undef :: D.undef :: D.undef :: D.undef :: D.undef :: D.undef :: D.undef :: D.undef :: d54 (sc.take m) :: .int .i64 (m:Int) :: .int .i64 ((i + 1 : Nat):Int) :: D.undef :: D.undef :: D.undef :: D.undef :: D.undef :: D.undef :: D.undef :: D.undef :: D.undef :: D.undef :: D.undef :: D.undef :: D.undef :: D.undef :: D.undef :: D.undef :: D.undef :: D.undef :: D.undef :: D.undef :: D.undef :: D.undef :: D.undef :: D.undef :: D.undef :: D.undef :: D.undef :: D.undef :: D.undef :: D.undef :: D.undef :: D.undef :: D.undef :: D.undef :: D.undef :: D.undef :: D.undef :: D.undef :: D.undef :: D.undef :: D.undef :: D.undef :: D.undef :: D.undef :: D.undef :: D.undef :: D.undef :: D.undef :: D.undef :: D.undef :: D.undef :: D.undef :: D.undef :: D.undef :: D.undef :: D.undef :: D.undef :: D.undef :: D.undef :: D.undef :: D.undef :: D.undef :: D.undef :: D.undef :: D.undef :: D.undef :: D.undef :: D.undef :: D.undef :: D.undef :: D.undef :: D.undef :: D.undef :: D.undef :: D.undef :: D.undef :: D.undef :: D.undef :: D.undef :: D.undef :: D.undef :: D.undef :: D.undef :: D.undef :: D.undef :: [])) →
            ∃ j : Nat × List X, Ghost 0 s H ((D.undef :: D.undef :: d23 units :: D.undef :: D.undef :: D.undef :: D.undef :: d22 l :: .int .i64 gen :: d22 j.2 :: D.undef :: D.undef :: D.undef :: D.undef :: D.undef :: D.undef :: D.undef :: D.undef :: D.undef :: D.undef :: D.undef :: D.undef :: D.undef :: D.undef :: D.undef :: D.undef :: D.undef :: D.undef :: D.undef :: D.undef :: D.undef :: D.undef :: D.undef :: D.undef :: D.undef :: D.undef :: D.undef :: D.undef :: D.undef :: D.undef :: D.undef :: D.undef :: D.undef :: d54 (sc.take m) :: .int .i64 (m:Int) :: .int .i64 (j.1:Int) :: D.undef :: D.undef :: D.undef :: D.undef :: D.undef :: D.undef :: D.undef :: D.undef :: D.undef :: D.undef :: D.undef :: D.undef :: D.undef :: D.undef :: D.undef :: D.undef :: D.undef :: D.undef :: D.undef :: D.undef :: D.undef :: D.undef :: D.undef :: D.undef :: D.undef :: D.undef :: D.undef :: D.undef :: D.undef :: D.undef :: D.undef :: D.undef :: D.undef :: D.undef :: D.undef :: D.undef :: D.undef :: D.undef :: D.undef :: D.undef :: D.undef :: D.undef :: D.undef :: D.undef :: D.undef :: D.undef :: D.undef :: D.undef :: D.undef :: D.undef :: D.undef :: D.undef :: D.undef :: D.undef :: D.undef :: D.undef :: D.undef :: D.undef :: D.undef :: D.undef :: D.undef :: D.undef :: D.undef :: D.undef :: D.undef :: D.undef :: D.undef :: D.undef :: D.undef :: D.undef :: D.undef :: D.undef :: D.undef :: D.undef :: D.undef :: D.undef :: D.undef :: D.undef :: D.undef :: D.undef :: D.undef :: D.undef :: D.undef :: D.undef :: D.undef :: [])) [] ∧ (j.1 ≤ m ∧ Came l gen j.2) ∧ m - j.1 < m - i := fun B' s H hB hs =>
          ⟨(i + 1, B'), Ghost.back [2, 7, 8, 9, 43, 44, 45] 0 hs rfl (Nat.le_refl _) ⟨trivial, trivial, scd23 _ _, trivial, trivial, trivial, trivial, E.sc22 _ _, trivial, E.sc22 _ _, by simp [scs, D.sc, scd54]⟩ (by simp), ⟨h, hB ▸ hn⟩, by dsimp only; omega⟩
        cases cu with
        | true =>
          have hd : doM gen B ⟨true, ⟨co, cl, cp, cb⟩⟩ = cutM B co cl := rfl
          have hx : nextM gen B ⟨true, ⟨co, cl, cp, cb⟩⟩ = if (cutM B co cl).2 = 0 then (cutM B co cl).1 else B := rfl
          generalize cutM B co cl = Q at c2 hx
          obtain ⟨Q1, Q2⟩ := Q
          dsimp only at c2 hx
          by_cases he : Q2 = 0
          · rw [if_pos he] at hx
            repeat' ((conv => whnf); first
              | refine Exists.intro _ (And.intro (map_at (by omega) hc) ?_) | refine And.intro (by decide) ?_ | refine And.intro rfl ?_ | refine And.intro (Nat.le_of_ble_eq_true rfl) ?_ | refine And.intro (by omega) ?_ | refine Exists.intro _ (And.intro (w64 (by omega) (by omega)) ?_) | refine Pure.call (c1) ?_ | refine Pure.call (c2) ?_ | refine boolF_dect (by assumption) ?_ | refine boolF_dect (by omega) ?_)
            all_goals (conv => whnf)
            exact fin _ _ _ hx rfl
          · rw [if_neg he] at hx
            repeat' ((conv => whnf); first
              | refine Exists.intro _ (And.intro (map_at (by omega) hc) ?_) | refine And.intro (by decide) ?_ | refine And.intro rfl ?_ | refine And.intro (Nat.le_of_ble_eq_true rfl) ?_ | refine And.intro (by omega) ?_ | refine Exists.intro _ (And.intro (w64 (by omega) (by omega)) ?_) | refine Pure.call (c1) ?_ | refine Pure.call (c2) ?_ | refine boolF_decf (by assumption) ?_ | refine boolF_dect (by omega) ?_)
            all_goals (conv => whnf)
            exact fin _ _ _ hx rfl
        | false =>
          have hx : nextM gen B ⟨false, ⟨co, cl, cp, cb⟩⟩ = if (putM B ⟨co, cl, cp, gen + 1⟩).2 = 0 then (putM B ⟨co, cl, cp, gen + 1⟩).1 else B := rfl
          generalize putM B ⟨co, cl, cp, gen + 1⟩ = Q at c1 hx
          obtain ⟨Q1, Q2⟩ := Q
          dsimp only at c1 hx
          by_cases he : Q2 = 0
          · rw [if_pos he] at hx
            repeat' ((conv => whnf); first
              | refine Exists.intro _ (And.intro (map_at (by omega) hc) ?_) | refine And.intro (by decide) ?_ | refine And.intro rfl ?_ | refine And.intro (Nat.le_of_ble_eq_true rfl) ?_ | refine And.intro (by omega) ?_ | refine Exists.intro _ (And.intro (w64 (by omega) (by omega)) ?_) | refine Pure.call (c1) ?_ | refine boolF_dect (by assumption) ?_ | refine boolF_dect (by omega) ?_)
            all_goals (conv => whnf)
            exact fin _ _ _ hx rfl
          · rw [if_neg he] at hx
            repeat' ((conv => whnf); first
              | refine Exists.intro _ (And.intro (map_at (by omega) hc) ?_) | refine And.intro (by decide) ?_ | refine And.intro rfl ?_ | refine And.intro (Nat.le_of_ble_eq_true rfl) ?_ | refine And.intro (by omega) ?_ | refine Exists.intro _ (And.intro (w64 (by omega) (by omega)) ?_) | refine Pure.call (c1) ?_ | refine boolF_decf (by assumption) ?_ | refine boolF_dect (by omega) ?_)
            all_goals (conv => whnf)
            exact fin _ _ _ hx rfl
      · have hgr := i2.grown hr
        have c1 := f15_ok l B gen units hlen hBl hu
        have c2 := (f9_own l 1024 units hlen hu).pure
        have c3 := (f9_own B 1024 units hBl hu).pure
        have c5 := f17_ok l B gen hlen hBl
        rw [decide_eq_true hgr] at c5
        rw [viewM_all hr] at c2
        rw [viewM_all i2.right] at c3
        have ho := ops_props l B gen units
        have hmk := makes hgr units
        have c4 := f21_ok (viewL l 1024 units) (opsM l B gen units).1 (by rw [viewL_len]; omega) ho.1 ho.2
        rw [hmk] at c4
        have ho2 : (opsM l B gen units).2 = 0 := by rw [opsM, if_pos ⟨hr, i2.right⟩]
        rw [ho2] at c1
        have c6 := f11_ok (viewL B 1024 units) (viewL B 1024 units) (by rw [viewL_len]; omega) (by rw [viewL_len]; omega)
        rw [decide_eq_true (p := viewL B 1024 units = viewL B 1024 units) rfl] at c6
        clear hmk ho ho2
        generalize viewL l 1024 units = V at c2 c4
        generalize viewL B 1024 units = W at c3 c4 c6
        generalize (opsM l B gen units).1 = O at c1 c4
        dsimp only at c2 c3 c4
        repeat' ((conv => whnf); first
          | refine Pure.call (c5) ?_ | refine Pure.call (c1) ?_ | refine Pure.call (c2) ?_ | refine Pure.call (c3) ?_ | refine Pure.call (c4) ?_ | refine Pure.call (c6) ?_ | refine Pure.call (f12_ok) ?_ | refine boolF_decf (by omega) ?_)
        all_goals (conv => whnf)
        exact ⟨rfl⟩
    · by_cases hg1 : gen < 0
      · repeat' ((conv => whnf); first
          | refine PairK.mk (by kernel_rfl) ?_ | refine Pure.call (E.f22_ok l hlen) ?_ | refine Pure.call (f12_ok) ?_ | refine boolF_not ?_ | refine boolF_dect (by assumption) ?_)
        all_goals (conv => whnf)
        exact ⟨rfl⟩
      · repeat' ((conv => whnf); first
          | refine PairK.mk (by kernel_rfl) ?_ | refine Pure.call (E.f22_ok l hlen) ?_ | refine Pure.call (f12_ok) ?_ | refine boolF_not ?_ | refine boolF_dect (by assumption) ?_ | refine boolF_decf (by assumption) ?_ | refine boolF_dect (by omega) ?_)
        all_goals (conv => whnf)
        exact ⟨rfl⟩
  · repeat' ((conv => whnf); first
      | refine PairK.mk (by kernel_rfl) ?_ | refine Pure.call (E.f22_ok l hlen) ?_ | refine Pure.call (f12_ok) ?_ | refine boolF_not ?_ | refine boolF_decf (by assumption) ?_)
    all_goals (conv => whnf)
    exact ⟨rfl⟩

theorem deltaGrows_true (x : T52) (sc : List T58) (units : List Nat) (h0 : ok53 x) (h1 : ok54 sc) (h2 : ok23 units) : Go.A.CallsIn Try.prog 7 [d53 x, d54 sc, d23 units] [] fun r _ => r = .bool true := by
  obtain ⟨l, gen⟩ := x
  have hlen := lenX h0.1
  have hu := lenW h2
  have hsl : sc.length ≤ 140737488351232 := by have := h1.2; simp [td59] at this; omega
  exact grows_walk l gen sc units hlen hsl hu

end Go.Proofs.Ytlghefbapiocgaa.V

