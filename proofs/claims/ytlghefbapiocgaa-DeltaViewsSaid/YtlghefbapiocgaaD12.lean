import Derived.Test.YtlghefbapiocgaaD6
-- merged
namespace Go.Proofs.Ytlghefbapiocgaa.V
open Go.A
set_option linter.unusedVariables false
set_option linter.unusedSimpArgs false
set_option linter.unnecessarySimpa false
attribute [local irreducible] IntKind.wrap bitsI
open E (atL listP mayX endX far rightP)
set_option maxRecDepth 100000

/-- A block, as the reference has it. -/
def rK : Option (Int × Int) → D
  | some (p, bi) => .agg [.bool true, .int .i64 p, .int .i64 bi]
  | none => .agg [.bool false, .int .i64 0, .int .i64 0]
def allL (l : List X) : List (Option (Int × Int)) := (List.range 1024).map fun (j : Nat) => atL l (j : Int)
def dK (k : List (Option (Int × Int))) : D := .sl (k.map rK)
theorem scK (k : Nat) (l : List (Option (Int × Int))) : scs k (l.map rK) := by
  rw [scs_map]
  rintro (_ | ⟨p, b⟩) _ <;> simp [rK, D.sc, scs]
theorem scdK (k : Nat) (l : List (Option (Int × Int))) : (dK l).sc k := scK k l

theorem all_fill {l : List X} (hl : listP 0 l) : allL l = fillB l 1024 (fun (j : Nat) => atL l (j : Int)) (fun _ => none) (unitsX l).length := by
  rw [fillB_all hl]
  apply List.map_congr_left
  intro j _
  cases atL l (j : Int) <;> rfl
theorem allL_at (l : List X) {j : Nat} (h : j < 1024) : (allL l)[j]? = some (atL l (j : Int)) := by simp [allL, h]
theorem allL_length (l : List X) : (allL l).length = 1024 := by simp [allL]

theorem f27_own (l : List X) (hl : listP 0 l) : Owned Try.prog 27 [d22 l] 3 ((allL l).map rK) := by
  have hlen := E.listP_short hl
  refine Owned.of ⟨E.sc22 _ _, trivial⟩ (scK _ _) ?_
  refine Go.A.CallsIn.of_exec tab_ok mixed Try.func27 rfl rfl [] [] ?_
  repeat' ((conv => whnf); first
    | refine And.intro (by decide) ?_)
  all_goals (conv => whnf)
  have e0 : (fillB l 1024 (fun (j : Nat) => atL l (j : Int)) (fun _ => none) 0).map rK = List.replicate 1024 (.agg [.bool false, .int .i64 0, .int .i64 0]) := by
    rw [fillB_zero, List.map_map]
    exact (List.eq_replicate_iff.mpr ⟨by simp, fun x hx => by simp only [List.mem_map] at hx; obtain ⟨_, _, rfl⟩ := hx; rfl⟩)
  refine W_loopG (ι := Nat) (fun i => ⟨(d22 l :: D.undef :: D.undef :: .h 0 0 0 1024 :: .int .i64 (i:Int) :: D.undef :: D.undef :: D.undef :: D.undef :: D.undef :: D.undef :: D.undef :: D.undef :: D.undef :: D.undef :: D.undef :: D.undef :: D.undef :: D.undef :: D.undef :: D.undef :: D.undef :: D.undef :: D.undef :: D.undef :: D.undef :: D.undef :: D.undef :: D.undef :: D.undef :: D.undef :: D.undef :: D.undef :: D.undef :: D.undef :: D.undef :: D.undef :: D.undef :: D.undef :: D.undef :: D.undef :: D.undef :: D.undef :: D.undef :: D.undef :: []), [.arr 0 3 ((fillB l 1024 (fun (j : Nat) => atL l (j : Int)) (fun _ => none) (unitsX (l.take i)).length).map rK)]⟩) (fun i => l.length - i)
    (fun i => i ≤ l.length) 0 (Ghost.hold [0, 3, 4] (by rw [show (unitsX (l.take 0)).length = 0 from by simp [unitsX], e0]; rfl)) (Nat.zero_le _) ?_
  intro i h1
  refine exec_ok tab_ok mixed 1000 (bx := [false]) (own := []) ?_
  rcases Nat.lt_or_ge i l.length with h | h
  · obtain ⟨x, hx⟩ := at_lt h
    obtain ⟨hm, _⟩ := E.listP_mem hl x (List.mem_of_getElem? hx)
    simp only [mayX, far] at hm
    repeat' ((conv => whnf); first
      | refine Exists.intro _ (And.intro (⟨(List.length_map _).symm⟩) ?_) | refine boolF_dect (by omega) ?_)
    all_goals (conv => whnf)
    refine W_loopG (ι := Nat) (fun k => ⟨(d22 l :: D.undef :: D.undef :: .h 0 0 0 1024 :: .int .i64 (i:Int) :: .int .i64 (k:Int) :: D.undef :: D.undef :: D.undef :: D.undef :: D.undef :: D.undef :: D.undef :: D.undef :: D.undef :: D.undef :: D.undef :: D.undef :: D.undef :: D.undef :: D.undef :: D.undef :: D.undef :: D.undef :: D.undef :: D.undef :: D.undef :: D.undef :: D.undef :: D.undef :: D.undef :: D.undef :: D.undef :: D.undef :: D.undef :: D.undef :: D.undef :: D.undef :: D.undef :: D.undef :: D.undef :: D.undef :: D.undef :: D.undef :: D.undef :: []), [.arr 0 3 ((fillB l 1024 (fun (j : Nat) => atL l (j : Int)) (fun _ => none) ((unitsX (l.take i)).length + k)).map rK)]⟩) (fun k => x.len_.toNat - k)
      (fun k => k ≤ x.len_.toNat) 0 (Ghost.hold [0, 3, 4, 5] rfl) (Nat.zero_le _) ?_
    intro k h2
    refine exec_ok tab_ok mixed 1000 (bx := [false]) (own := []) ?_
    rcases Nat.lt_or_ge k x.len_.toNat with h3 | h3
    · have hu := unitsX_at hx h3
      have hst := fillB_step (n := 1024) (f := fun (j : Nat) => atL l (j : Int)) (g := fun _ => none) hu
      obtain ⟨u1, u2, u3, u4, u5⟩ := unit_at hl hu
      have hfl := fillB_length l 1024 (fun (j : Nat) => atL l (j : Int)) (fun _ => none) ((unitsX (l.take i)).length + k)
      dsimp only at hst u1
      obtain ⟨o, ho⟩ : ∃ o : Nat, x.off_ + (k : Int) = (o : Int) := ⟨(x.off_ + (k : Int)).toNat, by omega⟩
      rw [ho] at hst u1
      simp only [Int.toNat_natCast] at hst u1
      obtain ⟨w0, hw0⟩ := at_lt (l := fillB l 1024 (fun (j : Nat) => atL l (j : Int)) (fun _ => none) ((unitsX (l.take i)).length + k)) (i := o) (by omega)
      have hto : (x.off_ + (k : Int)).toNat = o := by omega
      have fin : AObj.arr 0 3 (((fillB l 1024 (fun (j : Nat) => atL l (j : Int)) (fun _ => none) ((unitsX (l.take i)).length + k)).map rK).set (0 + (x.off_ + (k : Int)).toNat) (rK (some (x.phys_ + (k : Int), x.birth_)))) = AObj.arr 0 3 ((fillB l 1024 (fun (j : Nat) => atL l (j : Int)) (fun _ => none) ((unitsX (l.take i)).length + (k + 1))).map rK) := by
        rw [← Nat.add_assoc, hst, u1, List.map_set, hto, Nat.zero_add]
      rcases w0 with _ | ⟨p0, b0⟩
      · repeat' ((conv => whnf); first
          | refine PairK.mk (by kernel_rfl) ?_ | refine Exists.intro _ (And.intro (map_at (by omega) hx) ?_) | refine Exists.intro _ (And.intro (map_at (by omega) hw0) ?_) | refine And.intro (by decide) ?_ | refine And.intro rfl ?_ | refine And.intro (by omega) ?_ | refine And.intro (by simp only [List.length_map, List.length_append, List.length_cons, List.length_nil]; omega) ?_ | refine Exists.intro _ (And.intro (w64 (by omega) (by omega)) ?_) | refine boolF_dect (by omega) ?_)
        all_goals (conv => whnf)
        exact ⟨k + 1, Ghost.hold [0, 3, 4, 5] (by rw [← fin]; rfl), h3, by omega⟩
      · repeat' ((conv => whnf); first
          | refine PairK.mk (by kernel_rfl) ?_ | refine Exists.intro _ (And.intro (map_at (by omega) hx) ?_) | refine Exists.intro _ (And.intro (map_at (by omega) hw0) ?_) | refine And.intro (by decide) ?_ | refine And.intro rfl ?_ | refine And.intro (by omega) ?_ | refine And.intro (by simp only [List.length_map, List.length_append, List.length_cons, List.length_nil]; omega) ?_ | refine Exists.intro _ (And.intro (w64 (by omega) (by omega)) ?_) | refine boolF_dect (by omega) ?_)
        all_goals (conv => whnf)
        exact ⟨k + 1, Ghost.hold [0, 3, 4, 5] (by rw [← fin]; rfl), h3, by omega⟩
    · have hk : k = x.len_.toNat := by omega
      have e : (unitsX (l.take (i + 1))).length = (unitsX (l.take i)).length + k := by
        rw [unitsX_take hx, List.length_append, hk]
        simp [unitsOf]
      repeat' ((conv => whnf); first
        | refine Exists.intro _ (And.intro (map_at (by omega) hx) ?_) | refine And.intro rfl ?_ | refine And.intro (by omega) ?_ | refine Exists.intro _ (And.intro (w64 (by omega) (by omega)) ?_) | refine boolF_decf (by omega) ?_)
      all_goals (conv => whnf)
      exact ⟨i + 1, Ghost.hold [0, 3, 4] (by rw [e]; rfl), h, by omega⟩
  · have hi : l.take i = l := List.take_of_length_le h
    rw [hi, ← all_fill hl]
    repeat' ((conv => whnf); first
      | refine Exists.intro _ (And.intro (⟨(List.length_map _).symm⟩) ?_) | refine boolF_decf (by omega) ?_)
    all_goals (conv => whnf)
    exact ⟨0, Ghost.hold [0] (by rw [List.length_map, allL_length]; rfl)⟩

end Go.Proofs.Ytlghefbapiocgaa.V


namespace Go.Proofs.Ytlghefbapiocgaa.V
open Go.A
set_option linter.unusedVariables false
set_option linter.unusedSimpArgs false
set_option linter.unnecessarySimpa false
attribute [local irreducible] IntKind.wrap bitsI
open E (atL listP mayX endX far rightP)
set_option maxRecDepth 100000

def showK (o : Option (Int × Int)) (units : List Nat) : Nat := match o with | some (p, _) => at0 units p.toNat | none => 0

theorem f28_ok (o : Option (Int × Int)) (units : List Nat) (ho : ∀ p bi, o = some (p, bi) → 0 ≤ p) (hu : units.length ≤ 140737488351232) : Pure Try.prog 28 [rK o, d23 units] (.int .u64 (showK o units : Nat)) := by
  have hsc : (rK o).sc 0 := by rcases o with _ | ⟨p, b⟩ <;> simp [rK, D.sc, scs]
  refine Pure.of ⟨hsc, scd23 _ _, trivial⟩ trivial ?_
  refine Go.A.CallsIn.of_exec tab_ok mixed Try.func28 rfl rfl [] [] ?_
  rcases o with _ | ⟨p, bi⟩
  · simp only [rK]
    (conv => whnf)
    exact ⟨rfl⟩
  · have hp := ho p bi rfl
    clear ho
    obtain ⟨q, rfl⟩ : ∃ q : Nat, p = (q : Int) := ⟨p.toNat, by omega⟩
    have hlu : (units.map r51).length = units.length := List.length_map _
    simp only [rK]
    rcases Nat.lt_or_ge q units.length with h | h
    · obtain ⟨z, hz⟩ := at_lt h
      repeat' ((conv => whnf); first
        | refine Exists.intro _ (And.intro (map_at (by omega) hz) ?_) | refine And.intro rfl ?_ | refine And.intro (by omega) ?_ | refine Exists.intro _ (And.intro (⟨(List.length_map _).symm⟩) ?_) | refine boolF_dect (by omega) ?_)
      all_goals (conv => whnf)
      refine ⟨?_⟩
      simp [showK, at0, hz, r51, d51]
    · repeat' ((conv => whnf); first
        | refine Exists.intro _ (And.intro (⟨(List.length_map _).symm⟩) ?_) | refine boolF_decf (by omega) ?_)
      all_goals (conv => whnf)
      refine ⟨?_⟩
      simp [showK, at0, h]

theorem showK_at (l : List X) (units : List Nat) (j : Nat) : showK (atL l (j : Int)) units = showB l units j := rfl

theorem viewL_take (l : List X) (n j : Nat) (units : List Nat) (h : j < n) : (List.range (j + 1)).map (showB l units) = (List.range j).map (showB l units) ++ [showB l units j] := by
  rw [List.range_succ, List.map_append]; rfl

theorem fit_iff {l : List X} (hl : listP 0 l) {n : Int} : fitP l n ↔ ∀ j : Nat, j < 1024 → n ≤ (j : Int) → atL l (j : Int) = none := by
  constructor
  · intro hf j hj hn
    cases h : atL l (j : Int) with
    | none => rfl
    | some v =>
      obtain ⟨u, hu, h1, _⟩ := units_has hl (p := v.1) (bi := v.2) h
      obtain ⟨i, hi⟩ := List.getElem?_of_mem hu
      have := units_in hf hi
      omega
  · intro h x hx
    obtain ⟨hm, _⟩ := E.listP_mem hl x hx
    simp only [mayX, far] at hm
    simp only [endX]
    rcases Int.lt_or_le n (x.off_ + x.len_) with hlt | hle
    · exfalso
      have hmem : (⟨x.off_ + ((x.len_.toNat - 1 : Nat) : Int), 1, x.phys_ + ((x.len_.toNat - 1 : Nat) : Int), x.birth_⟩ : X) ∈ unitsX l := by
        simp only [unitsX, List.mem_flatMap, unitsOf, List.mem_map, List.mem_range]
        exact ⟨x, hx, x.len_.toNat - 1, by omega, rfl⟩
      obtain ⟨h1, h2, h3, _⟩ := units_mem hl (Int.le_refl _) _ hmem
      dsimp only at h1 h2 h3
      have := h (x.off_ + ((x.len_.toNat - 1 : Nat) : Int)).toNat (by omega) (by omega)
      rw [show (((x.off_ + ((x.len_.toNat - 1 : Nat) : Int)).toNat : Nat) : Int) = x.off_ + ((x.len_.toNat - 1 : Nat) : Int) by omega, h1] at this
      cases this
    · exact hle

theorem atL_pos {l : List X} (hl : listP 0 l) {j : Nat} {p bi : Int} (h : atL l (j : Int) = some (p, bi)) : 0 ≤ p ∧ 0 ≤ bi ∧ bi ≤ far ∧ p < far := by
  obtain ⟨u, hu, h1, h2, h3⟩ := units_has hl h
  obtain ⟨_, _, _, h4, h5⟩ := units_mem hl (Int.le_refl _) u hu
  simp only [unitsX, List.mem_flatMap, unitsOf, List.mem_map, List.mem_range] at hu
  obtain ⟨x, hx, k, hk, rfl⟩ := hu
  obtain ⟨hm, _⟩ := E.listP_mem hl x hx
  simp only [mayX] at hm
  dsimp only at h2 h3 h4 h5
  omega

theorem f27_ok (l : List X) (hl : listP 0 l) : Pure Try.prog 27 [d22 l] (dK (allL l)) := (f27_own l hl).pure

theorem f10_own (l : List X) (n : Int) (units : List Nat) (hlen : l.length ≤ 140737488351232) (hu : units.length ≤ 140737488351232) : OwnW 10 [d22 l, .int .i64 n, d23 units] (viewM l n units) := by
  refine OwnedR.of ⟨E.sc22 _ _, trivial, scd23 _ _, trivial⟩ (scr51 _ _) (ownW_res _) ?_
  refine Go.A.CallsIn.of_exec tab_ok mixed Try.func10 rfl rfl [] [] ?_
  by_cases hr : rightP l
  · have hl := hr.2.1
    by_cases hn : 0 ≤ n ∧ n ≤ 1024
    · obtain ⟨m, rfl⟩ : ∃ m : Nat, n = (m : Int) := ⟨n.toNat, by omega⟩
      obtain ⟨K, hK⟩ : ∃ K, K = allL l := ⟨_, rfl⟩
      have hKl : K.length = 1024 := by rw [hK, allL_length]
      have hKa : ∀ (j : Nat), j < 1024 → K[j]? = some (atL l (j : Int)) := fun j h => by rw [hK, allL_at l h]
      have hc := f27_ok l hl
      rw [← hK] at hc
      repeat' ((conv => whnf); first
        | refine Pure.call (E.f22_ok l hlen) ?_ | refine Pure.call (hc) ?_ | refine boolF_not ?_ | refine boolF_dect (by assumption) ?_ | refine boolF_decf (by omega) ?_)
      all_goals (conv => whnf)
      refine W_loopG (ι := Nat × Nat) (fun i => ⟨(D.undef :: .int .i64 (m:Int) :: d23 units :: D.undef :: D.undef :: D.undef :: D.undef :: D.undef :: dK K :: .h 0 i.2 0 (min i.1 m) :: .int .i64 (i.1:Int) :: D.undef :: D.undef :: D.undef :: D.undef :: D.undef :: D.undef :: D.undef :: D.undef :: D.undef :: D.undef :: D.undef :: D.undef :: D.undef :: D.undef :: D.undef :: D.undef :: D.undef :: D.undef :: D.undef :: D.undef :: D.undef :: D.undef :: D.undef :: D.undef :: D.undef :: D.undef :: D.undef :: D.undef :: D.undef :: D.undef :: D.undef :: D.undef :: D.undef :: D.undef :: D.undef :: D.undef :: D.undef :: D.undef :: D.undef :: D.undef :: D.undef :: D.undef :: []), [.arr i.2 1 (((List.range (min i.1 m)).map (showB l units)).map r51)]⟩) (fun i => 1024 - i.1)
        (fun i => i.1 ≤ 1024 ∧ ∀ (j : Nat), j < i.1 → m ≤ j → atL l (j : Int) = none) (0, 0) ((Ghost.hold [1, 2, 8, 9, 10] rfl).trans (Ghost.mat (t := 9) (sz := 1) rfl)) ⟨Nat.zero_le _, fun j h => absurd h (Nat.not_lt_zero _)⟩ ?_
      rintro ⟨i, ver⟩ ⟨h1, h2⟩
      dsimp only at h1 h2 ⊢
      refine exec_ok tab_ok mixed 1000 (bx := [false]) (own := []) ?_
      rcases Nat.lt_or_ge i 1024 with h | h
      · have hj := hKa i h
        have hw := fun p bi (h : atL l (i : Int) = some (p, bi)) => (atL_pos hl h).1
        have hsh := showK_at l units i
        rcases Nat.lt_or_ge i m with him | him
        · have e1 : min i m = i := by omega
          have e2 : min (i + 1) m = i + 1 := by omega
          rw [e1]
          generalize hwx : atL l (i : Int) = w at hj hw hsh
          have fin : ∀ j : Nat, j < i + 1 → m ≤ j → atL l (j : Int) = none := fun j hj1 hj2 => absurd hj2 (by omega)
          have hrow : ((List.range (i + 1)).map (showB l units)).map r51 = ((List.range i).map (showB l units) ++ [showK w units]).map r51 := by
            rw [viewL_take l m i units him, hsh]
          rcases w with _ | ⟨p, bi⟩
          · repeat' ((conv => whnf); first
              | refine Exists.intro _ (And.intro (map_at (by omega) hj) ?_) | refine And.intro ((((List.length_map _).trans (List.length_map _)).trans List.length_range).symm) ?_ | refine And.intro (by decide) ?_ | refine And.intro rfl ?_ | refine And.intro (by omega) ?_ | refine And.intro (okRows_one rfl rfl) ?_ | refine Exists.intro _ (And.intro (⟨(List.length_map _).symm⟩) ?_) | refine Exists.intro _ (And.intro (⟨len_one⟩) ?_) | refine Exists.intro _ (And.intro (⟨map_snoc⟩) ?_) | refine Exists.intro _ (And.intro (w64 (by omega) (by omega)) ?_) | refine Pure.call (f28_ok none units hw hu) ?_
              | refine boolF_dect (by omega) ?_ | refine boolF_decf (by omega) ?_)
            all_goals (conv => whnf)
            exact ⟨(i + 1, ver + 1), Ghost.hold [1, 2, 8, 9, 10] (by dsimp only; rw [e2, hrow]; rfl), ⟨by dsimp only; omega, fin⟩, by dsimp only; omega⟩
          · repeat' ((conv => whnf); first
              | refine Exists.intro _ (And.intro (map_at (by omega) hj) ?_) | refine And.intro ((((List.length_map _).trans (List.length_map _)).trans List.length_range).symm) ?_ | refine And.intro (by decide) ?_ | refine And.intro rfl ?_ | refine And.intro (by omega) ?_ | refine And.intro (okRows_one rfl rfl) ?_ | refine Exists.intro _ (And.intro (⟨(List.length_map _).symm⟩) ?_) | refine Exists.intro _ (And.intro (⟨len_one⟩) ?_) | refine Exists.intro _ (And.intro (⟨map_snoc⟩) ?_) | refine Exists.intro _ (And.intro (w64 (by omega) (by omega)) ?_) | refine Pure.call (f28_ok (some (p, bi)) units hw hu) ?_
              | refine boolF_dect (by omega) ?_ | refine boolF_decf (by omega) ?_)
            all_goals (conv => whnf)
            exact ⟨(i + 1, ver + 1), Ghost.hold [1, 2, 8, 9, 10] (by dsimp only; rw [e2, hrow]; rfl), ⟨by dsimp only; omega, fin⟩, by dsimp only; omega⟩
        · have e1 : min i m = m := by omega
          have e2 : min (i + 1) m = m := by omega
          rw [e1]
          cases hat : atL l (i : Int) with
          | none =>
            rw [hat] at hj
            repeat' ((conv => whnf); first
              | refine Exists.intro _ (And.intro (map_at (by omega) hj) ?_) | refine And.intro (by decide) ?_ | refine And.intro (by omega) ?_ | refine Exists.intro _ (And.intro (⟨(List.length_map _).symm⟩) ?_) | refine Exists.intro _ (And.intro (w64 (by omega) (by omega)) ?_) | refine boolF_dect (by omega) ?_ | refine boolF_decf (by omega) ?_)
            all_goals (conv => whnf)
            refine ⟨(i + 1, ver), Ghost.hold [1, 2, 8, 9, 10] (by dsimp only; rw [e2]; rfl), ⟨by dsimp only; omega, fun j hj1 hj2 => ?_⟩, by dsimp only; omega⟩
            dsimp only at hj1
            rcases Nat.lt_or_ge j i with h3 | h3
            · exact h2 j h3 hj2
            · obtain rfl : j = i := by omega
              exact hat
          | some v =>
            have hnf : ¬ fitP l (m : Int) := fun hf => by
              have := (fit_iff hl).mp hf i h (by omega)
              rw [hat] at this; cases this
            rw [hat] at hj
            obtain ⟨p, bi⟩ := v
            rw [viewM, if_neg (fun h => hnf h.2.2.2)]
            repeat' ((conv => whnf); first
              | refine Exists.intro _ (And.intro (map_at (by omega) hj) ?_) | refine And.intro rfl ?_ | refine And.intro (by omega) ?_ | refine Exists.intro _ (And.intro (⟨(List.length_map _).symm⟩) ?_) | refine boolF_dect (by omega) ?_)
            all_goals (conv => whnf)
            exact ⟨ownW_err 1 _⟩
      · have hf : fitP l (m : Int) := (fit_iff hl).mpr fun j hj hm => h2 j (by omega) (by omega)
        have e1 : min i m = m := by omega
        rw [viewM, if_pos ⟨hr, by omega, by omega, hf⟩, e1]
        repeat' ((conv => whnf); first
          | refine Exists.intro _ (And.intro (⟨(List.length_map _).symm⟩) ?_) | refine boolF_decf (by omega) ?_)
        all_goals (conv => whnf)
        exact ⟨ownW_ok 0 _ 0 ver m _ (by simp [viewL]) rfl⟩
    · rw [viewM, if_neg (fun h => hn ⟨h.2.1, h.2.2.1⟩)]
      by_cases h1 : n < 0
      · repeat' ((conv => whnf); first
          | refine Pure.call (E.f22_ok l hlen) ?_ | refine boolF_not ?_ | refine boolF_dect (by assumption) ?_)
        all_goals (conv => whnf)
        exact ⟨ownW_err 1 _⟩
      · repeat' ((conv => whnf); first
          | refine Pure.call (E.f22_ok l hlen) ?_ | refine boolF_not ?_ | refine boolF_dect (by assumption) ?_ | refine boolF_decf (by assumption) ?_ | refine boolF_dect (by omega) ?_)
        all_goals (conv => whnf)
        exact ⟨ownW_err 1 _⟩
  · rw [viewM, if_neg (fun h => hr h.1)]
    repeat' ((conv => whnf); first
      | refine Pure.call (E.f22_ok l hlen) ?_ | refine boolF_not ?_ | refine boolF_decf (by assumption) ?_)
    all_goals (conv => whnf)
    exact ⟨ownW_err 1 _⟩

end Go.Proofs.Ytlghefbapiocgaa.V


namespace Go.Proofs.Ytlghefbapiocgaa.V
open Go.A
set_option linter.unusedVariables false
set_option linter.unusedSimpArgs false
set_option linter.unnecessarySimpa false
attribute [local irreducible] IntKind.wrap bitsI
open E (atL listP mayX endX far rightP)
set_option maxRecDepth 100000

def fillN (n : Nat) (f : Nat → Bool) (i : Nat) : List Bool := (List.range n).map fun j => if j < i then f j else false
theorem fillN_length (n : Nat) (f : Nat → Bool) (i : Nat) : (fillN n f i).length = n := by simp [fillN]
theorem fillN_zero (n : Nat) (f : Nat → Bool) : fillN n f 0 = List.replicate n false := by
  simp only [fillN, Nat.not_lt_zero, if_false]
  exact (List.eq_replicate_iff.mpr ⟨by simp, fun x hx => by simp only [List.mem_map] at hx; obtain ⟨_, _, rfl⟩ := hx; rfl⟩)
theorem fillN_step (n : Nat) (f : Nat → Bool) (i : Nat) : fillN n f (i + 1) = (fillN n f i).set i (f i) := by
  apply List.ext_getElem?
  intro b
  rw [List.getElem?_set]
  simp only [fillN, List.getElem?_map, List.length_map, List.length_range]
  by_cases hb : b < n
  · rw [List.getElem?_range hb]
    simp only [Option.map_some]
    by_cases he : i = b
    · subst he; simp [hb]
    · have : (b < i + 1) = (b < i) := by apply propext; omega
      simp [he, this]
  · have : (List.range n)[b]? = none := by rw [List.getElem?_eq_none_iff]; simp; omega
    rw [this]
    by_cases he : i = b
    · subst he; simp [hb]
    · simp [he]
theorem fillN_all (n : Nat) (f : Nat → Bool) : fillN n f n = (List.range n).map f := by
  apply List.map_congr_left
  intro j hj
  rw [if_pos (List.mem_range.mp hj)]

def badB (a b : List X) (gen : Int) (j : Nat) : Bool := match atL b (j : Int) with
  | some (p, bi) => decide (bi ≤ gen) && (match atL a (j : Int) with | some (q, _) => decide (q ≠ p) | none => true)
  | none => false

theorem bad_iff {a b : List X} (hb : listP 0 b) (gen : Int) : (∀ u ∈ unitsX b, badU a gen u = false) ↔ ∀ j : Nat, j < 1024 → badB a b gen j = false := by
  constructor
  · intro h j _
    unfold badB
    cases hat : atL b (j : Int) with
    | none => rfl
    | some v =>
      obtain ⟨p, bi⟩ := v
      obtain ⟨u, hu, h1, h2, h3⟩ := units_has hb hat
      have := h u hu
      unfold badU at this
      rw [h1, h2, h3] at this
      exact this
  · intro h u hu
    obtain ⟨h1, h2, h3, _⟩ := units_mem hb (Int.le_refl _) u hu
    have := h u.off_.toNat (by omega)
    unfold badB at this
    rw [show ((u.off_.toNat : Nat) : Int) = u.off_ by omega, h1] at this
    exact this

theorem f18_ok (a b : List X) (gen : Int) (ha : a.length ≤ 140737488351232) (hb : b.length ≤ 140737488351232) : Pure Try.prog 18 [d22 a, d22 b, .int .i64 gen] (.bool (decide (grownP a b gen))) := by
  refine Pure.of ⟨E.sc22 _ _, E.sc22 _ _, trivial, trivial⟩ trivial ?_
  refine Go.A.CallsIn.of_exec tab_ok mixed Try.func18 rfl rfl [] [] ?_
  by_cases hra : rightP a
  · by_cases hrb : rightP b
    · have hla := hra.2.1
      have hlb := hrb.2.1
      obtain ⟨K, hK⟩ : ∃ K, K = allL a := ⟨_, rfl⟩
      have hKl : K.length = 1024 := by rw [hK, allL_length]
      have hKa : ∀ (j : Nat), j < 1024 → K[j]? = some (atL a (j : Int)) := fun j h => by rw [hK, allL_at a h]
      have hca := f27_ok a hla
      rw [← hK] at hca
      obtain ⟨M, hM⟩ : ∃ M, M = allL b := ⟨_, rfl⟩
      have hMl : M.length = 1024 := by rw [hM, allL_length]
      have hMa : ∀ (j : Nat), j < 1024 → M[j]? = some (atL b (j : Int)) := fun j h => by rw [hM, allL_at b h]
      have hcb := f27_ok b hlb
      rw [← hM] at hcb
      repeat' ((conv => whnf); first
        | refine Pure.call (E.f22_ok a ha) ?_ | refine Pure.call (E.f22_ok b hb) ?_ | refine Pure.call (hca) ?_ | refine Pure.call (hcb) ?_ | refine boolF_not ?_ | refine boolF_dect (by assumption) ?_)
      all_goals (conv => whnf)
      refine W_loopG (ι := Nat) (fun i => ⟨(D.undef :: D.undef :: .int .i64 gen :: D.undef :: D.undef :: D.undef :: D.undef :: dK K :: dK M :: .int .i64 (i:Int) :: D.undef :: D.undef :: D.undef :: D.undef :: D.undef :: D.undef :: D.undef :: D.undef :: D.undef :: D.undef :: D.undef :: D.undef :: D.undef :: D.undef :: D.undef :: D.undef :: D.undef :: D.undef :: D.undef :: D.undef :: D.undef :: D.undef :: D.undef :: D.undef :: D.undef :: D.undef :: D.undef :: D.undef :: D.undef :: D.undef :: D.undef :: D.undef :: D.undef :: D.undef :: D.undef :: D.undef :: D.undef :: D.undef :: D.undef :: D.undef :: D.undef :: D.undef :: D.undef :: D.undef :: D.undef :: D.undef :: D.undef :: D.undef :: D.undef :: D.undef :: D.undef :: D.undef :: D.undef :: []), []⟩) (fun i => 1024 - i)
        (fun i => i ≤ 1024 ∧ ∀ (j : Nat), j < i → badB a b gen j = false) 0 (Ghost.hold [2, 7, 8, 9] rfl) ⟨Nat.zero_le _, fun j h => absurd h (Nat.not_lt_zero _)⟩ ?_
      rintro i ⟨h1, h2⟩
      refine exec_ok tab_ok mixed 1000 (bx := []) (own := []) ?_
      rcases Nat.lt_or_ge i 1024 with h | h
      · have hj := hKa i h
        have hk := hMa i h
        have hnext : badB a b gen i = false → ∀ (j : Nat), j < i + 1 → badB a b gen j = false := fun hb j hj => by
          rcases Nat.lt_or_ge j i with h3 | h3
          · exact h2 j h3
          · obtain rfl : j = i := by omega
            exact hb
        have hstop : badB a b gen i = true → ¬ grownP a b gen := fun hb hg => by
          have := (bad_iff hlb gen).mp hg.2.2 i h
          rw [hb] at this; cases this
        unfold badB at hnext hstop
        generalize atL a (i : Int) = x at hj hnext hstop
        generalize atL b (i : Int) = y at hk hnext hstop
        rcases y with _ | ⟨p, bi⟩
        · rcases x with _ | ⟨q, ci⟩
          · repeat' ((conv => whnf); first
              | refine PairK.mk (by kernel_rfl) ?_ | refine Exists.intro _ (And.intro (map_at (by omega) hk) ?_) | refine And.intro (by decide) ?_ | refine And.intro (by omega) ?_ | refine Exists.intro _ (And.intro (⟨(List.length_map _).symm⟩) ?_) | refine Exists.intro _ (And.intro (w64 (by omega) (by omega)) ?_) | refine boolF_dect (by omega) ?_)
            all_goals (conv => whnf)
            exact ⟨i + 1, Ghost.hold [2, 7, 8, 9] rfl, ⟨h, hnext rfl⟩, by omega⟩
          · repeat' ((conv => whnf); first
              | refine PairK.mk (by kernel_rfl) ?_ | refine Exists.intro _ (And.intro (map_at (by omega) hk) ?_) | refine And.intro (by decide) ?_ | refine And.intro (by omega) ?_ | refine Exists.intro _ (And.intro (⟨(List.length_map _).symm⟩) ?_) | refine Exists.intro _ (And.intro (w64 (by omega) (by omega)) ?_) | refine boolF_dect (by omega) ?_)
            all_goals (conv => whnf)
            exact ⟨i + 1, Ghost.hold [2, 7, 8, 9] rfl, ⟨h, hnext rfl⟩, by omega⟩
        · by_cases hg : bi ≤ gen
          · rcases x with _ | ⟨q, ci⟩
            · repeat' ((conv => whnf); first
                | refine PairK.mk (by kernel_rfl) ?_ | refine Exists.intro _ (And.intro (map_at (by omega) hj) ?_) | refine Exists.intro _ (And.intro (map_at (by omega) hk) ?_) | refine And.intro (by decide) ?_ | refine And.intro rfl ?_ | refine And.intro (by omega) ?_ | refine Exists.intro _ (And.intro (⟨(List.length_map _).symm⟩) ?_) | refine boolF_dect (by assumption) ?_ | refine boolF_dect (by omega) ?_)
              all_goals (conv => whnf)
              exact ⟨bool_f (hstop (by simp [hg]))⟩
            · by_cases hq : q = p
              · repeat' ((conv => whnf); first
                  | refine PairK.mk (by kernel_rfl) ?_ | refine Exists.intro _ (And.intro (map_at (by omega) hj) ?_) | refine Exists.intro _ (And.intro (map_at (by omega) hk) ?_) | refine And.intro rfl ?_ | refine And.intro (by omega) ?_ | refine Exists.intro _ (And.intro (⟨(List.length_map _).symm⟩) ?_) | refine Exists.intro _ (And.intro (w64 (by omega) (by omega)) ?_) | refine boolF_not ?_ | refine boolF_dect (by assumption) ?_ | refine boolF_dect (by omega) ?_)
                all_goals (conv => whnf)
                exact ⟨i + 1, Ghost.hold [2, 7, 8, 9] rfl, ⟨h, hnext (by simp [hq])⟩, by omega⟩
              · repeat' ((conv => whnf); first
                  | refine PairK.mk (by kernel_rfl) ?_ | refine Exists.intro _ (And.intro (map_at (by omega) hj) ?_) | refine Exists.intro _ (And.intro (map_at (by omega) hk) ?_) | refine And.intro rfl ?_ | refine And.intro (by omega) ?_ | refine Exists.intro _ (And.intro (⟨(List.length_map _).symm⟩) ?_) | refine boolF_not ?_ | refine boolF_dect (by assumption) ?_ | refine boolF_decf (by assumption) ?_ | refine boolF_dect (by omega) ?_)
                all_goals (conv => whnf)
                exact ⟨bool_f (hstop (by simp [hg, hq]))⟩
          · rcases x with _ | ⟨q, ci⟩
            · repeat' ((conv => whnf); first
                | refine PairK.mk (by kernel_rfl) ?_ | refine Exists.intro _ (And.intro (map_at (by omega) hk) ?_) | refine And.intro rfl ?_ | refine And.intro (by omega) ?_ | refine Exists.intro _ (And.intro (⟨(List.length_map _).symm⟩) ?_) | refine Exists.intro _ (And.intro (w64 (by omega) (by omega)) ?_) | refine boolF_decf (by assumption) ?_ | refine boolF_dect (by omega) ?_)
              all_goals (conv => whnf)
              exact ⟨i + 1, Ghost.hold [2, 7, 8, 9] rfl, ⟨h, hnext (by simp [hg])⟩, by omega⟩
            · repeat' ((conv => whnf); first
                | refine PairK.mk (by kernel_rfl) ?_ | refine Exists.intro _ (And.intro (map_at (by omega) hk) ?_) | refine And.intro rfl ?_ | refine And.intro (by omega) ?_ | refine Exists.intro _ (And.intro (⟨(List.length_map _).symm⟩) ?_) | refine Exists.intro _ (And.intro (w64 (by omega) (by omega)) ?_) | refine boolF_decf (by assumption) ?_ | refine boolF_dect (by omega) ?_)
              all_goals (conv => whnf)
              exact ⟨i + 1, Ghost.hold [2, 7, 8, 9] rfl, ⟨h, hnext (by simp [hg])⟩, by omega⟩
      · repeat' ((conv => whnf); first
          | refine Exists.intro _ (And.intro (⟨(List.length_map _).symm⟩) ?_) | refine boolF_decf (by omega) ?_)
        all_goals (conv => whnf)
        exact ⟨bool_t ⟨hra, hrb, (bad_iff hlb gen).mpr fun j hj => h2 j (by omega)⟩⟩
    · repeat' ((conv => whnf); first
        | refine Pure.call (E.f22_ok a ha) ?_ | refine Pure.call (E.f22_ok b hb) ?_ | refine boolF_not ?_ | refine boolF_dect (by assumption) ?_ | refine boolF_decf (by assumption) ?_)
      all_goals (conv => whnf)
      exact ⟨bool_f (fun h => hrb h.2.1)⟩
  · repeat' ((conv => whnf); first
      | refine Pure.call (E.f22_ok a ha) ?_ | refine boolF_not ?_ | refine boolF_decf (by assumption) ?_)
    all_goals (conv => whnf)
    exact ⟨bool_f (fun h => hra h.1)⟩

theorem f30_own (a b : List X) (gen : Int) (hla : listP 0 a) (hlb : listP 0 b) : Owned Try.prog 30 [d22 a, d22 b, .int .i64 gen] 1 ((youngL a b gen).map rB) := by
  refine Owned.of ⟨E.sc22 _ _, E.sc22 _ _, trivial, trivial⟩ (scrB _ _) ?_
  refine Go.A.CallsIn.of_exec tab_ok mixed Try.func30 rfl rfl [] [] ?_
  obtain ⟨K, hK⟩ : ∃ K, K = allL a := ⟨_, rfl⟩
  have hKl : K.length = 1024 := by rw [hK, allL_length]
  have hKa : ∀ (j : Nat), j < 1024 → K[j]? = some (atL a (j : Int)) := fun j h => by rw [hK, allL_at a h]
  have hca := f27_ok a hla
  rw [← hK] at hca
  obtain ⟨M, hM⟩ : ∃ M, M = allL b := ⟨_, rfl⟩
  have hMl : M.length = 1024 := by rw [hM, allL_length]
  have hMa : ∀ (j : Nat), j < 1024 → M[j]? = some (atL b (j : Int)) := fun j h => by rw [hM, allL_at b h]
  have hcb := f27_ok b hlb
  rw [← hM] at hcb
  repeat' ((conv => whnf); first
    | refine And.intro (by decide) ?_ | refine Pure.call (hca) ?_ | refine Pure.call (hcb) ?_)
  all_goals (conv => whnf)
  refine W_loopG (ι := Nat) (fun i => ⟨(D.undef :: D.undef :: .int .i64 gen :: D.undef :: D.undef :: D.undef :: D.undef :: dK K :: dK M :: .h 0 0 0 1024 :: .int .i64 (i:Int) :: D.undef :: D.undef :: D.undef :: D.undef :: D.undef :: D.undef :: D.undef :: D.undef :: D.undef :: D.undef :: D.undef :: D.undef :: D.undef :: D.undef :: D.undef :: D.undef :: D.undef :: D.undef :: D.undef :: D.undef :: D.undef :: D.undef :: D.undef :: D.undef :: D.undef :: D.undef :: D.undef :: D.undef :: D.undef :: D.undef :: D.undef :: D.undef :: D.undef :: D.undef :: D.undef :: D.undef :: D.undef :: D.undef :: D.undef :: D.undef :: D.undef :: D.undef :: D.undef :: D.undef :: []), [.arr 0 1 ((fillN 1024 (youngB a b gen) i).map rB)]⟩) (fun i => 1024 - i)
    (fun i => i ≤ 1024) 0 (Ghost.hold [2, 7, 8, 9, 10] (by rw [fillN_zero, List.map_replicate]; rfl)) (Nat.zero_le _) ?_
  intro i h1
  refine exec_ok tab_ok mixed 1000 (bx := [false]) (own := []) ?_
  rcases Nat.lt_or_ge i 1024 with h | h
  · have hj := hKa i h
    have hk := hMa i h
    have hst := fillN_step 1024 (youngB a b gen) i
    have hfl := fillN_length 1024 (youngB a b gen) i
    obtain ⟨w0, hw0⟩ := at_lt (l := fillN 1024 (youngB a b gen) i) (i := i) (by omega)
    have hyb : youngB a b gen i = (match atL b (i : Int) with | some (_, bi) => decide (gen < bi) | none => (atL a (i : Int)).isSome) := by
      unfold youngB gtB
      cases atL b (i : Int) <;> rfl
    generalize atL a (i : Int) = x at hj hyb
    generalize atL b (i : Int) = y at hk hyb
    have fin : ∀ v : Bool, youngB a b gen i = v → (fillN 1024 (youngB a b gen) (i + 1)).map rB = ((fillN 1024 (youngB a b gen) i).map rB).set (0 + i) (.bool v) := fun v hv => by
      rw [hst, hv, List.map_set, Nat.zero_add]; rfl
    rcases y with _ | ⟨p, bi⟩
    · rcases x with _ | ⟨q, ci⟩
      · repeat' ((conv => whnf); first
          | refine Exists.intro _ (And.intro (map_at (by omega) hj) ?_) | refine Exists.intro _ (And.intro (map_at (by omega) hk) ?_) | refine Exists.intro _ (And.intro (map_at (by omega) hw0) ?_) | refine And.intro (by decide) ?_ | refine And.intro (by omega) ?_ | refine And.intro (by simp only [List.length_map, List.length_append, List.length_cons, List.length_nil]; omega) ?_ | refine Exists.intro _ (And.intro (⟨(List.length_map _).symm⟩) ?_) | refine Exists.intro _ (And.intro (w64 (by omega) (by omega)) ?_) | refine boolF_dect (by omega) ?_)
        all_goals (conv => whnf)
        exact ⟨i + 1, Ghost.hold [2, 7, 8, 9, 10] (by rw [fin false hyb]; rfl), h, by omega⟩
      · repeat' ((conv => whnf); first
          | refine Exists.intro _ (And.intro (map_at (by omega) hj) ?_) | refine Exists.intro _ (And.intro (map_at (by omega) hk) ?_) | refine Exists.intro _ (And.intro (map_at (by omega) hw0) ?_) | refine And.intro (by decide) ?_ | refine And.intro rfl ?_ | refine And.intro (by omega) ?_ | refine And.intro (by simp only [List.length_map, List.length_append, List.length_cons, List.length_nil]; omega) ?_ | refine Exists.intro _ (And.intro (⟨(List.length_map _).symm⟩) ?_) | refine Exists.intro _ (And.intro (w64 (by omega) (by omega)) ?_) | refine boolF_dect (by omega) ?_)
        all_goals (conv => whnf)
        exact ⟨i + 1, Ghost.hold [2, 7, 8, 9, 10] (by rw [fin true hyb]; rfl), h, by omega⟩
    · by_cases hg : gen < bi
      · rcases x with _ | ⟨q, ci⟩
        · repeat' ((conv => whnf); first
            | refine Exists.intro _ (And.intro (map_at (by omega) hk) ?_) | refine Exists.intro _ (And.intro (map_at (by omega) hw0) ?_) | refine And.intro (by decide) ?_ | refine And.intro rfl ?_ | refine And.intro (by omega) ?_ | refine And.intro (by simp only [List.length_map, List.length_append, List.length_cons, List.length_nil]; omega) ?_ | refine Exists.intro _ (And.intro (⟨(List.length_map _).symm⟩) ?_) | refine Exists.intro _ (And.intro (w64 (by omega) (by omega)) ?_) | refine boolF_dect (by assumption) ?_ | refine boolF_dect (by omega) ?_)
          all_goals (conv => whnf)
          exact ⟨i + 1, Ghost.hold [2, 7, 8, 9, 10] (by rw [fin true (by rw [hyb]; simp [hg])]; rfl), h, by omega⟩
        · repeat' ((conv => whnf); first
            | refine Exists.intro _ (And.intro (map_at (by omega) hk) ?_) | refine Exists.intro _ (And.intro (map_at (by omega) hw0) ?_) | refine And.intro (by decide) ?_ | refine And.intro rfl ?_ | refine And.intro (by omega) ?_ | refine And.intro (by simp only [List.length_map, List.length_append, List.length_cons, List.length_nil]; omega) ?_ | refine Exists.intro _ (And.intro (⟨(List.length_map _).symm⟩) ?_) | refine Exists.intro _ (And.intro (w64 (by omega) (by omega)) ?_) | refine boolF_dect (by assumption) ?_ | refine boolF_dect (by omega) ?_)
          all_goals (conv => whnf)
          exact ⟨i + 1, Ghost.hold [2, 7, 8, 9, 10] (by rw [fin true (by rw [hyb]; simp [hg])]; rfl), h, by omega⟩
      · rcases x with _ | ⟨q, ci⟩
        · repeat' ((conv => whnf); first
            | refine Exists.intro _ (And.intro (map_at (by omega) hj) ?_) | refine Exists.intro _ (And.intro (map_at (by omega) hk) ?_) | refine Exists.intro _ (And.intro (map_at (by omega) hw0) ?_) | refine And.intro (by decide) ?_ | refine And.intro rfl ?_ | refine And.intro (by omega) ?_ | refine And.intro (by simp only [List.length_map, List.length_append, List.length_cons, List.length_nil]; omega) ?_ | refine Exists.intro _ (And.intro (⟨(List.length_map _).symm⟩) ?_) | refine Exists.intro _ (And.intro (w64 (by omega) (by omega)) ?_) | refine boolF_decf (by assumption) ?_
            | refine boolF_dect (by omega) ?_)
          all_goals (conv => whnf)
          exact ⟨i + 1, Ghost.hold [2, 7, 8, 9, 10] (by rw [fin false (by rw [hyb]; simp [hg])]; rfl), h, by omega⟩
        · repeat' ((conv => whnf); first
            | refine Exists.intro _ (And.intro (map_at (by omega) hj) ?_) | refine Exists.intro _ (And.intro (map_at (by omega) hk) ?_) | refine Exists.intro _ (And.intro (map_at (by omega) hw0) ?_) | refine And.intro (by decide) ?_ | refine And.intro rfl ?_ | refine And.intro (by omega) ?_ | refine And.intro (by simp only [List.length_map, List.length_append, List.length_cons, List.length_nil]; omega) ?_ | refine Exists.intro _ (And.intro (⟨(List.length_map _).symm⟩) ?_) | refine Exists.intro _ (And.intro (w64 (by omega) (by omega)) ?_) | refine boolF_decf (by assumption) ?_
            | refine boolF_dect (by omega) ?_)
          all_goals (conv => whnf)
          exact ⟨i + 1, Ghost.hold [2, 7, 8, 9, 10] (by rw [fin false (by rw [hyb]; simp [hg])]; rfl), h, by omega⟩
  · have hi : i = 1024 := by omega
    rw [hi, fillN_all]
    repeat' ((conv => whnf); first
      | refine Exists.intro _ (And.intro (⟨(List.length_map _).symm⟩) ?_) | refine boolF_decf (by omega) ?_)
    all_goals (conv => whnf)
    exact ⟨0, Ghost.hold [0] (by rw [List.length_map, show (youngL a b gen).length = 1024 from by simp [youngL]]; rfl)⟩

end Go.Proofs.Ytlghefbapiocgaa.V


namespace Go.Proofs.Ytlghefbapiocgaa.V
open Go.A
set_option linter.unusedVariables false
set_option linter.unusedSimpArgs false
set_option linter.unnecessarySimpa false
attribute [local irreducible] IntKind.wrap bitsI
open E (atL listP mayX endX far rightP)
set_option maxRecDepth 100000

abbrev Pc := T49
def bump (l : List Pc) (e : Int) : List Pc := match l[l.length - 1]? with | some y => l.set (l.length - 1) ⟨y.from_, e, y.node_⟩ | none => l
def opn (t : Nat → Bool) (i : Nat) : Bool := if i = 0 then false else t (i - 1)
/-- The runs of what is told true. -/
def pcs (t : Nat → Bool) : Nat → List Pc
  | 0 => []
  | i + 1 => if t i then (if opn t i then bump (pcs t i) ((i : Int) + 1) else pcs t i ++ [⟨i, (i : Int) + 1, 0⟩]) else pcs t i

theorem bump_len (l : List Pc) (e : Int) : (bump l e).length = l.length := by unfold bump; split <;> simp
theorem bump_at {l : List Pc} {y : Pc} (h : l[l.length - 1]? = some y) (e : Int) : bump l e = l.set (l.length - 1) ⟨y.from_, e, y.node_⟩ := by unfold bump; rw [h]
theorem pcs_len (t : Nat → Bool) : ∀ i, (pcs t i).length ≤ i
  | 0 => Nat.le_refl _
  | i + 1 => by
    have := pcs_len t i
    rw [pcs]
    split
    · split
      · rw [bump_len]; omega
      · rw [List.length_append]; simp; omega
    · omega
theorem pcs_last (t : Nat → Bool) : ∀ i, opn t i = true → ∃ y, (pcs t i)[(pcs t i).length - 1]? = some y ∧ y.to_ = (i : Int) ∧ 0 < (pcs t i).length
  | 0, h => by simp [opn] at h
  | i + 1, h => by
    have ht : t i = true := by simpa [opn] using h
    rw [pcs, if_pos ht]
    by_cases ho : opn t i = true
    · obtain ⟨y, h1, h2, h3⟩ := pcs_last t i ho
      rw [if_pos ho, bump_at h1]
      refine ⟨⟨y.from_, (i : Int) + 1, y.node_⟩, ?_, by dsimp only; omega, by rw [List.length_set]; exact h3⟩
      rw [List.length_set, List.getElem?_set_self (by omega)]
    · rw [if_neg ho]
      refine ⟨⟨i, (i : Int) + 1, 0⟩, by simp, by dsimp only; omega, by simp⟩
theorem pcs_congr {t t' : Nat → Bool} : ∀ {n : Nat}, (∀ j, j < n → t j = t' j) → pcs t n = pcs t' n
  | 0, _ => rfl
  | n + 1, h => by
    have ih := pcs_congr (n := n) fun j hj => h j (by omega)
    have ho : opn t n = opn t' n := by
      unfold opn
      split
      · rfl
      · exact h _ (by omega)
    rw [pcs, pcs, ih, h n (by omega), ho]

theorem sc50 (k : Nat) (x : Pc) : (d50 x).sc k := by simp [d50, c50, D.sc, d3, scs]
theorem scr50 (k : Nat) (l : List Pc) : scs k (l.map r50) := by rw [scs_map]; intro x _; exact sc50 k x
theorem scd34 (k : Nat) (l : List Pc) : (d34 l).sc k := scr50 k l

def ownP (p : List Pc × Int) (o ver : Nat) : D := .tup [.h o ver 0 p.1.length, .int .i64 p.2]
def OwnP (f : FuncId) (args : List D) (p : List Pc × Int) : Prop := OwnedR Try.prog f args (ownP p) 3 (p.1.map r50)
theorem ownP_res (p : List Pc × Int) : ∀ (ρ : Nat → Nat) (v : Nat), ren ρ (ownP p 0 v) = ownP p (ρ 0) v := fun _ _ => rfl
theorem ownP_err (e : Int) (H : List AObj) : ∃ ver, Ghost 0 [.tup [.nils, .int .i64 e]] H [ownP ([], e) 0 ver] [.arr ver 3 (([] : List Pc).map r50)] := by
  refine ⟨0, (Ghost.matD (sz := 3) (s' := [.tup [.h H.length 0 0 0, .int .i64 e]]) (.cons (.tup (.cons .nil (.cons .refl .nil))) .nil)).trans ?_⟩
  refine Ghost.pick [H.length] (by simp) rfl (fun i o ob' h1 h2 => ?_) rfl ⟨⟨Nat.zero_lt_one, trivial, trivial⟩, trivial⟩ (fun ob hob => by simp at hob; subst hob; trivial)
  cases i with
  | zero => simp at h1 h2; subst h1 h2; simp [renO, renL]
  | succ i => simp at h1
theorem ownP_ok (e : Int) (l : List Pc) (k w n : Nat) (H : List AObj) (hn : n = l.length) (hk : H[k]? = some (.arr w 3 (l.map r50))) : ∃ ver, Ghost 0 [.tup [.h k w 0 n, .int .i64 e]] H [ownP (l, e) 0 ver] [.arr ver 3 (l.map r50)] := by
  subst hn
  refine ⟨w, Ghost.pick [k] (by simp) rfl (fun i o ob' h1 h2 => ?_) rfl ⟨⟨Nat.zero_lt_one, trivial, trivial⟩, trivial⟩ (fun ob hob => by simp at hob; subst hob; exact scr50 _ _)⟩
  cases i with
  | zero => simp at h1 h2; subst h1 h2; simp only [renO]; rw [renL_sc0 _ _ (scr50 _ _)]; exact hk
  | succ i => simp at h1
theorem OwnP.pure {f : FuncId} {args : List D} {p : List Pc × Int} (h : OwnP f args p) : Pure Try.prog f args (.tup [d34 p.1, .int .i64 p.2]) :=
  OwnedR.pure h ⟨scd34 _ _, trivial, trivial⟩ (fun ver => .tup (.cons (.h (all_take rfl)) (.cons (.refl _) .nil)))
theorem scdB (k : Nat) (l : List Bool) : (dB l).sc k := scrB k l
theorem OwnB.pure {f : FuncId} {args : List D} {p : List Bool × Int} (h : OwnB f args p) : Pure Try.prog f args (.tup [dB p.1, .int .i64 p.2]) :=
  OwnedR.pure h ⟨scdB _ _, trivial, trivial⟩ (fun ver => .tup (.cons (.h (all_take rfl)) (.cons (.refl _) .nil)))

def piecesM (a b : List X) (gen : Int) : List Pc × Int := (pcs (atB (youngM a b gen).1) (youngM a b gen).1.length, (youngM a b gen).2)

theorem youngM_len (a b : List X) (gen : Int) : (youngM a b gen).1.length ≤ 1024 := by
  unfold youngM
  split <;> simp [youngL]

theorem atB_at {l : List Bool} {j : Nat} {v : Bool} (h : l[j]? = some v) : atB l j = v := by simp [atB, h]

theorem snoc_row (Q : List Pc) (d : D) : (Q.map r50 ++ [d])[0 + (((Q.length + 1 : Nat) : Int) - 1).toNat]? = some d := by
  have : 0 + (((Q.length + 1 : Nat) : Int) - 1).toNat = (Q.map r50).length := by rw [List.length_map]; omega
  rw [this, List.getElem?_append_right (Nat.le_refl _)]
  simp
theorem snoc_set (Q : List Pc) (d d' : D) (bb : Bool) : setRow bb (Q.map r50 ++ [d]) (0 + (((Q.length + 1 : Nat) : Int) - 1).toNat) d' = Q.map r50 ++ [d'] := by
  have : 0 + (((Q.length + 1 : Nat) : Int) - 1).toNat = (Q.map r50).length := by rw [List.length_map]; omega
  rw [setRow_eq, this, List.set_append_right _ _ (Nat.le_refl _)]
  simp

theorem f13_own (a b : List X) (gen : Int) (ha : a.length ≤ 140737488351232) (hb : b.length ≤ 140737488351232) : OwnP 13 [d22 a, d22 b, .int .i64 gen] (piecesM a b gen) := by
  refine OwnedR.of ⟨E.sc22 _ _, E.sc22 _ _, trivial, trivial⟩ (scr50 _ _) (ownP_res _) ?_
  refine Go.A.CallsIn.of_exec tab_ok mixed Try.func13 rfl rfl [] [] ?_
  have hc := (f29_own a b gen ha hb).pure
  have hlen := youngM_len a b gen
  rw [piecesM]
  generalize youngM a b gen = Y at hc hlen
  obtain ⟨L, e⟩ := Y
  dsimp only at hc hlen ⊢
  repeat' ((conv => whnf); first
    | refine Exists.intro _ (And.intro (⟨(List.length_map _).symm⟩) ?_) | refine Pure.call (hc) ?_)
  all_goals (conv => whnf)
  refine W_loopG (ι := Nat × Nat) (fun i => ⟨(D.undef :: D.undef :: D.undef :: D.undef :: D.undef :: D.undef :: D.undef :: D.undef :: D.undef :: .int .i64 e :: .h 0 i.2 0 (pcs (atB L) i.1).length :: .bool (opn (atB L) i.1) :: D.undef :: D.undef :: D.undef :: D.undef :: D.undef :: D.undef :: D.undef :: D.undef :: D.undef :: dB L :: .int .i64 (L.length:Int) :: .int .i64 (i.1:Int) :: D.undef :: D.undef :: D.undef :: D.undef :: D.undef :: D.undef :: D.undef :: D.undef :: D.undef :: D.undef :: D.undef :: D.undef :: D.undef :: D.undef :: D.undef :: D.undef :: D.undef :: D.undef :: D.undef :: D.undef :: D.undef :: D.undef :: D.undef :: D.undef :: D.undef :: D.undef :: D.undef :: []), [.arr i.2 3 ((pcs (atB L) i.1).map r50)]⟩) (fun i => L.length - i.1)
    (fun i => i.1 ≤ L.length) (0, 0) ((Ghost.hold [9, 10, 11, 21, 22, 23] rfl).trans (Ghost.mat (t := 10) (sz := 3) rfl)) (Nat.zero_le _) ?_
  rintro ⟨i, ver⟩ h1
  dsimp only at h1 ⊢
  refine exec_ok tab_ok mixed 1000 (bx := [false]) (own := []) ?_
  have hpl := pcs_len (atB L) i
  rcases Nat.lt_or_ge i L.length with h | h
  · obtain ⟨v, hv⟩ := at_lt h
    have hav := atB_at hv
    have hon : opn (atB L) (i + 1) = v := by simp [opn, hav]
    have hstep : pcs (atB L) (i + 1) = if v then (if opn (atB L) i then bump (pcs (atB L) i) ((i : Int) + 1) else pcs (atB L) i ++ [⟨i, (i : Int) + 1, 0⟩]) else pcs (atB L) i := by rw [pcs, hav]
    have hlast := pcs_last (atB L) i
    generalize pcs (atB L) i = Q at hpl hstep hlast
    generalize opn (atB L) i = ob at hstep hlast
    cases v with
    | false =>
      rw [if_neg (by simp)] at hstep
      repeat' ((conv => whnf); first
        | refine Exists.intro _ (And.intro (map_at (by omega) hv) ?_) | refine And.intro (by decide) ?_ | refine And.intro (by omega) ?_ | refine Exists.intro _ (And.intro (w64 (by omega) (by omega)) ?_) | refine boolF_dect (by omega) ?_)
      all_goals (conv => whnf)
      exact ⟨(i + 1, ver), Ghost.hold [9, 10, 11, 21, 22, 23] (by dsimp only; rw [hstep, hon]; rfl), h, by dsimp only; omega⟩
    | true =>
      rw [if_pos rfl] at hstep
      cases ob with
      | true =>
        obtain ⟨y, hy, hy2, hq⟩ := hlast rfl
        rw [if_pos rfl, bump_at hy] at hstep
        repeat' ((conv => whnf); first
          | refine Exists.intro _ (And.intro (map_at (by omega) hv) ?_) | refine Exists.intro _ (And.intro (map_at (by omega) hy) ?_) | refine And.intro (by decide) ?_ | refine And.intro rfl ?_ | refine And.intro (by omega) ?_ | refine And.intro (by simp only [List.length_map, List.length_append, List.length_cons, List.length_nil]; omega) ?_ | refine Exists.intro _ (And.intro (w64 (by omega) (by omega)) ?_) | refine boolF_dect (by omega) ?_)
        all_goals (conv => whnf)
        refine ⟨(i + 1, ver), Ghost.hold [9, 10, 11, 21, 22, 23] ?_, h, by dsimp only; omega⟩
        dsimp only; rw [hstep, hon, List.length_set, List.map_set, ← row_last hq false]; rfl
      | false =>
        rw [if_neg (by simp)] at hstep
        repeat' ((conv => whnf); first
          | refine Exists.intro _ (And.intro (map_at (by omega) hv) ?_) | refine Exists.intro _ (And.intro (snoc_row Q _) ?_) | refine And.intro (by decide) ?_ | refine And.intro rfl ?_ | refine And.intro (by omega) ?_ | refine And.intro (by simp only [List.length_map, List.length_append, List.length_cons, List.length_nil]; omega) ?_ | refine And.intro (by simpa only [List.length_map, List.length_append, List.length_cons, List.length_nil] using rfl) ?_ | refine And.intro (okRows_one rfl rfl) ?_ | refine Exists.intro _ (And.intro (⟨len_one⟩) ?_)
          | refine Exists.intro _ (And.intro (⟨Eq.refl (α := List D) _⟩) ?_) | refine Exists.intro _ (And.intro (w64 (by omega) (by omega)) ?_) | refine boolF_dect (by omega) ?_)
        all_goals (conv => whnf)
        refine ⟨(i + 1, ver + 1), Ghost.hold [9, 10, 11, 21, 22, 23] ?_, h, by dsimp only; omega⟩
        have hr := snoc_set Q (.agg [.int .i64 (i:Int), .int .i64 0, .int .i64 0]) (.agg [.int .i64 (i:Int), .int .i64 ((i:Int) + 1), .int .i64 0]) false
        dsimp only; rw [hstep, hon, List.length_append, List.map_append]
        exact st_eq rfl (congrArg (fun r => [AObj.arr (ver + 1) 3 r]) hr)
  · have e1 : i = L.length := by omega
    rw [e1]
    repeat' ((conv => whnf); first
      | refine boolF_decf (by omega) ?_)
    all_goals (conv => whnf)
    exact ⟨ownP_ok e _ 0 ver _ _ rfl rfl⟩

end Go.Proofs.Ytlghefbapiocgaa.V


namespace Go.Proofs.Ytlghefbapiocgaa.V
open Go.A
set_option linter.unusedVariables false
set_option linter.unusedSimpArgs false
set_option linter.unnecessarySimpa false
attribute [local irreducible] IntKind.wrap bitsI
open E (atL listP mayX endX far rightP)
set_option maxRecDepth 100000

theorem shortS_congr2 {t t' : Nat → Bool} {b b' : Nat → Nat} : ∀ {n : Nat}, (∀ j, j < n → t j = t' j ∧ (t j = true → b j = b' j)) → shortS t b n = shortS t' b' n
  | 0, _ => rfl
  | n + 1, h => by
    have ih := shortS_congr2 (n := n) fun j hj => h j (by omega)
    obtain ⟨h1, h2⟩ := h n (by omega)
    rw [shortS, shortS, ih]
    unfold stepS
    rw [← h1]
    split
    · rfl
    · rename_i ht
      have ht' : t n = true := by simpa using ht
      have h3 := h2 ht'
      have e : near t b n ↔ near t' b' n := by
        unfold near
        rcases Nat.eq_zero_or_pos n with h0 | h0
        · omega
        · obtain ⟨h4, h5⟩ := h (n - 1) (by omega)
          rw [← h4, ← h3]
          constructor
          · rintro ⟨k1, k2, k3⟩; exact ⟨k1, k2, by rw [← h5 k2]; exact k3⟩
          · rintro ⟨k1, k2, k3⟩; exact ⟨k1, k2, by rw [h5 k2]; exact k3⟩
      rw [← h3]
      split
      · rfl
      · simp only [e]

theorem f14_own (a b : List X) (gen : Int) (ha : a.length ≤ 140737488351232) (hb : b.length ≤ 140737488351232) : OwnP 14 [d22 a, d22 b, .int .i64 gen] (piecesM a b gen) := by
  refine OwnedR.of ⟨E.sc22 _ _, E.sc22 _ _, trivial, trivial⟩ (scr50 _ _) (ownP_res _) ?_
  refine Go.A.CallsIn.of_exec tab_ok mixed Try.func14 rfl rfl [] [] ?_
  by_cases hra : rightP a
  · by_cases hrb : rightP b
    · have hc := (f30_own a b gen hra.2.1 hrb.2.1).pure
      have hlen := youngM_len a b gen
      have hY : youngM a b gen = (youngL a b gen, 0) := by rw [youngM, if_pos ⟨hra, hrb⟩]
      rw [piecesM, hY]
      rw [hY] at hlen
      dsimp only at hlen ⊢
      generalize youngL a b gen = L at hc hlen
      repeat' ((conv => whnf); first
        | refine Pure.call (E.f22_ok a ha) ?_ | refine Pure.call (E.f22_ok b hb) ?_ | refine Pure.call (hc) ?_ | refine boolF_not ?_ | refine boolF_dect (by assumption) ?_)
      all_goals (conv => whnf)
      refine W_loopG (ι := Nat × Nat) (fun i => ⟨(D.undef :: D.undef :: D.undef :: D.undef :: D.undef :: D.undef :: D.undef :: D.undef :: .h 0 i.2 0 (pcs (atB L) i.1).length :: dB L :: .int .i64 (i.1:Int) :: D.undef :: D.undef :: D.undef :: D.undef :: D.undef :: D.undef :: D.undef :: D.undef :: D.undef :: D.undef :: D.undef :: D.undef :: D.undef :: D.undef :: D.undef :: D.undef :: D.undef :: D.undef :: D.undef :: D.undef :: D.undef :: D.undef :: D.undef :: D.undef :: D.undef :: D.undef :: D.undef :: D.undef :: D.undef :: D.undef :: D.undef :: D.undef :: D.undef :: D.undef :: D.undef :: D.undef :: D.undef :: D.undef :: D.undef :: D.undef :: D.undef :: D.undef :: D.undef :: D.undef :: D.undef :: D.undef :: D.undef :: D.undef :: D.undef :: D.undef :: D.undef :: D.undef :: D.undef :: D.undef :: D.undef :: D.undef :: D.undef :: []), [.arr i.2 3 ((pcs (atB L) i.1).map r50)]⟩) (fun i => L.length - i.1)
        (fun i => i.1 ≤ L.length) (0, 0) ((Ghost.hold [8, 9, 10] rfl).trans (Ghost.mat (t := 8) (sz := 3) rfl)) (Nat.zero_le _) ?_
      rintro ⟨i, ver⟩ h1
      dsimp only at h1 ⊢
      refine exec_ok tab_ok mixed 1000 (bx := [false]) (own := []) ?_
      have hpl := pcs_len (atB L) i
      rcases Nat.lt_or_ge i L.length with h | h
      · obtain ⟨v, hv⟩ := at_lt h
        have hav := atB_at hv
        have hstep : pcs (atB L) (i + 1) = if v then (if opn (atB L) i then bump (pcs (atB L) i) ((i : Int) + 1) else pcs (atB L) i ++ [⟨i, (i : Int) + 1, 0⟩]) else pcs (atB L) i := by rw [pcs, hav]
        have hlast := pcs_last (atB L) i
        rcases Nat.eq_zero_or_pos i with h0 | h0
        · have ho : opn (atB L) i = false := by simp [opn, h0]
          rw [ho] at hstep
          generalize pcs (atB L) i = Q at hpl hstep hlast
          cases v with
          | false =>
            rw [if_neg (by simp)] at hstep
            repeat' ((conv => whnf); first
              | refine Exists.intro _ (And.intro (map_at (by omega) hv) ?_) | refine And.intro (by decide) ?_ | refine And.intro (by omega) ?_ | refine Exists.intro _ (And.intro (⟨(List.length_map _).symm⟩) ?_) | refine Exists.intro _ (And.intro (w64 (by omega) (by omega)) ?_) | refine boolF_dect (by omega) ?_)
            all_goals (conv => whnf)
            exact ⟨(i + 1, ver), Ghost.hold [8, 9, 10] (by dsimp only; rw [hstep]; rfl), h, by dsimp only; omega⟩
          | true =>
            rw [if_pos rfl, if_neg (by simp)] at hstep
            repeat' ((conv => whnf); first
              | refine Exists.intro _ (And.intro (map_at (by omega) hv) ?_) | refine And.intro (by decide) ?_ | refine And.intro rfl ?_ | refine And.intro (by omega) ?_ | refine And.intro (by simpa only [List.length_map, List.length_append, List.length_cons, List.length_nil] using rfl) ?_ | refine And.intro (okRows_one rfl rfl) ?_ | refine Exists.intro _ (And.intro (⟨(List.length_map _).symm⟩) ?_) | refine Exists.intro _ (And.intro (⟨len_one⟩) ?_) | refine Exists.intro _ (And.intro (⟨Eq.refl (α := List D) _⟩) ?_) | refine Exists.intro _ (And.intro (w64 (by omega) (by omega)) ?_)
              | refine boolF_dect (by omega) ?_ | refine boolF_decf (by omega) ?_)
            all_goals (conv => whnf)
            exact ⟨(i + 1, ver + 1), Ghost.hold [8, 9, 10] (by dsimp only; rw [hstep, List.length_append, List.map_append]; rfl), h, by dsimp only; omega⟩
        · obtain ⟨u, hu⟩ := at_lt (l := L) (i := i - 1) (by omega)
          have ho : opn (atB L) i = u := by simp [opn, show ¬ i = 0 by omega, atB_at hu]
          rw [ho] at hstep hlast
          generalize pcs (atB L) i = Q at hpl hstep hlast
          cases v with
          | false =>
            rw [if_neg (by simp)] at hstep
            repeat' ((conv => whnf); first
              | refine Exists.intro _ (And.intro (map_at (by omega) hv) ?_) | refine And.intro (by decide) ?_ | refine And.intro (by omega) ?_ | refine Exists.intro _ (And.intro (⟨(List.length_map _).symm⟩) ?_) | refine Exists.intro _ (And.intro (w64 (by omega) (by omega)) ?_) | refine boolF_dect (by omega) ?_)
            all_goals (conv => whnf)
            exact ⟨(i + 1, ver), Ghost.hold [8, 9, 10] (by dsimp only; rw [hstep]; rfl), h, by dsimp only; omega⟩
          | true =>
            rw [if_pos rfl] at hstep
            cases u with
            | false =>
              rw [if_neg (by simp)] at hstep
              repeat' ((conv => whnf); first
                | refine Exists.intro _ (And.intro (map_at (by omega) hv) ?_) | refine Exists.intro _ (And.intro (map_at (by omega) hu) ?_) | refine And.intro (by decide) ?_ | refine And.intro rfl ?_ | refine And.intro (by omega) ?_ | refine And.intro (by simpa only [List.length_map, List.length_append, List.length_cons, List.length_nil] using rfl) ?_ | refine And.intro (okRows_one rfl rfl) ?_ | refine Exists.intro _ (And.intro (⟨(List.length_map _).symm⟩) ?_) | refine Exists.intro _ (And.intro (⟨len_one⟩) ?_) | refine Exists.intro _ (And.intro (⟨Eq.refl (α := List D) _⟩) ?_)
                | refine Exists.intro _ (And.intro (w64 (by omega) (by omega)) ?_) | refine boolF_dect (by omega) ?_)
              all_goals (conv => whnf)
              exact ⟨(i + 1, ver + 1), Ghost.hold [8, 9, 10] (by dsimp only; rw [hstep, List.length_append, List.map_append]; rfl), h, by dsimp only; omega⟩
            | true =>
              obtain ⟨y, hy, hy2, hq⟩ := hlast rfl
              rw [if_pos rfl, bump_at hy, show ((i : Int) + 1) = y.to_ + 1 from by omega] at hstep
              repeat' ((conv => whnf); first
                | refine Exists.intro _ (And.intro (map_at (by omega) hv) ?_) | refine Exists.intro _ (And.intro (map_at (by omega) hu) ?_) | refine Exists.intro _ (And.intro (map_at (by omega) hy) ?_) | refine And.intro (by decide) ?_ | refine And.intro rfl ?_ | refine And.intro (by omega) ?_ | refine And.intro (by simp only [List.length_map, List.length_append, List.length_cons, List.length_nil]; omega) ?_ | refine Exists.intro _ (And.intro (⟨(List.length_map _).symm⟩) ?_) | refine Exists.intro _ (And.intro (w64 (by omega) (by omega)) ?_) | refine boolF_dect (by omega) ?_)
              all_goals (conv => whnf)
              refine ⟨(i + 1, ver), Ghost.hold [8, 9, 10] ?_, h, by dsimp only; omega⟩
              dsimp only; rw [hstep, List.length_set, List.map_set, ← row_last hq false]; rfl
      · have e1 : i = L.length := by omega
        rw [e1]
        repeat' ((conv => whnf); first
          | refine Exists.intro _ (And.intro (⟨(List.length_map _).symm⟩) ?_) | refine boolF_decf (by omega) ?_)
        all_goals (conv => whnf)
        exact ⟨ownP_ok 0 _ 0 ver _ _ rfl rfl⟩
    · rw [piecesM, youngM, if_neg (fun h => hrb h.2)]
      repeat' ((conv => whnf); first
        | refine Pure.call (E.f22_ok a ha) ?_ | refine Pure.call (E.f22_ok b hb) ?_ | refine boolF_not ?_ | refine boolF_dect (by assumption) ?_ | refine boolF_decf (by assumption) ?_)
      all_goals (conv => whnf)
      exact ⟨ownP_err 1 _⟩
  · rw [piecesM, youngM, if_neg (fun h => hra h.1)]
    repeat' ((conv => whnf); first
      | refine Pure.call (E.f22_ok a ha) ?_ | refine boolF_not ?_ | refine boolF_decf (by assumption) ?_)
    all_goals (conv => whnf)
    exact ⟨ownP_err 1 _⟩

instance : DecidableEq Pc := fun x y =>
  if h : x.from_ = y.from_ ∧ x.to_ = y.to_ ∧ x.node_ = y.node_ then .isTrue (by cases x; cases y; simp_all) else .isFalse (fun e => h (by subst e; exact ⟨rfl, rfl, rfl⟩))

theorem f19_ok (a b : List Pc) (ha : a.length ≤ 140737488351232) (hb : b.length ≤ 140737488351232) : Pure Try.prog 19 [d34 a, d34 b] (.bool (decide (a = b))) := by
  refine Pure.of ⟨scd34 _ _, scd34 _ _, trivial⟩ trivial ?_
  refine Go.A.CallsIn.of_exec tab_ok mixed Try.func19 rfl rfl [] [] ?_
  by_cases hl : a.length = b.length
  · repeat' ((conv => whnf); first
      | refine Exists.intro _ (And.intro (⟨(List.length_map _).symm⟩) ?_) | refine boolF_not ?_ | refine boolF_dect (by omega) ?_)
    all_goals (conv => whnf)
    refine W_loopG (ι := Nat) (fun i => ⟨(d34 a :: d34 b :: D.undef :: D.undef :: D.undef :: .int .i64 (i:Int) :: D.undef :: D.undef :: D.undef :: D.undef :: D.undef :: D.undef :: D.undef :: D.undef :: D.undef :: D.undef :: D.undef :: D.undef :: D.undef :: D.undef :: D.undef :: D.undef :: D.undef :: D.undef :: D.undef :: D.undef :: []), []⟩) (fun i => a.length - i)
      (fun i => i ≤ a.length ∧ a.take i = b.take i) 0 (Ghost.hold [0, 1, 5] rfl) ⟨Nat.zero_le _, rfl⟩ ?_
    rintro i ⟨h1, h2⟩
    refine exec_ok tab_ok mixed 1000 (bx := []) (own := []) ?_
    rcases Nat.lt_or_ge i a.length with h | h
    · obtain ⟨x, hx⟩ := at_lt h
      obtain ⟨y, hy⟩ := at_lt (l := b) (i := i) (by omega)
      have hne : x ≠ y → ∀ r, r = D.bool false → r = D.bool (decide (a = b)) := fun hh r e => by
        rw [e]
        refine bool_f (fun hab => hh ?_)
        subst hab
        rw [hx] at hy
        exact Option.some.inj hy
      by_cases q1 : x.from_ = y.from_
      · by_cases q2 : x.to_ = y.to_
        · by_cases q3 : x.node_ = y.node_
          · have q : x = y := by cases x; cases y; simp_all
            repeat' ((conv => whnf); first
              | refine PairK.mk (by kernel_rfl) ?_ | refine Exists.intro _ (And.intro (map_at (by omega) hx) ?_) | refine Exists.intro _ (And.intro (map_at (by omega) hy) ?_) | refine And.intro rfl ?_ | refine And.intro (by omega) ?_ | refine Exists.intro _ (And.intro (⟨(List.length_map _).symm⟩) ?_) | refine Exists.intro _ (And.intro (w64 (by omega) (by omega)) ?_) | refine boolF_not ?_ | refine boolF_dect (by omega) ?_)
            all_goals (conv => whnf)
            refine ⟨i + 1, Ghost.hold [0, 1, 5] rfl, ⟨h, ?_⟩, by omega⟩
            rw [take_snoc hx, take_snoc hy, h2, q]
          · repeat' ((conv => whnf); first
              | refine PairK.mk (by kernel_rfl) ?_ | refine Exists.intro _ (And.intro (map_at (by omega) hx) ?_) | refine Exists.intro _ (And.intro (map_at (by omega) hy) ?_) | refine And.intro rfl ?_ | refine And.intro (by omega) ?_ | refine Exists.intro _ (And.intro (⟨(List.length_map _).symm⟩) ?_) | refine boolF_not ?_ | refine boolF_dect (by omega) ?_ | refine boolF_decf (by omega) ?_)
            all_goals (conv => whnf)
            exact ⟨hne (fun e => q3 (by rw [e])) _ rfl⟩
        · repeat' ((conv => whnf); first
            | refine PairK.mk (by kernel_rfl) ?_ | refine Exists.intro _ (And.intro (map_at (by omega) hx) ?_) | refine Exists.intro _ (And.intro (map_at (by omega) hy) ?_) | refine And.intro rfl ?_ | refine And.intro (by omega) ?_ | refine Exists.intro _ (And.intro (⟨(List.length_map _).symm⟩) ?_) | refine boolF_not ?_ | refine boolF_dect (by omega) ?_ | refine boolF_decf (by omega) ?_)
          all_goals (conv => whnf)
          exact ⟨hne (fun e => q2 (by rw [e])) _ rfl⟩
      · repeat' ((conv => whnf); first
          | refine PairK.mk (by kernel_rfl) ?_ | refine Exists.intro _ (And.intro (map_at (by omega) hx) ?_) | refine Exists.intro _ (And.intro (map_at (by omega) hy) ?_) | refine And.intro rfl ?_ | refine And.intro (by omega) ?_ | refine Exists.intro _ (And.intro (⟨(List.length_map _).symm⟩) ?_) | refine boolF_not ?_ | refine boolF_dect (by omega) ?_ | refine boolF_decf (by omega) ?_)
        all_goals (conv => whnf)
        exact ⟨hne (fun e => q1 (by rw [e])) _ rfl⟩
    · have : a = b := by
        have e1 : a.take i = a := List.take_of_length_le h
        have e2 : b.take i = b := List.take_of_length_le (by omega)
        rw [← e1, ← e2]; exact h2
      repeat' ((conv => whnf); first
        | refine Exists.intro _ (And.intro (⟨(List.length_map _).symm⟩) ?_) | refine boolF_decf (by omega) ?_)
      all_goals (conv => whnf)
      exact ⟨bool_t this⟩
  · repeat' ((conv => whnf); first
      | refine Exists.intro _ (And.intro (⟨(List.length_map _).symm⟩) ?_) | refine boolF_not ?_ | refine boolF_decf (by omega) ?_)
    all_goals (conv => whnf)
    exact ⟨bool_f (fun h => hl (by rw [h]))⟩

/-- Each young block by itself. -/
def opsU (t : Nat → Bool) (v : Nat → Nat) : Nat → List Op
  | 0 => []
  | i + 1 => if t i then opsU t v i ++ [⟨1, (i : Int), 0, [v i]⟩] else opsU t v i
theorem opsU_len (t : Nat → Bool) (v : Nat → Nat) : ∀ i, (opsU t v i).length ≤ i
  | 0 => Nat.le_refl _
  | i + 1 => by
    have := opsU_len t v i
    rw [opsU]
    split
    · rw [List.length_append]; simp; omega
    · omega
theorem opsU_mem (t : Nat → Bool) (v : Nat → Nat) : ∀ i, ∀ o ∈ opsU t v i, ∃ j, j < i ∧ o = ⟨1, (j : Int), 0, [v j]⟩
  | 0, o, h => by cases h
  | i + 1, o, h => by
    rw [opsU] at h
    split at h
    · rcases List.mem_append.mp h with h | h
      · obtain ⟨j, hj, e⟩ := opsU_mem t v i o h
        exact ⟨j, by omega, e⟩
      · simp only [List.mem_singleton] at h
        exact ⟨i, by omega, h⟩
    · obtain ⟨j, hj, e⟩ := opsU_mem t v i o h
      exact ⟨j, by omega, e⟩
theorem opsU_ok (t : Nat → Bool) (v : Nat → Nat) {i : Nat} (hi : i ≤ 1024) : allOk 1024 (opsU t v i) := by
  intro o ho
  obtain ⟨j, hj, rfl⟩ := opsU_mem t v i o ho
  exact ⟨by omega, by omega, by dsimp only; omega, .inl ⟨rfl, rfl, by simp, by simp, by simp; omega⟩⟩
theorem opsU_big (t : Nat → Bool) (v : Nat → Nat) (i : Nat) : bigD (opsU t v i) := by
  intro o ho
  obtain ⟨j, hj, rfl⟩ := opsU_mem t v i o ho
  simp
theorem opsU_vals (t : Nat → Bool) (v : Nat → Nat) (j : Nat) : ∀ i, vals (opsU t v i) j = if j < i ∧ t j = true then some (v j) else none
  | 0 => by simp [opsU, vals]
  | i + 1 => by
    rw [opsU]
    have ih := opsU_vals t v j i
    by_cases ht : t i = true
    · rw [if_pos ht, vals_snoc, ih]
      have hv : val (⟨1, (i : Int), 0, [v i]⟩ : Op) j = if j = i then some (v i) else none := by
        unfold val
        simp only [dat]
        by_cases hj : j = i
        · subst hj; simp [at0]
        · simp [hj]; omega
      rw [hv]
      by_cases hj : j = i
      · subst hj; simp [ht]
      · have : (j < i + 1) = (j < i) := by apply propext; omega
        simp [hj, this]
    · rw [if_neg ht, ih]
      by_cases hj : j = i
      · subst hj; simp [ht]
      · have : (j < i + 1) = (j < i) := by apply propext; omega
        simp [this]

/-- The ops of two lists. -/
def opsM (a b : List X) (gen : Int) (units : List Nat) : List Op × Int := if rightP a ∧ rightP b then (shortS (youngB a b gen) (showB b units) 1024, 0) else ([], 1)

theorem squash_opsU (t : Nat → Bool) (v : Nat → Nat) : squashM 1024 (opsU t v 1024) = (shortS t v 1024, 0) := by
  have hok := opsU_ok t v (Nat.le_refl 1024)
  rw [squashM, if_neg (by omega), if_pos hok]
  refine Prod.ext (shortS_congr2 fun j hj => ?_) rfl
  have hj' : j < 1024 := hj
  have hv := opsU_vals t v j 1024
  have htc : tch (opsU t v 1024) j = t j := by
    rw [tch, hv]
    cases t j <;> simp [hj']
  refine ⟨htc, fun h => ?_⟩
  rw [htc] at h
  have hz : (zer (1024 : Int).toNat).length = 1024 := List.length_replicate
  have := (apply_at (v := zer (1024 : Int).toNat) (ops := opsU t v 1024) (by rw [hz]; exact hok)).2 j
  rw [this, hv, if_pos ⟨hj', h⟩]
  rfl

end Go.Proofs.Ytlghefbapiocgaa.V


namespace Go.Proofs.Ytlghefbapiocgaa.V
open Go.A
set_option linter.unusedVariables false
set_option linter.unusedSimpArgs false
set_option linter.unnecessarySimpa false
attribute [local irreducible] IntKind.wrap bitsI
open E (atL listP mayX endX far rightP)
set_option maxRecDepth 100000

theorem fit_all {l : List X} (hl : listP 0 l) : fitP l 1024 := fun x hx => by
  obtain ⟨hm, _⟩ := E.listP_mem hl x hx
  simp only [mayX] at hm
  simp only [endX]
  omega
theorem viewM_all {l : List X} (hr : rightP l) (units : List Nat) : viewM l 1024 units = (viewL l 1024 units, 0) := by
  rw [viewM, if_pos ⟨hr, by omega, by omega, fit_all hr.2.1⟩]; rfl
theorem viewL_at (l : List X) (units : List Nat) {j : Nat} (h : j < 1024) : at0 (viewL l 1024 units) j = showB l units j := by simp [at0, viewL, h]
theorem viewL_len (l : List X) (n : Nat) (units : List Nat) : (viewL l n units).length = n := by simp [viewL]
theorem youngL_at (a b : List X) (gen : Int) {j : Nat} (h : j < 1024) : atB (youngL a b gen) j = youngB a b gen j := by simp [atB, youngL, h]
theorem youngL_len (a b : List X) (gen : Int) : (youngL a b gen).length = 1024 := by simp [youngL]

theorem slice_one {v : List Nat} {i : Nat} (h : i < v.length) : (v.drop i).take 1 = [at0 v i] := by
  have h1 := at0_get h
  rw [List.getElem?_eq_getElem h] at h1
  rw [List.drop_eq_getElem_cons h, List.take_succ_cons, List.take_zero, Option.some.inj h1]

theorem f15_ok (a b : List X) (gen : Int) (units : List Nat) (ha : a.length ≤ 140737488351232) (hb : b.length ≤ 140737488351232) (hu : units.length ≤ 140737488351232) : Pure Try.prog 15 [d22 a, d22 b, .int .i64 gen, d23 units] (.tup [d39 (opsM a b gen units).1, .int .i64 (opsM a b gen units).2]) := by
  refine Pure.ofT ⟨E.sc22 _ _, E.sc22 _ _, trivial, scd23 _ _, trivial⟩ ⟨scd39 _ _, trivial, trivial⟩ ?_
  refine Go.A.CallsIn.of_exec tab_ok mixed Try.func15 rfl rfl [] [] ?_
  by_cases hr : rightP a ∧ rightP b
  · have hy := (f29_own a b gen ha hb).pure
    have hv := (f9_own b 1024 units hb hu).pure
    rw [viewM_all hr.2] at hv
    rw [youngM, if_pos hr] at hy
    rw [opsM, if_pos hr]
    have hLl := youngL_len a b gen
    have hVl := viewL_len b 1024 units
    have hsq : squashM 1024 (opsU (atB (youngL a b gen)) (at0 (viewL b 1024 units)) 1024) = (shortS (youngB a b gen) (showB b units) 1024, 0) := by
      rw [squash_opsU]
      exact Prod.ext (shortS_congr fun j hj => ⟨youngL_at a b gen hj, viewL_at b units hj⟩) rfl
    generalize youngL a b gen = L at hy hLl hsq
    generalize viewL b 1024 units = V at hv hVl hsq
    dsimp only at hy hv
    generalize hS : shortS (youngB a b gen) (showB b units) 1024 = S at hsq
    dsimp only
    repeat' ((conv => whnf); first
      | refine Exists.intro _ (And.intro (⟨(List.length_map _).symm⟩) ?_) | refine Pure.call (hy) ?_ | refine Pure.call (hv) ?_)
    all_goals (conv => whnf)
    refine W_loopG (ι := Nat × Nat) (fun i => ⟨(D.undef :: D.undef :: D.undef :: D.undef :: D.undef :: D.undef :: D.undef :: D.undef :: D.undef :: D.undef :: D.undef :: D.undef :: d23 V :: D.undef :: .h 0 i.2 0 (opsU (atB L) (at0 V) i.1).length :: D.undef :: D.undef :: D.undef :: D.undef :: D.undef :: D.undef :: D.undef :: D.undef :: D.undef :: D.undef :: D.undef :: D.undef :: D.undef :: D.undef :: D.undef :: D.undef :: D.undef :: D.undef :: dB L :: .int .i64 (L.length:Int) :: .int .i64 (i.1:Int) :: D.undef :: D.undef :: D.undef :: D.undef :: D.undef :: D.undef :: D.undef :: D.undef :: D.undef :: D.undef :: D.undef :: D.undef :: D.undef :: D.undef :: D.undef :: D.undef :: D.undef :: D.undef :: D.undef :: D.undef :: []), [.arr i.2 4 ((opsU (atB L) (at0 V) i.1).map r73)]⟩) (fun i => 1024 - i.1)
      (fun i => i.1 ≤ 1024) (0, 0) ((Ghost.hold [12, 14, 33, 34, 35] rfl).trans (Ghost.mat (t := 14) (sz := 4) rfl)) (Nat.zero_le _) ?_
    rintro ⟨i, ver⟩ h1
    dsimp only at h1 ⊢
    have hol := opsU_len (atB L) (at0 V) i
    rcases Nat.lt_or_ge i 1024 with h | h
    · refine exec_ok tab_ok mixed 1000 (bx := [false]) (own := []) ?_
      obtain ⟨v, hv⟩ := at_lt (l := L) (i := i) (by omega)
      have hav := atB_at hv
      have hstep : opsU (atB L) (at0 V) (i + 1) = if v then opsU (atB L) (at0 V) i ++ [⟨1, (i : Int), 0, [at0 V i]⟩] else opsU (atB L) (at0 V) i := by rw [opsU, hav]
      have hso : (V.drop i).take (i + 1 - i) = [at0 V i] := by rw [Nat.add_sub_cancel_left]; exact slice_one (by omega)
      generalize opsU (atB L) (at0 V) i = Q at hol hstep
      cases v with
      | false =>
        rw [if_neg (by simp)] at hstep
        repeat' ((conv => whnf); first
          | refine Exists.intro _ (And.intro (map_at (by omega) hv) ?_) | refine And.intro (by decide) ?_ | refine And.intro (by omega) ?_ | refine Exists.intro _ (And.intro (w64 (by omega) (by omega)) ?_) | refine boolF_dect (by omega) ?_)
        all_goals (conv => whnf)
        exact ⟨(i + 1, ver), Ghost.hold [12, 14, 33, 34, 35] (by dsimp only; rw [hstep]; rfl), h, by dsimp only; omega⟩
      | true =>
        rw [if_pos rfl, ← hso] at hstep
        repeat' ((conv => whnf); first
          | refine Exists.intro _ (And.intro (map_at (by omega) hv) ?_) | refine Exists.intro i (Exists.intro (i + 1) (And.intro ⟨rfl⟩ (And.intro ⟨rfl⟩ (And.intro (by omega) (And.intro (by omega) ?_))))) | refine And.intro (by decide) ?_ | refine And.intro rfl ?_ | refine And.intro (by omega) ?_ | refine And.intro (by simpa only [List.length_map, List.length_append, List.length_cons, List.length_nil] using rfl) ?_ | refine And.intro (cells_map (fun _ => rfl)) ?_ | refine And.intro (okRows_one rfl rfl) ?_ | refine Exists.intro _ (And.intro (⟨(List.length_map _).symm⟩) ?_)
          | refine Exists.intro _ (And.intro (⟨len_one⟩) ?_) | refine Exists.intro _ (And.intro (⟨map_slice⟩) ?_) | refine Exists.intro _ (And.intro (⟨Eq.refl (α := List D) _⟩) ?_) | refine Exists.intro _ (And.intro (w64 (by omega) (by omega)) ?_) | refine boolF_dect (by omega) ?_)
        all_goals (conv => whnf)
        exact ⟨(i + 1, ver + 1), Ghost.hold [12, 14, 33, 34, 35] (by dsimp only; rw [hstep, List.length_append, List.map_append]; rfl), h, by dsimp only; omega⟩
    · have e1 : i = 1024 := by omega
      rw [e1]
      have hbig := opsU_big (atB L) (at0 V) 1024
      have hol2 := opsU_len (atB L) (at0 V) 1024
      generalize opsU (atB L) (at0 V) 1024 = Q at hbig hol2 hsq
      refine W_ghost (s' := (D.undef :: D.undef :: D.undef :: D.undef :: D.undef :: D.undef :: D.undef :: D.undef :: D.undef :: D.undef :: D.undef :: D.undef :: D.undef :: D.undef :: d39 Q :: D.undef :: D.undef :: D.undef :: D.undef :: D.undef :: D.undef :: D.undef :: D.undef :: D.undef :: D.undef :: D.undef :: D.undef :: D.undef :: D.undef :: D.undef :: D.undef :: D.undef :: D.undef :: D.undef :: .int .i64 (L.length:Int) :: .int .i64 ((1024 : Nat):Int) :: D.undef :: D.undef :: D.undef :: D.undef :: D.undef :: D.undef :: D.undef :: D.undef :: D.undef :: D.undef :: D.undef :: D.undef :: D.undef :: D.undef :: D.undef :: D.undef :: D.undef :: D.undef :: D.undef :: D.undef :: [])) (H' := [.gone]) ((Ghost.hold [14, 34, 35] rfl).trans (Ghost.frzAt (o := 0) (t := 14) (Nat.zero_le _) rfl rfl (all_take rfl))) ?_
      refine exec_ok tab_ok mixed 1000 (bx := [false]) (own := []) ?_
      have hc := (f31_own 1024 Q (by omega) hbig).pure
      rw [hsq] at hc
      repeat' ((conv => whnf); first
        | refine Pure.call (hc) ?_ | refine boolF_decf (by omega) ?_)
      all_goals (conv => whnf)
      exact ⟨Told.refl⟩
  · have hy := (f29_own a b gen ha hb).pure
    rw [youngM, if_neg hr] at hy
    rw [opsM, if_neg hr]
    repeat' ((conv => whnf); first
      | refine Pure.call (hy) ?_)
    all_goals (conv => whnf)
    exact ⟨Told.wk wkO_err⟩

theorem f16_ok (a b : List X) (gen : Int) (units : List Nat) (ha : a.length ≤ 140737488351232) (hb : b.length ≤ 140737488351232) (hu : units.length ≤ 140737488351232) : Pure Try.prog 16 [d22 a, d22 b, .int .i64 gen, d23 units] (.tup [d39 (opsM a b gen units).1, .int .i64 (opsM a b gen units).2]) := by
  refine Pure.ofT ⟨E.sc22 _ _, E.sc22 _ _, trivial, scd23 _ _, trivial⟩ ⟨scd39 _ _, trivial, trivial⟩ ?_
  refine Go.A.CallsIn.of_exec tab_ok mixed Try.func16 rfl rfl [] [] ?_
  by_cases hra : rightP a
  · by_cases hrb : rightP b
    · have hy := (f30_own a b gen hra.2.1 hrb.2.1).pure
      have hv := (f10_own b 1024 units hb hu).pure
      rw [viewM_all hrb] at hv
      rw [opsM, if_pos ⟨hra, hrb⟩]
      have hLl := youngL_len a b gen
      have hVl := viewL_len b 1024 units
      have hS : shortS (atB (youngL a b gen)) (at0 (viewL b 1024 units)) 1024 = shortS (youngB a b gen) (showB b units) 1024 := shortS_congr fun j hj => ⟨youngL_at a b gen hj, viewL_at b units hj⟩
      generalize youngL a b gen = L at hy hLl hS
      generalize viewL b 1024 units = V at hv hVl hS
      have hs := f32_ok L V (by omega) (by omega)
      rw [hVl, hS] at hs
      generalize shortS (youngB a b gen) (showB b units) 1024 = S at hs
      dsimp only at hv ⊢
      repeat' ((conv => whnf); first
        | refine Pure.call (E.f22_ok a ha) ?_ | refine Pure.call (E.f22_ok b hb) ?_ | refine Pure.call (hv) ?_ | refine Pure.call (hy) ?_ | refine Pure.call (hs) ?_ | refine boolF_not ?_ | refine boolF_dect (by assumption) ?_)
      all_goals (conv => whnf)
      exact ⟨Told.refl⟩
    · rw [opsM, if_neg (fun h => hrb h.2)]
      repeat' ((conv => whnf); first
        | refine Pure.call (E.f22_ok a ha) ?_ | refine Pure.call (E.f22_ok b hb) ?_ | refine boolF_not ?_ | refine boolF_dect (by assumption) ?_ | refine boolF_decf (by assumption) ?_)
      all_goals (conv => whnf)
      exact ⟨Told.wk wkO_err⟩
  · rw [opsM, if_neg (fun h => hra h.1)]
    repeat' ((conv => whnf); first
      | refine Pure.call (E.f22_ok a ha) ?_ | refine boolF_not ?_ | refine boolF_decf (by assumption) ?_)
    all_goals (conv => whnf)
    exact ⟨Told.wk wkO_err⟩

end Go.Proofs.Ytlghefbapiocgaa.V

