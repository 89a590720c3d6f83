import Derived.Test.YtlfbchkcgchoaaaY2
-- merged
namespace Go.Proofs.Ytlfbchkcgchoaaa.C
open Go.A
set_option linter.unusedVariables false
set_option linter.unusedSimpArgs false
set_option linter.unnecessarySimpa false
attribute [local irreducible] IntKind.wrap bitsI
open B
attribute [local irreducible] powK
set_option maxRecDepth 100000
set_option maxHeartbeats 4000000

/- What All hands on: a slice in a box. -/
def oB (ver n : Nat) : AObj := .arr 0 1 [.h 1 ver 0 n]
def oL (ver : Nat) (L : List (List Nat)) : AObj := .arr ver 1 (L.map r34)
def outH (ver : Nat) (L : List (List Nat)) : List AObj := [oB ver L.length, oL ver L]
theorem scr34 (k : Nat) (L : List (List Nat)) : scs k (L.map r34) := by rw [scs_map]; intro x _; exact scd34 _ _
theorem sc_outH (ver : Nat) (L : List (List Nat)) : ∀ ob ∈ outH ver L, ob.sc 2 := fun ob h => by
  rcases List.mem_cons.mp h with rfl | h
  · exact ⟨show 1 < 2 by decide, trivial⟩
  · rw [List.mem_singleton.mp h]; exact scr34 _ _
theorem ren_outH (k ver : Nat) (L : List (List Nat)) : (outH ver L).map (renO (ixOf [0, 1] k)) = outH ver L := by
  show [renO _ (oB ver L.length), AObj.arr ver 1 (renL _ (L.map r34))] = _
  rw [renL_sc0 _ _ (scr34 _ _)]; rfl
theorem has_outH {ver : Nat} {L : List (List Nat)} {H : List AObj} (h0 : H[0]? = some (oB ver L.length)) (h1 : H[1]? = some (oL ver L)) (k : Nat) : [0, 1].map (fun o => H[o]?) = (outH ver L).map fun ob => some (renO (ixOf [0, 1] k) ob) := by
  have := congrArg (List.map some) (ren_outH k ver L)
  rw [List.map_map] at this
  refine Eq.trans ?_ this.symm
  simp [h0, h1, outH]

theorem f23_ok (L : List (List Nat)) (v : List Nat) (ver : Nat) (hL : L.length ≤ 1000000000) : Go.A.CallsIn Try.prog 23 [d34 v, .p 0 0 0 0] (outH ver L) fun r H' => r = .tup [] ∧ H' = outH (ver + 1) (L ++ [v]) := by
  refine Go.A.CallsIn.of_exec tab_ok mixed Try.func23 rfl rfl [] [true, false] ?_
  repeat' ((conv => whnf); first
    | refine And.intro (by decide) ?_ | refine And.intro rfl ?_ | refine And.intro (by omega) ?_ | refine And.intro (by simpa only [List.length_map, List.length_append, List.length_cons, List.length_nil] using rfl) ?_ | refine And.intro (okRows_one rfl rfl) ?_ | refine Exists.intro _ (And.intro (⟨len_one⟩) ?_) | refine Exists.intro _ (And.intro (⟨map_snoc⟩) ?_))
  all_goals (conv => whnf)
  refine ⟨rfl, ?_⟩
  show _ = [AObj.arr 0 1 [.h 1 (ver + 1) 0 (L ++ [v]).length], _]
  rw [List.length_append]; rfl

def firstD (h : List Dn) (dn : Nat) (d : Dn) : Prop := ∀ (k : Nat) (e : Dn), h[k]? = some e → bitP dn k ∨ ¬ aheadD e d
def okStep (h : List Dn) (s dn i : Nat) (d : Dn) : Prop := bitP s i ∧ ¬ bitP dn i ∧ firstD h dn d
noncomputable instance (h : List Dn) (s dn i : Nat) (d : Dn) : Decidable (okStep h s dn i d) := Classical.propDecidable _
/-- What all orders make of a volume, in order. -/
noncomputable def ordL (h : List Dn) (s : Nat) : Nat → Nat → List Nat → List (List Nat)
  | 0, _, _ => []
  | f + 1, dn, v => if dn = s then [v] else (List.range h.length).flatMap fun i => match h[i]? with
    | none => []
    | some d => if okStep h s dn i d then ordL h s f (dn ||| 2 ^ i) (doO v d.op_) else []
noncomputable def stepL (h : List Dn) (s f dn : Nat) (v : List Nat) (i : Nat) : List (List Nat) := match h[i]? with
    | none => []
    | some d => if okStep h s dn i d then ordL h s f (dn ||| 2 ^ i) (doO v d.op_) else []
noncomputable def accL (h : List Dn) (s f dn : Nat) (v : List Nat) (L : List (List Nat)) : Nat → List (List Nat)
  | 0 => L
  | i + 1 => accL h s f dn v L i ++ stepL h s f dn v i
noncomputable def accV (h : List Dn) (s f dn : Nat) (v : List Nat) (ver : Nat) : Nat → Nat
  | 0 => ver
  | i + 1 => accV h s f dn v ver i + (stepL h s f dn v i).length
theorem accL_eq (h : List Dn) (s f dn : Nat) (v : List Nat) (L : List (List Nat)) : ∀ i, accL h s f dn v L i = L ++ (List.range i).flatMap (stepL h s f dn v)
  | 0 => by simp [accL]
  | i + 1 => by rw [accL, accL_eq h s f dn v L i, List.range_succ, List.flatMap_append, List.append_assoc]; simp
theorem accV_eq (h : List Dn) (s f dn : Nat) (v : List Nat) (ver : Nat) : ∀ i, accV h s f dn v ver i = ver + ((List.range i).flatMap (stepL h s f dn v)).length
  | 0 => by simp [accV]
  | i + 1 => by rw [accV, accV_eq h s f dn v ver i, List.range_succ, List.flatMap_append, List.length_append, Nat.add_assoc]; simp
theorem flat_len {F : Nat → List (List Nat)} {K : Nat} (hF : ∀ i, (F i).length ≤ K) : ∀ i, ((List.range i).flatMap F).length ≤ i * K
  | 0 => by simp
  | i + 1 => by
    rw [List.range_succ, List.flatMap_append, List.length_append, Nat.succ_mul]
    have := flat_len hF i
    have := hF i
    simp only [List.flatMap_cons, List.flatMap_nil, List.append_nil]
    omega
theorem ordL_len {h : List Dn} (hn : h.length ≤ 6) (s : Nat) : ∀ f dn v, (ordL h s f dn v).length ≤ 7 ^ f
  | 0, _, _ => by simp [ordL]
  | f + 1, dn, v => by
    rw [ordL]
    split
    · exact Nat.pow_pos (by omega)
    · refine Nat.le_trans (flat_len (K := 7 ^ f) (fun i => ?_) h.length) ?_
      · cases hi : h[i]? with
        | none => exact Nat.zero_le _
        | some d =>
          dsimp only
          split
          · exact ordL_len hn s f _ _
          · exact Nat.zero_le _
      · rw [Nat.pow_succ, Nat.mul_comm]
        exact Nat.mul_le_mul_left _ (by omega)
theorem stepL_len {h : List Dn} (hn : h.length ≤ 6) (s f dn : Nat) (v : List Nat) (i : Nat) : (stepL h s f dn v i).length ≤ 7 ^ f := by
  unfold stepL
  split
  · exact Nat.zero_le _
  · split
    · exact ordL_len hn s f _ _
    · exact Nat.zero_le _

/-- How many are not done. -/
def rem : Nat → Mk → Nat
  | 0, _ => 0
  | n + 1, S => rem n S + (if S n = true then 0 else 1)
theorem rem_same {n : Nat} {S T : Mk} (h : ∀ i, i < n → S i = T i) : rem n S = rem n T := by
  induction n with
  | zero => rfl
  | succ n ih => rw [rem, rem, ih fun i hi => h i (by omega), h n (by omega)]
theorem rem_with {n i : Nat} {S : Mk} (hi : i < n) (hS : S i = false) : rem n (S.with i) + 1 = rem n S := by
  induction n with
  | zero => omega
  | succ n ih =>
    rw [rem, rem]
    by_cases e : i = n
    · subst e
      rw [rem_same (S := S.with i) (T := S) fun j hj => by simp [Mk.with, Nat.ne_of_lt hj], hS]
      simp [Mk.with]
    · have := ih (by omega)
      have e2 : S.with i n = S n := by simp [Mk.with, Ne.symm e]
      rw [e2]; omega
theorem rem_le (n : Nat) (S : Mk) : rem n S ≤ n := by
  induction n with
  | zero => exact Nat.le_refl _
  | succ n ih => rw [rem]; split <;> omega
theorem or_mk (dn i : Nat) : mk (dn ||| 2 ^ i) = (mk dn).with i := by
  funext k
  show (dn ||| 2 ^ i).testBit k = (decide (k = i) || mk dn k)
  rw [Nat.testBit_or, Nat.testBit_two_pow, Bool.or_comm]
  congr 1
  exact decide_eq_decide.mpr ⟨Eq.symm, Eq.symm⟩
theorem arg22 (k : Nat) (v : List Nat) (h : List Dn) (a b : Int) : renL (ixOf [0, 1] k) [d34 v, d24 h, .int .u64 a, .int .u64 b, .fn 23 [.p 0 0 0 0]] = [d34 v, d24 h, .int .u64 a, .int .u64 b, .fn 23 [.p 0 0 0 0]] := by
  simp only [renL, ren_sc0 _ _ (scd34 0 v), ren_sc0 _ _ (scd24 0 h)]
  rfl

end Go.Proofs.Ytlfbchkcgchoaaa.C


namespace Go.Proofs.Ytlfbchkcgchoaaa.C
open Go.A
set_option linter.unusedVariables false
set_option linter.unusedSimpArgs false
set_option linter.unnecessarySimpa false
attribute [local irreducible] IntKind.wrap bitsI
open B
attribute [local irreducible] powK
set_option maxRecDepth 100000
set_option maxHeartbeats 4000000

theorem f22_ok (h : List Dn) (s n : Nat) (hn : h.length ≤ 6) (hs : s < 18446744073709551616) (hn2 : n ≤ 1024) (ha : allD n h) : ∀ (f dn : Nat) (v : List Nat) (L : List (List Nat)) (ver : Nat), rem h.length (mk dn) < f → dn < 18446744073709551616 → v.length = n → L.length + 7 ^ f ≤ 1000000000 →
    TurnsM Try.prog 22 [d34 v, d24 h, .int .u64 (s : Int), .int .u64 (dn : Int), .fn 23 [.p 0 0 0 0]] (outH ver L) (.tup []) (outH (ver + (ordL h s f dn v).length) (L ++ ordL h s f dn v))
  | 0, dn, v, L, ver, hf, _, _, _ => absurd hf (Nat.not_lt_zero _)
  | f + 1, dn, v, L, ver, hf, hdn, hv, hL => by
    refine ⟨?_, rfl, ⟨scd34 _ _, scd24 _ _, trivial, trivial, ⟨show 0 < 2 by decide, trivial⟩, trivial⟩, sc_outH ver L⟩
    refine Go.A.CallsIn.of_exec tab_ok mixed Try.func22 rfl rfl [] [true, false] ?_
    rw [ordL]
    by_cases hds : dn = s
    · rw [if_pos hds]
      repeat' ((conv => whnf); first
        | refine boolF_dect (by assumption) ?_)
      all_goals (conv => whnf)
      refine Go.A.CallsIn.mono (f23_ok L v ver (Nat.le_trans (Nat.le_add_right _ _) hL)) ?_
      rintro r H' ⟨rfl, rfl⟩
      (conv => whnf)
      exact ⟨rfl, rfl⟩
    · rw [if_neg hds]
      have hfin : ∀ i, i = h.length → (outH (accV h s f dn v ver i) (accL h s f dn v L i) = outH (ver + ((List.range h.length).flatMap fun i => match h[i]? with | none => [] | some d => if okStep h s dn i d then ordL h s f (dn ||| 2 ^ i) (doO v d.op_) else []).length) (L ++ (List.range h.length).flatMap fun i => match h[i]? with | none => [] | some d => if okStep h s dn i d then ordL h s f (dn ||| 2 ^ i) (doO v d.op_) else [])) := fun i hi => by
        rw [accV_eq, accL_eq, hi]; rfl
      generalize (List.range h.length).flatMap (fun i => match h[i]? with | none => [] | some d => if okStep h s dn i d then ordL h s f (dn ||| 2 ^ i) (doO v d.op_) else []) = Z at hfin ⊢
      repeat' ((conv => whnf); first
        | refine Exists.intro _ (And.intro (⟨(List.length_map _).symm⟩) ?_) | refine boolF_decf (by assumption) ?_)
      all_goals (conv => whnf)
      refine W_loopG (ι := Nat) (fun i => ⟨(d34 v :: d24 h :: .int .u64 (s : Int) :: .int .u64 (dn : Int) :: .fn 23 [.p 0 0 0 0] :: D.undef :: D.undef :: D.undef :: D.undef :: D.undef :: D.undef :: D.undef :: D.undef :: D.undef :: D.undef :: D.undef :: D.undef :: D.undef :: D.undef :: D.undef :: D.undef :: D.undef :: d24 h :: .int .i64 (h.length : Int) :: .int .i64 (i : Int) :: D.undef :: D.undef :: D.undef :: D.undef :: D.undef :: D.undef :: D.undef :: D.undef :: D.undef :: D.undef :: D.undef :: D.undef :: D.undef :: D.undef :: D.undef :: D.undef :: D.undef :: D.undef :: D.undef :: D.undef :: D.undef :: D.undef :: D.undef :: D.undef :: D.undef :: D.undef :: D.undef :: D.undef :: D.undef :: D.undef :: D.undef :: D.undef :: D.undef :: D.undef :: D.undef :: D.undef :: D.undef :: D.undef :: D.undef :: D.undef :: D.undef :: D.undef :: D.undef :: D.undef :: D.undef :: D.undef :: D.undef :: D.undef :: D.undef :: D.undef :: D.undef :: D.undef :: D.undef :: []), outH (accV h s f dn v ver i) (accL h s f dn v L i)⟩) (fun i => h.length - i)
        (fun i => i ≤ h.length) 0 (Ghost.hold [0, 1, 2, 3, 4, 22, 23, 24] rfl) (Nat.zero_le _) ?_
      rintro i i1
      refine exec_ok tab_ok mixed 1000 (bx := [true, false]) (own := []) ?_
      rcases Nat.lt_or_ge i h.length with hi | hi
      · obtain ⟨x, hx⟩ := at_lt hi
        have hi64 : i < 64 := by omega
        have hxo := (ha x (List.mem_of_getElem? hx)).1
        have hlen : (accL h s f dn v L i).length ≤ L.length + i * 7 ^ f := by
          rw [accL_eq, List.length_append]
          have := flat_len (stepL_len hn s f dn v) i
          omega
        have skip : ¬ okStep h s dn i x → stepL h s f dn v i = [] := fun g => by
          unfold stepL; rw [hx]; exact if_neg g
        have skipH : ¬ okStep h s dn i x → outH (accV h s f dn v ver (i + 1)) (accL h s f dn v L (i + 1)) = outH (accV h s f dn v ver i) (accL h s f dn v L i) := fun g => by
          rw [accV, accL, skip g, List.append_nil]; rfl
        have hoH : ∀ ob ∈ outH (accV h s f dn v ver (i + 1)) (accL h s f dn v L (i + 1)), ob.sc 2 := sc_outH _ _
        by_cases b1 : bitP s i
        · by_cases b2 : bitP dn i
          · repeat' ((conv => whnf); first
              | refine Exists.intro _ (And.intro (map_at (by omega) hx) ?_) | refine And.intro (by decide) ?_ | refine And.intro rfl ?_ | refine And.intro (by omega) ?_ | refine Exists.intro _ (And.intro (w64 (by omega) (by omega)) ?_) | refine Pure.call (f39_ok _ _ hs hi64) ?_ | refine Pure.call (f39_ok _ _ hdn hi64) ?_ | refine boolF_not ?_ | refine boolF_dect (by assumption) ?_ | refine boolF_dect (by omega) ?_)
            all_goals (conv => whnf)
            exact ⟨i + 1, Ghost.back [0, 1, 2, 3, 4, 22, 23, 24] 2 rfl (by rw [skipH (fun g => g.2.1 b2)]; rfl) (Nat.le_refl _) (by simp [scs, D.sc, scd24, scd34]) hoH, hi, by omega⟩
          · repeat' ((conv => whnf); first
              | refine Exists.intro _ (And.intro (map_at (by omega) hx) ?_) | refine And.intro (by decide) ?_ | refine And.intro rfl ?_ | refine And.intro (by omega) ?_ | refine Exists.intro _ (And.intro (⟨(List.length_map _).symm⟩) ?_) | refine Pure.call (f39_ok _ _ hs hi64) ?_ | refine Pure.call (f39_ok _ _ hdn hi64) ?_ | refine boolF_not ?_ | refine boolF_dect (by assumption) ?_ | refine boolF_decf (by assumption) ?_ | refine boolF_dect (by omega) ?_)
            all_goals (conv => whnf)
            refine W_loopG (ι := Nat × Bool) (fun e => ⟨(d34 v :: d24 h :: .int .u64 (s : Int) :: .int .u64 (dn : Int) :: .fn 23 [.p 0 0 0 0] :: D.undef :: D.undef :: D.undef :: D.undef :: D.undef :: .int .i64 (i : Int) :: .p 2 0 0 0 :: .bool e.2 :: D.undef :: D.undef :: D.undef :: D.undef :: D.undef :: D.undef :: D.undef :: D.undef :: D.undef :: d24 h :: .int .i64 (h.length : Int) :: .int .i64 (i : Int) :: D.undef :: D.undef :: D.undef :: D.undef :: D.undef :: D.undef :: D.undef :: D.undef :: D.undef :: D.undef :: D.undef :: D.undef :: D.undef :: d24 h :: .int .i64 (h.length : Int) :: .int .i64 (e.1 : Int) :: D.undef :: D.undef :: D.undef :: D.undef :: D.undef :: D.undef :: D.undef :: D.undef :: D.undef :: D.undef :: D.undef :: D.undef :: D.undef :: D.undef :: D.undef :: D.undef :: D.undef :: D.undef :: D.undef :: D.undef :: D.undef :: D.undef :: D.undef :: D.undef :: D.undef :: D.undef :: D.undef :: D.undef :: D.undef :: D.undef :: D.undef :: D.undef :: D.undef :: D.undef :: D.undef :: D.undef :: D.undef :: []), outH (accV h s f dn v ver i) (accL h s f dn v L i) ++ [.arr 0 6 [d42 x]]⟩) (fun e => h.length - e.1)
              (fun e => e.1 ≤ h.length ∧ (e.2 = true ↔ ∀ j y, j < e.1 → h[j]? = some y → bitP dn j ∨ ¬ aheadD y x)) (0, true) (Ghost.hold [0, 1, 2, 3, 4, 10, 11, 12, 22, 23, 24, 38, 39, 40] rfl) ⟨Nat.zero_le _, fun _ j y h0 => absurd h0 (Nat.not_lt_zero _), fun _ => rfl⟩ ?_
            rintro ⟨k, b⟩ ⟨k1, k2⟩
            dsimp only at k1 k2 ⊢
            refine exec_ok tab_ok mixed 1000 (bx := [true, false, true]) (own := []) ?_
            rcases Nat.lt_or_ge k h.length with hk | hk
            · obtain ⟨y, hy⟩ := at_lt hk
              have hk64 : k < 64 := by omega
              have next : ∀ b', (b' = true ↔ b = true ∧ (bitP dn k ∨ ¬ aheadD y x)) → (b' = true ↔ ∀ j z, j < k + 1 → h[j]? = some z → bitP dn j ∨ ¬ aheadD z x) := fun b' hb' => by
                rw [hb', k2]
                constructor
                · rintro ⟨g1, g2⟩ j z hj hz
                  rcases Nat.lt_or_ge j k with h3 | h3
                  · exact g1 j z h3 hz
                  · obtain rfl : j = k := by omega
                    rw [hy] at hz; cases hz
                    exact g2
                · exact fun g => ⟨fun j z hj hz => g j z (by omega) hz, g k y (by omega) hy⟩
              cases b with
              | false =>
                repeat' ((conv => whnf); first
                  | refine PairK.mk (by kernel_rfl) ?_ | refine Exists.intro _ (And.intro (w64 (by omega) (by omega)) ?_) | refine boolF_dect (by omega) ?_)
                all_goals (conv => whnf)
                exact ⟨(k + 1, false), Ghost.hold [0, 1, 2, 3, 4, 10, 11, 12, 22, 23, 24, 38, 39, 40] rfl, ⟨hk, next _ (by simp)⟩, by dsimp only; omega⟩
              | true =>
                by_cases b3 : bitP dn k
                · repeat' ((conv => whnf); first
                    | refine PairK.mk (by kernel_rfl) ?_ | refine Exists.intro _ (And.intro (w64 (by omega) (by omega)) ?_) | refine Pure.locK (f39_ok _ _ hdn hk64) ?_ | refine boolF_dect (by assumption) ?_ | refine boolF_dect (by omega) ?_)
                  all_goals (conv => whnf)
                  exact ⟨(k + 1, true), Ghost.hold [0, 1, 2, 3, 4, 10, 11, 12, 22, 23, 24, 38, 39, 40] rfl, ⟨hk, next _ (by simp [b3])⟩, by dsimp only; omega⟩
                · repeat' ((conv => whnf); first
                    | refine PairK.mk (by kernel_rfl) ?_ | refine Exists.intro _ (And.intro (map_at (by omega) hy) ?_) | refine And.intro (by decide) ?_ | refine And.intro rfl ?_ | refine And.intro (by omega) ?_ | refine Exists.intro _ (And.intro (w64 (by omega) (by omega)) ?_) | refine Pure.locK (f39_ok _ _ hdn hk64) ?_ | refine Pure.locK (f40_ok _ _) ?_ | refine boolF_decf (by assumption) ?_ | refine boolF_dect (by omega) ?_)
                  all_goals (conv => whnf)
                  exact ⟨(k + 1, !decide (aheadD y x)), Ghost.hold [0, 1, 2, 3, 4, 10, 11, 12, 22, 23, 24, 38, 39, 40] rfl, ⟨hk, next _ (by simp [b3])⟩, by dsimp only; omega⟩
            · cases b with
              | false =>
                have hno : ¬ okStep h s dn i x := fun g => by
                  have := k2.mpr fun j y _ hy => g.2.2 j y hy
                  cases this
                repeat' ((conv => whnf); first
                  | refine Exists.intro _ (And.intro (w64 (by omega) (by omega)) ?_) | refine boolF_decf (by omega) ?_)
                all_goals (conv => whnf)
                exact ⟨i + 1, Ghost.back [0, 1, 2, 3, 4, 22, 23, 24] 2 rfl (by rw [skipH hno]; rfl) (Nat.le_refl _) (by simp [scs, D.sc, scd24, scd34]) hoH, hi, by omega⟩
              | true =>
                have hyes : okStep h s dn i x := ⟨b1, b2, fun j y hy => k2.mp rfl j y (by have := (List.getElem?_eq_some_iff.mp hy).1; omega) hy⟩
                have hst : stepL h s f dn v i = ordL h s f (dn ||| 2 ^ i) (doO v x.op_) := by
                  unfold stepL; rw [hx]; exact if_pos hyes
                have hok : okOp v.length x.op_ := by rw [hv]; exact hxo
                have hap : applyM v [x.op_] = (doO v x.op_, 0) := by
                  rw [applyM, if_neg (by omega), if_pos (show allOk v.length [x.op_] from fun o ho => by rw [List.mem_singleton.mp ho]; exact hok)]; rfl
                have h41 := (f41_own v [x.op_] (by omega) (by simp) (fun o ho => by rw [List.mem_singleton.mp ho]; have := hok.2.2.2; omega)).pure
                rw [hap] at h41
                dsimp only at h41
                have hi2 : 2 ^ i < 18446744073709551616 := Nat.pow_lt_pow_right (a := 2) (by omega) hi64
                have hor : dn ||| 2 ^ i < 18446744073709551616 := Nat.or_lt_two_pow (n := 64) hdn hi2
                have hbf : mk dn i = false := by simpa using (show ¬ mk dn i = true from b2)
                have hpow : (i + 1) * 7 ^ f ≤ 7 ^ (f + 1) := by rw [Nat.pow_succ, Nat.mul_comm]; exact Nat.mul_le_mul_left _ (by omega)
                have hrec := f22_ok h s n hn hs hn2 ha f (dn ||| 2 ^ i) (doO v x.op_) (accL h s f dn v L i) (accV h s f dn v ver i) (by rw [or_mk]; have := rem_with hi hbf; omega) hor ((do_at hok).1.trans hv) (by rw [Nat.succ_mul] at hpow; omega)
                rw [← hst] at hrec
                repeat' ((conv => whnf); first
                  | refine powK_lt hi64 ?_ | refine Exists.intro _ (And.intro (shl_eq hi64) ?_) | refine Exists.intro _ (And.intro (u64or hdn hi2) ?_) | refine TurnsM.call hrec [0, 1] (by decide) rfl (fun k => arg22 k _ _ _ _) (fun k => ren_sc0 _ (.tup []) trivial) (has_outH rfl rfl) (fun k => ren_outH _ _ _) ?_ | refine And.intro (by decide) ?_ | refine And.intro (Nat.le_of_ble_eq_true rfl) ?_ | refine Exists.intro _ (And.intro (w64 (by omega) (by omega)) ?_) | refine Pure.call (h41) ?_ | refine boolF_decf (by omega) ?_)
                all_goals (conv => whnf)
                exact ⟨i + 1, Ghost.back [0, 1, 2, 3, 4, 22, 23, 24] 2 rfl rfl (Nat.le_refl _) (by simp [scs, D.sc, scd24, scd34]) hoH, hi, by omega⟩
        · repeat' ((conv => whnf); first
            | refine Exists.intro _ (And.intro (map_at (by omega) hx) ?_) | refine And.intro (by decide) ?_ | refine And.intro rfl ?_ | refine And.intro (by omega) ?_ | refine Exists.intro _ (And.intro (w64 (by omega) (by omega)) ?_) | refine Pure.call (f39_ok _ _ hs hi64) ?_ | refine boolF_not ?_ | refine boolF_decf (by assumption) ?_ | refine boolF_dect (by omega) ?_)
          all_goals (conv => whnf)
          exact ⟨i + 1, Ghost.back [0, 1, 2, 3, 4, 22, 23, 24] 2 rfl (by rw [skipH (fun g => b1 g.1)]; rfl) (Nat.le_refl _) (by simp [scs, D.sc, scd24, scd34]) hoH, hi, by omega⟩
      · repeat' ((conv => whnf); first
          | refine boolF_decf (by omega) ?_)
        all_goals (conv => whnf)
        exact ⟨rfl, hfin i (by omega)⟩

end Go.Proofs.Ytlfbchkcgchoaaa.C


namespace Go.Proofs.Ytlfbchkcgchoaaa.C
open Go.A
set_option linter.unusedVariables false
set_option linter.unusedSimpArgs false
set_option linter.unnecessarySimpa false
attribute [local irreducible] IntKind.wrap bitsI
open B
set_option maxRecDepth 100000
set_option maxHeartbeats 4000000

def atL (L : List (List Nat)) (j : Nat) : List Nat := (L[j]?).getD []
theorem atL_get {L : List (List Nat)} {j : Nat} (h : j < L.length) : L[j]? = some (atL L j) := by
  rw [atL, List.getElem?_eq_getElem h]; rfl
/-- Without what is told twice, one behind the other. -/
def cpL (L : List (List Nat)) : Nat → List (List Nat)
  | 0 => []
  | j + 1 => if 0 < j ∧ atL L j = atL L (j - 1) then cpL L j else cpL L j ++ [atL L j]
def cpt (L : List (List Nat)) : List (List Nat) := cpL L L.length
def cptH (ver : Nat) (L : List (List Nat)) : AObj := .arr ver 1 ((cpt L).map r34 ++ List.replicate (L.length - (cpt L).length) .nils)
theorem cpL_take {L : List (List Nat)} {k : Nat} (hk : k ≤ L.length) (h : ∀ j, 0 < j → j < k → atL L j ≠ atL L (j - 1)) : cpL L k = L.take k := by
  induction k with
  | zero => rfl
  | succ k ih =>
    rw [cpL, if_neg (fun g => h k g.1 (by omega) g.2), ih (by omega) fun j h1 h2 => h j h1 (by omega), take_snoc (atL_get (by omega))]
theorem cpL_le (L : List (List Nat)) : ∀ j, (cpL L j).length ≤ j
  | 0 => Nat.le_refl _
  | j + 1 => by
    rw [cpL]
    have := cpL_le L j
    split
    · omega
    · rw [List.length_append, List.length_singleton]; omega
theorem row_at {A L : List (List Nat)} {m j : Nat} (hm : m = A.length) (hj : m ≤ j) (hl : j < L.length) : (A ++ L.drop m)[j]? = some (atL L j) := by
  rw [List.getElem?_append_right (by omega), List.getElem?_drop, show m + (j - A.length) = j by omega, atL_get hl]
theorem row_set {A L : List (List Nat)} {m : Nat} {x : List Nat} (hm : m = A.length) (hl : m < L.length) : (A ++ L.drop m).set m x = (A ++ [x]) ++ L.drop (m + 1) := by
  rw [List.set_append_right _ _ (by omega), hm, Nat.sub_self, List.drop_eq_getElem_cons (by omega), List.set_cons_zero, List.append_assoc]
  rfl
theorem row_len {A L : List (List Nat)} {m : Nat} (hm : m = A.length) (hl : m ≤ L.length) : (A ++ L.drop m).length = L.length := by
  rw [List.length_append, List.length_drop]; omega

theorem f26_own (L : List (List Nat)) (ver : Nat) (hL : ∀ x ∈ L, x.length ≤ 140737488351232) (hn : L.length ≤ 1000000000) : Go.A.CallsIn Try.prog 26 [.h 0 ver 0 L.length, .fn 27 []] [oL ver L] fun r H' => r = .h 0 ver 0 (cpt L).length ∧ H' = [cptH ver L] := by
  refine Go.A.CallsIn.of_exec tab_ok mixed Try.func26 rfl rfl [] [false] ?_
  have same : (∀ j, 0 < j → j < L.length → atL L j ≠ atL L (j - 1)) → cpt L = L := fun h => by rw [cpt, cpL_take (Nat.le_refl _) h, List.take_length]
  have sameH : cpt L = L → [cptH ver L] = [oL ver L] := fun e => by rw [cptH, e, Nat.sub_self, List.replicate_zero, List.append_nil]; rfl
  by_cases h2 : L.length < 2
  · have e := same fun j h3 h4 => by omega
    rw [sameH e, e]
    repeat' ((conv => whnf); first
      | refine And.intro rfl ?_ | refine boolF_dect (by omega) ?_)
    all_goals (conv => whnf)
    exact ⟨rfl, rfl⟩
  · repeat' ((conv => whnf); first
      | refine And.intro rfl ?_ | refine boolF_decf (by omega) ?_)
    all_goals (conv => whnf)
    refine W_loopG (ι := Nat) (fun k => ⟨(.h 0 ver 0 L.length :: .fn 27 [] :: D.undef :: D.undef :: D.undef :: .int .i64 (k : Int) :: D.undef :: D.undef :: D.undef :: D.undef :: D.undef :: D.undef :: D.undef :: D.undef :: D.undef :: D.undef :: D.undef :: D.undef :: D.undef :: D.undef :: D.undef :: D.undef :: D.undef :: D.undef :: D.undef :: D.undef :: D.undef :: D.undef :: D.undef :: D.undef :: D.undef :: D.undef :: D.undef :: D.undef :: D.undef :: D.undef :: D.undef :: D.undef :: D.undef :: D.undef :: D.undef :: D.undef :: D.undef :: D.undef :: D.undef :: D.undef :: D.undef :: D.undef :: D.undef :: D.undef :: D.undef :: D.undef :: D.undef :: D.undef :: D.undef :: D.undef :: D.undef :: D.undef :: D.undef :: D.undef :: D.undef :: D.undef :: D.undef :: D.undef :: D.undef :: D.undef :: []), [oL ver L]⟩) (fun k => L.length - k)
      (fun k => 1 ≤ k ∧ k ≤ L.length ∧ ∀ j, 0 < j → j < k → atL L j ≠ atL L (j - 1)) 1 (Ghost.hold [0, 1, 5] rfl) ⟨Nat.le_refl _, by omega, fun j h3 h4 => by omega⟩ ?_
    rintro k ⟨k0, k1, k2⟩
    refine exec_ok tab_ok mixed 1000 (bx := [false]) (own := []) ?_
    rcases Nat.lt_or_ge k L.length with hk | hk
    · have hx := atL_get hk
      have hy := atL_get (L := L) (j := k - 1) (by omega)
      have hbx := hL _ (List.mem_of_getElem? hx)
      have hby := hL _ (List.mem_of_getElem? hy)
      obtain ⟨p, hp⟩ : ∃ p, p = atL L k := ⟨_, rfl⟩
      obtain ⟨q, hq⟩ : ∃ q, q = atL L (k - 1) := ⟨_, rfl⟩
      rw [← hp] at hx hbx
      rw [← hq] at hy hby
      by_cases hpq : p = q
      · repeat' ((conv => whnf); first
          | refine PairK.mk (by kernel_rfl) ?_ | refine Exists.intro _ (And.intro (map_at (by omega) hx) ?_) | refine Exists.intro _ (And.intro (map_at (by omega) hy) ?_) | refine And.intro (by decide) ?_ | refine And.intro rfl ?_ | refine And.intro (by omega) ?_ | refine And.intro (by simp only [List.length_map, List.length_append, List.length_cons, List.length_nil]; omega) ?_ | refine Exists.intro _ (And.intro (⟨Eq.refl (α := Int) _⟩) (And.intro (by omega) ?_)) | refine Exists.intro _ (Exists.intro _ (And.intro (⟨Eq.refl (α := Nat) _⟩) (And.intro (⟨Eq.refl (α := Nat) _⟩) ?_)))
          | refine Exists.intro _ (And.intro (w64 (by omega) (by omega)) ?_) | refine Pure.locK (f27_ok _ _ hbx hby) ?_ | refine boolF_dect (by assumption) ?_ | refine boolF_dect (by omega) ?_)
        all_goals (conv => whnf)
        have hcp1 : (cpL L (k + 1)).length = k := by
          rw [cpL, if_pos ⟨k0, by rw [← hp, ← hq]; exact hpq⟩, cpL_take k1 k2, List.length_take]; omega
        refine W_loopG (ι := Nat) (fun e => ⟨(.h 0 ver 0 L.length :: .fn 27 [] :: D.undef :: D.undef :: D.undef :: .int .i64 ((cpL L (k + e)).length : Int) :: .h 0 ver (0 + k) (L.length - k) :: .int .i64 (e : Int) :: D.undef :: D.undef :: D.undef :: D.undef :: D.undef :: D.undef :: D.undef :: D.undef :: D.undef :: D.undef :: D.undef :: D.undef :: D.undef :: D.undef :: D.undef :: D.undef :: D.undef :: D.undef :: D.undef :: D.undef :: D.undef :: D.undef :: D.undef :: D.undef :: D.undef :: D.undef :: D.undef :: D.undef :: D.undef :: D.undef :: D.undef :: D.undef :: D.undef :: D.undef :: D.undef :: D.undef :: D.undef :: D.undef :: D.undef :: D.undef :: D.undef :: D.undef :: D.undef :: D.undef :: D.undef :: D.undef :: D.undef :: D.undef :: D.undef :: D.undef :: D.undef :: D.undef :: D.undef :: D.undef :: D.undef :: D.undef :: D.undef :: D.undef :: []), [oL ver (cpL L (k + e) ++ L.drop (cpL L (k + e)).length)]⟩) (fun e => L.length - e)
          (fun e => 1 ≤ e ∧ k + e ≤ L.length ∧ (cpL L (k + e)).length + 1 ≤ k + e) 1 (Ghost.hold [0, 1, 5, 6, 7] ?_) ⟨Nat.le_refl _, by omega, by rw [hcp1]; exact Nat.le_refl _⟩ ?_
        · dsimp only
          rw [hcp1, cpL, if_pos ⟨k0, by rw [← hp, ← hq]; exact hpq⟩, cpL_take k1 k2, List.take_append_drop]
          rfl
        · rintro e ⟨e1, e2, e3⟩
          dsimp only at e1 e2 e3 ⊢
          obtain ⟨m, hm⟩ : ∃ m, m = (cpL L (k + e)).length := ⟨_, rfl⟩
          have hrl := row_len (A := cpL L (k + e)) (L := L) hm (by omega)
          have hrow := fun j (hj : m ≤ j) (hl : j < L.length) => row_at (A := cpL L (k + e)) (L := L) hm hj hl
          have hrset := fun x (hl : m < L.length) => row_set (A := cpL L (k + e)) (L := L) (x := x) hm hl
          have hnext := show cpL L (k + (e + 1)) = _ from cpL.eq_2 L (k + e)
          rw [← hm] at e3 ⊢
          generalize hA : cpL L (k + e) = A at hrl hrow hrset hnext hm ⊢
          refine exec_ok tab_ok mixed 1000 (bx := [false]) (own := []) ?_
          rcases Nat.lt_or_ge (k + e) L.length with he | he
          · have hx := hrow (k + e) (by omega) he
            have hy := hrow (k + e - 1) (by omega) (by omega)
            have hbx := hL _ (List.mem_of_getElem? (atL_get he))
            have hby := hL _ (List.mem_of_getElem? (atL_get (L := L) (j := k + e - 1) (by omega)))
            obtain ⟨p', hp'⟩ : ∃ p', p' = atL L (k + e) := ⟨_, rfl⟩
            obtain ⟨q', hq'⟩ : ∃ q', q' = atL L (k + e - 1) := ⟨_, rfl⟩
            rw [← hp'] at hx hbx hnext
            rw [← hq'] at hy hby hnext
            by_cases hpq2 : p' = q'
            · repeat' ((conv => whnf); first
                | refine PairK.mk (by kernel_rfl) ?_ | refine Exists.intro _ (And.intro (map_at (by omega) hx) ?_) | refine Exists.intro _ (And.intro (map_at (by omega) hy) ?_) | refine And.intro (by rw [List.length_map, hrl]; omega) ?_ | refine And.intro (by decide) ?_ | refine And.intro rfl ?_ | refine And.intro (by omega) ?_ | refine Exists.intro _ (And.intro (w64 (by omega) (by omega)) ?_) | refine Pure.locK (f27_ok _ _ hbx hby) ?_ | refine boolF_not ?_ | refine boolF_dect (by assumption) ?_ | refine boolF_dect (by omega) ?_)
              all_goals (conv => whnf)
              rw [if_pos ⟨by omega, hpq2⟩] at hnext
              refine ⟨e + 1, Ghost.hold [0, 1, 5, 6, 7] ?_, ⟨by omega, by omega, by rw [hnext]; omega⟩, by omega⟩
              dsimp only
              rw [hnext, ← hm]
              rfl
            · rw [if_neg (fun g => hpq2 g.2)] at hnext
              have hz := hrow m (Nat.le_refl _) (by omega)
              repeat' ((conv => whnf); first
                | refine PairK.mk (by kernel_rfl) ?_ | refine Exists.intro _ (And.intro (map_at (by omega) hx) ?_) | refine Exists.intro _ (And.intro (map_at (by omega) hy) ?_) | refine Exists.intro _ (And.intro (map_at (by omega) hz) ?_) | refine And.intro (by rw [List.length_map, hrl]; omega) ?_ | refine And.intro (by decide) ?_ | refine And.intro rfl ?_ | refine And.intro (by omega) ?_ | refine Exists.intro _ (And.intro (w64 (by omega) (by omega)) ?_) | refine Pure.locK (f27_ok _ _ hbx hby) ?_ | refine boolF_not ?_ | refine boolF_decf (by assumption) ?_ | refine boolF_dect (by omega) ?_)
              all_goals (conv => whnf)
              refine ⟨e + 1, Ghost.hold [0, 1, 5, 6, 7] ?_, ⟨by omega, by omega, by rw [hnext, List.length_append, List.length_singleton]; omega⟩, by omega⟩
              dsimp only
              have er : ∀ (bb : Bool) (l : List D) (d : D), setRow bb l (0 + (m : Int).toNat) d = l.set m d := fun bb l d => by rw [setRow_eq]; congr 1; omega
              rw [hnext, List.length_append, List.length_singleton, ← hm, ← hrset p' (by omega)]
              rw [show (oL ver ((A ++ L.drop m).set m p')) = .arr ver 1 (((A ++ L.drop m).map r34).set m (r34 p')) by rw [oL, List.map_set], ← er false]
              rfl
          · have hkn : k + e = L.length := by omega
            have hcA : cpt L = A := by rw [cpt, ← hkn, hA]
            rw [hcA, ← hm]
            repeat' ((conv => whnf); first
              | refine And.intro (by decide) ?_ | refine And.intro rfl ?_ | refine Exists.intro _ (And.intro (⟨Eq.refl (α := Int) _⟩) (And.intro (by omega) ?_)) | refine Exists.intro _ (Exists.intro _ (And.intro (⟨Eq.refl (α := Nat) _⟩) (And.intro (⟨Eq.refl (α := Nat) _⟩) ?_))) | refine boolF_decf (by omega) ?_)
            all_goals (conv => whnf)
            refine ⟨rfl, ?_⟩
            show [AObj.arr ver 1 (spliceL ((A ++ L.drop m).map r34) (0 + m) (List.replicate (L.length - m) D.nils))] = _
            have e4 : spliceL ((A ++ L.drop m).map r34) (0 + m) (List.replicate (L.length - m) D.nils) = A.map r34 ++ List.replicate (L.length - A.length) D.nils := by
              unfold spliceL
              rw [Nat.zero_add, List.map_append, List.take_append_of_le_length (by rw [List.length_map]; omega), List.take_of_length_le (by rw [List.length_map]; omega), List.drop_of_length_le (by simp; omega), List.append_nil, hm]
            rw [e4, cptH, hcA]
      · repeat' ((conv => whnf); first
          | refine PairK.mk (by kernel_rfl) ?_ | refine Exists.intro _ (And.intro (map_at (by omega) hx) ?_) | refine Exists.intro _ (And.intro (map_at (by omega) hy) ?_) | refine And.intro (by decide) ?_ | refine And.intro rfl ?_ | refine And.intro (by omega) ?_ | refine And.intro (by simp only [List.length_map, List.length_append, List.length_cons, List.length_nil]; omega) ?_ | refine Exists.intro _ (And.intro (w64 (by omega) (by omega)) ?_) | refine Pure.locK (f27_ok _ _ hbx hby) ?_ | refine boolF_decf (by assumption) ?_ | refine boolF_dect (by omega) ?_)
        all_goals (conv => whnf)
        exact ⟨k + 1, Ghost.hold [0, 1, 5] rfl, ⟨by omega, hk, fun j h3 h4 => by
          rcases Nat.lt_or_ge j k with h5 | h5
          · exact k2 j h3 h5
          · obtain rfl : j = k := by omega
            rw [← hp, ← hq]; exact hpq⟩, by omega⟩
    · have e := same fun j h3 h4 => k2 j h3 (by omega)
      rw [sameH e, e]
      repeat' ((conv => whnf); first
        | refine And.intro rfl ?_ | refine boolF_decf (by omega) ?_)
      all_goals (conv => whnf)
      exact ⟨rfl, rfl⟩

end Go.Proofs.Ytlfbchkcgchoaaa.C


namespace Go.Proofs.Ytlfbchkcgchoaaa.C
open Go.A
set_option linter.unusedVariables false
set_option linter.unusedSimpArgs false
set_option linter.unnecessarySimpa false
attribute [local irreducible] IntKind.wrap bitsI
open B
set_option maxRecDepth 100000
set_option maxHeartbeats 4000000

def ltL (a b : List Nat) : Prop := cmpL a b < 0
def leL (a b : List Nat) : Prop := ¬ cmpL b a < 0
/-- Two ascending lists of the same things. -/
theorem asc_uniq : ∀ {l m : List (List Nat)}, l.Pairwise ltL → m.Pairwise ltL → (∀ x, x ∈ l ↔ x ∈ m) → l = m
  | [], [], _, _, _ => rfl
  | [], y :: m, _, _, h => by have := (h y).mpr List.mem_cons_self; cases this
  | x :: l, [], _, _, h => by have := (h x).mp List.mem_cons_self; cases this
  | x :: l, y :: m, hl, hm, h => by
    have hl1 := List.pairwise_cons.mp hl
    have hm1 := List.pairwise_cons.mp hm
    have hxy : x = y := by
      rcases List.mem_cons.mp ((h x).mp List.mem_cons_self) with e | h1
      · exact e
      · rcases List.mem_cons.mp ((h y).mpr List.mem_cons_self) with e | h2
        · exact e.symm
        · have h3 := cmpL_trans _ _ _ (hm1.1 x h1) (hl1.1 y h2)
          rw [cmpL_self] at h3; omega
    subst hxy
    refine congrArg _ (asc_uniq hl1.2 hm1.2 fun z => ?_)
    constructor
    · intro hz
      rcases List.mem_cons.mp ((h z).mp (List.mem_cons_of_mem _ hz)) with e | h1
      · have := hl1.1 z hz
        rw [e] at this
        have h4 : cmpL x x < 0 := this
        rw [cmpL_self] at h4; omega
      · exact h1
    · intro hz
      rcases List.mem_cons.mp ((h z).mpr (List.mem_cons_of_mem _ hz)) with e | h1
      · have := hm1.1 z hz
        rw [e] at this
        have h4 : cmpL x x < 0 := this
        rw [cmpL_self] at h4; omega
      · exact h1

theorem cpL_asc {L : List (List Nat)} (hL : L.Pairwise leL) : ∀ {j : Nat}, j ≤ L.length → (cpL L j).Pairwise ltL ∧ ∀ x, x ∈ cpL L j ↔ ∃ i, i < j ∧ atL L i = x
  | 0, _ => ⟨.nil, fun x => by simp [cpL]⟩
  | j + 1, hj => by
    obtain ⟨h1, h2⟩ := cpL_asc hL (j := j) (by omega)
    have hle : ∀ i k, i < k → k < L.length → leL (atL L i) (atL L k) := fun i k hik hk => by
      have := List.pairwise_iff_getElem.mp hL i k (by omega) hk hik
      have e1 : atL L i = L[i] := by rw [atL, List.getElem?_eq_getElem (by omega)]; rfl
      have e2 : atL L k = L[k] := by rw [atL, List.getElem?_eq_getElem hk]; rfl
      rw [e1, e2]; exact this
    rw [cpL]
    split
    · rename_i hc
      refine ⟨h1, fun x => (h2 x).trans ⟨fun ⟨i, hi, e⟩ => ⟨i, by omega, e⟩, fun ⟨i, hi, e⟩ => ?_⟩⟩
      rcases Nat.lt_or_ge i j with h3 | h3
      · exact ⟨i, h3, e⟩
      · obtain rfl : i = j := by omega
        exact ⟨i - 1, by omega, by rw [← hc.2]; exact e⟩
    · rename_i hc
      refine ⟨List.pairwise_append.mpr ⟨h1, List.pairwise_singleton _ _, fun x hx y hy => ?_⟩, fun x => ?_⟩
      · rw [List.mem_singleton.mp hy]
        obtain ⟨i, hi, rfl⟩ := (h2 x).mp hx
        have ha := hle i j hi (by omega)
        have hne : atL L i ≠ atL L j := fun e => by
          refine hc ⟨by omega, ?_⟩
          rcases Nat.lt_or_ge i (j - 1) with h3 | h3
          · have hb := hle i (j - 1) h3 (by omega)
            have hd := hle (j - 1) j (by omega) (by omega)
            rw [e] at hb
            exact cmpL_total hd hb
          · rw [← e]; congr 1; omega
        have hz := mt (cmpL_zero (atL L i) (atL L j)).mp hne
        have := cmpL_anti (atL L i) (atL L j)
        show cmpL _ _ < 0
        have ha' : ¬ cmpL (atL L j) (atL L i) < 0 := ha
        omega
      · rw [List.mem_append, List.mem_singleton, h2]
        constructor
        · rintro (⟨i, hi, e⟩ | e)
          · exact ⟨i, by omega, e⟩
          · exact ⟨j, by omega, e.symm⟩
        · rintro ⟨i, hi, e⟩
          rcases Nat.lt_or_ge i j with h3 | h3
          · exact .inl ⟨i, h3, e⟩
          · obtain rfl : i = j := by omega
            exact .inr e.symm
theorem cpt_asc {L : List (List Nat)} (hL : L.Pairwise leL) : (cpt L).Pairwise ltL ∧ ∀ x, x ∈ cpt L ↔ x ∈ L := by
  obtain ⟨h1, h2⟩ := cpL_asc hL (Nat.le_refl _)
  refine ⟨h1, fun x => (h2 x).trans ⟨fun ⟨i, hi, e⟩ => e ▸ List.mem_of_getElem? (atL_get hi), fun hx => ?_⟩⟩
  obtain ⟨i, hi⟩ := List.getElem?_of_mem hx
  have hl := (List.getElem?_eq_some_iff.mp hi).1
  exact ⟨i, hl, by rw [atL, hi]; rfl⟩

/- What orders hands on. -/
theorem rem_emp (n : Nat) : rem n emp = n := by
  induction n with
  | zero => rfl
  | succ n ih => rw [rem, ih]; rfl
theorem bits_eq {a b : Nat} (h : mk a = mk b) : a = b := Nat.eq_of_testBit_eq fun i => congrFun h i
theorem mem_step {h : List Dn} {s f dn : Nat} {v x : List Nat} (hne : dn ≠ s) : x ∈ ordL h s (f + 1) dn v ↔ ∃ i d, h[i]? = some d ∧ okStep h s dn i d ∧ x ∈ ordL h s f (dn ||| 2 ^ i) (doO v d.op_) := by
  rw [ordL, if_neg hne, List.mem_flatMap]
  constructor
  · rintro ⟨i, hi, hx⟩
    cases hd : h[i]? with
    | none => rw [hd] at hx; cases hx
    | some d =>
      rw [hd] at hx
      dsimp only at hx
      split at hx
      · rename_i hok; exact ⟨i, d, hd, hok, hx⟩
      · cases hx
  · rintro ⟨i, d, hd, hok, hx⟩
    refine ⟨i, List.mem_range.mpr (List.getElem?_eq_some_iff.mp hd).1, ?_⟩
    rw [hd]
    dsimp only
    rw [if_pos hok]; exact hx
theorem ord_sound {h : List Dn} {n s : Nat} : ∀ {f dn : Nat} {v x : List Nat}, Ord h n (mk dn) v → x ∈ ordL h s f dn v → Ord h n (mk s) x
  | 0, _, _, _, _, hx => by rw [ordL] at hx; cases hx
  | f + 1, dn, v, x, ho, hx => by
    by_cases hds : dn = s
    · rw [ordL, if_pos hds] at hx
      rw [List.mem_singleton.mp hx, ← hds]; exact ho
    · obtain ⟨i, d, hd, hok, hx⟩ := (mem_step hds).mp hx
      refine ord_sound (dn := dn ||| 2 ^ i) ?_ hx
      rw [or_mk]
      exact .snoc ho hd (by simpa using (show ¬ mk dn i = true from hok.2.1)) fun k e he hae => (hok.2.2 k e he).resolve_right fun g => g hae
theorem ord_compl {h : List Dn} {n s : Nat} {S : Mk} {v : List Nat} (ho : Ord h n S v) : (∀ k, S k = true → mk s k = true) → ∀ dn, mk dn = S → ∀ x, x ∈ ordL h s (rem h.length S + 1) dn v → x ∈ ordL h s (h.length + 1) 0 (zer n) := by
  induction ho with
  | nil =>
    intro _ dn hdn x hx
    rw [rem_emp] at hx
    rw [bits_eq (hdn.trans mk_zero.symm)] at hx
    exact hx
  | @snoc S0 x0 i d o hd hn hc ih =>
    intro hsub dn hdn x hx
    obtain ⟨s0, _, hs0⟩ := mk_of o
    have hi := (List.getElem?_eq_some_iff.mp hd).1
    have e1 : dn = s0 ||| 2 ^ i := bits_eq (by rw [hdn, or_mk, hs0])
    have hsi := hsub i ((Mk.with_at _ _ _).mpr (.inl rfl))
    refine ih (fun k hk => hsub k ((Mk.with_at _ _ _).mpr (.inr hk))) s0 hs0 x ?_
    have hne : s0 ≠ s := fun e => by rw [← e, hs0, hn] at hsi; cases hsi
    refine (mem_step hne).mpr ⟨i, d, hd, ⟨hsi, fun hb => ?_, fun k e he => ?_⟩, ?_⟩
    · have hb' : mk s0 i = true := hb
      rw [hs0, hn] at hb'; cases hb'
    · by_cases hae : aheadD e d
      · refine .inl ?_
        show mk s0 k = true
        rw [hs0]; exact hc k e he hae
      · exact .inr hae
    · rw [← rem_with hi hn, ← e1]; exact hx
theorem mem_ordL {h : List Dn} {n s : Nat} {x : List Nat} : x ∈ ordL h s (h.length + 1) 0 (zer n) ↔ Ord h n (mk s) x := by
  constructor
  · exact ord_sound (by rw [mk_zero]; exact .nil)
  · intro ho
    refine ord_compl ho (fun _ h => h) s rfl x ?_
    rw [ordL, if_pos rfl]; exact List.mem_singleton.mpr rfl

/- The cuts in order. -/
noncomputable def rawL (h : List Dn) (n : Nat) (a b : Int) : Nat → List (List Nat)
  | 0 => []
  | s + 1 => rawL h n a b s ++ (if mayD h s a b then ordL h s (h.length + 1) 0 (zer n) else [])
theorem mem_rawL {h : List Dn} {n : Nat} {a b : Int} {x : List Nat} : ∀ {s : Nat}, x ∈ rawL h n a b s ↔ ∃ r, r < s ∧ mayD h r a b ∧ Ord h n (mk r) x
  | 0 => by simp [rawL]
  | s + 1 => by
    rw [rawL, List.mem_append, mem_rawL (s := s)]
    constructor
    · rintro (⟨r, hr, h1⟩ | hx)
      · exact ⟨r, by omega, h1⟩
      · split at hx
        · rename_i hm; exact ⟨s, by omega, hm, mem_ordL.mp hx⟩
        · cases hx
    · rintro ⟨r, hr, hm, ho⟩
      rcases Nat.lt_or_ge r s with h3 | h3
      · exact .inl ⟨r, h3, hm, ho⟩
      · obtain rfl : r = s := by omega
        rw [if_pos hm]
        exact .inr (mem_ordL.mpr ho)
theorem raw_cut {h : List Dn} {n : Nat} {a b : Int} {x : List Nat} : x ∈ rawL h n a b (2 ^ h.length) ↔ Cut h n a b x := by
  rw [mem_rawL]
  constructor
  · rintro ⟨r, _, hm, ho⟩; exact ⟨_, ho, mayD_iff.mp hm⟩
  · rintro ⟨S, ho, hm⟩
    obtain ⟨r, hr, rfl⟩ := mk_of ho
    exact ⟨r, hr, mayD_iff.mpr hm, ho⟩
theorem raw_len {h : List Dn} (hn : h.length ≤ 6) (n : Nat) (a b : Int) : ∀ s, (rawL h n a b s).length ≤ s * 823543
  | 0 => Nat.le_refl _
  | s + 1 => by
    rw [rawL, List.length_append]
    have h1 := raw_len hn n a b s
    have h2 : (if mayD h s a b then ordL h s (h.length + 1) 0 (zer n) else []).length ≤ 823543 := by
      split
      · refine Nat.le_trans (ordL_len hn s _ _ _) (Nat.le_trans (Nat.pow_le_pow_right (by omega) (show h.length + 1 ≤ 7 by omega)) (by decide))
      · exact Nat.zero_le _
    omega
theorem cuts_ex (h : List Dn) (n : Nat) (a b : Int) : ∃ l : List (List Nat), l.Pairwise ltL ∧ ∀ x, x ∈ l ↔ Cut h n a b x := by
  have hs : ((rawL h n a b (2 ^ h.length)).mergeSort fun x y => !decide (cmpL y x < 0)).Pairwise leL := by
    have := List.pairwise_mergeSort (le := fun x y => !decide (cmpL y x < 0)) (fun x y z h1 h2 => by
      simp only [Bool.not_eq_true', decide_eq_false_iff_not] at h1 h2 ⊢
      exact cmpL_ntrans h2 h1) (fun x y => by
      simp only [Bool.or_eq_true, Bool.not_eq_true', decide_eq_false_iff_not]
      have := cmpL_anti x y
      omega) (rawL h n a b (2 ^ h.length))
    exact this.imp fun h1 => by simpa [leL] using h1
  obtain ⟨h1, h2⟩ := cpt_asc hs
  exact ⟨_, h1, fun x => (h2 x).trans (by rw [List.mem_mergeSort]; exact raw_cut)⟩
noncomputable def cutsL (h : List Dn) (n : Nat) (a b : Int) : List (List Nat) := Classical.choose (cuts_ex h n a b)
theorem cuts_asc (h : List Dn) (n : Nat) (a b : Int) : (cutsL h n a b).Pairwise ltL := (Classical.choose_spec (cuts_ex h n a b)).1
theorem mem_cuts {h : List Dn} {n : Nat} {a b : Int} {x : List Nat} : x ∈ cutsL h n a b ↔ Cut h n a b x := (Classical.choose_spec (cuts_ex h n a b)).2 x

end Go.Proofs.Ytlfbchkcgchoaaa.C


namespace Go.Proofs.Ytlfbchkcgchoaaa.C
open Go.A
set_option linter.unusedVariables false
set_option linter.unusedSimpArgs false
set_option linter.unnecessarySimpa false
attribute [local irreducible] IntKind.wrap bitsI
open B
attribute [local irreducible] powK
set_option maxRecDepth 100000
set_option maxHeartbeats 4000000

theorem W_opsA {P : Program} {T : Tab} (hT : TOk P T) {n : Nat} {own : List Nat} {id : Nat} {ops : Array Oper} {k : List A.Item} {Q : Exit → St → Prop} {l2 : List Nat} {X : List D → List AObj → List Bool → Prop}
    (hX : ∀ s H bx, X s H bx → W P n (.ops id ops l2 :: k) ⟨s, H⟩ Q) : ∀ {pre : List Oper} {l : List Nat} {s : List D} {H : List AObj} {bx : List Bool},
    l.map (fun i => ops[i]?) = pre.map some → runS P T n own ops.toList pre s H bx X → W P n (.ops id ops (l ++ l2) :: k) ⟨s, H⟩ Q
  | [], [], s, H, bx, _, h => hX _ _ _ h
  | [], i :: l, s, H, bx, hl, h => by simp at hl
  | o :: rest, [], s, H, bx, hl, h => by simp at hl
  | o :: rest, i :: l, s, H, bx, hl, h => by
    simp only [List.map_cons, List.cons.injEq] at hl
    rw [runS_cons] at h
    rcases guardF_ok h with ⟨h1, h2⟩ | ⟨h1, h2⟩
    · refine W_ops_cons hT (hd := ⟨ownAt own o.dst, none, n⟩) rfl ?_
      unfold stepK
      rw [hl.1]
      refine h2 s H _ _ (fun _ _ => rfl) ?_
      exact doS_ok h1 fun d H' bx' hx => W_opsA hT hX hl.2 (putK_iff.mp hx)
    · refine W_ops_cons hT (hd := { n := n }) rfl ?_
      unfold stepK
      rw [hl.1]
      refine h2 s H _ _ (fun _ _ => rfl) ?_
      exact W_opsA hT hX hl.2 (putK_iff.mp h1)

theorem W_opsB {P : Program} {T : Tab} (hT : TOk P T) {n : Nat} {own : List Nat} {id : Nat} {ops : Array Oper} {k : List A.Item} {Q : Exit → St → Prop} {l2 : List Nat} {X : List D → List AObj → List Bool → Prop} {s : List D} {H : List AObj} {bx : List Bool}
    (i j : Nat) (hij : i + j ≤ ops.size) (hX : ∀ s H bx, X s H bx → W P n (.ops id ops l2 :: k) ⟨s, H⟩ Q) (h : runS P T n own ops.toList ((ops.toList.drop i).take j) s H bx X) : W P n (.ops id ops (List.range' i j ++ l2) :: k) ⟨s, H⟩ Q := by
  refine W_opsA hT hX ?_ h
  apply List.ext_getElem?
  intro m
  simp only [List.getElem?_map, List.getElem?_range', List.getElem?_take, List.getElem?_drop]
  by_cases hm : m < j
  · rw [if_pos hm]
    have : i + m < ops.size := by omega
    simp [hm, this]
  · rw [if_neg hm]
    simp [hm]
theorem sc_cptH (k ver : Nat) (L : List (List Nat)) : scs k ((cpt L).map r34 ++ List.replicate (L.length - (cpt L).length) .nils) := by
  rw [scs_iff]
  intro d hd
  rcases List.mem_append.mp hd with h | h
  · obtain ⟨x, _, rfl⟩ := List.mem_map.mp h
    exact scd34 _ _
  · rw [(List.mem_replicate.mp h).2]; trivial
theorem f26_t (L : List (List Nat)) (ver n : Nat) (hl : n = L.length) (hL : ∀ x ∈ L, x.length ≤ 140737488351232) (hn : L.length ≤ 1000000000) : TurnsM Try.prog 26 [.h 0 ver 0 n, .fn 27 []] [oL ver L] (.h 0 ver 0 (cpt L).length) [cptH ver L] := by
  subst hl
  exact ⟨f26_own L ver hL hn, rfl, ⟨show 0 < 1 by decide, trivial, trivial⟩, fun ob h => by rw [List.mem_singleton.mp h]; exact scr34 _ _⟩
theorem f26_call {L : List (List Nat)} {ver n : Nat} (h : TurnsM Try.prog 26 [.h 0 ver 0 n, .fn 27 []] [oL ver L] (.h 0 ver 0 (cpt L).length) [cptH ver L]) {H : List AObj} (h1 : H[1]? = some (oL ver L)) {K : D → List AObj → Prop}
    (hk : setK H 1 (cptH ver L) fun H' => K (.h 1 ver 0 (cpt L).length) H') : Go.A.CallsIn Try.prog 26 [.h 1 ver 0 n, .fn 27 []] H K :=
  TurnsM.call (r := .h 1 ver 0 (cpt L).length) (Hn := [cptH ver L]) h [1] (by decide) rfl (fun k => rfl) (fun k => rfl) (fun k => by
    show [H[1]?] = [some (AObj.arr ver 1 (renL _ (L.map r34)))]
    rw [renL_sc0 _ _ (scr34 _ _), h1]; rfl) (fun k => by
    show [AObj.arr ver 1 (renL _ _)] = [cptH ver L]
    rw [renL_sc0 _ _ (sc_cptH _ ver _)]; rfl) hk

noncomputable def allM (n : Int) (a b : Int) (h : List Dn) : List (List Nat) × Int := if n < 0 ∨ 1024 < n then ([], 1) else if rightC n h = 0 then (cutsL h n.toNat a b, 0) else ([], rightC n h)
noncomputable def allR (n : Int) (a b : Int) (h : List Dn) : D := .tup [d25 (allM n a b h).1, .int .i64 (allM n a b h).2]
theorem scd25 (k : Nat) (L : List (List Nat)) : (d25 L).sc k := scr34 k L

theorem f9_ok (n : Int) (a b : Int) (h : List Dn) (hn : h.length ≤ 140737488351232) (hb : bigH h) : Pure Try.prog 9 [.int .i64 n, .int .i64 a, .int .i64 b, d24 h] (allR n a b h) := by
  refine Pure.ofT ⟨trivial, trivial, trivial, scd24 _ _, trivial⟩ ⟨scd25 _ _, trivial, trivial⟩ ?_
  refine Go.A.CallsIn.of_exec tab_ok mixed Try.func9 rfl rfl [] [] ?_
  by_cases h1 : n < 0
  · rw [allR, allM, if_pos (.inl h1)]
    repeat' ((conv => whnf); first
      | refine boolF_dect (by assumption) ?_)
    all_goals (conv => whnf)
    exact ⟨.wk (.tup (.cons .nils (.cons .refl .nil)))⟩
  · by_cases h2 : 1024 < n
    · rw [allR, allM, if_pos (.inr h2)]
      repeat' ((conv => whnf); first
        | refine boolF_dect (by assumption) ?_ | refine boolF_decf (by assumption) ?_)
      all_goals (conv => whnf)
      exact ⟨.wk (.tup (.cons .nils (.cons .refl .nil)))⟩
    · obtain ⟨m, rfl⟩ := Int.eq_ofNat_of_zero_le (a := n) (by omega)
      by_cases h3 : rightC m h = 0
      · rw [allR, allM, if_neg (by omega), if_pos h3, Int.toNat_natCast]
        obtain ⟨hn6, ha⟩ := rightC_ok h3
        repeat' ((conv => whnf); first
          | refine Pure.call (f20_ok _ _ hn hb) ?_ | refine boolF_not ?_ | refine boolF_dect (by assumption) ?_ | refine boolF_decf (by assumption) ?_)
        all_goals (conv => whnf)
        obtain ⟨N, hN⟩ : ∃ N, N = 2 ^ h.length := ⟨_, rfl⟩
        have hl64 : h.length < 64 := by omega
        have hsh : ((N : Nat) : Int) = IntKind.u64.wrap (((1 : Nat) : Int) * ((2 ^ h.length : Nat) : Int)) := by rw [hN]; exact shl_eq hl64
        have hN64 : N ≤ 64 := by rw [hN]; exact Nat.pow_le_pow_right (n := 2) (by omega) hn6
        refine W_ghost (s' := (.int .i64 (m : Int) :: .int .i64 a :: .int .i64 b :: d24 h :: D.undef :: D.undef :: D.undef :: D.undef :: D.undef :: D.undef :: D.undef :: .p 0 0 0 0 :: .int .u64 0 :: D.undef :: D.undef :: D.undef :: D.undef :: D.undef :: D.undef :: D.undef :: D.undef :: D.undef :: D.undef :: D.undef :: D.undef :: D.undef :: D.undef :: D.undef :: D.undef :: D.undef :: D.undef :: D.undef :: D.undef :: D.undef :: D.undef :: D.undef :: D.undef :: D.undef :: D.undef :: D.undef :: D.undef :: D.undef :: D.undef :: D.undef :: D.undef :: D.undef :: D.undef :: [])) (H' := outH 0 []) ((Ghost.hold [0, 1, 2, 3, 11, 12] rfl).trans (Ghost.matO (o := 0) (sz' := 1) rfl (.cons .nil .nil))) ?_
        refine W_loopG (ι := Nat × Nat) (fun e => ⟨(.int .i64 (m : Int) :: .int .i64 a :: .int .i64 b :: d24 h :: D.undef :: D.undef :: D.undef :: D.undef :: D.undef :: D.undef :: D.undef :: .p 0 0 0 0 :: .int .u64 (e.1 : Int) :: D.undef :: D.undef :: D.undef :: D.undef :: D.undef :: D.undef :: D.undef :: D.undef :: D.undef :: D.undef :: D.undef :: D.undef :: D.undef :: D.undef :: D.undef :: D.undef :: D.undef :: D.undef :: D.undef :: D.undef :: D.undef :: D.undef :: D.undef :: D.undef :: D.undef :: D.undef :: D.undef :: D.undef :: D.undef :: D.undef :: D.undef :: D.undef :: D.undef :: D.undef :: []), outH e.2 (rawL h m a b e.1)⟩) (fun e => N - e.1)
          (fun e => e.1 ≤ N) (0, 0) (Ghost.hold [0, 1, 2, 3, 11, 12] rfl) (Nat.zero_le _) ?_
        rintro ⟨s, ver⟩ s1
        dsimp only at s1 ⊢
        have hrl := raw_len hn6 m a b s
        rcases Nat.lt_or_ge s N with hs | hs
        · have hs64 : s < 18446744073709551616 := by omega
          have h21 := f21_ok h s a b hn6 hs64
          by_cases hm : mayD h s a b
          · refine exec_ok tab_ok mixed 10 (bx := [true, false]) (own := []) ?_
            repeat' ((conv => whnf); first
              | refine powK_lt hl64 ?_ | refine Exists.intro _ (And.intro (hsh) ?_) | refine Exists.intro _ (And.intro (⟨(List.length_map _).symm⟩) ?_) | refine Pure.call (h21) ?_ | refine boolF_dect (by assumption) ?_)
            all_goals (conv => whnf)
            refine W_region ?_
            show W _ _ (.ops _ _ (List.range' 0 2 ++ [2, 3, 4, 5]) :: _) _ _
            refine W_opsB tab_ok (own := []) (bx := [true, false]) (X := fun s' H _ => Ghost 0 s' H ((.int .i64 (m : Int) :: .int .i64 a :: .int .i64 b :: d24 h :: D.undef :: D.undef :: D.undef :: D.undef :: D.undef :: D.undef :: D.undef :: .p 0 0 0 0 :: .int .u64 (s : Int) :: D.undef :: D.undef :: D.undef :: D.undef :: D.undef :: D.undef :: D.undef :: D.undef :: D.undef :: D.undef :: D.undef :: D.undef :: D.undef :: D.undef :: D.undef :: D.undef :: D.undef :: D.undef :: D.undef :: D.undef :: D.undef :: D.undef :: D.undef :: D.undef :: D.undef :: d34 (zer m) :: D.undef :: D.undef :: D.undef :: D.undef :: D.undef :: D.undef :: D.undef :: D.undef :: [])) (outH ver (rawL h m a b s) ++ [.gone])) 0 2 (by decide) (fun s' H bx hg => W_ghost hg ?_) ?_
            · show W _ _ (.ops _ _ (List.range' 2 4) :: _) _ _
              refine W_opsR tab_ok (own := []) (bx := [true, false, false]) (X := fun s H bx => exec Try.prog _ 0 [] 1000 _ s H bx _) 2 4 (by decide) (fun s H bx h => exec_ok tab_ok mixed 1000 h) ?_
              have hord := f22_ok h s m hn6 hs64 (by omega) ha (h.length + 1) 0 (zer m) (rawL h m a b s) ver (by rw [mk_zero, rem_emp]; omega) (by decide) (zer_len m) (by
                have := Nat.pow_le_pow_right (n := 7) (by omega) (show h.length + 1 ≤ 7 by omega)
                omega)
              have hraw : rawL h m a b (s + 1) = rawL h m a b s ++ ordL h s (h.length + 1) 0 (zer m) := by rw [rawL, if_pos hm]
              rw [← hraw] at hord
              repeat' ((conv => whnf); first
                | refine TurnsM.call hord [0, 1] (by decide) rfl (fun k => arg22 k _ _ _ _) (fun k => ren_sc0 _ (.tup []) trivial) (has_outH rfl rfl) (fun k => ren_outH _ _ _) ?_ | refine Exists.intro _ (And.intro (u64add (by omega)) ?_))
              all_goals (conv => whnf)
              exact ⟨(s + 1, ver + (ordL h s (h.length + 1) 0 (zer m)).length), Ghost.back [0, 1, 2, 3, 11, 12] 2 rfl rfl (Nat.zero_le _) (by simp [scs, D.sc, scd24]) (sc_outH _ _), hs, by dsimp only; omega⟩
            · repeat' ((conv => whnf); first
                | refine And.intro (show ((8 : Nat) : Int) * (m : Int) ≤ 281474976710656 by omega) ?_ | refine And.intro rfl ?_ | refine And.intro (by omega) ?_)
              all_goals (conv => whnf)
              exact (Ghost.frzAt (o := 2) (t := 38) (xs := (zer m).map r53) (Nat.zero_le _) rfl rfl (by simp [zer]; exact .inr rfl)).trans (Ghost.hold [0, 1, 2, 3, 11, 12, 38] rfl)
          · refine exec_ok tab_ok mixed 1000 (bx := [true, false]) (own := []) ?_
            have hraw : rawL h m a b (s + 1) = rawL h m a b s := by rw [rawL, if_neg hm, List.append_nil]
            repeat' ((conv => whnf); first
              | refine powK_lt hl64 ?_ | refine Exists.intro _ (And.intro (hsh) ?_) | refine Exists.intro _ (And.intro (⟨(List.length_map _).symm⟩) ?_) | refine Exists.intro _ (And.intro (u64add (by omega)) ?_) | refine Pure.call (h21) ?_ | refine boolF_dect (by assumption) ?_ | refine boolF_decf (by assumption) ?_)
            all_goals (conv => whnf)
            exact ⟨(s + 1, ver), Ghost.hold [0, 1, 2, 3, 11, 12] (by dsimp only; rw [hraw]; rfl), hs, by dsimp only; omega⟩
        · refine exec_ok tab_ok mixed 1000 (bx := [true, false]) (own := []) ?_
          obtain rfl : s = 2 ^ h.length := by omega
          have hrows : ∀ x ∈ rawL h m a b (2 ^ h.length), x.length ≤ 140737488351232 := fun x hx => by
            obtain ⟨r, _, _, ho⟩ := mem_rawL.mp hx
            rw [ho.len ha]; omega
          repeat' ((conv => whnf); first
            | refine powK_lt hl64 ?_ | refine Exists.intro _ (And.intro (hsh) ?_) | refine And.intro (by decide) ?_ | refine Exists.intro _ (And.intro (⟨(List.length_map _).symm⟩) ?_) | refine boolF_decf (by omega) ?_)
          all_goals (conv => whnf)
          refine Go.A.CallsIn.mono (sort_ok _ hrows (by omega) 1 ver rfl) ?_
          rintro r H' ⟨rfl, L', hp, hsort, rfl⟩
          have h26 := f26_t L' ver (rawL h m a b (2 ^ h.length)).length hp.length_eq.symm (fun x hx => hrows x (hp.mem_iff.mp hx)) (by rw [hp.length_eq]; omega)
          have hcut : cpt L' = cutsL h m a b := by
            obtain ⟨q1, q2⟩ := cpt_asc hsort
            exact asc_uniq q1 (cuts_asc h m a b) fun x => by rw [q2, hp.mem_iff, raw_cut, mem_cuts]
          repeat' ((conv => whnf); first
            | refine f26_call h26 rfl ?_ | refine And.intro (by decide) ?_)
          all_goals (conv => whnf)
          refine ⟨Told.frz 1 rfl (.tup (.cons (.h ?_) (.cons (.refl _) .nil)))⟩
          rw [← hcut, List.drop_zero, List.take_append_of_le_length (by simp), List.take_of_length_le (by simp)]
      · rw [allR, allM, if_neg (by omega), if_neg h3]
        repeat' ((conv => whnf); first
          | refine Pure.call (f20_ok _ _ hn hb) ?_ | refine boolF_not ?_ | refine boolF_decf (by assumption) ?_)
        all_goals (conv => whnf)
        exact ⟨.wk (.tup (.cons .nils (.cons .refl .nil)))⟩

end Go.Proofs.Ytlfbchkcgchoaaa.C


namespace Go.Proofs.Ytlfbchkcgchoaaa.C
open Go.A
set_option linter.unusedVariables false
set_option linter.unusedSimpArgs false
set_option linter.unnecessarySimpa false
attribute [local irreducible] IntKind.wrap bitsI
open B
set_option maxRecDepth 100000
set_option maxHeartbeats 4000000

theorem f10_ok (h : List Dn) (hn : h.length * 64 ≤ 140737488355328) : Pure Try.prog 10 [d24 h] (d24 h) := by
  refine Pure.ofT ⟨scd24 _ _, trivial⟩ (scd24 _ _) ?_
  refine Go.A.CallsIn.of_exec tab_ok mixed Try.func10 rfl rfl [] [] ?_
  repeat' ((conv => whnf); first
    | refine Exists.intro _ (And.intro (⟨(List.length_map _).symm⟩) ?_))
  all_goals (conv => whnf)
  refine W_loopG (ι := Nat × Nat) (fun e => ⟨(D.undef :: D.undef :: D.undef :: .h 0 e.2 0 e.1 :: D.undef :: D.undef :: d24 h :: .int .i64 (h.length : Int) :: .int .i64 (e.1 : Int) :: D.undef :: D.undef :: D.undef :: D.undef :: D.undef :: D.undef :: D.undef :: D.undef :: D.undef :: D.undef :: D.undef :: D.undef :: D.undef :: D.undef :: D.undef :: []), [.arr e.2 6 ((h.take e.1).map r42)]⟩) (fun e => h.length - e.1)
    (fun e => e.1 ≤ h.length) (0, 0) ((Ghost.hold [3, 6, 7, 8] rfl).trans (Ghost.mat (t := 3) (sz := 6) rfl)) (Nat.zero_le _) ?_
  rintro ⟨i, ver⟩ i1
  dsimp only at i1 ⊢
  have htl : (h.take i).length = i := by rw [List.length_take]; omega
  rcases Nat.lt_or_ge i h.length with hi | hi
  · obtain ⟨x, hx⟩ := at_lt hi
    refine exec_ok tab_ok mixed 1000 (bx := [false]) (own := []) ?_
    repeat' ((conv => whnf); first
      | refine Exists.intro _ (And.intro (map_at (by omega) hx) ?_) | refine And.intro (by decide) ?_ | refine And.intro rfl ?_ | refine And.intro (Nat.le_of_ble_eq_true rfl) ?_ | refine And.intro (by omega) ?_ | refine And.intro (by simp only [List.length_map, List.length_append, List.length_cons, List.length_nil]; omega) ?_ | refine And.intro (okRows_one rfl rfl) ?_ | refine Exists.intro _ (And.intro (⟨len_one⟩) ?_) | refine Exists.intro _ (And.intro (⟨map_snoc⟩) ?_) | refine Exists.intro _ (And.intro (w64 (by omega) (by omega)) ?_) | refine boolF_dect (by omega) ?_)
    all_goals (conv => whnf)
    exact ⟨(i + 1, ver + 1), Ghost.back [3, 6, 7, 8] 1 rfl (by rw [take_snoc hx]; rfl) (Nat.zero_le _) (by simp [scs, D.sc, scd24]) (fun ob ho => by
      rw [List.mem_singleton.mp ho]; exact scr42 _ _), hi, by dsimp only; omega⟩
  · refine exec_ok tab_ok mixed 1000 (bx := [false]) (own := []) ?_
    repeat' ((conv => whnf); first
      | refine boolF_decf (by omega) ?_)
    all_goals (conv => whnf)
    refine ⟨Told.frz 0 rfl (.h ?_)⟩
    rw [List.take_of_length_le hi]
    exact all_take (by omega)

def wr (off : Int) (x : Nat) (a b : Int) : Dn := ⟨⟨1, off, 0, [x]⟩, a, b⟩
theorem f29_ok (off : Int) (x : Nat) (a b : Int) : Pure Try.prog 29 [.int .i64 off, .int .u64 (x : Int), .int .i64 a, .int .i64 b] (d42 (wr off x a b)) := by
  refine Pure.ofT ⟨trivial, trivial, trivial, trivial, trivial⟩ (scd42 _ _) ?_
  refine Go.A.CallsIn.of_exec tab_ok mixed Try.func29 rfl rfl [] [] ?_
  repeat' ((conv => whnf); first
    | refine And.intro (by decide) ?_ | refine Exists.intro _ (And.intro (Eq.refl (α := Option D) _) ?_))
  all_goals (conv => whnf)
  exact ⟨.refl⟩

def h2 : List Dn := [wr 0 1 0 5, wr 0 2 0 5]
theorem h2_at {k : Nat} {e : Dn} (h : h2[k]? = some e) : (k = 0 ∧ e = wr 0 1 0 5) ∨ (k = 1 ∧ e = wr 0 2 0 5) := by
  match k, h with
  | 0, h => exact .inl ⟨rfl, (Option.some.inj h).symm⟩
  | 1, h => exact .inr ⟨rfl, (Option.some.inj h).symm⟩
  | k + 2, h => cases h
theorem h2_not {k : Nat} {e d : Dn} {i : Nat} (h : h2[k]? = some e) (hd : h2[i]? = some d) : ¬ aheadD e d := by
  rcases h2_at h with ⟨_, rfl⟩ | ⟨_, rfl⟩ <;> rcases h2_at hd with ⟨_, rfl⟩ | ⟨_, rfl⟩ <;> decide
theorem h2_all : allD 1 h2 := by decide
theorem h2_right : rightC 1 h2 = 0 := by decide
theorem h2_cut {v : List Nat} : Cut h2 1 6 9 v ↔ v = [1] ∨ v = [2] := by
  constructor
  · rintro ⟨S, o, hm⟩
    cases o with
    | nil => exact absurd (show (0 : Int) ≤ 5 ∧ (5 : Int) < 6 by decide) ((hm 0 (wr 0 1 0 5) rfl).2 rfl)
    | @snoc S0 x0 i d o hd _ _ =>
      have hl := o.len h2_all
      have key : ∀ y : Nat, doO x0 (wr 0 y 0 5).op_ = [y] := fun y => by
        match x0, hl with
        | [z], _ => rfl
      rcases h2_at hd with ⟨_, rfl⟩ | ⟨_, rfl⟩
      · exact .inl (key 1)
      · exact .inr (key 2)
  · have hm : ∀ S : Mk, S 0 = true → S 1 = true → mayM h2 S 6 9 := fun S h0 h1 i d hd => by
      refine ⟨fun _ => ⟨?_, fun k e he hae => absurd hae (h2_not he hd)⟩, fun hf => ?_⟩
      · rcases h2_at hd with ⟨_, rfl⟩ | ⟨_, rfl⟩ <;> decide
      · rcases h2_at hd with ⟨rfl, _⟩ | ⟨rfl, _⟩
        · rw [h0] at hf; cases hf
        · rw [h1] at hf; cases hf
    have e0 : h2[0]? = some (wr 0 1 0 5) := rfl
    have e1 : h2[1]? = some (wr 0 2 0 5) := rfl
    rintro (rfl | rfl)
    · exact ⟨_, Ord.snoc (Ord.snoc (.nil (h := h2) (n := 1)) e1 rfl fun k e he hae => absurd hae (h2_not he e1)) e0 rfl fun k e he hae => absurd hae (h2_not he e0), hm _ rfl rfl⟩
    · exact ⟨_, Ord.snoc (Ord.snoc (.nil (h := h2) (n := 1)) e0 rfl fun k e he hae => absurd hae (h2_not he e0)) e1 rfl fun k e he hae => absurd hae (h2_not he e1), hm _ rfl rfl⟩
theorem h2_cuts : cutsL h2 1 6 9 = [[1], [2]] := asc_uniq (cuts_asc _ _ _ _) (by simp [ltL, cmpL, cmpN]) fun x => by rw [mem_cuts, h2_cut]; simp
theorem h2_big : bigH h2 := by intro d hd; rcases List.mem_cons.mp hd with rfl | hd
                               · decide
                               · rw [List.mem_singleton.mp hd]; decide
theorem a9 : Pure Try.prog 9 [.int .i64 1, .int .i64 6, .int .i64 9, d24 h2] (.tup [d25 [[1], [2]], .int .i64 0]) := by
  have h := f9_ok 1 6 9 h2 (by decide) h2_big
  rw [allR, allM, if_neg (by decide), if_pos h2_right, show (1 : Int).toNat = 1 from rfl, h2_cuts] at h
  exact h
theorem a15 (y : Nat) (b : Bool) (hb : b = decide (y = 1 ∨ y = 2)) : Pure Try.prog 15 [d34 [y], .int .i64 6, .int .i64 9, d24 h2] (.tup [.bool b, .int .i64 0]) := by
  have h := f15_ok [y] 6 9 h2 (by simp) (by decide) h2_big
  have e : isM [y] 6 9 h2 = (b, 0) := by
    rw [isM, if_neg (by simp), if_pos (show rightC (([y] : List Nat).length : Int) h2 = 0 from h2_right), hb]
    congr 1
    refine decide_eq_decide.mpr ?_
    show Cut h2 1 6 9 [y] ↔ _
    rw [h2_cut]; simp
  rw [isD, e] at h
  exact h
theorem a10 : Pure Try.prog 10 [d24 h2] (d24 h2) := f10_ok h2 (by decide)

theorem f13_ok : Pure Try.prog 13 [] (.bool true) := by
  refine Pure.of trivial trivial ?_
  refine Go.A.CallsIn.of_exec tab_ok mixed Try.func13 rfl rfl [] [] ?_
  repeat' ((conv => whnf); first
    | refine Exists.intro _ (And.intro (⟨(List.length_map _).symm⟩) ?_) | refine Pure.call (f29_ok _ _ _ _) ?_ | refine Pure.call (a10) ?_ | refine Pure.call (a9) ?_ | refine Pure.call (a15 2 true rfl) ?_ | refine Pure.call (a15 0 false rfl) ?_)
  all_goals (conv => whnf)
  exact ⟨rfl⟩

end Go.Proofs.Ytlfbchkcgchoaaa.C

