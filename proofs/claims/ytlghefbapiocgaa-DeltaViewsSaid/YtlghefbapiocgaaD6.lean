import Derived.Test.YtlghefbapiocgaaB10
-- merged
namespace Go.Proofs.Ytlghefbapiocgaa.V
open Go.A
set_option linter.unusedVariables false
set_option linter.unusedSimpArgs false
set_option linter.unnecessarySimpa false
attribute [local irreducible] IntKind.wrap bitsI

abbrev X := E.X
open E (listP mayX endX far rightP)

/-- The blocks of an extent, one by one. -/
def unitsOf (x : X) : List X := (List.range x.len_.toNat).map fun (k : Nat) => ⟨x.off_ + (k : Int), 1, x.phys_ + (k : Int), x.birth_⟩
def unitsX (l : List X) : List X := l.flatMap unitsOf
def seqU (l : List X) : List (List D) := (unitsX l).map fun u => [.int .i64 u.off_, d57 u]

theorem unitsOf_at {x : X} {k : Nat} (h : k < x.len_.toNat) : (unitsOf x)[k]? = some ⟨x.off_ + (k : Int), 1, x.phys_ + (k : Int), x.birth_⟩ := by
  simp [unitsOf, h]
theorem unitsX_take {l : List X} {i : Nat} {x : X} (h : l[i]? = some x) : unitsX (l.take (i + 1)) = unitsX (l.take i) ++ unitsOf x := by
  rw [take_snoc h]; simp [unitsX]
theorem unitsX_at {l : List X} {i k : Nat} {x : X} (h : l[i]? = some x) (hk : k < x.len_.toNat) : (unitsX l)[(unitsX (l.take i)).length + k]? = some ⟨x.off_ + (k : Int), 1, x.phys_ + (k : Int), x.birth_⟩ := by
  have e : unitsX l = unitsX (l.take i) ++ unitsOf x ++ unitsX (l.drop (i + 1)) := by
    rw [← unitsX_take h, unitsX, unitsX, unitsX, ← List.flatMap_append, List.take_append_drop]
  have hl : (unitsOf x).length = x.len_.toNat := by simp [unitsOf]
  rw [e, List.getElem?_append_left (by rw [List.length_append, hl]; omega), List.getElem?_append_right (by omega)]
  rw [Nat.add_sub_cancel_left]
  exact unitsOf_at hk

theorem f26_ok (l : List X) : Pure Try.prog 26 [d22 l] (.fn 44 [.pe [d22 l]]) := by
  refine Pure.ofT ⟨E.sc22 _ _, trivial⟩ ⟨⟨E.sc22 _ _, trivial⟩, trivial⟩ ?_
  refine Go.A.CallsIn.of_exec tab_ok mixed Try.func26 rfl rfl [] [] ?_
  (conv => whnf)
  exact ⟨Told.refl⟩

theorem each_it (l : List X) (hl : listP 0 l) (hlen : l.length ≤ 140737488351232) : IterOk Try.prog 44 [.pe [d22 l]] (seqU l) := by
  refine IterOk.of Try.func44 rfl rfl rfl ?_
  intro lp J B C hro hlt hgr hY a w N hB h0 hloc
  refine af_seq ?_
  refine LoI.seg hro hloc (hlt _ _ _ h0) hB [_] rfl (I := fun s => s = ((.raw (.func (.yield lp) #[] #[]) :: D.undef :: D.undef :: D.undef :: D.undef :: D.undef :: d22 l :: .int .i64 (l.length:Int) :: .int .i64 0 :: D.undef :: D.undef :: D.undef :: D.undef :: D.undef :: D.undef :: D.undef :: D.undef :: D.undef :: D.undef :: D.undef :: D.undef :: D.undef :: D.undef :: D.undef :: D.undef :: D.undef :: D.undef :: D.undef :: D.undef :: D.undef :: D.undef :: D.undef :: D.undef :: D.undef :: D.undef :: D.undef :: D.undef :: []))) ?_ ?_
  · refine exec_ok tab_ok mixed 1000 (bx := []) (own := []) ?_
    repeat' ((conv => whnf); first
      | refine Exists.intro _ (And.intro (⟨(List.length_map _).symm⟩) ?_))
    all_goals (conv => whnf)
    exact ⟨_, Ghost.hold [0, 6, 7, 8] rfl, rfl⟩
  rintro s a w' rfl hg hl'
  refine af_block ?_
  refine af_loop (fun m a w => ∃ i N, i ≤ l.length ∧ J (some (unitsX (l.take i)).length) w N ∧ LoI B N ((.raw (.func (.yield lp) #[] #[]) :: D.undef :: D.undef :: D.undef :: D.undef :: D.undef :: d22 l :: .int .i64 (l.length:Int) :: .int .i64 (i:Int) :: D.undef :: D.undef :: D.undef :: D.undef :: D.undef :: D.undef :: D.undef :: D.undef :: D.undef :: D.undef :: D.undef :: D.undef :: D.undef :: D.undef :: D.undef :: D.undef :: D.undef :: D.undef :: D.undef :: D.undef :: D.undef :: D.undef :: D.undef :: D.undef :: D.undef :: D.undef :: D.undef :: D.undef :: [])) a w ∧ B ≤ w.heap.size ∧ l.length - i = m) l.length
    ⟨0, N, Nat.zero_le _, hgr _ _ _ _ h0 hg, hl', Nat.le_trans hB hg.size, rfl⟩ ?_
  rintro m a w ⟨i, N, hi, hJ, hl1, hB1, rfl⟩
  refine af_seq ?_
  refine LoI.seg hro hl1 (hlt _ _ _ hJ) hB1 [_] rfl (I := fun s => s = ((.raw (.func (.yield lp) #[] #[]) :: D.undef :: D.undef :: D.undef :: D.undef :: D.undef :: d22 l :: .int .i64 (l.length:Int) :: .int .i64 (i:Int) :: .bool (decide ((i:Int) < (l.length:Int))) :: D.undef :: D.undef :: D.undef :: D.undef :: D.undef :: D.undef :: D.undef :: D.undef :: D.undef :: D.undef :: D.undef :: D.undef :: D.undef :: D.undef :: D.undef :: D.undef :: D.undef :: D.undef :: D.undef :: D.undef :: D.undef :: D.undef :: D.undef :: D.undef :: D.undef :: D.undef :: D.undef :: []))) ?_ ?_
  · refine exec_ok tab_ok mixed 1000 (bx := []) (own := []) ?_
    (conv => whnf)
    exact ⟨_, Ghost.hold [0, 6, 7, 8, 9] rfl, rfl⟩
  rintro s a w1 rfl hg1 hl2
  refine af_seq ?_
  refine af_cond hl2 (t := 9) rfl (fun hb => af_skip ?_) (fun hb => ?_)
  rotate_left
  · refine wpIn_exit ?_
    have hb' : ¬ ((i:Int) < (l.length:Int)) := of_decide_eq_false hb
    refine ⟨.inl rfl, _, N, some (seqU l).length, .inl rfl, ?_, hl2⟩
    have e : (seqU l).length = (unitsX (l.take i)).length := by
      rw [List.take_of_length_le (by omega), seqU, List.length_map]
    rw [e]
    exact hgr _ _ _ _ hJ hg1
  have hil : i < l.length := by have := of_decide_eq_true hb; omega
  obtain ⟨x, hx⟩ := at_lt hil
  obtain ⟨hm, _⟩ := E.listP_mem hl x (List.mem_of_getElem? hx)
  simp only [mayX, far] at hm
  have hJ1 := hgr _ _ _ _ hJ hg1
  have hB2 := Nat.le_trans hB1 hg1.size
  clear hJ hl1 hb hloc hl' h0 hg hg1
  refine af_seq ?_
  refine af_block ?_
  refine af_seq ?_
  refine LoI.seg hro hl2 (hlt _ _ _ hJ1) hB2 [_] rfl (I := fun s => s = ((.raw (.func (.yield lp) #[] #[]) :: D.undef :: D.undef :: D.undef :: .pe (c57 x) :: D.undef :: d22 l :: .int .i64 (l.length:Int) :: .int .i64 (i:Int) :: D.undef :: D.undef :: D.undef :: D.undef :: D.undef :: D.undef :: D.undef :: D.undef :: D.undef :: D.undef :: D.undef :: D.undef :: D.undef :: D.undef :: D.undef :: D.undef :: D.undef :: D.undef :: D.undef :: D.undef :: D.undef :: D.undef :: D.undef :: D.undef :: D.undef :: D.undef :: D.undef :: D.undef :: []))) ?_ ?_
  · refine exec_ok tab_ok mixed 1000 (bx := []) (own := []) ?_
    repeat' ((conv => whnf); first
      | refine Exists.intro _ (And.intro (map_at (by omega) hx) ?_) | refine And.intro (by decide) ?_ | refine And.intro rfl ?_ | refine And.intro (by omega) ?_)
    all_goals (conv => whnf)
    exact ⟨_, (Ghost.hold [0, 4, 6, 7, 8] rfl).trans ((Ghost.frzP (o := 0) (t := 4) (Nat.zero_le _) rfl rfl rfl).trans (Ghost.back [0, 4, 6, 7, 8] 0 rfl rfl (Nat.le_refl _) (by simp [keepL, scs, D.sc, D.cells, c57, d3, E.sc22]) (by simp))), rfl⟩
  rintro s a w2 rfl hg2 hl3
  have hJ2 := hgr _ _ _ _ hJ1 hg2
  have hB3 := Nat.le_trans hB2 hg2.size
  clear hJ1 hl2 hg2
  refine af_seq ?_
  refine LoI.seg hro hl3 (hlt _ _ _ hJ2) hB3 [_] rfl (I := fun s => s = ((.raw (.func (.yield lp) #[] #[]) :: D.undef :: D.undef :: D.undef :: .pe (c57 x) :: D.undef :: d22 l :: .int .i64 (l.length:Int) :: .int .i64 (i:Int) :: D.undef :: D.undef :: D.undef :: D.undef :: .int .i64 x.len_ :: .int .i64 0 :: D.undef :: D.undef :: D.undef :: D.undef :: D.undef :: D.undef :: D.undef :: D.undef :: D.undef :: D.undef :: D.undef :: D.undef :: D.undef :: D.undef :: D.undef :: D.undef :: D.undef :: D.undef :: D.undef :: D.undef :: D.undef :: D.undef :: []))) ?_ ?_
  · refine exec_ok tab_ok mixed 1000 (bx := []) (own := []) ?_
    (conv => whnf)
    exact ⟨_, Ghost.hold [0, 4, 6, 7, 8, 13, 14] rfl, rfl⟩
  rintro s a w3 rfl hg3 hl4
  refine af_block ?_
  refine af_loop (fun m a w => ∃ k N, k ≤ x.len_.toNat ∧ J (some ((unitsX (l.take i)).length + k)) w N ∧ LoI B N ((.raw (.func (.yield lp) #[] #[]) :: D.undef :: D.undef :: D.undef :: .pe (c57 x) :: D.undef :: d22 l :: .int .i64 (l.length:Int) :: .int .i64 (i:Int) :: D.undef :: D.undef :: D.undef :: D.undef :: .int .i64 x.len_ :: .int .i64 (k:Int) :: D.undef :: D.undef :: D.undef :: D.undef :: D.undef :: D.undef :: D.undef :: D.undef :: D.undef :: D.undef :: D.undef :: D.undef :: D.undef :: D.undef :: D.undef :: D.undef :: D.undef :: D.undef :: D.undef :: D.undef :: D.undef :: D.undef :: [])) a w ∧ B ≤ w.heap.size ∧ x.len_.toNat - k = m) x.len_.toNat
    ⟨0, N, Nat.zero_le _, hgr _ _ _ _ hJ2 hg3, hl4, Nat.le_trans hB3 hg3.size, rfl⟩ ?_
  clear hJ2 hl3 hl4 hg3
  rintro m a w ⟨k, N, hk, hJ, hl1, hB1, rfl⟩
  refine af_seq ?_
  refine LoI.seg hro hl1 (hlt _ _ _ hJ) hB1 [_] rfl (I := fun s => s = ((.raw (.func (.yield lp) #[] #[]) :: D.undef :: D.undef :: D.undef :: .pe (c57 x) :: D.undef :: d22 l :: .int .i64 (l.length:Int) :: .int .i64 (i:Int) :: D.undef :: D.undef :: D.undef :: D.undef :: .int .i64 x.len_ :: .int .i64 (k:Int) :: .bool (decide ((k:Int) < x.len_)) :: D.undef :: D.undef :: D.undef :: D.undef :: D.undef :: D.undef :: D.undef :: D.undef :: D.undef :: D.undef :: D.undef :: D.undef :: D.undef :: D.undef :: D.undef :: D.undef :: D.undef :: D.undef :: D.undef :: D.undef :: D.undef :: []))) ?_ ?_
  · refine exec_ok tab_ok mixed 1000 (bx := []) (own := []) ?_
    (conv => whnf)
    exact ⟨_, Ghost.hold [0, 4, 6, 7, 8, 13, 14, 15] rfl, rfl⟩
  rintro s a w1 rfl hg1 hl2
  have hJ1 := hgr _ _ _ _ hJ hg1
  have hB2 := Nat.le_trans hB1 hg1.size
  clear hJ hl1 hg1
  refine af_seq ?_
  refine af_cond hl2 (t := 15) rfl (fun hb => af_skip ?_) (fun hb => ?_)
  rotate_left
  · -- the extent is done
    refine wpIn_exit ?_
    have hb' : ¬ ((k:Int) < x.len_) := of_decide_eq_false hb
    have hkx : k = x.len_.toNat := by omega
    show after _ _ [A.Item.code _] _ .normal _ _
    refine LoI.seg hro hl2 (hlt _ _ _ hJ1) hB2 [_] rfl (I := fun s => s = ((.raw (.func (.yield lp) #[] #[]) :: D.undef :: D.undef :: D.undef :: D.undef :: D.undef :: d22 l :: .int .i64 (l.length:Int) :: .int .i64 ((i + 1 : Nat):Int) :: D.undef :: D.undef :: D.undef :: D.undef :: D.undef :: D.undef :: D.undef :: D.undef :: D.undef :: D.undef :: D.undef :: D.undef :: D.undef :: D.undef :: D.undef :: D.undef :: D.undef :: D.undef :: D.undef :: D.undef :: D.undef :: D.undef :: D.undef :: D.undef :: D.undef :: D.undef :: D.undef :: D.undef :: []))) (k := []) ?_ ?_
    · refine exec_ok tab_ok mixed 1000 (bx := []) (own := []) ?_
      repeat' ((conv => whnf); first
        | refine Exists.intro _ (And.intro (w64 (by omega) (by omega)) ?_))
      all_goals (conv => whnf)
      exact ⟨_, Ghost.hold [0, 6, 7, 8] rfl, rfl⟩
    rintro s a w2 rfl hg2 hl3
    refine ⟨l.length - (i + 1), by omega, i + 1, N, hil, ?_, hl3, Nat.le_trans hB2 hg2.size, rfl⟩
    have e : (unitsX (l.take (i + 1))).length = (unitsX (l.take i)).length + k := by
      rw [unitsX_take hx, List.length_append, hkx]
      simp [unitsOf]
    rw [e]
    exact hgr _ _ _ _ hJ1 hg2
  have hkl : k < x.len_.toNat := by have := of_decide_eq_true hb; omega
  have hu := unitsX_at hx hkl
  clear hb
  refine af_seq ?_
  refine af_block ?_
  refine af_seq ?_
  refine LoI.seg hro hl2 (hlt _ _ _ hJ1) hB2 [_] rfl (I := fun s => s = ((.raw (.func (.yield lp) #[] #[]) :: D.undef :: D.undef :: D.undef :: .pe (c57 x) :: .int .i64 (k:Int) :: d22 l :: .int .i64 (l.length:Int) :: .int .i64 (i:Int) :: D.undef :: D.undef :: D.undef :: D.undef :: .int .i64 x.len_ :: .int .i64 (k:Int) :: D.undef :: D.undef :: D.undef :: D.undef :: D.undef :: D.undef :: D.undef :: D.undef :: D.undef :: D.undef :: D.undef :: D.undef :: D.undef :: D.undef :: D.undef :: D.undef :: D.undef :: D.undef :: D.undef :: D.undef :: D.undef :: D.undef :: []))) ?_ ?_
  · refine exec_ok tab_ok mixed 1000 (bx := []) (own := []) ?_
    (conv => whnf)
    exact ⟨_, Ghost.hold [0, 4, 5, 6, 7, 8, 13, 14] rfl, rfl⟩
  rintro s a w2 rfl hg2 hl3
  have hJ2 := hgr _ _ _ _ hJ1 hg2
  have hB3 := Nat.le_trans hB2 hg2.size
  clear hJ1 hl2 hg2
  refine af_seq ?_
  refine af_region ?_
  refine af_ops (l1 := [0, 1, 2, 3, 4, 5, 6, 7, 8, 9, 10, 11, 12, 13, 14, 15]) (l2 := [16, 17]) ?_
  refine LoI.seg hro hl3 (hlt _ _ _ hJ2) hB3 [_] rfl (I := fun s => s = ((.raw (.func (.yield lp) #[] #[]) :: D.undef :: D.undef :: D.undef :: .pe (c57 x) :: D.undef :: d22 l :: .int .i64 (l.length:Int) :: .int .i64 (i:Int) :: D.undef :: D.undef :: D.undef :: D.undef :: .int .i64 x.len_ :: .int .i64 (k:Int) :: D.undef :: D.undef :: .raw (.func (.yield lp) #[] #[]) :: D.undef :: D.undef :: D.undef :: .int .i64 (x.off_ + (k:Int)) :: D.undef :: D.undef :: D.undef :: D.undef :: D.undef :: D.undef :: D.undef :: D.undef :: D.undef :: D.undef :: d57 ⟨x.off_ + (k:Int), 1, x.phys_ + (k:Int), x.birth_⟩ :: D.undef :: D.undef :: D.undef :: D.undef :: []))) ?_ ?_
  · refine W_opsR tab_ok (own := []) (bx := []) (X := fun s H bx => exec Try.prog _ 0 [] 1000 _ s H bx _) 0 16 (by decide) (fun s H bx h => exec_ok tab_ok mixed 1000 h) ?_
    repeat' ((conv => whnf); first
      | refine Exists.intro _ (And.intro (w64 (by omega) (by omega)) ?_))
    all_goals (conv => whnf)
    exact ⟨_, Ghost.hold [0, 4, 6, 7, 8, 13, 14, 17, 21, 32] rfl, rfl⟩
  rintro s a w3 rfl hg3 hl4
  have hJ3 := hgr _ _ _ _ hJ2 hg3
  have hB4 := Nat.le_trans hB3 hg3.size
  clear hJ2 hl3 hg3
  refine af_yield hro (ts := [21, 32]) (ads := [.int .i64 (x.off_ + (k:Int)), d57 ⟨x.off_ + (k:Int), 1, x.phys_ + (k:Int), x.birth_⟩]) hl4 rfl rfl rfl rfl rfl rfl rfl rfl (fun cargs hc => hY _ _ w3 N cargs (by rw [seqU, List.getElem?_map, hu]; rfl) hJ3 hc) ?_
  rintro e w4 ⟨b, N', rfl, hkeep, hJ4⟩
  refine ⟨b, N', rfl, hkeep, fun a hl5 => ?_⟩
  have hB5 := Nat.le_trans hB4 hkeep.size
  clear hJ3 hl4
  refine LoI.seg hro hl5 (hlt _ _ _ hJ4) hB5 [_] rfl (I := fun s => s = ((.raw (.func (.yield lp) #[] #[]) :: D.undef :: D.undef :: D.undef :: .pe (c57 x) :: D.undef :: d22 l :: .int .i64 (l.length:Int) :: .int .i64 (i:Int) :: D.undef :: D.undef :: D.undef :: D.undef :: .int .i64 x.len_ :: .int .i64 (k:Int) :: D.undef :: D.undef :: D.undef :: D.undef :: D.undef :: D.undef :: D.undef :: D.undef :: D.undef :: D.undef :: D.undef :: D.undef :: D.undef :: D.undef :: D.undef :: D.undef :: D.undef :: D.undef :: D.undef :: .bool (!b) :: D.undef :: D.undef :: []))) ?_ ?_
  · refine W_opsR tab_ok (own := []) (bx := []) (X := fun s H bx => exec Try.prog _ 0 [] 1000 _ s H bx _) 17 1 (by decide) (fun s H bx h => exec_ok tab_ok mixed 1000 h) ?_
    (conv => whnf)
    exact ⟨_, Ghost.hold [0, 4, 6, 7, 8, 13, 14, 34] rfl, rfl⟩
  rintro s a w5 rfl hg5 hl6
  have hJ5 := hgr _ _ _ _ hJ4 hg5
  have hB6 := Nat.le_trans hB5 hg5.size
  clear hJ4 hl5 hg5
  cases b with
  | false =>
    refine af_cond hl6 (t := 34) rfl (fun hb => af_ret ?_) (fun hb => by cases hb)
    exact ⟨.inr rfl, _, N', none, .inr rfl, hJ5, hl6⟩
  | true =>
    refine af_cond hl6 (t := 34) rfl (fun hb => by cases hb) (fun hb => af_skip ?_)
    show after _ _ [A.Item.code _] _ .normal _ _
    refine LoI.seg hro hl6 (hlt _ _ _ hJ5) hB6 [_] rfl (I := fun s => s = ((.raw (.func (.yield lp) #[] #[]) :: D.undef :: D.undef :: D.undef :: .pe (c57 x) :: D.undef :: d22 l :: .int .i64 (l.length:Int) :: .int .i64 (i:Int) :: D.undef :: D.undef :: D.undef :: D.undef :: .int .i64 x.len_ :: .int .i64 ((k + 1 : Nat):Int) :: D.undef :: D.undef :: D.undef :: D.undef :: D.undef :: D.undef :: D.undef :: D.undef :: D.undef :: D.undef :: D.undef :: D.undef :: D.undef :: D.undef :: D.undef :: D.undef :: D.undef :: D.undef :: D.undef :: D.undef :: D.undef :: D.undef :: []))) (k := []) ?_ ?_
    · refine exec_ok tab_ok mixed 1000 (bx := []) (own := []) ?_
      repeat' ((conv => whnf); first
        | refine Exists.intro _ (And.intro (w64 (by omega) (by omega)) ?_))
      all_goals (conv => whnf)
      exact ⟨_, Ghost.hold [0, 4, 6, 7, 8, 13, 14] rfl, rfl⟩
    rintro s a w6 rfl hg6 hl7
    exact ⟨x.len_.toNat - (k + 1), by omega, k + 1, N', hkl, hgr _ _ _ _ hJ5 hg6, hl7, Nat.le_trans hB6 hg6.size, rfl⟩

end Go.Proofs.Ytlghefbapiocgaa.V


namespace Go.Proofs.Ytlghefbapiocgaa.V
open Go.A
set_option linter.unusedVariables false
set_option linter.unusedSimpArgs false
set_option linter.unnecessarySimpa false
attribute [local irreducible] IntKind.wrap bitsI
open E (atL listP mayX endX far rightP)

/-- What a list shows. -/
def showB (l : List X) (units : List Nat) (b : Nat) : Nat := match atL l (b : Int) with | some (p, _) => at0 units p.toNat | none => 0
def viewL (l : List X) (n : Nat) (units : List Nat) : List Nat := (List.range n).map (showB l units)
def fitP (l : List X) (n : Int) : Prop := ∀ x ∈ l, endX x ≤ n
instance (l : List X) (n : Int) : Decidable (fitP l n) := inferInstanceAs (Decidable (∀ x ∈ l, endX x ≤ n))
def viewM (l : List X) (n : Int) (units : List Nat) : List Nat × Int := if rightP l ∧ 0 ≤ n ∧ n ≤ 1024 ∧ fitP l n then (viewL l n.toNat units, 0) else ([], 1)

def hasB (us : List X) (b : Nat) : Bool := us.any fun u => u.off_.toNat == b

theorem hasB_snoc {us : List X} {j : Nat} {u : X} (h : us[j]? = some u) (b : Nat) : hasB (us.take (j + 1)) b = (hasB (us.take j) b || u.off_.toNat == b) := by
  rw [take_snoc h]; simp [hasB]

theorem units_mem {a : Int} : ∀ {l : List X}, listP a l → 0 ≤ a → ∀ u ∈ unitsX l, atL l u.off_ = some (u.phys_, u.birth_) ∧ a ≤ u.off_ ∧ u.off_ < 1024 ∧ 0 ≤ u.phys_ ∧ u.phys_ < far
  | [], _, _, u, hu => by simp [unitsX] at hu
  | x :: l, h, ha, u, hu => by
    obtain ⟨hm, hx, hl⟩ := h
    simp only [mayX, far] at hm
    have e : unitsX (x :: l) = unitsOf x ++ unitsX l := by simp [unitsX]
    rw [e] at hu
    rcases List.mem_append.mp hu with hu | hu
    · simp only [unitsOf, List.mem_map, List.mem_range] at hu
      obtain ⟨k, hk, rfl⟩ := hu
      refine ⟨?_, by dsimp only; omega, by dsimp only; omega, by dsimp only; omega, by simp only [far]; omega⟩
      rw [E.at_hit (by dsimp only; omega)]
      dsimp only
      congr 2; omega
    · have := units_mem hl (by simp only [endX]; omega) u hu
      simp only [endX] at this
      refine ⟨?_, by omega, this.2.2.1, this.2.2.2⟩
      rw [E.at_miss (by omega)]
      exact this.1

theorem units_has {a : Int} : ∀ {l : List X}, listP a l → ∀ {b p bi : Int}, atL l b = some (p, bi) → ∃ u ∈ unitsX l, u.off_ = b ∧ u.phys_ = p ∧ u.birth_ = bi
  | [], _, b, p, bi, h => by simp [atL] at h
  | x :: l, hl, b, p, bi, h => by
    obtain ⟨hm, hx, hl⟩ := hl
    simp only [mayX, far] at hm
    have e : unitsX (x :: l) = unitsOf x ++ unitsX l := by simp [unitsX]
    rw [e]
    rw [atL] at h
    split at h
    · rename_i hb
      simp only [Option.some.injEq, Prod.mk.injEq] at h
      refine ⟨⟨x.off_ + ((b - x.off_).toNat : Int), 1, x.phys_ + ((b - x.off_).toNat : Int), x.birth_⟩, List.mem_append_left _ ?_, by dsimp only; omega, by dsimp only; omega, h.2⟩
      simp only [unitsOf, List.mem_map, List.mem_range]
      exact ⟨(b - x.off_).toNat, by omega, rfl⟩
    · obtain ⟨u, hu, h1⟩ := units_has hl h
      exact ⟨u, List.mem_append_right _ hu, h1⟩

theorem hasB_all {l : List X} (hl : listP 0 l) (b : Nat) : hasB (unitsX l) b = (atL l (b : Int)).isSome := by
  rw [Bool.eq_iff_iff]
  simp only [hasB, List.any_eq_true, beq_iff_eq]
  constructor
  · rintro ⟨u, hu, he⟩
    obtain ⟨h1, h2, _⟩ := units_mem hl (Int.le_refl _) u hu
    have : (b : Int) = u.off_ := by omega
    rw [this, h1]; rfl
  · intro h
    obtain ⟨⟨p, bi⟩, hp⟩ := Option.isSome_iff_exists.mp h
    obtain ⟨u, hu, h1, _⟩ := units_has hl hp
    exact ⟨u, hu, by omega⟩

theorem unit_at {l : List X} (hl : listP 0 l) {j : Nat} {u : X} (h : (unitsX l)[j]? = some u) : atL l ((u.off_.toNat : Nat) : Int) = some (u.phys_, u.birth_) ∧ 0 ≤ u.off_ ∧ u.off_ < 1024 ∧ 0 ≤ u.phys_ ∧ u.phys_ < far := by
  obtain ⟨h1, h2, h3⟩ := units_mem hl (Int.le_refl _) u (List.mem_of_getElem? h)
  exact ⟨by rw [← h1]; congr 1; omega, h2, h3⟩

/-- A row of blocks that is filled unit by unit. -/
def fillB {α : Type} (l : List X) (n : Nat) (f g : Nat → α) (j : Nat) : List α := (List.range n).map fun b => if hasB ((unitsX l).take j) b then f b else g b

theorem fillB_zero {α : Type} (l : List X) (n : Nat) (f g : Nat → α) : fillB l n f g 0 = (List.range n).map g := by simp [fillB, hasB]
theorem fillB_length {α : Type} (l : List X) (n : Nat) (f g : Nat → α) (j : Nat) : (fillB l n f g j).length = n := by simp [fillB]
theorem fillB_step {α : Type} {l : List X} {n : Nat} {f g : Nat → α} {j : Nat} {u : X} (h : (unitsX l)[j]? = some u) : fillB l n f g (j + 1) = (fillB l n f g j).set u.off_.toNat (f u.off_.toNat) := by
  apply List.ext_getElem?
  intro b
  rw [List.getElem?_set]
  simp only [fillB, List.getElem?_map, List.length_map, List.length_range]
  by_cases hb : b < n
  · rw [List.getElem?_range hb]
    simp only [Option.map_some, hasB_snoc h]
    by_cases he : u.off_.toNat = b
    · subst he; simp [hb]
    · simp [he]
  · have : (List.range n)[b]? = none := by rw [List.getElem?_eq_none_iff]; simp; omega
    rw [this]
    by_cases he : u.off_.toNat = b
    · subst he; simp [hb]
    · simp [he]
theorem fillB_same {α : Type} {l : List X} {n : Nat} {f g : Nat → α} {j : Nat} {u : X} (h : (unitsX l)[j]? = some u) (hg : f u.off_.toNat = g u.off_.toNat) : fillB l n f g (j + 1) = fillB l n f g j := by
  simp only [fillB, hasB_snoc h]
  apply List.map_congr_left
  intro b _
  by_cases he : u.off_.toNat = b
  · subst he
    simp only [beq_self_eq_true, Bool.or_true, if_true]
    split
    · rfl
    · exact hg
  · simp [he]
theorem fillB_all {α : Type} {l : List X} (hl : listP 0 l) (n : Nat) (f g : Nat → α) : fillB l n f g (unitsX l).length = (List.range n).map (fun (b : Nat) => if (atL l (b : Int)).isSome then f b else g b) := by
  simp only [fillB, List.take_length, hasB_all hl]

theorem seqU_len (l : List X) : (seqU l).length = (unitsX l).length := by simp [seqU]
theorem seqU_at {l : List X} {i : Nat} {args : List D} (h : (seqU l)[i]? = some args) : ∃ u, (unitsX l)[i]? = some u ∧ args = [.int .i64 u.off_, d57 u] := by
  simp only [seqU, List.getElem?_map, Option.map_eq_some_iff] at h
  obtain ⟨u, h1, h2⟩ := h
  exact ⟨u, h1, h2.symm⟩
theorem seqU_two {l : List X} : ∀ x ∈ seqU l, x.length = 2 := by
  intro x hx
  simp only [seqU, List.mem_map] at hx
  obtain ⟨u, _, rfl⟩ := hx
  rfl

theorem view_fill {l : List X} (hl : listP 0 l) (n : Nat) (units : List Nat) : viewL l n units = fillB l n (showB l units) (fun _ => 0) (unitsX l).length := by
  rw [fillB_all hl]
  apply List.map_congr_left
  intro b _
  cases h : atL l (b : Int) with
  | none => simp [showB, h]
  | some v => simp

theorem fit_last {l : List X} (hl : listP 0 l) {n : Int} (hn : 0 ≤ n) : fitP l n ↔ ∀ x, l[l.length - 1]? = some x → endX x ≤ n := by
  constructor
  · intro h x hx
    exact h x (List.mem_of_getElem? hx)
  · intro h x hx
    rcases List.eq_nil_or_concat l with rfl | ⟨k, y, rfl⟩
    · cases hx
    · rw [List.concat_eq_append] at *
      obtain ⟨h1, h2, h3, h4⟩ := E.listP_snoc hl
      have hy := h y (by simp)
      rcases List.mem_append.mp hx with hx | hx
      · have := h3 x hx
        simp only [mayX] at h2
        simp only [endX] at this hy ⊢
        omega
      · simp only [List.mem_singleton] at hx
        subst hx; exact hy

end Go.Proofs.Ytlghefbapiocgaa.V


namespace Go.Proofs.Ytlghefbapiocgaa.V
open Go.A
set_option linter.unusedVariables false
set_option linter.unusedSimpArgs false
set_option linter.unnecessarySimpa false
attribute [local irreducible] IntKind.wrap bitsI
open E (atL listP mayX endX far rightP)
set_option maxRecDepth 100000

theorem showB_at {l : List X} (hl : listP 0 l) {j : Nat} {u : X} (h : (unitsX l)[j]? = some u) (units : List Nat) : showB l units u.off_.toNat = at0 units u.phys_.toNat := by
  obtain ⟨h1, _⟩ := unit_at hl h
  unfold showB
  rw [h1]

theorem units_in {l : List X} {n : Int} (hf : fitP l n) {j : Nat} {u : X} (h : (unitsX l)[j]? = some u) : u.off_ < n := by
  have hu := List.mem_of_getElem? h
  simp only [unitsX, List.mem_flatMap, unitsOf, List.mem_map, List.mem_range] at hu
  obtain ⟨x, hx, k, hk, rfl⟩ := hu
  have := hf x hx
  simp only [endX] at this
  dsimp only
  omega

/-- View, where the list is right and fits. -/
theorem view_walk (l : List X) (m : Nat) (units : List Nat) (hlen : l.length ≤ 140737488351232) (hu : units.length ≤ 140737488351232) (hr : rightP l) (hm : m ≤ 1024) (hf : fitP l m) :
    Go.A.CallsIn Try.prog 9 [d22 l, .int .i64 (m : Int), d23 units] [] fun r H => ∃ ver, Ghost 0 [r] H [ownW (viewL l m units, 0) 0 ver] [.arr ver 1 ((viewL l m units).map r51)] := by
  have hl := hr.2.1
  have e0 : (fillB l m (showB l units) (fun _ => 0) 0).map r51 = List.replicate m (.int .u64 0) := by
    rw [fillB_zero, List.map_map]
    exact (List.eq_replicate_iff.mpr ⟨by simp, fun x hx => by simp only [List.mem_map] at hx; obtain ⟨_, _, rfl⟩ := hx; rfl⟩)
  refine Go.A.CallsIn.of_exec tab_ok mixed Try.func9 rfl rfl [] [] ?_
  rcases Nat.eq_zero_or_pos l.length with h0 | h0
  repeat' ((conv => whnf); first
    | refine PairK.mk (by kernel_rfl) ?_ | refine And.intro (show ((8 : Nat) : Int) * (m : Int) ≤ 281474976710656 by omega) ?_ | refine And.intro (by decide) ?_ | refine And.intro rfl ?_ | refine And.intro (by omega) ?_ | refine Exists.intro _ (And.intro (⟨(List.length_map _).symm⟩) ?_) | refine Exists.intro _ (And.intro (w64 (by omega) (by omega)) ?_) | refine Pure.call (E.f25_ok l hlen) ?_ | refine Pure.call (f26_ok l) ?_ | refine boolF_not ?_ | refine boolF_dect (by assumption) ?_ | refine boolF_dect (by omega) ?_ | refine boolF_decf (by omega) ?_)
  all_goals (conv => whnf)
  rotate_left
  obtain ⟨y, hy⟩ := at_lt (l := l) (i := l.length - 1) (by omega)
  have hym := (E.listP_mem hl y (List.mem_of_getElem? hy)).1
  simp only [mayX, far] at hym
  have hye := hf y (List.mem_of_getElem? hy)
  simp only [endX] at hye
  repeat' ((conv => whnf); first
    | refine PairK.mk (by kernel_rfl) ?_ | refine Exists.intro _ (And.intro (map_at (by omega) hy) ?_) | refine And.intro (show ((8 : Nat) : Int) * (m : Int) ≤ 281474976710656 by omega) ?_ | refine And.intro (by decide) ?_ | refine And.intro rfl ?_ | refine And.intro (by omega) ?_ | refine Exists.intro _ (And.intro (w64 (by omega) (by omega)) ?_) | refine Pure.call (f26_ok l) ?_ | refine boolF_decf (by omega) ?_)
  all_goals (conv => whnf)
  all_goals
    refine W_ghost (s' := (D.undef :: D.undef :: D.undef :: D.undef :: D.undef :: .pe [d23 units] :: D.undef :: D.undef :: D.undef :: .p 1 0 0 0 :: D.undef :: D.undef :: D.undef :: D.undef :: D.undef :: D.undef :: D.undef :: D.undef :: D.undef :: D.undef :: D.undef :: D.undef :: D.undef :: D.undef :: D.undef :: D.undef :: D.undef :: D.undef :: D.undef :: D.undef :: D.undef :: D.undef :: D.undef :: D.undef :: D.undef :: D.undef :: D.undef :: D.undef :: D.undef :: D.undef :: D.undef :: D.undef :: D.undef :: D.undef :: D.undef :: D.undef :: D.undef :: .fn 44 [.pe [d22 l]] :: D.undef :: D.undef :: D.undef :: D.undef :: D.undef :: D.undef :: D.undef :: D.undef :: D.undef :: D.undef :: D.undef :: D.undef :: D.undef :: D.undef :: D.undef :: D.undef :: [])) (H' := [.arr 0 1 ((fillB l m (showB l units) (fun _ => 0) 0).map r51), .arr 0 1 [.h 0 0 0 m]]) (Ghost.hold [5, 9, 47] (by rw [e0]; rfl)) ?_
    refine W_rangeFunc (seq := seqU l) rfl ⟨⟨E.sc22 _ _, trivial⟩, trivial⟩ (each_it l hl hlen) seqU_two (fun i H1 => H1 = [.arr 0 1 ((fillB l m (showB l units) (fun _ => 0) i).map r51), .arr 0 1 [.h 0 0 0 m]]) (fun _ _ => False) rfl ?_ ?_ (fun c H1 h => h.elim)
    · rintro i args H1 hsq rfl
      obtain ⟨⟨uo, ul, up, ub⟩, hu1, rfl⟩ := seqU_at hsq
      obtain ⟨u1, u2, u3, u4, u5⟩ := unit_at hl hu1
      have hsb := showB_at hl hu1 units
      have hfl := fillB_length l m (showB l units) (fun _ => 0) i
      have hst := fillB_step (n := m) (f := showB l units) (g := fun _ => 0) hu1
      have hsm := fillB_same (n := m) (f := showB l units) (g := fun _ => 0) hu1
      have hui := units_in hf hu1
      dsimp only at u1 u2 u3 u4 u5 hsb hst hsm hui
      obtain ⟨o, rfl⟩ : ∃ o : Nat, uo = (o : Int) := ⟨uo.toNat, by omega⟩
      obtain ⟨p, rfl⟩ : ∃ p : Nat, up = (p : Int) := ⟨up.toNat, by omega⟩
      simp only [Int.toNat_natCast] at hsb hst hsm
      clear u5
      have hlu : (units.map r51).length = units.length := List.length_map _
      have hom : o < m := by omega
      refine exec_ok (n := 2) tab_ok mixed 1000 (bx := [false, true]) (own := []) ?_
      repeat' ((conv => whnf); first
        | refine And.intro (by decide) ?_)
      all_goals (conv => whnf)
      refine W_ghost (s' := (D.undef :: D.undef :: D.undef :: D.undef :: D.undef :: .pe [d23 units] :: D.undef :: D.undef :: D.undef :: .p 1 0 0 0 :: .int .i64 (o:Int) :: .p 2 0 0 0 :: D.undef :: D.undef :: D.undef :: D.undef :: D.undef :: D.undef :: D.undef :: D.undef :: D.undef :: D.undef :: D.undef :: D.undef :: D.undef :: D.undef :: D.undef :: D.undef :: D.undef :: D.undef :: D.undef :: D.undef :: D.undef :: D.undef :: D.undef :: D.undef :: D.undef :: D.undef :: D.undef :: D.undef :: D.undef :: D.undef :: D.undef :: D.undef :: D.undef :: D.undef :: D.undef :: D.undef :: D.undef :: D.undef :: D.undef :: D.undef :: D.undef :: D.undef :: D.undef :: D.undef :: D.undef :: D.undef :: D.undef :: D.undef :: D.undef :: D.undef :: D.undef :: D.undef :: [])) (H' := [.arr 0 1 ((fillB l m (showB l units) (fun _ => 0) i).map r51), .arr 0 1 [.h 0 0 0 m], .arr 0 4 [.agg [.int .i64 (o:Int), .int .i64 ul, .int .i64 (p:Int), .int .i64 ub]]]) (Ghost.hold [5, 9, 10, 11] rfl) ?_
      refine exec_ok (n := 2) tab_ok mixed 1000 (bx := [false, true, false]) (own := []) ?_
      rcases Nat.lt_or_ge p units.length with hpl | hpl
      · obtain ⟨z, hz⟩ := at_lt hpl
        have hz0 : at0 units p = z := by simp [at0, hz]
        obtain ⟨w0, hw0⟩ := at_lt (l := fillB l m (showB l units) (fun _ => 0) i) (i := o) (by omega)
        repeat' ((conv => whnf); first
          | refine PairK.mk (by kernel_rfl) ?_ | refine Exists.intro _ (And.intro (map_at (by omega) hz) ?_) | refine Exists.intro _ (And.intro (map_at (by omega) hw0) ?_) | refine And.intro (by decide) ?_ | refine And.intro rfl ?_ | refine And.intro (Nat.le_of_ble_eq_true rfl) ?_ | refine And.intro (by omega) ?_ | refine And.intro (by simp only [List.length_map, List.length_append, List.length_cons, List.length_nil]; omega) ?_ | refine Exists.intro _ (And.intro (Eq.refl (α := Option D) _) ?_) | refine Exists.intro _ (And.intro (⟨(List.length_map _).symm⟩) ?_) | refine boolF_dect (by omega) ?_)
        all_goals (conv => whnf)
        refine ⟨_, _, Ghost.back [] 2 rfl (H1 := [.arr 0 1 ((fillB l m (showB l units) (fun _ => 0) (i + 1)).map r51), .arr 0 1 [.h 0 0 0 m]]) ?_ (Nat.le_refl _) ?_ ?_, rfl⟩
        · rw [hst, hsb, hz0, List.map_set]
          exact congrArg (fun k => [AObj.arr 0 1 (((fillB l m (showB l units) (fun _ => 0) i).map r51).set k (r51 z)), AObj.arr 0 1 [D.h 0 0 0 m]]) (Nat.zero_add o)
        · simp [keepL, scs, D.sc]
        · simp [AObj.sc, scr51, scs, D.sc]
      · have hz0 : at0 units p = 0 := by simp [at0, hpl]
        repeat' ((conv => whnf); first
          | refine And.intro (by decide) ?_ | refine And.intro (Nat.le_of_ble_eq_true rfl) ?_ | refine Exists.intro _ (And.intro (Eq.refl (α := Option D) _) ?_) | refine Exists.intro _ (And.intro (⟨(List.length_map _).symm⟩) ?_) | refine boolF_decf (by omega) ?_)
        all_goals (conv => whnf)
        refine ⟨_, _, Ghost.back [] 2 rfl (H1 := [.arr 0 1 ((fillB l m (showB l units) (fun _ => 0) i).map r51), .arr 0 1 [.h 0 0 0 m]]) rfl (Nat.le_refl _) ?_ ?_, ?_⟩
        rotate_right
        · show _ = _
          rw [hsm (by rw [hsb, hz0])]
        · simp [keepL, scs, D.sc]
        · simp [AObj.sc, scr51, scs, D.sc]
    · rintro H1 rfl
      refine exec_ok (n := 0) tab_ok mixed 1000 (bx := [false, true]) (own := []) ?_
      repeat' ((conv => whnf); first
        | refine And.intro (by decide) ?_)
      all_goals (conv => whnf)
      exact ⟨ownW_ok 0 _ 0 0 m _ (by simp [viewL]) (by rw [seqU_len, ← view_fill hl]; rfl)⟩

end Go.Proofs.Ytlghefbapiocgaa.V


namespace Go.Proofs.Ytlghefbapiocgaa.V
open Go.A
set_option linter.unusedVariables false
set_option linter.unusedSimpArgs false
set_option linter.unnecessarySimpa false
attribute [local irreducible] IntKind.wrap bitsI
open E (atL listP mayX endX far rightP)
set_option maxRecDepth 100000

theorem f9_own (l : List X) (n : Int) (units : List Nat) (hlen : l.length ≤ 140737488351232) (hu : units.length ≤ 140737488351232) : OwnW 9 [d22 l, .int .i64 n, d23 units] (viewM l n units) := by
  refine OwnedR.of ⟨E.sc22 _ _, trivial, scd23 _ _, trivial⟩ (scr51 _ _) (ownW_res _) ?_
  by_cases hr : rightP l
  · have hl := hr.2.1
    have hl10 := hr.1
    by_cases hn : 0 ≤ n ∧ n ≤ 1024
    · by_cases hf : fitP l n
      · obtain ⟨m, rfl⟩ : ∃ m : Nat, n = (m : Int) := ⟨n.toNat, by omega⟩
        rw [viewM, if_pos ⟨hr, hn.1, hn.2, hf⟩]
        exact view_walk l m units hlen hu hr (by omega) hf
      · rw [viewM, if_neg (fun h => hf h.2.2.2)]
        have h0 : 0 < l.length := by
          rcases Nat.eq_zero_or_pos l.length with h | h
          · exact absurd (fun x hx => by rw [List.length_eq_zero_iff.mp h] at hx; cases hx) hf
          · exact h
        obtain ⟨y, hy⟩ := at_lt (l := l) (i := l.length - 1) (by omega)
        have hym := (E.listP_mem hl y (List.mem_of_getElem? hy)).1
        simp only [mayX, far] at hym
        have hye : ¬ y.off_ + y.len_ ≤ n := fun h => hf ((fit_last hl hn.1).mpr fun x hx => by rw [hy] at hx; cases hx; exact h)
        refine Go.A.CallsIn.of_exec tab_ok mixed Try.func9 rfl rfl [] [] ?_
        repeat' ((conv => whnf); first
          | refine PairK.mk (by kernel_rfl) ?_ | refine Exists.intro _ (And.intro (map_at (by omega) hy) ?_) | refine And.intro rfl ?_ | refine And.intro (by omega) ?_ | refine Exists.intro _ (And.intro (⟨(List.length_map _).symm⟩) ?_) | refine Exists.intro _ (And.intro (w64 (by omega) (by omega)) ?_) | refine Pure.call (E.f25_ok l hlen) ?_ | refine boolF_not ?_ | refine boolF_dect (by assumption) ?_ | refine boolF_dect (by omega) ?_ | refine boolF_decf (by omega) ?_)
        all_goals (conv => whnf)
        exact ⟨ownW_err 1 _⟩
    · rw [viewM, if_neg (fun h => hn ⟨h.2.1, h.2.2.1⟩)]
      refine Go.A.CallsIn.of_exec tab_ok mixed Try.func9 rfl rfl [] [] ?_
      by_cases h1 : n < 0
      · repeat' ((conv => whnf); first
          | refine Pure.call (E.f25_ok l hlen) ?_ | refine boolF_not ?_ | refine boolF_dect (by assumption) ?_)
        all_goals (conv => whnf)
        exact ⟨ownW_err 1 _⟩
      · repeat' ((conv => whnf); first
          | refine Pure.call (E.f25_ok l hlen) ?_ | refine boolF_not ?_ | refine boolF_dect (by assumption) ?_ | refine boolF_decf (by assumption) ?_ | refine boolF_dect (by omega) ?_)
        all_goals (conv => whnf)
        exact ⟨ownW_err 1 _⟩
  · rw [viewM, if_neg (fun h => hr h.1)]
    refine Go.A.CallsIn.of_exec tab_ok mixed Try.func9 rfl rfl [] [] ?_
    repeat' ((conv => whnf); first
      | refine Pure.call (E.f25_ok l hlen) ?_ | refine boolF_not ?_ | refine boolF_decf (by assumption) ?_)
    all_goals (conv => whnf)
    exact ⟨ownW_err 1 _⟩

/-- What is young. -/
def gtB (l : List X) (gen : Int) (j : Nat) : Bool := match atL l (j : Int) with | some (_, bi) => decide (gen < bi) | none => false
def youngB (a b : List X) (gen : Int) (j : Nat) : Bool := if (atL b (j : Int)).isSome then gtB b gen j else (atL a (j : Int)).isSome
def youngL (a b : List X) (gen : Int) : List Bool := (List.range 1024).map (youngB a b gen)
def youngM (a b : List X) (gen : Int) : List Bool × Int := if rightP a ∧ rightP b then (youngL a b gen, 0) else ([], 1)

def ownB (p : List Bool × Int) (o ver : Nat) : D := .tup [.h o ver 0 p.1.length, .int .i64 p.2]
def OwnB (f : FuncId) (args : List D) (p : List Bool × Int) : Prop := OwnedR Try.prog f args (ownB p) 1 (p.1.map rB)
theorem ownB_res (p : List Bool × Int) : ∀ (ρ : Nat → Nat) (v : Nat), ren ρ (ownB p 0 v) = ownB p (ρ 0) v := fun _ _ => rfl
theorem ownB_err (e : Int) (H : List AObj) : ∃ ver, Ghost 0 [.tup [.nils, .int .i64 e]] H [ownB ([], e) 0 ver] [.arr ver 1 (([] : List Bool).map rB)] := by
  refine ⟨0, (Ghost.matD (sz := 1) (s' := [.tup [.h H.length 0 0 0, .int .i64 e]]) (.cons (.tup (.cons .nil (.cons .refl .nil))) .nil)).trans ?_⟩
  refine Ghost.pick [H.length] (by simp) rfl (fun i o ob' h1 h2 => ?_) rfl ⟨⟨Nat.zero_lt_one, trivial, trivial⟩, trivial⟩ (fun ob hob => by simp at hob; subst hob; trivial)
  cases i with
  | zero => simp at h1 h2; subst h1 h2; simp [renO, renL]
  | succ i => simp at h1
theorem ownB_ok (e : Int) (l : List Bool) (k w n : Nat) (H : List AObj) (hn : n = l.length) (hk : H[k]? = some (.arr w 1 (l.map rB))) : ∃ ver, Ghost 0 [.tup [.h k w 0 n, .int .i64 e]] H [ownB (l, e) 0 ver] [.arr ver 1 (l.map rB)] := by
  subst hn
  refine ⟨w, Ghost.pick [k] (by simp) rfl (fun i o ob' h1 h2 => ?_) rfl ⟨⟨Nat.zero_lt_one, trivial, trivial⟩, trivial⟩ (fun ob hob => by simp at hob; subst hob; exact scrB _ _)⟩
  cases i with
  | zero => simp at h1 h2; subst h1 h2; simp only [renO]; rw [renL_sc0 _ _ (scrB _ _)]; exact hk
  | succ i => simp at h1

theorem youngL_eq (a b : List X) (gen : Int) (hb : listP 0 b) : youngL a b gen = fillB b 1024 (gtB b gen) (fun j => (atL a (j : Int)).isSome) (unitsX b).length := by
  rw [fillB_all hb]
  rfl
theorem has_fill (a : List X) (ha : listP 0 a) : (List.range 1024).map (fun (j : Nat) => (atL a (j : Int)).isSome) = fillB a 1024 (fun _ => true) (fun _ => false) (unitsX a).length := by
  rw [fillB_all ha]
  apply List.map_congr_left
  intro j _
  cases (atL a (j : Int)).isSome <;> rfl

theorem gtB_at {l : List X} (hl : listP 0 l) {j : Nat} {u : X} (h : (unitsX l)[j]? = some u) (gen : Int) : gtB l gen u.off_.toNat = decide (gen < u.birth_) := by
  obtain ⟨h1, _⟩ := unit_at hl h
  unfold gtB
  rw [h1]

end Go.Proofs.Ytlghefbapiocgaa.V


namespace Go.Proofs.Ytlghefbapiocgaa.V
open Go.A
set_option linter.unusedVariables false
set_option linter.unusedSimpArgs false
set_option linter.unnecessarySimpa false
attribute [local irreducible] IntKind.wrap bitsI
open E (atL listP mayX endX far rightP)
set_option maxRecDepth 100000

theorem f29_own (a b : List X) (gen : Int) (ha : a.length ≤ 140737488351232) (hb : b.length ≤ 140737488351232) : OwnB 29 [d22 a, d22 b, .int .i64 gen] (youngM a b gen) := by
  refine OwnedR.of ⟨E.sc22 _ _, E.sc22 _ _, trivial, trivial⟩ (scrB _ _) (ownB_res _) ?_
  refine Go.A.CallsIn.of_exec tab_ok mixed Try.func29 rfl rfl [] [] ?_
  by_cases hra : rightP a
  · by_cases hrb : rightP b
    · have hla := hra.2.1
      have hlb := hrb.2.1
      rw [youngM, if_pos ⟨hra, hrb⟩]
      repeat' ((conv => whnf); first
        | refine And.intro (by decide) ?_ | refine Pure.call (E.f25_ok a ha) ?_ | refine Pure.call (E.f25_ok b hb) ?_ | refine Pure.call (f26_ok a) ?_ | refine boolF_not ?_ | refine boolF_dect (by assumption) ?_)
      all_goals (conv => whnf)
      have e0 : (fillB a 1024 (fun _ => true) (fun _ => false) 0).map rB = List.replicate 1024 (.bool false) := by
        rw [fillB_zero, List.map_map]
        exact (List.eq_replicate_iff.mpr ⟨by simp, fun x hx => by simp only [List.mem_map] at hx; obtain ⟨_, _, rfl⟩ := hx; rfl⟩)
      refine W_ghost (s' := (D.undef :: d22 b :: D.undef :: D.undef :: D.undef :: .pe [.int .i64 gen] :: D.undef :: D.undef :: .p 1 0 0 0 :: D.undef :: D.undef :: D.undef :: D.undef :: D.undef :: D.undef :: D.undef :: D.undef :: D.undef :: D.undef :: D.undef :: D.undef :: D.undef :: .fn 44 [.pe [d22 a]] :: D.undef :: D.undef :: D.undef :: D.undef :: D.undef :: D.undef :: D.undef :: D.undef :: D.undef :: D.undef :: D.undef :: D.undef :: D.undef :: D.undef :: D.undef :: D.undef :: D.undef :: [])) (H' := [.arr 0 1 ((fillB a 1024 (fun _ => true) (fun _ => false) 0).map rB), .arr 0 1 [.h 0 0 0 1024]]) (Ghost.hold [1, 5, 8, 22] (by rw [e0]; rfl)) ?_
      refine W_rangeFunc (seq := seqU a) rfl ⟨⟨E.sc22 _ _, trivial⟩, trivial⟩ (each_it a hla ha) seqU_two (fun i H1 => H1 = [.arr 0 1 ((fillB a 1024 (fun _ => true) (fun _ => false) i).map rB), .arr 0 1 [.h 0 0 0 1024]]) (fun _ _ => False) rfl ?_ ?_ (fun c H1 h => h.elim)
      · rintro i args H1 hsq rfl
        obtain ⟨⟨uo, ul, up, ub⟩, hu1, rfl⟩ := seqU_at hsq
        obtain ⟨u1, u2, u3, u4, u5⟩ := unit_at hla hu1
        have hfl := fillB_length a 1024 (fun _ => true) (fun _ => false) i
        have hst := fillB_step (n := 1024) (f := fun _ => true) (g := fun _ => false) hu1
        dsimp only at u2 u3 hst
        obtain ⟨o, rfl⟩ : ∃ o : Nat, uo = (o : Int) := ⟨uo.toNat, by omega⟩
        simp only [Int.toNat_natCast] at hst
        clear u1 u4 u5
        have hom : o < 1024 := by omega
        refine exec_ok (n := 2) tab_ok mixed 1000 (bx := [false, true]) (own := []) ?_
        (conv => whnf)
        refine W_ghost (s' := (D.undef :: D.undef :: D.undef :: D.undef :: D.undef :: .pe [.int .i64 gen] :: D.undef :: D.undef :: .p 1 0 0 0 :: .int .i64 (o:Int) :: D.undef :: D.undef :: D.undef :: D.undef :: D.undef :: D.undef :: D.undef :: D.undef :: D.undef :: D.undef :: D.undef :: D.undef :: D.undef :: D.undef :: D.undef :: D.undef :: D.undef :: D.undef :: D.undef :: D.undef :: D.undef :: D.undef :: D.undef :: D.undef :: D.undef :: D.undef :: D.undef :: D.undef :: D.undef :: D.undef :: [])) (H' := [.arr 0 1 ((fillB a 1024 (fun _ => true) (fun _ => false) i).map rB), .arr 0 1 [.h 0 0 0 1024]]) (Ghost.hold [5, 8, 9] rfl) ?_
        refine exec_ok (n := 2) tab_ok mixed 1000 (bx := [false, true]) (own := []) ?_
        obtain ⟨w0, hw0⟩ := at_lt (l := fillB a 1024 (fun _ => true) (fun _ => false) i) (i := o) (by omega)
        repeat' ((conv => whnf); first
          | refine Exists.intro _ (And.intro (map_at (by omega) hw0) ?_) | refine And.intro (by decide) ?_ | refine And.intro (by omega) ?_ | refine And.intro (by simp only [List.length_map, List.length_append, List.length_cons, List.length_nil]; omega) ?_)
        all_goals (conv => whnf)
        refine ⟨_, _, Ghost.back [] 2 rfl (H1 := [.arr 0 1 ((fillB a 1024 (fun _ => true) (fun _ => false) (i + 1)).map rB), .arr 0 1 [.h 0 0 0 1024]]) ?_ (Nat.le_refl _) ?_ ?_, rfl⟩
        · rw [hst, List.map_set]
          exact congrArg (fun k => [AObj.arr 0 1 (((fillB a 1024 (fun _ => true) (fun _ => false) i).map rB).set k (rB true)), AObj.arr 0 1 [D.h 0 0 0 1024]]) (Nat.zero_add o)
        · simp [keepL, scs, D.sc]
        · simp [AObj.sc, scrB, scs, D.sc]
      · rintro H1 rfl
        rw [seqU_len, ← has_fill a hla]
        refine exec_ok (n := 0) tab_ok mixed 1000 (bx := [false, true]) (own := []) ?_
        repeat' ((conv => whnf); first
          | refine Pure.call (f26_ok b) ?_)
        all_goals (conv => whnf)
        refine W_ghost (s' := (D.undef :: D.undef :: D.undef :: D.undef :: D.undef :: .pe [.int .i64 gen] :: D.undef :: D.undef :: .p 1 0 0 0 :: D.undef :: D.undef :: D.undef :: D.undef :: D.undef :: D.undef :: D.undef :: D.undef :: D.undef :: D.undef :: D.undef :: D.undef :: D.undef :: D.undef :: D.undef :: D.undef :: D.undef :: D.undef :: D.undef :: D.undef :: .fn 44 [.pe [d22 b]] :: D.undef :: D.undef :: D.undef :: D.undef :: D.undef :: D.undef :: D.undef :: D.undef :: D.undef :: D.undef :: [])) (H' := [.arr 0 1 ((fillB b 1024 (gtB b gen) (fun j => (atL a (j : Int)).isSome) 0).map rB), .arr 0 1 [.h 0 0 0 1024]]) (Ghost.hold [5, 8, 29] (by rw [fillB_zero]; rfl)) ?_
        refine W_rangeFunc (seq := seqU b) rfl ⟨⟨E.sc22 _ _, trivial⟩, trivial⟩ (each_it b hlb hb) seqU_two (fun i H1 => H1 = [.arr 0 1 ((fillB b 1024 (gtB b gen) (fun j => (atL a (j : Int)).isSome) i).map rB), .arr 0 1 [.h 0 0 0 1024]]) (fun _ _ => False) rfl ?_ ?_ (fun c H1 h => h.elim)
        · rintro i args H1 hsq rfl
          obtain ⟨⟨uo, ul, up, ub⟩, hu1, rfl⟩ := seqU_at hsq
          obtain ⟨u1, u2, u3, u4, u5⟩ := unit_at hlb hu1
          have hgt := gtB_at hlb hu1 gen
          have hfl := fillB_length b 1024 (gtB b gen) (fun j => (atL a (j : Int)).isSome) i
          have hst := fillB_step (n := 1024) (f := gtB b gen) (g := fun j => (atL a (j : Int)).isSome) hu1
          dsimp only at u2 u3 hst hgt
          obtain ⟨o, rfl⟩ : ∃ o : Nat, uo = (o : Int) := ⟨uo.toNat, by omega⟩
          simp only [Int.toNat_natCast] at hst hgt
          clear u1 u4 u5
          have hom : o < 1024 := by omega
          refine exec_ok (n := 2) tab_ok mixed 1000 (bx := [false, true]) (own := []) ?_
          repeat' ((conv => whnf); first
            | refine And.intro (by decide) ?_)
          all_goals (conv => whnf)
          refine W_ghost (s' := (D.undef :: D.undef :: D.undef :: D.undef :: D.undef :: .pe [.int .i64 gen] :: D.undef :: D.undef :: .p 1 0 0 0 :: D.undef :: .int .i64 (o:Int) :: .p 2 0 0 0 :: D.undef :: D.undef :: D.undef :: D.undef :: D.undef :: D.undef :: D.undef :: D.undef :: D.undef :: D.undef :: D.undef :: D.undef :: D.undef :: D.undef :: D.undef :: D.undef :: D.undef :: D.undef :: D.undef :: D.undef :: D.undef :: D.undef :: D.undef :: D.undef :: D.undef :: D.undef :: D.undef :: D.undef :: [])) (H' := [.arr 0 1 ((fillB b 1024 (gtB b gen) (fun j => (atL a (j : Int)).isSome) i).map rB), .arr 0 1 [.h 0 0 0 1024], .arr 0 4 [.agg [.int .i64 (o:Int), .int .i64 ul, .int .i64 up, .int .i64 ub]]]) (Ghost.hold [5, 8, 10, 11] rfl) ?_
          refine exec_ok (n := 2) tab_ok mixed 1000 (bx := [false, true, false]) (own := []) ?_
          obtain ⟨w0, hw0⟩ := at_lt (l := fillB b 1024 (gtB b gen) (fun j => (atL a (j : Int)).isSome) i) (i := o) (by omega)
          repeat' ((conv => whnf); first
            | refine Exists.intro _ (And.intro (map_at (by omega) hw0) ?_) | refine And.intro (by decide) ?_ | refine And.intro (Nat.le_of_ble_eq_true rfl) ?_ | refine And.intro (by omega) ?_ | refine And.intro (by simp only [List.length_map, List.length_append, List.length_cons, List.length_nil]; omega) ?_ | refine Exists.intro _ (And.intro (Eq.refl (α := Option D) _) ?_))
          all_goals (conv => whnf)
          refine ⟨_, _, Ghost.back [] 2 rfl (H1 := [.arr 0 1 ((fillB b 1024 (gtB b gen) (fun j => (atL a (j : Int)).isSome) (i + 1)).map rB), .arr 0 1 [.h 0 0 0 1024]]) ?_ (Nat.le_refl _) ?_ ?_, rfl⟩
          · rw [hst, List.map_set, hgt]
            exact congrArg (fun k => [AObj.arr 0 1 (((fillB b 1024 (gtB b gen) (fun j => (atL a (j : Int)).isSome) i).map rB).set k (rB (decide (gen < ub)))), AObj.arr 0 1 [D.h 0 0 0 1024]]) (Nat.zero_add o)
          · simp [keepL, scs, D.sc]
          · simp [AObj.sc, scrB, scs, D.sc]
        · rintro H1 rfl
          refine exec_ok (n := 0) tab_ok mixed 1000 (bx := [false, true]) (own := []) ?_
          repeat' ((conv => whnf); first
            | refine And.intro (by decide) ?_)
          all_goals (conv => whnf)
          exact ⟨ownB_ok 0 _ 0 0 1024 _ (by simp [youngL]) (by rw [seqU_len, ← youngL_eq a b gen hlb]; rfl)⟩
    · rw [youngM, if_neg (fun h => hrb h.2)]
      repeat' ((conv => whnf); first
        | refine Pure.call (E.f25_ok a ha) ?_ | refine Pure.call (E.f25_ok b hb) ?_ | refine boolF_not ?_ | refine boolF_dect (by assumption) ?_ | refine boolF_decf (by assumption) ?_)
      all_goals (conv => whnf)
      exact ⟨ownB_err 1 _⟩
  · rw [youngM, if_neg (fun h => hra h.1)]
    repeat' ((conv => whnf); first
      | refine Pure.call (E.f25_ok a ha) ?_ | refine boolF_not ?_ | refine boolF_decf (by assumption) ?_)
    all_goals (conv => whnf)
    exact ⟨ownB_err 1 _⟩

end Go.Proofs.Ytlghefbapiocgaa.V


namespace Go.Proofs.Ytlghefbapiocgaa.V
open Go.A
set_option linter.unusedVariables false
set_option linter.unusedSimpArgs false
set_option linter.unnecessarySimpa false
attribute [local irreducible] IntKind.wrap bitsI
open E (atL listP mayX endX far rightP)
set_option maxRecDepth 100000

/-- Where a block of the younger list is another one's, though it is old. -/
def badU (a : List X) (gen : Int) (u : X) : Bool := decide (u.birth_ ≤ gen) && (match atL a u.off_ with | some (q, _) => decide (q ≠ u.phys_) | none => true)
def grownP (a b : List X) (gen : Int) : Prop := rightP a ∧ rightP b ∧ ∀ u ∈ unitsX b, badU a gen u = false
instance (a b : List X) (gen : Int) : Decidable (grownP a b gen) := inferInstanceAs (Decidable (_ ∧ _ ∧ _))

def putU (es : List (D × D)) (u : X) : List (D × D) := mapPut (.int .i64 u.off_) (.int .i64 u.phys_) es
def esU (us : List X) : List (D × D) := us.foldl putU []
def keysI (es : List (D × D)) : Prop := ∀ x ∈ es, ∃ n, x.1 = .int .i64 n

theorem keys_put {es : List (D × D)} (h : keysI es) (k : Int) (v : D) : keysI (mapPut (.int .i64 k) v es) := by
  induction es with
  | nil => intro x hx; simp only [mapPut, List.mem_singleton] at hx; subst hx; exact ⟨k, rfl⟩
  | cons y r ih =>
    have hr : keysI r := fun x hx => h x (List.mem_cons_of_mem _ hx)
    rw [mapPut]
    split
    · intro x hx
      rcases List.mem_cons.mp hx with rfl | hx
      · exact ⟨k, rfl⟩
      · exact hr x hx
    · intro x hx
      rcases List.mem_cons.mp hx with rfl | hx
      · exact h _ (List.mem_cons_self ..)
      · exact ih hr x hx

theorem find_put {es : List (D × D)} (h : keysI es) (b k : Int) (v : D) : mapFind (.int .i64 b) (mapPut (.int .i64 k) v es) = if b = k then some v else mapFind (.int .i64 b) es := by
  induction es with
  | nil => by_cases hb : b = k <;> simp [mapPut, mapFind, eq1, hb]
  | cons y r ih =>
    have hr : keysI r := fun x hx => h x (List.mem_cons_of_mem _ hx)
    obtain ⟨n, hn⟩ := h y (List.mem_cons_self ..)
    rw [mapPut, hn]
    by_cases hk : k = n
    · subst hk
      by_cases hb : b = k <;> simp [mapFind, eq1, hb, hn]
    · by_cases hb : b = n
      · subst hb
        have hbk : ¬ b = k := fun e => hk e.symm
        simp [mapFind, eq1, hn, hk, hbk]
      · simp [mapFind, eq1, hn, hk, hb, ih hr]

theorem esU_snoc {us : List X} {j : Nat} {u : X} (h : us[j]? = some u) : esU (us.take (j + 1)) = putU (esU (us.take j)) u := by
  rw [take_snoc h, esU, List.foldl_append]; rfl

theorem keys_es (us : List X) : keysI (esU us) := by
  have : ∀ (us : List X) (es : List (D × D)), keysI es → keysI (us.foldl putU es) := fun us => by
    induction us with
    | nil => exact fun es h => h
    | cons u us ih => exact fun es h => ih _ (keys_put h _ _)
  exact this us [] (fun x hx => by cases hx)

theorem keyOkU (k : Int) (us : List X) : keyOk (.int .i64 k) (esU us) := ⟨.i64, rfl, fun x hx => by
  obtain ⟨n, hn⟩ := keys_es us x hx
  rw [hn]⟩

theorem find_es {l : List X} (hl : listP 0 l) (b : Nat) : ∀ j, j ≤ (unitsX l).length → mapFind (.int .i64 (b : Int)) (esU ((unitsX l).take j)) = if hasB ((unitsX l).take j) b then (atL l (b : Int)).map (fun v => D.int .i64 v.1) else none
  | 0, _ => by simp [esU, mapFind, hasB]
  | j + 1, hj => by
    obtain ⟨u, hu⟩ := at_lt (l := unitsX l) (i := j) (by omega)
    rw [esU_snoc hu, putU, find_put (keys_es _), find_es hl b j (by omega), hasB_snoc hu]
    obtain ⟨h1, h2, h3, _⟩ := unit_at hl hu
    by_cases hb : (b : Int) = u.off_
    · have hb' : u.off_.toNat = b := by omega
      rw [if_pos hb, hb']
      rw [hb'] at h1
      simp [h1]
    · have hb' : ¬ u.off_.toNat = b := by omega
      rw [if_neg hb]
      simp [hb']

theorem find_all {l : List X} (hl : listP 0 l) (b : Nat) : mapFind (.int .i64 (b : Int)) (esU (unitsX l)) = (atL l (b : Int)).map (fun v => D.int .i64 v.1) := by
  have := find_es hl b (unitsX l).length (Nat.le_refl _)
  rw [List.take_length] at this
  rw [this, hasB_all hl]
  cases atL l (b : Int) <;> rfl

theorem mem_put {k v : D} {es : List (D × D)} {e : D × D} (h : e ∈ mapPut k v es) : e = (k, v) ∨ e ∈ es := by
  induction es with
  | nil => simp only [mapPut, List.mem_singleton] at h; exact .inl h
  | cons y r ih =>
    rw [mapPut] at h
    split at h
    · rcases List.mem_cons.mp h with h | h
      · exact .inl h
      · exact .inr (List.mem_cons_of_mem _ h)
    · rcases List.mem_cons.mp h with h | h
      · exact .inr (h ▸ List.mem_cons_self ..)
      · rcases ih h with h | h
        · exact .inl h
        · exact .inr (List.mem_cons_of_mem _ h)

theorem es_sc (us : List X) (k : Nat) : (AObj.map (esU us)).sc k := by
  have : ∀ (us : List X) (es : List (D × D)), (∀ e ∈ es, e.1.sc k ∧ e.2.sc k) → ∀ e ∈ us.foldl putU es, e.1.sc k ∧ e.2.sc k := fun us => by
    induction us with
    | nil => exact fun es h => h
    | cons u us ih =>
      refine fun es h => ih _ fun e he => ?_
      rcases mem_put he with rfl | he
      · exact ⟨trivial, trivial⟩
      · exact h e he
  exact this us [] (fun e he => by cases he)

theorem f17_ok (a b : List X) (gen : Int) (ha : a.length ≤ 140737488351232) (hb : b.length ≤ 140737488351232) : Pure Try.prog 17 [d22 a, d22 b, .int .i64 gen] (.bool (decide (grownP a b gen))) := by
  refine Pure.of ⟨E.sc22 _ _, E.sc22 _ _, trivial, trivial⟩ trivial ?_
  refine Go.A.CallsIn.of_exec tab_ok mixed Try.func17 rfl rfl [] [] ?_
  by_cases hra : rightP a
  · by_cases hrb : rightP b
    · have hla := hra.2.1
      have hlb := hrb.2.1
      repeat' ((conv => whnf); first
        | refine And.intro (by decide) ?_ | refine Pure.call (E.f25_ok a ha) ?_ | refine Pure.call (E.f25_ok b hb) ?_ | refine Pure.call (f26_ok a) ?_ | refine boolF_not ?_ | refine boolF_dect (by assumption) ?_)
      all_goals (conv => whnf)
      refine W_ghost (s' := (D.undef :: d22 b :: D.undef :: D.undef :: D.undef :: .pe [.int .i64 gen] :: .p 0 0 0 0 :: .p 2 0 0 0 :: D.undef :: D.undef :: D.undef :: D.undef :: D.undef :: D.undef :: D.undef :: D.undef :: D.undef :: D.undef :: D.undef :: D.undef :: D.undef :: D.undef :: D.undef :: D.undef :: .fn 44 [.pe [d22 a]] :: D.undef :: D.undef :: D.undef :: D.undef :: D.undef :: D.undef :: D.undef :: D.undef :: D.undef :: D.undef :: D.undef :: D.undef :: D.undef :: D.undef :: D.undef :: D.undef :: D.undef :: D.undef :: D.undef :: D.undef :: D.undef :: D.undef :: D.undef :: D.undef :: D.undef :: D.undef :: D.undef :: D.undef :: D.undef :: D.undef :: [])) (H' := [.arr 0 1 [.bool false], .map (esU ((unitsX a).take 0)), .arr 0 1 [.map 1]]) (Ghost.hold [1, 5, 6, 7, 24] rfl) ?_
      refine W_rangeFunc (seq := seqU a) rfl ⟨⟨E.sc22 _ _, trivial⟩, trivial⟩ (each_it a hla ha) seqU_two (fun i H1 => H1 = [.arr 0 1 [.bool false], .map (esU ((unitsX a).take i)), .arr 0 1 [.map 1]]) (fun _ _ => False) rfl ?_ ?_ (fun c H1 h => h.elim)
      · rintro i args H1 hsq rfl
        obtain ⟨⟨uo, ul, up, ub⟩, hu1, rfl⟩ := seqU_at hsq
        have hst := esU_snoc hu1
        refine exec_ok (n := 3) tab_ok mixed 1000 (bx := [true, false, true]) (own := []) ?_
        repeat' ((conv => whnf); first
          | refine And.intro (by decide) ?_)
        all_goals (conv => whnf)
        refine W_ghost (s' := (D.undef :: D.undef :: D.undef :: D.undef :: D.undef :: D.undef :: D.undef :: .p 2 0 0 0 :: .int .i64 uo :: .p 3 0 0 0 :: D.undef :: D.undef :: D.undef :: D.undef :: D.undef :: D.undef :: D.undef :: D.undef :: D.undef :: D.undef :: D.undef :: D.undef :: D.undef :: D.undef :: D.undef :: D.undef :: D.undef :: D.undef :: D.undef :: D.undef :: D.undef :: D.undef :: D.undef :: D.undef :: D.undef :: D.undef :: D.undef :: D.undef :: D.undef :: D.undef :: D.undef :: D.undef :: D.undef :: D.undef :: D.undef :: D.undef :: D.undef :: D.undef :: D.undef :: D.undef :: D.undef :: D.undef :: D.undef :: D.undef :: D.undef :: [])) (H' := [.arr 0 1 [.bool false], .map (esU ((unitsX a).take i)), .arr 0 1 [.map 1], .arr 0 4 [.agg [.int .i64 uo, .int .i64 ul, .int .i64 up, .int .i64 ub]]]) (Ghost.hold [7, 8, 9] rfl) ?_
        refine exec_ok (n := 3) tab_ok mixed 1000 (bx := [true, false, true, false]) (own := []) ?_
        repeat' ((conv => whnf); first
          | refine And.intro (keyOkU _ _) ?_ | refine And.intro (by decide) ?_ | refine And.intro (Nat.le_of_ble_eq_true rfl) ?_ | refine Exists.intro _ (And.intro (Eq.refl (α := Option D) _) ?_))
        all_goals (conv => whnf)
        refine ⟨_, _, Ghost.back [] 3 rfl (H1 := [.arr 0 1 [.bool false], .map (esU ((unitsX a).take (i + 1))), .arr 0 1 [.map 1]]) (by rw [hst]; rfl) (Nat.le_refl _) ?_ ?_, rfl⟩
        · simp [keepL, scs, D.sc]
        · intro ob hob
          simp only [List.mem_cons, List.not_mem_nil, or_false] at hob
          rcases hob with rfl | rfl | rfl
          · simp [AObj.sc, scs, D.sc]
          · exact es_sc _ _
          · simp [AObj.sc, scs, D.sc]
      · rintro H1 rfl
        rw [seqU_len, List.take_length]
        have hfind := find_all hla
        have hsc := es_sc (unitsX a)
        have hko := fun k => keyOkU k (unitsX a)
        generalize esU (unitsX a) = es at hfind hsc hko
        refine exec_ok (n := 0) tab_ok mixed 1000 (bx := [true, false, true]) (own := []) ?_
        repeat' ((conv => whnf); first
          | refine Pure.call (f26_ok b) ?_)
        all_goals (conv => whnf)
        refine W_ghost (s' := (D.undef :: D.undef :: D.undef :: D.undef :: D.undef :: .pe [.int .i64 gen] :: .p 0 0 0 0 :: .p 2 0 0 0 :: D.undef :: D.undef :: D.undef :: D.undef :: D.undef :: D.undef :: D.undef :: D.undef :: D.undef :: D.undef :: D.undef :: D.undef :: D.undef :: D.undef :: D.undef :: D.undef :: D.undef :: D.undef :: D.undef :: D.undef :: D.undef :: D.undef :: D.undef :: D.undef :: .fn 44 [.pe [d22 b]] :: D.undef :: D.undef :: D.undef :: D.undef :: D.undef :: D.undef :: D.undef :: D.undef :: D.undef :: D.undef :: D.undef :: D.undef :: D.undef :: D.undef :: D.undef :: D.undef :: D.undef :: D.undef :: D.undef :: D.undef :: D.undef :: D.undef :: [])) (H' := [.arr 0 1 [.bool false], .map es, .arr 0 1 [.map 1]]) (Ghost.hold [5, 6, 7, 32] rfl) ?_
        refine W_rangeFunc (seq := seqU b) rfl ⟨⟨E.sc22 _ _, trivial⟩, trivial⟩ (each_it b hlb hb) seqU_two (fun i H1 => (∀ u ∈ (unitsX b).take i, badU a gen u = false) ∧ H1 = [.arr 0 1 [.bool false], .map es, .arr 0 1 [.map 1]])
          (fun c H1 => c = .ret ∧ (∃ u ∈ unitsX b, badU a gen u = true) ∧ H1 = [.arr 0 1 [.bool false], .map es, .arr 0 1 [.map 1]]) ⟨fun u hu => by simp at hu, rfl⟩ ?_ ?_ ?_
        · rintro i args H1 hsq ⟨hok, rfl⟩
          obtain ⟨⟨uo, ul, up, ub⟩, hu1, rfl⟩ := seqU_at hsq
          obtain ⟨u1, u2, u3, u4, u5⟩ := unit_at hlb hu1
          have hmem := List.mem_of_getElem? hu1
          have hnext : badU a gen ⟨uo, ul, up, ub⟩ = false → ∀ u ∈ (unitsX b).take (i + 1), badU a gen u = false := fun h u hu => by
            rw [take_snoc hu1] at hu
            rcases List.mem_append.mp hu with hu | hu
            · exact hok u hu
            · simp only [List.mem_singleton] at hu; subst hu; exact h
          dsimp only at u2 u3
          obtain ⟨o, rfl⟩ : ∃ o : Nat, uo = (o : Int) := ⟨uo.toNat, by omega⟩
          have hfm := hfind o
          clear u1 u4 u5 hok
          refine exec_ok (n := 3) tab_ok mixed 1000 (bx := [true, false, true]) (own := []) ?_
          repeat' ((conv => whnf); first
            | refine And.intro (by decide) ?_)
          all_goals (conv => whnf)
          refine W_ghost (s' := (D.undef :: D.undef :: D.undef :: D.undef :: D.undef :: .pe [.int .i64 gen] :: .p 0 0 0 0 :: .p 2 0 0 0 :: D.undef :: D.undef :: .int .i64 (o:Int) :: .p 3 0 0 0 :: D.undef :: D.undef :: D.undef :: D.undef :: D.undef :: D.undef :: D.undef :: D.undef :: D.undef :: D.undef :: D.undef :: D.undef :: D.undef :: D.undef :: D.undef :: D.undef :: D.undef :: D.undef :: D.undef :: D.undef :: D.undef :: D.undef :: D.undef :: D.undef :: D.undef :: D.undef :: D.undef :: D.undef :: D.undef :: D.undef :: D.undef :: D.undef :: D.undef :: D.undef :: D.undef :: D.undef :: D.undef :: D.undef :: D.undef :: D.undef :: D.undef :: D.undef :: D.undef :: [])) (H' := [.arr 0 1 [.bool false], .map es, .arr 0 1 [.map 1], .arr 0 4 [.agg [.int .i64 (o:Int), .int .i64 ul, .int .i64 up, .int .i64 ub]]]) (Ghost.hold [5, 6, 7, 10, 11] rfl) ?_
          refine exec_ok (n := 3) tab_ok mixed 1000 (bx := [true, false, true, false]) (own := []) ?_
          have fin1 : ∀ (s : List D) (st : List AObj), st.take 3 = [AObj.arr 0 1 [D.bool false], .map es, .arr 0 1 [.map 1]] → Ghost 3 s st (keepL [] 0 s) [AObj.arr 0 1 [D.bool false], .map es, .arr 0 1 [.map 1]] := fun s st h => by
            refine Ghost.back [] 3 rfl h (Nat.le_refl _) ?_ ?_
            · have : ∀ (n : Nat) (l : List D), scs 3 (keepL [] n l) := fun n l => by
                induction l generalizing n with
                | nil => trivial
                | cons x l ih => exact ⟨trivial, ih _⟩
              exact this 0 s
            · intro ob hob
              simp only [List.mem_cons, List.not_mem_nil, or_false] at hob
              rcases hob with rfl | rfl | rfl
              · simp [AObj.sc, scs, D.sc]
              · exact hsc _
              · simp [AObj.sc, scs, D.sc]
          by_cases hg : ub ≤ gen
          · cases hat : atL a (o : Int) with
            | none =>
              rw [hat] at hfm
              have hbad : badU a gen ⟨o, ul, up, ub⟩ = true := by simp [badU, hg, hat]
              repeat' ((conv => whnf); first
                | refine And.intro (hko _) ?_ | refine look_none hfm ?_ | refine And.intro (by decide) ?_ | refine And.intro (Nat.le_of_ble_eq_true rfl) ?_ | refine Exists.intro _ (And.intro (Eq.refl (α := Option D) _) ?_) | refine boolF_dect (by assumption) ?_)
              all_goals (conv => whnf)
              exact ⟨_, _, fin1 _ _ rfl, rfl, ⟨_, hmem, hbad⟩, rfl⟩
            | some v =>
              obtain ⟨q, bi⟩ := v
              rw [hat] at hfm
              by_cases hq : q = up
              · have hbad : badU a gen ⟨o, ul, up, ub⟩ = false := by simp [badU, hat, hq]
                repeat' ((conv => whnf); first
                  | refine And.intro (hko _) ?_ | refine look_some hfm ?_ | refine And.intro (by decide) ?_ | refine And.intro (Nat.le_of_ble_eq_true rfl) ?_ | refine Exists.intro _ (And.intro (Eq.refl (α := Option D) _) ?_) | refine boolF_not ?_ | refine boolF_dect (by assumption) ?_)
                all_goals (conv => whnf)
                exact ⟨_, _, fin1 _ _ rfl, hnext hbad, rfl⟩
              · have hbad : badU a gen ⟨o, ul, up, ub⟩ = true := by simp [badU, hg, hat, hq]
                repeat' ((conv => whnf); first
                  | refine And.intro (hko _) ?_ | refine look_some hfm ?_ | refine And.intro (by decide) ?_ | refine And.intro (Nat.le_of_ble_eq_true rfl) ?_ | refine Exists.intro _ (And.intro (Eq.refl (α := Option D) _) ?_) | refine boolF_not ?_ | refine boolF_dect (by assumption) ?_ | refine boolF_decf (by assumption) ?_)
                all_goals (conv => whnf)
                exact ⟨_, _, fin1 _ _ rfl, rfl, ⟨_, hmem, hbad⟩, rfl⟩
          · have hbad : badU a gen ⟨o, ul, up, ub⟩ = false := by simp [badU, hg]
            cases hat : atL a (o : Int) with
            | none =>
              rw [hat] at hfm
              repeat' ((conv => whnf); first
                | refine And.intro (hko _) ?_ | refine look_none hfm ?_ | refine And.intro (by decide) ?_ | refine And.intro (Nat.le_of_ble_eq_true rfl) ?_ | refine Exists.intro _ (And.intro (Eq.refl (α := Option D) _) ?_) | refine boolF_decf (by assumption) ?_)
              all_goals (conv => whnf)
              exact ⟨_, _, fin1 _ _ rfl, hnext hbad, rfl⟩
            | some v =>
              rw [hat] at hfm
              repeat' ((conv => whnf); first
                | refine And.intro (hko _) ?_ | refine look_some hfm ?_ | refine And.intro (by decide) ?_ | refine And.intro (Nat.le_of_ble_eq_true rfl) ?_ | refine Exists.intro _ (And.intro (Eq.refl (α := Option D) _) ?_) | refine boolF_decf (by assumption) ?_)
              all_goals (conv => whnf)
              exact ⟨_, _, fin1 _ _ rfl, hnext hbad, rfl⟩
        · rintro H1 ⟨hok, rfl⟩
          rw [seqU_len, List.take_length] at hok
          refine exec_ok (n := 0) tab_ok mixed 1000 (bx := [true, false, true]) (own := []) ?_
          repeat' ((conv => whnf); first
            | refine And.intro (by decide) ?_ | refine Exists.intro _ (And.intro (Eq.refl (α := Option D) _) ?_))
          all_goals (conv => whnf)
          exact ⟨bool_t ⟨hra, hrb, hok⟩⟩
        · rintro c H1 ⟨rfl, ⟨u, hu, hbad⟩, rfl⟩
          refine exec_ok (n := 0) tab_ok mixed 1000 (bx := [true, false, true]) (own := []) ?_
          repeat' ((conv => whnf); first
            | refine And.intro (by decide) ?_ | refine Exists.intro _ (And.intro (Eq.refl (α := Option D) _) ?_))
          all_goals (conv => whnf)
          exact ⟨bool_f (fun h => by rw [h.2.2 u hu] at hbad; cases hbad)⟩
    · repeat' ((conv => whnf); first
        | refine And.intro (by decide) ?_ | refine Exists.intro _ (And.intro (Eq.refl (α := Option D) _) ?_) | refine Pure.call (E.f25_ok a ha) ?_ | refine Pure.call (E.f25_ok b hb) ?_ | refine boolF_not ?_ | refine boolF_dect (by assumption) ?_ | refine boolF_decf (by assumption) ?_)
      all_goals (conv => whnf)
      exact ⟨bool_f (fun h => hrb h.2.1)⟩
  · repeat' ((conv => whnf); first
      | refine And.intro (by decide) ?_ | refine Exists.intro _ (And.intro (Eq.refl (α := Option D) _) ?_) | refine Pure.call (E.f25_ok a ha) ?_ | refine boolF_not ?_ | refine boolF_decf (by assumption) ?_)
    all_goals (conv => whnf)
    exact ⟨bool_f (fun h => hra h.1)⟩

end Go.Proofs.Ytlghefbapiocgaa.V

