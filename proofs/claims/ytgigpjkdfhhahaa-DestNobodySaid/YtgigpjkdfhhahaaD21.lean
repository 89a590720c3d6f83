import Derived.Test.YtgigpjkdfhhahaaD20
namespace Go.Proofs.Ytgigpjkdfhhahaa
open Go.A
set_option linter.unusedVariables false
set_option linter.unusedSimpArgs false
set_option linter.unnecessarySimpa false
attribute [local irreducible] IntKind.wrap bitsI
open B L M
set_option maxRecDepth 100000
set_option maxHeartbeats 4000000

/-- renew, where more things are owned. -/
theorem renew_callF {dv ov : Nat} {d : Dst} {ver : Int} (hv : 0 ≤ ver) (hn : 0 ≤ d.n ∧ d.n ≤ 1024) (F : List AObj) {K : D → List AObj → Prop}
    (hk : ∀ vs : List Nat, vs.length = 16 → ∀ L : List AObj, L.length = 16 → (∀ j, j < 16 → L[j]? = some (oj (bsOf ver d.n vs) j)) →
      K (.tup []) (oR dv d.n ver d.id d.mv d.mn (d22 d.mp) (.sl (ptrs (19 + F.length) (bsOf ver d.n vs))) (.h 1 ov 0 d.out.length) :: (HD dv ov d).drop 1 ++ F ++ .gone :: L)) : Go.A.CallsIn Try.prog 32 [.p 0 dv 0 0, .int .i64 ver] (HD dv ov d ++ F) K := by
  refine callsSelf (Hl := HD dv ov d) (renew_at dv d.n d.version d.id d.mv d.mn ver d.mp ov d.out d.bs hv hn) F ⟨Nat.zero_lt_succ _, trivial, trivial⟩ (scHD _ _ _) ?_
  rintro r0 H0 ⟨vs, h1, rfl, rfl⟩ _
  obtain ⟨ρ, hρ⟩ : ∃ ρ, ρ = ixOf (List.range (HD dv ov d).length) (HD dv ov d ++ F).length := ⟨_, rfl⟩
  have hr1 : ρ 1 = 1 := by rw [hρ]; exact ixOf_range (show 1 < 18 by decide)
  have hr2 : ∀ j, j < vs.length → ρ (19 + j) = 19 + F.length + j := fun j _ => by
    rw [hρ, ixOf, List.getElem?_eq_none (by rw [List.length_range]; show 18 ≤ 19 + j; omega)]
    show (HD dv ov d ++ F).length + (19 + j - (List.range 18).length) = _
    rw [List.length_range, List.length_append]
    show 18 + F.length + (19 + j - 18) = _
    omega
  rw [← hρ]
  have e : place (List.range (HD dv ov d).length) (HD dv ov d ++ F) ((((oR dv d.n ver d.id d.mv d.mn (d22 d.mp) (.sl (ptL 19 vs)) (.h 1 ov 0 d.out.length) :: (HD dv ov d).drop 1)) ++ (.gone :: nwL ver d.n 0 vs)).map (renO ρ))
      = oR dv d.n ver d.id d.mv d.mn (d22 d.mp) (.sl (ptrs (19 + F.length) (bsOf ver d.n vs))) (.h 1 ov 0 d.out.length) :: (HD dv ov d).drop 1 ++ F ++ .gone :: nwL ver d.n 0 vs := by
    rw [List.map_append, place_more (by simp [HD]), List.map_cons, List.map_cons, ren_oR 19 (19 + F.length) vs hr2 hr1, ← ptL_ptrs (19 + F.length) h1]
    have e1 : ((HD dv ov d).drop 1).map (renO ρ) = (HD dv ov d).drop 1 := (List.map_congr_left fun ob hob => renO_sc0 ρ (by
      simp only [HD, List.drop_succ_cons, List.drop_zero, List.mem_cons, List.not_mem_nil, or_false] at hob
      rcases hob with h | h | h | h | h | h | h | h | h | h | h | h | h | h | h | h | h
      · subst h; exact scrO _ _
      all_goals (subst h; exact ⟨scB _ _, trivial⟩))).trans (List.map_id _)
    have e2 : (nwL ver d.n 0 vs).map (renO ρ) = nwL ver d.n 0 vs := (List.map_congr_left fun ob hob => renO_sc0 ρ (nwL_sc 0 vs ob hob)).trans (List.map_id _)
    rw [e1, e2]
    rfl
  rw [show ren ρ (.tup []) = .tup [] from rfl]
  refine (congrArg (K (.tup [])) e).mpr (hk vs h1 _ (by rw [nwL_len, h1]) fun j hj => nwL_oj h1 ver d.n hj)

theorem lenK_of {α : Type} {l : List α} {n : Nat} {X : Nat → Prop} (h : l.length = n) (hx : X n) : lenK l 0 X := lenK_iff.mpr (by rw [Nat.zero_add, h]; exact hx)
def two18 (w : Nat) : D := .agg [.int .i64 1, .int .i64 4, .h 18 w 0 2]
def oTwo (w : Nat) : AObj := .arr w 3 (twoM.pieces_.map r51)
theorem f12_two (w : Nat) : Turns1 Try.prog 12 (fun k => [.agg [.int .i64 1, .int .i64 4, .h k w 0 2]]) (oTwo w) (fun k _ => .agg [.int .i64 1, .int .i64 4, .h k w 0 2]) (fun _ => oTwo w) where
  arg := fun ρ => rfl
  res := fun ρ v => rfl
  asc := ⟨⟨trivial, trivial, Nat.zero_lt_one, trivial⟩, trivial⟩
  osc := scr51 _ _
  ores := fun ρ v => renO_sc0 ρ (show (oTwo w).sc 0 from scr51 _ _)
  calls := (Go.A.CallsIn.ghost ((Go.A.CallsIn.of_exec tab_ok mixed Try.func12 rfl rfl [] [false] (by
    repeat' ((conv => whnf); first
      | refine And.intro (by decide) ?_ | refine Exists.intro _ (And.intro (Eq.refl (α := Option D) _) ?_))
    all_goals (conv => whnf)
    exact ⟨⟨_, _, Ghost.back (H1 := [oTwo w]) [0] 1 rfl rfl (Nat.le_refl _) ⟨⟨trivial, trivial, Nat.zero_lt_one, trivial⟩, trivial⟩ (fun ob hob => by simp only [List.mem_singleton] at hob; subst hob; exact scr51 _ _), rfl, rfl⟩⟩) : Go.A.CallsIn Try.prog 12 [.agg [.int .i64 1, .int .i64 4, .h 0 w 0 2]] [oTwo w] fun r H' => ∃ r'' H'', Ghost 1 [r] H' [r''] H'' ∧ r'' = .agg [.int .i64 1, .int .i64 4, .h 0 w 0 2] ∧ H'' = [oTwo w]))).mono fun r' H' ⟨e1, e2⟩ => ⟨0, e1, e2⟩

theorem f11_two (dv ov w : Nat) (vs : List Nat) (X : AObj) : Go.A.CallsIn Try.prog 11 [.p 0 dv 0 0, .int .i64 1, two18 w] (HD dv ov (newDst 4 (bsOf 0 4 vs)) ++ [oTwo w, X]) fun r H' => ∃ vs2, r = .int .i64 0 ∧ NearC 2 dv (ad0 [] vs2) H' ∧ H'[18]? = some (oTwo w) ∧ H'[19]? = some X := by
  have hd := inv_newD (n := 4) ⟨by decide, by decide⟩ vs
  have h34 := f34_at dv ov (newDst 4 (bsOf 0 4 vs))
  rw [decide_eq_true (show 0 < (newDst 4 (bsOf 0 4 vs)).n from hd.n.1)] at h34
  have h33 := f33_at dv ov hd 1
  rw [find_not (fun x hx => by cases hx)] at h33
  have h35 := f35_ok twoM ok_two
  rw [decide_eq_true (by decide)] at h35
  have h36 := f36_ok twoM.pieces_ (by decide)
  have e0 : ∀ vs2, ad0 [] vs2 = ⟨4, 1, 1, 1, 4, twoM.pieces_, bsOf 1 4 vs2, []⟩ := fun _ => rfl
  refine (Go.A.CallsIn.of_exec tab_ok mixed Try.func11 rfl rfl [5] (bxD ++ [false, true]) ?_ : Go.A.CallsIn Try.prog 11 [.p 0 dv 0 0, .int .i64 1, two18 w] (HD dv ov (newDst 4 (bsOf 0 4 vs)) ++ [oTwo w, X]) fun r H' => ∃ r'' H'', Ghost 20 [r] H' [r''] H'' ∧ ∃ vs2, r'' = .int .i64 0 ∧ NearC 2 dv (ad0 [] vs2) H'' ∧ H''[18]? = some (oTwo w) ∧ H''[19]? = some X).ghost
  repeat' ((conv => whnf); first
    | refine PairK.mk (by kernel_rfl) ?_ | refine look.call h34 [_, _, _] trivial ?_ | refine look.call h33 [_, _, _] ⟨trivial, trivial, trivial⟩ ?_ | refine Pure.seeL h35 [(18, oTwo w)] (fact1 rfl) (fun n => .cons (.agg (.cons (.same trivial) (.cons (.same trivial) (.cons (.h mem0 (.all (scr51 _ _)) (all_take rfl)) .nil)))) .nil) trivial trivial ?_ | refine And.intro (by decide) ?_ | refine And.intro rfl ?_ | refine And.intro (Nat.le_of_ble_eq_true rfl) ?_)
  all_goals (conv => whnf)
  refine renew_callF (by decide) ⟨show (0 : Int) ≤ 4 by decide, show (4 : Int) ≤ 1024 by decide⟩ [_, _, _] (fun vs2 hvs L hL hLat => ?_)
  repeat' ((conv => whnf); first
    | refine And.intro (by decide) ?_ | refine And.intro (Nat.le_of_ble_eq_true rfl) ?_)
  all_goals (conv => whnf)
  refine Owned.seeN h36 2 rfl [(18, oTwo w)] (fact1 rfl) (.cons (.h mem0 (.all (scr51 _ _)) (all_take rfl)) .nil) (bares_map fun x => ⟨trivial, trivial, trivial, trivial⟩) (fun w2 => lenK_of (n := 38) (by simp [HD, hL]) (snocK_iff.mpr ?_))
  repeat' ((conv => whnf); first
    | refine PairK.mk (by kernel_rfl) ?_ | refine And.intro (by decide) ?_ | refine And.intro rfl ?_ | refine And.intro (Nat.le_of_ble_eq_true rfl) ?_)
  all_goals (conv => whnf)
  have hset : ∀ (A : List AObj) (j : Nat) (x : AObj), j < 16 → ((A.set 38 .gone).set 0 x)[22 + j]? = A[22 + j]? := fun A j x hj => by
    rw [List.getElem?_set_ne (by omega), List.getElem?_set_ne (by omega)]
  refine ⟨⟨_, _, Ghost.fz [(38, .arr w2 3 (twoM.pieces_.map r51))] [(0, oD 22 dv ov (ad0 [] vs2))] (fun x hx => ?_) (by simp) Fzs.all (fun x hx => ?_) (by simp), vs2, rfl, ⟨22, ov, .inr (by decide), rfl, rfl, fun j hj => ?_⟩, ?_, ?_⟩⟩
  · simp only [List.mem_singleton] at hx; subst hx
    exact ⟨by dsimp only; omega, by simp [hL], _, _, _, rfl⟩
  · simp only [List.mem_singleton] at hx; subst hx
    refine ⟨by simp, dv, 8, _, _, rfl, rfl, .cons ?_ .nil⟩
    exact .cons .refl (.cons .refl (.cons .refl (.cons .refl (.cons .refl (.cons (.h mem0 .all (all_take rfl)) (.cons .refl (.cons .refl .nil)))))))
  · refine (hset _ j _ hj).trans ?_
    rw [Nat.add_comm 22 j]
    show (L ++ [_])[j]? = _
    rw [List.getElem?_append_left (by omega), hLat j hj]
    rfl
  · rfl
  · rfl

end Go.Proofs.Ytgigpjkdfhhahaa

