import Derived.Test.YtbefmodpgecfgaaE3
namespace Go.Proofs.Ytbefmodpgecfgaa
open Go.A
set_option linter.unusedVariables false
set_option linter.unusedSimpArgs false
set_option linter.unnecessarySimpa false
attribute [local irreducible] IntKind.wrap bitsI
set_option maxRecDepth 100000
set_option maxHeartbeats 4000000

theorem r10_bad (n : Int) (h : n < 1 ∨ 256 < n) : Pure Try.prog 10 [.int .i64 n] (.tup [.agg [.nils, .nils, .nils, .bool false, .int .i64 0], .int .i64 1]) := by
  refine Pure.of ⟨trivial, trivial⟩ ⟨⟨trivial, trivial, trivial, trivial, trivial, trivial⟩, trivial, trivial⟩ ?_
  refine CallsIn.of_exec tab_ok mixed Try.func10 rfl rfl [] [] ?_
  repeat' ((conv => whnf); first
    | refine And.intro (by decide) ?_ | refine Exists.intro _ (And.intro (Eq.refl (α := Option D) _) ?_) | refine boolF_dect (by omega) ?_ | refine boolF_dec (fun _ => ?_) (fun _ => ?_))
  all_goals (conv => whnf)
  all_goals (first | exact ⟨rfl⟩ | (exfalso; omega))
def c0R : AObj := .arr 0 5 [.agg [.nils, .nils, .nils, .bool false, .int .i64 0]]
theorem Fzl.snoc {F : List (Nat × AObj)} {x y : D} (h : Fzs F x.cells y.cells) : ∀ (l : List D), Fzl F (l ++ [x]) (l ++ [y])
  | [] => .cons h .nil
  | _ :: l => .cons Fzs.all (Fzl.snoc h l)
theorem scs_rep {k n : Nat} (d : D) (h : d.sc k) : scs k (List.replicate n d) := by
  rw [scs_iff]; intro x hx; rw [List.eq_of_mem_replicate hx]; exact h
theorem osc10 (n i va vb : Nat) : ∀ ob ∈ [c0R, .arr 0 1 (List.replicate n (.bool false)), .arr 0 5 [.agg [.h 3 va 0 i, .h 4 vb 0 i, .h 1 0 0 n, .bool true, .int .i64 (-1)]], .arr va 1 (List.replicate i (d34 (zer 64))), .arr vb 1 (List.replicate i .nils)], ob.sc 5 := fun ob hob => by
  simp only [List.mem_cons, List.not_mem_nil, or_false] at hob
  rcases hob with rfl | rfl | rfl | rfl | rfl
  · exact ⟨⟨trivial, trivial, trivial, trivial, trivial, trivial⟩, trivial⟩
  · exact scs_rep _ trivial
  · exact ⟨⟨show 3 < 5 by decide, show 4 < 5 by decide, show 1 < 5 by decide, trivial, trivial, trivial⟩, trivial⟩
  · exact scs_rep _ (scr5 _ _)
  · exact scs_rep _ trivial
theorem r10_own (n : Nat) (h : 1 ≤ n ∧ n ≤ 256) : CallsIn Try.prog 10 [.int .i64 (n : Int)] [] fun r H => ∃ va vb, r = .tup [.agg (rowR ⟨va, vb⟩ 0 1 2 (newK n)), .int .i64 0] ∧ H = [rPl ⟨va, vb⟩ (newK n).plate, rCa ⟨va, vb⟩ (List.replicate n none), rCd (newK n) 0] := by
  obtain ⟨h1, h2⟩ := h
  refine CallsIn.ghost ?_
  refine CallsIn.of_exec tab_ok mixed Try.func10 rfl rfl [14, 25, 30] [] ?_
  repeat' ((conv => whnf); first
    | refine And.intro (show ((1 : Nat) : Int) * (n : Int) ≤ 281474976710656 by omega) ?_ | refine And.intro (by decide) ?_ | refine And.intro rfl ?_ | refine And.intro (by omega) ?_ | refine boolF_decf (by omega) ?_)
  all_goals (conv => whnf)
  refine W_loopG (ι := Nat × Nat × Nat) (fun j => ⟨(.int .i64 (n : Int) :: D.undef :: .p 0 0 0 0 :: .int .i64 0 :: .p 2 0 0 0 :: .int .i64 (j.1 : Int) :: D.undef :: D.undef :: D.undef :: D.undef :: D.undef :: D.undef :: D.undef :: D.undef :: D.undef :: D.undef :: D.undef :: D.undef :: D.undef :: D.undef :: D.undef :: D.undef :: D.undef :: D.undef :: D.undef :: D.undef :: D.undef :: D.undef :: D.undef :: D.undef :: D.undef :: D.undef :: D.undef :: []), [c0R, .arr 0 1 (List.replicate n (.bool false)), .arr 0 5 [.agg [.h 3 j.2.1 0 j.1, .h 4 j.2.2 0 j.1, .h 1 0 0 n, .bool true, .int .i64 (-1)]], .arr j.2.1 1 (List.replicate j.1 (d34 (zer 64))), .arr j.2.2 1 (List.replicate j.1 .nils)]⟩) (fun j => n - j.1) (fun j => j.1 ≤ n) (0, 0, 0)
    ((Ghost.hold (s1 := (.int .i64 (n : Int) :: D.undef :: .p 0 0 0 0 :: .int .i64 0 :: .p 2 0 0 0 :: .int .i64 0 :: D.undef :: D.undef :: D.undef :: D.undef :: D.undef :: D.undef :: D.undef :: D.undef :: D.undef :: D.undef :: D.undef :: D.undef :: D.undef :: D.undef :: D.undef :: D.undef :: D.undef :: D.undef :: D.undef :: D.undef :: D.undef :: D.undef :: D.undef :: D.undef :: D.undef :: D.undef :: D.undef :: [])) (H1 := [c0R, .arr 0 1 (List.replicate n (.bool false)), .arr 0 5 [.agg [.nils, .nils, .h 1 0 0 n, .bool true, .int .i64 (-1)]]]) [0, 2, 3, 4, 5] rfl).trans
      ((Ghost.matO (o := 2) (sz' := 1) (rows' := [.agg [.h 3 0 0 0, .nils, .h 1 0 0 n, .bool true, .int .i64 (-1)]]) rfl (.cons (.agg (.cons .nil (.cons .refl (.cons .refl (.cons .refl (.cons .refl .nil)))))) .nil)).trans
      (Ghost.matO (o := 2) (sz' := 1) (rows' := [.agg [.h 3 0 0 0, .h 4 0 0 0, .h 1 0 0 n, .bool true, .int .i64 (-1)]]) rfl (.cons (.agg (.cons .refl (.cons .nil (.cons .refl (.cons .refl (.cons .refl .nil)))))) .nil)))) (Nat.zero_le _) ?_
  rintro ⟨i, va, vb⟩ i1
  dsimp only at i1 ⊢
  refine exec_ok tab_ok mixed 1000 (bx := [true, false, true, false, false]) (own := [25, 30]) ?_
  have hl1 : (List.replicate i (d34 (zer 64))).length = i := List.length_replicate
  have hl2 : (List.replicate i D.nils).length = i := List.length_replicate
  rcases Nat.lt_or_ge i n with g | g
  · repeat' ((conv => whnf); first
      | refine PairK.mk (by kernel_rfl) ?_ | refine And.intro (by decide) ?_ | refine And.intro rfl ?_ | refine And.intro (Nat.le_of_ble_eq_true rfl) ?_ | refine And.intro (by omega) ?_ | refine And.intro (okRows_one rfl rfl) ?_ | refine Exists.intro _ (And.intro (⟨len_one⟩) ?_) | refine Exists.intro _ (And.intro (⟨Eq.refl (α := List D) _⟩) ?_) | refine Exists.intro _ (And.intro (w64 (by omega) (by omega)) ?_) | refine boolF_dect (by omega) ?_)
    all_goals (conv => whnf)
    exact ⟨(i + 1, va + 1, vb + 1), (Ghost.fz [(5, .arr 1 1 (List.replicate 64 (D.int .u8 0)))] [(3, .arr (va + 1) 1 (List.replicate (i + 1) (d34 (zer 64))))] (fun x hx => by
        simp only [List.mem_singleton] at hx; subst hx; exact ⟨Nat.zero_le _, rfl, _, _, _, rfl⟩) (by simp) Fzs.all (fun x hx => by
        simp only [List.mem_singleton] at hx; subst hx
        exact ⟨by simp, va + 1, 1, List.replicate i (d34 (zer 64)) ++ [.h 5 1 0 64], _, rfl, rfl, by
          have e : List.replicate (i + 1) (d34 (zer 64)) = List.replicate i (d34 (zer 64)) ++ [d34 (zer 64)] := List.replicate_succ'
          rw [e]; exact Fzl.snoc (x := .h 5 1 0 64) (y := d34 (zer 64)) (.cons (.h (ver := 1) (sz := 1) (rows := List.replicate 64 (D.int .u8 0)) (rows' := List.replicate 64 (D.int .u8 0)) mem0 .all rfl) .nil) _⟩) (by simp)).trans (Ghost.back [0, 2, 3, 4, 5] 5 rfl (by
        show [_, _, _, _, AObj.arr (vb + 1) 1 (List.replicate i .nils ++ [.nils])] = [_, _, _, _, AObj.arr (vb + 1) 1 (List.replicate (i + 1) .nils)]
        rw [← List.replicate_succ']; rfl) (Nat.zero_le _) (by simp [scs, D.sc]) (osc10 _ _ _ _)), g, by dsimp only; omega⟩
  · obtain rfl : i = n := by omega
    repeat' ((conv => whnf); first
      | refine And.intro (by decide) ?_ | refine Exists.intro _ (And.intro (Eq.refl (α := Option D) _) ?_) | refine boolF_decf (by omega) ?_)
    all_goals (conv => whnf)
    refine ⟨⟨.tup [.agg [.h 0 va 0 i, .h 1 vb 0 i, .h 2 0 0 i, .bool true, .int .i64 (-1)], .int .i64 0], [.arr va 1 (List.replicate i (d34 (zer 64))), .arr vb 1 (List.replicate i .nils), .arr 0 1 (List.replicate i (.bool false))], Ghost.pick [3, 4, 1] (by decide) rfl (fun k o ob' e1 e2 => ?_) rfl ⟨⟨⟨show 0 < 3 by decide, show 1 < 3 by decide, show 2 < 3 by decide, trivial, trivial, trivial⟩, trivial, trivial⟩, trivial⟩ (fun ob hob => ?_), va, vb, ?_, ?_⟩⟩
    · match k with
      | 0 => simp at e1 e2; subst e1 e2; rw [renO_sc0 _ (show AObj.sc 0 (.arr va 1 _) from scs_rep (d34 (zer 64)) (scr5 _ _))]; rfl
      | 1 => simp at e1 e2; subst e1 e2; rw [renO_sc0 _ (show AObj.sc 0 (.arr vb 1 _) from scs_rep .nils trivial)]; rfl
      | 2 => simp at e1 e2; subst e1 e2; rw [renO_sc0 _ (show AObj.sc 0 (.arr 0 1 _) from scs_rep (.bool false) trivial)]; rfl
      | k + 3 => simp at e1
    · simp only [List.mem_cons, List.not_mem_nil, or_false] at hob
      rcases hob with rfl | rfl | rfl
      · exact scs_rep _ (scr5 _ _)
      · exact scs_rep _ trivial
      · exact scs_rep _ trivial
    · simp only [rowR, newK, List.length_replicate]; rfl
    · have e3 : (cdM (newK i) 0).map r4 = List.replicate i (.bool false) := by
        apply List.ext_getElem?
        intro j
        rcases Nat.lt_or_ge j i with g2 | g2
        · rw [cd_at (s := newK i) (by simpa [newK] using g2), List.getElem?_replicate, if_pos g2]
          show some (r4 (decide (0 ≤ j) && false)) = _
          rw [Bool.and_false]; rfl
        · rw [List.getElem?_eq_none (by rw [List.length_map, cd_len]; simpa [newK] using g2), List.getElem?_eq_none (by simpa using g2)]
      rw [rCd, e3]
      simp only [rPl, rCa, newK, List.map_replicate]
      rfl

/-- A new disk of the reference, behind what is owned. -/
theorem newR {n : Nat} (h : 1 ≤ n ∧ n ≤ 256) (H : List AObj) {K : D → List AObj → Prop} (hk : ∀ v : Rv, K (.tup [.agg (rowR v H.length (H.length + 1) (H.length + 2) (newK n)), .int .i64 0]) (H ++ [rPl v (newK n).plate, rCa v (List.replicate n none), rCd (newK n) 0])) : CallsIn Try.prog 10 [.int .i64 (n : Int)] H K :=
  CallsIn.mono (CallsIn.fresh (args := [.int .i64 (n : Int)]) ⟨trivial, trivial⟩ (r10_own n h) H) fun r' H' ⟨r0, H0, ⟨va, vb, e1, e2⟩, e3, e4⟩ => by
    subst e1 e2 e3 e4
    have e : [rPl ⟨va, vb⟩ (newK n).plate, rCa ⟨va, vb⟩ (List.replicate n none), rCd (newK n) 0].map (renO fun i => H.length + i) = [rPl ⟨va, vb⟩ (newK n).plate, rCa ⟨va, vb⟩ (List.replicate n none), rCd (newK n) 0] := by
      show [renO _ (rPl _ _), renO _ (rCa _ _), renO _ (rCd _ _)] = _
      rw [renO_sc0 _ (scPl _ _), renO_sc0 _ (scCa _ _), renO_sc0 _ (scCd _ _)]
    rw [e]
    exact hk ⟨va, vb⟩
theorem newR_ok {n : Nat} (h : 1 ≤ n ∧ n ≤ 256) : OkR (newK n) (List.replicate n none) := ⟨newK_ok h, by simp [newK], fun j y hy => by cases hy⟩
theorem okR_arm {s : Dk} {g : Ca} (h : OkR s g) {n : Int} (hn : n ≤ 9223372036854775807) : OkR (armM s n) g := ⟨armM_ok h.k hn, h.len, h.has⟩
theorem okR_cut {s : Dk} {g : Ca} (h : OkR s g) : OkR (cutM s) g := ⟨cutM_ok h.k, h.len, h.has⟩

end Go.Proofs.Ytbefmodpgecfgaa

