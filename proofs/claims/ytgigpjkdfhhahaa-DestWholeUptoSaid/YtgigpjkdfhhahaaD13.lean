import Derived.Test.YtgigpjkdfhhahaaD8
-- merged
namespace Go.Proofs.Ytgigpjkdfhhahaa
open Go.A
set_option linter.unusedVariables false
set_option linter.unusedSimpArgs false
set_option linter.unnecessarySimpa false
attribute [local irreducible] IntKind.wrap bitsI
open B L M
set_option maxRecDepth 100000
set_option maxHeartbeats 4000000

def ptL : Nat → List Nat → List D
  | _, [] => []
  | k, v :: vs => .p k v 0 0 :: ptL (k + 1) vs
def nwL (ver n : Int) : Nat → List Nat → List AObj
  | _, [] => []
  | j, v :: vs => oB v (newB (j : Int) ver n) :: nwL ver n (j + 1) vs
theorem ptL_len : ∀ (k : Nat) (vs : List Nat), (ptL k vs).length = vs.length
  | _, [] => rfl
  | k, _ :: vs => by rw [ptL, List.length_cons, ptL_len, List.length_cons]
theorem nwL_len (ver n : Int) : ∀ (k : Nat) (vs : List Nat), (nwL ver n k vs).length = vs.length
  | _, [] => rfl
  | k, _ :: vs => by rw [nwL, List.length_cons, nwL_len, List.length_cons]
theorem ptL_snoc : ∀ (k : Nat) (vs : List Nat) (v : Nat), ptL k (vs ++ [v]) = ptL k vs ++ [.p (k + vs.length) v 0 0]
  | _, [], _ => rfl
  | k, x :: vs, v => by
    rw [List.cons_append, ptL, ptL_snoc, ptL, List.cons_append, List.length_cons, show k + 1 + vs.length = k + (vs.length + 1) by omega]
theorem nwL_snoc (ver n : Int) : ∀ (k : Nat) (vs : List Nat) (v : Nat), nwL ver n k (vs ++ [v]) = nwL ver n k vs ++ [oB v (newB ((k + vs.length : Nat) : Int) ver n)]
  | _, [], _ => rfl
  | k, x :: vs, v => by
    rw [List.cons_append, nwL, nwL_snoc, nwL, List.cons_append, List.length_cons, show k + 1 + vs.length = k + (vs.length + 1) by omega]
theorem nwL_sc {ver n : Int} {m : Nat} : ∀ (k : Nat) (vs : List Nat), ∀ ob ∈ nwL ver n k vs, ob.sc m
  | _, [], ob, h => by cases h
  | k, v :: vs, ob, h => by
    rw [nwL] at h
    rcases List.mem_cons.mp h with rfl | h
    · exact ⟨scB _ _, trivial⟩
    · exact nwL_sc (k + 1) vs ob h
theorem ptL_sc {m : Nat} : ∀ (k : Nat) (vs : List Nat), k + vs.length ≤ m → scs m (ptL k vs)
  | _, [], _ => trivial
  | k, v :: vs, h => by
    rw [List.length_cons] at h
    exact ⟨show k < m by omega, ptL_sc (k + 1) vs (by omega)⟩
def cR (n ver id mv mn : Int) (mp bd od : D) : List D := [.int .i64 n, .int .i64 ver, .int .i64 id, .int .i64 mv, .int .i64 mn, mp, bd, od]
def oR (dv : Nat) (n ver id mv mn : Int) (mp bd od : D) : AObj := .arr dv 8 [.agg (cR n ver id mv mn mp bd od)]

theorem renew_new (dv : Nat) (n v0 id mv mn ver : Int) (hv : 0 ≤ ver) (hn : 0 ≤ n ∧ n ≤ 1024) :
    Go.A.CallsIn Try.prog 32 [.p 0 dv 0 0, .int .i64 ver] [oR dv n v0 id mv mn .nils .nils .nils] fun r H' => ∃ vs : List Nat, vs.length = 16 ∧ r = .tup [] ∧ H' = [oR dv n ver id mv mn .nils (.sl (ptL 2 vs)) .nils, .gone] ++ nwL ver n 0 vs := by
  refine (Go.A.CallsIn.of_exec tab_ok mixed Try.func32 rfl rfl [] [true] ?_ : Go.A.CallsIn Try.prog 32 [.p 0 dv 0 0, .int .i64 ver] [oR dv n v0 id mv mn .nils .nils .nils] fun r H' => ∃ r'' H'', Ghost 1 [r] H' [r''] H'' ∧ ∃ vs : List Nat, vs.length = 16 ∧ r'' = .tup [] ∧ H'' = [oR dv n ver id mv mn .nils (.sl (ptL 2 vs)) .nils, .gone] ++ nwL ver n 0 vs).ghost
  repeat' ((conv => whnf); first
    | refine And.intro (by decide) ?_ | refine And.intro rfl ?_ | refine And.intro (Nat.le_of_ble_eq_true rfl) ?_)
  all_goals (conv => whnf)
  refine W_loopG (ι := Nat × List Nat) (fun x => ⟨(.p 0 dv 0 0 :: .int .i64 ver :: D.undef :: D.undef :: D.undef :: D.undef :: D.undef :: D.undef :: D.undef :: D.undef :: D.undef :: D.undef :: D.undef :: D.undef :: .int .i64 (x.2.length : Int) :: D.undef :: D.undef :: D.undef :: D.undef :: D.undef :: D.undef :: D.undef :: D.undef :: D.undef :: D.undef :: D.undef :: D.undef :: D.undef :: D.undef :: D.undef :: D.undef :: D.undef :: D.undef :: D.undef :: D.undef :: D.undef :: D.undef :: D.undef :: []), [oR dv n ver id mv mn .nils (.h 1 x.1 0 x.2.length) .nils, .arr x.1 1 (ptL 2 x.2)] ++ nwL ver n 0 x.2⟩) (fun x => 16 - x.2.length) (fun x => x.2.length ≤ 16) (0, [])
    ?_ (Nat.zero_le _) ?_
  · exact ((Ghost.hold (s1 := (.p 0 dv 0 0 :: .int .i64 ver :: D.undef :: D.undef :: D.undef :: D.undef :: D.undef :: D.undef :: D.undef :: D.undef :: D.undef :: D.undef :: D.undef :: D.undef :: .int .i64 0 :: D.undef :: D.undef :: D.undef :: D.undef :: D.undef :: D.undef :: D.undef :: D.undef :: D.undef :: D.undef :: D.undef :: D.undef :: D.undef :: D.undef :: D.undef :: D.undef :: D.undef :: D.undef :: D.undef :: D.undef :: D.undef :: D.undef :: D.undef :: [])) (H1 := [oR dv n ver id mv mn .nils .nils .nils]) [0, 1, 14] rfl).trans (Ghost.matO (o := 0) (sz' := 1) rfl (.cons (.agg (.cons .refl (.cons .refl (.cons .refl (.cons .refl (.cons .refl (.cons .refl (.cons .nil (.cons .refl .nil))))))))) .nil)))
  rintro ⟨w, vs⟩ h1
  dsimp only at h1 ⊢
  obtain ⟨k, hk⟩ : ∃ k, k = vs.length := ⟨_, rfl⟩
  rw [← hk] at h1 ⊢
  refine exec_ok tab_ok mixed 1000 (bx := [true, false]) (own := []) ?_
  rcases Nat.lt_or_ge k 16 with h | h
  · repeat' ((conv => whnf); first
      | refine And.intro (by decide) ?_ | refine And.intro rfl ?_ | refine And.intro (Nat.le_of_ble_eq_true rfl) ?_ | refine boolF_dect (by omega) ?_)
    all_goals (conv => whnf)
    refine OwnedR.call (f56_own (k : Int) ver n ⟨by omega, hv, hn.1, hn.2⟩) (fun v1 => lenK_iff.mpr (snocK_iff.mpr ?_))
    rw [show 0 + ([oR dv n ver id mv mn .nils (.h 1 w 0 k) .nils, AObj.arr w 1 (ptL 2 vs)] ++ nwL ver n 0 vs).length = 2 + k by rw [List.length_append, nwL_len, hk]; simp only [List.length_cons, List.length_nil]; omega]
    repeat' ((conv => whnf); first
      | refine And.intro (by rw [ptL_len]; omega) ?_ | refine And.intro (by decide) ?_ | refine And.intro rfl ?_ | refine And.intro (Nat.le_of_ble_eq_true rfl) ?_ | refine And.intro (by omega) ?_ | refine And.intro (okRows_one rfl rfl) ?_ | refine Exists.intro _ (And.intro (⟨len_one⟩) ?_) | refine Exists.intro _ (And.intro (⟨Eq.refl (α := List D) _⟩) ?_) | refine Exists.intro _ (And.intro (w64 (by omega) (by omega)) ?_))
    all_goals (conv => whnf)
    refine ⟨(w + 1, vs ++ [v1]), Ghost.hold [0, 1, 14] ?_, by rw [List.length_append, List.length_singleton]; omega, by dsimp only; rw [List.length_append, List.length_singleton]; omega⟩
    dsimp only
    rw [ptL_snoc, nwL_snoc, List.length_append, List.length_singleton, ← hk, show 0 + k = k from Nat.zero_add k]
    rfl
  · obtain rfl : k = 16 := by omega
    (conv => whnf)
    refine ⟨⟨_, _, Ghost.fz [(1, .arr w 1 (ptL 2 vs))] [(0, oR dv n ver id mv mn .nils (.sl (ptL 2 vs)) .nils)] (fun x hx => ?_) (by simp) Fzs.all (fun x hx => ?_) (by simp), vs, hk.symm, rfl, rfl⟩⟩
    · simp only [List.mem_singleton] at hx; subst hx
      exact ⟨Nat.le_refl _, rfl, _, _, _, rfl⟩
    · simp only [List.mem_singleton] at hx; subst hx
      refine ⟨by simp, dv, 8, _, _, rfl, rfl, .cons ?_ .nil⟩
      exact .cons .refl (.cons .refl (.cons .refl (.cons .refl (.cons .refl (.cons .refl (.cons (.h mem0 .all (by rw [List.drop_zero, List.take_of_length_le (by rw [ptL_len]; omega)])) (.cons .refl .nil)))))))

theorem renew_at (dv : Nat) (n v0 id mv mn ver : Int) (mp : List T50) (ov : Nat) (out : List Out) (bs : Nat → Nat × Bt) (hv : 0 ≤ ver) (hn : 0 ≤ n ∧ n ≤ 1024) :
    Go.A.CallsIn Try.prog 32 [.p 0 dv 0 0, .int .i64 ver] [oR dv n v0 id mv mn (d22 mp) (.sl (ptrs 2 bs)) (.h 1 ov 0 out.length), oO ov out, oj bs 0, oj bs 1, oj bs 2, oj bs 3, oj bs 4, oj bs 5, oj bs 6, oj bs 7, oj bs 8, oj bs 9, oj bs 10, oj bs 11, oj bs 12, oj bs 13, oj bs 14, oj bs 15] fun r H' => ∃ vs : List Nat, vs.length = 16 ∧ r = .tup [] ∧ H' = [oR dv n ver id mv mn (d22 mp) (.sl (ptL 19 vs)) (.h 1 ov 0 out.length), oO ov out, oj bs 0, oj bs 1, oj bs 2, oj bs 3, oj bs 4, oj bs 5, oj bs 6, oj bs 7, oj bs 8, oj bs 9, oj bs 10, oj bs 11, oj bs 12, oj bs 13, oj bs 14, oj bs 15, .gone] ++ nwL ver n 0 vs := by
  refine (Go.A.CallsIn.of_exec tab_ok mixed Try.func32 rfl rfl [] [true, false, true, true, true, true, true, true, true, true, true, true, true, true, true, true, true, true] ?_ : Go.A.CallsIn Try.prog 32 [.p 0 dv 0 0, .int .i64 ver] [oR dv n v0 id mv mn (d22 mp) (.sl (ptrs 2 bs)) (.h 1 ov 0 out.length), oO ov out, oj bs 0, oj bs 1, oj bs 2, oj bs 3, oj bs 4, oj bs 5, oj bs 6, oj bs 7, oj bs 8, oj bs 9, oj bs 10, oj bs 11, oj bs 12, oj bs 13, oj bs 14, oj bs 15] fun r H' => ∃ r'' H'', Ghost 18 [r] H' [r''] H'' ∧ ∃ vs : List Nat, vs.length = 16 ∧ r'' = .tup [] ∧ H'' = [oR dv n ver id mv mn (d22 mp) (.sl (ptL 19 vs)) (.h 1 ov 0 out.length), oO ov out, oj bs 0, oj bs 1, oj bs 2, oj bs 3, oj bs 4, oj bs 5, oj bs 6, oj bs 7, oj bs 8, oj bs 9, oj bs 10, oj bs 11, oj bs 12, oj bs 13, oj bs 14, oj bs 15, .gone] ++ nwL ver n 0 vs).ghost
  repeat' ((conv => whnf); first
    | refine And.intro (by decide) ?_ | refine And.intro rfl ?_ | refine And.intro (Nat.le_of_ble_eq_true rfl) ?_)
  all_goals (conv => whnf)
  refine W_loopG (ι := Nat × List Nat) (fun x => ⟨(.p 0 dv 0 0 :: .int .i64 ver :: D.undef :: D.undef :: D.undef :: D.undef :: D.undef :: D.undef :: D.undef :: D.undef :: D.undef :: D.undef :: D.undef :: D.undef :: .int .i64 (x.2.length : Int) :: D.undef :: D.undef :: D.undef :: D.undef :: D.undef :: D.undef :: D.undef :: D.undef :: D.undef :: D.undef :: D.undef :: D.undef :: D.undef :: D.undef :: D.undef :: D.undef :: D.undef :: D.undef :: D.undef :: D.undef :: D.undef :: D.undef :: D.undef :: []), [oR dv n ver id mv mn (d22 mp) (.h 18 x.1 0 x.2.length) (.h 1 ov 0 out.length), oO ov out, oj bs 0, oj bs 1, oj bs 2, oj bs 3, oj bs 4, oj bs 5, oj bs 6, oj bs 7, oj bs 8, oj bs 9, oj bs 10, oj bs 11, oj bs 12, oj bs 13, oj bs 14, oj bs 15, .arr x.1 1 (ptL 19 x.2)] ++ nwL ver n 0 x.2⟩) (fun x => 16 - x.2.length) (fun x => x.2.length ≤ 16) (0, [])
    ?_ (Nat.zero_le _) ?_
  · exact ((Ghost.hold (s1 := (.p 0 dv 0 0 :: .int .i64 ver :: D.undef :: D.undef :: D.undef :: D.undef :: D.undef :: D.undef :: D.undef :: D.undef :: D.undef :: D.undef :: D.undef :: D.undef :: .int .i64 0 :: D.undef :: D.undef :: D.undef :: D.undef :: D.undef :: D.undef :: D.undef :: D.undef :: D.undef :: D.undef :: D.undef :: D.undef :: D.undef :: D.undef :: D.undef :: D.undef :: D.undef :: D.undef :: D.undef :: D.undef :: D.undef :: D.undef :: D.undef :: [])) (H1 := [oR dv n ver id mv mn (d22 mp) .nils (.h 1 ov 0 out.length), oO ov out, oj bs 0, oj bs 1, oj bs 2, oj bs 3, oj bs 4, oj bs 5, oj bs 6, oj bs 7, oj bs 8, oj bs 9, oj bs 10, oj bs 11, oj bs 12, oj bs 13, oj bs 14, oj bs 15]) [0, 1, 14] rfl).trans (Ghost.matO (o := 0) (sz' := 1) rfl (.cons (.agg (.cons .refl (.cons .refl (.cons .refl (.cons .refl (.cons .refl (.cons .refl (.cons .nil (.cons .refl .nil))))))))) .nil)))
  rintro ⟨w, vs⟩ h1
  dsimp only at h1 ⊢
  obtain ⟨k, hk⟩ : ∃ k, k = vs.length := ⟨_, rfl⟩
  rw [← hk] at h1 ⊢
  refine exec_ok tab_ok mixed 1000 (bx := [true, false, true, true, true, true, true, true, true, true, true, true, true, true, true, true, true, true, false]) (own := []) ?_
  rcases Nat.lt_or_ge k 16 with h | h
  · repeat' ((conv => whnf); first
      | refine And.intro (by decide) ?_ | refine And.intro rfl ?_ | refine And.intro (Nat.le_of_ble_eq_true rfl) ?_ | refine boolF_dect (by omega) ?_)
    all_goals (conv => whnf)
    refine OwnedR.call (f56_own (k : Int) ver n ⟨by omega, hv, hn.1, hn.2⟩) (fun v1 => lenK_iff.mpr (snocK_iff.mpr ?_))
    rw [show 0 + ([oR dv n ver id mv mn (d22 mp) (.h 18 w 0 k) (.h 1 ov 0 out.length), oO ov out, oj bs 0, oj bs 1, oj bs 2, oj bs 3, oj bs 4, oj bs 5, oj bs 6, oj bs 7, oj bs 8, oj bs 9, oj bs 10, oj bs 11, oj bs 12, oj bs 13, oj bs 14, oj bs 15, AObj.arr w 1 (ptL 19 vs)] ++ nwL ver n 0 vs).length = 19 + k by rw [List.length_append, nwL_len, hk]; simp only [List.length_cons, List.length_nil]; omega]
    repeat' ((conv => whnf); first
      | refine And.intro (by rw [ptL_len]; omega) ?_ | refine And.intro (by decide) ?_ | refine And.intro rfl ?_ | refine And.intro (Nat.le_of_ble_eq_true rfl) ?_ | refine And.intro (by omega) ?_ | refine And.intro (okRows_one rfl rfl) ?_ | refine Exists.intro _ (And.intro (⟨len_one⟩) ?_) | refine Exists.intro _ (And.intro (⟨Eq.refl (α := List D) _⟩) ?_) | refine Exists.intro _ (And.intro (w64 (by omega) (by omega)) ?_))
    all_goals (conv => whnf)
    refine ⟨(w + 1, vs ++ [v1]), Ghost.hold [0, 1, 14] ?_, by rw [List.length_append, List.length_singleton]; omega, by dsimp only; rw [List.length_append, List.length_singleton]; omega⟩
    dsimp only
    rw [ptL_snoc, nwL_snoc, List.length_append, List.length_singleton, ← hk, show 0 + k = k from Nat.zero_add k]
    rfl
  · obtain rfl : k = 16 := by omega
    (conv => whnf)
    refine ⟨⟨_, _, Ghost.fz [(18, .arr w 1 (ptL 19 vs))] [(0, oR dv n ver id mv mn (d22 mp) (.sl (ptL 19 vs)) (.h 1 ov 0 out.length))] (fun x hx => ?_) (by simp) Fzs.all (fun x hx => ?_) (by simp), vs, hk.symm, rfl, rfl⟩⟩
    · simp only [List.mem_singleton] at hx; subst hx
      exact ⟨Nat.le_refl _, rfl, _, _, _, rfl⟩
    · simp only [List.mem_singleton] at hx; subst hx
      refine ⟨by simp, dv, 8, _, _, rfl, rfl, .cons ?_ .nil⟩
      exact .cons .refl (.cons .refl (.cons .refl (.cons .refl (.cons .refl (.cons .refl (.cons (.h mem0 .all (by rw [List.drop_zero, List.take_of_length_le (by rw [ptL_len]; omega)])) (.cons .refl .nil)))))))

end Go.Proofs.Ytgigpjkdfhhahaa


namespace Go.Proofs.Ytgigpjkdfhhahaa
open Go.A
set_option linter.unusedVariables false
set_option linter.unusedSimpArgs false
set_option linter.unnecessarySimpa false
attribute [local irreducible] IntKind.wrap bitsI
open B L M
set_option maxRecDepth 100000
set_option maxHeartbeats 4000000

def bsOf (ver n : Int) (vs : List Nat) : Nat → Nat × Bt := fun j => (vs.getD j 0, newB (j : Int) ver n)
theorem ptL_at : ∀ (k : Nat) (vs : List Nat) (j : Nat), j < vs.length → (ptL k vs)[j]? = some (.p (k + j) (vs.getD j 0) 0 0)
  | k, [], j, h => by simp at h
  | k, v :: vs, 0, h => rfl
  | k, v :: vs, j + 1, h => by
    rw [ptL, List.getElem?_cons_succ, ptL_at (k + 1) vs j (by simpa using h), List.getD_cons_succ, show k + 1 + j = k + (j + 1) by omega]
theorem nwL_at (ver n : Int) : ∀ (k : Nat) (vs : List Nat) (j : Nat), j < vs.length → (nwL ver n k vs)[j]? = some (oB (vs.getD j 0) (newB ((k + j : Nat) : Int) ver n))
  | k, [], j, h => by simp at h
  | k, v :: vs, 0, h => rfl
  | k, v :: vs, j + 1, h => by
    rw [nwL, List.getElem?_cons_succ, nwL_at ver n (k + 1) vs j (by simpa using h), List.getD_cons_succ, show k + 1 + j = k + (j + 1) by omega]
theorem ptL_ptrs (k : Nat) {vs : List Nat} (h : vs.length = 16) (ver n : Int) : ptL k vs = ptrs k (bsOf ver n vs) := by
  refine List.ext_getElem? fun j => ?_
  rcases Nat.lt_or_ge j 16 with hj | hj
  · rw [ptL_at k vs j (by omega), ptrs, List.getElem?_map, List.getElem?_range hj]; rfl
  · rw [List.getElem?_eq_none (by rw [ptL_len]; omega), List.getElem?_eq_none (by rw [len_ptrs]; omega)]
theorem nwL_oj {vs : List Nat} (h : vs.length = 16) (ver n : Int) {j : Nat} (hj : j < 16) : (nwL ver n 0 vs)[j]? = some (oj (bsOf ver n vs) j) := by
  rw [nwL_at ver n 0 vs j (by omega), Nat.zero_add]; rfl

/-- A destination's cells, its berths from k on, what is published under t. -/
def oDt (k t dv ov : Nat) (d : Dst) : AObj := .arr dv 8 [.agg [.int .i64 d.n, .int .i64 d.version, .int .i64 d.id, .int .i64 d.mv, .int .i64 d.mn, d22 d.mp, .sl (ptrs k d.bs), .h t ov 0 d.out.length]]
theorem oDt_oD (k dv ov : Nat) (d : Dst) : oDt k 1 dv ov d = oD k dv ov d := rfl
theorem ren_ptrs {ρ : Nat → Nat} {k k' : Nat} (h : ∀ j, j < 16 → ρ (k + j) = k' + j) (bs : Nat → Nat × Bt) : renL ρ (ptrs k bs) = ptrs k' bs := by
  rw [renL_map, ptrs, ptrs, List.map_map]
  refine List.map_congr_left fun j hj => ?_
  rw [List.mem_range] at hj
  show ren ρ (.p (k + j) _ 0 0) = _
  rw [ren, h j hj]
theorem ren_oDt {ρ : Nat → Nat} {k k' t t' : Nat} (h : ∀ j, j < 16 → ρ (k + j) = k' + j) (ht : ρ t = t') (dv ov : Nat) (d : Dst) : renO ρ (oDt k t dv ov d) = oDt k' t' dv ov d := by
  unfold oDt
  simp only [renO, renL, ren, ren_ptrs h, ht, d22]
  rw [renL_sc0 ρ _ (scr51 0 d.mp)]

theorem hd_range (dv ov : Nat) (d : Dst) : HD dv ov d = oDt 2 1 dv ov d :: oO ov d.out :: (List.range 16).map (oj d.bs) := rfl
def pickM (k t : Nat) (fl : List Nat) : List Nat := 0 :: t :: ((List.range 16).map (k + ·) ++ fl)
theorem pickM_at (k t : Nat) (fl : List Nat) {j : Nat} (h : j < 16) : (pickM k t fl).getD (2 + j) 0 = k + j := by
  rw [List.getD_eq_getElem?_getD, show 2 + j = j + 1 + 1 by omega, pickM, List.getElem?_cons_succ, List.getElem?_cons_succ, List.getElem?_append_left (by simp; exact h), List.getElem?_map, List.getElem?_range h]
  rfl
/-- A destination is found again, behind what is let go; what else is kept (F) lies at fl. -/
theorem pickHD {k t dv ov : Nat} {d : Dst} {H F : List AObj} {fl : List Nat} (h0 : H[0]? = some (oDt k t dv ov d)) (h1 : H[t]? = some (oO ov d.out)) (hb : ∀ j, j < 16 → H[k + j]? = some (oj d.bs j)) (hf : fl.map (fun o => H[o]?) = F.map some) (hF : ∀ ob ∈ F, ob.sc 0)
    (hn : (pickM k t fl).Nodup) {s : List D} (hs : s = renL (fun i => (pickM k t fl).getD i 0) s) (hsc : scs (18 + fl.length) s) : Ghost 0 s H s (HD dv ov d ++ F) := by
  have hfl : fl.length = F.length := by have := congrArg List.length hf; simpa using this
  have hml : (pickM k t fl).length = 18 + fl.length := by simp only [pickM, List.length_cons, List.length_append, List.length_map, List.length_range]; omega
  have hlen : (pickM k t fl).length = (HD dv ov d ++ F).length := by rw [hml, List.length_append, hfl]; rfl
  refine Ghost.pick (pickM k t fl) hn hlen (fun i o ob' g1 g2 => ?_) hs (by rw [hml]; exact hsc) (fun ob hob => ?_)
  · match i, g1, g2 with
    | 0, g1, g2 =>
      obtain rfl : 0 = o := Option.some.inj g1
      obtain rfl := Option.some.inj (g2.symm.trans (rfl : (HD dv ov d ++ F)[0]? = some (oDt 2 1 dv ov d)))
      have e := ren_oDt (ρ := fun i => (pickM k t fl).getD i 0) (k := 2) (k' := k) (t := 1) (t' := t) (fun j hj => pickM_at k t fl hj) rfl dv ov d
      show H[0]? = some (renO _ (oDt 2 1 dv ov d))
      rw [e]
      exact h0
    | 1, g1, g2 =>
      obtain rfl : t = o := Option.some.inj g1
      obtain rfl := Option.some.inj (g2.symm.trans (rfl : (HD dv ov d ++ F)[1]? = some (oO ov d.out)))
      rw [renO_sc0 _ (show (oO ov d.out).sc 0 from scrO 0 _)]
      exact h1
    | j + 2, g1, g2 =>
      rw [pickM, List.getElem?_cons_succ, List.getElem?_cons_succ] at g1
      rw [hd_range, List.cons_append, List.cons_append, List.getElem?_cons_succ, List.getElem?_cons_succ] at g2
      rcases Nat.lt_or_ge j 16 with hj | hj
      · rw [List.getElem?_append_left (by simpa using hj), List.getElem?_map, List.getElem?_range hj] at g1 g2
        obtain rfl := Option.some.inj g1
        obtain rfl := Option.some.inj g2
        rw [renO_sc0 _ (show (oj d.bs j).sc 0 from ⟨scB _ _, trivial⟩)]
        exact hb j hj
      · rw [List.getElem?_append_right (by simpa using hj)] at g1 g2
        simp only [List.length_map, List.length_range] at g1 g2
        have h3 := congrArg (fun l => l[j - 16]?) hf
        simp only [List.getElem?_map, g1, g2, Option.map_some] at h3
        rw [Option.some.inj h3, renO_sc0 _ (hF ob' (List.mem_of_getElem? g2))]
  · rw [hml]
    rcases List.mem_append.mp hob with h | h
    · exact scHDn (by omega) _ _ _ ob h
    · exact osc_le (hF ob h)
theorem pickM_nodup {k t : Nat} (hk : 2 ≤ k) (ht : t ≠ 0) (ht2 : t < k ∨ k + 16 ≤ t) : (pickM k t []).Nodup := by
  rw [pickM, List.append_nil, List.nodup_cons, List.nodup_cons]
  refine ⟨?_, ?_, ?_⟩
  · simp only [List.mem_cons, List.mem_map, List.mem_range, not_or, not_exists, not_and]
    exact ⟨fun e => ht e.symm, fun j _ => by omega⟩
  · simp only [List.mem_map, List.mem_range, not_exists, not_and]
    intro j hj; omega
  · exact List.pairwise_map.mpr (List.nodup_range.imp fun h e => h (by omega))

def newDst (n : Int) (bs : Nat → Nat × Bt) : Dst := ⟨n, 0, 0, 0, 0, [], bs, []⟩
def newP (n : Int) : Prop := 1 ≤ n ∧ n ≤ 1024
instance (n : Int) : Decidable (newP n) := inferInstanceAs (Decidable (_ ∧ _))
theorem inv_newD {n : Int} (h : newP n) (vs : List Nat) : InvD (newDst n (bsOf 0 n vs)) where
  n := h
  b := fun j hj => inv_new ⟨by omega, Int.le_refl _, show (0 : Int) ≤ n by have := h.1; omega, h.2⟩
  id := Int.le_refl _
  mp := fun g => absurd rfl g
  out := Nat.zero_le _
  outv := fun x hx => by cases hx
  room := fun g => absurd rfl g
  nd := List.nodup_nil
  fresh := fun g => absurd rfl g
  pos := fun x hx => by cases hx
  ver := Int.le_refl _

theorem f10_own (n : Int) (h : newP n) : Go.A.CallsIn Try.prog 10 [.int .i64 n] [] fun r H' => ∃ dv ov vs, r = .tup [.p 0 dv 0 0, .int .i64 0] ∧ H' = HD dv ov (newDst n (bsOf 0 n vs)) := by
  refine (Go.A.CallsIn.of_exec tab_ok mixed Try.func10 rfl rfl [13] [] ?_ : Go.A.CallsIn Try.prog 10 [.int .i64 n] [] fun r H' => ∃ r'' H'', Ghost 0 [r] H' [r''] H'' ∧ ∃ dv ov vs, r'' = .tup [.p 0 dv 0 0, .int .i64 0] ∧ H'' = HD dv ov (newDst n (bsOf 0 n vs))).ghost
  obtain ⟨h1, h2⟩ := h
  repeat' ((conv => whnf); first
    | refine boolF_decf (by omega) ?_)
  all_goals (conv => whnf)
  refine (renew_new 0 n 0 0 0 0 0 (Int.le_refl _) ⟨by omega, h2⟩).mono ?_
  rintro r H' ⟨vs, hv, rfl, rfl⟩
  rw [ptL_ptrs 2 hv 0 n]
  (conv => whnf)
  obtain ⟨L, hL⟩ : ∃ L, L = nwL 0 n 0 vs := ⟨_, rfl⟩
  have hLl : L.length = 16 := by rw [hL, nwL_len, hv]
  rw [← hL]
  have hlen : (oR 0 n 0 0 0 0 D.nils (D.sl (ptrs 2 (bsOf 0 n vs))) D.nils :: AObj.gone :: L).length = 18 := by simp [hLl]
  have g1 : ∀ s, Ghost 0 s (oR 0 n 0 0 0 0 D.nils (D.sl (ptrs 2 (bsOf 0 n vs))) D.nils :: AObj.gone :: L) s ((oR 0 n 0 0 0 0 D.nils (D.sl (ptrs 2 (bsOf 0 n vs))) (.h 18 0 0 0) :: AObj.gone :: L) ++ [.arr 0 2 []]) := fun s =>
    Ghost.matO (o := 0) (sz' := 2) rfl (by rw [hlen]; exact .cons (.agg (.cons .refl (.cons .refl (.cons .refl (.cons .refl (.cons .refl (.cons .refl (.cons .refl (.cons .nil .nil))))))))) .nil)
  have g2 : ∀ s, Ghost 0 s ((oR 0 n 0 0 0 0 D.nils (D.sl (ptrs 2 (bsOf 0 n vs))) (.h 18 0 0 0) :: AObj.gone :: L) ++ [.arr 0 2 []]) s ((oDt 2 18 0 0 (newDst n (bsOf 0 n vs)) :: AObj.gone :: L) ++ [.arr 0 2 []]) := fun s =>
    Ghost.re (o := 0) rfl (.cons (.cons .refl (.cons .refl (.cons .refl (.cons .refl (.cons .refl (.cons .nils (.cons .refl (.cons .refl .nil)))))))) .nil)
  have g3 : Ghost 0 [.tup [.p 0 0 0 0, .int .i64 0]] ((oDt 2 18 0 0 (newDst n (bsOf 0 n vs)) :: AObj.gone :: L) ++ [.arr 0 2 []]) [.tup [.p 0 0 0 0, .int .i64 0]] (HD 0 0 (newDst n (bsOf 0 n vs)) ++ []) :=
    pickHD (k := 2) (t := 18) (fl := []) rfl (by rw [List.getElem?_append_right (by simp [hLl])]; simp [hLl]; rfl) (fun j hj => by
      rw [List.getElem?_append_left (by simp [hLl]; omega), show 2 + j = j + 1 + 1 by omega, List.getElem?_cons_succ, List.getElem?_cons_succ, hL]
      exact nwL_oj hv 0 n hj) rfl (by simp) (pickM_nodup (by decide) (by decide) (by decide)) rfl ⟨⟨Nat.zero_lt_succ _, trivial, trivial⟩, trivial⟩
  exact ⟨⟨_, _, (g1 _).trans ((g2 _).trans g3), 0, 0, vs, rfl, List.append_nil _⟩⟩
theorem f10_bad (n : Int) (h : ¬ newP n) : Pure Try.prog 10 [.int .i64 n] (.tup [.pnil, .int .i64 1]) := by
  refine Pure.of ⟨trivial, trivial⟩ ⟨trivial, trivial, trivial⟩ ?_
  refine Go.A.CallsIn.of_exec tab_ok mixed Try.func10 rfl rfl [] [] ?_
  simp only [newP] at h
  repeat' ((conv => whnf); first
    | refine boolF_dect (by omega) ?_ | refine boolF_dec (fun _ => ?_) (fun _ => ?_))
  all_goals (conv => whnf)
  all_goals (first | exact ⟨rfl⟩ | (exfalso; omega))

end Go.Proofs.Ytgigpjkdfhhahaa


namespace Go.Proofs.Ytgigpjkdfhhahaa
open Go.A
set_option linter.unusedVariables false
set_option linter.unusedSimpArgs false
set_option linter.unnecessarySimpa false
attribute [local irreducible] IntKind.wrap bitsI
open B L M
set_option maxRecDepth 100000
set_option maxHeartbeats 4000000

theorem f36_ok (l : List T50) (hlen : l.length ≤ 1000000) : Owned Try.prog 36 [d22 l] 3 (l.map r51) := by
  refine Owned.of ⟨scd22 _ _, trivial⟩ (scr51 _ _) ?_
  refine Go.A.CallsIn.of_exec tab_ok mixed Try.func36 rfl rfl [5] [] ?_
  cases l with
  | nil =>
    repeat' ((conv => whnf); first
      | refine And.intro (okRows_map (fun _ _ => ⟨rfl, rfl⟩)) ?_ | refine And.intro (by decide) ?_ | refine Exists.intro _ (And.intro (⟨len_more⟩) ?_) | refine Exists.intro _ (And.intro (⟨Eq.refl (α := List D) _⟩) ?_) | refine Both.mk ?_ ?_)
    all_goals (conv => whnf)
    · exact ⟨0, Ghost.mat (t := 0) rfl⟩
    · exact ⟨1, Ghost.refl _ _ _⟩
  | cons x l =>
    repeat' ((conv => whnf); first
      | refine And.intro (okRows_map (fun _ _ => ⟨rfl, rfl⟩)) ?_ | refine And.intro (by decide) ?_ | refine And.intro (List.cons_ne_nil _ _) ?_ | refine And.intro (by omega) ?_ | refine Exists.intro _ (And.intro (⟨len_more⟩) ?_) | refine Exists.intro _ (And.intro (⟨Eq.refl (α := List D) _⟩) ?_))
    all_goals (conv => whnf)
    refine ⟨1, Ghost.hold [0] ?_⟩
    rw [Nat.zero_add (x :: l).length, List.length_map]
    rfl

/-- A destination is there, its berths from somewhere on. -/
def Near (dv : Nat) (d : Dst) (H : List AObj) : Prop := ∃ k ov, (k = 2 ∨ 18 ≤ k) ∧ H[0]? = some (oDt k 1 dv ov d) ∧ H[1]? = some (oO ov d.out) ∧ ∀ j, j < 16 → H[k + j]? = some (oj d.bs j)
theorem near_hd (dv ov : Nat) (d : Dst) (F : List AObj) : Near dv d (HD dv ov d ++ F) := ⟨2, ov, .inl rfl, rfl, rfl, fun j hj => by
  rw [List.getElem?_append_left (show 2 + j < 18 by omega)]
  exact hd_at dv ov d hj⟩
theorem Near.len {dv : Nat} {d : Dst} {H : List AObj} (h : Near dv d H) : 18 ≤ H.length := by
  obtain ⟨k, ov, h1, _, _, h4⟩ := h
  have := (List.getElem?_eq_some_iff.mp (h4 15 (by decide))).1
  omega
theorem Near.set {dv : Nat} {d : Dst} {H : List AObj} (h : Near dv d H) {i : Nat} {x : AObj} (hi : 18 ≤ i) (hn : H.length ≤ i) : Near dv d (H.set i x) := by
  rw [List.set_eq_of_length_le hn]; exact h
theorem near_pick {dv : Nat} {d : Dst} {H F : List AObj} {fl : List Nat} (h : Near dv d H) (hf : fl.map (fun o => H[o]?) = F.map some) (hF : ∀ ob ∈ F, ob.sc 0) {s : List D} (hfl : ∀ k, k = 2 ∨ 18 ≤ k → (∀ j, j < 16 → k + j < H.length) → (pickM k 1 fl).Nodup) (hs : ∀ k, s = renL (fun i => (pickM k 1 fl).getD i 0) s) (hsc : scs (18 + fl.length) s) :
    ∃ ov, Ghost 0 s H s (HD dv ov d ++ F) := by
  obtain ⟨k, ov, h1, h2, h3, h4⟩ := h
  exact ⟨ov, pickHD h2 h3 h4 hf hF (hfl k h1 fun j hj => (List.getElem?_eq_some_iff.mp (h4 j hj)).1) (hs k) hsc⟩

def annD (d : Dst) (id : Int) (m : T23) (vs : List Nat) : Dst × Int :=
  if id < 1 ∨ ¬ rightP m ∨ m.n_ ≠ d.n then (d, 1) else if (findD d id).2 = 0 then (d, 10) else if d.id ≠ 0 then (d, 11) else if d.out.length = 32 then (d, 6)
  else (⟨d.n, m.version_, id, m.version_, m.n_, m.pieces_, if m.version_ = d.version then d.bs else bsOf m.version_ d.n vs, d.out⟩, 0)
theorem renL_ptL {ρ : Nat → Nat} : ∀ (k k' : Nat) (vs : List Nat), (∀ j, j < vs.length → ρ (k + j) = k' + j) → renL ρ (ptL k vs) = ptL k' vs
  | _, _, [], _ => rfl
  | k, k', v :: vs, h => by
    rw [ptL, ptL, renL, ren, renL_ptL (k + 1) (k' + 1) vs (fun j hj => by rw [show k + 1 + j = k + (j + 1) by omega, h (j + 1) (by simpa using hj)]; omega)]
    have := h 0 (by simp)
    rw [Nat.add_zero, Nat.add_zero] at this
    rw [this]
theorem ren_oR {ρ : Nat → Nat} (k k' : Nat) (vs : List Nat) (h : ∀ j, j < vs.length → ρ (k + j) = k' + j) (h1 : ρ 1 = 1) (dv : Nat) (n v0 id mv mn : Int) (mp : List T50) (ov len : Nat) :
    renO ρ (oR dv n v0 id mv mn (d22 mp) (.sl (ptL k vs)) (.h 1 ov 0 len)) = oR dv n v0 id mv mn (d22 mp) (.sl (ptL k' vs)) (.h 1 ov 0 len) := by
  unfold oR cR
  simp only [renO, renL, ren, renL_ptL k k' vs h, h1, d22]
  rw [renL_sc0 ρ _ (scr51 0 mp)]
/-- renew, where something more is owned. -/
theorem renew_call {dv ov : Nat} {d : Dst} {ver : Int} (hv : 0 ≤ ver) (hn : 0 ≤ d.n ∧ d.n ≤ 1024) (F : AObj) {K : D → List AObj → Prop}
    (hk : ∀ vs : List Nat, vs.length = 16 → ∀ L : List AObj, L.length = 16 → (∀ j, j < 16 → L[j]? = some (oj (bsOf ver d.n vs) j)) →
      K (.tup []) (oR dv d.n ver d.id d.mv d.mn (d22 d.mp) (.sl (ptrs 20 (bsOf ver d.n vs))) (.h 1 ov 0 d.out.length) :: (HD dv ov d).drop 1 ++ F :: .gone :: L)) : Go.A.CallsIn Try.prog 32 [.p 0 dv 0 0, .int .i64 ver] (HD dv ov d ++ [F]) K := by
  refine callsSelf (Hl := HD dv ov d) (renew_at dv d.n d.version d.id d.mv d.mn ver d.mp ov d.out d.bs hv hn) [F] ⟨Nat.zero_lt_succ _, trivial, trivial⟩ (scHD _ _ _) ?_
  rintro r0 H0 ⟨vs, h1, rfl, rfl⟩ _
  obtain ⟨ρ, hρ⟩ : ∃ ρ, ρ = ixOf (List.range (HD dv ov d).length) (HD dv ov d ++ [F]).length := ⟨_, rfl⟩
  have hr1 : ρ 1 = 1 := by rw [hρ]; rfl
  have hr2 : ∀ j, j < vs.length → ρ (19 + j) = 20 + j := fun j _ => by
    rw [hρ, ixOf, List.getElem?_eq_none (by rw [List.length_range]; show 18 ≤ 19 + j; omega)]
    show 19 + (19 + j - (List.range 18).length) = 20 + j
    rw [List.length_range]; omega
  rw [← hρ]
  have e : place (List.range (HD dv ov d).length) (HD dv ov d ++ [F]) ((((oR dv d.n ver d.id d.mv d.mn (d22 d.mp) (.sl (ptL 19 vs)) (.h 1 ov 0 d.out.length) :: (HD dv ov d).drop 1)) ++ (.gone :: nwL ver d.n 0 vs)).map (renO ρ))
      = oR dv d.n ver d.id d.mv d.mn (d22 d.mp) (.sl (ptrs 20 (bsOf ver d.n vs))) (.h 1 ov 0 d.out.length) :: (HD dv ov d).drop 1 ++ F :: .gone :: nwL ver d.n 0 vs := by
    rw [List.map_append, place_more (by simp [HD]), List.map_cons, List.map_cons, ren_oR 19 20 vs hr2 hr1, ← ptL_ptrs 20 h1]
    have e1 : ((HD dv ov d).drop 1).map (renO ρ) = (HD dv ov d).drop 1 := (List.map_congr_left fun ob hob => renO_sc0 ρ (by
      simp only [HD, List.drop_succ_cons, List.drop_zero, List.mem_cons, List.not_mem_nil, or_false] at hob
      rcases hob with h | h | h | h | h | h | h | h | h | h | h | h | h | h | h | h | h
      · subst h; exact scrO _ _
      all_goals (subst h; exact ⟨scB _ _, trivial⟩))).trans (List.map_id _)
    have e2 : (nwL ver d.n 0 vs).map (renO ρ) = nwL ver d.n 0 vs := (List.map_congr_left fun ob hob => renO_sc0 ρ (nwL_sc 0 vs ob hob)).trans (List.map_id _)
    rw [e1, e2, List.append_assoc]
    rfl
  rw [show ren ρ (.tup []) = .tup [] from rfl]
  refine (congrArg (K (.tup [])) e).mpr (hk vs h1 _ (by rw [nwL_len, h1]) fun j hj => nwL_oj h1 ver d.n hj)

end Go.Proofs.Ytgigpjkdfhhahaa


namespace Go.Proofs.Ytgigpjkdfhhahaa
open Go.A
set_option linter.unusedVariables false
set_option linter.unusedSimpArgs false
set_option linter.unnecessarySimpa false
attribute [local irreducible] IntKind.wrap bitsI
open B L M
set_option maxRecDepth 100000
set_option maxHeartbeats 4000000

theorem inv_ann {d : Dst} (hd : InvD d) {id : Int} {m : T23} {vs : List Nat} : InvD (annD d id m vs).1 := by
  unfold annD
  split
  · exact hd
  rename_i g1
  have g1a : 1 ≤ id := by omega
  have g1b : rightP m := Classical.byContradiction fun g => g1 (.inr (.inl g))
  have g1c : m.n_ = d.n := Classical.byContradiction fun g => g1 (.inr (.inr g))
  split
  · exact hd
  rename_i g2
  split
  · exact hd
  split
  · exact hd
  rename_i g3 g4
  obtain ⟨_, h2⟩ := find_no g2
  refine ⟨hd.n, fun j hj => ?_, show 0 ≤ id by omega, fun _ => ⟨g1b, g1c⟩, hd.out, hd.outv, fun _ => show d.out.length < 32 by have := hd.out; omega, hd.nd, fun _ => h2, hd.pos, show 0 ≤ m.version_ by have := g1b.1; omega⟩
  show InvB (j : Int) m.version_ d.n.toNat ((if m.version_ = d.version then d.bs else bsOf m.version_ d.n vs) j).2
  split
  · rename_i g5; rw [g5]; exact hd.b j hj
  · exact inv_new ⟨by omega, by have := g1b.1; omega, by have := hd.n; omega, hd.n.2⟩

theorem f11_at (dv ov : Nat) {d : Dst} (hd : InvD d) (id : Int) (m : T23) (hm : ok24 m) : Go.A.CallsIn Try.prog 11 [.p 0 dv 0 0, .int .i64 id, d33 m] (HD dv ov d) fun r H' => ∃ vs, r = .int .i64 (annD d id m vs).2 ∧ Near dv (annD d id m vs).1 H' := by
  have h34 := f34_at dv ov d
  rw [decide_eq_true (show 0 < d.n from hd.n.1)] at h34
  have h33 := f33_at dv ov hd id
  have h35 := f35_ok m hm
  have hF := find_no (d := d) (id := id)
  obtain ⟨f, hf⟩ : ∃ f, f = findD d id := ⟨_, rfl⟩
  refine (Go.A.CallsIn.of_exec tab_ok mixed Try.func11 rfl rfl [5] bxD ?_ : Go.A.CallsIn Try.prog 11 [.p 0 dv 0 0, .int .i64 id, d33 m] (HD dv ov d) fun r H' => ∃ r'' H'', Ghost 18 [r] H' [r''] H'' ∧ ∃ vs, r'' = .int .i64 (annD d id m vs).2 ∧ Near dv (annD d id m vs).1 H'').ghost
  have stay : ∀ (e : Int) (F : List AObj), (∀ vs, annD d id m vs = (d, e)) → ∃ r'' H'', Ghost 18 [D.int .i64 e] (HD dv ov d ++ F) [r''] H'' ∧ ∃ vs, r'' = .int .i64 (annD d id m vs).2 ∧ Near dv (annD d id m vs).1 H'' := fun e F h => ⟨_, _, Ghost.refl _ _ _, [], by rw [h], by rw [h]; exact near_hd _ _ _ _⟩
  rw [← hf] at h33 hF
  by_cases h1 : id < 1
  · have e : ∀ vs, annD d id m vs = (d, 1) := fun vs => by rw [annD, if_pos (.inl h1)]
    repeat' ((conv => whnf); first
      | refine PairK.mk (by kernel_rfl) ?_ | refine look.call h34 [.arr 0 3 [.agg (c33 m)]] trivial ?_ | refine look.call h33 [.arr 0 3 [.agg (c33 m)]] ⟨trivial, trivial, trivial⟩ ?_ | refine boolF_dect (by assumption) ?_)
    all_goals (conv => whnf)
    exact ⟨stay 1 _ e⟩
  by_cases h2 : rightP m
  case neg =>
    have e : ∀ vs, annD d id m vs = (d, 1) := fun vs => by rw [annD, if_pos (.inr (.inl h2))]
    rw [decide_eq_false h2] at h35
    repeat' ((conv => whnf); first
      | refine PairK.mk (by kernel_rfl) ?_ | refine look.call h34 [.arr 0 3 [.agg (c33 m)]] trivial ?_ | refine look.call h33 [.arr 0 3 [.agg (c33 m)]] ⟨trivial, trivial, trivial⟩ ?_ | refine And.intro (by decide) ?_ | refine Pure.locK (h35) ?_ | refine boolF_decf (by assumption) ?_)
    all_goals (conv => whnf)
    exact ⟨stay 1 _ e⟩
  rw [decide_eq_true h2] at h35
  by_cases h3 : m.n_ = d.n
  case neg =>
    have e : ∀ vs, annD d id m vs = (d, 1) := fun vs => by rw [annD, if_pos (.inr (.inr h3))]
    repeat' ((conv => whnf); first
      | refine PairK.mk (by kernel_rfl) ?_ | refine look.call h34 [.arr 0 3 [.agg (c33 m)]] trivial ?_ | refine look.call h33 [.arr 0 3 [.agg (c33 m)]] ⟨trivial, trivial, trivial⟩ ?_ | refine And.intro (by decide) ?_ | refine And.intro rfl ?_ | refine And.intro (Nat.le_of_ble_eq_true rfl) ?_ | refine Pure.locK (h35) ?_ | refine boolF_not ?_ | refine boolF_decf (by assumption) ?_)
    all_goals (conv => whnf)
    exact ⟨stay 1 _ e⟩
  have g1 : ¬ (id < 1 ∨ ¬ rightP m ∨ m.n_ ≠ d.n) := by
    rintro (g | g | g)
    · exact h1 g
    · exact g h2
    · exact g h3
  by_cases h4 : f.2 = 0
  · have e : ∀ vs, annD d id m vs = (d, 10) := fun vs => by rw [annD, if_neg g1, ← hf, if_pos h4]
    repeat' ((conv => whnf); first
      | refine PairK.mk (by kernel_rfl) ?_ | refine look.call h34 [.arr 0 3 [.agg (c33 m)]] trivial ?_ | refine look.call h33 [.arr 0 3 [.agg (c33 m)]] ⟨trivial, trivial, trivial⟩ ?_ | refine And.intro (by decide) ?_ | refine And.intro rfl ?_ | refine And.intro (Nat.le_of_ble_eq_true rfl) ?_ | refine Pure.locK (h35) ?_ | refine boolF_not ?_ | refine boolF_dect (by assumption) ?_ | refine boolF_decf (by assumption) ?_)
    all_goals (conv => whnf)
    exact ⟨stay 10 _ e⟩
  by_cases h5 : d.id = 0
  case neg =>
    have e : ∀ vs, annD d id m vs = (d, 11) := fun vs => by rw [annD, if_neg g1, ← hf, if_neg h4, if_pos h5]
    repeat' ((conv => whnf); first
      | refine PairK.mk (by kernel_rfl) ?_ | refine look.call h34 [.arr 0 3 [.agg (c33 m)]] trivial ?_ | refine look.call h33 [.arr 0 3 [.agg (c33 m)]] ⟨trivial, trivial, trivial⟩ ?_ | refine And.intro (by decide) ?_ | refine And.intro rfl ?_ | refine And.intro (Nat.le_of_ble_eq_true rfl) ?_ | refine Pure.locK (h35) ?_ | refine boolF_not ?_ | refine boolF_dect (by assumption) ?_ | refine boolF_decf (by assumption) ?_)
    all_goals (conv => whnf)
    exact ⟨stay 11 _ e⟩
  by_cases h6 : d.out.length = 32
  · have e : ∀ vs, annD d id m vs = (d, 6) := fun vs => by rw [annD, if_neg g1, ← hf, if_neg h4, if_neg (fun g => g h5), if_pos h6]
    repeat' ((conv => whnf); first
      | refine PairK.mk (by kernel_rfl) ?_ | refine look.call h34 [.arr 0 3 [.agg (c33 m)]] trivial ?_ | refine look.call h33 [.arr 0 3 [.agg (c33 m)]] ⟨trivial, trivial, trivial⟩ ?_ | refine And.intro (by decide) ?_ | refine And.intro rfl ?_ | refine And.intro (Nat.le_of_ble_eq_true rfl) ?_ | refine Pure.locK (h35) ?_ | refine boolF_not ?_ | refine boolF_dect (by assumption) ?_ | refine boolF_decf (by assumption) ?_ | refine boolF_dect (by omega) ?_)
    all_goals (conv => whnf)
    exact ⟨stay 6 _ e⟩
  have hl : m.pieces_.length ≤ 16 := h2.2.2.2.2.1
  have h36 := f36_ok m.pieces_ (by omega)
  have hver : 0 ≤ m.version_ := by have := h2.1; omega
  have ed : ∀ vs, annD d id m vs = (⟨d.n, m.version_, id, m.version_, m.n_, m.pieces_, if m.version_ = d.version then d.bs else bsOf m.version_ d.n vs, d.out⟩, 0) := fun vs => by rw [annD, if_neg g1, ← hf, if_neg h4, if_neg (fun g => g h5), if_neg h6]
  have hdn := hd.n
  by_cases h7 : m.version_ = d.version
  · repeat' ((conv => whnf); first
      | refine PairK.mk (by kernel_rfl) ?_ | refine look.call h34 [.arr 0 3 [.agg (c33 m)]] trivial ?_ | refine look.call h33 [.arr 0 3 [.agg (c33 m)]] ⟨trivial, trivial, trivial⟩ ?_ | refine And.intro (by decide) ?_ | refine And.intro rfl ?_ | refine And.intro (Nat.le_of_ble_eq_true rfl) ?_ | refine Pure.locK (h35) ?_ | refine boolF_not ?_ | refine boolF_dect (by assumption) ?_ | refine boolF_decf (by assumption) ?_ | refine boolF_decf (by omega) ?_)
    all_goals (conv => whnf)
    refine Owned.callN h36 m.pieces_.length (by rw [List.length_map]) (fun w => ?_)
    repeat' ((conv => whnf); first
      | refine PairK.mk (by kernel_rfl) ?_ | refine And.intro (by decide) ?_ | refine And.intro rfl ?_ | refine And.intro (Nat.le_of_ble_eq_true rfl) ?_)
    all_goals (conv => whnf)
    refine ⟨⟨_, _, Ghost.fz [(19, .arr w 3 (m.pieces_.map r51))] [(0, oD 2 dv ov (annD d id m []).1)] (fun x hx => ?_) (by simp) Fzs.all (fun x hx => ?_) (by simp), [], by rw [ed], ?_⟩⟩
    · simp only [List.mem_singleton] at hx; subst hx
      exact ⟨Nat.le_succ _, rfl, _, _, _, rfl⟩
    · simp only [List.mem_singleton] at hx; subst hx
      rw [ed]
      dsimp only
      rw [if_pos h7]
      refine ⟨by simp, dv, 8, _, _, rfl, rfl, .cons ?_ .nil⟩
      exact .cons .refl (.cons (show Fz _ (D.int .i64 d.version) (D.int .i64 m.version_) from by rw [h7]; exact .refl) (.cons .refl (.cons .refl (.cons .refl (.cons (.h mem0 .all (all_take rfl)) (.cons .refl (.cons .refl .nil)))))))
    · rw [ed]
      dsimp only
      rw [if_pos h7]
      exact near_hd _ _ _ _
  · repeat' ((conv => whnf); first
      | refine PairK.mk (by kernel_rfl) ?_ | refine look.call h34 [.arr 0 3 [.agg (c33 m)]] trivial ?_ | refine look.call h33 [.arr 0 3 [.agg (c33 m)]] ⟨trivial, trivial, trivial⟩ ?_ | refine And.intro (by decide) ?_ | refine And.intro rfl ?_ | refine And.intro (Nat.le_of_ble_eq_true rfl) ?_ | refine Pure.locK (h35) ?_ | refine boolF_not ?_ | refine boolF_dect (by assumption) ?_ | refine boolF_decf (by assumption) ?_ | refine boolF_decf (by omega) ?_)
    all_goals (conv => whnf)
    refine renew_call hver ⟨by omega, hdn.2⟩ _ (fun vs hvs L hL hLat => ?_)
    repeat' ((conv => whnf); first
      | refine And.intro (by decide) ?_ | refine And.intro (Nat.le_of_ble_eq_true rfl) ?_)
    all_goals (conv => whnf)
    refine Owned.callN h36 m.pieces_.length (by rw [List.length_map]) (fun w => lenK_iff.mpr (snocK_iff.mpr ?_))
    rw [show 0 + (oR dv d.n m.version_ d.id d.mv d.mn (d22 d.mp) (.sl (ptrs 20 (bsOf m.version_ d.n vs))) (.h 1 ov 0 d.out.length) :: (HD dv ov d).drop 1 ++ AObj.arr 0 3 [D.agg (c33 m)] :: AObj.gone :: L).length = 36 by simp [HD, hL]]
    repeat' ((conv => whnf); first
      | refine PairK.mk (by kernel_rfl) ?_ | refine And.intro (by decide) ?_ | refine And.intro rfl ?_ | refine And.intro (Nat.le_of_ble_eq_true rfl) ?_)
    all_goals (conv => whnf)
    have hset : ∀ (A : List AObj) (j : Nat) (x : AObj), j < 16 → ((A.set 36 .gone).set 0 x)[20 + j]? = A[20 + j]? := fun A j x hj => by
      rw [List.getElem?_set_ne (by omega), List.getElem?_set_ne (by omega)]
    refine ⟨⟨_, _, Ghost.fz [(36, .arr w 3 (m.pieces_.map r51))] [(0, oD 20 dv ov (annD d id m vs).1)] (fun x hx => ?_) (by simp) Fzs.all (fun x hx => ?_) (by simp), vs, by rw [ed], 20, ov, .inr (by decide), rfl, ?_, fun j hj => ?_⟩⟩
    · simp only [List.mem_singleton] at hx; subst hx
      exact ⟨by dsimp only; omega, by simp [hL], _, _, _, rfl⟩
    · simp only [List.mem_singleton] at hx; subst hx
      rw [ed]
      dsimp only
      rw [if_neg h7]
      refine ⟨by simp, dv, 8, _, _, rfl, rfl, .cons ?_ .nil⟩
      exact .cons .refl (.cons .refl (.cons .refl (.cons .refl (.cons .refl (.cons (.h mem0 .all (all_take rfl)) (.cons .refl (.cons .refl .nil)))))))
    · rw [ed]; rfl
    · refine (hset _ j _ hj).trans ?_
      rw [Nat.add_comm 20 j]
      show (L ++ [_])[j]? = _
      rw [List.getElem?_append_left (by omega), hLat j hj, ed]
      dsimp only
      rw [if_neg h7]

end Go.Proofs.Ytgigpjkdfhhahaa


namespace Go.Proofs.Ytgigpjkdfhhahaa
open Go.A
set_option linter.unusedVariables false
set_option linter.unusedSimpArgs false
set_option linter.unnecessarySimpa false
attribute [local irreducible] IntKind.wrap bitsI
open B L M
set_option maxRecDepth 100000
set_option maxHeartbeats 4000000

def partD (d : Dst) (p : T50) : List Nat := ((d.bs p.node_.toNat).2.all.drop p.from_.toNat).take (p.to_ - p.from_).toNat
def partsD (d : Dst) (l : List T50) : List Nat := (l.map (partD d)).flatten
theorem partsD_snoc {d : Dst} {l : List T50} {i : Nat} {p : T50} (h : l[i]? = some p) : partsD d (l.take (i + 1)) = partsD d (l.take i) ++ partD d p := by
  rw [take_snoc h, partsD, List.map_append, List.flatten_append]
  simp [partsD]
def allThere (d : Dst) : Prop := ∀ p ∈ d.mp, (d.bs p.node_.toNat).2.there = d.id
noncomputable instance (d : Dst) : Decidable (allThere d) := Classical.propDecidable _
noncomputable def publishD (d : Dst) : Dst × Int :=
  if d.id = 0 then (d, 11) else if allThere d then ({ d with id := 0, out := d.out ++ [⟨d.id, partsD d d.mp⟩] }, 0) else (d, 15)

theorem hd_atF (dv ov : Nat) (d : Dst) (F : List AObj) {j : Nat} (h : j < 16) : (HD dv ov d ++ F)[2 + j]? = some (oj d.bs j) := by
  rw [List.getElem?_append_left (show 2 + j < 18 by omega)]
  exact hd_at dv ov d h
theorem f14_at (dv ov : Nat) {d : Dst} (hd : InvD d) : TurnV 14 [] dv ov d (.int .i64 (publishD d).2) (publishD d).1 := by
  have h39 := f39_at dv ov d
  rw [if_pos (show 0 < d.n from hd.n.1)] at h39
  refine (Go.A.CallsIn.of_exec tab_ok mixed Try.func14 rfl rfl [] bxD ?_ : Go.A.CallsIn Try.prog 14 [.p 0 dv 0 0] (HD dv ov d) fun r H' => ∃ r'' H'', Ghost 18 [r] H' [r''] H'' ∧ ∃ ov', r'' = .int .i64 (publishD d).2 ∧ H'' = HD dv ov' (publishD d).1).ghost
  have stay : ∀ (e : Int) (F : List AObj), publishD d = (d, e) → ∃ r'' H'', Ghost 18 [D.int .i64 e] (HD dv ov d ++ F) [r''] H'' ∧ ∃ ov', r'' = .int .i64 (publishD d).2 ∧ H'' = HD dv ov' (publishD d).1 := fun e F h =>
    ⟨.int .i64 e, HD dv ov d, Ghost.back [0] 18 rfl rfl (Nat.le_refl _) ⟨trivial, trivial⟩ (scHDn (by decide) _ _ _), ov, by rw [h], by rw [h]⟩
  by_cases h1 : d.id = 0
  · have e : publishD d = (d, 11) := by rw [publishD, if_pos h1]
    rw [if_pos h1] at h39
    repeat' ((conv => whnf); first
      | refine look.call h39 [] trivial ?_)
    all_goals (conv => whnf)
    exact ⟨stay 11 [] e⟩
  rw [if_neg h1] at h39
  obtain ⟨hr, hmn⟩ := hd.mp h1
  have hlen : d.mp.length ≤ 16 := hr.2.2.2.2.1
  have hends : M.endsAt 0 d.mp = some d.mn := hr.2.2.2.2.2
  rw [hmn] at hends
  obtain ⟨N, hN⟩ : ∃ N, N = d.n.toNat := ⟨_, rfl⟩
  have hNi : d.n = (N : Int) := by have := hd.n; omega
  have hN1 : 1 ≤ N ∧ N ≤ 1024 := by have := hd.n; omega
  repeat' ((conv => whnf); first
    | refine look.call h39 [] trivial ?_ | refine And.intro (by decide) ?_ | refine And.intro rfl ?_ | refine And.intro (Nat.le_of_ble_eq_true rfl) ?_ | refine Exists.intro _ (And.intro (⟨(List.length_map _).symm⟩) ?_))
  all_goals (conv => whnf)
  refine W_loopG (ι := Nat × Nat) (fun x => ⟨(.p 0 dv 0 0 :: D.undef :: D.undef :: D.undef :: .h 18 x.2 0 (partsD d (d.mp.take x.1)).length :: D.undef :: D.undef :: D.undef :: D.undef :: D.undef :: D.undef :: D.undef :: D.undef :: D.undef :: D.undef :: D.undef :: D.undef :: D.undef :: D.undef :: d22 d.mp :: .int .i64 (d.mp.length : Int) :: .int .i64 (x.1 : Int) :: D.undef :: D.undef :: D.undef :: D.undef :: D.undef :: D.undef :: D.undef :: D.undef :: D.undef :: D.undef :: D.undef :: D.undef :: D.undef :: D.undef :: D.undef :: D.undef :: D.undef :: D.undef :: D.undef :: D.undef :: D.undef :: D.undef :: D.undef :: D.undef :: D.undef :: D.undef :: D.undef :: D.undef :: D.undef :: D.undef :: D.undef :: D.undef :: D.undef :: D.undef :: D.undef :: D.undef :: D.undef :: D.undef :: D.undef :: D.undef :: D.undef :: D.undef :: D.undef :: D.undef :: D.undef :: D.undef :: D.undef :: D.undef :: []), HD dv ov d ++ [.arr x.2 1 ((partsD d (d.mp.take x.1)).map r56)]⟩) (fun x => d.mp.length - x.1)
    (fun x => x.1 ≤ d.mp.length ∧ M.endsAt ((partsD d (d.mp.take x.1)).length : Int) (d.mp.drop x.1) = some (N : Int) ∧ ∀ p ∈ d.mp.take x.1, (d.bs p.node_.toNat).2.there = d.id) (0, 0) ((Ghost.hold [0, 4, 19, 20, 21] rfl).trans (Ghost.mat (t := 4) (sz := 1) rfl)) ⟨Nat.zero_le _, by rw [← hNi]; exact hends, fun p hp => by simp at hp⟩ ?_
  rintro ⟨i, w⟩ ⟨i1, i2, i3⟩
  dsimp only at i1 i2 i3 ⊢
  refine exec_ok tab_ok mixed 1000 (bx := bxD ++ [false]) (own := []) ?_
  rcases Nat.lt_or_ge i d.mp.length with h | h
  · obtain ⟨p, hp⟩ := at_lt h
    have hps := partsD_snoc (d := d) hp
    have hts := take_snoc hp
    rw [drop_of_get hp, M.endsAt] at i2
    obtain ⟨V, hV⟩ : ∃ V, V = partsD d (d.mp.take i) := ⟨_, rfl⟩
    rw [← hV] at i2 hps ⊢
    have hc : p.from_ = (V.length : Int) ∧ (V.length : Int) < p.to_ ∧ 0 ≤ p.node_ ∧ p.node_ < 16 := by
      split at i2
      · assumption
      · cases i2
    rw [if_pos hc] at i2
    have hle := M.endsAt_le i2
    obtain ⟨c1, c2, c3, c4⟩ := hc
    obtain ⟨j, hj⟩ := Int.eq_ofNat_of_zero_le c3
    have hj16 : j < 16 := by omega
    have hjn : p.node_.toNat = j := by omega
    have hb := hd.b j hj16
    have hm := hb.made
    have hall : (d.bs j).2.all.length = N := by rw [hb.all, hN]
    have hbig : (d.bs j).2.all.length ≤ 140737488351232 := by omega
    have h40 := f40_at dv ov d (show 0 < d.n from hd.n.1) hj16
    rw [← hj] at h40
    obtain ⟨q, hq⟩ : ∃ q, q = partD d p := ⟨_, rfl⟩
    have hread : readB (d.bs j).2 p.from_ (p.to_ - p.from_) = (q, 0) := by
      rw [readB, if_pos hm, readM, if_neg (by omega), if_pos (by omega), hq, partD, hjn]
    have hql : (q.length : Int) = p.to_ - p.from_ := by
      rw [hq, partD, hjn, List.length_take, List.length_drop]; omega
    by_cases ht : (d.bs j).2.there = d.id
    · repeat' ((conv => whnf); first
        | refine PairK.mk (by kernel_rfl) ?_ | refine Exists.intro _ (And.intro (map_at (by omega) hp) ?_) | refine look.call h40 [_, _] (show 2 + j < 18 by omega) ?_ | refine snapL (o := 2 + j) (b := (d.bs j).2) (hd_atF dv ov d [_, _] hj16) hm ?_ | refine And.intro (by decide) ?_ | refine And.intro rfl ?_ | refine And.intro (Nat.le_of_ble_eq_true rfl) ?_ | refine And.intro (by omega) ?_ | refine Exists.intro _ (And.intro (w64 (by omega) (by omega)) ?_) | refine boolF_not ?_ | refine boolF_dect (by assumption) ?_ | refine boolF_dect (by omega) ?_)
      all_goals (conv => whnf)
      refine readC (o := 2 + j) (b := (d.bs j).2) (hd_atF dv ov d [_, _] hj16) hbig hread (fun w1 => ?_)
      repeat' ((conv => whnf); first
        | refine And.intro (by dsimp only; rw [List.take_length]; omega) ?_ | refine Exists.intro ((V ++ q).map r56) (And.intro ⟨by dsimp only; rw [List.take_length, List.map_append]⟩ ?_) | refine And.intro (by decide) ?_ | refine And.intro rfl ?_ | refine And.intro (by simpa only [List.length_map, List.length_append, List.length_cons, List.length_nil] using rfl) ?_ | refine And.intro (rows_map (fun _ => rfl) (fun _ => rfl)) ?_ | refine Exists.intro _ (And.intro (⟨len_more⟩) ?_) | refine Exists.intro _ (And.intro (⟨List.map_take⟩) ?_) | refine Exists.intro _ (And.intro (w64 (by omega) (by omega)) ?_))
      all_goals (conv => whnf)
      refine ⟨(i + 1, w + 1), Ghost.back [0, 4, 19, 20, 21] 19 ?_ ?_ (by decide) ?_ (scHDs (by decide) _ _ _ (scr56 _ _)), ⟨h, ?_, ?_⟩, by dsimp only; omega⟩
      · dsimp only
        rw [hps, List.length_append, ← hq, List.take_length]
        rfl
      · dsimp only
        rw [hps, ← hq]
        rfl
      · simp [scs, D.sc, HD, d22, scr51]
      · dsimp only
        rw [hps, List.length_append, ← hq, show ((V.length + q.length : Nat) : Int) = p.to_ by omega]
        exact i2
      · dsimp only
        rw [hts]
        intro y hy
        rcases List.mem_append.mp hy with hy | hy
        · exact i3 y hy
        · simp only [List.mem_singleton] at hy; subst hy
          rw [hjn]; exact ht
    · have e : publishD d = (d, 15) := by
        rw [publishD, if_neg h1, if_neg (fun g => ht (by have := g p (List.mem_of_getElem? hp); rw [hjn] at this; exact this))]
      repeat' ((conv => whnf); first
        | refine PairK.mk (by kernel_rfl) ?_ | refine Exists.intro _ (And.intro (map_at (by omega) hp) ?_) | refine look.call h40 [_, _] (show 2 + j < 18 by omega) ?_ | refine snapL (o := 2 + j) (b := (d.bs j).2) (hd_atF dv ov d [_, _] hj16) hm ?_ | refine And.intro (by decide) ?_ | refine And.intro rfl ?_ | refine And.intro (Nat.le_of_ble_eq_true rfl) ?_ | refine And.intro (by omega) ?_ | refine boolF_not ?_ | refine boolF_decf (by assumption) ?_ | refine boolF_dect (by omega) ?_)
      all_goals (conv => whnf)
      exact ⟨stay 15 [_, _] e⟩
  · obtain rfl : i = d.mp.length := by omega
    rw [List.take_length] at i3 ⊢
    rw [List.drop_of_length_le (Nat.le_refl _), M.endsAt, List.take_length] at i2
    have hVn := Option.some.inj i2
    have e : publishD d = ({ d with id := 0, out := d.out ++ [⟨d.id, partsD d d.mp⟩] }, 0) := by rw [publishD, if_neg h1, if_pos (show allThere d from i3)]
    obtain ⟨V, hV⟩ : ∃ V, V = partsD d d.mp := ⟨_, rfl⟩
    rw [← hV] at hVn e ⊢
    have ho := hd.out
    repeat' ((conv => whnf); first
      | refine PairK.mk (by kernel_rfl) ?_ | refine And.intro (by decide) ?_ | refine And.intro rfl ?_ | refine And.intro (Nat.le_of_ble_eq_true rfl) ?_ | refine And.intro (by omega) ?_ | refine And.intro (by simpa only [List.length_map, List.length_append, List.length_cons, List.length_nil] using rfl) ?_ | refine And.intro (okRows_one rfl rfl) ?_ | refine Exists.intro _ (And.intro (⟨len_one⟩) ?_) | refine Exists.intro _ (And.intro (⟨Eq.refl (α := List D) _⟩) ?_) | refine boolF_decf (by omega) ?_)
    all_goals (conv => whnf)
    have eH : HD dv (ov + 1) { d with id := 0, out := d.out ++ [⟨d.id, V⟩] } = .arr dv 8 [.agg [.int .i64 d.n, .int .i64 d.version, .int .i64 0, .int .i64 d.mv, .int .i64 d.mn, d22 d.mp, .sl (ptrs 2 d.bs), .h 1 (ov + 1) 0 (d.out.length + 1)]] :: .arr (ov + 1) 2 (d.out.map rO ++ [rO ⟨d.id, V⟩]) :: (HD dv ov d).drop 2 := by
      rw [HD, oD, cD, oO, List.map_append, List.length_append]; rfl
    refine ⟨⟨_, _, (Ghost.fz [(18, .arr w 1 (V.map r56))] [(1, .arr (ov + 1) 2 (d.out.map rO ++ [rO ⟨d.id, V⟩]))] (fun x hx => ?_) (by simp) Fzs.all (fun x hx => ?_) (by simp)).trans (Ghost.back [0] 18 rfl rfl (Nat.le_refl _) ⟨trivial, trivial⟩ ?_), ov + 1, by rw [e]; rfl, by rw [e]; exact eH.symm⟩⟩
    · simp only [List.mem_singleton] at hx; subst hx
      exact ⟨Nat.le_refl _, rfl, _, _, _, rfl⟩
    · simp only [List.mem_singleton] at hx; subst hx
      refine ⟨by simp, ov + 1, 2, _, _, rfl, rfl, Fzl.snoc ?_⟩
      exact .cons .refl (.cons (.h mem0 .all (all_take rfl)) .nil)
    · have h9 := scHDn (n := 18) (by decide) dv (ov + 1) { d with id := 0, out := d.out ++ [⟨d.id, V⟩] }
      rw [eH] at h9
      exact h9

end Go.Proofs.Ytgigpjkdfhhahaa

