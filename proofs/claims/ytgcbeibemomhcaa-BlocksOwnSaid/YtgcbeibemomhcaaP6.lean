import Derived.Test.YtgcbeibemomhcaaP5
namespace Go.Proofs.Ytgcbeibemomhcaa
open Go.A
set_option linter.unusedVariables false
set_option linter.unusedSimpArgs false
set_option linter.unnecessarySimpa false
attribute [local irreducible] IntKind.wrap bitsI
set_option maxRecDepth 100000
set_option maxHeartbeats 4000000

def rB (b : Bool) : D := .bool b
def dB (l : List Bool) : D := .sl (l.map rB)
theorem scrB (k : Nat) (l : List Bool) : scs k (l.map rB) := by rw [scs_map]; intro x _; simp [rB, D.sc]
def atB (l : List Bool) (j : Nat) : Bool := (l[j]?).getD false
theorem atB_get {l : List Bool} {j : Nat} (h : j < l.length) : l[j]? = some (atB l j) := by
  rw [atB, List.getElem?_eq_getElem h]; rfl

theorem f26_ok (T : List Bool) (j : Nat) (hj : j < T.length) : Pure Try.prog 26 [.int .i64 (j : Int), .pe [dB T]] (.bool (atB T j)) := by
  have hx := atB_get hj
  refine Pure.of ⟨trivial, ⟨scrB _ _, trivial⟩, trivial⟩ trivial ?_
  refine CallsIn.of_exec tab_ok mixed Try.func26 rfl rfl [] [] ?_
  repeat' ((conv => whnf); first
    | refine Exists.intro _ (And.intro (map_at (by omega) hx) ?_) | refine And.intro rfl ?_ | refine And.intro (by omega) ?_)
  all_goals (conv => whnf)
  exact ⟨rfl⟩

def diffT (a b : List Nat) (j : Nat) : Bool := at0 a j != at0 b j
theorem f31_ok (a b : List Nat) (j : Nat) (ha : j < a.length) (hb : j < b.length) : Pure Try.prog 31 [.int .i64 (j : Int), .pe [d22 a], .pe [d22 b]] (.bool (diffT a b j)) := by
  have hx := at0_get ha
  have hy := at0_get hb
  refine Pure.of ⟨trivial, ⟨scd22 _ _, trivial⟩, ⟨scd22 _ _, trivial⟩, trivial⟩ trivial ?_
  refine CallsIn.of_exec tab_ok mixed Try.func31 rfl rfl [] [] ?_
  repeat' ((conv => whnf); first
    | refine PairK.mk (by kernel_rfl) ?_ | refine Exists.intro _ (And.intro (map_at (by omega) hx) ?_) | refine Exists.intro _ (And.intro (map_at (by omega) hy) ?_) | refine And.intro rfl ?_ | refine And.intro (by omega) ?_)
  all_goals (conv => whnf)
  exact ⟨rfl⟩

def ownO (p : List Op × Int) (o ver : Nat) : D := .tup [.h o ver 0 p.1.length, .int .i64 p.2]
def OwnO (f : FuncId) (args : List D) (p : List Op × Int) : Prop := OwnedR Try.prog f args (ownO p) 4 (p.1.map r34)
theorem ownO_res (p : List Op × Int) : ∀ (ρ : Nat → Nat) ver, ren ρ (ownO p 0 ver) = ownO p (ρ 0) ver := fun _ _ => rfl
theorem ownO_err (e : Int) (H : List AObj) : ∃ ver, Ghost 0 [.tup [.nils, .int .i64 e]] H [ownO ([], e) 0 ver] [.arr ver 4 (([] : List Op).map r34)] := by
  refine ⟨0, (Ghost.matD (sz := 4) (s' := [.tup [.h H.length 0 0 0, .int .i64 e]]) (.cons (.tup (.cons .nil (.cons .refl .nil))) .nil)).trans ?_⟩
  refine Ghost.pick [H.length] (by simp) rfl (fun i o ob' h1 h2 => ?_) rfl ⟨⟨Nat.zero_lt_one, trivial, trivial⟩, trivial⟩ (fun ob hob => by simp at hob; subst hob; trivial)
  cases i with
  | zero => simp at h1 h2; subst h1 h2; simp [renO, renL]
  | succ i => simp at h1
theorem ownO_ok (e : Int) (l : List Op) (k w n : Nat) (H : List AObj) (hn : n = l.length) (hk : H[k]? = some (.arr w 4 (l.map r34))) : ∃ ver, Ghost 0 [.tup [.h k w 0 n, .int .i64 e]] H [ownO (l, e) 0 ver] [.arr ver 4 (l.map r34)] := by
  subst hn
  refine ⟨w, Ghost.pick [k] (by simp) rfl (fun i o ob' h1 h2 => ?_) rfl ⟨⟨Nat.zero_lt_one, trivial, trivial⟩, trivial⟩ (fun ob hob => by simp at hob; subst hob; exact scr34 _ _)⟩
  cases i with
  | zero => simp at h1 h2; subst h1 h2; simp only [renO]; rw [renL_sc0 _ _ (scr34 _ _)]; exact hk
  | succ i => simp at h1
theorem OwnO.pure {f : FuncId} {args : List D} {p : List Op × Int} (h : OwnO f args p) : Pure Try.prog f args (.tup [d23 p.1, .int .i64 p.2]) :=
  OwnedR.pure h ⟨scd23 _ _, trivial, trivial⟩ (fun ver => .tup (.cons (.h (all_take rfl)) (.cons (.refl _) .nil)))

def diffM (a b : List Nat) : List Op × Int := if 1024 < a.length ∨ 1024 < b.length then ([], 6) else if a.length ≠ b.length then ([], 1) else (shortS (diffT a b) (at0 b) b.length, 0)

theorem f16_own (a b : List Nat) (ha : a.length ≤ 140737488351232) (hb : b.length ≤ 140737488351232) : OwnO 16 [d22 a, d22 b] (diffM a b) := by
  refine OwnedR.of ⟨scd22 _ _, scd22 _ _, trivial⟩ (scr34 _ _) (ownO_res _) ?_
  refine CallsIn.of_exec tab_ok mixed Try.func16 rfl rfl [] [] ?_
  by_cases h1 : 1024 < a.length ∨ 1024 < b.length
  · rw [diffM, if_pos h1]
    repeat' ((conv => whnf); first
      | refine Exists.intro _ (And.intro (⟨(List.length_map _).symm⟩) ?_) | refine boolF_dect (by omega) ?_ | refine boolF_dec (fun _ => ?_) (fun _ => ?_))
    all_goals (conv => whnf)
    all_goals exact ⟨ownO_err 6 _⟩
  · rw [diffM, if_neg h1]
    by_cases h2 : a.length = b.length
    · rw [if_neg (fun h => h h2)]
      have h25 := f25_ok b 31 [.pe [d22 a], .pe [d22 b]] (diffT a b) (by omega) ⟨⟨scd22 _ _, trivial⟩, ⟨scd22 _ _, trivial⟩, trivial⟩ (fun j hj => f31_ok a b j (by omega) hj)
      repeat' ((conv => whnf); first
        | refine Exists.intro _ (And.intro (⟨(List.length_map _).symm⟩) ?_) | refine boolF_not ?_ | refine boolF_dect (by omega) ?_ | refine boolF_decf (by omega) ?_)
      all_goals (conv => whnf)
      refine Owned.callN h25 _ (by rw [List.length_map]) (fun v1 => ?_)
      (conv => whnf)
      exact ⟨ownO_ok 0 _ 0 v1 _ _ rfl rfl⟩
    · rw [if_pos h2]
      repeat' ((conv => whnf); first
        | refine Exists.intro _ (And.intro (⟨(List.length_map _).symm⟩) ?_) | refine boolF_not ?_ | refine boolF_decf (by omega) ?_)
      all_goals (conv => whnf)
      exact ⟨ownO_err 1 _⟩

def tch (ops : List Op) (j : Nat) : Bool := (vals ops j).isSome
def zer (n : Nat) : List Nat := List.replicate n 0
def squashM (n : Int) (ops : List Op) : List Op × Int := if n < 0 ∨ 1024 < n then ([], 1) else if allOk n ops then (shortS (tch ops) (at0 (applyL (zer n.toNat) ops)) n.toNat, 0) else ([], 1)

theorem atB_set (T : List Bool) (k j : Nat) (hk : k < T.length) : atB (T.set k true) j = if j = k then true else atB T j := by
  simp only [atB]
  by_cases h : j = k
  · subst h; rw [List.getElem?_set_self hk, if_pos rfl]; rfl
  · rw [List.getElem?_set_ne (Ne.symm h), if_neg h]
theorem tch_snoc {n : Int} {ops : List Op} {i : Nat} {o : Op} (h : ops[i]? = some o) (ho : okOp n o) (j : Nat) : tch (ops.take (i + 1)) j = (tch (ops.take i) j || decide (o.off_.toNat ≤ j ∧ j < o.off_.toNat + (dat o).length)) := by
  rw [take_snoc h, tch, vals_snoc, val]
  by_cases hr : o.off_.toNat ≤ j ∧ j < o.off_.toNat + (dat o).length
  · rw [if_pos hr]; simp [hr]
  · rw [if_neg hr, decide_eq_false hr, Bool.or_false]; rfl

theorem f11_own (n : Int) (ops : List Op) (hn : ops.length ≤ 140737488351232) (ho : bigD ops) : OwnO 11 [.int .i64 n, d23 ops] (squashM n ops) := by
  refine OwnedR.of ⟨trivial, scd23 _ _, trivial⟩ (scr34 _ _) (ownO_res _) ?_
  refine CallsIn.of_exec tab_ok mixed Try.func11 rfl rfl [] [] ?_
  by_cases h1 : n < 0 ∨ 1024 < n
  · rw [squashM, if_pos h1]
    repeat' ((conv => whnf); first
      | refine boolF_dect (by omega) ?_ | refine boolF_dec (fun _ => ?_) (fun _ => ?_))
    all_goals (conv => whnf)
    all_goals exact ⟨ownO_err 1 _⟩
  · rw [squashM, if_neg h1]
    obtain ⟨m, rfl⟩ := Int.eq_ofNat_of_zero_le (a := n) (by omega)
    have hzl : (zer m).length = m := List.length_replicate
    have hzm : List.replicate m (D.int .u64 0) = (zer m).map r45 := by rw [zer, List.map_replicate]; rfl
    have w9 := f9_own (zer m) ops (by omega) hn ho
    repeat' ((conv => whnf); first
      | refine And.intro (show ((8 : Nat) : Int) * (m : Int) ≤ 281474976710656 by omega) ?_ | refine And.intro rfl ?_ | refine And.intro (by omega) ?_ | refine boolF_decf (by omega) ?_)
    all_goals (conv => whnf)
    refine OwnedR.seeK w9 [(0, .arr 0 1 ((zer m).map r45))] (fact1 (by rw [← hzm]; rfl)) (.cons (.h List.mem_cons_self (.all (scr45 _ _)) (all_take hzl.symm)) (.cons (.same (scd23 _ _)) .nil)) (bares_map fun x => trivial) (fun ver => ⟨trivial, trivial, trivial⟩) (fun v1 => ?_)
    have hae : applyM (zer m) ops = if allOk m ops then (applyL (zer m) ops, 0) else ([], 1) := by
      rw [applyM, if_neg (by omega), hzl]
    rw [hae]
    by_cases hok : allOk m ops
    · rw [if_pos hok, if_pos hok]
      have hzl2 := (apply_at (v := zer m) (ops := ops) (by rw [hzl]; exact hok)).1
      rw [hzl] at hzl2
      rw [Int.toNat_natCast]
      generalize applyL (zer m) ops = z at hzl2 ⊢
      repeat' ((conv => whnf); first
        | refine And.intro (show ((1 : Nat) : Int) * (m : Int) ≤ 281474976710656 by omega) ?_ | refine And.intro (by decide) ?_ | refine And.intro rfl ?_ | refine And.intro (by omega) ?_ | refine Exists.intro _ (And.intro (⟨(List.length_map _).symm⟩) ?_))
      all_goals (conv => whnf)
      refine W_loopG (ι := Nat × List Bool) (fun i => ⟨(D.undef :: D.undef :: D.undef :: D.undef :: D.undef :: D.undef :: .h 1 v1 0 z.length :: D.undef :: .p 3 0 0 0 :: D.undef :: D.undef :: D.undef :: D.undef :: D.undef :: D.undef :: D.undef :: D.undef :: D.undef :: D.undef :: D.undef :: D.undef :: D.undef :: D.undef :: D.undef :: D.undef :: D.undef :: D.undef :: D.undef :: D.undef :: D.undef :: D.undef :: D.undef :: d23 ops :: .int .i64 (ops.length : Int) :: .int .i64 (i.1:Int) :: D.undef :: D.undef :: D.undef :: D.undef :: D.undef :: D.undef :: D.undef :: D.undef :: D.undef :: D.undef :: D.undef :: D.undef :: D.undef :: D.undef :: D.undef :: D.undef :: D.undef :: D.undef :: D.undef :: D.undef :: D.undef :: D.undef :: []), [.arr 0 1 ((zer m).map r45), .arr v1 1 (z.map r45), .arr 0 1 (i.2.map rB), .arr 0 1 [.h 2 0 0 m]]⟩) (fun i => ops.length - i.1)
        (fun i => i.1 ≤ ops.length ∧ i.2.length = m ∧ ∀ j, j < m → atB i.2 j = tch (ops.take i.1) j) (0, List.replicate m false) (Ghost.hold [6, 8, 32, 33, 34] (by dsimp only; rw [← hzm, List.map_replicate]; rfl)) ⟨Nat.zero_le _, List.length_replicate, fun j hj => by simp [atB, tch, vals, hj]⟩ ?_
      rintro ⟨i, T⟩ ⟨i1, i2, i3⟩
      dsimp only at i1 i2 i3 ⊢
      rcases Nat.lt_or_ge i ops.length with h | h
      · obtain ⟨x, hx⟩ := at_lt h
        have hxo := hok x (List.mem_of_getElem? hx)
        have h24 := f24_ok x (ho x (List.mem_of_getElem? hx))
        obtain ⟨d1, d2, d3', d4⟩ := dat_len hxo
        obtain ⟨a, ha⟩ := Int.eq_ofNat_of_zero_le hxo.2.2.1
        obtain ⟨c, hc⟩ : ∃ c, c = (dat x).length := ⟨_, rfl⟩
        have hsn := tch_snoc hx hxo
        rw [← hc] at d1 d4 hsn
        have hr : rng x = ((a : Int), (c : Int)) := Prod.ext (d2.trans ha) d1.symm
        rw [rngD, hr] at h24
        rw [ha] at d4 hsn
        rw [Int.toNat_natCast] at hsn
        refine exec_ok tab_ok mixed 1000 (bx := [false, false, false, true]) (own := []) ?_
        repeat' ((conv => whnf); first
          | refine Exists.intro _ (And.intro (map_at (by omega) hx) ?_) | refine And.intro (by decide) ?_ | refine And.intro rfl ?_ | refine And.intro (by omega) ?_ | refine boolF_dect (by omega) ?_)
        all_goals (conv => whnf)
        refine Pure.call h24 ?_
        (conv => whnf)
        refine W_loopG (ι := Nat × List Bool) (fun e => ⟨(D.undef :: D.undef :: D.undef :: D.undef :: D.undef :: D.undef :: .h 1 v1 0 z.length :: D.undef :: .p 3 0 0 0 :: D.undef :: D.undef :: .int .i64 (a : Int) :: D.undef :: D.undef :: D.undef :: D.undef :: D.undef :: D.undef :: D.undef :: D.undef :: D.undef :: D.undef :: D.undef :: D.undef :: D.undef :: D.undef :: D.undef :: D.undef :: D.undef :: D.undef :: D.undef :: D.undef :: d23 ops :: .int .i64 (ops.length : Int) :: .int .i64 (i:Int) :: D.undef :: D.undef :: D.undef :: D.undef :: D.undef :: D.undef :: D.undef :: D.undef :: .int .i64 (c : Int) :: .int .i64 (e.1 : Int) :: D.undef :: D.undef :: D.undef :: D.undef :: D.undef :: D.undef :: D.undef :: D.undef :: D.undef :: D.undef :: D.undef :: D.undef :: []), [.arr 0 1 ((zer m).map r45), .arr v1 1 (z.map r45), .arr 0 1 (e.2.map rB), .arr 0 1 [.h 2 0 0 m], .arr 0 4 [r34 x]]⟩) (fun e => c - e.1)
          (fun e => e.1 ≤ c ∧ e.2.length = m ∧ ∀ j, j < m → atB e.2 j = (atB T j || decide (a ≤ j ∧ j < a + e.1))) (0, T) (Ghost.hold [6, 8, 11, 32, 33, 34, 43, 44] rfl) ⟨Nat.zero_le _, i2, fun j hj => by rw [decide_eq_false (by dsimp only; omega), Bool.or_false]⟩ ?_
        rintro ⟨e, T'⟩ ⟨e1, e2, e3⟩
        dsimp only at e1 e2 e3 ⊢
        refine exec_ok tab_ok mixed 1000 (bx := [false, false, false, true, true]) (own := []) ?_
        rcases Nat.lt_or_ge e c with g | g
        · obtain ⟨w, hz⟩ := at_lt (l := T') (i := a + e) (by omega)
          repeat' ((conv => whnf); first
            | refine Exists.intro _ (And.intro (map_at (by omega) hz) ?_) | refine And.intro (by decide) ?_ | refine And.intro (by omega) ?_ | refine And.intro (by simp only [List.length_map, List.length_append, List.length_cons, List.length_nil]; omega) ?_ | refine Exists.intro _ (And.intro (w64 (by omega) (by omega)) ?_) | refine boolF_dect (by omega) ?_)
          all_goals (conv => whnf)
          refine ⟨(e + 1, T'.set (a + e) true), Ghost.hold [6, 8, 11, 32, 33, 34, 43, 44] ?_, ⟨g, by rw [List.length_set]; exact e2, fun j hj => ?_⟩, by dsimp only; omega⟩
          · have er : ∀ (bb : Bool) (l : List D) (d : D), setRow bb l (0 + ((a : Int) + (e : Int)).toNat) d = l.set (a + e) d := fun bb l d => by rw [setRow_eq]; congr 1; omega
            have em : (T'.map rB).set (a + e) (.bool true) = (T'.set (a + e) true).map rB := by rw [List.map_set]; rfl
            dsimp only
            rw [← em, ← er false]; rfl
          · dsimp only
            rw [atB_set _ _ _ (by omega), e3 j hj]
            by_cases hj2 : j = a + e
            · rw [if_pos hj2, decide_eq_true (p := a ≤ j ∧ j < a + (e + 1)) (by omega), Bool.or_true]
            · rw [if_neg hj2]
              congr 1
              exact decide_eq_decide.mpr (by omega)
        · repeat' ((conv => whnf); first
            | refine Exists.intro _ (And.intro (w64 (by omega) (by omega)) ?_) | refine boolF_decf (by omega) ?_)
          all_goals (conv => whnf)
          refine ⟨(i + 1, T'), Ghost.back [6, 8, 32, 33, 34] 4 rfl rfl (Nat.zero_le _) (by simp [scs, D.sc, scd23]) ?_, ⟨h, e2, fun j hj => ?_⟩, by dsimp only; omega⟩
          · intro ob hob
            simp only [List.mem_cons, List.not_mem_nil, or_false] at hob
            rcases hob with rfl | rfl | rfl | rfl
            · exact scr45 _ _
            · exact scr45 _ _
            · exact scrB _ _
            · exact ⟨by simp [D.sc], trivial⟩
          · dsimp only
            rw [e3 j hj, i3 j hj, hsn]
            congr 1
            exact decide_eq_decide.mpr (by omega)
      · have e : ops.take i = ops := List.take_of_length_le h
        rw [e] at i3
        have hT := shortS_congr (t := tch ops) (t' := atB T) (b := at0 z) (b' := at0 z) (n := m) (fun j hj => ⟨(i3 j hj).symm, rfl⟩)
        rw [hT]
        have h25 := f25_ok z 26 [.pe [dB T]] (atB T) (by omega) ⟨⟨scrB _ _, trivial⟩, trivial⟩ (fun j hj => f26_ok T j (by omega))
        rw [hzl2] at h25
        refine W_ghost (s' := (D.undef :: D.undef :: D.undef :: D.undef :: D.undef :: D.undef :: d22 z :: D.undef :: .pe [dB T] :: D.undef :: D.undef :: D.undef :: D.undef :: D.undef :: D.undef :: D.undef :: D.undef :: D.undef :: D.undef :: D.undef :: D.undef :: D.undef :: D.undef :: D.undef :: D.undef :: D.undef :: D.undef :: D.undef :: D.undef :: D.undef :: D.undef :: D.undef :: d23 ops :: .int .i64 (ops.length : Int) :: .int .i64 (i:Int) :: D.undef :: D.undef :: D.undef :: D.undef :: D.undef :: D.undef :: D.undef :: D.undef :: D.undef :: D.undef :: D.undef :: D.undef :: D.undef :: D.undef :: D.undef :: D.undef :: D.undef :: D.undef :: D.undef :: D.undef :: D.undef :: D.undef :: [])) (H' := [.arr 0 1 ((zer m).map r45), .gone, .gone, .gone]) ?_ ?_
        · refine Ghost.fz [(1, .arr v1 1 (z.map r45)), (2, .arr 0 1 (T.map rB)), (3, .arr 0 1 [.h 2 0 0 m])] [] ?_ (by simp) ?_ (fun x hx => by cases hx) (by simp)
          · intro y hy
            simp only [List.mem_cons, List.not_mem_nil, or_false] at hy
            rcases hy with rfl | rfl | rfl
            · exact ⟨Nat.zero_le _, rfl, _, _, _, rfl⟩
            · exact ⟨Nat.zero_le _, rfl, _, _, _, rfl⟩
            · exact ⟨Nat.zero_le _, rfl, _, _, _, rfl⟩
          · repeat (first | exact Fzs.nil | refine Fzs.cons .refl ?_ | refine Fzs.cons (.h mem0 .all (all_take rfl)) ?_ | refine Fzs.cons (.p (i := 0) (j := 0) (rows' := [dB T]) mem2 (.cons (.cons (.h mem1 .all (all_take i2.symm)) .nil) .nil) rfl rfl) ?_)
        refine exec_ok tab_ok mixed 1000 (bx := [false, false, false, false]) (own := []) ?_
        repeat' ((conv => whnf); first
          | refine boolF_decf (by omega) ?_)
        all_goals (conv => whnf)
        refine Owned.callN h25 _ (by rw [List.length_map]) (fun v4 => ?_)
        (conv => whnf)
        exact ⟨ownO_ok 0 _ 4 v4 _ _ rfl rfl⟩
    · rw [if_neg hok, if_neg hok]
      (conv => whnf)
      exact ⟨ownO_err 1 _⟩

end Go.Proofs.Ytgcbeibemomhcaa

