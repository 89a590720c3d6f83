import Derived.Test.YtgcbeibemomhcaaP2
namespace Go.Proofs.Ytgcbeibemomhcaa
open Go.A
set_option linter.unusedVariables false
set_option linter.unusedSimpArgs false
set_option linter.unnecessarySimpa false
attribute [local irreducible] IntKind.wrap bitsI
set_option maxRecDepth 100000
set_option maxHeartbeats 4000000

theorem map_splice {α β : Type} (f : α → β) (l : List α) (off : Nat) (xs : List α) : (spliceL l off xs).map f = spliceL (l.map f) off (xs.map f) := by
  simp [spliceL, List.map_append, List.map_take, List.map_drop]

def badIx (n : Int) : List Op → Nat → Int
  | [], _ => -1
  | o :: l, i => if okOp n o then badIx n l (i + 1) else (i : Int)
theorem badIx_neg {n : Int} : ∀ {l : List Op} {i : Nat}, allOk n l → badIx n l i = -1
  | [], _, _ => rfl
  | o :: l, i, h => by
    rw [badIx, if_pos (h o List.mem_cons_self)]
    exact badIx_neg fun x hx => h x (List.mem_cons_of_mem _ hx)
theorem badIx_pos {n : Int} : ∀ {l : List Op} {i : Nat}, ¬ allOk n l → 0 ≤ badIx n l i
  | [], _, h => absurd (fun x hx => by cases hx) h
  | o :: l, i, h => by
    rw [badIx]
    split
    · rename_i ho
      exact badIx_pos fun hl => h fun x hx => by
        rcases List.mem_cons.mp hx with rfl | hx
        · exact ho
        · exact hl x hx
    · omega

theorem f20_ok (v : List Nat) (o : Op) (hv : v.length ≤ 140737488351232) (ho : o.data_.length ≤ 140737488351232) : Pure Try.prog 20 [d34 o, .pe [d22 v]] (.bool (!decide (okOp v.length o))) := by
  refine Pure.of ⟨scd34 _ _, ⟨scd22 _ _, trivial⟩, trivial⟩ trivial ?_
  refine CallsIn.of_exec tab_ok mixed Try.func20 rfl rfl [] [] ?_
  repeat' ((conv => whnf); first
    | refine Exists.intro _ (And.intro (⟨(List.length_map _).symm⟩) ?_) | refine Pure.call (f21_ok _ _ ho) ?_)
  all_goals (conv => whnf)
  exact ⟨rfl⟩

theorem f33_ok (v : List Nat) (ops : List Op) (hv : v.length ≤ 140737488351232) (hn : ops.length ≤ 140737488351232) (ho : bigD ops) : Pure Try.prog 33 [d23 ops, .fn 20 [.pe [d22 v]]] (.int .i64 (badIx v.length ops 0)) := by
  refine Pure.of ⟨scd23 _ _, ⟨⟨scd22 _ _, trivial⟩, trivial⟩, trivial⟩ trivial ?_
  refine CallsIn.of_exec tab_ok mixed Try.func33 rfl rfl [] [] ?_
  repeat' ((conv => whnf); first
    | refine Exists.intro _ (And.intro (⟨(List.length_map _).symm⟩) ?_))
  all_goals (conv => whnf)
  refine W_loopG (ι := Nat) (fun i => ⟨(d23 ops :: .fn 20 [.pe [d22 v]] :: D.undef :: D.undef :: D.undef :: D.undef :: D.undef :: .int .i64 (ops.length : Int) :: .int .i64 (i : Int) :: D.undef :: D.undef :: D.undef :: D.undef :: D.undef :: D.undef :: D.undef :: D.undef :: D.undef :: D.undef :: []), []⟩) (fun i => ops.length - i)
    (fun i => i ≤ ops.length ∧ badIx v.length (ops.drop i) i = badIx v.length ops 0) 0 (Ghost.hold [0, 1, 7, 8] rfl) ⟨Nat.zero_le _, rfl⟩ ?_
  rintro i ⟨h1, h2⟩
  refine exec_ok tab_ok mixed 1000 (bx := []) (own := []) ?_
  rcases Nat.lt_or_ge i ops.length with h | h
  · obtain ⟨x, hx⟩ := at_lt h
    have hxd := ho x (List.mem_of_getElem? hx)
    rw [drop_of_get hx, badIx] at h2
    by_cases hok : okOp v.length x
    · rw [if_pos hok] at h2
      repeat' ((conv => whnf); first
        | refine Exists.intro _ (And.intro (map_at (by omega) hx) ?_) | refine And.intro rfl ?_ | refine And.intro (by omega) ?_ | refine Exists.intro _ (And.intro (w64 (by omega) (by omega)) ?_) | refine Pure.call (f20_ok _ _ hv hxd) ?_ | refine boolF_not ?_ | refine boolF_dect (by assumption) ?_ | refine boolF_dect (by omega) ?_)
      all_goals (conv => whnf)
      exact ⟨i + 1, Ghost.hold [0, 1, 7, 8] rfl, ⟨h, h2⟩, by omega⟩
    · rw [if_neg hok] at h2
      repeat' ((conv => whnf); first
        | refine Exists.intro _ (And.intro (map_at (by omega) hx) ?_) | refine And.intro rfl ?_ | refine And.intro (by omega) ?_ | refine Pure.call (f20_ok _ _ hv hxd) ?_ | refine boolF_not ?_ | refine boolF_decf (by assumption) ?_ | refine boolF_dect (by omega) ?_)
      all_goals (conv => whnf)
      exact ⟨by rw [h2]⟩
  · rw [List.drop_of_length_le h, badIx] at h2
    repeat' ((conv => whnf); first
      | refine boolF_decf (by omega) ?_)
    all_goals (conv => whnf)
    exact ⟨by rw [← h2]⟩

theorem f19_ok (v : List Nat) (ops : List Op) (hv : v.length ≤ 140737488351232) (hn : ops.length ≤ 140737488351232) (ho : bigD ops) : Pure Try.prog 19 [d23 ops, .fn 20 [.pe [d22 v]]] (.bool (!decide (allOk v.length ops))) := by
  refine Pure.of ⟨scd23 _ _, ⟨⟨scd22 _ _, trivial⟩, trivial⟩, trivial⟩ trivial ?_
  refine CallsIn.of_exec tab_ok mixed Try.func19 rfl rfl [] [] ?_
  repeat' ((conv => whnf); first
    | refine Pure.call (f33_ok _ _ hv hn ho) ?_)
  all_goals (conv => whnf)
  by_cases h : allOk v.length ops
  · rw [badIx_neg h]; exact ⟨by simp [h]⟩
  · have := badIx_pos (i := 0) h
    exact ⟨by simp [h, this]⟩

theorem f23_ok (v : List Nat) (o : Op) (ver : Nat) (hv : v.length ≤ 1024) (ho : okOp v.length o) :
    CallsIn Try.prog 23 [.h 0 ver 0 v.length, d34 o] [.arr ver 1 (v.map r45)] fun r H => r = .tup [] ∧ H = [.arr ver 1 ((doO v o).map r45)] := by
  have hd := dat_len ho
  have hoff := ho.2.2.1
  have h24 := f24_ok o (by have := ho.2.2.2; omega)
  simp only [rngD, rng] at h24
  rw [doO, map_splice]
  obtain ⟨kind, off, len, data⟩ := o
  dsimp only at hoff h24 hd
  obtain ⟨a, rfl⟩ := Int.eq_ofNat_of_zero_le hoff
  simp only [okOp] at ho
  rcases ho.2.2.2 with ⟨rfl, rfl, k3, k4, k5⟩ | ⟨rfl, k2, k3, k4⟩
  · simp only [dat] at hd
    simp at hd
    rw [if_pos rfl] at h24
    refine CallsIn.of_exec tab_ok mixed Try.func23 rfl rfl [] [false] ?_
    (conv => whnf)
    refine Pure.call h24 ?_
    repeat' ((conv => whnf); first
      | refine PairK.mk (by kernel_rfl) ?_ | refine And.intro (okRows_map (fun _ _ => ⟨rfl, rfl⟩)) ?_ | refine And.intro (by decide) ?_ | refine And.intro rfl ?_ | refine Exists.intro _ (And.intro (⟨Eq.refl (α := Int) _⟩) (And.intro (by omega) ?_)) | refine Exists.intro _ (Exists.intro _ (And.intro (⟨Eq.refl (α := Nat) _⟩) (And.intro (⟨Eq.refl (α := Nat) _⟩) ?_))))
    all_goals (conv => whnf)
    refine ⟨rfl, ?_⟩
    have e : min (List.map r45 data).length (v.length - a) = (data.map r45).length := by rw [List.length_map]; omega
    have e2 : dat ⟨1, (a : Int), 0, data⟩ = data := by simp [dat]
    dsimp only
    rw [e, List.take_length, e2, Nat.zero_add, Int.toNat_natCast]
  · obtain ⟨l, rfl⟩ := Int.eq_ofNat_of_zero_le (a := len) (by omega)
    obtain rfl : data = [] := List.length_eq_zero_iff.mp k2
    rw [if_neg (by decide), if_pos rfl] at h24
    refine CallsIn.of_exec tab_ok mixed Try.func23 rfl rfl [] [false] ?_
    (conv => whnf)
    refine Pure.call h24 ?_
    repeat' ((conv => whnf); first
      | refine Exists.intro a (Exists.intro (a + l) (And.intro ⟨rfl⟩ (And.intro ⟨rfl⟩ (And.intro (by omega) (And.intro (by omega) ?_))))) | refine And.intro (by decide) ?_ | refine And.intro rfl ?_ | refine Exists.intro _ (Exists.intro _ (And.intro (⟨Eq.refl (α := Nat) _⟩) (And.intro (⟨Eq.refl (α := Nat) _⟩) ?_))) | refine Exists.intro _ (And.intro (w64 (by omega) (by omega)) ?_))
    all_goals (conv => whnf)
    refine ⟨rfl, ?_⟩
    have e2 : dat ⟨2, (a : Int), (l : Int), []⟩ = List.replicate l 0 := by simp [dat]
    dsimp only
    rw [e2, Nat.zero_add, Nat.add_sub_cancel_left, List.map_replicate, Int.toNat_natCast]
    rfl

theorem f23_at (v : List Nat) (o : Op) (ver : Nat) (hv : v.length ≤ 1024) (ho : okOp v.length o) :
    Turns1 Try.prog 23 (fun k => [.h k ver 0 v.length, d34 o]) (.arr ver 1 (v.map r45)) (fun _ _ => .tup []) (fun _ => .arr ver 1 ((doO v o).map r45)) where
  arg := fun ρ => by simp only [renL, ren]; rw [ren_sc0 ρ _ (scd34 0 o)]
  res := fun _ _ => rfl
  asc := ⟨Nat.zero_lt_one, scd34 _ _, trivial⟩
  osc := scr45 _ _
  ores := fun ρ v => renO_sc0 ρ (by exact scr45 _ _)
  calls := (f23_ok v o ver hv ho).mono fun r H ⟨e1, e2⟩ => ⟨0, e1, e2⟩

def ownW (p : List Nat × Int) (o ver : Nat) : D := .tup [.h o ver 0 p.1.length, .int .i64 p.2]
def OwnW (f : FuncId) (args : List D) (p : List Nat × Int) : Prop := OwnedR Try.prog f args (ownW p) 1 (p.1.map r45)
theorem ownW_res (p : List Nat × Int) : ∀ (ρ : Nat → Nat) ver, ren ρ (ownW p 0 ver) = ownW p (ρ 0) ver := fun _ _ => rfl
theorem ownW_err (e : Int) (H : List AObj) : ∃ ver, Ghost 0 [.tup [.nils, .int .i64 e]] H [ownW ([], e) 0 ver] [.arr ver 1 (([] : List Nat).map r45)] := by
  refine ⟨0, (Ghost.matD (sz := 1) (s' := [.tup [.h H.length 0 0 0, .int .i64 e]]) (.cons (.tup (.cons .nil (.cons .refl .nil))) .nil)).trans ?_⟩
  refine Ghost.pick [H.length] (by simp) rfl (fun i o ob' h1 h2 => ?_) rfl ⟨⟨Nat.zero_lt_one, trivial, trivial⟩, trivial⟩ (fun ob hob => by simp at hob; subst hob; trivial)
  cases i with
  | zero => simp at h1 h2; subst h1 h2; simp [renO, renL]
  | succ i => simp at h1
theorem ownW_ok (e : Int) (l : List Nat) (k w n : Nat) (H : List AObj) (hn : n = l.length) (hk : H[k]? = some (.arr w 1 (l.map r45))) : ∃ ver, Ghost 0 [.tup [.h k w 0 n, .int .i64 e]] H [ownW (l, e) 0 ver] [.arr ver 1 (l.map r45)] := by
  subst hn
  refine ⟨w, Ghost.pick [k] (by simp) rfl (fun i o ob' h1 h2 => ?_) rfl ⟨⟨Nat.zero_lt_one, trivial, trivial⟩, trivial⟩ (fun ob hob => by simp at hob; subst hob; exact scr45 _ _)⟩
  cases i with
  | zero => simp at h1 h2; subst h1 h2; simp only [renO]; rw [renL_sc0 _ _ (scr45 _ _)]; exact hk
  | succ i => simp at h1
theorem OwnW.pure {f : FuncId} {args : List D} {p : List Nat × Int} (h : OwnW f args p) : Pure Try.prog f args (.tup [d22 p.1, .int .i64 p.2]) :=
  OwnedR.pure h ⟨scd22 _ _, trivial, trivial⟩ (fun ver => .tup (.cons (.h (all_take rfl)) (.cons (.refl _) .nil)))

theorem applyL_snoc {v : List Nat} {ops : List Op} {i : Nat} {o : Op} (h : ops[i]? = some o) : applyL v (ops.take (i + 1)) = doO (applyL v (ops.take i)) o := by
  rw [take_snoc h, applyL, List.foldl_append]; rfl
theorem allOk_take {n : Int} {ops : List Op} (h : allOk n ops) (i : Nat) : allOk n (ops.take i) := fun x hx => h x (List.mem_of_mem_take hx)

theorem f9_own (v : List Nat) (ops : List Op) (hv : v.length ≤ 140737488351232) (hn : ops.length ≤ 140737488351232) (ho : bigD ops) : OwnW 9 [d22 v, d23 ops] (applyM v ops) := by
  refine OwnedR.of ⟨scd22 _ _, scd23 _ _, trivial⟩ (scr45 _ _) (ownW_res _) ?_
  refine CallsIn.of_exec tab_ok mixed Try.func9 rfl rfl [] [] ?_
  by_cases hb : 1024 < v.length
  · rw [applyM, if_pos hb]
    repeat' ((conv => whnf); first
      | refine Exists.intro _ (And.intro (⟨(List.length_map _).symm⟩) ?_) | refine boolF_dect (by omega) ?_)
    all_goals (conv => whnf)
    exact ⟨ownW_err 6 _⟩
  · rw [applyM, if_neg hb]
    by_cases hok : allOk v.length ops
    · rw [if_pos hok]
      repeat' ((conv => whnf); first
        | refine Exists.intro _ (And.intro (⟨(List.length_map _).symm⟩) ?_) | refine Pure.call (f19_ok _ _ hv hn ho) ?_ | refine boolF_not ?_ | refine boolF_dect (by assumption) ?_ | refine boolF_decf (by omega) ?_)
      all_goals (conv => whnf)
      refine Owned.callN (f22_ok v hv (by omega)) v.length (by rw [List.length_map]) (fun v1 => ?_)
      repeat' ((conv => whnf); first
        | refine Exists.intro _ (And.intro (⟨(List.length_map _).symm⟩) ?_))
      all_goals (conv => whnf)
      refine W_loopG (ι := Nat) (fun i => ⟨(D.undef :: D.undef :: D.undef :: D.undef :: D.undef :: D.undef :: .h 0 v1 0 v.length :: D.undef :: D.undef :: D.undef :: D.undef :: D.undef :: D.undef :: D.undef :: D.undef :: D.undef :: D.undef :: d23 ops :: .int .i64 (ops.length : Int) :: .int .i64 (i:Int) :: D.undef :: D.undef :: D.undef :: D.undef :: D.undef :: D.undef :: D.undef :: D.undef :: []), [.arr v1 1 ((applyL v (ops.take i)).map r45)]⟩) (fun i => ops.length - i)
        (fun i => i ≤ ops.length) 0 (Ghost.hold [6, 17, 18, 19] rfl) (Nat.zero_le _) ?_
      intro i h1
      have hl := (apply_at (v := v) (allOk_take hok i)).1
      rcases Nat.lt_or_ge i ops.length with h | h
      · obtain ⟨x, hx⟩ := at_lt h
        have hxo := hok x (List.mem_of_getElem? hx)
        have hs := applyL_snoc (v := v) hx
        generalize applyL v (ops.take i) = cur at hl hs ⊢
        refine exec_ok tab_ok mixed 1000 (bx := [false]) (own := []) ?_
        repeat' ((conv => whnf); first
          | refine Exists.intro _ (And.intro (map_at (by omega) hx) ?_) | refine And.intro (by decide) ?_ | refine And.intro rfl ?_ | refine And.intro (by omega) ?_ | refine boolF_dect (by omega) ?_)
        all_goals (conv => whnf)
        rw [← hl] at hxo ⊢
        refine Turns1.call (f23_at cur x v1 (by omega) hxo) 0 rfl (fun v' => ?_)
        repeat' ((conv => whnf); first
          | refine Exists.intro _ (And.intro (w64 (by omega) (by omega)) ?_))
        all_goals (conv => whnf)
        refine ⟨i + 1, Ghost.back [6, 17, 18, 19] 1 ?_ ?_ (Nat.zero_le _) (by simp [scs, D.sc, scd23]) (by simp only [List.mem_singleton]; intro ob hob; subst hob; exact scr45 _ _), h, by omega⟩
        · rfl
        · rw [hs]; rfl
      · refine exec_ok tab_ok mixed 1000 (bx := [false]) (own := []) ?_
        have e : ops.take i = ops := List.take_of_length_le h
        rw [e] at hl ⊢
        repeat' ((conv => whnf); first
          | refine boolF_decf (by omega) ?_)
        all_goals (conv => whnf)
        exact ⟨ownW_ok 0 _ 0 v1 _ _ hl.symm rfl⟩
    · rw [if_neg hok]
      repeat' ((conv => whnf); first
        | refine Exists.intro _ (And.intro (⟨(List.length_map _).symm⟩) ?_) | refine Pure.call (f19_ok _ _ hv hn ho) ?_ | refine boolF_not ?_ | refine boolF_decf (by assumption) ?_ | refine boolF_decf (by omega) ?_)
      all_goals (conv => whnf)
      exact ⟨ownW_err 1 _⟩

end Go.Proofs.Ytgcbeibemomhcaa

