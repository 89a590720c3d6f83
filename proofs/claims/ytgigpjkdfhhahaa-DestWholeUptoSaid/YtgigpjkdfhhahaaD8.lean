import Derived.Test.YtgigpjkdfhhahaaM6
-- merged
namespace Go.Proofs.Ytgigpjkdfhhahaa
open Go.A
set_option linter.unusedVariables false
set_option linter.unusedSimpArgs false
set_option linter.unnecessarySimpa false
attribute [local irreducible] IntKind.wrap bitsI
set_option maxRecDepth 100000
set_option maxHeartbeats 4000000

mutual
theorem ren_fix {ρ : Nat → Nat} {k : Nat} (hρ : ∀ i, i < k → ρ i = i) : ∀ (d : D), d.sc k → ren ρ d = d
  | .undef, _ => rfl
  | .int _ _, _ => rfl
  | .bool _, _ => rfl
  | .str _, _ => rfl
  | .agg cs, h => by simp only [ren, renL_fix hρ cs h]
  | .tup cs, h => by simp only [ren, renL_fix hρ cs h]
  | .sl xs, h => by simp only [ren, renL_fix hρ xs h]
  | .nils, _ => rfl
  | .h o ver i n, h => by simp only [ren, hρ o h]
  | .p o ver i j, h => by simp only [ren, hρ o h]
  | .pe cs, h => by simp only [ren, renL_fix hρ cs h]
  | .pnil, _ => rfl
  | .map o, h => by simp only [ren, hρ o h]
  | .mnil, _ => rfl
  | .fn f caps, h => by simp only [ren, renL_fix hρ caps h]
  | .fnil, _ => rfl
  | .ifc t v, h => by simp only [ren, ren_fix hρ v h]
  | .inil, _ => rfl
  | .raw v, _ => rfl
theorem renL_fix {ρ : Nat → Nat} {k : Nat} (hρ : ∀ i, i < k → ρ i = i) : ∀ (l : List D), scs k l → renL ρ l = l
  | [], _ => rfl
  | d :: ds, h => by simp only [renL, ren_fix hρ d h.1, renL_fix hρ ds h.2]
end
theorem renO_fix {ρ : Nat → Nat} {k : Nat} (hρ : ∀ i, i < k → ρ i = i) : ∀ {ob : AObj}, ob.sc k → renO ρ ob = ob
  | .arr _ _ rows, h => by rw [renO, renL_fix hρ rows h]
  | .mapx es _, h => by
    rw [renO]
    congr 1
    conv => rhs; rw [← List.map_id es]
    refine List.map_congr_left fun e he => ?_
    rw [ren_fix hρ _ (h e he).1, ren_fix hρ _ (h e he).2]; rfl
  | .gone, _ => rfl
mutual
theorem ren_same {ρ σ : Nat → Nat} {k : Nat} (hρ : ∀ i, i < k → ρ i = σ i) : ∀ (d : D), d.sc k → ren ρ d = ren σ d
  | .undef, _ => rfl
  | .int _ _, _ => rfl
  | .bool _, _ => rfl
  | .str _, _ => rfl
  | .agg cs, h => by simp only [ren, renL_same hρ cs h]
  | .tup cs, h => by simp only [ren, renL_same hρ cs h]
  | .sl xs, h => by simp only [ren, renL_same hρ xs h]
  | .nils, _ => rfl
  | .h o ver i n, h => by simp only [ren, hρ o h]
  | .p o ver i j, h => by simp only [ren, hρ o h]
  | .pe cs, h => by simp only [ren, renL_same hρ cs h]
  | .pnil, _ => rfl
  | .map o, h => by simp only [ren, hρ o h]
  | .mnil, _ => rfl
  | .fn f caps, h => by simp only [ren, renL_same hρ caps h]
  | .fnil, _ => rfl
  | .ifc t v, h => by simp only [ren, ren_same hρ v h]
  | .inil, _ => rfl
  | .raw v, _ => rfl
theorem renL_same {ρ σ : Nat → Nat} {k : Nat} (hρ : ∀ i, i < k → ρ i = σ i) : ∀ (l : List D), scs k l → renL ρ l = renL σ l
  | [], _ => rfl
  | d :: ds, h => by simp only [renL, ren_same hρ d h.1, renL_same hρ ds h.2]
end
theorem renO_same {ρ σ : Nat → Nat} {k : Nat} (hρ : ∀ i, i < k → ρ i = σ i) : ∀ {ob : AObj}, ob.sc k → renO ρ ob = renO σ ob
  | .arr _ _ rows, h => by rw [renO, renO, renL_same hρ rows h]
  | .mapx es _, h => by
    rw [renO, renO]
    congr 1
    refine List.map_congr_left fun e he => ?_
    rw [ren_same hρ _ (h e he).1, ren_same hρ _ (h e he).2]
  | .gone, _ => rfl
theorem ixOf_range {n k i : Nat} (h : i < n) : ixOf (List.range n) k i = i := by
  rw [ixOf, List.getElem?_range h]
theorem upds_range {α : Type} : ∀ (x A l F : List α), x.length = l.length → upds (A ++ l ++ F) (((List.range l.length).map (A.length + ·)).zip x) = A ++ x ++ F
  | [], A, [], F, _ => rfl
  | y :: x, A, z :: l, F, h => by
    have e : (List.range (z :: l).length).map (A.length + ·) = A.length :: (List.range l.length).map ((A ++ [y]).length + ·) := by
      rw [List.length_cons, List.range_succ_eq_map, List.map_cons, List.map_map]
      congr 1
      refine List.map_congr_left fun i _ => ?_
      simp only [Function.comp, List.length_append, List.length_singleton]
      omega
    rw [e, List.zip_cons_cons, upds]
    have e2 : (A ++ (z :: l) ++ F).set A.length y = (A ++ [y]) ++ l ++ F := by
      rw [List.append_assoc, List.set_append_right _ _ (Nat.le_refl _), Nat.sub_self]
      simp
    dsimp only
    rw [e2, upds_range x (A ++ [y]) l F (by simpa using h)]
    simp
/-- A call shown at its own things, where these come first. -/
theorem callsSelf {P : Program} {f : FuncId} {args : List D} {Hl : List AObj} {R : D → List AObj → Prop} (h : Go.A.CallsIn P f args Hl R) (F : List AObj) (ha : scs Hl.length args) (ho : ∀ ob ∈ Hl, ob.sc Hl.length)
    {K : D → List AObj → Prop} (hk : ∀ r H0, R r H0 → Hl.length ≤ H0.length → K (ren (ixOf (List.range Hl.length) (Hl ++ F).length) r) (place (List.range Hl.length) (Hl ++ F) (H0.map (renO (ixOf (List.range Hl.length) (Hl ++ F).length))))) : Go.A.CallsIn P f args (Hl ++ F) K := by
  refine h.at (List.range Hl.length) (H := Hl ++ F) List.length_range List.nodup_range (renL_fix (fun i hi => ixOf_range hi) _ ha).symm ?_ ha ho hk
  refine List.ext_getElem? fun i => ?_
  rw [List.getElem?_map, List.getElem?_map]
  rcases Nat.lt_or_ge i Hl.length with hi | hi
  · rw [List.getElem?_range hi, List.getElem?_eq_getElem hi, Option.map_some, Option.map_some, List.getElem?_append_left hi, List.getElem?_eq_getElem hi,
      renO_fix (fun i hi => ixOf_range hi) (ho _ (List.getElem_mem hi))]
  · rw [List.getElem?_eq_none (by simpa using hi), List.getElem?_eq_none hi]; rfl
theorem place_self {Hl Hl' F : List AObj} (h : Hl'.length = Hl.length) : place (List.range Hl.length) (Hl ++ F) Hl' = Hl' ++ F := by
  rw [place, List.drop_of_length_le (by rw [List.length_range]; omega), List.append_nil]
  have := upds_range Hl' [] Hl F h
  simpa using this
theorem turnsSelf {P : Program} {f : FuncId} {args : List D} {Hl Hl' : List AObj} {r : D} (h : TurnsM P f args Hl r Hl') (F : List AObj) (hr : r.sc Hl.length) (ho' : ∀ ob ∈ Hl', ob.sc Hl.length)
    {K : D → List AObj → Prop} (hk : K r (Hl' ++ F)) : Go.A.CallsIn P f args (Hl ++ F) K := by
  refine callsSelf h.calls F h.asc h.osc ?_
  rintro r0 H0 ⟨e1, e2⟩ _
  subst e1 e2
  rw [ren_fix (fun i hi => ixOf_range hi) _ hr, show H0.map (renO (ixOf (List.range Hl.length) (Hl ++ F).length)) = H0 from (List.map_congr_left fun ob hob => renO_fix (fun i hi => ixOf_range hi) (ho' ob hob)).trans (List.map_id _), place_self h.len]
  exact hk
theorem turnsSelfL {P : Program} {f : FuncId} {args : List D} {Hl : List AObj} {r : D} (h : TurnsM P f args Hl r Hl) (F : List AObj) (hr : r.sc Hl.length)
    {bx : List Bool} {X : D → List Nat → List (Nat × AObj) → List AObj → List Bool → Prop} (hx : X r (List.range Hl.length) [] (Hl ++ F) bx) : LocK P f args (Hl ++ F) bx X :=
  ⟨.inl ⟨r, List.range Hl.length, [], {
    sub := fun x hx => by cases hx
    inr := fun o ho => by rw [List.mem_range] at ho; rw [List.length_append]; omega
    calls := fun H' hag => by
      have e : H' = Hl ++ H'.drop Hl.length := by
        refine List.ext_getElem? fun i => ?_
        rcases Nat.lt_or_ge i Hl.length with hi | hi
        · rw [hag i (List.mem_range.mpr hi), List.getElem?_append_left hi, List.getElem?_append_left hi]
        · rw [List.getElem?_append_right hi, List.getElem?_drop]; congr 1; omega
      rw [e]
      exact turnsSelf h _ hr h.osc ⟨rfl, rfl⟩ }, hx⟩⟩

end Go.Proofs.Ytgigpjkdfhhahaa


namespace Go.Proofs.Ytgigpjkdfhhahaa
open Go.A
set_option linter.unusedVariables false
set_option linter.unusedSimpArgs false
set_option linter.unnecessarySimpa false
attribute [local irreducible] IntKind.wrap bitsI
open B L M
set_option maxRecDepth 100000
set_option maxHeartbeats 4000000

structure Out where
  id : Int
  v : List Nat
/-- A destination; of its berths, versions. -/
structure Dst where
  n : Int
  version : Int
  id : Int
  mv : Int
  mn : Int
  mp : List T50
  bs : Nat → Nat × Bt
  out : List Out
def rO (x : Out) : D := .agg [.int .i64 x.id, d35 x.v]
def ptrs (k : Nat) (bs : Nat → Nat × Bt) : List D := (List.range 16).map fun j => .p (k + j) (bs j).1 0 0
def cD (k ov : Nat) (d : Dst) : List D := [.int .i64 d.n, .int .i64 d.version, .int .i64 d.id, .int .i64 d.mv, .int .i64 d.mn, d22 d.mp, .sl (ptrs k d.bs), .h 1 ov 0 d.out.length]
def oD (k dv ov : Nat) (d : Dst) : AObj := .arr dv 8 [.agg (cD k ov d)]
def oO (ov : Nat) (l : List Out) : AObj := .arr ov 2 (l.map rO)
def oj (bs : Nat → Nat × Bt) (j : Nat) : AObj := oB (bs j).1 (bs j).2
def HD (dv ov : Nat) (d : Dst) : List AObj := [oD 2 dv ov d, oO ov d.out, oj d.bs 0, oj d.bs 1, oj d.bs 2, oj d.bs 3, oj d.bs 4, oj d.bs 5, oj d.bs 6, oj d.bs 7, oj d.bs 8, oj d.bs 9, oj d.bs 10, oj d.bs 11, oj d.bs 12, oj d.bs 13, oj d.bs 14, oj d.bs 15]
def bxD : List Bool := [true, false, true, true, true, true, true, true, true, true, true, true, true, true, true, true, true, true]
theorem scr51 (k : Nat) (l : List T50) : scs k (l.map r51) := scs_map.mpr fun x _ => ⟨trivial, trivial, trivial, trivial⟩
theorem scd22 (k : Nat) (l : List T50) : (d22 l).sc k := scr51 k l
theorem scrO (k : Nat) (l : List Out) : scs k (l.map rO) := scs_map.mpr fun x _ => ⟨trivial, scd35 _ _, trivial⟩
theorem scptrs {k n : Nat} (h : k + 16 ≤ n) (bs : Nat → Nat × Bt) : scs n (ptrs k bs) := (scs_iff _ _).mpr fun x hx => by
  obtain ⟨j, hj, rfl⟩ := List.mem_map.mp hx
  rw [List.mem_range] at hj
  show k + j < n
  omega
theorem scoD {k n dv ov : Nat} (h : k + 16 ≤ n) (h1 : 1 < n) (d : Dst) : (oD k dv ov d).sc n := ⟨⟨trivial, trivial, trivial, trivial, trivial, scd22 _ _, scptrs h _, h1, trivial⟩, trivial⟩
theorem scHDn {n : Nat} (hn : 18 ≤ n) (dv ov : Nat) (d : Dst) : ∀ ob ∈ HD dv ov d, ob.sc n := by
  intro ob hob
  have hB : ∀ j, (oj d.bs j).sc n := fun j => ⟨scB _ _, trivial⟩
  simp only [HD, List.mem_cons, List.not_mem_nil, or_false] at hob
  rcases hob with h | h | h | h | h | h | h | h | h | h | h | h | h | h | h | h | h | h
  · subst h; exact scoD (by omega) (by omega) d
  · subst h; exact scrO _ _
  all_goals (subst h; exact hB _)
theorem scHD (dv ov : Nat) (d : Dst) : ∀ ob ∈ HD dv ov d, ob.sc (HD dv ov d).length := scHDn (n := 18) (Nat.le_refl _) dv ov d
theorem scHDs {n : Nat} (hn : 18 ≤ n) (dv ov : Nat) (d : Dst) {ob : AObj} (hob : ob.sc n) : ∀ x ∈ HD dv ov d ++ [ob], x.sc n := fun x hx => by
  rcases List.mem_append.mp hx with h | h
  · exact scHDn hn _ _ _ x h
  · simp only [List.mem_singleton] at h; subst h; exact hob
theorem hd_at (dv ov : Nat) (d : Dst) {j : Nat} (h : j < 16) : (HD dv ov d)[2 + j]? = some (oj d.bs j) := by
  match j, h with
  | 0, _ | 1, _ | 2, _ | 3, _ | 4, _ | 5, _ | 6, _ | 7, _ | 8, _ | 9, _ | 10, _ | 11, _ | 12, _ | 13, _ | 14, _ | 15, _ => rfl
  | n + 16, h => exact absurd h (by omega)
def upd (bs : Nat → Nat × Bt) (j : Nat) (x : Nat × Bt) : Nat → Nat × Bt := fun i => if i = j then x else bs i
def setB (d : Dst) (j : Nat) (b : Bt) : Dst := { d with bs := upd d.bs j ((d.bs j).1, b) }
theorem ptrs_set (k : Nat) (d : Dst) (j : Nat) (b : Bt) : ptrs k (setB d j b).bs = ptrs k d.bs := by
  refine List.map_congr_left fun i _ => ?_
  show D.p (k + i) (upd d.bs j ((d.bs j).1, b) i).1 0 0 = _
  unfold upd
  split
  · rename_i e; subst e; rfl
  · rfl
theorem hd_set (dv ov : Nat) (d : Dst) {j : Nat} (h : j < 16) (b : Bt) : (HD dv ov d).set (2 + j) (oB (d.bs j).1 b) = HD dv ov (setB d j b) := by
  have e : oD 2 dv ov (setB d j b) = oD 2 dv ov d := by
    unfold oD cD
    rw [ptrs_set]; rfl
  rw [HD, HD, e]
  match j, h with
  | 0, _ | 1, _ | 2, _ | 3, _ | 4, _ | 5, _ | 6, _ | 7, _ | 8, _ | 9, _ | 10, _ | 11, _ | 12, _ | 13, _ | 14, _ | 15, _ => rfl
  | n + 16, h => exact absurd h (by omega)
theorem ptr_at (k : Nat) (bs : Nat → Nat × Bt) {i : Int} {j : Nat} (e : i = (j : Int)) (h : j < 16) : (ptrs k bs)[i.toNat]? = some (.p (k + j) (bs j).1 0 0) := by
  subst e
  rw [ptrs, List.getElem?_map, Int.toNat_natCast, List.getElem?_range h]; rfl
theorem len_ptrs (k : Nat) (bs : Nat → Nat × Bt) : (ptrs k bs).length = 16 := by rw [ptrs, List.length_map, List.length_range]

/-- A method that only looks. -/
abbrev Look (f : FuncId) (xs : List D) (dv ov : Nat) (d : Dst) (r : D) : Prop := TurnsM Try.prog f (.p 0 dv 0 0 :: xs) (HD dv ov d) r (HD dv ov d)
theorem look {f : FuncId} {xs : List D} {dv ov : Nat} {d : Dst} {r : D} (hx : scs 18 xs) (h : Go.A.CallsIn Try.prog f (.p 0 dv 0 0 :: xs) (HD dv ov d) fun r' H' => r' = r ∧ H' = HD dv ov d) : Look f xs dv ov d r :=
  ⟨h, rfl, ⟨Nat.zero_lt_succ _, hx⟩, scHD _ _ _⟩
theorem look.call {f : FuncId} {xs : List D} {dv ov : Nat} {d : Dst} {r : D} (h : Look f xs dv ov d r) (F : List AObj) (hr : r.sc 18) {K : D → List AObj → Prop} (hk : K r (HD dv ov d ++ F)) : Go.A.CallsIn Try.prog f (.p 0 dv 0 0 :: xs) (HD dv ov d ++ F) K :=
  turnsSelf h F hr (scHD _ _ _) hk
theorem look.loc {f : FuncId} {xs : List D} {dv ov : Nat} {d : Dst} {r : D} (h : Look f xs dv ov d r) (F : List AObj) (hr : r.sc 18) {bx : List Bool} {X : D → List Nat → List (Nat × AObj) → List AObj → List Bool → Prop}
    (hx : X r (List.range 18) [] (HD dv ov d ++ F) bx) : LocK Try.prog f (.p 0 dv 0 0 :: xs) (HD dv ov d ++ F) bx X :=
  turnsSelfL h F hr hx

theorem f34_at (dv ov : Nat) (d : Dst) : Look 34 [] dv ov d (.bool (decide (0 < d.n))) := by
  refine look trivial ?_
  refine Go.A.CallsIn.of_exec tab_ok mixed Try.func34 rfl rfl [] bxD ?_
  repeat' ((conv => whnf); first
    | refine And.intro (by decide) ?_ | refine And.intro rfl ?_ | refine And.intro (Nat.le_of_ble_eq_true rfl) ?_)
  all_goals (conv => whnf)
  exact ⟨rfl, rfl⟩
theorem f34_nil : Pure Try.prog 34 [.pnil] (.bool false) := by
  refine Pure.of ⟨trivial, trivial⟩ trivial ?_
  refine Go.A.CallsIn.of_exec tab_ok mixed Try.func34 rfl rfl [] [] ?_
  (conv => whnf)
  exact ⟨rfl⟩

end Go.Proofs.Ytgigpjkdfhhahaa


namespace Go.Proofs.Ytgigpjkdfhhahaa
open Go.A
set_option linter.unusedVariables false
set_option linter.unusedSimpArgs false
set_option linter.unnecessarySimpa false
attribute [local irreducible] IntKind.wrap bitsI
open B L M
set_option maxRecDepth 100000
set_option maxHeartbeats 4000000

theorem f40_at (dv ov : Nat) (d : Dst) {j : Nat} (hn : 0 < d.n) (hj : j < 16) : Look 40 [.int .i64 (j : Int)] dv ov d (.p (2 + j) (d.bs j).1 0 0) := by
  refine look ⟨trivial, trivial⟩ ?_
  refine Go.A.CallsIn.of_exec tab_ok mixed Try.func40 rfl rfl [] bxD ?_
  repeat' ((conv => whnf); first
    | refine look.call (f34_at dv ov d) [] trivial ?_ | refine Exists.intro _ (And.intro (⟨(len_ptrs _ _).symm⟩) ?_) | refine Exists.intro _ (And.intro (ptr_at _ _ rfl hj) ?_) | refine And.intro (by decide) ?_ | refine And.intro rfl ?_ | refine And.intro (Nat.le_of_ble_eq_true rfl) ?_ | refine And.intro (by omega) ?_ | refine boolF_not ?_ | refine boolF_dect (by assumption) ?_ | refine boolF_decf (by omega) ?_)
  all_goals (conv => whnf)
  exact ⟨rfl, rfl⟩
theorem f40_no (dv ov : Nat) (d : Dst) {i : Int} (h : ¬ (0 < d.n ∧ 0 ≤ i ∧ i < 16)) : Look 40 [.int .i64 i] dv ov d .pnil := by
  refine look ⟨trivial, trivial⟩ ?_
  refine Go.A.CallsIn.of_exec tab_ok mixed Try.func40 rfl rfl [] bxD ?_
  repeat' ((conv => whnf); first
    | refine look.call (f34_at dv ov d) [] trivial ?_ | refine Exists.intro _ (And.intro (⟨(len_ptrs _ _).symm⟩) ?_) | refine And.intro (by decide) ?_ | refine And.intro rfl ?_ | refine And.intro (Nat.le_of_ble_eq_true rfl) ?_ | refine boolF_not ?_ | refine boolF_dect (by omega) ?_ | refine boolF_dec (fun _ => ?_) (fun _ => ?_))
  all_goals (conv => whnf)
  all_goals (first | exact ⟨rfl, rfl⟩ | (exfalso; omega))

end Go.Proofs.Ytgigpjkdfhhahaa


namespace Go.Proofs.Ytgigpjkdfhhahaa
open Go.A
set_option linter.unusedVariables false
set_option linter.unusedSimpArgs false
set_option linter.unnecessarySimpa false
attribute [local irreducible] IntKind.wrap bitsI
open B L M
set_option maxRecDepth 100000
set_option maxHeartbeats 4000000

/-- A method that turns a destination's berths or cells alone. -/
abbrev TurnD (f : FuncId) (xs : List D) (dv ov : Nat) (d : Dst) (r : D) (d' : Dst) : Prop := TurnsM Try.prog f (.p 0 dv 0 0 :: xs) (HD dv ov d) r (HD dv ov d')
theorem turnD {f : FuncId} {xs : List D} {dv ov : Nat} {d d' : Dst} {r : D} (hx : scs 18 xs) (h : Go.A.CallsIn Try.prog f (.p 0 dv 0 0 :: xs) (HD dv ov d) fun r' H' => r' = r ∧ H' = HD dv ov d') : TurnD f xs dv ov d r d' :=
  ⟨h, rfl, ⟨Nat.zero_lt_succ _, hx⟩, scHD _ _ _⟩
theorem TurnD.call {f : FuncId} {xs : List D} {dv ov : Nat} {d d' : Dst} {r : D} (h : TurnD f xs dv ov d r d') (F : List AObj) (hr : r.sc 18) {K : D → List AObj → Prop} (hk : K r (HD dv ov d' ++ F)) : Go.A.CallsIn Try.prog f (.p 0 dv 0 0 :: xs) (HD dv ov d ++ F) K :=
  turnsSelf h F hr (scHD _ _ _) hk

structure InvD (d : Dst) : Prop where
  n : 1 ≤ d.n ∧ d.n ≤ 1024
  b : ∀ j : Nat, j < 16 → InvB (j : Int) d.version d.n.toNat (d.bs j).2
  id : 0 ≤ d.id
  mp : d.id ≠ 0 → M.rightP ⟨d.mv, d.mn, d.mp⟩ ∧ d.mn = d.n
  out : d.out.length ≤ 32
  outv : ∀ x ∈ d.out, x.v.length = d.n.toNat
  room : d.id ≠ 0 → d.out.length < 32
  nd : (d.out.map Out.id).Nodup
  fresh : d.id ≠ 0 → ∀ x ∈ d.out, x.id ≠ d.id
  pos : ∀ x ∈ d.out, 1 ≤ x.id
  ver : 0 ≤ d.version
theorem InvD.made {d : Dst} (h : InvD d) {j : Nat} (hj : j < 16) : (d.bs j).2.made = true := (h.b j hj).made

theorem f39_at (dv ov : Nat) (d : Dst) : Look 39 [] dv ov d (.int .i64 (if 0 < d.n then if d.id = 0 then 11 else 0 else 2)) := by
  refine look trivial ?_
  refine Go.A.CallsIn.of_exec tab_ok mixed Try.func39 rfl rfl [] bxD ?_
  by_cases h1 : 0 < d.n
  · rw [if_pos h1]
    by_cases h2 : d.id = 0
    · rw [if_pos h2]
      repeat' ((conv => whnf); first
        | refine look.call (f34_at dv ov d) [] trivial ?_ | refine And.intro (by decide) ?_ | refine And.intro rfl ?_ | refine And.intro (Nat.le_of_ble_eq_true rfl) ?_ | refine boolF_not ?_ | refine boolF_dect (by assumption) ?_)
      all_goals (conv => whnf)
      exact ⟨rfl, rfl⟩
    · rw [if_neg h2]
      repeat' ((conv => whnf); first
        | refine look.call (f34_at dv ov d) [] trivial ?_ | refine And.intro (by decide) ?_ | refine And.intro rfl ?_ | refine And.intro (Nat.le_of_ble_eq_true rfl) ?_ | refine boolF_not ?_ | refine boolF_dect (by assumption) ?_ | refine boolF_decf (by assumption) ?_)
      all_goals (conv => whnf)
      exact ⟨rfl, rfl⟩
  · rw [if_neg h1]
    repeat' ((conv => whnf); first
      | refine look.call (f34_at dv ov d) [] trivial ?_ | refine boolF_not ?_ | refine boolF_decf (by assumption) ?_)
    all_goals (conv => whnf)
    exact ⟨rfl, rfl⟩
theorem f15_at (dv ov : Nat) (d : Dst) : Look 15 [] dv ov d (.int .i64 (if 0 < d.n then d.id else 0)) := by
  refine look trivial ?_
  refine Go.A.CallsIn.of_exec tab_ok mixed Try.func15 rfl rfl [] bxD ?_
  by_cases h1 : 0 < d.n
  · rw [if_pos h1]
    repeat' ((conv => whnf); first
      | refine look.call (f34_at dv ov d) [] trivial ?_ | refine And.intro (by decide) ?_ | refine And.intro rfl ?_ | refine And.intro (Nat.le_of_ble_eq_true rfl) ?_ | refine boolF_not ?_ | refine boolF_dect (by assumption) ?_)
    all_goals (conv => whnf)
    exact ⟨rfl, rfl⟩
  · rw [if_neg h1]
    repeat' ((conv => whnf); first
      | refine look.call (f34_at dv ov d) [] trivial ?_ | refine boolF_not ?_ | refine boolF_decf (by assumption) ?_)
    all_goals (conv => whnf)
    exact ⟨rfl, rfl⟩

def isNode (i : Int) : Prop := 0 ≤ i ∧ i < 16
instance (i : Int) : Decidable (isNode i) := inferInstanceAs (Decidable (_ ∧ _))
def thereD (d : Dst) (i : Int) : Int := if isNode i then (d.bs i.toNat).2.there else 0
def comingD (d : Dst) (i : Int) : Int × Int := if isNode i then ((d.bs i.toNat).2.now.snap, (d.bs i.toNat).2.now.count) else (0, 0)

theorem f25_at (dv ov : Nat) {d : Dst} (hd : InvD d) (i : Int) : Look 25 [.int .i64 i] dv ov d (.int .i64 (thereD d i)) := by
  refine look ⟨trivial, trivial⟩ ?_
  refine Go.A.CallsIn.of_exec tab_ok mixed Try.func25 rfl rfl [] bxD ?_
  rw [thereD]
  by_cases h : isNode i
  · rw [if_pos h]
    obtain ⟨j, rfl⟩ := Int.eq_ofNat_of_zero_le h.1
    have hj : j < 16 := by have := h.2; omega
    have hn : 0 < d.n := hd.n.1
    have hm := hd.made hj
    repeat' ((conv => whnf); first
      | refine look.call (f40_at dv ov d hn hj) [] (show 2 + j < 18 by omega) ?_ | refine snapC (o := 2 + j) (b := (d.bs j).2) (hd_at dv ov d hj) hm ?_)
    all_goals (conv => whnf)
    exact ⟨rfl, rfl⟩
  · rw [if_neg h]
    have hno : ¬ (0 < d.n ∧ 0 ≤ i ∧ i < 16) := fun g => h g.2
    repeat' ((conv => whnf); first
      | refine look.call (f40_no dv ov d hno) [] trivial ?_ | refine Pure.call (f41_nil) ?_)
    all_goals (conv => whnf)
    exact ⟨rfl, rfl⟩
theorem f26_at (dv ov : Nat) {d : Dst} (hd : InvD d) (i : Int) : Look 26 [.int .i64 i] dv ov d (.tup [.int .i64 (comingD d i).1, .int .i64 (comingD d i).2]) := by
  refine look ⟨trivial, trivial⟩ ?_
  refine Go.A.CallsIn.of_exec tab_ok mixed Try.func26 rfl rfl [] bxD ?_
  rw [comingD]
  by_cases h : isNode i
  · rw [if_pos h]
    obtain ⟨j, rfl⟩ := Int.eq_ofNat_of_zero_le h.1
    have hj : j < 16 := by have := h.2; omega
    have hn : 0 < d.n := hd.n.1
    have hm := hd.made hj
    repeat' ((conv => whnf); first
      | refine look.call (f40_at dv ov d hn hj) [] (show 2 + j < 18 by omega) ?_ | refine comingC (o := 2 + j) (b := (d.bs j).2) (hd_at dv ov d hj) hm ?_)
    all_goals (conv => whnf)
    exact ⟨rfl, rfl⟩
  · rw [if_neg h]
    have hno : ¬ (0 < d.n ∧ 0 ≤ i ∧ i < 16) := fun g => h g.2
    repeat' ((conv => whnf); first
      | refine look.call (f40_no dv ov d hno) [] trivial ?_ | refine Pure.call (f53_nil) ?_)
    all_goals (conv => whnf)
    exact ⟨rfl, rfl⟩

def syncD (d : Dst) (i : Int) : Dst := if isNode i then setB d i.toNat (syncB (d.bs i.toNat).2) else d
def syncR (d : Dst) (i : Int) : Int := if isNode i then (d.bs i.toNat).2.now.count else 0
theorem f28_at (dv ov : Nat) {d : Dst} (hd : InvD d) (i : Int) : TurnD 28 [.int .i64 i] dv ov d (.int .i64 (syncR d i)) (syncD d i) := by
  refine turnD ⟨trivial, trivial⟩ ?_
  refine Go.A.CallsIn.of_exec tab_ok mixed Try.func28 rfl rfl [] bxD ?_
  rw [syncD, syncR]
  by_cases h : isNode i
  · rw [if_pos h, if_pos h]
    obtain ⟨j, rfl⟩ := Int.eq_ofNat_of_zero_le h.1
    have hj : j < 16 := by have := h.2; omega
    have hn : 0 < d.n := hd.n.1
    have hm := hd.made hj
    repeat' ((conv => whnf); first
      | refine look.call (f40_at dv ov d hn hj) [] (show 2 + j < 18 by omega) ?_)
    all_goals (conv => whnf)
    refine Turns1.call (f55_at (d.bs j).2 (d.bs j).1) (2 + j) (hd_at dv ov d hj) (fun _ => setK_iff.mpr ?_)
    rw [hm, if_pos rfl]
    have e := hd_set dv ov d hj (syncB (d.bs j).2)
    obtain ⟨Z, hZ⟩ : ∃ Z, Z = HD dv ov (setB d j (syncB (d.bs j).2)) := ⟨_, rfl⟩
    rw [← hZ] at e
    rw [show List.set _ (2 + j) _ = Z from e]
    (conv => whnf)
    exact ⟨rfl, hZ⟩
  · rw [if_neg h, if_neg h]
    have hno : ¬ (0 < d.n ∧ 0 ≤ i ∧ i < 16) := fun g => h g.2
    repeat' ((conv => whnf); first
      | refine look.call (f40_no dv ov d hno) [] trivial ?_ | refine Pure.call (f55_nil) ?_)
    all_goals (conv => whnf)
    exact ⟨rfl, rfl⟩

def takeD (d : Dst) (i k : Int) (r : T43) : Dst × Int :=
  if ¬ isNode i then (d, 9) else if d.id = 0 then (d, 11) else if r.kind_ = 1 ∧ r.snap_ ≠ d.id then (d, 1)
  else (setB d i.toNat (takeM (d.bs i.toNat).2 k r).1, (takeM (d.bs i.toNat).2 k r).2)
theorem f16_at (dv ov : Nat) {d : Dst} (hd : InvD d) (i k : Int) (r : T43) (hr : r.data_.length ≤ 140737488351232) : TurnD 16 [.int .i64 i, .int .i64 k, d44 r] dv ov d (.int .i64 (takeD d i k r).2) (takeD d i k r).1 := by
  refine turnD ⟨trivial, trivial, scd44 _ _, trivial⟩ ?_
  refine Go.A.CallsIn.of_exec tab_ok mixed Try.func16 rfl rfl [] bxD ?_
  have hn : 0 < d.n := hd.n.1
  have h34 := f34_at dv ov d
  rw [decide_eq_true hn] at h34
  rw [takeD]
  by_cases h : isNode i
  case neg =>
    rw [if_pos h]
    have hno : ¬ (0 < d.n ∧ 0 ≤ i ∧ i < 16) := fun g => h g.2
    repeat' ((conv => whnf); first
      | refine look.call (f40_no dv ov d hno) [] trivial ?_ | refine look.call h34 [] trivial ?_)
    all_goals (conv => whnf)
    exact ⟨rfl, rfl⟩
  rw [if_neg (fun g => g h)]
  obtain ⟨j, rfl⟩ := Int.eq_ofNat_of_zero_le h.1
  have hj : j < 16 := by have := h.2; omega
  by_cases h1 : d.id = 0
  · rw [if_pos h1]
    repeat' ((conv => whnf); first
      | refine look.call (f40_at dv ov d hn hj) [] (show 2 + j < 18 by omega) ?_ | refine look.call h34 [] trivial ?_ | refine objK_of (hd_at dv ov d hj) ?_ | refine And.intro (by decide) ?_ | refine And.intro rfl ?_ | refine And.intro (Nat.le_of_ble_eq_true rfl) ?_ | refine boolF_dect (by assumption) ?_)
    all_goals (conv => whnf)
    exact ⟨rfl, rfl⟩
  rw [if_neg h1]
  by_cases h2 : r.kind_ = 1 ∧ r.snap_ ≠ d.id
  · rw [if_pos h2]
    obtain ⟨h2, h3⟩ := h2
    repeat' ((conv => whnf); first
      | refine PairK.mk (by kernel_rfl) ?_ | refine look.call (f40_at dv ov d hn hj) [] (show 2 + j < 18 by omega) ?_ | refine look.call h34 [] trivial ?_ | refine objK_of (hd_at dv ov d hj) ?_ | refine And.intro (by decide) ?_ | refine And.intro rfl ?_ | refine And.intro (Nat.le_of_ble_eq_true rfl) ?_ | refine boolF_not ?_ | refine boolF_dect (by assumption) ?_ | refine boolF_decf (by assumption) ?_)
    all_goals (conv => whnf)
    exact ⟨rfl, rfl⟩
  rw [if_neg h2, Int.toNat_natCast]
  have h43 := f43_at (d.bs j).2 k r (d.bs j).1 (hd.b j hj).ok hr
  have e := hd_set dv ov d hj (takeM (d.bs j).2 k r).1
  obtain ⟨Z, hZ⟩ : ∃ Z, Z = HD dv ov (setB d j (takeM (d.bs j).2 k r).1) := ⟨_, rfl⟩
  rw [← hZ] at e ⊢
  obtain ⟨T, hT⟩ : ∃ T, T = takeM (d.bs j).2 k r := ⟨_, rfl⟩
  rw [← hT] at h43 e ⊢
  by_cases h3 : r.kind_ = 1
  · have h4 : r.snap_ = d.id := Classical.byContradiction fun g => h2 ⟨h3, g⟩
    repeat' ((conv => whnf); first
      | refine PairK.mk (by kernel_rfl) ?_ | refine look.call (f40_at dv ov d hn hj) [] (show 2 + j < 18 by omega) ?_ | refine look.call h34 [] trivial ?_ | refine objK_of (hd_at dv ov d hj) ?_ | refine And.intro (by decide) ?_ | refine And.intro rfl ?_ | refine And.intro (Nat.le_of_ble_eq_true rfl) ?_ | refine boolF_not ?_ | refine boolF_dect (by assumption) ?_ | refine boolF_decf (by assumption) ?_)
    all_goals (conv => whnf)
    refine Turns1.call h43 (2 + j) (hd_at dv ov d hj) (fun _ => setK_iff.mpr ?_)
    rw [show List.set _ (2 + j) _ = Z from e]
    (conv => whnf)
    exact ⟨rfl, rfl⟩
  · repeat' ((conv => whnf); first
      | refine PairK.mk (by kernel_rfl) ?_ | refine look.call (f40_at dv ov d hn hj) [] (show 2 + j < 18 by omega) ?_ | refine look.call h34 [] trivial ?_ | refine objK_of (hd_at dv ov d hj) ?_ | refine And.intro (by decide) ?_ | refine And.intro rfl ?_ | refine And.intro (Nat.le_of_ble_eq_true rfl) ?_ | refine boolF_decf (by assumption) ?_)
    all_goals (conv => whnf)
    refine Turns1.call h43 (2 + j) (hd_at dv ov d hj) (fun _ => setK_iff.mpr ?_)
    rw [show List.set _ (2 + j) _ = Z from e]
    (conv => whnf)
    exact ⟨rfl, rfl⟩

end Go.Proofs.Ytgigpjkdfhhahaa


namespace Go.Proofs.Ytgigpjkdfhhahaa
open Go.A
set_option linter.unusedVariables false
set_option linter.unusedSimpArgs false
set_option linter.unnecessarySimpa false
attribute [local irreducible] IntKind.wrap bitsI
open B L M
set_option maxRecDepth 100000
set_option maxHeartbeats 4000000

/-- The first i berths done to. -/
def eachD (F : Bt → Bt) (i : Nat) (d : Dst) : Dst := { d with bs := fun j => if j < i then ((d.bs j).1, F (d.bs j).2) else d.bs j }
theorem each_zero (F : Bt → Bt) (d : Dst) : eachD F 0 d = d := by
  obtain ⟨n, v, id, mv, mn, mp, bs, out⟩ := d
  unfold eachD
  simp
theorem each_succ (F : Bt → Bt) (d : Dst) (i : Nat) : setB (eachD F i d) i (F (d.bs i).2) = eachD F (i + 1) d := by
  obtain ⟨n, v, id, mv, mn, mp, bs, out⟩ := d
  unfold eachD setB upd
  dsimp only
  congr 1
  funext j
  by_cases h : j = i
  · subst h; simp
  · rw [if_neg h]
    by_cases h1 : j < i
    · rw [if_pos h1, if_pos (by omega)]
    · rw [if_neg h1, if_neg (by omega)]
theorem each_at (F : Bt → Bt) (d : Dst) (i : Nat) : (eachD F i d).bs i = d.bs i := by
  simp [eachD]
theorem each_ptrs (F : Bt → Bt) (d : Dst) (i : Nat) (k : Nat) : ptrs k (eachD F i d).bs = ptrs k d.bs := by
  refine List.map_congr_left fun j _ => ?_
  show D.p (k + j) (if j < i then ((d.bs j).1, F (d.bs j).2) else d.bs j).1 0 0 = _
  split <;> rfl

theorem f49_at (g : FuncId) (F : Bt → Bt) (hg : ∀ b ver, Turns1 Try.prog g (fun k => [.p k ver 0 0]) (oB ver b) (fun _ _ => .tup []) (fun _ => oB ver (F b))) (dv ov : Nat) (d : Dst) :
    TurnD 49 [.fn g []] dv ov d (.tup []) (eachD F 16 d) := by
  refine turnD ⟨trivial, trivial⟩ ?_
  refine Go.A.CallsIn.of_exec tab_ok mixed Try.func49 rfl rfl [] bxD ?_
  repeat' ((conv => whnf); first
    | refine Exists.intro _ (And.intro (⟨(len_ptrs _ _).symm⟩) ?_) | refine And.intro (by decide) ?_ | refine And.intro rfl ?_ | refine And.intro (Nat.le_of_ble_eq_true rfl) ?_)
  all_goals (conv => whnf)
  refine W_loopG (ι := Nat) (fun i => ⟨(D.undef :: .fn g [] :: D.undef :: D.undef :: D.undef :: D.undef :: D.undef :: D.undef :: D.undef :: .sl (ptrs 2 d.bs) :: .int .i64 16 :: .int .i64 (i : Int) :: D.undef :: D.undef :: D.undef :: D.undef :: D.undef :: D.undef :: D.undef :: []), HD dv ov (eachD F i d)⟩) (fun i => 16 - i) (fun i => i ≤ 16) 0 (Ghost.hold [1, 9, 10, 11] (by rw [each_zero]; rfl)) (Nat.zero_le _) ?_
  rintro i h1
  refine exec_ok tab_ok mixed 1000 (bx := bxD) (own := []) ?_
  rcases Nat.lt_or_ge i 16 with hi | hi
  · repeat' ((conv => whnf); first
      | refine Exists.intro _ (And.intro (ptr_at _ _ rfl hi) ?_) | refine And.intro rfl ?_ | refine And.intro (by omega) ?_ | refine boolF_dect (by omega) ?_)
    all_goals (conv => whnf)
    refine Turns1.call (hg (d.bs i).2 (d.bs i).1) (2 + i) (by rw [hd_at _ _ _ hi, oj, each_at]) (fun _ => setK_iff.mpr ?_)
    have e := hd_set dv ov (eachD F i d) hi (F (d.bs i).2)
    rw [each_at, each_succ] at e
    obtain ⟨Z, hZ⟩ : ∃ Z, Z = HD dv ov (eachD F (i + 1) d) := ⟨_, rfl⟩
    rw [← hZ] at e
    rw [show List.set _ (2 + i) _ = Z from e]
    repeat' ((conv => whnf); first
      | refine Exists.intro _ (And.intro (w64 (by omega) (by omega)) ?_))
    all_goals (conv => whnf)
    exact ⟨i + 1, Ghost.hold [1, 9, 10, 11] (by rw [hZ]; rfl), hi, by omega⟩
  · obtain rfl : i = 16 := by omega
    (conv => whnf)
    exact ⟨rfl, rfl⟩

def crashD (d : Dst) : Dst := eachD crashB 16 d
def dropD (d : Dst) : Dst := eachD dropB 16 d
theorem f27_at (dv ov : Nat) {d : Dst} (hd : InvD d) : TurnD 27 [] dv ov d (.tup []) (crashD d) := by
  refine turnD trivial ?_
  have h34 := f34_at dv ov d
  rw [decide_eq_true (show 0 < d.n from hd.n.1)] at h34
  refine Go.A.CallsIn.of_exec tab_ok mixed Try.func27 rfl rfl [] bxD ?_
  repeat' ((conv => whnf); first
    | refine look.call h34 [] trivial ?_)
  all_goals (conv => whnf)
  refine TurnD.call (f49_at 54 crashB f54_at dv ov d) [] trivial ?_
  (conv => whnf)
  exact ⟨rfl, rfl⟩

def cancelD (d : Dst) : Dst × Int := if d.id = 0 then (d, 11) else (dropD { d with id := 0 }, 0)
theorem f23_at (dv ov : Nat) {d : Dst} (hd : InvD d) : TurnD 23 [] dv ov d (.int .i64 (cancelD d).2) (cancelD d).1 := by
  refine turnD trivial ?_
  have h39 := f39_at dv ov d
  rw [if_pos (show 0 < d.n from hd.n.1)] at h39
  rw [cancelD]
  refine Go.A.CallsIn.of_exec tab_ok mixed Try.func23 rfl rfl [] bxD ?_
  by_cases h1 : d.id = 0
  · rw [if_pos h1] at h39 ⊢
    repeat' ((conv => whnf); first
      | refine look.call h39 [] trivial ?_)
    all_goals (conv => whnf)
    exact ⟨rfl, rfl⟩
  · rw [if_neg h1] at h39 ⊢
    repeat' ((conv => whnf); first
      | refine look.call h39 [] trivial ?_ | refine And.intro (by decide) ?_ | refine And.intro rfl ?_ | refine And.intro (Nat.le_of_ble_eq_true rfl) ?_)
    all_goals (conv => whnf)
    refine TurnD.call (f49_at 50 dropB f50_at dv ov { d with id := 0 }) [] trivial ?_
    (conv => whnf)
    exact ⟨rfl, rfl⟩

end Go.Proofs.Ytgigpjkdfhhahaa


namespace Go.Proofs.Ytgigpjkdfhhahaa
open Go.A
set_option linter.unusedVariables false
set_option linter.unusedSimpArgs false
set_option linter.unnecessarySimpa false
attribute [local irreducible] IntKind.wrap bitsI
open B L M
set_option maxRecDepth 100000
set_option maxHeartbeats 4000000

theorem f58_ok (x : Out) (id : Int) : Pure Try.prog 58 [rO x, .pe [.int .i64 id]] (.bool (decide (x.id = id))) := by
  refine Pure.of ⟨⟨trivial, scd35 _ _, trivial⟩, ⟨trivial, trivial⟩, trivial⟩ trivial ?_
  refine Go.A.CallsIn.of_exec tab_ok mixed Try.func58 rfl rfl [] [] ?_
  (conv => whnf)
  exact ⟨rfl⟩
theorem f52_ok (x : Out) (id : Int) : Pure Try.prog 52 [rO x, .pe [.int .i64 id]] (.bool (decide (x.id = id))) := by
  refine Pure.of ⟨⟨trivial, scd35 _ _, trivial⟩, ⟨trivial, trivial⟩, trivial⟩ trivial ?_
  refine Go.A.CallsIn.of_exec tab_ok mixed Try.func52 rfl rfl [] [] ?_
  (conv => whnf)
  exact ⟨rfl⟩

/-- Where a number is told first. -/
def ixO (id : Int) (k : Int) : List Out → Int
  | [] => -1
  | x :: l => if x.id = id then k else ixO id (k + 1) l
theorem ixO_at (id : Int) : ∀ (l : List Out) (k : Nat), (ixO id k l = -1 ∧ ∀ x ∈ l, x.id ≠ id) ∨ ∃ i x, ixO id k l = ((k + i : Nat) : Int) ∧ l[i]? = some x ∧ x.id = id ∧ ∀ y ∈ l.take i, y.id ≠ id
  | [], _ => .inl ⟨rfl, fun x h => by cases h⟩
  | x :: l, k => by
    by_cases h : x.id = id
    · exact .inr ⟨0, x, by rw [ixO, if_pos h]; rfl, rfl, h, fun y hy => by simp at hy⟩
    · rcases ixO_at id l (k + 1) with ⟨h1, h2⟩ | ⟨i, y, h1, h2, h3, h4⟩
      · refine .inl ⟨by rw [ixO, if_neg h]; exact h1, fun z hz => ?_⟩
        rcases List.mem_cons.mp hz with rfl | hz
        · exact h
        · exact h2 z hz
      · refine .inr ⟨i + 1, y, ?_, by simpa using h2, h3, fun z hz => ?_⟩
        · rw [ixO, if_neg h]
          rw [show ((k : Int) + 1) = ((k + 1 : Nat) : Int) from rfl, h1]
          congr 1; omega
        · rw [List.take_succ_cons] at hz
          rcases List.mem_cons.mp hz with rfl | hz
          · exact h
          · exact h4 z hz

theorem f57_ok (g : FuncId) (id : Int) (hg : ∀ x : Out, Pure Try.prog g [rO x, .pe [.int .i64 id]] (.bool (decide (x.id = id)))) (l : List Out) (hl : l.length ≤ 1000000) :
    Pure Try.prog 57 [.sl (l.map rO), .fn g [.pe [.int .i64 id]]] (.int .i64 (ixO id 0 l)) := by
  refine Pure.of ⟨scrO _ _, ⟨⟨trivial, trivial⟩, trivial⟩, trivial⟩ trivial ?_
  refine Go.A.CallsIn.of_exec tab_ok mixed Try.func57 rfl rfl [] [] ?_
  repeat' ((conv => whnf); first
    | refine Exists.intro _ (And.intro (⟨(List.length_map _).symm⟩) ?_))
  all_goals (conv => whnf)
  refine W_loopG (ι := Nat) (fun i => ⟨(.sl (l.map rO) :: .fn g [.pe [.int .i64 id]] :: D.undef :: D.undef :: D.undef :: D.undef :: D.undef :: .int .i64 (l.length : Int) :: .int .i64 (i : Int) :: D.undef :: D.undef :: D.undef :: D.undef :: D.undef :: D.undef :: D.undef :: D.undef :: D.undef :: D.undef :: []), []⟩) (fun i => l.length - i)
    (fun i => i ≤ l.length ∧ ixO id i (l.drop i) = ixO id 0 l) 0 (Ghost.hold [0, 1, 7, 8] rfl) ⟨Nat.zero_le _, rfl⟩ ?_
  rintro i ⟨h1, h2⟩
  refine exec_ok tab_ok mixed 1000 (bx := []) (own := []) ?_
  rcases Nat.lt_or_ge i l.length with h | h
  · obtain ⟨x, hx⟩ := at_lt h
    have hgx := hg x
    rw [drop_of_get hx, ixO] at h2
    repeat' ((conv => whnf); first
      | refine Exists.intro _ (And.intro (map_at (by omega) hx) ?_) | refine And.intro rfl ?_ | refine And.intro (by omega) ?_ | refine Exists.intro _ (And.intro (w64 (by omega) (by omega)) ?_) | refine Pure.call (hgx) ?_ | refine boolF_dect (by omega) ?_ | refine boolF_dec (fun _ => ?_) (fun _ => ?_))
    all_goals (conv => whnf)
    · rw [if_pos (by assumption)] at h2
      rw [← h2]
      exact ⟨rfl⟩
    · rw [if_neg (by assumption)] at h2
      exact ⟨i + 1, Ghost.hold [0, 1, 7, 8] rfl, ⟨by omega, h2⟩, by omega⟩
  · rw [List.drop_of_length_le h, ixO] at h2
    rw [← h2]
    repeat' ((conv => whnf); first
      | refine boolF_decf (by omega) ?_)
    all_goals (conv => whnf)
    exact ⟨rfl⟩

/-- Without a number. -/
def delO (id : Int) (l : List Out) : List Out := l.filter fun x => decide (x.id ≠ id)
theorem delO_snoc {id : Int} {l : List Out} {j : Nat} {x : Out} (h : l[j]? = some x) : delO id (l.take (j + 1)) = if x.id = id then delO id (l.take j) else delO id (l.take j) ++ [x] := by
  rw [take_snoc h, delO, List.filter_append]
  by_cases hx : x.id = id
  · rw [if_pos hx, List.filter_cons_of_neg (by simp [hx]), List.filter_nil, List.append_nil]; rfl
  · rw [if_neg hx, List.filter_cons_of_pos (by simp [hx]), List.filter_nil]; rfl
theorem delO_none {id : Int} {l : List Out} (h : ∀ y ∈ l, y.id ≠ id) : delO id l = l := List.filter_eq_self.mpr fun y hy => by simp [h y hy]
theorem rowO_at {A l : List Out} {m j : Nat} (hm : m = A.length) (hj : m ≤ j) {x : Out} (hx : l[j]? = some x) : (A ++ l.drop m)[j]? = some x := by
  rw [List.getElem?_append_right (by omega), List.getElem?_drop, show m + (j - A.length) = j by omega, hx]
theorem rowO_set {A l : List Out} {m : Nat} {x : Out} (hm : m = A.length) (hl : m < l.length) : (A ++ l.drop m).set m x = (A ++ [x]) ++ l.drop (m + 1) := by
  rw [List.set_append_right _ _ (by omega), hm, Nat.sub_self, List.drop_eq_getElem_cons (by omega), List.set_cons_zero, List.append_assoc]
  rfl
theorem rowO_len {A l : List Out} {m : Nat} (hm : m = A.length) (hl : m ≤ l.length) : (A ++ l.drop m).length = l.length := by
  rw [List.length_append, List.length_drop]; omega

theorem f51_own (id : Int) (ov : Nat) (l : List Out) (hl : l.length ≤ 1000000) (hi : ∃ x ∈ l, x.id = id) : Go.A.CallsIn Try.prog 51 [.h 0 ov 0 l.length, .fn 52 [.pe [.int .i64 id]]] [oO ov l] fun r H' => r = .h 0 (ov + 1) 0 (delO id l).length ∧ H' = [oO (ov + 1) (delO id l)] := by
  have h57 := f57_ok 52 id (fun x => f52_ok x id) l hl
  obtain ⟨i, x0, h1, h2, h3, h4⟩ : ∃ i x, ixO id 0 l = ((i : Nat) : Int) ∧ l[i]? = some x ∧ x.id = id ∧ ∀ y ∈ l.take i, y.id ≠ id := by
    rcases ixO_at id l 0 with ⟨_, g⟩ | ⟨i, x, g1, g2, g3, g4⟩
    · obtain ⟨x, hx, e⟩ := hi
      exact absurd e (g x hx)
    · exact ⟨i, x, by rw [show ((0 : Nat) : Int) = 0 from rfl] at g1; rw [g1]; congr 1; omega, g2, g3, g4⟩
  rw [h1] at h57
  have hil := (List.getElem?_eq_some_iff.mp h2).1
  have hz := delO_snoc (id := id) h2
  rw [if_pos h3, delO_none h4] at hz
  refine (Go.A.CallsIn.of_exec tab_ok mixed Try.func51 rfl rfl [] [false] ?_ : Go.A.CallsIn Try.prog 51 [.h 0 ov 0 l.length, .fn 52 [.pe [.int .i64 id]]] [oO ov l] fun r H' => ∃ r'' H'', Ghost 1 [r] H' [r''] H'' ∧ r'' = .h 0 (ov + 1) 0 (delO id l).length ∧ H'' = [oO (ov + 1) (delO id l)]).ghost
  (conv => whnf)
  refine Pure.seeK h57 [(0, oO ov l)] (fact1 rfl) (.cons (.h mem0 (.all (scrO _ _)) (all_take rfl)) (.cons (.same ⟨⟨trivial, trivial⟩, trivial⟩) .nil)) trivial trivial ?_
  repeat' ((conv => whnf); first
    | refine Exists.intro _ (And.intro (w64 (by omega) (by omega)) ?_))
  all_goals (conv => whnf)
  refine W_loopG (ι := Nat) (fun j => ⟨(.h 0 ov 0 l.length :: .fn 52 [.pe [.int .i64 id]] :: D.undef :: D.undef :: D.undef :: .int .i64 ((delO id (l.take j)).length : Int) :: .int .i64 (j : Int) :: D.undef :: D.undef :: D.undef :: D.undef :: D.undef :: D.undef :: D.undef :: D.undef :: D.undef :: D.undef :: D.undef :: D.undef :: D.undef :: D.undef :: D.undef :: D.undef :: D.undef :: D.undef :: D.undef :: D.undef :: D.undef :: D.undef :: D.undef :: D.undef :: D.undef :: D.undef :: D.undef :: D.undef :: D.undef :: D.undef :: D.undef :: D.undef :: D.undef :: D.undef :: D.undef :: []), [oO ov (delO id (l.take j) ++ l.drop (delO id (l.take j)).length)]⟩) (fun j => l.length - j)
    (fun j => j ≤ l.length ∧ (delO id (l.take j)).length + 1 ≤ j) (i + 1) (Ghost.hold [0, 1, 5, 6] ?_) ⟨hil, by rw [hz, List.length_take]; omega⟩ ?_
  · dsimp only
    rw [hz, List.length_take, Nat.min_eq_left (by omega), List.take_append_drop]
    rfl
  rintro j ⟨j1, j2⟩
  dsimp only at j1 j2 ⊢
  obtain ⟨m, hm⟩ : ∃ m, m = (delO id (l.take j)).length := ⟨_, rfl⟩
  have hrl := rowO_len (A := delO id (l.take j)) (l := l) hm (by omega)
  have hrow := fun k (hk : m ≤ k) {x : Out} (hx : l[k]? = some x) => rowO_at (A := delO id (l.take j)) (l := l) hm hk hx
  have hrset := fun x (hl : m < l.length) => rowO_set (A := delO id (l.take j)) (l := l) (x := x) hm hl
  have hnext := fun x (hx : l[j]? = some x) => delO_snoc (id := id) hx
  rw [← hm] at j2 ⊢
  refine exec_ok tab_ok mixed 1000 (bx := [false]) (own := []) ?_
  rcases Nat.lt_or_ge j l.length with hj | hj
  · obtain ⟨x, hx⟩ := at_lt hj
    have hx' := hrow j (by omega) hx
    have hnx := hnext x hx
    have hgx := f52_ok x id
    generalize hA : delO id (l.take j) = A at hrl hrow hrset hnx hm hx' ⊢
    by_cases hxi : x.id = id
    · rw [if_pos hxi] at hnx
      repeat' ((conv => whnf); first
        | refine Exists.intro _ (And.intro (map_at (by omega) hx') ?_) | refine And.intro (by rw [List.length_map, hrl]; omega) ?_ | refine And.intro (by decide) ?_ | refine And.intro rfl ?_ | refine And.intro (by omega) ?_ | refine Exists.intro _ (And.intro (w64 (by omega) (by omega)) ?_) | refine Pure.call (hgx) ?_ | refine boolF_not ?_ | refine boolF_dect (by assumption) ?_ | refine boolF_dect (by omega) ?_)
      all_goals (conv => whnf)
      refine ⟨j + 1, Ghost.back [0, 1, 5, 6] 1 ?_ ?_ (Nat.le_refl _) (by simp [scs, D.sc]) (fun ob hob => ?_), ⟨by omega, by rw [hnx]; omega⟩, by omega⟩
      · rw [hnx, ← hm]; rfl
      · rw [hnx, ← hm]; rfl
      · simp only [List.mem_singleton] at hob; subst hob; exact scrO _ _
    · rw [if_neg hxi] at hnx
      have hmj : m < l.length := by omega
      obtain ⟨y, hy⟩ := at_lt hmj
      have hy' := hrow m (Nat.le_refl _) hy
      repeat' ((conv => whnf); first
        | refine Exists.intro _ (And.intro (map_at (by omega) hx') ?_) | refine Exists.intro _ (And.intro (map_at (by omega) hy') ?_) | refine And.intro (by rw [List.length_map, hrl]; omega) ?_ | refine And.intro (by decide) ?_ | refine And.intro rfl ?_ | refine And.intro (by omega) ?_ | refine Exists.intro _ (And.intro (w64 (by omega) (by omega)) ?_) | refine Pure.call (hgx) ?_ | refine boolF_not ?_ | refine boolF_decf (by assumption) ?_ | refine boolF_dect (by omega) ?_)
      all_goals (conv => whnf)
      have er : ∀ (bb : Bool) (l : List D) (d : D), setRow bb l (0 + (m : Int).toNat) d = l.set m d := fun bb l d => by rw [setRow_eq]; congr 1; omega
      refine ⟨j + 1, Ghost.back [0, 1, 5, 6] 1 ?_ ?_ (Nat.le_refl _) (by simp [scs, D.sc]) (fun ob hob => ?_), ⟨by omega, by rw [hnx, List.length_append, List.length_singleton]; omega⟩, by omega⟩
      · rw [hnx, List.length_append, List.length_singleton, ← hm]; rfl
      · rw [hnx, List.length_append, List.length_singleton, ← hm, ← hrset x hmj]
        rw [show (oO ov ((A ++ l.drop m).set m x)) = .arr ov 2 (((A ++ l.drop m).map rO).set m (rO x)) by rw [oO, List.map_set], ← er false]
        rfl
      · simp only [List.mem_singleton] at hob; subst hob; exact scrO _ _
  · have hjn : j = l.length := by omega
    have hcA : delO id (l.take j) = delO id l := by rw [hjn, List.take_length]
    rw [hcA] at hm hrl ⊢
    have hml : m ≤ l.length := by omega
    repeat' ((conv => whnf); first
      | refine And.intro (by decide) ?_ | refine And.intro rfl ?_ | refine Exists.intro _ (And.intro (⟨Eq.refl (α := Int) _⟩) (And.intro (by omega) ?_)) | refine Exists.intro _ (Exists.intro _ (And.intro (⟨Eq.refl (α := Nat) _⟩) (And.intro (⟨Eq.refl (α := Nat) _⟩) ?_))) | refine boolF_decf (by omega) ?_)
    all_goals (conv => whnf)
    refine ⟨⟨_, _, Ghost.trim (o := 0) (t := 0) rfl rfl, ?_, ?_⟩⟩
    · rw [← hm]; rfl
    · have e4 : ∀ x : List D, (spliceL ((delO id l ++ l.drop m).map rO) (0 + m) x).take m = (delO id l).map rO := fun x => by
        unfold spliceL
        rw [Nat.zero_add, List.append_assoc, List.take_append_of_le_length (by rw [List.length_take, List.length_map, hrl]; omega), List.take_take, Nat.min_self, List.map_append, List.take_append_of_le_length (by rw [List.length_map]; omega), List.take_of_length_le (by rw [List.length_map]; omega)]
      rw [oO, ← e4]
      rfl

end Go.Proofs.Ytgigpjkdfhhahaa


namespace Go.Proofs.Ytgigpjkdfhhahaa
open Go.A
set_option linter.unusedVariables false
set_option linter.unusedSimpArgs false
set_option linter.unnecessarySimpa false
attribute [local irreducible] IntKind.wrap bitsI
open B L M
set_option maxRecDepth 100000
set_option maxHeartbeats 4000000

def findD (d : Dst) (id : Int) : Int × Int := if ixO id 0 d.out < 0 then (0, 9) else (ixO id 0 d.out, 0)
theorem f33_at (dv ov : Nat) {d : Dst} (hd : InvD d) (id : Int) : Look 33 [.int .i64 id] dv ov d (.tup [.int .i64 (findD d id).1, .int .i64 (findD d id).2]) := by
  refine look ⟨trivial, trivial⟩ ?_
  have h34 := f34_at dv ov d
  rw [decide_eq_true (show 0 < d.n from hd.n.1)] at h34
  have h57 := f57_ok 58 id (fun x => f58_ok x id) d.out (by have := hd.out; omega)
  rw [findD]
  obtain ⟨i, hi⟩ : ∃ i, i = ixO id 0 d.out := ⟨_, rfl⟩
  rw [← hi] at h57 ⊢
  refine Go.A.CallsIn.of_exec tab_ok mixed Try.func33 rfl rfl [] bxD ?_
  by_cases h : i < 0
  · rw [if_pos h]
    repeat' ((conv => whnf); first
      | refine look.call h34 [] trivial ?_ | refine Pure.seeK h57 [(1, oO ov d.out)] (fact1 rfl) (.cons (.h mem0 (.all (scrO _ _)) (all_take rfl)) (.cons (.same ⟨⟨trivial, trivial⟩, trivial⟩) .nil)) trivial trivial ?_ | refine And.intro (by decide) ?_ | refine And.intro rfl ?_ | refine And.intro (Nat.le_of_ble_eq_true rfl) ?_ | refine boolF_dect (by assumption) ?_)
    all_goals (conv => whnf)
    exact ⟨rfl, rfl⟩
  · rw [if_neg h]
    repeat' ((conv => whnf); first
      | refine look.call h34 [] trivial ?_ | refine Pure.seeK h57 [(1, oO ov d.out)] (fact1 rfl) (.cons (.h mem0 (.all (scrO _ _)) (all_take rfl)) (.cons (.same ⟨⟨trivial, trivial⟩, trivial⟩) .nil)) trivial trivial ?_ | refine And.intro (by decide) ?_ | refine And.intro rfl ?_ | refine And.intro (Nat.le_of_ble_eq_true rfl) ?_ | refine boolF_decf (by assumption) ?_)
    all_goals (conv => whnf)
    exact ⟨rfl, rfl⟩
theorem find_no {d : Dst} {id : Int} (h : (findD d id).2 ≠ 0) : (findD d id).2 = 9 ∧ ∀ x ∈ d.out, x.id ≠ id := by
  unfold findD at h ⊢
  split at h
  · rename_i g
    rw [if_pos g]
    refine ⟨rfl, ?_⟩
    rcases ixO_at id d.out 0 with ⟨_, h2⟩ | ⟨i, x, h1, _⟩
    · exact h2
    · rw [show ((0 : Nat) : Int) = 0 from rfl] at h1; omega
  · exact absurd rfl h
theorem find_yes {d : Dst} {id : Int} (h : ∃ x ∈ d.out, x.id = id) : ∃ (i : Nat) (x : Out), findD d id = ((i : Int), 0) ∧ d.out[i]? = some x ∧ x.id = id := by
  rcases ixO_at id d.out 0 with ⟨_, h2⟩ | ⟨i, x, h1, h2, h3, _⟩
  · obtain ⟨x, hx, e⟩ := h
    exact absurd e (h2 x hx)
  · rw [show ((0 : Nat) : Int) = 0 from rfl, Nat.zero_add] at h1
    exact ⟨i, x, by rw [findD, h1, if_neg (by omega)], h2, h3⟩
theorem find_not {d : Dst} {id : Int} (h : ∀ x ∈ d.out, x.id ≠ id) : findD d id = (0, 9) := by
  rcases ixO_at id d.out 0 with ⟨h1, _⟩ | ⟨i, x, h1, h2, h3, _⟩
  · rw [show ((0 : Nat) : Int) = 0 from rfl] at h1
    rw [findD, h1, if_pos (by decide)]
  · exact absurd h3 (h x (List.mem_of_getElem? h2))

/-- A method that turns a destination, what is published as well. -/
abbrev TurnV (f : FuncId) (xs : List D) (dv ov : Nat) (d : Dst) (r : D) (d' : Dst) : Prop := Go.A.CallsIn Try.prog f (.p 0 dv 0 0 :: xs) (HD dv ov d) fun r' H' => ∃ ov', r' = r ∧ H' = HD dv ov' d'
theorem turnV.call {f : FuncId} {xs : List D} {dv ov : Nat} {d d' : Dst} {r : D} (h : TurnV f xs dv ov d r d') (F : List AObj) (hx : scs 18 xs) (hr : r.sc 18) {K : D → List AObj → Prop} (hk : ∀ ov', K r (HD dv ov' d' ++ F)) : Go.A.CallsIn Try.prog f (.p 0 dv 0 0 :: xs) (HD dv ov d ++ F) K := by
  refine callsSelf h F ⟨Nat.zero_lt_succ _, hx⟩ (scHD _ _ _) ?_
  rintro r0 H0 ⟨ov', rfl, rfl⟩ _
  have e1 : ∀ k, (HD dv ov' d').map (renO (ixOf (List.range (HD dv ov d).length) k)) = HD dv ov' d' := fun k => (List.map_congr_left fun ob hob => renO_fix (fun i hi => ixOf_range hi) (scHD dv ov' d' ob hob)).trans (List.map_id _)
  rw [ren_fix (k := (HD dv ov d).length) (fun i hi => ixOf_range hi) _ hr, e1, place_self (show (HD dv ov' d').length = (HD dv ov d).length from rfl)]
  exact hk ov'
theorem place_more {Hl Hl' F G : List AObj} (h : Hl'.length = Hl.length) : place (List.range Hl.length) (Hl ++ F) (Hl' ++ G) = Hl' ++ F ++ G := by
  have e := place_self (F := F) h
  rw [place, List.drop_of_length_le (by rw [List.length_range]; omega), List.append_nil] at e
  have ez : (List.range Hl.length).zip (Hl' ++ G) = (List.range Hl.length).zip Hl' := by
    have : (List.range Hl.length ++ []).zip (Hl' ++ G) = (List.range Hl.length).zip Hl' ++ ([] : List Nat).zip G := List.zip_append (by rw [List.length_range, h])
    simpa using this
  rw [place, ez, e, List.length_range, ← h, List.drop_left]
/-- A method that only looks, and answers, within its answer, all of what it made. -/
structure LookN (f : FuncId) (xs : List D) (dv ov : Nat) (d : Dst) (r0 : Nat → Nat → D) (sz : Nat) (rows : List D) : Prop where
  h : Go.A.CallsIn Try.prog f (.p 0 dv 0 0 :: xs) (HD dv ov d) fun r' H' => ∃ w, r' = r0 18 w ∧ H' = HD dv ov d ++ [AObj.arr w sz rows]
  res : ∀ (ρ : Nat → Nat) v, ren ρ (r0 18 v) = r0 (ρ 18) v
  row : scs 0 rows
  asc : scs 18 xs
theorem lookN.call {f : FuncId} {xs : List D} {dv ov : Nat} {d : Dst} {r0 : Nat → Nat → D} {sz : Nat} {rows : List D} (h : LookN f xs dv ov d r0 sz rows) (F : List AObj) {K : D → List AObj → Prop} (hk : ∀ w, K (r0 (18 + F.length) w) (HD dv ov d ++ F ++ [AObj.arr w sz rows])) : Go.A.CallsIn Try.prog f (.p 0 dv 0 0 :: xs) (HD dv ov d ++ F) K := by
  refine callsSelf h.h F ⟨Nat.zero_lt_succ _, h.asc⟩ (scHD _ _ _) ?_
  rintro r0 H0 ⟨w, rfl, rfl⟩ _
  have e1 : ∀ k, (HD dv ov d ++ [AObj.arr w sz rows]).map (renO (ixOf (List.range (HD dv ov d).length) k)) = HD dv ov d ++ [AObj.arr w sz rows] := fun k => by
    rw [List.map_append, (List.map_congr_left fun ob hob => renO_fix (fun i hi => ixOf_range hi) (scHD dv ov d ob hob)).trans (List.map_id _), List.map_singleton, renO_sc0 _ (show (AObj.arr w sz rows).sc 0 from h.row)]
  rw [e1, h.res]
  rw [place_more (show (HD dv ov d).length = (HD dv ov d).length from rfl)]
  have e3 : ixOf (List.range (HD dv ov d).length) (HD dv ov d ++ F).length 18 = 18 + F.length := by
    rw [ixOf, List.getElem?_eq_none (by simp [HD])]
    simp [HD]; omega
  rw [e3]
  exact hk w


theorem f51_at (id : Int) (ov : Nat) (l : List Out) (hl : l.length ≤ 1000000) (hi : ∃ x ∈ l, x.id = id) : Turns1 Try.prog 51 (fun k => [.h k ov 0 l.length, .fn 52 [.pe [.int .i64 id]]]) (oO ov l) (fun k _ => .h k (ov + 1) 0 (delO id l).length) (fun _ => oO (ov + 1) (delO id l)) where
  arg := fun ρ => rfl
  res := fun ρ v => rfl
  asc := ⟨Nat.zero_lt_one, ⟨⟨trivial, trivial⟩, trivial⟩, trivial⟩
  osc := scrO _ _
  ores := fun ρ v => renO_sc0 ρ (scrO _ _)
  calls := (f51_own id ov l hl hi).mono fun r' H' ⟨e1, e2⟩ => ⟨0, e1, e2⟩

def deleteD (d : Dst) (id : Int) : Dst × Int := if (findD d id).2 ≠ 0 then (d, (findD d id).2) else ({ d with out := delO id d.out }, 0)
theorem f24_at (dv ov : Nat) {d : Dst} (hd : InvD d) (id : Int) : TurnV 24 [.int .i64 id] dv ov d (.int .i64 (deleteD d id).2) (deleteD d id).1 := by
  have h33 := f33_at dv ov hd id
  rw [deleteD]
  refine Go.A.CallsIn.of_exec tab_ok mixed Try.func24 rfl rfl [] bxD ?_
  by_cases h : (findD d id).2 = 0
  · rw [if_neg (by simp [h])]
    have hi : ∃ x ∈ d.out, x.id = id := Classical.byContradiction fun g => by
      rw [find_not fun x hx e => g ⟨x, hx, e⟩] at h
      cases h
    rw [h] at h33
    repeat' ((conv => whnf); first
      | refine look.call h33 [] ⟨trivial, trivial, trivial⟩ ?_ | refine Turns1.call (f51_at id ov d.out (by have := hd.out; omega) hi) 1 rfl (fun _ => ?_) | refine And.intro (by decide) ?_ | refine And.intro rfl ?_ | refine And.intro (Nat.le_of_ble_eq_true rfl) ?_)
    all_goals (conv => whnf)
    exact ⟨ov + 1, rfl, rfl⟩
  · rw [if_pos h]
    obtain ⟨e, he⟩ : ∃ e, e = (findD d id).2 := ⟨_, rfl⟩
    rw [← he] at h h33 ⊢
    repeat' ((conv => whnf); first
      | refine look.call h33 [] ⟨trivial, trivial, trivial⟩ ?_ | refine boolF_not ?_ | refine boolF_decf (by assumption) ?_)
    all_goals (conv => whnf)
    exact ⟨ov, rfl, rfl⟩

theorem f19_at (dv ov : Nat) {d : Dst} (hd : InvD d) {x : Out} (hx : x ∈ d.out) (hu : ∀ y ∈ d.out, y.id = x.id → y = x) (off n : Int) {p : List Nat × Int} (hp : readM x.v off n = p) : LookN 19 [.int .i64 x.id, .int .i64 off, .int .i64 n] dv ov d (fun k w => ownW p k w) 1 (p.1.map r56) := by
  refine ⟨?_, fun _ _ => rfl, scr56 _ _, ⟨trivial, trivial, trivial, trivial⟩⟩
  have h33 := f33_at dv ov hd x.id
  obtain ⟨i, y, h1, h2, h3⟩ := find_yes (d := d) (id := x.id) ⟨x, hx, rfl⟩
  obtain rfl := hu y (List.mem_of_getElem? h2) h3
  rw [h1] at h33
  dsimp only at h33
  have hil := (List.getElem?_eq_some_iff.mp h2).1
  have h47 := f47_own y.v off n (by have := hd.outv y hx; have := hd.n; omega)
  rw [hp] at h47
  refine Go.A.CallsIn.of_exec tab_ok mixed Try.func19 rfl rfl [] bxD ?_
  repeat' ((conv => whnf); first
    | refine look.call h33 [] ⟨trivial, trivial, trivial⟩ ?_ | refine Exists.intro _ (And.intro (map_at (by omega) h2) ?_) | refine And.intro (by rw [List.length_map]; omega) ?_ | refine And.intro (by decide) ?_ | refine And.intro rfl ?_ | refine And.intro (Nat.le_of_ble_eq_true rfl) ?_ | refine And.intro (by omega) ?_)
  all_goals (conv => whnf)
  refine OwnedR.call h47 (fun w => ?_)
  (conv => whnf)
  exact ⟨w, rfl, rfl⟩

end Go.Proofs.Ytgigpjkdfhhahaa


namespace Go.Proofs.Ytgigpjkdfhhahaa
open Go.A
set_option linter.unusedVariables false
set_option linter.unusedSimpArgs false
set_option linter.unnecessarySimpa false
attribute [local irreducible] IntKind.wrap bitsI
open B L M
set_option maxRecDepth 100000
set_option maxHeartbeats 4000000

def rI (x : Out) : D := .int .i64 x.id
theorem f18_at (dv ov : Nat) {d : Dst} (hd : InvD d) : LookN 18 [] dv ov d (fun k w => .h k w 0 d.out.length) 1 (d.out.map rI) := by
  refine ⟨?_, fun _ _ => rfl, scs_map.mpr fun x _ => trivial, trivial⟩
  have h34 := f34_at dv ov d
  rw [decide_eq_true (show 0 < d.n from hd.n.1)] at h34
  have ho := hd.out
  refine Go.A.CallsIn.of_exec tab_ok mixed Try.func18 rfl rfl [] bxD ?_
  repeat' ((conv => whnf); first
    | refine look.call h34 [] trivial ?_ | refine And.intro (by decide) ?_ | refine And.intro rfl ?_ | refine And.intro (Nat.le_of_ble_eq_true rfl) ?_)
  all_goals (conv => whnf)
  refine W_loopG (ι := Nat × Nat) (fun i => ⟨(D.undef :: D.undef :: D.undef :: .h 18 i.2 0 i.1 :: D.undef :: D.undef :: D.undef :: D.undef :: D.undef :: D.undef :: D.undef :: .h 1 ov 0 d.out.length :: .int .i64 (d.out.length : Int) :: .int .i64 (i.1 : Int) :: D.undef :: D.undef :: D.undef :: D.undef :: D.undef :: D.undef :: D.undef :: D.undef :: D.undef :: D.undef :: []), HD dv ov d ++ [.arr i.2 1 ((d.out.take i.1).map rI)]⟩) (fun i => d.out.length - i.1)
    (fun i => i.1 ≤ d.out.length) (0, 0) ((Ghost.hold [3, 11, 12, 13] rfl).trans (Ghost.mat (t := 3) (sz := 1) rfl)) (Nat.zero_le _) ?_
  rintro ⟨i, w⟩ h1
  dsimp only at h1 ⊢
  refine exec_ok tab_ok mixed 1000 (bx := bxD ++ [false]) (own := []) ?_
  rcases Nat.lt_or_ge i d.out.length with h | h
  · obtain ⟨x, hx⟩ := at_lt h
    have hlt : (d.out.take i).length = i := by rw [List.length_take]; omega
    repeat' ((conv => whnf); first
      | refine Exists.intro _ (And.intro (map_at (by omega) hx) ?_) | refine And.intro (by rw [List.length_map]; omega) ?_ | refine And.intro (by decide) ?_ | refine And.intro rfl ?_ | refine And.intro (Nat.le_of_ble_eq_true rfl) ?_ | refine And.intro (by omega) ?_ | refine And.intro (okRows_one rfl rfl) ?_ | refine Exists.intro _ (And.intro (⟨len_one⟩) ?_) | refine Exists.intro _ (And.intro (⟨map_snoc⟩) ?_) | refine Exists.intro _ (And.intro (w64 (by omega) (by omega)) ?_) | refine boolF_dect (by omega) ?_)
    all_goals (conv => whnf)
    refine ⟨(i + 1, w + 1), Ghost.back [3, 11, 12, 13] 19 ?_ ?_ (by decide) ?_ (scHDs (by decide) _ _ _ (scs_map.mpr fun x _ => trivial)), h, by dsimp only; omega⟩
    · rfl
    · dsimp only
      rw [take_snoc hx, List.map_append]
      rfl
    · simp [scs, D.sc, HD]
  · obtain rfl : i = d.out.length := by omega
    repeat' ((conv => whnf); first
      | refine boolF_decf (by omega) ?_)
    all_goals (conv => whnf)
    rw [List.take_length]
    exact ⟨w, rfl, rfl⟩


/-- A destination that nobody made. -/
structure Dead (pp : D) : Prop where
  sc : pp.sc 0
  ok : Pure Try.prog 34 [pp] (.bool false)
def zD : D := .pe [.int .i64 0, .int .i64 0, .int .i64 0, .int .i64 0, .int .i64 0, .sl [], .sl [], .sl []]
theorem dead_nil : Dead .pnil := ⟨trivial, by
  refine Pure.of ⟨trivial, trivial⟩ trivial ?_
  refine Go.A.CallsIn.of_exec tab_ok mixed Try.func34 rfl rfl [] [] ?_
  (conv => whnf)
  exact ⟨rfl⟩⟩
theorem dead_zero : Dead zD := ⟨⟨trivial, trivial, trivial, trivial, trivial, trivial, trivial, trivial, trivial⟩, by
  refine Pure.of ⟨⟨trivial, trivial, trivial, trivial, trivial, trivial, trivial, trivial, trivial⟩, trivial⟩ trivial ?_
  refine Go.A.CallsIn.of_exec tab_ok mixed Try.func34 rfl rfl [] [] ?_
  (conv => whnf)
  exact ⟨rfl⟩⟩
theorem f40_dead {pp : D} (h : Dead pp) (i : Int) : Pure Try.prog 40 [pp, .int .i64 i] .pnil := by
  have h34 := h.ok
  refine Pure.of ⟨h.sc, trivial, trivial⟩ trivial ?_
  refine Go.A.CallsIn.of_exec tab_ok mixed Try.func40 rfl rfl [] [] ?_
  repeat' ((conv => whnf); first
    | refine Pure.call (h34) ?_)
  all_goals (conv => whnf)
  exact ⟨rfl⟩
theorem f39_dead {pp : D} (h : Dead pp) : Pure Try.prog 39 [pp] (.int .i64 2) := by
  have h34 := h.ok
  refine Pure.of ⟨h.sc, trivial⟩ trivial ?_
  refine Go.A.CallsIn.of_exec tab_ok mixed Try.func39 rfl rfl [] [] ?_
  repeat' ((conv => whnf); first
    | refine Pure.call (h34) ?_)
  all_goals (conv => whnf)
  exact ⟨rfl⟩
theorem f15_dead {pp : D} (h : Dead pp) : Pure Try.prog 15 [pp] (.int .i64 0) := by
  have h34 := h.ok
  refine Pure.of ⟨h.sc, trivial⟩ trivial ?_
  refine Go.A.CallsIn.of_exec tab_ok mixed Try.func15 rfl rfl [] [] ?_
  repeat' ((conv => whnf); first
    | refine Pure.call (h34) ?_)
  all_goals (conv => whnf)
  exact ⟨rfl⟩
theorem f27_dead {pp : D} (h : Dead pp) : Pure Try.prog 27 [pp] (.tup []) := by
  have h34 := h.ok
  refine Pure.of ⟨h.sc, trivial⟩ trivial ?_
  refine Go.A.CallsIn.of_exec tab_ok mixed Try.func27 rfl rfl [] [] ?_
  repeat' ((conv => whnf); first
    | refine Pure.call (h34) ?_)
  all_goals (conv => whnf)
  exact ⟨rfl⟩
theorem f18_dead {pp : D} (h : Dead pp) : Pure Try.prog 18 [pp] .nils := by
  have h34 := h.ok
  refine Pure.of ⟨h.sc, trivial⟩ trivial ?_
  refine Go.A.CallsIn.of_exec tab_ok mixed Try.func18 rfl rfl [] [] ?_
  repeat' ((conv => whnf); first
    | refine Pure.call (h34) ?_)
  all_goals (conv => whnf)
  exact ⟨rfl⟩
theorem f33_dead {pp : D} (h : Dead pp) (id : Int) : Pure Try.prog 33 [pp, .int .i64 id] (.tup [.int .i64 0, .int .i64 2]) := by
  have h34 := h.ok
  refine Pure.of ⟨h.sc, trivial, trivial⟩ ⟨trivial, trivial, trivial⟩ ?_
  refine Go.A.CallsIn.of_exec tab_ok mixed Try.func33 rfl rfl [] [] ?_
  repeat' ((conv => whnf); first
    | refine Pure.call (h34) ?_)
  all_goals (conv => whnf)
  exact ⟨rfl⟩
theorem f23_dead {pp : D} (h : Dead pp) : Pure Try.prog 23 [pp] (.int .i64 2) := by
  refine Pure.of ⟨h.sc, trivial⟩ trivial ?_
  have h34 := h.ok
  refine Go.A.CallsIn.of_exec tab_ok mixed Try.func23 rfl rfl [] [] ?_
  repeat' ((conv => whnf); first
    | refine Pure.call (f39_dead h) ?_)
  all_goals (conv => whnf)
  exact ⟨rfl⟩
theorem f14_dead {pp : D} (h : Dead pp) : Pure Try.prog 14 [pp] (.int .i64 2) := by
  refine Pure.of ⟨h.sc, trivial⟩ trivial ?_
  have h34 := h.ok
  refine Go.A.CallsIn.of_exec tab_ok mixed Try.func14 rfl rfl [] [] ?_
  repeat' ((conv => whnf); first
    | refine Pure.call (f39_dead h) ?_)
  all_goals (conv => whnf)
  exact ⟨rfl⟩
theorem f24_dead {pp : D} (h : Dead pp) (id : Int) : Pure Try.prog 24 [pp, .int .i64 id] (.int .i64 2) := by
  refine Pure.of ⟨h.sc, trivial, trivial⟩ trivial ?_
  have h34 := h.ok
  refine Go.A.CallsIn.of_exec tab_ok mixed Try.func24 rfl rfl [] [] ?_
  repeat' ((conv => whnf); first
    | refine Pure.call (f33_dead h _) ?_)
  all_goals (conv => whnf)
  exact ⟨rfl⟩
theorem f11_dead {pp : D} (h : Dead pp) (id : Int) (m : T23) : Pure Try.prog 11 [pp, .int .i64 id, d33 m] (.int .i64 2) := by
  refine Pure.of ⟨h.sc, trivial, ⟨trivial, trivial, scd22 _ _, trivial⟩, trivial⟩ trivial ?_
  have h34 := h.ok
  refine Go.A.CallsIn.of_exec tab_ok mixed Try.func11 rfl rfl [] [] ?_
  repeat' ((conv => whnf); first
    | refine Pure.call (f33_dead h _) ?_ | refine Pure.call (h34) ?_)
  all_goals (conv => whnf)
  exact ⟨rfl⟩
theorem f16_dead {pp : D} (h : Dead pp) (i k : Int) (r : T43) : Pure Try.prog 16 [pp, .int .i64 i, .int .i64 k, d44 r] (.int .i64 2) := by
  refine Pure.of ⟨h.sc, trivial, trivial, scd44 _ _, trivial⟩ trivial ?_
  have h34 := h.ok
  refine Go.A.CallsIn.of_exec tab_ok mixed Try.func16 rfl rfl [] [] ?_
  repeat' ((conv => whnf); first
    | refine Pure.call (f40_dead h _) ?_ | refine Pure.call (h34) ?_)
  all_goals (conv => whnf)
  exact ⟨rfl⟩
theorem f19_dead {pp : D} (h : Dead pp) (i k n : Int) : Pure Try.prog 19 [pp, .int .i64 i, .int .i64 k, .int .i64 n] (.tup [.nils, .int .i64 2]) := by
  refine Pure.of ⟨h.sc, trivial, trivial, trivial, trivial⟩ ⟨trivial, trivial, trivial⟩ ?_
  have h34 := h.ok
  refine Go.A.CallsIn.of_exec tab_ok mixed Try.func19 rfl rfl [] [] ?_
  repeat' ((conv => whnf); first
    | refine Pure.call (f33_dead h _) ?_)
  all_goals (conv => whnf)
  exact ⟨rfl⟩
theorem f25_dead {pp : D} (h : Dead pp) (i : Int) : Pure Try.prog 25 [pp, .int .i64 i] (.int .i64 0) := by
  refine Pure.of ⟨h.sc, trivial, trivial⟩ trivial ?_
  have h34 := h.ok
  refine Go.A.CallsIn.of_exec tab_ok mixed Try.func25 rfl rfl [] [] ?_
  repeat' ((conv => whnf); first
    | refine Pure.call (f40_dead h _) ?_ | refine Pure.call (f41_nil) ?_)
  all_goals (conv => whnf)
  exact ⟨rfl⟩
theorem f26_dead {pp : D} (h : Dead pp) (i : Int) : Pure Try.prog 26 [pp, .int .i64 i] (.tup [.int .i64 0, .int .i64 0]) := by
  refine Pure.of ⟨h.sc, trivial, trivial⟩ ⟨trivial, trivial, trivial⟩ ?_
  have h34 := h.ok
  refine Go.A.CallsIn.of_exec tab_ok mixed Try.func26 rfl rfl [] [] ?_
  repeat' ((conv => whnf); first
    | refine Pure.call (f40_dead h _) ?_ | refine Pure.call (f53_nil) ?_)
  all_goals (conv => whnf)
  exact ⟨rfl⟩
theorem f28_dead {pp : D} (h : Dead pp) (i : Int) : Pure Try.prog 28 [pp, .int .i64 i] (.int .i64 0) := by
  refine Pure.of ⟨h.sc, trivial, trivial⟩ trivial ?_
  have h34 := h.ok
  refine Go.A.CallsIn.of_exec tab_ok mixed Try.func28 rfl rfl [] [] ?_
  repeat' ((conv => whnf); first
    | refine Pure.call (f40_dead h _) ?_ | refine Pure.call (f55_nil) ?_)
  all_goals (conv => whnf)
  exact ⟨rfl⟩

end Go.Proofs.Ytgigpjkdfhhahaa

