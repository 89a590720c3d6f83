import Derived.Test.YtgigpjkdfhhahaaD20
namespace Go.Proofs.Ytgigpjkdfhhahaa
open Go.A
set_option linter.unusedVariables false
set_option linter.unusedSimpArgs false
set_option linter.unnecessarySimpa false
attribute [local irreducible] IntKind.wrap bitsI
open B L M
set_option maxRecDepth 100000
set_option maxHeartbeats 4000000

def moM (n : Int) : T23 := ⟨1, n, [⟨0, n, 1⟩]⟩
def hM (m : T23) : AObj := .arr 0 3 [.agg (c24 m)]
theorem schM (k : Nat) (m : T23) : (hM m).sc k := ⟨sc24 k m, trivial⟩
def oI (w : Nat) (l : List Out) : AObj := .arr w 1 (l.map rI)
theorem scoI (k w : Nat) (l : List Out) : (oI w l).sc k := scs_map.mpr fun x _ => trivial
theorem mo_right {n : Int} (h : newP n) : rightP (moM n) := ⟨show (1 : Int) ≤ 1 by decide, show (1 : Int) ≤ 1099511627776 by decide, h.1, h.2, show 1 ≤ 16 by decide, by
  show M.endsAt 0 [⟨0, n, 1⟩] = some n
  rw [M.endsAt, if_pos ⟨rfl, show (0 : Int) < n by have := h.1; omega, show (0 : Int) ≤ 1 by decide, show (1 : Int) < 16 by decide⟩]; rfl⟩
theorem ok3_small {x : Int} (h0 : 0 ≤ x) (h1 : x ≤ 1024) : ok3 x := by simp only [ok3]; omega
theorem mo_ok {n : Int} (h : newP n) : ok24 (moM n) := by
  obtain ⟨h1, h2⟩ := h
  exact ⟨ok3_small (show (0 : Int) ≤ 1 by decide) (show (1 : Int) ≤ 1024 by decide), ok3_small (show 0 ≤ n by omega) h2, fun x hx => by
    simp only [moM, List.mem_singleton] at hx
    subst hx
    exact ⟨ok3_small (show (0 : Int) ≤ 0 by decide) (show (0 : Int) ≤ 1024 by decide), ok3_small (show 0 ≤ n by omega) h2, ok3_small (show (0 : Int) ≤ 1 by decide) (show (1 : Int) ≤ 1024 by decide)⟩, show 1 * td51.bytes ≤ 140737488351232 by decide⟩
theorem cancel_id (d : Dst) : (cancelD d).1.id = 0 := by
  unfold cancelD
  split
  · assumption
  · rfl
theorem cancel_n (d : Dst) : (cancelD d).1.n = d.n := by
  unfold cancelD
  split <;> rfl
theorem cancel_out (d : Dst) : (cancelD d).1.out = d.out := by
  unfold cancelD
  split <;> rfl
theorem ann_twice {d : Dst} (hd : InvD d) {n : Int} (hn : newP n) (hdn : d.n = n) {x : Out} (hx : x ∈ d.out) (vs : List Nat) : annD d x.id (moM n) vs = (d, 10) := by
  obtain ⟨i, y, h1, _, _⟩ := find_yes (d := d) (id := x.id) ⟨x, hx, rfl⟩
  have hp := hd.pos x hx
  rw [annD, if_neg, h1, if_pos rfl]
  rintro (g | g | g)
  · omega
  · exact g (mo_right hn)
  · exact g hdn.symm
theorem ann_new {d : Dst} {n : Int} (hn : newP n) (hdn : d.n = n) {id : Int} (h1 : 1 ≤ id) (hno : ∀ x ∈ d.out, x.id ≠ id) (hid : d.id = 0) (hl : d.out.length ≠ 32) (vs : List Nat) :
    (annD d id (moM n) vs).2 = 0 ∧ (annD d id (moM n) vs).1.id = id ∧ (annD d id (moM n) vs).1.n = d.n ∧ (annD d id (moM n) vs).1.out = d.out := by
  rw [annD, if_neg, find_not hno, if_neg (by decide), if_neg (fun g => g hid), if_neg hl]
  · exact ⟨rfl, rfl, rfl, rfl⟩
  rintro (g | g | g)
  · omega
  · exact g (mo_right hn)
  · exact g hdn.symm
theorem del_first {x : Out} {l : List Out} (h : ((x :: l).map Out.id).Nodup) : delO x.id (x :: l) = l := by
  rw [List.map_cons, List.nodup_cons] at h
  rw [delO, List.filter_cons_of_neg (by simp)]
  exact List.filter_eq_self.mpr fun y hy => by
    have : y.id ≠ x.id := fun e => h.1 (List.mem_map.mpr ⟨y, hy, e⟩)
    simp [this]
theorem nd_ne {l : List Out} (h : (l.map Out.id).Nodup) {i j : Nat} {x y : Out} (hx : l[i]? = some x) (hy : l[j]? = some y) (hij : i < j) : x.id ≠ y.id := by
  have hi := (List.getElem?_eq_some_iff.mp hx).1
  have hj := (List.getElem?_eq_some_iff.mp hy).1
  have := (List.pairwise_iff_getElem.mp h) i j (by simpa using hi) (by simpa using hj) hij
  simp only [List.getElem_map] at this
  rwa [(List.getElem?_eq_some_iff.mp hx).2, (List.getElem?_eq_some_iff.mp hy).2] at this

theorem ann_call {dv ov : Nat} {d : Dst} (hd : InvD d) (id : Int) (m : T23) (hm : ok24 m) (F : List AObj) {K : D → List AObj → Prop} (hk : ∀ vs Z, NearC F.length dv (annD d id m vs).1 Z → (∀ i, i < F.length → Z[18 + i]? = F[i]?) → K (.int .i64 (annD d id m vs).2) Z) :
    Go.A.CallsIn Try.prog 11 [.p 0 dv 0 0, .int .i64 id, d33 m] (HD dv ov d ++ F) K :=
  near_frame (α := List Nat) (r0 := fun vs => .int .i64 (annD d id m vs).2) (d1 := fun vs => (annD d id m vs).1) (f11_at dv ov hd id m hm) ⟨Nat.zero_lt_succ _, trivial, sc24 _ m, trivial⟩ (fun _ => trivial) F hk
theorem two_mem {A B : AObj} (ha : A.sc 0) (hb : B.sc 0) : ∀ ob ∈ [A, B], ob.sc 0 := fun ob hob => by
  simp only [List.mem_cons, List.not_mem_nil, or_false] at hob
  rcases hob with rfl | rfl
  · exact ha
  · exact hb
theorem three_mem {A B C : AObj} (ha : A.sc 0) (hb : B.sc 0) (hc : C.sc 0) : ∀ ob ∈ [A, B, C], ob.sc 0 := fun ob hob => by
  simp only [List.mem_cons, List.not_mem_nil, or_false] at hob
  rcases hob with rfl | rfl | rfl
  · exact ha
  · exact hb
  · exact hc
theorem del_yes {d : Dst} {x : Out} {l : List Out} (h : d.out = x :: l) (hd : InvD d) : deleteD d x.id = ({ d with out := l }, 0) := by
  obtain ⟨i, y, h1, _, _⟩ := find_yes (d := d) (id := x.id) ⟨x, by rw [h]; exact List.mem_cons_self, rfl⟩
  have hnd := hd.nd
  rw [h] at hnd
  rw [deleteD, h1, if_neg (fun g => g rfl), h, del_first hnd]
theorem del_not {d : Dst} {id : Int} (h : ∀ x ∈ d.out, x.id ≠ id) : deleteD d id = (d, 9) := by
  rw [deleteD, find_not h, if_pos (by decide)]
theorem destOnce_true (n0 : Int) (script : List T61) (m : T23) (h0 : ok3 n0) (h1 : ok59 script) (h2 : ok24 m) : Go.A.CallsIn Try.prog 5 [d3 n0, d59 script, d24 m] [] fun r _ => r = .bool true := by
  have hm1 : 0 ≤ n0 % 64 := Int.emod_nonneg _ (by decide)
  have hm2 : n0 % 64 < 64 := Int.emod_lt_of_pos _ (by decide)
  have hnp : newP (n0 % 64 + 1) := ⟨by omega, by omega⟩
  have hsl : script.length ≤ 140737488351232 := by have := h1.2; simp [td62] at this; omega
  refine Go.A.CallsIn.of_execN 7 tab_ok mixed Try.func5 rfl rfl [5] [] ?_
  repeat' ((conv => whnf); first
    | refine Exists.intro (n0 % 64) (And.intro (and63 _) ?_) | refine Exists.intro _ (And.intro (w64 (by omega) (by omega)) ?_))
  all_goals (conv => whnf)
  refine new_at hnp [_] (fun dv ov vs => ?_)
  (conv => whnf)
  obtain ⟨n, hn⟩ : ∃ n, n = n0 % 64 + 1 := ⟨_, rfl⟩
  rw [← hn] at hnp ⊢
  refine W_ghost ((Ghost.hold [0, 1, 5, 7, 8] rfl).trans (new_pick (F := [hM m]) (fun ob hob => by simp only [List.mem_singleton] at hob; subst hob; exact schM _ _) (s' := (.int .i64 n :: d59 script :: D.undef :: D.undef :: D.undef :: .p 18 0 0 0 :: D.undef :: .p 0 dv 0 0 :: .int .i64 0 :: D.undef :: D.undef :: D.undef :: D.undef :: D.undef :: D.undef :: D.undef :: D.undef :: D.undef :: D.undef :: D.undef :: D.undef :: D.undef :: D.undef :: D.undef :: D.undef :: D.undef :: D.undef :: D.undef :: D.undef :: D.undef :: D.undef :: D.undef :: D.undef :: D.undef :: D.undef :: D.undef :: D.undef :: D.undef :: D.undef :: D.undef :: D.undef :: D.undef :: D.undef :: D.undef :: D.undef :: D.undef :: D.undef :: D.undef :: D.undef :: D.undef :: D.undef :: D.undef :: D.undef :: D.undef :: D.undef :: D.undef :: D.undef :: D.undef :: D.undef :: D.undef :: D.undef :: D.undef :: D.undef :: D.undef :: D.undef :: D.undef :: D.undef :: D.undef :: D.undef :: D.undef :: D.undef :: D.undef :: D.undef :: D.undef :: D.undef :: D.undef :: D.undef :: D.undef :: D.undef :: D.undef :: D.undef :: D.undef :: D.undef :: D.undef :: D.undef :: D.undef :: D.undef :: D.undef :: D.undef :: D.undef :: D.undef :: D.undef :: D.undef :: D.undef :: D.undef :: D.undef :: D.undef :: D.undef :: D.undef :: D.undef :: D.undef :: D.undef :: D.undef :: D.undef :: D.undef :: D.undef :: D.undef :: D.undef :: D.undef :: D.undef :: D.undef :: D.undef :: D.undef :: D.undef :: D.undef :: D.undef :: D.undef :: D.undef :: D.undef :: D.undef :: D.undef :: D.undef :: D.undef :: D.undef :: D.undef :: D.undef :: D.undef :: D.undef :: [])) (by simp only [renL, ren59, ren]; rfl) (by simp [scs, D.sc, scd59]))) ?_
  refine exec_ok tab_ok mixed 1000 (bx := bxD ++ [true]) (own := []) ?_
  repeat' ((conv => whnf); first
    | refine And.intro rfl ?_ | refine Exists.intro _ (And.intro (⟨(List.length_map _).symm⟩) ?_) | refine Pure.call (f9_ok) ?_)
  all_goals (conv => whnf)
  refine W_loopG (ι := Nat × Nat × Dst) (fun x => ⟨(.int .i64 n :: D.undef :: D.undef :: D.undef :: D.undef :: .p 18 0 0 0 :: D.undef :: .p 0 dv 0 0 :: D.undef :: D.undef :: D.undef :: D.undef :: D.undef :: D.undef :: D.undef :: D.undef :: D.undef :: D.undef :: D.undef :: D.undef :: D.undef :: D.undef :: D.undef :: D.undef :: D.undef :: D.undef :: D.undef :: D.undef :: D.undef :: D.undef :: D.undef :: D.undef :: D.undef :: D.undef :: D.undef :: D.undef :: D.undef :: D.undef :: d59 script :: .int .i64 (script.length : Int) :: .int .i64 (x.1 : Int) :: D.undef :: D.undef :: D.undef :: D.undef :: D.undef :: D.undef :: D.undef :: D.undef :: D.undef :: D.undef :: D.undef :: D.undef :: D.undef :: D.undef :: D.undef :: D.undef :: D.undef :: D.undef :: D.undef :: D.undef :: D.undef :: D.undef :: D.undef :: D.undef :: D.undef :: D.undef :: D.undef :: D.undef :: D.undef :: D.undef :: D.undef :: D.undef :: D.undef :: D.undef :: D.undef :: D.undef :: D.undef :: D.undef :: D.undef :: D.undef :: D.undef :: D.undef :: D.undef :: D.undef :: D.undef :: D.undef :: D.undef :: D.undef :: D.undef :: D.undef :: D.undef :: D.undef :: D.undef :: D.undef :: D.undef :: D.undef :: D.undef :: D.undef :: D.undef :: D.undef :: D.undef :: D.undef :: D.undef :: D.undef :: D.undef :: D.undef :: D.undef :: D.undef :: D.undef :: D.undef :: D.undef :: D.undef :: D.undef :: D.undef :: D.undef :: D.undef :: D.undef :: D.undef :: D.undef :: D.undef :: D.undef :: D.undef :: D.undef :: D.undef :: D.undef :: D.undef :: D.undef :: []), HD dv x.2.1 x.2.2 ++ [hM m]⟩) (fun x => script.length - x.1)
    (fun x => x.1 ≤ script.length ∧ InvD x.2.2 ∧ x.2.2.n = n) (0, ov, newDst n (bsOf 0 n vs)) (Ghost.hold [0, 5, 7, 38, 39, 40] rfl) ⟨Nat.zero_le _, inv_newD hnp vs, rfl⟩ ?_
  rintro ⟨i, ov, d⟩ ⟨i1, hd, hdn⟩
  dsimp only at i1 hd hdn ⊢
  rcases Nat.lt_or_ge i script.length with h | h
  · obtain ⟨a, ha⟩ := at_lt h
    have hok := h1.1 a (List.mem_of_getElem? ha)
    refine exec_ok tab_ok mixed 12 (bx := bxD ++ [true]) (own := []) ?_
    repeat' ((conv => whnf); first
      | refine Exists.intro _ (And.intro (map_at (by omega) ha) ?_) | refine And.intro (by decide) ?_ | refine And.intro rfl ?_ | refine And.intro (by omega) ?_ | refine boolF_dect (by omega) ?_)
    all_goals (conv => whnf)
    refine does_call hd hok [_, _] (fun vs2 Z hN hZ => ?_)
    (conv => whnf)
    have hn2 := does_n d a vs2
    have hd2 := inv_does hd a vs2
    rw [hdn] at hn2
    obtain ⟨T, hT⟩ : ∃ T, T = (doesD d a vs2).1 := ⟨_, rfl⟩
    rw [← hT] at hN hn2 hd2
    obtain ⟨ov2, g⟩ := nearC_pick (F := [hM m]) (s := (.int .i64 n :: D.undef :: D.undef :: D.undef :: D.undef :: .p 18 0 0 0 :: D.undef :: .p 0 dv 0 0 :: D.undef :: D.undef :: D.undef :: D.undef :: D.undef :: D.undef :: D.undef :: D.undef :: D.undef :: D.undef :: D.undef :: D.undef :: D.undef :: D.undef :: D.undef :: D.undef :: D.undef :: D.undef :: D.undef :: D.undef :: D.undef :: D.undef :: D.undef :: D.undef :: D.undef :: D.undef :: D.undef :: D.undef :: D.undef :: D.undef :: d59 script :: .int .i64 (script.length : Int) :: .int .i64 (i : Int) :: D.undef :: D.undef :: D.undef :: D.undef :: D.undef :: D.undef :: D.undef :: D.undef :: D.undef :: D.undef :: D.undef :: D.undef :: D.undef :: D.undef :: D.undef :: D.undef :: D.undef :: D.undef :: D.undef :: D.undef :: D.undef :: D.undef :: D.undef :: D.undef :: D.undef :: D.undef :: D.undef :: D.undef :: D.undef :: D.undef :: D.undef :: D.undef :: D.undef :: D.undef :: D.undef :: D.undef :: D.undef :: D.undef :: D.undef :: D.undef :: D.undef :: D.undef :: D.undef :: D.undef :: D.undef :: D.undef :: D.undef :: D.undef :: D.undef :: D.undef :: D.undef :: D.undef :: D.undef :: D.undef :: D.undef :: D.undef :: D.undef :: D.undef :: D.undef :: D.undef :: D.undef :: D.undef :: D.undef :: D.undef :: D.undef :: D.undef :: D.undef :: D.undef :: D.undef :: D.undef :: D.undef :: D.undef :: D.undef :: D.undef :: D.undef :: D.undef :: D.undef :: D.undef :: D.undef :: D.undef :: D.undef :: D.undef :: D.undef :: D.undef :: D.undef :: D.undef :: D.undef :: [])) (hN.mono (Nat.le_succ 1)) rfl (fun i hi => by
      have : i = 0 := by simpa using hi
      subst this
      exact hZ 0 (Nat.zero_lt_succ _)) (fun ob hob => by simp only [List.mem_singleton] at hob; subst hob; exact schM _ _) (fun k => by simp only [renL, ren59, ren]; rfl) (by simp [scs, D.sc, scd59])
    refine W_ghost ((Ghost.hold [0, 5, 7, 38, 39, 40] rfl).trans g) ?_
    refine exec_ok tab_ok mixed 1000 (bx := bxD ++ [true]) (own := []) ?_
    (conv => whnf)
    refine lookN.call (f18_at dv ov2 hd2) [_] (fun w => ?_)
    repeat' ((conv => whnf); first
      | refine And.intro rfl ?_)
    all_goals (conv => whnf)
    have ho := hd2.out
    refine W_loopG (ι := Nat) (fun j => ⟨(.int .i64 n :: D.undef :: D.undef :: D.undef :: D.undef :: .p 18 0 0 0 :: D.undef :: .p 0 dv 0 0 :: D.undef :: D.undef :: D.undef :: .h 19 w 0 T.out.length :: D.undef :: D.undef :: D.undef :: D.undef :: D.undef :: D.undef :: D.undef :: D.undef :: D.undef :: D.undef :: D.undef :: D.undef :: D.undef :: D.undef :: D.undef :: D.undef :: D.undef :: D.undef :: D.undef :: D.undef :: D.undef :: D.undef :: D.undef :: D.undef :: D.undef :: D.undef :: d59 script :: .int .i64 (script.length : Int) :: .int .i64 (i : Int) :: D.undef :: D.undef :: D.undef :: D.undef :: D.undef :: D.undef :: D.undef :: D.undef :: .h 19 w 0 T.out.length :: .int .i64 (T.out.length : Int) :: .int .i64 (j : Int) :: D.undef :: D.undef :: D.undef :: D.undef :: D.undef :: D.undef :: D.undef :: D.undef :: D.undef :: D.undef :: D.undef :: D.undef :: D.undef :: D.undef :: D.undef :: D.undef :: D.undef :: D.undef :: D.undef :: D.undef :: D.undef :: D.undef :: D.undef :: D.undef :: D.undef :: D.undef :: D.undef :: D.undef :: D.undef :: D.undef :: D.undef :: D.undef :: D.undef :: D.undef :: D.undef :: D.undef :: D.undef :: D.undef :: D.undef :: D.undef :: D.undef :: D.undef :: D.undef :: D.undef :: D.undef :: D.undef :: D.undef :: D.undef :: D.undef :: D.undef :: D.undef :: D.undef :: D.undef :: D.undef :: D.undef :: D.undef :: D.undef :: D.undef :: D.undef :: D.undef :: D.undef :: D.undef :: D.undef :: D.undef :: D.undef :: D.undef :: D.undef :: D.undef :: D.undef :: D.undef :: D.undef :: D.undef :: D.undef :: D.undef :: D.undef :: D.undef :: []), HD dv ov2 T ++ [hM m, oI w T.out]⟩) (fun j => T.out.length - j)
      (fun j => j ≤ T.out.length) 0 (Ghost.hold [0, 5, 7, 11, 38, 39, 40, 49, 50, 51] rfl) (Nat.zero_le _) ?_
    rintro j j1
    refine exec_ok tab_ok mixed 1000 (bx := bxD ++ [true, false]) (own := []) ?_
    rcases Nat.lt_or_ge j T.out.length with hj | hj
    · obtain ⟨x, hx⟩ := at_lt hj
      repeat' ((conv => whnf); first
        | refine Exists.intro _ (And.intro (map_at (by omega) hx) ?_) | refine And.intro (by rw [List.length_map]; omega) ?_ | refine And.intro (by decide) ?_ | refine And.intro rfl ?_ | refine And.intro (by omega) ?_ | refine Exists.intro _ (And.intro (⟨Eq.refl (α := Int) _⟩) (And.intro (by omega) ?_)) | refine Exists.intro _ (Exists.intro _ (And.intro (⟨Eq.refl (α := Nat) _⟩) (And.intro (⟨Eq.refl (α := Nat) _⟩) ?_))) | refine boolF_dect (by omega) ?_)
      all_goals (conv => whnf)
      refine W_loopG (ι := Nat) (fun k => ⟨(.int .i64 n :: D.undef :: D.undef :: D.undef :: D.undef :: .p 18 0 0 0 :: D.undef :: .p 0 dv 0 0 :: D.undef :: D.undef :: D.undef :: .h 19 w 0 T.out.length :: D.undef :: .int .i64 x.id :: D.undef :: D.undef :: D.undef :: D.undef :: D.undef :: D.undef :: D.undef :: D.undef :: D.undef :: D.undef :: D.undef :: D.undef :: D.undef :: D.undef :: D.undef :: D.undef :: D.undef :: D.undef :: D.undef :: D.undef :: D.undef :: D.undef :: D.undef :: D.undef :: d59 script :: .int .i64 (script.length : Int) :: .int .i64 (i : Int) :: D.undef :: D.undef :: D.undef :: D.undef :: D.undef :: D.undef :: D.undef :: D.undef :: .h 19 w 0 T.out.length :: .int .i64 (T.out.length : Int) :: .int .i64 (j : Int) :: D.undef :: D.undef :: D.undef :: D.undef :: D.undef :: D.undef :: .h 19 w 0 j :: .int .i64 (j : Int) :: .int .i64 (k : Int) :: D.undef :: D.undef :: D.undef :: D.undef :: D.undef :: D.undef :: D.undef :: D.undef :: D.undef :: D.undef :: D.undef :: D.undef :: D.undef :: D.undef :: D.undef :: D.undef :: D.undef :: D.undef :: D.undef :: D.undef :: D.undef :: D.undef :: D.undef :: D.undef :: D.undef :: D.undef :: D.undef :: D.undef :: D.undef :: D.undef :: D.undef :: D.undef :: D.undef :: D.undef :: D.undef :: D.undef :: D.undef :: D.undef :: D.undef :: D.undef :: D.undef :: D.undef :: D.undef :: D.undef :: D.undef :: D.undef :: D.undef :: D.undef :: D.undef :: D.undef :: D.undef :: D.undef :: D.undef :: D.undef :: D.undef :: D.undef :: D.undef :: D.undef :: D.undef :: D.undef :: D.undef :: D.undef :: D.undef :: D.undef :: D.undef :: D.undef :: D.undef :: []), HD dv ov2 T ++ [hM m, oI w T.out]⟩) (fun k => j - k)
        (fun k => k ≤ j) 0 (Ghost.hold [0, 5, 7, 11, 13, 38, 39, 40, 49, 50, 51, 58, 59, 60] rfl) (Nat.zero_le _) ?_
      rintro k k1
      refine exec_ok tab_ok mixed 1000 (bx := bxD ++ [true, false]) (own := []) ?_
      rcases Nat.lt_or_ge k j with hk | hk
      · obtain ⟨y, hy⟩ := at_lt (l := T.out) (show k < T.out.length by omega)
        have hne := nd_ne hd2.nd hy hx hk
        repeat' ((conv => whnf); first
          | refine Exists.intro _ (And.intro (map_at (by omega) hy) ?_) | refine And.intro (by rw [List.length_map]; omega) ?_ | refine And.intro (by decide) ?_ | refine And.intro rfl ?_ | refine And.intro (by omega) ?_ | refine Exists.intro _ (And.intro (w64 (by omega) (by omega)) ?_) | refine boolF_decf (by assumption) ?_ | refine boolF_dect (by omega) ?_)
        all_goals (conv => whnf)
        exact ⟨k + 1, Ghost.hold [0, 5, 7, 11, 13, 38, 39, 40, 49, 50, 51, 58, 59, 60] rfl, hk, by omega⟩
      · repeat' ((conv => whnf); first
          | refine Exists.intro _ (And.intro (w64 (by omega) (by omega)) ?_) | refine boolF_decf (by omega) ?_)
        all_goals (conv => whnf)
        exact ⟨j + 1, Ghost.hold [0, 5, 7, 11, 38, 39, 40, 49, 50, 51] rfl, hj, by omega⟩
    · repeat' ((conv => whnf); first
        | refine Exists.intro _ (And.intro (w64 (by omega) (by omega)) ?_) | refine boolF_decf (by omega) ?_)
      all_goals (conv => whnf)
      exact ⟨(i + 1, ov2, T), Ghost.back [0, 5, 7, 38, 39, 40] 19 rfl rfl (Nat.zero_le _) (by simp [scs, D.sc, scd59]) (scHDs (by decide) _ _ _ (schM _ _)), ⟨h, hd2, hn2⟩, by dsimp only; omega⟩
  · refine exec_ok tab_ok mixed 1000 (bx := bxD ++ [true]) (own := []) ?_
    repeat' ((conv => whnf); first
      | refine boolF_decf (by omega) ?_)
    all_goals (conv => whnf)
    refine TurnD.call (f23_at dv ov hd) [_] trivial ?_
    have hd1 := inv_cancelD hd
    have hi1 := cancel_id d
    have hn1 := cancel_n d
    rw [hdn] at hn1
    obtain ⟨d1, hd1e⟩ : ∃ d1, d1 = (cancelD d).1 := ⟨_, rfl⟩
    rw [← hd1e] at hd1 hi1 hn1 ⊢
    have ho := hd1.out
    repeat' ((conv => whnf); first
      | refine And.intro (by decide) ?_ | refine And.intro (Nat.le_of_ble_eq_true rfl) ?_)
    all_goals (conv => whnf)
    refine lookN.call (f18_at dv ov hd1) [_] (fun w => ?_)
    repeat' ((conv => whnf); first
      | refine And.intro rfl ?_)
    all_goals (conv => whnf)
    refine W_loopG (ι := Nat × Nat) (fun x => ⟨(D.undef :: D.undef :: D.undef :: D.undef :: D.undef :: .p 18 0 0 0 :: D.undef :: .p 0 dv 0 0 :: D.undef :: D.undef :: D.undef :: D.undef :: D.undef :: D.undef :: D.undef :: D.undef :: D.undef :: D.undef :: D.undef :: D.undef :: D.undef :: D.undef :: D.undef :: D.undef :: D.undef :: D.undef :: D.undef :: D.undef :: D.undef :: D.undef :: D.undef :: D.undef :: D.undef :: D.undef :: D.undef :: D.undef :: D.undef :: D.undef :: D.undef :: D.undef :: D.undef :: D.undef :: D.undef :: D.undef :: D.undef :: D.undef :: D.undef :: D.undef :: D.undef :: D.undef :: D.undef :: D.undef :: D.undef :: D.undef :: D.undef :: D.undef :: D.undef :: D.undef :: D.undef :: D.undef :: D.undef :: D.undef :: D.undef :: D.undef :: D.undef :: D.undef :: D.undef :: D.undef :: D.undef :: D.undef :: D.undef :: D.undef :: D.undef :: D.undef :: D.undef :: D.undef :: D.undef :: D.undef :: D.undef :: D.undef :: .h 19 w 0 d1.out.length :: .int .i64 (d1.out.length : Int) :: .int .i64 (x.1 : Int) :: D.undef :: D.undef :: D.undef :: D.undef :: D.undef :: D.undef :: D.undef :: D.undef :: D.undef :: D.undef :: D.undef :: D.undef :: D.undef :: D.undef :: D.undef :: D.undef :: D.undef :: D.undef :: D.undef :: D.undef :: D.undef :: D.undef :: D.undef :: D.undef :: D.undef :: D.undef :: D.undef :: D.undef :: D.undef :: D.undef :: D.undef :: D.undef :: D.undef :: D.undef :: D.undef :: D.undef :: D.undef :: D.undef :: D.undef :: D.undef :: D.undef :: D.undef :: D.undef :: D.undef :: D.undef :: []), HD dv x.2 d1 ++ [hM (moM n), oI w d1.out]⟩) (fun x => d1.out.length - x.1)
      (fun x => x.1 ≤ d1.out.length) (0, ov) (Ghost.hold [5, 7, 80, 81, 82] rfl) (Nat.zero_le _) ?_
    rintro ⟨j, ov⟩ j1
    dsimp only at j1 ⊢
    refine exec_ok tab_ok mixed 1000 (bx := bxD ++ [true, false]) (own := []) ?_
    rcases Nat.lt_or_ge j d1.out.length with hj | hj
    · obtain ⟨x, hx⟩ := at_lt hj
      have htw := fun vs => ann_twice hd1 hnp hn1 (List.mem_of_getElem? hx) vs
      repeat' ((conv => whnf); first
        | refine Exists.intro _ (And.intro (map_at (by omega) hx) ?_) | refine And.intro (by rw [List.length_map]; omega) ?_ | refine And.intro (by decide) ?_ | refine And.intro rfl ?_ | refine And.intro (by omega) ?_ | refine Pure.call (f12_ok (moM n)) ?_ | refine boolF_dect (by omega) ?_)
      all_goals (conv => whnf)
      refine ann_call hd1 x.id (moM n) (mo_ok hnp) [_, _] (fun vs Z hN hZ => ?_)
      rw [htw vs] at hN ⊢
      repeat' ((conv => whnf); first
        | refine Exists.intro _ (And.intro (w64 (by omega) (by omega)) ?_))
      all_goals (conv => whnf)
      obtain ⟨ov2, g⟩ := nearC_pick (F := [hM (moM n), oI w d1.out]) (s := (D.undef :: D.undef :: D.undef :: D.undef :: D.undef :: .p 18 0 0 0 :: D.undef :: .p 0 dv 0 0 :: D.undef :: D.undef :: D.undef :: D.undef :: D.undef :: D.undef :: D.undef :: D.undef :: D.undef :: D.undef :: D.undef :: D.undef :: D.undef :: D.undef :: D.undef :: D.undef :: D.undef :: D.undef :: D.undef :: D.undef :: D.undef :: D.undef :: D.undef :: D.undef :: D.undef :: D.undef :: D.undef :: D.undef :: D.undef :: D.undef :: D.undef :: D.undef :: D.undef :: D.undef :: D.undef :: D.undef :: D.undef :: D.undef :: D.undef :: D.undef :: D.undef :: D.undef :: D.undef :: D.undef :: D.undef :: D.undef :: D.undef :: D.undef :: D.undef :: D.undef :: D.undef :: D.undef :: D.undef :: D.undef :: D.undef :: D.undef :: D.undef :: D.undef :: D.undef :: D.undef :: D.undef :: D.undef :: D.undef :: D.undef :: D.undef :: D.undef :: D.undef :: D.undef :: D.undef :: D.undef :: D.undef :: D.undef :: .h 19 w 0 d1.out.length :: .int .i64 (d1.out.length : Int) :: .int .i64 ((j + 1 : Nat) : Int) :: D.undef :: D.undef :: D.undef :: D.undef :: D.undef :: D.undef :: D.undef :: D.undef :: D.undef :: D.undef :: D.undef :: D.undef :: D.undef :: D.undef :: D.undef :: D.undef :: D.undef :: D.undef :: D.undef :: D.undef :: D.undef :: D.undef :: D.undef :: D.undef :: D.undef :: D.undef :: D.undef :: D.undef :: D.undef :: D.undef :: D.undef :: D.undef :: D.undef :: D.undef :: D.undef :: D.undef :: D.undef :: D.undef :: D.undef :: D.undef :: D.undef :: D.undef :: D.undef :: D.undef :: D.undef :: [])) hN rfl hZ (two_mem (schM _ _) (scoI _ _ _)) (fun k => rfl) (by simp [scs, D.sc])
      exact ⟨(j + 1, ov2), (Ghost.hold [5, 7, 80, 81, 82] rfl).trans g, hj, by dsimp only; omega⟩
    · repeat' ((conv => whnf); first
        | refine boolF_decf (by omega) ?_)
      all_goals (conv => whnf)
      refine lookN.call (f18_at dv ov hd1) [_, _] (fun w2 => ?_)
      repeat' ((conv => whnf); first
        | refine And.intro rfl ?_)
      all_goals (conv => whnf)
      refine W_loopG (ι := Nat × Nat × Dst) (fun x => ⟨(D.undef :: D.undef :: D.undef :: D.undef :: D.undef :: .p 18 0 0 0 :: D.undef :: .p 0 dv 0 0 :: D.undef :: D.undef :: D.undef :: D.undef :: D.undef :: D.undef :: D.undef :: D.undef :: D.undef :: D.undef :: D.undef :: D.undef :: D.undef :: D.undef :: D.undef :: D.undef :: D.undef :: D.undef :: D.undef :: D.undef :: D.undef :: D.undef :: D.undef :: D.undef :: D.undef :: D.undef :: D.undef :: D.undef :: D.undef :: D.undef :: D.undef :: D.undef :: D.undef :: D.undef :: D.undef :: D.undef :: D.undef :: D.undef :: D.undef :: D.undef :: D.undef :: D.undef :: D.undef :: D.undef :: D.undef :: D.undef :: D.undef :: D.undef :: D.undef :: D.undef :: D.undef :: D.undef :: D.undef :: D.undef :: D.undef :: D.undef :: D.undef :: D.undef :: D.undef :: D.undef :: D.undef :: D.undef :: D.undef :: D.undef :: D.undef :: D.undef :: D.undef :: D.undef :: D.undef :: D.undef :: D.undef :: D.undef :: D.undef :: D.undef :: D.undef :: D.undef :: D.undef :: D.undef :: D.undef :: D.undef :: D.undef :: D.undef :: D.undef :: D.undef :: D.undef :: D.undef :: .h 20 w2 0 d1.out.length :: .int .i64 (d1.out.length : Int) :: .int .i64 (x.1 : Int) :: D.undef :: D.undef :: D.undef :: D.undef :: D.undef :: D.undef :: D.undef :: D.undef :: D.undef :: D.undef :: D.undef :: D.undef :: D.undef :: D.undef :: D.undef :: D.undef :: D.undef :: D.undef :: D.undef :: D.undef :: D.undef :: D.undef :: D.undef :: D.undef :: D.undef :: D.undef :: D.undef :: D.undef :: D.undef :: D.undef :: D.undef :: []), HD dv x.2.1 x.2.2 ++ [hM (moM n), oI w d1.out, oI w2 d1.out]⟩) (fun x => d1.out.length - x.1)
        (fun x => x.1 ≤ d1.out.length ∧ InvD x.2.2 ∧ x.2.2.id = 0 ∧ x.2.2.n = n ∧ x.2.2.out = d1.out.drop x.1) (0, ov, d1) (Ghost.hold [5, 7, 94, 95, 96] rfl) ⟨Nat.zero_le _, hd1, hi1, hn1, rfl⟩ ?_
      rintro ⟨j, ov, e⟩ ⟨j1, he, hid, hen, heo⟩
      dsimp only at j1 he hid hen heo ⊢
      rcases Nat.lt_or_ge j d1.out.length with hj | hj
      · obtain ⟨x, hx⟩ := at_lt hj
        rw [drop_of_get hx] at heo
        have hxp := he.pos x (by rw [heo]; exact List.mem_cons_self)
        have hdl := del_yes heo he
        have he1 := inv_deleteD he x.id
        have hlen := congrArg List.length heo
        have hol := he.out
        have hno : ∀ y ∈ d1.out.drop (j + 1), y.id ≠ x.id := fun y hy => by
          obtain ⟨k, hk⟩ := List.getElem?_of_mem hy
          rw [List.getElem?_drop] at hk
          exact (nd_ne hd1.nd hx hk (by omega)).symm
        rw [List.length_cons] at hlen
        rw [hdl] at he1
        dsimp only at he1
        obtain ⟨e1, he1e⟩ : ∃ e1 : Dst, e1 = { e with out := d1.out.drop (j + 1) } := ⟨_, rfl⟩
        have e1o : e1.out = d1.out.drop (j + 1) := by rw [he1e]
        have e1n : e1.n = n := by rw [he1e]; exact hen
        have e1i : e1.id = 0 := by rw [he1e]; exact hid
        rw [← he1e] at hdl he1
        rw [← e1o] at hno hlen
        have hdn1 := del_not hno
        have han := fun vs => ann_new hnp e1n hxp hno e1i (by omega) vs
        refine exec_ok tab_ok mixed 9 (bx := bxD ++ [true, false, false]) (own := []) ?_
        repeat' ((conv => whnf); first
          | refine Exists.intro _ (And.intro (map_at (by omega) hx) ?_) | refine And.intro (by rw [List.length_map]; omega) ?_ | refine And.intro (by decide) ?_ | refine And.intro rfl ?_ | refine And.intro (by omega) ?_ | refine boolF_dect (by omega) ?_)
        all_goals (conv => whnf)
        refine W_seq ?_
        refine W_region ?_
        show W Try.prog 0 (.ops _ _ (List.range' 0 16 ++ List.range' 16 7) :: _) _ _
        refine W_opsG tab_ok (own := []) (bx := bxD ++ [true, false, false]) (ι := Nat × Dst) (fun x => ⟨(D.undef :: D.undef :: D.undef :: D.undef :: D.undef :: .p 18 0 0 0 :: D.undef :: .p 0 dv 0 0 :: D.undef :: D.undef :: D.undef :: D.undef :: D.undef :: D.undef :: D.undef :: D.undef :: D.undef :: D.undef :: D.undef :: D.undef :: D.undef :: D.undef :: D.undef :: D.undef :: D.undef :: D.undef :: D.undef :: D.undef :: D.undef :: D.undef :: D.undef :: D.undef :: D.undef :: D.undef :: D.undef :: D.undef :: D.undef :: D.undef :: D.undef :: D.undef :: D.undef :: D.undef :: D.undef :: D.undef :: D.undef :: D.undef :: D.undef :: D.undef :: D.undef :: D.undef :: D.undef :: D.undef :: D.undef :: D.undef :: D.undef :: D.undef :: D.undef :: D.undef :: D.undef :: D.undef :: D.undef :: D.undef :: D.undef :: D.undef :: D.undef :: D.undef :: D.undef :: D.undef :: D.undef :: D.undef :: D.undef :: D.undef :: D.undef :: D.undef :: D.undef :: D.undef :: D.undef :: D.undef :: D.undef :: D.undef :: D.undef :: D.undef :: D.undef :: D.undef :: D.undef :: D.undef :: D.undef :: D.undef :: D.undef :: D.undef :: D.undef :: D.undef :: D.undef :: D.undef :: .h 20 w2 0 d1.out.length :: .int .i64 (d1.out.length : Int) :: .int .i64 (j : Int) :: D.undef :: D.undef :: D.undef :: D.undef :: D.undef :: D.undef :: D.undef :: D.undef :: D.undef :: D.undef :: D.undef :: D.undef :: D.undef :: .bool false :: D.undef :: D.undef :: D.undef :: D.undef :: .int .i64 0 :: D.undef :: D.undef :: D.undef :: D.undef :: D.undef :: D.undef :: D.undef :: D.undef :: D.undef :: D.undef :: D.undef :: D.undef :: []), HD dv x.1 x.2 ++ [hM (moM n), oI w d1.out, oI w2 d1.out]⟩)
          (fun y => InvD y.2 ∧ y.2.id ≠ 0 ∧ y.2.n = n ∧ y.2.out = d1.out.drop (j + 1)) 0 16 (by decide) ?_ ?_
        · (conv => whnf)
          refine turnV.call (f24_at dv ov he x.id) [_, _, _] ⟨trivial, trivial⟩ trivial (fun ov1 => ?_)
          rw [hdl]
          (conv => whnf)
          refine turnV.call (f24_at dv ov1 he1 x.id) [_, _, _] ⟨trivial, trivial⟩ trivial (fun ov2 => ?_)
          rw [hdn1]
          repeat' ((conv => whnf); first
            | refine And.intro (by decide) ?_ | refine Pure.call (f12_ok (moM n)) ?_)
          all_goals (conv => whnf)
          refine ann_call he1 x.id (moM n) (mo_ok hnp) [_, _, _] (fun vs Z hN hZ => ?_)
          obtain ⟨a1, a2, a3, a4⟩ := han vs
          have he2 := inv_ann he1 (id := x.id) (m := moM n) (vs := vs)
          obtain ⟨T, hT⟩ : ∃ T, T = annD e1 x.id (moM n) vs := ⟨_, rfl⟩
          rw [← hT] at hN a1 a2 a3 a4 he2 ⊢
          rw [a1]
          (conv => whnf)
          obtain ⟨ov3, g⟩ := nearC_pick (F := [hM (moM n), oI w d1.out, oI w2 d1.out]) (s := (D.undef :: D.undef :: D.undef :: D.undef :: D.undef :: .p 18 0 0 0 :: D.undef :: .p 0 dv 0 0 :: D.undef :: D.undef :: D.undef :: D.undef :: D.undef :: D.undef :: D.undef :: D.undef :: D.undef :: D.undef :: D.undef :: D.undef :: D.undef :: D.undef :: D.undef :: D.undef :: D.undef :: D.undef :: D.undef :: D.undef :: D.undef :: D.undef :: D.undef :: D.undef :: D.undef :: D.undef :: D.undef :: D.undef :: D.undef :: D.undef :: D.undef :: D.undef :: D.undef :: D.undef :: D.undef :: D.undef :: D.undef :: D.undef :: D.undef :: D.undef :: D.undef :: D.undef :: D.undef :: D.undef :: D.undef :: D.undef :: D.undef :: D.undef :: D.undef :: D.undef :: D.undef :: D.undef :: D.undef :: D.undef :: D.undef :: D.undef :: D.undef :: D.undef :: D.undef :: D.undef :: D.undef :: D.undef :: D.undef :: D.undef :: D.undef :: D.undef :: D.undef :: D.undef :: D.undef :: D.undef :: D.undef :: D.undef :: D.undef :: D.undef :: D.undef :: D.undef :: D.undef :: D.undef :: D.undef :: D.undef :: D.undef :: D.undef :: D.undef :: D.undef :: D.undef :: D.undef :: .h 20 w2 0 d1.out.length :: .int .i64 (d1.out.length : Int) :: .int .i64 (j : Int) :: D.undef :: D.undef :: D.undef :: D.undef :: D.undef :: D.undef :: D.undef :: D.undef :: D.undef :: D.undef :: D.undef :: D.undef :: D.undef :: .bool false :: D.undef :: D.undef :: D.undef :: D.undef :: .int .i64 0 :: D.undef :: D.undef :: D.undef :: D.undef :: D.undef :: D.undef :: D.undef :: D.undef :: D.undef :: D.undef :: D.undef :: D.undef :: [])) hN rfl hZ (three_mem (schM _ _) (scoI _ _ _) (scoI _ _ _)) (fun k => rfl) (by simp [scs, D.sc])
          exact ⟨(ov3, T.1), (Ghost.hold [5, 7, 94, 95, 96, 110, 115] rfl).trans g, he2, by dsimp only; omega, by dsimp only; rw [a3, e1n], by dsimp only; rw [a4, e1o]⟩
        · rintro ⟨ov3, e2⟩ ⟨he2, b1, b2, b3⟩
          dsimp only at he2 b1 b2 b3 ⊢
          have hc : (cancelD e2).2 = 0 := by rw [cancelD, if_neg b1]
          have he3 := inv_cancelD he2
          have c1 := cancel_id e2
          have c2 := cancel_n e2
          have c3 := cancel_out e2
          have h23 := f23_at dv ov3 he2
          obtain ⟨T, hT⟩ : ∃ T, T = cancelD e2 := ⟨_, rfl⟩
          rw [← hT] at hc he3 c1 c2 c3 h23
          refine W_opsR tab_ok (own := []) (bx := bxD ++ [true, false, false]) (X := fun s H bx => exec Try.prog tab 0 [] 1000 _ s H bx _) 16 7 (by decide) (fun s H bx h => exec_ok tab_ok mixed 1000 h) ?_
          (conv => whnf)
          refine TurnD.call h23 [_, _, _] trivial ?_
          rw [hc]
          repeat' ((conv => whnf); first
            | refine Exists.intro _ (And.intro (w64 (by omega) (by omega)) ?_))
          all_goals (conv => whnf)
          exact ⟨(j + 1, ov3, T.1), Ghost.hold [5, 7, 94, 95, 96] rfl, ⟨hj, he3, c1, by dsimp only; rw [c2, b2], by dsimp only; rw [c3, b3]⟩, by dsimp only; omega⟩
      · refine exec_ok tab_ok mixed 1000 (bx := bxD ++ [true, false, false]) (own := []) ?_
        rw [List.drop_of_length_le hj] at heo
        repeat' ((conv => whnf); first
          | refine boolF_decf (by omega) ?_)
        all_goals (conv => whnf)
        refine lookN.call (f18_at dv ov he) [_, _, _] (fun w3 => ?_)
        rw [heo]
        repeat' ((conv => whnf); first
          | refine And.intro rfl ?_)
        all_goals (conv => whnf)
        exact ⟨rfl⟩

end Go.Proofs.Ytgigpjkdfhhahaa

