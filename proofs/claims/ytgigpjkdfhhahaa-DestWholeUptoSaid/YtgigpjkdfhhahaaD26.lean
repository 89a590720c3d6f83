import Derived.Test.YtgigpjkdfhhahaaD25
namespace Go.Proofs.Ytgigpjkdfhhahaa
open Go.A
set_option linter.unusedVariables false
set_option linter.unusedSimpArgs false
set_option linter.unnecessarySimpa false
attribute [local irreducible] IntKind.wrap bitsI
open B L M
set_option maxRecDepth 100000
set_option maxHeartbeats 4000000

def mD : Option (List Nat) → D
  | none => .nils
  | some v => d35 v
def mkD (mk : Nat → Option (List Nat)) : List D := (List.range 16).map fun j => mD (mk j)
def oM (mk : Nat → Option (List Nat)) : AObj := .arr 0 16 [.agg (mkD mk)]
theorem scmD (k : Nat) (o : Option (List Nat)) : (mD o).sc k := by
  cases o with
  | none => trivial
  | some v => exact scd35 k v
theorem scoM (k : Nat) (mk : Nat → Option (List Nat)) : (oM mk).sc k := ⟨scs_map.mpr fun j _ => scmD k (mk j), trivial⟩
theorem mkD_at (mk : Nat → Option (List Nat)) {i : Int} {j : Nat} (e : i = (j : Int)) (h : j < 16) : (mkD mk)[i.toNat]? = some (mD (mk j)) := by
  subst e
  rw [mkD, List.getElem?_map, Int.toNat_natCast, List.getElem?_range h]; rfl
theorem scd25 (k : Nat) (l : List T38) : (d25 l).sc k := scs_map.mpr fun x _ => ⟨trivial, scd37 _ _, trivial⟩
theorem ren25 (ρ : Nat → Nat) (l : List T38) : ren ρ (d25 l) = d25 l := ren_sc0 ρ _ (scd25 0 l)
theorem dropK_of {l l' : List D} {k : Nat} {X : List D → Prop} (h : l.drop k = l') (hx : X l') : dropK k l X := dropK_iff.mpr (h ▸ hx)
theorem mkD_drop (mk : Nat → Option (List Nat)) {k j : Nat} (e : k = j) (h : j < 16) : (mkD mk).drop k = mD (mk j) :: (mkD mk).drop (j + 1) := by
  subst e
  exact drop_of_get (by rw [mkD, List.getElem?_map, List.getElem?_range h]; rfl)
theorem strm_at {N : Nat} {h : T43} {ops : List B.Op} (s : Stream N h ops) (hb : bigD ops) (hd : h.data_.length ≤ 140737488351232) {k : Nat} {r : T43} (hr : (strmL h ops)[k]? = some r) : r.data_.length ≤ 140737488351232 ∧ (r.kind_ = 1 → r.snap_ = h.snap_) := by
  have hm := List.mem_of_getElem? hr
  rw [strmL] at hm
  rcases List.mem_cons.mp hm with rfl | hm
  · exact ⟨hd, fun _ => rfl⟩
  rcases List.mem_append.mp hm with hm | hm
  · obtain ⟨o, ho, rfl⟩ := List.mem_map.mp hm
    refine ⟨hb o ho, fun g => ?_⟩
    obtain ⟨_, ⟨k2, _⟩ | ⟨k3, _⟩⟩ := opOf_rec (s.mayAt ho)
    · omega
    · omega
  · simp only [List.mem_singleton] at hm; subst hm
    exact ⟨Nat.zero_le _, fun g => absurd g (by show ¬ (4 : Int) = 1; decide)⟩
def xB (x : T38) : AObj := .arr 0 2 [.agg (c39 x)]
theorem scxB (k : Nat) (x : T38) : (xB x).sc k := ⟨⟨trivial, scd37 _ _, trivial⟩, trivial⟩
theorem sc20 (dv ov : Nat) (d : Dst) {A B : AObj} (ha : A.sc 20) (hb : B.sc 20) : ∀ x ∈ HD dv ov d ++ [A, B], x.sc 20 := fun x hx => by
  rcases List.mem_append.mp hx with h | h
  · exact scHDn (by decide) _ _ _ x h
  · simp only [List.mem_cons, List.not_mem_nil, or_false] at h
    rcases h with rfl | rfl
    · exact ha
    · exact hb
/-- The berths, while node j's stream comes. -/
def btk (m : T23) (N : Nat) (x : T38) (j : Nat) (mk : Nat → Option (List Nat)) (k : Nat) (i : Nat) : Bt :=
  if i = j then stAt ⟨1, x.node_, 7, 0, m.version_, 0, m.n_, []⟩ x.ops_ (zer N) 0 (zer N) k else laidB m.version_ m.n_ i (mk i)
def mkS (mk : Nat → Option (List Nat)) (j : Nat) (v : List Nat) : Nat → Option (List Nat) := fun i => if i = j then some v else mk i
theorem WhA.congr {m : T23} {bt bt' : Nat → Bt} {d : Dst} (h : WhA m bt d) (e : ∀ j, j < 16 → bt' j = bt j) : WhA m bt' d := ⟨h.id, h.out, h.n, h.ver, h.mp, fun j hj => (h.bs j hj).trans (e j hj).symm⟩
theorem btk_zero {m : T23} {N : Nat} {x : T38} {j : Nat} {mk : Nat → Option (List Nat)} (hN : N = m.n_.toNat) (hj : x.node_ = (j : Int)) (hm : mk j = none) (i : Nat) : btk m N x j mk 0 i = laidB m.version_ m.n_ i (mk i) := by
  unfold btk
  split
  · rename_i e
    subst e
    rw [hm, stAt, if_pos rfl, laidB, newB, hN, hj]
  · rfl
theorem btk_end {m : T23} {N : Nat} {x : T38} {j : Nat} {mk : Nat → Option (List Nat)} (hj : x.node_ = (j : Int)) (i : Nat) : btk m N x j mk (x.ops_.length + 2) i = laidB m.version_ m.n_ i (mkS mk j (applyL (zer N) x.ops_) i) := by
  unfold btk mkS
  split
  · rename_i e
    subst e
    rw [stAt, if_neg (by omega), if_neg (by omega), laidB, hj]
  · rfl
theorem btk_there {m : T23} {N : Nat} {x : T38} {j : Nat} {mk : Nat → Option (List Nat)} {k : Nat} (hk : k < x.ops_.length + 2) (i : Nat) (h : (btk m N x j mk k i).there = 7) : ∃ v, mk i = some v ∧ (btk m N x j mk k i).all = v := by
  unfold btk at h ⊢
  split at h
  · exfalso
    unfold stAt at h
    split at h
    · exact absurd h (by show ¬ (0 : Int) = 7; decide)
    split at h
    · exact absurd h (by show ¬ (0 : Int) = 7; decide)
    · omega
  · rename_i e
    rw [if_neg e]
    obtain ⟨v, hv⟩ := (laid_there _ _ _ _).mp h
    exact ⟨v, hv, by rw [hv]; rfl⟩
theorem mkD_one (mk : Nat → Option (List Nat)) : (mkD mk).all D.one = true := by
  rw [List.all_eq_true]
  intro d hd
  obtain ⟨j, _, rfl⟩ := List.mem_map.mp hd
  cases h : mk j with
  | none => simp only [mD]; rfl
  | some v => simp only [mD]; rfl
theorem mkD_splice (mk : Nat → Option (List Nat)) {k j : Nat} (e : k = j) (h : j < 16) (v : List Nat) : spliceL (mkD mk) k [d35 v] = mkD (mkS mk j v) := by
  subst e
  have hl : (mkD mk).length = 16 := by rw [mkD, List.length_map, List.length_range]
  have hs : spliceL (mkD mk) k [d35 v] = (mkD mk).set k (d35 v) := by
    rw [spliceL, List.set_eq_take_append_cons_drop, if_pos (by omega)]
    simp
  rw [hs]
  refine List.ext_getElem? fun i => ?_
  rw [List.getElem?_set]
  by_cases e : k = i
  · subst e
    rw [if_pos rfl, if_pos (by omega), mkD, List.getElem?_map, List.getElem?_range h]
    show _ = some (mD (if k = k then some v else mk k))
    rw [if_pos rfl]; rfl
  · rw [if_neg e, mkD, mkD, List.getElem?_map, List.getElem?_map]
    rcases Nat.lt_or_ge i 16 with h2 | h2
    · rw [List.getElem?_range h2, Option.map_some, Option.map_some]
      show some (mD (mk i)) = some (mD (if i = k then some v else mk i))
      rw [if_neg (fun g => e g.symm)]
    · rw [List.getElem?_eq_none (by simpa using h2)]; rfl
theorem ann_whole {m : T23} (hr : rightP m) (vs vs2 : List Nat) : (annD (newDst m.n_ (bsOf 0 m.n_ vs)) 7 m vs2).2 = 0 ∧ WhA m (fun j => laidB m.version_ m.n_ j none) (annD (newDst m.n_ (bsOf 0 m.n_ vs)) 7 m vs2).1 := by
  have e2 : (newDst m.n_ (bsOf 0 m.n_ vs)).id = 0 := rfl
  have e3 : (newDst m.n_ (bsOf 0 m.n_ vs)).out.length = 0 := rfl
  have hg : ¬ ((7 : Int) < 1 ∨ ¬ rightP m ∨ m.n_ ≠ (newDst m.n_ (bsOf 0 m.n_ vs)).n) := by
    rintro (g | g | g)
    · exact absurd g (by decide)
    · exact g hr
    · exact g rfl
  have hv : ¬ m.version_ = (newDst m.n_ (bsOf 0 m.n_ vs)).version := by
    have := hr.1
    show ¬ m.version_ = 0
    omega
  rw [annD, if_neg hg, find_not (fun x hx => by cases hx), e2, e3, if_neg (by decide), if_neg (by decide), if_neg (by decide), if_neg hv]
  exact ⟨rfl, rfl, rfl, rfl, rfl, rfl, fun j hj => rfl⟩

theorem destWhole_true (m : T23) (streams : List T38) (early : Nat) (h0 : ok24 m) (h1 : ok25 streams) (h2 : ok5 early) (hu : ∀ x ∈ streams, x.ops_.length ≤ 1048576) : Go.A.CallsIn Try.prog 3 [d24 m, d25 streams, d5 early] [] fun r _ => r = .bool true := by
  have h8 := f8_ok m h0
  have hsl : streams.length ≤ 140737488351232 := by have := h1.2; simp [td39] at this; omega
  by_cases hr : rightP m
  case neg =>
    rw [decide_eq_false hr] at h8
    refine Go.A.CallsIn.of_exec tab_ok mixed Try.func3 rfl rfl [] [] ?_
    repeat' ((conv => whnf); first
      | refine Pure.call (f9_ok) ?_ | refine Pure.call (h8) ?_)
    all_goals (conv => whnf)
    exact ⟨rfl⟩
  rw [decide_eq_true hr] at h8
  have hr0 := hr
  have he8 : early < 256 := h2
  have hnp : newP m.n_ := ⟨hr.2.2.1, hr.2.2.2.1⟩
  refine Go.A.CallsIn.of_execN 10 tab_ok mixed Try.func3 rfl rfl [137] [] ?_
  repeat' ((conv => whnf); first
    | refine Pure.call (h8) ?_)
  all_goals (conv => whnf)
  refine (f10_own m.n_ hnp).mono ?_
  rintro r H' ⟨dv, ov, vs, rfl, rfl⟩
  (conv => whnf)
  refine W_seq ?_
  refine W_region ?_
  show W Try.prog 0 (.ops _ _ (List.range' 0 11 ++ List.range' 11 6) :: _) _ _
  refine W_opsG tab_ok (own := [137]) (bx := bxD) (ι := Nat × Dst) (fun x => ⟨(D.undef :: d25 streams :: d5 early :: .pe (c24 m) :: D.undef :: D.undef :: D.undef :: .p 0 dv 0 0 :: D.undef :: D.undef :: D.undef :: D.undef :: D.undef :: D.undef :: D.undef :: D.undef :: D.undef :: D.undef :: D.undef :: D.undef :: D.undef :: D.undef :: D.undef :: D.undef :: D.undef :: D.undef :: D.undef :: D.undef :: D.undef :: D.undef :: D.undef :: D.undef :: D.undef :: D.undef :: D.undef :: D.undef :: D.undef :: D.undef :: D.undef :: .bool false :: D.undef :: D.undef :: D.undef :: .int .i64 0 :: D.undef :: D.undef :: D.undef :: D.undef :: D.undef :: D.undef :: D.undef :: D.undef :: D.undef :: D.undef :: D.undef :: D.undef :: D.undef :: D.undef :: D.undef :: D.undef :: D.undef :: D.undef :: D.undef :: D.undef :: D.undef :: D.undef :: D.undef :: D.undef :: D.undef :: D.undef :: D.undef :: D.undef :: D.undef :: D.undef :: D.undef :: D.undef :: D.undef :: D.undef :: D.undef :: D.undef :: D.undef :: D.undef :: D.undef :: D.undef :: D.undef :: D.undef :: D.undef :: D.undef :: D.undef :: D.undef :: D.undef :: D.undef :: D.undef :: D.undef :: D.undef :: D.undef :: D.undef :: D.undef :: D.undef :: D.undef :: D.undef :: D.undef :: D.undef :: D.undef :: D.undef :: D.undef :: D.undef :: D.undef :: D.undef :: D.undef :: D.undef :: D.undef :: D.undef :: D.undef :: D.undef :: D.undef :: D.undef :: D.undef :: D.undef :: D.undef :: D.undef :: D.undef :: D.undef :: D.undef :: D.undef :: D.undef :: D.undef :: D.undef :: D.undef :: D.undef :: D.undef :: D.undef :: D.undef :: D.undef :: D.undef :: D.undef :: D.undef :: D.undef :: D.undef :: D.undef :: D.undef :: D.undef :: D.undef :: D.undef :: D.undef :: D.undef :: D.undef :: D.undef :: D.undef :: D.undef :: D.undef :: D.undef :: D.undef :: D.undef :: D.undef :: D.undef :: D.undef :: D.undef :: D.undef :: D.undef :: D.undef :: D.undef :: D.undef :: D.undef :: D.undef :: D.undef :: D.undef :: D.undef :: D.undef :: D.undef :: D.undef :: D.undef :: D.undef :: D.undef :: D.undef :: D.undef :: D.undef :: D.undef :: D.undef :: D.undef :: D.undef :: D.undef :: D.undef :: D.undef :: D.undef :: D.undef :: D.undef :: D.undef :: D.undef :: D.undef :: D.undef :: D.undef :: D.undef :: D.undef :: D.undef :: D.undef :: D.undef :: D.undef :: D.undef :: D.undef :: D.undef :: D.undef :: D.undef :: D.undef :: D.undef :: D.undef :: D.undef :: D.undef :: D.undef :: D.undef :: D.undef :: D.undef :: D.undef :: D.undef :: D.undef :: []), HD dv x.1 x.2⟩) (fun x => InvD x.2 ∧ WhA m (fun j => laidB m.version_ m.n_ j none) x.2) 0 11 (by decide) ?_ ?_
  · repeat' ((conv => whnf); first
      | refine And.intro rfl ?_ | refine Pure.call (f12_ok m) ?_)
    all_goals (conv => whnf)
    refine (f11_at dv ov (inv_newD hnp vs) 7 m h0).mono ?_
    rintro r H' ⟨vs2, rfl, hN⟩
    obtain ⟨a1, a2⟩ := ann_whole hr vs vs2
    have a3 := inv_ann (inv_newD hnp vs) (id := 7) (m := m) (vs := vs2)
    obtain ⟨T, hT⟩ : ∃ T, T = annD (newDst m.n_ (bsOf 0 m.n_ vs)) 7 m vs2 := ⟨_, rfl⟩
    rw [← hT] at hN a1 a2 a3 ⊢
    rw [a1]
    (conv => whnf)
    obtain ⟨ov', g⟩ := near_pick0 hN (s := (D.undef :: d25 streams :: d5 early :: .pe (c24 m) :: D.undef :: D.undef :: D.undef :: .p 0 dv 0 0 :: D.undef :: D.undef :: D.undef :: D.undef :: D.undef :: D.undef :: D.undef :: D.undef :: D.undef :: D.undef :: D.undef :: D.undef :: D.undef :: D.undef :: D.undef :: D.undef :: D.undef :: D.undef :: D.undef :: D.undef :: D.undef :: D.undef :: D.undef :: D.undef :: D.undef :: D.undef :: D.undef :: D.undef :: D.undef :: D.undef :: D.undef :: .bool false :: D.undef :: D.undef :: D.undef :: .int .i64 0 :: D.undef :: D.undef :: D.undef :: D.undef :: D.undef :: D.undef :: D.undef :: D.undef :: D.undef :: D.undef :: D.undef :: D.undef :: D.undef :: D.undef :: D.undef :: D.undef :: D.undef :: D.undef :: D.undef :: D.undef :: D.undef :: D.undef :: D.undef :: D.undef :: D.undef :: D.undef :: D.undef :: D.undef :: D.undef :: D.undef :: D.undef :: D.undef :: D.undef :: D.undef :: D.undef :: D.undef :: D.undef :: D.undef :: D.undef :: D.undef :: D.undef :: D.undef :: D.undef :: D.undef :: D.undef :: D.undef :: D.undef :: D.undef :: D.undef :: D.undef :: D.undef :: D.undef :: D.undef :: D.undef :: D.undef :: D.undef :: D.undef :: D.undef :: D.undef :: D.undef :: D.undef :: D.undef :: D.undef :: D.undef :: D.undef :: D.undef :: D.undef :: D.undef :: D.undef :: D.undef :: D.undef :: D.undef :: D.undef :: D.undef :: D.undef :: D.undef :: D.undef :: D.undef :: D.undef :: D.undef :: D.undef :: D.undef :: D.undef :: D.undef :: D.undef :: D.undef :: D.undef :: D.undef :: D.undef :: D.undef :: D.undef :: D.undef :: D.undef :: D.undef :: D.undef :: D.undef :: D.undef :: D.undef :: D.undef :: D.undef :: D.undef :: D.undef :: D.undef :: D.undef :: D.undef :: D.undef :: D.undef :: D.undef :: D.undef :: D.undef :: D.undef :: D.undef :: D.undef :: D.undef :: D.undef :: D.undef :: D.undef :: D.undef :: D.undef :: D.undef :: D.undef :: D.undef :: D.undef :: D.undef :: D.undef :: D.undef :: D.undef :: D.undef :: D.undef :: D.undef :: D.undef :: D.undef :: D.undef :: D.undef :: D.undef :: D.undef :: D.undef :: D.undef :: D.undef :: D.undef :: D.undef :: D.undef :: D.undef :: D.undef :: D.undef :: D.undef :: D.undef :: D.undef :: D.undef :: D.undef :: D.undef :: D.undef :: D.undef :: D.undef :: D.undef :: D.undef :: D.undef :: D.undef :: D.undef :: D.undef :: D.undef :: D.undef :: D.undef :: D.undef :: D.undef :: D.undef :: D.undef :: D.undef :: D.undef :: D.undef :: D.undef :: [])) (fun ρ h => by simp only [renL, ren25, ren, renL_sc0 ρ _ (show scs 0 (c24 m) from sc24 0 m), h, d5]) (by simp [scs, D.sc, scd25, d5]; exact sc24 _ m)
    exact ⟨(ov', T.1), (Ghost.hold [1, 2, 3, 7, 39, 43] rfl).trans g, a3, a2⟩
  · rintro ⟨ov, d⟩ ⟨hd, hw⟩
    dsimp only at hd hw ⊢
    refine W_opsR tab_ok (own := [137]) (bx := bxD) (X := fun s H bx => exec Try.prog tab 0 [137] 1000 _ s H bx _) 11 6 (by decide) (fun s H bx h => exec_ok tab_ok mixed 1000 h) ?_
    repeat' ((conv => whnf); first
      | refine And.intro (cells_map (fun _ => rfl)) ?_ | refine Exists.intro _ (And.intro (⟨(List.length_map _).symm⟩) ?_) | refine Exists.intro _ (And.intro (⟨List.map_take⟩) ?_) | refine Exists.intro _ (And.intro (⟨Eq.refl (α := Int) _⟩) (And.intro (by omega) ?_)) | refine Exists.intro _ (And.intro (min_int) ?_) | refine Pure.call (f9_ok) ?_)
    all_goals (conv => whnf)
    obtain ⟨L, hL⟩ : ∃ L, L = streams.take (min streams.length 40) := ⟨_, rfl⟩
    have hLl : L.length ≤ 40 := by rw [hL, List.length_take]; omega
    have hLm : ∀ x ∈ L, x ∈ streams := fun x hx => by rw [hL] at hx; exact List.mem_of_mem_take hx
    rw [← hL]
    clear hL
    have hd0n := hw.n
    obtain ⟨N, hN⟩ : ∃ N, N = m.n_.toNat := ⟨_, rfl⟩
    have hNi : m.n_ = (N : Int) := by have := hnp.1; omega
    have hN1 : 1 ≤ N ∧ N ≤ 1024 := by have := hnp; unfold newP at this; omega
    refine W_loopG (ι := Nat × Nat × Dst × (Nat → Option (List Nat))) (fun x => ⟨(D.undef :: D.undef :: d5 early :: .pe (c24 m) :: D.undef :: D.undef :: D.undef :: .p 0 dv 0 0 :: D.undef :: .p 18 0 0 0 :: D.undef :: D.undef :: D.undef :: D.undef :: D.undef :: D.undef :: D.undef :: D.undef :: D.undef :: D.undef :: D.undef :: D.undef :: D.undef :: D.undef :: D.undef :: D.undef :: D.undef :: D.undef :: D.undef :: D.undef :: D.undef :: D.undef :: D.undef :: D.undef :: D.undef :: D.undef :: D.undef :: D.undef :: D.undef :: D.undef :: D.undef :: D.undef :: D.undef :: D.undef :: D.undef :: D.undef :: D.undef :: D.undef :: D.undef :: D.undef :: D.undef :: D.undef :: D.undef :: D.undef :: d25 L :: .int .i64 (L.length : Int) :: .int .i64 (x.1 : Int) :: D.undef :: D.undef :: D.undef :: D.undef :: D.undef :: D.undef :: D.undef :: D.undef :: D.undef :: D.undef :: D.undef :: D.undef :: D.undef :: D.undef :: D.undef :: D.undef :: D.undef :: D.undef :: D.undef :: D.undef :: D.undef :: D.undef :: D.undef :: D.undef :: D.undef :: D.undef :: D.undef :: D.undef :: D.undef :: D.undef :: D.undef :: D.undef :: D.undef :: D.undef :: D.undef :: D.undef :: D.undef :: D.undef :: D.undef :: D.undef :: D.undef :: D.undef :: D.undef :: D.undef :: D.undef :: D.undef :: D.undef :: D.undef :: D.undef :: D.undef :: D.undef :: D.undef :: D.undef :: D.undef :: D.undef :: D.undef :: D.undef :: D.undef :: D.undef :: D.undef :: D.undef :: D.undef :: D.undef :: D.undef :: D.undef :: D.undef :: D.undef :: D.undef :: D.undef :: D.undef :: D.undef :: D.undef :: D.undef :: D.undef :: D.undef :: D.undef :: D.undef :: D.undef :: D.undef :: D.undef :: D.undef :: D.undef :: D.undef :: D.undef :: D.undef :: D.undef :: D.undef :: D.undef :: D.undef :: D.undef :: D.undef :: D.undef :: D.undef :: D.undef :: D.undef :: D.undef :: D.undef :: D.undef :: D.undef :: D.undef :: D.undef :: D.undef :: D.undef :: D.undef :: D.undef :: D.undef :: D.undef :: D.undef :: D.undef :: D.undef :: D.undef :: D.undef :: D.undef :: D.undef :: D.undef :: D.undef :: D.undef :: D.undef :: D.undef :: D.undef :: D.undef :: D.undef :: D.undef :: D.undef :: D.undef :: D.undef :: D.undef :: D.undef :: D.undef :: D.undef :: D.undef :: D.undef :: D.undef :: D.undef :: D.undef :: D.undef :: D.undef :: D.undef :: D.undef :: D.undef :: D.undef :: D.undef :: D.undef :: D.undef :: D.undef :: D.undef :: D.undef :: D.undef :: D.undef :: D.undef :: D.undef :: D.undef :: D.undef :: D.undef :: D.undef :: D.undef :: D.undef :: D.undef :: []), HD dv x.2.1 x.2.2.1 ++ [oM x.2.2.2]⟩) (fun x => L.length - x.1)
      (fun x => x.1 ≤ L.length ∧ InvD x.2.2.1 ∧ MkOk N x.2.2.2 ∧ x.2.2.1.n = m.n_ ∧ (WhA m (fun j => laidB m.version_ m.n_ j (x.2.2.2 j)) x.2.2.1 ∨ WhB m x.2.2.2 x.2.2.1)) (0, ov, d, fun _ => none) (Ghost.hold [2, 3, 7, 9, 54, 55, 56] rfl) ⟨Nat.zero_le _, hd, ⟨fun j v h => by cases h⟩, hd0n, .inl hw⟩ ?_
    rintro ⟨i, ov, d, mk⟩ ⟨i1, hd, hmk, hdn, hw⟩
    dsimp only at i1 hd hmk hdn hw ⊢
    rcases Nat.lt_or_ge i L.length with h | h
    · obtain ⟨x, hx⟩ := at_lt h
      have hxm := hLm x (List.mem_of_getElem? hx)
      have hxok := h1.1 x hxm
      have hxl := hu x hxm
      have stay : ∀ F : List AObj, ∃ j : Nat × Nat × Dst × (Nat → Option (List Nat)), Ghost 0 ((D.undef :: D.undef :: d5 early :: .pe (c24 m) :: D.undef :: D.undef :: D.undef :: .p 0 dv 0 0 :: D.undef :: .p 18 0 0 0 :: D.undef :: D.undef :: D.undef :: D.undef :: D.undef :: D.undef :: D.undef :: D.undef :: D.undef :: D.undef :: D.undef :: D.undef :: D.undef :: D.undef :: D.undef :: D.undef :: D.undef :: D.undef :: D.undef :: D.undef :: D.undef :: D.undef :: D.undef :: D.undef :: D.undef :: D.undef :: D.undef :: D.undef :: D.undef :: D.undef :: D.undef :: D.undef :: D.undef :: D.undef :: D.undef :: D.undef :: D.undef :: D.undef :: D.undef :: D.undef :: D.undef :: D.undef :: D.undef :: D.undef :: d25 L :: .int .i64 (L.length : Int) :: .int .i64 ((i + 1 : Nat) : Int) :: D.undef :: D.undef :: D.undef :: D.undef :: D.undef :: D.undef :: D.undef :: D.undef :: D.undef :: D.undef :: D.undef :: D.undef :: D.undef :: D.undef :: D.undef :: D.undef :: D.undef :: D.undef :: D.undef :: D.undef :: D.undef :: D.undef :: D.undef :: D.undef :: D.undef :: D.undef :: D.undef :: D.undef :: D.undef :: D.undef :: D.undef :: D.undef :: D.undef :: D.undef :: D.undef :: D.undef :: D.undef :: D.undef :: D.undef :: D.undef :: D.undef :: D.undef :: D.undef :: D.undef :: D.undef :: D.undef :: D.undef :: D.undef :: D.undef :: D.undef :: D.undef :: D.undef :: D.undef :: D.undef :: D.undef :: D.undef :: D.undef :: D.undef :: D.undef :: D.undef :: D.undef :: D.undef :: D.undef :: D.undef :: D.undef :: D.undef :: D.undef :: D.undef :: D.undef :: D.undef :: D.undef :: D.undef :: D.undef :: D.undef :: D.undef :: D.undef :: D.undef :: D.undef :: D.undef :: D.undef :: D.undef :: D.undef :: D.undef :: D.undef :: D.undef :: D.undef :: D.undef :: D.undef :: D.undef :: D.undef :: D.undef :: D.undef :: D.undef :: D.undef :: D.undef :: D.undef :: D.undef :: D.undef :: D.undef :: D.undef :: D.undef :: D.undef :: D.undef :: D.undef :: D.undef :: D.undef :: D.undef :: D.undef :: D.undef :: D.undef :: D.undef :: D.undef :: D.undef :: D.undef :: D.undef :: D.undef :: D.undef :: D.undef :: D.undef :: D.undef :: D.undef :: D.undef :: D.undef :: D.undef :: D.undef :: D.undef :: D.undef :: D.undef :: D.undef :: D.undef :: D.undef :: D.undef :: D.undef :: D.undef :: D.undef :: D.undef :: D.undef :: D.undef :: D.undef :: D.undef :: D.undef :: D.undef :: D.undef :: D.undef :: D.undef :: D.undef :: D.undef :: D.undef :: D.undef :: D.undef :: D.undef :: D.undef :: D.undef :: D.undef :: D.undef :: D.undef :: D.undef :: D.undef :: [])) (HD dv ov d ++ oM mk :: F) ((D.undef :: D.undef :: d5 early :: .pe (c24 m) :: D.undef :: D.undef :: D.undef :: .p 0 dv 0 0 :: D.undef :: .p 18 0 0 0 :: D.undef :: D.undef :: D.undef :: D.undef :: D.undef :: D.undef :: D.undef :: D.undef :: D.undef :: D.undef :: D.undef :: D.undef :: D.undef :: D.undef :: D.undef :: D.undef :: D.undef :: D.undef :: D.undef :: D.undef :: D.undef :: D.undef :: D.undef :: D.undef :: D.undef :: D.undef :: D.undef :: D.undef :: D.undef :: D.undef :: D.undef :: D.undef :: D.undef :: D.undef :: D.undef :: D.undef :: D.undef :: D.undef :: D.undef :: D.undef :: D.undef :: D.undef :: D.undef :: D.undef :: d25 L :: .int .i64 (L.length : Int) :: .int .i64 (j.1 : Int) :: D.undef :: D.undef :: D.undef :: D.undef :: D.undef :: D.undef :: D.undef :: D.undef :: D.undef :: D.undef :: D.undef :: D.undef :: D.undef :: D.undef :: D.undef :: D.undef :: D.undef :: D.undef :: D.undef :: D.undef :: D.undef :: D.undef :: D.undef :: D.undef :: D.undef :: D.undef :: D.undef :: D.undef :: D.undef :: D.undef :: D.undef :: D.undef :: D.undef :: D.undef :: D.undef :: D.undef :: D.undef :: D.undef :: D.undef :: D.undef :: D.undef :: D.undef :: D.undef :: D.undef :: D.undef :: D.undef :: D.undef :: D.undef :: D.undef :: D.undef :: D.undef :: D.undef :: D.undef :: D.undef :: D.undef :: D.undef :: D.undef :: D.undef :: D.undef :: D.undef :: D.undef :: D.undef :: D.undef :: D.undef :: D.undef :: D.undef :: D.undef :: D.undef :: D.undef :: D.undef :: D.undef :: D.undef :: D.undef :: D.undef :: D.undef :: D.undef :: D.undef :: D.undef :: D.undef :: D.undef :: D.undef :: D.undef :: D.undef :: D.undef :: D.undef :: D.undef :: D.undef :: D.undef :: D.undef :: D.undef :: D.undef :: D.undef :: D.undef :: D.undef :: D.undef :: D.undef :: D.undef :: D.undef :: D.undef :: D.undef :: D.undef :: D.undef :: D.undef :: D.undef :: D.undef :: D.undef :: D.undef :: D.undef :: D.undef :: D.undef :: D.undef :: D.undef :: D.undef :: D.undef :: D.undef :: D.undef :: D.undef :: D.undef :: D.undef :: D.undef :: D.undef :: D.undef :: D.undef :: D.undef :: D.undef :: D.undef :: D.undef :: D.undef :: D.undef :: D.undef :: D.undef :: D.undef :: D.undef :: D.undef :: D.undef :: D.undef :: D.undef :: D.undef :: D.undef :: D.undef :: D.undef :: D.undef :: D.undef :: D.undef :: D.undef :: D.undef :: D.undef :: D.undef :: D.undef :: D.undef :: D.undef :: D.undef :: D.undef :: D.undef :: D.undef :: D.undef :: D.undef :: D.undef :: [])) (HD dv j.2.1 j.2.2.1 ++ [oM j.2.2.2]) ∧ (j.1 ≤ L.length ∧ InvD j.2.2.1 ∧ MkOk N j.2.2.2 ∧ j.2.2.1.n = m.n_ ∧ (WhA m (fun i => laidB m.version_ m.n_ i (j.2.2.2 i)) j.2.2.1 ∨ WhB m j.2.2.2 j.2.2.1)) ∧ L.length - j.1 < L.length - i := fun F =>
        ⟨(i + 1, ov, d, mk), Ghost.back [2, 3, 7, 9, 54, 55, 56] 19 rfl rfl (Nat.zero_le _) (by simp [scs, D.sc, scd25, d5]; exact sc24 _ m) (scHDs (by decide) _ _ _ (scoM _ _)), ⟨h, hd, hmk, hdn, hw⟩, by dsimp only; omega⟩
      refine exec_ok tab_ok mixed 1000 (bx := bxD ++ [true]) (own := [137]) ?_
      by_cases hnode : isNode x.node_
      case neg =>
        have hno : x.node_ < 0 ∨ 15 < x.node_ := by unfold isNode at hnode; omega
        rcases hno with hno | hno
        · repeat' ((conv => whnf); first
            | refine Exists.intro _ (And.intro (map_at (by omega) hx) ?_) | refine And.intro (by decide) ?_ | refine And.intro rfl ?_ | refine And.intro (Nat.le_of_ble_eq_true rfl) ?_ | refine And.intro (by omega) ?_ | refine Exists.intro _ (And.intro (w64 (by omega) (by omega)) ?_) | refine boolF_dect (by assumption) ?_ | refine boolF_dect (by omega) ?_)
          all_goals (conv => whnf)
          obtain ⟨j, g, hj⟩ := stay [_]
          exact ⟨j, (Ghost.hold [2, 3, 7, 9, 54, 55, 56] rfl).trans g, hj⟩
        · repeat' ((conv => whnf); first
            | refine Exists.intro _ (And.intro (map_at (by omega) hx) ?_) | refine And.intro (by decide) ?_ | refine And.intro rfl ?_ | refine And.intro (Nat.le_of_ble_eq_true rfl) ?_ | refine And.intro (by omega) ?_ | refine Exists.intro _ (And.intro (w64 (by omega) (by omega)) ?_) | refine boolF_dect (by assumption) ?_ | refine boolF_dect (by omega) ?_ | refine boolF_decf (by omega) ?_)
          all_goals (conv => whnf)
          obtain ⟨j, g, hj⟩ := stay [_]
          exact ⟨j, (Ghost.hold [2, 3, 7, 9, 54, 55, 56] rfl).trans g, hj⟩
      obtain ⟨j, hj, hj16, _⟩ := isNode_nat hnode
      cases hmj : mk j with
      | some v =>
        have hvl := hmk.len j v hmj
        have hvne : v.map r56 ≠ [] := fun e => by
          have := congrArg List.length e
          rw [List.length_map] at this
          simp at this
          rw [this] at hvl
          simp at hvl
          omega
        repeat' ((conv => whnf); first
          | refine Exists.intro _ (And.intro (map_at (by omega) hx) ?_) | refine And.intro (show 0 + x.node_.toNat * 1 < 16 by omega) ?_ | refine dropK_of ((mkD_drop mk (show 0 + x.node_.toNat * 1 = j by omega) hj16).trans (by rw [hmj])) ?_ | refine And.intro hvne ?_ | refine And.intro (by decide) ?_ | refine And.intro rfl ?_ | refine And.intro (Nat.le_of_ble_eq_true rfl) ?_ | refine And.intro (by omega) ?_ | refine Exists.intro _ (And.intro (w64 (by omega) (by omega)) ?_) | refine boolF_dect (by omega) ?_ | refine boolF_decf (by omega) ?_)
        all_goals (conv => whnf)
        obtain ⟨j', g, hj'⟩ := stay [_]
        exact ⟨j', (Ghost.hold [2, 3, 7, 9, 54, 55, 56] rfl).trans g, hj'⟩
      | none =>
        have hbd : bigD x.ops_ := fun o ho => by
          have := (hxok.2.1 o ho).2.2.2.2
          simp [td56] at this; omega
        have h13 := (f13_own ⟨1, x.node_, 7, 0, m.version_, 0, m.n_, []⟩ x.ops_ (Nat.zero_le _) hxl hbd).pure
        have hbo := build_ok (h := ⟨1, x.node_, 7, 0, m.version_, 0, m.n_, []⟩) (ops := x.ops_) (n := N) hNi hN1.2 (show (7 : Int) ≠ 0 by decide)
        obtain ⟨q, hq⟩ : ∃ q, q = buildM ⟨1, x.node_, 7, 0, m.version_, 0, m.n_, []⟩ x.ops_ := ⟨_, rfl⟩
        rw [← hq] at h13 hbo
        repeat' ((conv => whnf); first
          | refine Exists.intro _ (And.intro (map_at (by omega) hx) ?_) | refine And.intro (show 0 + x.node_.toNat * 1 < 16 by omega) ?_ | refine dropK_of ((mkD_drop mk (show 0 + x.node_.toNat * 1 = j by omega) hj16).trans (by rw [hmj])) ?_ | refine And.intro (by decide) ?_ | refine And.intro rfl ?_ | refine And.intro (Nat.le_of_ble_eq_true rfl) ?_ | refine And.intro (by omega) ?_ | refine boolF_dect (by omega) ?_ | refine boolF_decf (by omega) ?_)
        all_goals (conv => whnf)
        refine Go.A.CallsIn.wk (args' := [d44 ⟨1, x.node_, 7, 0, m.version_, 0, m.n_, []⟩, d37 x.ops_]) ?_ (.cons (.agg (.cons .refl (.cons .refl (.cons .refl (.cons .refl (.cons .refl (.cons .refl (.cons .refl (.cons .nils .nil))))))))) (.cons .refl .nil))
        refine Pure.call h13 ?_
        by_cases hq2 : q.2 = 0
        case neg =>
          repeat' ((conv => whnf); first
            | refine Exists.intro _ (And.intro (w64 (by omega) (by omega)) ?_) | refine boolF_not ?_ | refine boolF_decf (by assumption) ?_)
          all_goals (conv => whnf)
          obtain ⟨j', g, hj'⟩ := stay [_]
          exact ⟨j', (Ghost.hold [2, 3, 7, 9, 54, 55, 56] rfl).trans g, hj'⟩
        by_cases hver : 2147483648 < m.version_
        · repeat' ((conv => whnf); first
            | refine Exists.intro _ (And.intro (w64 (by omega) (by omega)) ?_) | refine boolF_not ?_ | refine boolF_dect (by assumption) ?_)
          all_goals (conv => whnf)
          obtain ⟨j', g, hj'⟩ := stay [_]
          exact ⟨j', (Ghost.hold [2, 3, 7, 9, 54, 55, 56] rfl).trans g, hj'⟩
        obtain ⟨hql, hstm⟩ := hbo hq2
        rw [hql]
        repeat' ((conv => whnf); first
          | refine Exists.intro _ (And.intro (⟨(List.length_map _).symm⟩) ?_) | refine boolF_not ?_ | refine boolF_dect (by assumption) ?_ | refine boolF_decf (by assumption) ?_)
        all_goals (conv => whnf)
        obtain ⟨R, hR⟩ : ∃ R, R = strmL ⟨1, x.node_, 7, 0, m.version_, 0, m.n_, []⟩ x.ops_ := ⟨_, rfl⟩
        have hRl : R.length = x.ops_.length + 2 := by rw [hR, strm_len]
        rw [← hR]
        refine W_loopG (ι := Nat × Nat × Dst) (fun y => ⟨(D.undef :: D.undef :: d5 early :: .pe (c24 m) :: D.undef :: D.undef :: D.undef :: .p 0 dv 0 0 :: D.undef :: .p 18 0 0 0 :: .int .i64 (i : Int) :: .p 19 0 0 0 :: d40 R :: D.undef :: D.undef :: D.undef :: D.undef :: D.undef :: D.undef :: D.undef :: D.undef :: D.undef :: D.undef :: D.undef :: D.undef :: D.undef :: D.undef :: D.undef :: D.undef :: D.undef :: D.undef :: D.undef :: D.undef :: D.undef :: D.undef :: D.undef :: D.undef :: D.undef :: D.undef :: D.undef :: D.undef :: D.undef :: D.undef :: D.undef :: D.undef :: D.undef :: D.undef :: D.undef :: D.undef :: D.undef :: D.undef :: D.undef :: D.undef :: D.undef :: d25 L :: .int .i64 (L.length : Int) :: .int .i64 (i : Int) :: D.undef :: D.undef :: D.undef :: D.undef :: D.undef :: D.undef :: D.undef :: D.undef :: D.undef :: D.undef :: D.undef :: D.undef :: D.undef :: D.undef :: D.undef :: D.undef :: D.undef :: D.undef :: D.undef :: D.undef :: D.undef :: D.undef :: D.undef :: D.undef :: D.undef :: D.undef :: D.undef :: D.undef :: D.undef :: D.undef :: D.undef :: D.undef :: D.undef :: D.undef :: D.undef :: D.undef :: D.undef :: D.undef :: D.undef :: d40 R :: .int .i64 (R.length : Int) :: .int .i64 (y.1 : Int) :: D.undef :: D.undef :: D.undef :: D.undef :: D.undef :: D.undef :: D.undef :: D.undef :: D.undef :: D.undef :: D.undef :: D.undef :: D.undef :: D.undef :: D.undef :: D.undef :: D.undef :: D.undef :: D.undef :: D.undef :: D.undef :: D.undef :: D.undef :: D.undef :: D.undef :: D.undef :: D.undef :: D.undef :: D.undef :: D.undef :: D.undef :: D.undef :: D.undef :: D.undef :: D.undef :: D.undef :: D.undef :: D.undef :: D.undef :: D.undef :: D.undef :: D.undef :: D.undef :: D.undef :: D.undef :: D.undef :: D.undef :: D.undef :: D.undef :: D.undef :: D.undef :: D.undef :: D.undef :: D.undef :: D.undef :: D.undef :: D.undef :: D.undef :: D.undef :: D.undef :: D.undef :: D.undef :: D.undef :: D.undef :: D.undef :: D.undef :: D.undef :: D.undef :: D.undef :: D.undef :: D.undef :: D.undef :: D.undef :: D.undef :: D.undef :: D.undef :: D.undef :: D.undef :: D.undef :: D.undef :: D.undef :: D.undef :: D.undef :: D.undef :: D.undef :: D.undef :: D.undef :: D.undef :: D.undef :: D.undef :: D.undef :: D.undef :: D.undef :: D.undef :: D.undef :: D.undef :: D.undef :: D.undef :: D.undef :: D.undef :: D.undef :: D.undef :: D.undef :: D.undef :: D.undef :: D.undef :: D.undef :: D.undef :: D.undef :: D.undef :: D.undef :: D.undef :: D.undef :: D.undef :: D.undef :: D.undef :: []), HD dv y.2.1 y.2.2 ++ [oM mk, xB x]⟩) (fun y => R.length - y.1)
          (fun y => y.1 ≤ R.length ∧ InvD y.2.2 ∧ y.2.2.n = m.n_ ∧ (WhA m (btk m N x j mk y.1) y.2.2 ∨ WhB m mk y.2.2)) (0, ov, d) (Ghost.hold [2, 3, 7, 9, 10, 11, 12, 54, 55, 56, 96, 97, 98] rfl) ⟨Nat.zero_le _, hd, hdn, hw.imp (fun g => g.congr fun i _ => btk_zero hN hj hmj i) id⟩ ?_
        rintro ⟨k, ov, d⟩ ⟨k1, hd, hdn, hw⟩
        dsimp only at k1 hd hdn hw ⊢
        have hpos : 0 < d.n := hd.n.1
        refine exec_ok tab_ok mixed 1000 (bx := bxD ++ [true, true]) (own := [137]) ?_
        rcases Nat.lt_or_ge k R.length with hk | hk
        · obtain ⟨r, hr, htk⟩ := st_step hstm (th := 0) (all := zer N) (by simp [zer]) (show (7 : Int) ≠ 0 by decide) (.inl rfl) (j := k) (by rw [← hRl]; exact hk)
          rw [if_pos (show (0 : Int) = 0 from rfl)] at htk
          obtain ⟨hrd, hrk⟩ := strm_at hstm hbd (Nat.zero_le _) hr
          rw [← hR] at hr
          have htk' : takeM (btk m N x j mk k j) (k : Int) r = (btk m N x j mk (k + 1) j, 0) := by
            unfold btk
            rw [if_pos rfl, if_pos rfl]
            exact htk
          have hquo : Int.tdiv (R.length : Int) 2 = ((R.length / 2 : Nat) : Int) := rfl
          have next : ∀ bt : Nat → Bt, (∀ i, bt i = if i = j then btk m N x j mk (k + 1) j else btk m N x j mk k i) → ∀ i, i < 16 → btk m N x j mk (k + 1) i = bt i := fun bt e i _ => by
            rw [e i]
            by_cases g : i = j
            · rw [if_pos g, g]
            · rw [if_neg g]; unfold btk; rw [if_neg g, if_neg g]
          by_cases hP : (i : Int) = (early : Int) ∧ k = R.length / 2
          · obtain ⟨hP1, hP2⟩ := hP
            have hP3 : (k : Int) = ((R.length / 2 : Nat) : Int) := by omega
            rcases hw with hw | hw
            · obtain ⟨p1, p2, _⟩ | ⟨p1, _⟩ := wh_pub hr0 hw (fun i hi g => btk_there (by rw [← hRl]; exact hk) i g)
              · have hi2 := inv_publishD hd
                have h14 := fun ov => f14_at dv ov hd
                obtain ⟨T, hT⟩ : ∃ T, T = publishD d := ⟨_, rfl⟩
                rw [← hT] at p1 p2 hi2 h14
                have h15 := fun ov => f15_at dv ov T.1
                rw [if_pos (show 0 < T.1.n from hi2.n.1), p2.id] at h15
                repeat' ((conv => whnf); first
                  | refine Exists.intro _ (And.intro (map_at (by omega) hr) ?_) | refine And.intro (by decide) ?_ | refine And.intro rfl ?_ | refine And.intro (by omega) ?_ | refine Exists.intro _ (And.intro (⟨(List.length_map _).symm⟩) ?_) | refine Exists.intro _ (And.intro (w64 (by omega) (by omega)) ?_) | refine boolF_dect (by assumption) ?_ | refine boolF_dect (by omega) ?_)
                all_goals (conv => whnf)
                refine turnV.call (h14 ov) [_, _, _] trivial trivial (fun ov2 => ?_)
                repeat' ((conv => whnf); first
                  | refine look.call (h15 ov2) [_, _, _] trivial ?_ | refine Exists.intro _ (And.intro (w64 (by omega) (by omega)) ?_))
                all_goals (conv => whnf)
                exact ⟨(k + 1, ov2, T.1), Ghost.back [2, 3, 7, 9, 10, 11, 12, 54, 55, 56, 96, 97, 98] 20 rfl rfl (Nat.zero_le _) (by simp [scs, D.sc, scd25, scd40, d5]; exact sc24 _ m) (sc20 _ _ _ (scoM _ _) (scxB _ _)), ⟨hk, hi2, p2.n, .inr p2⟩, by dsimp only; omega⟩
              · have h14 := fun ov => f14_at dv ov hd
                rw [p1] at h14
                have h15 := fun ov => f15_at dv ov d
                rw [if_pos hpos, hw.id] at h15
                obtain ⟨t1, t2⟩ := wh_take hw hj16 hrk htk'
                have h16 := fun ov => f16_at dv ov hd (j : Int) (k : Int) r hrd
                have hi2 := inv_takeD hd (j : Int) (k : Int) r
                rw [t1] at h16 hi2
                rw [← hj] at h16
                repeat' ((conv => whnf); first
                  | refine Exists.intro _ (And.intro (map_at (by omega) hr) ?_) | refine And.intro (by decide) ?_ | refine And.intro rfl ?_ | refine And.intro (by omega) ?_ | refine Exists.intro _ (And.intro (⟨(List.length_map _).symm⟩) ?_) | refine Exists.intro _ (And.intro (w64 (by omega) (by omega)) ?_) | refine boolF_dect (by assumption) ?_ | refine boolF_dect (by omega) ?_)
                all_goals (conv => whnf)
                refine turnV.call (h14 ov) [_, _, _] trivial trivial (fun ov2 => ?_)
                repeat' ((conv => whnf); first
                  | refine look.call (h15 ov2) [_, _, _] trivial ?_ | refine TurnD.call (h16 ov2) [_, _, _] trivial ?_ | refine And.intro (by decide) ?_ | refine And.intro (Nat.le_of_ble_eq_true rfl) ?_ | refine Exists.intro _ (And.intro (w64 (by omega) (by omega)) ?_))
                all_goals (conv => whnf)
                exact ⟨(k + 1, ov2, setB d j (btk m N x j mk (k + 1) j)), Ghost.back [2, 3, 7, 9, 10, 11, 12, 54, 55, 56, 96, 97, 98] 20 rfl rfl (Nat.zero_le _) (by simp [scs, D.sc, scd25, scd40, d5]; exact sc24 _ m) (sc20 _ _ _ (scoM _ _) (scxB _ _)), ⟨hk, hi2, hdn, .inl (t2.congr (next _ fun i => rfl))⟩, by dsimp only; omega⟩
            · have p1 : publishD d = (d, 11) := by rw [publishD, if_pos hw.id]
              have h14 := fun ov => f14_at dv ov hd
              rw [p1] at h14
              have h15 := fun ov => f15_at dv ov d
              rw [if_pos hpos, hw.id] at h15
              repeat' ((conv => whnf); first
                | refine Exists.intro _ (And.intro (map_at (by omega) hr) ?_) | refine And.intro (by decide) ?_ | refine And.intro rfl ?_ | refine And.intro (by omega) ?_ | refine Exists.intro _ (And.intro (⟨(List.length_map _).symm⟩) ?_) | refine Exists.intro _ (And.intro (w64 (by omega) (by omega)) ?_) | refine boolF_dect (by assumption) ?_ | refine boolF_dect (by omega) ?_)
              all_goals (conv => whnf)
              refine turnV.call (h14 ov) [_, _, _] trivial trivial (fun ov2 => ?_)
              repeat' ((conv => whnf); first
                | refine look.call (h15 ov2) [_, _, _] trivial ?_ | refine Exists.intro _ (And.intro (w64 (by omega) (by omega)) ?_))
              all_goals (conv => whnf)
              exact ⟨(k + 1, ov2, d), Ghost.back [2, 3, 7, 9, 10, 11, 12, 54, 55, 56, 96, 97, 98] 20 rfl rfl (Nat.zero_le _) (by simp [scs, D.sc, scd25, scd40, d5]; exact sc24 _ m) (sc20 _ _ _ (scoM _ _) (scxB _ _)), ⟨hk, hd, hdn, .inr hw⟩, by dsimp only; omega⟩
          · rcases hw with hw | hw
            · have h15 := f15_at dv ov d
              rw [if_pos hpos, hw.id] at h15
              obtain ⟨t1, t2⟩ := wh_take hw hj16 hrk htk'
              have h16 := f16_at dv ov hd (j : Int) (k : Int) r hrd
              have hi2 := inv_takeD hd (j : Int) (k : Int) r
              rw [t1] at h16 hi2
              rw [← hj] at h16
              by_cases hP1 : (i : Int) = (early : Int)
              · have hP2 : ¬ (k : Int) = ((R.length / 2 : Nat) : Int) := fun g => hP ⟨hP1, by omega⟩
                repeat' ((conv => whnf); first
                  | refine Exists.intro _ (And.intro (map_at (by omega) hr) ?_) | refine look.call h15 [_, _, _] trivial ?_ | refine TurnD.call h16 [_, _, _] trivial ?_ | refine And.intro (by decide) ?_ | refine And.intro rfl ?_ | refine And.intro (Nat.le_of_ble_eq_true rfl) ?_ | refine And.intro (by omega) ?_ | refine Exists.intro _ (And.intro (⟨(List.length_map _).symm⟩) ?_) | refine Exists.intro _ (And.intro (w64 (by omega) (by omega)) ?_) | refine boolF_dect (by assumption) ?_ | refine boolF_decf (by assumption) ?_ | refine boolF_dect (by omega) ?_)
                all_goals (conv => whnf)
                exact ⟨(k + 1, ov, setB d j (btk m N x j mk (k + 1) j)), Ghost.back [2, 3, 7, 9, 10, 11, 12, 54, 55, 56, 96, 97, 98] 20 rfl rfl (Nat.zero_le _) (by simp [scs, D.sc, scd25, scd40, d5]; exact sc24 _ m) (sc20 _ _ _ (scoM _ _) (scxB _ _)), ⟨hk, hi2, hdn, .inl (t2.congr (next _ fun i => rfl))⟩, by dsimp only; omega⟩
              · repeat' ((conv => whnf); first
                  | refine Exists.intro _ (And.intro (map_at (by omega) hr) ?_) | refine look.call h15 [_, _, _] trivial ?_ | refine TurnD.call h16 [_, _, _] trivial ?_ | refine And.intro (by decide) ?_ | refine And.intro rfl ?_ | refine And.intro (Nat.le_of_ble_eq_true rfl) ?_ | refine And.intro (by omega) ?_ | refine Exists.intro _ (And.intro (w64 (by omega) (by omega)) ?_) | refine boolF_decf (by assumption) ?_ | refine boolF_dect (by omega) ?_)
                all_goals (conv => whnf)
                exact ⟨(k + 1, ov, setB d j (btk m N x j mk (k + 1) j)), Ghost.back [2, 3, 7, 9, 10, 11, 12, 54, 55, 56, 96, 97, 98] 20 rfl rfl (Nat.zero_le _) (by simp [scs, D.sc, scd25, scd40, d5]; exact sc24 _ m) (sc20 _ _ _ (scoM _ _) (scxB _ _)), ⟨hk, hi2, hdn, .inl (t2.congr (next _ fun i => rfl))⟩, by dsimp only; omega⟩
            · have h15 := f15_at dv ov d
              rw [if_pos hpos, hw.id] at h15
              by_cases hP1 : (i : Int) = (early : Int)
              · have hP2 : ¬ (k : Int) = ((R.length / 2 : Nat) : Int) := fun g => hP ⟨hP1, by omega⟩
                repeat' ((conv => whnf); first
                  | refine Exists.intro _ (And.intro (map_at (by omega) hr) ?_) | refine look.call h15 [_, _, _] trivial ?_ | refine And.intro (by decide) ?_ | refine And.intro rfl ?_ | refine And.intro (by omega) ?_ | refine Exists.intro _ (And.intro (⟨(List.length_map _).symm⟩) ?_) | refine Exists.intro _ (And.intro (w64 (by omega) (by omega)) ?_) | refine boolF_dect (by assumption) ?_ | refine boolF_decf (by assumption) ?_ | refine boolF_dect (by omega) ?_)
                all_goals (conv => whnf)
                exact ⟨(k + 1, ov, d), Ghost.back [2, 3, 7, 9, 10, 11, 12, 54, 55, 56, 96, 97, 98] 20 rfl rfl (Nat.zero_le _) (by simp [scs, D.sc, scd25, scd40, d5]; exact sc24 _ m) (sc20 _ _ _ (scoM _ _) (scxB _ _)), ⟨hk, hd, hdn, .inr hw⟩, by dsimp only; omega⟩
              · repeat' ((conv => whnf); first
                  | refine Exists.intro _ (And.intro (map_at (by omega) hr) ?_) | refine look.call h15 [_, _, _] trivial ?_ | refine And.intro (by decide) ?_ | refine And.intro rfl ?_ | refine And.intro (by omega) ?_ | refine Exists.intro _ (And.intro (w64 (by omega) (by omega)) ?_) | refine boolF_decf (by assumption) ?_ | refine boolF_dect (by omega) ?_)
                all_goals (conv => whnf)
                exact ⟨(k + 1, ov, d), Ghost.back [2, 3, 7, 9, 10, 11, 12, 54, 55, 56, 96, 97, 98] 20 rfl rfl (Nat.zero_le _) (by simp [scs, D.sc, scd25, scd40, d5]; exact sc24 _ m) (sc20 _ _ _ (scoM _ _) (scxB _ _)), ⟨hk, hd, hdn, .inr hw⟩, by dsimp only; omega⟩
        · obtain rfl : k = R.length := by omega
          rcases hw with hw | hw
          · have h15 := f15_at dv ov d
            rw [if_pos hpos, hw.id] at h15
            have hal := hstm.allOk
            have hap : applyM (zer N) x.ops_ = (applyL (zer N) x.ops_, 0) := by
              rw [applyM, if_neg (by simp [zer]; omega), if_pos (by simp only [zer, List.length_replicate]; exact hal)]
            have h17 := f17_ok (zer N) x.ops_ (by simp [zer]; omega) (by omega) hbd
            rw [hap] at h17
            have hrep : d35 (zer N) = .sl (List.replicate m.n_.toNat (D.int .u64 0)) := by
              rw [← hN]
              show D.sl ((List.replicate N 0).map r56) = _
              rw [List.map_replicate]; rfl
            rw [hrep] at h17
            have hvl := hstm.app (v0 := zer N) (by simp [zer]) x.ops_.length
            rw [List.take_length] at hvl
            have hw' : WhA m (fun i => laidB m.version_ m.n_ i (mkS mk j (applyL (zer N) x.ops_) i)) d := hw.congr fun i _ => by rw [hRl]; exact (btk_end hj i).symm
            obtain ⟨V, hV⟩ : ∃ V, V = applyL (zer N) x.ops_ := ⟨_, rfl⟩
            rw [← hV] at h17 hvl hw'
            repeat' ((conv => whnf); first
              | refine look.call h15 [_, _] trivial ?_ | refine And.intro (show 0 + x.node_.toNat * 1 < 16 by omega) ?_ | refine And.intro (show ((8 : Nat) : Int) * m.n_ ≤ 281474976710656 by omega) ?_ | refine And.intro (by decide) ?_ | refine And.intro rfl ?_ | refine And.intro (Nat.le_of_ble_eq_true rfl) ?_ | refine And.intro (by omega) ?_ | refine Pure.locK (h17) ?_ | refine boolF_decf (by omega) ?_)
            all_goals (conv => whnf)
            split
            rotate_left
            · rename_i hble
              exfalso
              have h9 : Nat.ble (0 + x.node_.toNat * 1 + 1) 16 = true := Nat.ble_eq.mpr (by omega)
              exact absurd (h9.symm.trans hble) (by decide)
            refine boolK_of rfl ?_
            refine listK_of (mkD_splice mk (show 0 + x.node_.toNat * 1 = j by omega) hj16 V) ?_
            refine boolK_of (mkD_one _) ?_
            repeat' ((conv => whnf); first
              | refine PairK.mk (by kernel_rfl) ?_ | refine Exists.intro _ (And.intro (w64 (by omega) (by omega)) ?_))
            all_goals (conv => whnf)
            refine ⟨(i + 1, ov, d, mkS mk j V), Ghost.back [2, 3, 7, 9, 54, 55, 56] 19 rfl rfl (Nat.zero_le _) (by simp [scs, D.sc, scd25, d5]; exact sc24 _ m) (scHDs (by decide) _ _ _ (scoM _ _)), ⟨h, hd, ⟨fun t u ht => ?_⟩, hdn, .inl hw'⟩, by dsimp only; omega⟩
            dsimp only [mkS] at ht
            split at ht
            · rw [← Option.some.inj ht]; exact hvl
            · exact hmk.len t u ht
          · have h15 := f15_at dv ov d
            rw [if_pos hpos, hw.id] at h15
            repeat' ((conv => whnf); first
              | refine look.call h15 [_, _] trivial ?_ | refine Exists.intro _ (And.intro (w64 (by omega) (by omega)) ?_) | refine boolF_decf (by omega) ?_)
            all_goals (conv => whnf)
            exact ⟨(i + 1, ov, d, mk), Ghost.back [2, 3, 7, 9, 54, 55, 56] 19 rfl rfl (Nat.zero_le _) (by simp [scs, D.sc, scd25, d5]; exact sc24 _ m) (scHDs (by decide) _ _ _ (scoM _ _)), ⟨h, hd, hmk, hdn, .inr hw⟩, by dsimp only; omega⟩
    · clear hu hsl
      have hpl : m.pieces_.length ≤ 16 := hr.2.2.2.2.1
      have hnod : ∀ p ∈ m.pieces_, ∃ t : Nat, p.node_ = (t : Int) ∧ t < 16 ∧ p.node_.toNat = t := fun p hp => isNode_nat (M.ends_node hr.2.2.2.2.2 p hp)
      refine exec_ok tab_ok mixed 1000 (bx := bxD ++ [true]) (own := [137]) ?_
      repeat' ((conv => whnf); first
        | refine Exists.intro _ (And.intro (⟨(List.length_map _).symm⟩) ?_) | refine boolF_decf (by omega) ?_)
      all_goals (conv => whnf)
      refine W_loopG (ι := Nat × Bool) (fun y => ⟨(D.undef :: D.undef :: D.undef :: .pe (c24 m) :: D.undef :: D.undef :: D.undef :: .p 0 dv 0 0 :: D.undef :: .p 18 0 0 0 :: D.undef :: D.undef :: D.undef :: D.undef :: D.undef :: D.undef :: .bool y.2 :: D.undef :: D.undef :: D.undef :: D.undef :: D.undef :: D.undef :: D.undef :: D.undef :: D.undef :: D.undef :: D.undef :: D.undef :: D.undef :: D.undef :: D.undef :: D.undef :: D.undef :: D.undef :: D.undef :: D.undef :: D.undef :: D.undef :: D.undef :: D.undef :: D.undef :: D.undef :: D.undef :: D.undef :: D.undef :: D.undef :: D.undef :: D.undef :: D.undef :: D.undef :: D.undef :: D.undef :: D.undef :: D.undef :: D.undef :: D.undef :: D.undef :: D.undef :: D.undef :: D.undef :: D.undef :: D.undef :: D.undef :: D.undef :: D.undef :: D.undef :: D.undef :: D.undef :: D.undef :: D.undef :: D.undef :: D.undef :: D.undef :: D.undef :: D.undef :: D.undef :: D.undef :: D.undef :: D.undef :: D.undef :: D.undef :: D.undef :: D.undef :: D.undef :: D.undef :: D.undef :: D.undef :: D.undef :: D.undef :: D.undef :: D.undef :: D.undef :: D.undef :: D.undef :: D.undef :: D.undef :: D.undef :: D.undef :: D.undef :: D.undef :: D.undef :: D.undef :: D.undef :: D.undef :: D.undef :: D.undef :: D.undef :: D.undef :: D.undef :: D.undef :: D.undef :: D.undef :: D.undef :: D.undef :: D.undef :: D.undef :: D.undef :: D.undef :: D.undef :: D.undef :: D.undef :: D.undef :: D.undef :: D.undef :: D.undef :: D.undef :: D.undef :: D.undef :: D.undef :: D.undef :: D.undef :: D.undef :: D.undef :: D.undef :: D.undef :: D.undef :: D.undef :: D.undef :: D.undef :: D.undef :: D.undef :: D.undef :: D.undef :: D.undef :: D.undef :: d22 m.pieces_ :: .int .i64 (m.pieces_.length : Int) :: .int .i64 (y.1 : Int) :: D.undef :: D.undef :: D.undef :: D.undef :: D.undef :: D.undef :: D.undef :: D.undef :: D.undef :: D.undef :: D.undef :: D.undef :: D.undef :: D.undef :: D.undef :: D.undef :: D.undef :: D.undef :: D.undef :: D.undef :: D.undef :: D.undef :: D.undef :: D.undef :: D.undef :: D.undef :: D.undef :: D.undef :: D.undef :: D.undef :: D.undef :: D.undef :: D.undef :: D.undef :: D.undef :: D.undef :: D.undef :: D.undef :: D.undef :: D.undef :: D.undef :: D.undef :: D.undef :: D.undef :: D.undef :: D.undef :: D.undef :: D.undef :: D.undef :: D.undef :: D.undef :: D.undef :: D.undef :: D.undef :: D.undef :: D.undef :: D.undef :: D.undef :: D.undef :: D.undef :: D.undef :: D.undef :: D.undef :: D.undef :: D.undef :: D.undef :: []), HD dv ov d ++ [oM mk]⟩) (fun y => m.pieces_.length - y.1)
        (fun y => y.1 ≤ m.pieces_.length ∧ (y.2 = true ↔ ∀ p ∈ m.pieces_.take y.1, ∃ v, mk p.node_.toNat = some v)) (0, true) (Ghost.hold [3, 7, 9, 16, 146, 147, 148] rfl) ⟨Nat.zero_le _, fun _ p hp => by simp at hp, fun _ => rfl⟩ ?_
      rintro ⟨q, b⟩ ⟨q1, hb⟩
      dsimp only at q1 hb ⊢
      rcases Nat.lt_or_ge q m.pieces_.length with hq | hq
      · refine exec_ok tab_ok mixed 1000 (bx := bxD ++ [true]) (own := [137]) ?_
        obtain ⟨p, hp⟩ := at_lt hq
        obtain ⟨t, ht, ht16, htn⟩ := hnod p (List.mem_of_getElem? hp)
        have hts := take_snoc hp
        have fin : ∀ b' : Bool, (b' = true ↔ b = true ∧ ∃ v, mk t = some v) → (b' = true ↔ ∀ p ∈ m.pieces_.take (q + 1), ∃ v, mk p.node_.toNat = some v) := fun b' e => by
          rw [e, hb, hts]
          constructor
          · rintro ⟨g1, g2⟩ y hy
            rcases List.mem_append.mp hy with hy | hy
            · exact g1 y hy
            · simp only [List.mem_singleton] at hy; subst hy; rw [htn]; exact g2
          · intro g
            exact ⟨fun y hy => g y (List.mem_append_left _ hy), by have := g p (List.mem_append_right _ List.mem_cons_self); rw [htn] at this; exact this⟩
        have endS : ∀ b', (b' = true ↔ b = true ∧ ∃ v, mk t = some v) → ∀ F, ∃ j : Nat × Bool, Ghost 0 ((D.undef :: D.undef :: D.undef :: .pe (c24 m) :: D.undef :: D.undef :: D.undef :: .p 0 dv 0 0 :: D.undef :: .p 18 0 0 0 :: D.undef :: D.undef :: D.undef :: D.undef :: D.undef :: D.undef :: .bool b' :: D.undef :: D.undef :: D.undef :: D.undef :: D.undef :: D.undef :: D.undef :: D.undef :: D.undef :: D.undef :: D.undef :: D.undef :: D.undef :: D.undef :: D.undef :: D.undef :: D.undef :: D.undef :: D.undef :: D.undef :: D.undef :: D.undef :: D.undef :: D.undef :: D.undef :: D.undef :: D.undef :: D.undef :: D.undef :: D.undef :: D.undef :: D.undef :: D.undef :: D.undef :: D.undef :: D.undef :: D.undef :: D.undef :: D.undef :: D.undef :: D.undef :: D.undef :: D.undef :: D.undef :: D.undef :: D.undef :: D.undef :: D.undef :: D.undef :: D.undef :: D.undef :: D.undef :: D.undef :: D.undef :: D.undef :: D.undef :: D.undef :: D.undef :: D.undef :: D.undef :: D.undef :: D.undef :: D.undef :: D.undef :: D.undef :: D.undef :: D.undef :: D.undef :: D.undef :: D.undef :: D.undef :: D.undef :: D.undef :: D.undef :: D.undef :: D.undef :: D.undef :: D.undef :: D.undef :: D.undef :: D.undef :: D.undef :: D.undef :: D.undef :: D.undef :: D.undef :: D.undef :: D.undef :: D.undef :: D.undef :: D.undef :: D.undef :: D.undef :: D.undef :: D.undef :: D.undef :: D.undef :: D.undef :: D.undef :: D.undef :: D.undef :: D.undef :: D.undef :: D.undef :: D.undef :: D.undef :: D.undef :: D.undef :: D.undef :: D.undef :: D.undef :: D.undef :: D.undef :: D.undef :: D.undef :: D.undef :: D.undef :: D.undef :: D.undef :: D.undef :: D.undef :: D.undef :: D.undef :: D.undef :: D.undef :: D.undef :: D.undef :: D.undef :: D.undef :: d22 m.pieces_ :: .int .i64 (m.pieces_.length : Int) :: .int .i64 ((q + 1 : Nat) : Int) :: D.undef :: D.undef :: D.undef :: D.undef :: D.undef :: D.undef :: D.undef :: D.undef :: D.undef :: D.undef :: D.undef :: D.undef :: D.undef :: D.undef :: D.undef :: D.undef :: D.undef :: D.undef :: D.undef :: D.undef :: D.undef :: D.undef :: D.undef :: D.undef :: D.undef :: D.undef :: D.undef :: D.undef :: D.undef :: D.undef :: D.undef :: D.undef :: D.undef :: D.undef :: D.undef :: D.undef :: D.undef :: D.undef :: D.undef :: D.undef :: D.undef :: D.undef :: D.undef :: D.undef :: D.undef :: D.undef :: D.undef :: D.undef :: D.undef :: D.undef :: D.undef :: D.undef :: D.undef :: D.undef :: D.undef :: D.undef :: D.undef :: D.undef :: D.undef :: D.undef :: D.undef :: D.undef :: D.undef :: D.undef :: D.undef :: D.undef :: [])) (HD dv ov d ++ oM mk :: F) ((D.undef :: D.undef :: D.undef :: .pe (c24 m) :: D.undef :: D.undef :: D.undef :: .p 0 dv 0 0 :: D.undef :: .p 18 0 0 0 :: D.undef :: D.undef :: D.undef :: D.undef :: D.undef :: D.undef :: .bool j.2 :: D.undef :: D.undef :: D.undef :: D.undef :: D.undef :: D.undef :: D.undef :: D.undef :: D.undef :: D.undef :: D.undef :: D.undef :: D.undef :: D.undef :: D.undef :: D.undef :: D.undef :: D.undef :: D.undef :: D.undef :: D.undef :: D.undef :: D.undef :: D.undef :: D.undef :: D.undef :: D.undef :: D.undef :: D.undef :: D.undef :: D.undef :: D.undef :: D.undef :: D.undef :: D.undef :: D.undef :: D.undef :: D.undef :: D.undef :: D.undef :: D.undef :: D.undef :: D.undef :: D.undef :: D.undef :: D.undef :: D.undef :: D.undef :: D.undef :: D.undef :: D.undef :: D.undef :: D.undef :: D.undef :: D.undef :: D.undef :: D.undef :: D.undef :: D.undef :: D.undef :: D.undef :: D.undef :: D.undef :: D.undef :: D.undef :: D.undef :: D.undef :: D.undef :: D.undef :: D.undef :: D.undef :: D.undef :: D.undef :: D.undef :: D.undef :: D.undef :: D.undef :: D.undef :: D.undef :: D.undef :: D.undef :: D.undef :: D.undef :: D.undef :: D.undef :: D.undef :: D.undef :: D.undef :: D.undef :: D.undef :: D.undef :: D.undef :: D.undef :: D.undef :: D.undef :: D.undef :: D.undef :: D.undef :: D.undef :: D.undef :: D.undef :: D.undef :: D.undef :: D.undef :: D.undef :: D.undef :: D.undef :: D.undef :: D.undef :: D.undef :: D.undef :: D.undef :: D.undef :: D.undef :: D.undef :: D.undef :: D.undef :: D.undef :: D.undef :: D.undef :: D.undef :: D.undef :: D.undef :: D.undef :: D.undef :: D.undef :: D.undef :: D.undef :: D.undef :: d22 m.pieces_ :: .int .i64 (m.pieces_.length : Int) :: .int .i64 (j.1 : Int) :: D.undef :: D.undef :: D.undef :: D.undef :: D.undef :: D.undef :: D.undef :: D.undef :: D.undef :: D.undef :: D.undef :: D.undef :: D.undef :: D.undef :: D.undef :: D.undef :: D.undef :: D.undef :: D.undef :: D.undef :: D.undef :: D.undef :: D.undef :: D.undef :: D.undef :: D.undef :: D.undef :: D.undef :: D.undef :: D.undef :: D.undef :: D.undef :: D.undef :: D.undef :: D.undef :: D.undef :: D.undef :: D.undef :: D.undef :: D.undef :: D.undef :: D.undef :: D.undef :: D.undef :: D.undef :: D.undef :: D.undef :: D.undef :: D.undef :: D.undef :: D.undef :: D.undef :: D.undef :: D.undef :: D.undef :: D.undef :: D.undef :: D.undef :: D.undef :: D.undef :: D.undef :: D.undef :: D.undef :: D.undef :: D.undef :: D.undef :: [])) (HD dv ov d ++ [oM mk]) ∧ (j.1 ≤ m.pieces_.length ∧ (j.2 = true ↔ ∀ p ∈ m.pieces_.take j.1, ∃ v, mk p.node_.toNat = some v)) ∧ m.pieces_.length - j.1 < m.pieces_.length - q := fun b' e F =>
          ⟨(q + 1, b'), Ghost.back [3, 7, 9, 16, 146, 147, 148] 19 rfl rfl (Nat.zero_le _) (by simp [scs, D.sc, scd22]; exact sc24 _ m) (scHDs (by decide) _ _ _ (scoM _ _)), ⟨hq, fin b' e⟩, by dsimp only; omega⟩
        cases b with
        | false =>
          repeat' ((conv => whnf); first
            | refine Exists.intro _ (And.intro (map_at (by omega) hp) ?_) | refine And.intro (by decide) ?_ | refine And.intro rfl ?_ | refine And.intro (by omega) ?_ | refine Exists.intro _ (And.intro (w64 (by omega) (by omega)) ?_) | refine boolF_dect (by omega) ?_)
          all_goals (conv => whnf)
          obtain ⟨j, g, hj⟩ := endS false (by simp) [_]
          exact ⟨j, (Ghost.hold [3, 7, 9, 16, 146, 147, 148] rfl).trans g, hj⟩
        | true =>
          cases hmt : mk t with
          | none =>
            repeat' ((conv => whnf); first
              | refine Exists.intro _ (And.intro (map_at (by omega) hp) ?_) | refine And.intro (show 0 + p.node_.toNat * 1 < 16 by omega) ?_ | refine dropK_of ((mkD_drop mk (show 0 + p.node_.toNat * 1 = t by omega) ht16).trans (by rw [hmt])) ?_ | refine And.intro (by decide) ?_ | refine And.intro rfl ?_ | refine And.intro (Nat.le_of_ble_eq_true rfl) ?_ | refine And.intro (by omega) ?_ | refine Exists.intro _ (And.intro (w64 (by omega) (by omega)) ?_) | refine boolF_dect (by omega) ?_)
            all_goals (conv => whnf)
            obtain ⟨j, g, hj⟩ := endS false (by simp [hmt]) [_]
            exact ⟨j, (Ghost.hold [3, 7, 9, 16, 146, 147, 148] rfl).trans g, hj⟩
          | some v =>
            have hvl := hmk.len t v hmt
            have hvne : v.map r56 ≠ [] := fun e => by
              have := congrArg List.length e
              rw [List.length_map] at this
              simp at this
              rw [this] at hvl
              simp at hvl
              omega
            repeat' ((conv => whnf); first
              | refine Exists.intro _ (And.intro (map_at (by omega) hp) ?_) | refine And.intro (show 0 + p.node_.toNat * 1 < 16 by omega) ?_ | refine dropK_of ((mkD_drop mk (show 0 + p.node_.toNat * 1 = t by omega) ht16).trans (by rw [hmt])) ?_ | refine And.intro hvne ?_ | refine And.intro (by decide) ?_ | refine And.intro rfl ?_ | refine And.intro (Nat.le_of_ble_eq_true rfl) ?_ | refine And.intro (by omega) ?_ | refine Exists.intro _ (And.intro (w64 (by omega) (by omega)) ?_) | refine boolF_dect (by omega) ?_)
            all_goals (conv => whnf)
            obtain ⟨j, g, hj⟩ := endS true (by simp [hmt]) [_]
            exact ⟨j, (Ghost.hold [3, 7, 9, 16, 146, 147, 148] rfl).trans g, hj⟩
      · rw [List.take_of_length_le hq] at hb
        have hq' : q = m.pieces_.length := by omega
        have hpos : 0 < d.n := hd.n.1
        refine exec_ok tab_ok mixed 8 (bx := bxD ++ [true]) (own := [137]) ?_
        repeat' ((conv => whnf); first
          | refine boolF_decf (by omega) ?_)
        all_goals (conv => whnf)
        refine W_midG (ι := Nat × Dst × Int) (fun y => ⟨(D.undef :: D.undef :: D.undef :: .pe (c24 m) :: D.undef :: D.undef :: D.undef :: .p 0 dv 0 0 :: D.undef :: .p 18 0 0 0 :: D.undef :: D.undef :: D.undef :: D.undef :: D.undef :: D.undef :: .bool b :: D.undef :: D.undef :: .int .i64 y.2.2 :: D.undef :: D.undef :: D.undef :: D.undef :: D.undef :: D.undef :: D.undef :: D.undef :: D.undef :: D.undef :: D.undef :: D.undef :: D.undef :: D.undef :: D.undef :: D.undef :: D.undef :: D.undef :: D.undef :: D.undef :: D.undef :: D.undef :: D.undef :: D.undef :: D.undef :: D.undef :: D.undef :: D.undef :: D.undef :: D.undef :: D.undef :: D.undef :: D.undef :: D.undef :: D.undef :: D.undef :: D.undef :: D.undef :: D.undef :: D.undef :: D.undef :: D.undef :: D.undef :: D.undef :: D.undef :: D.undef :: D.undef :: D.undef :: D.undef :: D.undef :: D.undef :: D.undef :: D.undef :: D.undef :: D.undef :: D.undef :: D.undef :: D.undef :: D.undef :: D.undef :: D.undef :: D.undef :: D.undef :: D.undef :: D.undef :: D.undef :: D.undef :: D.undef :: D.undef :: D.undef :: D.undef :: D.undef :: D.undef :: D.undef :: D.undef :: D.undef :: D.undef :: D.undef :: D.undef :: D.undef :: D.undef :: D.undef :: D.undef :: D.undef :: D.undef :: D.undef :: D.undef :: D.undef :: D.undef :: D.undef :: D.undef :: D.undef :: D.undef :: D.undef :: D.undef :: D.undef :: D.undef :: D.undef :: D.undef :: D.undef :: D.undef :: D.undef :: D.undef :: D.undef :: D.undef :: D.undef :: D.undef :: D.undef :: D.undef :: D.undef :: D.undef :: D.undef :: D.undef :: D.undef :: D.undef :: D.undef :: D.undef :: D.undef :: D.undef :: D.undef :: D.undef :: D.undef :: D.undef :: D.undef :: D.undef :: D.undef :: D.undef :: D.undef :: D.undef :: D.undef :: D.undef :: D.undef :: D.undef :: D.undef :: D.undef :: D.undef :: D.undef :: D.undef :: D.undef :: D.undef :: D.undef :: D.undef :: D.undef :: D.undef :: D.undef :: D.undef :: D.undef :: D.undef :: D.undef :: D.undef :: D.undef :: D.undef :: D.undef :: D.undef :: D.undef :: D.undef :: D.undef :: D.undef :: D.undef :: D.undef :: D.undef :: D.undef :: D.undef :: D.undef :: D.undef :: D.undef :: D.undef :: D.undef :: D.undef :: D.undef :: D.undef :: D.undef :: D.undef :: D.undef :: D.undef :: D.undef :: D.undef :: D.undef :: D.undef :: D.undef :: D.undef :: D.undef :: D.undef :: D.undef :: D.undef :: D.undef :: D.undef :: D.undef :: D.undef :: D.undef :: D.undef :: D.undef :: D.undef :: D.undef :: D.undef :: []), HD dv y.1 y.2.1 ++ [oM mk]⟩) (fun y => InvD y.2.1 ∧ y.2.1.n = m.n_ ∧ ((b = true ∧ y.2.2 = 0 ∧ WhB m mk y.2.1) ∨ (b = false ∧ y.2.2 = 15 ∧ y.2.1.out = []))) ?_ ?_
        · refine exec_ok tab_ok mixed 1000 (bx := bxD ++ [true]) (own := [137]) ?_
          rcases hw with hw | hw
          · have h15 := f15_at dv ov d
            rw [if_pos hpos, hw.id] at h15
            have h14 := fun ov => f14_at dv ov hd
            have hi2 := inv_publishD hd
            repeat' ((conv => whnf); first
              | refine look.call h15 [_] trivial ?_)
            all_goals (conv => whnf)
            refine turnV.call (h14 ov) [_] trivial trivial (fun ov2 => ?_)
            obtain ⟨p1, p2, _⟩ | ⟨p1, p, hp, hnp7⟩ := wh_pub hr0 hw (fun i hi g => by
              obtain ⟨v, hv⟩ := (laid_there _ _ _ _).mp g
              exact ⟨v, hv, by rw [hv]; rfl⟩)
            · obtain ⟨T, hT⟩ : ∃ T, T = publishD d := ⟨_, rfl⟩
              rw [← hT] at p1 p2 hi2 ⊢
              rw [p1]
              (conv => whnf)
              exact ⟨(ov2, T.1, 0), Ghost.hold [3, 7, 9, 16, 19] rfl, hi2, p2.n, .inl ⟨hb.mpr p2.all, rfl, p2⟩⟩
            · rw [p1]
              (conv => whnf)
              refine ⟨(ov2, d, 15), Ghost.hold [3, 7, 9, 16, 19] rfl, hd, hdn, .inr ⟨?_, rfl, hw.out⟩⟩
              cases hbb : b with
              | false => rfl
              | true =>
                obtain ⟨v, hv⟩ := hb.mp hbb p hp
                exact absurd ((laid_there _ _ _ _).mpr ⟨v, hv⟩) hnp7
          · have h15 := f15_at dv ov d
            rw [if_pos hpos, hw.id] at h15
            repeat' ((conv => whnf); first
              | refine look.call h15 [_] trivial ?_)
            all_goals (conv => whnf)
            exact ⟨(ov, d, 0), Ghost.hold [3, 7, 9, 16, 19] rfl, hd, hdn, .inl ⟨hb.mpr hw.all, rfl, hw⟩⟩
        · clear hw hd hdn hpos hb
          rintro ⟨ov2, d2, f⟩ ⟨hd2, hn2, hI⟩
          dsimp only at hd2 hn2 hI ⊢
          refine exec_ok tab_ok mixed 1000 (bx := bxD ++ [true]) (own := [137]) ?_
          rcases hI with ⟨rfl, rfl, hw⟩ | ⟨rfl, rfl, ho⟩
          · have hmem : (⟨7, wholeV (mkV mk) m.pieces_⟩ : Out) ∈ d2.out := by rw [hw.out]; exact List.mem_cons_self
            have hvl := hd2.outv _ hmem
            rw [hn2, ← hN] at hvl
            have hat := fun (q : Nat) (g : q < N) => M.whole_at (mk := mkV mk) (N := N) m.pieces_ 0 (by rw [← hNi]; exact hr0.2.2.2.2.2) (fun p hp => by
              obtain ⟨v, hv⟩ := hw.all p hp
              rw [mkV, hv]; exact hmk.len _ v hv) q (Nat.zero_le _) g
            have hrd := f19_at dv ov2 hd2 hmem (out_uniq hd2 hmem) 0 m.n_ (read_full (by rw [← hN]; exact hvl) ⟨by omega, by omega⟩)
            obtain ⟨W, hW⟩ : ∃ W, W = wholeV (mkV mk) m.pieces_ := ⟨_, rfl⟩
            rw [← hW] at hvl hat
            dsimp only at hrd hvl
            rw [← hW] at hrd
            (conv => whnf)
            have hrd' : LookN 19 [.int .i64 7, .int .i64 0, .int .i64 m.n_] dv ov2 d2 (fun k w => .tup [.h k w 0 W.length, .int .i64 0]) 1 (W.map r56) := hrd
            refine lookN.call hrd' [_] (fun w => ?_)
            repeat' ((conv => whnf); first
              | refine And.intro rfl ?_ | refine boolF_not ?_ | refine boolF_dect (by omega) ?_)
            all_goals (conv => whnf)
            refine W_loopG (ι := Nat) (fun q => ⟨(D.undef :: D.undef :: D.undef :: .pe (c24 m) :: D.undef :: D.undef :: D.undef :: D.undef :: D.undef :: .p 18 0 0 0 :: D.undef :: D.undef :: D.undef :: D.undef :: D.undef :: D.undef :: D.undef :: D.undef :: D.undef :: D.undef :: .h 19 w 0 W.length :: D.undef :: D.undef :: D.undef :: D.undef :: D.undef :: D.undef :: D.undef :: D.undef :: D.undef :: D.undef :: D.undef :: D.undef :: D.undef :: D.undef :: D.undef :: D.undef :: D.undef :: D.undef :: D.undef :: D.undef :: D.undef :: D.undef :: D.undef :: D.undef :: D.undef :: D.undef :: D.undef :: D.undef :: D.undef :: D.undef :: D.undef :: D.undef :: D.undef :: D.undef :: D.undef :: D.undef :: D.undef :: D.undef :: D.undef :: D.undef :: D.undef :: D.undef :: D.undef :: D.undef :: D.undef :: D.undef :: D.undef :: D.undef :: D.undef :: D.undef :: D.undef :: D.undef :: D.undef :: D.undef :: D.undef :: D.undef :: D.undef :: D.undef :: D.undef :: D.undef :: D.undef :: D.undef :: D.undef :: D.undef :: D.undef :: D.undef :: D.undef :: D.undef :: D.undef :: D.undef :: D.undef :: D.undef :: D.undef :: D.undef :: D.undef :: D.undef :: D.undef :: D.undef :: D.undef :: D.undef :: D.undef :: D.undef :: D.undef :: D.undef :: D.undef :: D.undef :: D.undef :: D.undef :: D.undef :: D.undef :: D.undef :: D.undef :: D.undef :: D.undef :: D.undef :: D.undef :: D.undef :: D.undef :: D.undef :: D.undef :: D.undef :: D.undef :: D.undef :: D.undef :: D.undef :: D.undef :: D.undef :: D.undef :: D.undef :: D.undef :: D.undef :: D.undef :: D.undef :: D.undef :: D.undef :: D.undef :: D.undef :: D.undef :: D.undef :: D.undef :: D.undef :: D.undef :: D.undef :: D.undef :: D.undef :: D.undef :: D.undef :: D.undef :: D.undef :: D.undef :: D.undef :: D.undef :: D.undef :: D.undef :: D.undef :: D.undef :: D.undef :: D.undef :: D.undef :: D.undef :: D.undef :: D.undef :: D.undef :: D.undef :: D.undef :: D.undef :: D.undef :: D.undef :: D.undef :: D.undef :: D.undef :: D.undef :: D.undef :: D.undef :: D.undef :: D.undef :: D.undef :: D.undef :: D.undef :: D.undef :: D.undef :: D.undef :: D.undef :: D.undef :: D.undef :: D.undef :: D.undef :: D.undef :: D.undef :: D.undef :: D.undef :: D.undef :: D.undef :: D.undef :: D.undef :: .h 19 w 0 W.length :: .int .i64 (W.length : Int) :: .int .i64 (q : Int) :: D.undef :: D.undef :: D.undef :: D.undef :: D.undef :: D.undef :: D.undef :: D.undef :: D.undef :: D.undef :: D.undef :: D.undef :: D.undef :: D.undef :: D.undef :: D.undef :: []), HD dv ov2 d2 ++ [oM mk, .arr w 1 (W.map r56)]⟩) (fun q => W.length - q)
              (fun q => q ≤ W.length) 0 (Ghost.hold [3, 9, 20, 196, 197, 198] rfl) (Nat.zero_le _) ?_
            rintro q q1
            refine exec_ok tab_ok mixed 1000 (bx := bxD ++ [true, false]) (own := [137]) ?_
            rcases Nat.lt_or_ge q W.length with hq | hq
            · obtain ⟨y, hy⟩ := at_lt hq
              have hqN : q < N := by omega
              have haq := hat q hqN
              have h20 := M.f20_ok m (q : Int) h0 hr0 (by omega) (by omega)
              obtain ⟨ix, p, e1, hp, _⟩ := M.find_spec hr0 (b := (q : Int)) (by omega) (by omega)
              have hne := M.nodeL_spec hr0 (by omega) (by omega) e1 hp
              have hpm := List.mem_of_getElem? hp
              obtain ⟨t, ht, ht16, htn⟩ := hnod p hpm
              obtain ⟨u, hu⟩ := hw.all p hpm
              rw [htn] at hu
              rw [hne] at h20 haq
              rw [Nat.sub_zero, hy, htn, mkV, hu] at haq
              have huy : u[q]? = some y := haq.symm
              have hul := (List.getElem?_eq_some_iff.mp huy).1
              repeat' ((conv => whnf); first
                | refine PairK.mk (by kernel_rfl) ?_ | refine Exists.intro _ (And.intro (map_at (by omega) hy) ?_) | refine Exists.intro _ (And.intro (map_at (by omega) huy) ?_) | refine And.intro (by rw [List.length_map]; omega) ?_ | refine And.intro (show 0 + p.node_.toNat * 1 < 16 by omega) ?_ | refine dropK_of ((mkD_drop mk (show 0 + p.node_.toNat * 1 = t by omega) ht16).trans (by rw [hu])) ?_ | refine And.intro (by decide) ?_ | refine And.intro rfl ?_ | refine And.intro (Nat.le_of_ble_eq_true rfl) ?_ | refine And.intro (by omega) ?_ | refine boolF_t (beq_self_eq_true _) ?_
                | refine Exists.intro _ (And.intro (w64 (by omega) (by omega)) ?_) | refine Pure.locK (h20) ?_ | refine boolF_not ?_ | refine boolF_dect (by omega) ?_)
              all_goals (conv => whnf)
              exact ⟨q + 1, Ghost.hold [3, 9, 20, 196, 197, 198] rfl, hq, by omega⟩
            · repeat' ((conv => whnf); first
                | refine boolF_decf (by omega) ?_)
              all_goals (conv => whnf)
              exact ⟨rfl⟩
          · (conv => whnf)
            refine lookN.call (f18_at dv ov2 hd2) [_] (fun w => ?_)
            rw [ho]
            repeat' ((conv => whnf); first
              | refine And.intro rfl ?_)
            all_goals (conv => whnf)
            exact ⟨rfl⟩

end Go.Proofs.Ytgigpjkdfhhahaa

