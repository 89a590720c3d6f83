import Derived.Test.YtbefmodpgecfgaaD13b
namespace Go.Proofs.Ytbefmodpgecfgaa
open Go.A
set_option linter.unusedVariables false
set_option linter.unusedSimpArgs false
set_option linter.unnecessarySimpa false
attribute [local irreducible] IntKind.wrap bitsI
set_option maxRecDepth 100000
set_option maxHeartbeats 4000000

/-- The reference's disk: its cache's rows beside. -/
def optD : Option (List Nat) → D
  | none => .nils
  | some x => d34 x
def cdM (s : Dk) (i : Nat) : List Bool := (List.range s.plate.length).map fun j => decide (i ≤ j) && (findC j s.cache).isSome
def fuseR (s : Dk) : Int := match s.armed with | true => s.fuse | false => -1
structure Rv where
  va : Nat
  vb : Nat
def rowR (v : Rv) (a b c : Nat) (s : Dk) : List D := [.h a v.va 0 s.plate.length, .h b v.vb 0 s.plate.length, .h c 0 0 s.plate.length, .bool (!s.off), .int .i64 (fuseR s)]
def rS (v : Rv) (a b c : Nat) (s : Dk) : AObj := .arr 0 5 [.agg (rowR v a b c s)]
def rPl (v : Rv) (l : List (List Nat)) : AObj := .arr v.va 1 (l.map d34)
def rCa (v : Rv) (g : List (Option (List Nat))) : AObj := .arr v.vb 1 (g.map optD)
def rCd (s : Dk) (i : Nat) : AObj := .arr 0 1 ((cdM s i).map r4)
abbrev Ca := List (Option (List Nat))
def oR (v : Rv) (s : Dk) (g : Ca) : List AObj := [rS v 1 2 3 s, rPl v s.plate, rCa v g, rCd s 0]
structure OkR (s : Dk) (g : Ca) : Prop where
  k : OkK s
  len : g.length = s.plate.length
  has : ∀ (j : Nat) y, findC j s.cache = some y → g[j]? = some (some y)

theorem scPl (v : Rv) (l : List (List Nat)) : (rPl v l).sc 0 := by
  show scs 0 (l.map d34)
  rw [scs_map]; intro x _; exact scr5 _ _
theorem scCa (v : Rv) (g : List (Option (List Nat))) : (rCa v g).sc 0 := by
  show scs 0 (g.map optD)
  rw [scs_map]; intro x _
  cases x with
  | none => trivial
  | some x => exact scr5 _ _
theorem scCd (s : Dk) (i : Nat) : (rCd s i).sc 0 := by
  show scs 0 (List.map r4 _)
  rw [scs_map]; intro x _; trivial
theorem scRS (v : Rv) (s : Dk) : (rS v 1 2 3 s).sc 4 := ⟨⟨show 1 < 4 by decide, show 2 < 4 by decide, show 3 < 4 by decide, trivial, trivial, trivial⟩, trivial⟩
theorem oscR' (v : Rv) (s s' : Dk) (l : List (List Nat)) (g : List (Option (List Nat))) (i : Nat) : ∀ ob ∈ [rS v 1 2 3 s, rPl v l, rCa v g, rCd s' i], ob.sc 4 := fun ob hob => by
  simp only [List.mem_cons, List.not_mem_nil, or_false] at hob
  rcases hob with rfl | rfl | rfl | rfl
  · exact scRS v s
  · exact osc_le (scPl v l)
  · exact osc_le (scCa v g)
  · exact osc_le (scCd s' i)
theorem oscR (v : Rv) (s : Dk) (g : Ca) : ∀ ob ∈ oR v s g, ob.sc 4 := oscR' v s s _ _ _
/-- A call on the reference's disk. -/
def TurnsR (v : Rv) (f : FuncId) (xs : List D) (s : Dk) (g : Ca) (r : D) (s' : Dk) (g' : Ca) : Prop := TurnsM Try.prog f (.p 0 0 0 0 :: xs) (oR v s g) r (oR v s' g')
theorem TurnsR.of {v : Rv} {f : FuncId} {xs : List D} {s : Dk} {g : Ca} {r : D} {s' : Dk} {g' : Ca} (hx : scs 0 xs) (h : CallsIn Try.prog f (.p 0 0 0 0 :: xs) (oR v s g) fun r' H' => ∃ r'' H'', Ghost 4 [r'] H' [r''] H'' ∧ r'' = r ∧ H'' = oR v s' g') : TurnsR v f xs s g r s' g' :=
  ⟨CallsIn.ghost (h.mono fun r' H' ⟨r'', H'', g, e1, e2⟩ => ⟨r'', H'', g, e1, e2⟩), rfl, ⟨show 0 < 4 by decide, scs_le _ _ hx⟩, oscR v s g⟩
theorem ren4 (v : Rv) (a b c d k : Nat) (s : Dk) (g : Ca) : (oR v s g).map (renO (ixOf [a, b, c, d] k)) = [rS v b c d s, rPl v s.plate, rCa v g, rCd s 0] := by
  show [renO _ (rS v 1 2 3 s), renO _ (rPl v _), renO _ (rCa v _), renO _ (rCd _ _)] = _
  rw [renO_sc0 _ (scPl v _), renO_sc0 _ (scCa v _), renO_sc0 _ (scCd _ _)]
  rfl
theorem arg4 {xs : List D} (hx : scs 0 xs) (a b c d k : Nat) : renL (ixOf [a, b, c, d] k) (.p 0 0 0 0 :: xs) = .p a 0 0 0 :: xs := by
  show _ :: renL _ xs = _
  rw [renL_sc0 _ _ hx]; rfl
theorem has4 {v : Rv} {a b c d : Nat} {s : Dk} {g : Ca} {H : List AObj} (ha : H[a]? = some (rS v b c d s)) (hb : H[b]? = some (rPl v s.plate)) (hc : H[c]? = some (rCa v g)) (hd : H[d]? = some (rCd s 0)) (k : Nat) :
    [a, b, c, d].map (fun o => H[o]?) = (oR v s g).map fun ob => some (renO (ixOf [a, b, c, d] k) ob) := by
  have := congrArg (List.map some) (ren4 v a b c d k s g)
  rw [List.map_map] at this
  refine Eq.trans ?_ this.symm
  simp [ha, hb, hc, hd]
theorem TurnsR.call {v : Rv} {f : FuncId} {xs : List D} {s s' : Dk} {g g' : Ca} {r : D} (h : TurnsR v f xs s g r s' g') (a b c d : Nat) (hn : [a, b, c, d].Nodup) (hx : scs 0 xs) (hr : r.sc 0) {H : List AObj} (ha : H[a]? = some (rS v b c d s)) (hb : H[b]? = some (rPl v s.plate)) (hc : H[c]? = some (rCa v g)) (hd : H[d]? = some (rCd s 0)) {K : D → List AObj → Prop}
    (hk : setK H a (rS v b c d s') fun H => setK H b (rPl v s'.plate) fun H => setK H c (rCa v g') fun H => setK H d (rCd s' 0) fun H => K r H) : CallsIn Try.prog f (.p a 0 0 0 :: xs) H K :=
  TurnsM.call h [a, b, c, d] hn rfl (arg4 hx a b c d) (fun k => ren_sc0 _ _ hr) (has4 ha hb hc hd) (fun k => ren4 v a b c d k s' g') hk
theorem TurnsR.locK {v : Rv} {f : FuncId} {xs : List D} {s s' : Dk} {g g' : Ca} {r : D} (h : TurnsR v f xs s g r s' g') (a b c d : Nat) (hn : [a, b, c, d].Nodup) (hx : scs 0 xs) (hr : r.sc 0) {H : List AObj} (ha : H[a]? = some (rS v b c d s)) (hb : H[b]? = some (rPl v s.plate)) (hc : H[c]? = some (rCa v g)) (hd : H[d]? = some (rCd s 0))
    {bx : List Bool} {X : D → List Nat → List (Nat × AObj) → List AObj → List Bool → Prop}
    (hk : setK H a (rS v b c d s') fun H => setK H b (rPl v s'.plate) fun H => setK H c (rCa v g') fun H => setK H d (rCd s' 0) fun H => X r [a, b, c, d] [(a, rS v b c d s'), (b, rPl v s'.plate), (c, rCa v g'), (d, rCd s' 0)] H bx) : LocK Try.prog f (.p a 0 0 0 :: xs) H bx X :=
  TurnsM.locK h [a, b, c, d] hn rfl (arg4 hx a b c d) (fun k => ren_sc0 _ _ hr) (has4 ha hb hc hd) (fun k => ren4 v a b c d k s' g') hk

theorem r34_ok (v : Rv) (s : Dk) (g : Ca) (hs : OkR s g) : TurnsR v 34 [] s g (.bool (stepM s).1) (stepM s).2 g := by
  refine TurnsR.of trivial ?_
  have hf := hs.k.fuse
  clear hs
  obtain ⟨pl, ca, off, armed, fuse⟩ := s
  dsimp only at hf
  cases off with
  | true =>
    refine CallsIn.of_exec tab_ok mixed Try.func34 rfl rfl [] [true, false, false, false] ?_
    repeat' ((conv => whnf); first
      | refine And.intro (by decide) ?_ | refine And.intro (Nat.le_of_ble_eq_true rfl) ?_)
    all_goals (conv => whnf)
    exact ⟨⟨_, _, Ghost.refl _ _ _, rfl, rfl⟩⟩
  | false =>
    cases armed with
    | true =>
      have hfr : fuseR ⟨pl, ca, false, true, fuse⟩ = fuse := rfl
      by_cases h0 : fuse = 0
      · have e : stepM ⟨pl, ca, false, true, fuse⟩ = (false, ⟨pl, ca, true, true, fuse⟩) := by rw [stepM, if_neg (by simp), if_pos rfl, if_pos h0]
        rw [e]
        refine CallsIn.of_exec tab_ok mixed Try.func34 rfl rfl [] [true, false, false, false] ?_
        repeat' ((conv => whnf); first
          | refine And.intro (by decide) ?_ | refine And.intro (Nat.le_of_ble_eq_true rfl) ?_ | refine boolF_dect (by assumption) ?_)
        all_goals (conv => whnf)
        exact ⟨⟨_, _, Ghost.refl _ _ _, rfl, rfl⟩⟩
      · have e : stepM ⟨pl, ca, false, true, fuse⟩ = (true, ⟨pl, ca, false, true, fuse - 1⟩) := by rw [stepM, if_neg (by simp), if_pos rfl, if_neg h0]
        rw [e]
        refine CallsIn.of_exec tab_ok mixed Try.func34 rfl rfl [] [true, false, false, false] ?_
        repeat' ((conv => whnf); first
          | refine And.intro (by decide) ?_ | refine And.intro (Nat.le_of_ble_eq_true rfl) ?_ | refine Exists.intro _ (And.intro (w64 (by omega) (by omega)) ?_) | refine boolF_decf (by assumption) ?_ | refine boolF_dect (by omega) ?_)
        all_goals (conv => whnf)
        exact ⟨⟨_, _, Ghost.refl _ _ _, rfl, rfl⟩⟩
    | false =>
      have hfr : fuseR ⟨pl, ca, false, false, fuse⟩ = -1 := rfl
      refine CallsIn.of_exec tab_ok mixed Try.func34 rfl rfl [] [true, false, false, false] ?_
      repeat' ((conv => whnf); first
        | refine And.intro (by decide) ?_ | refine And.intro (Nat.le_of_ble_eq_true rfl) ?_)
      all_goals (conv => whnf)
      exact ⟨⟨_, _, Ghost.refl _ _ _, rfl, rfl⟩⟩
theorem r20_ok (v : Rv) (s : Dk) (g : Ca) (n : Int) : TurnsR v 20 [.int .i64 n] s g (.tup []) (armM s n) g := by
  refine TurnsR.of ⟨trivial, trivial⟩ ?_
  have hfr : fuseR (armM s n) = max n (-1) := by
    have e : fuseR (armM s n) = if 0 ≤ n then max n 0 else -1 := by
      by_cases h : 0 ≤ n
      · rw [if_pos h, fuseR]
        have : (armM s n).armed = true := decide_eq_true h
        rw [this]; rfl
      · rw [if_neg h, fuseR]
        have : (armM s n).armed = false := decide_eq_false h
        rw [this]
    rw [e]
    split <;> omega
  refine CallsIn.of_exec tab_ok mixed Try.func20 rfl rfl [] [true, false, false, false] ?_
  repeat' ((conv => whnf); first
    | refine And.intro (by decide) ?_ | refine And.intro (Nat.le_of_ble_eq_true rfl) ?_ | refine Exists.intro _ (And.intro (imax) ?_))
  all_goals (conv => whnf)
  exact ⟨⟨_, _, Ghost.refl _ _ _, rfl, by
    show [_, _, _, _] = [AObj.arr 0 5 [.agg [_, _, _, _, .int .i64 (fuseR (armM s n))]], _, _, _]
    rw [hfr]; rfl⟩⟩
theorem r22_ok (v : Rv) (s : Dk) (g : Ca) : TurnsR v 22 [] s g (.tup []) (cutM s) g := by
  refine TurnsR.of trivial ?_
  refine CallsIn.of_exec tab_ok mixed Try.func22 rfl rfl [] [true, false, false, false] ?_
  repeat' ((conv => whnf); first
    | refine And.intro (by decide) ?_ | refine And.intro (Nat.le_of_ble_eq_true rfl) ?_)
  all_goals (conv => whnf)
  exact ⟨⟨_, _, Ghost.refl _ _ _, rfl, rfl⟩⟩

end Go.Proofs.Ytbefmodpgecfgaa

