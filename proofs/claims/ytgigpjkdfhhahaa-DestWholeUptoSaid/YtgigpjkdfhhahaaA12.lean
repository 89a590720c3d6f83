/- A logic of abstract states, part 12: functions, and how their code is gone through. -/
import Derived.Test.YtgigpjkdfhhahaaA11
namespace Go.A
set_option linter.unusedVariables false
set_option linter.unusedSimpArgs false

/-- A result's data. -/
def resD1 (T : Tab) (s : St) : ResultVar → Option D
  | .tmp t => some (ev s.slots (.tmp t))
  | .cell a t => match T.get t, ptrCells s.H (ev s.slots (.tmp a)) with
    | some td, some cs => if td.k.isAgg then (if td.size ≤ cs.length then some (.agg (cs.take td.size)) else none) else cs[0]?
    | _, _ => none

def resD (T : Tab) (s : St) : List ResultVar → Option (List D)
  | [] => some []
  | r :: rs => match resD1 T s r, resD T s rs with
    | some d, some ds => some (d :: ds)
    | _, _ => none

def oneD : List D → D
  | [d] => d
  | ds => .tup ds

/-- What a function's end must be. -/
def retQ (T : Tab) (rs : List ResultVar) (R : D → List AObj → Prop) : Exit → St → Prop
  | .normal, s | .ret, s => ∃ ds, resD T s rs = some ds ∧ R (oneD ds) s.H
  | _, _ => False

theorem run_results {P : Program} {T : Tab} (hT : TOk P T) {C φ s a w} (hs : SRel C φ s a w) : ∀ (rs : List ResultVar) (ds : List D), resD T s rs = some ds →
    ∃ vs, (rs.mapM fun r => (match r with | .tmp t => pure (a.tmps.getD t undef) | .cell x t => do loadVar t (← asAddr (a.tmps.getD x undef)) : Sem Value)).run P w = .ok vs w ∧ VRs (C.env φ s.H w) ds vs
  | [], ds, h => by simp [resD] at h; subst h; exact ⟨[], by simp, .nil⟩
  | r :: rs, ds, h => by
    simp only [resD] at h
    split at h
    · rename_i d ds' h1 h2
      cases h
      obtain ⟨vs, k1, k2⟩ := run_results hT hs rs ds' h2
      have hr : ∃ v, (match r with | .tmp t => pure (a.tmps.getD t undef) | .cell x t => do loadVar t (← asAddr (a.tmps.getD x undef)) : Sem Value).run P w = .ok v w ∧ VR (C.env φ s.H w) d v := by
        cases r with
        | tmp t =>
          simp only [resD1, Option.some.injEq] at h1; subst h1
          exact ⟨_, rfl, hs.ev (.tmp t)⟩
        | cell x t =>
          simp only [resD1] at h1
          split at h1
          · rename_i td cs ht hc
            have hp := hs.ev (.tmp x)
            obtain ⟨ad, vs', hv, _, _⟩ := hs.g.ptr hp hc
            have hload : ∀ r', ((td.k.isAgg = true ∧ td.size ≤ cs.length ∧ r' = .agg (cs.take td.size)) ∨ (td.k.isAgg = false ∧ cs[0]? = some r')) → ∃ u, (loadVar t ad).run P w = .ok u w ∧ VR (C.env φ s.H w) r' u := fun r' hr' => by
              obtain ⟨u, e1, e2⟩ := hs.g.load hT hp hc ht hr'
              rw [hv] at e1
              exact ⟨u, by simpa [Instr.loadAt, Instr.sureAddr] using e1, e2⟩
            have hv' : a.tmps.getD x undef = .pointer (some ad) := hv
            split at h1
            · rename_i hagg
              split at h1
              · cases h1
                obtain ⟨u, e1, e2⟩ := hload _ (.inl ⟨hagg, by assumption, rfl⟩)
                exact ⟨u, by simp only [hv', Sem.run_bind, asAddr, Sem.run_pure, Result.andThen_ok, e1], e2⟩
              · cases h1
            · rename_i hagg
              obtain ⟨u, e1, e2⟩ := hload d (.inr ⟨by simpa using hagg, h1⟩)
              exact ⟨u, by simp only [hv', Sem.run_bind, asAddr, Sem.run_pure, Result.andThen_ok, e1], e2⟩
          · cases h1
      obtain ⟨v, k3, k4⟩ := hr
      exact ⟨v :: vs, by simp only [List.mapM_cons, Sem.run_bind, k3, k1, Result.andThen_ok, Sem.run_pure], .cons k4 k2⟩
    · cases h

/-- A call's own beginning. -/
def Ctx.now (C : Ctx) (φ : List (Option Nat)) (H : List AObj) (w : World) : Ctx := ⟨C.N φ H, φ, H, w, none, w.heap.size⟩

theorem G.nlt {C φ H w} (g : G C φ H w) {b : Nat} (h : C.N φ H b) : b < w.heap.size := by
  rcases h with ⟨h1, _⟩ | ⟨_, o1, ob1, h3, h4, h5⟩
  · have := g.size; omega
  · exact (g.own o1 b ob1 h4 h5 h3).1

theorem G.nowEnv {C φ H w} (g : G C φ H w) : (C.now φ H w).env φ H w = C.env φ H w := by
  have : (C.now φ H w).N φ H = C.N φ H := by
    funext b
    apply propext
    constructor
    · rintro (⟨_, h⟩ | ⟨h1, o, ob, h2, h3, h4⟩)
      · exact h
      · exact absurd h1 (Nat.not_le.mpr (g.own o b ob h3 h4 h2).1)
    · intro h
      exact .inl ⟨g.nlt h, h⟩
  simp [Ctx.env, this]

theorem G.now {C φ H w} (g : G C φ H w) : G (C.now φ H w) φ H w where
  objs := g.nowEnv ▸ g.objs
  size := Nat.le_refl _
  same := fun b _ _ => rfl
  own := fun o b ob h1 h2 h3 => ⟨(g.own o b ob h1 h2 h3).1, fun _ => ⟨h3, ob, h1, h2⟩⟩
  world := .refl w
  n0 := fun b ⟨o, ob, h1, h2, h3⟩ => g.nOf h2 h3 h1
  hlen := Nat.le_refl _
  ext := by
    have : (C.now φ H w).env0 = (C.now φ H w).env φ H w := by rw [g.nowEnv]; rfl
    rw [this]
    exact .refl _

/-- Back in the caller. -/
theorem G.back {C φ H w φ' H' w'} (g : G C φ H w) (g' : G (C.now φ H w) φ' H' w') : G C φ' H' w' ∧ Ext ((C.now φ H w).env φ' H' w') (C.env φ' H' w') ∧ Ext (C.env φ H w) (C.env φ' H' w') := by
  have hsz : w.heap.size ≤ w'.heap.size := g'.size
  have hat : ∀ (o b : Nat) ob, H'[o]? = some ob → AObj.alive ob → φ'[o]? = some (some b) → b < w.heap.size → φ[o]? = some (some b) ∧ ∃ ob0, H[o]? = some ob0 ∧ AObj.alive ob0 := fun o b ob h1 h2 h3 h4 => (g'.own o b ob h1 h2 h3).2 h4
  have hN : ∀ b, ¬ (C.now φ H w).N φ' H' b → ¬ C.N φ' H' b := fun b h1 h2 => by
    rcases h2 with ⟨h3, h4⟩ | ⟨h3, o, ob, h4, h5, h6⟩
    · exact h1 (.inl ⟨Nat.lt_of_lt_of_le h3 g.size, .inl ⟨h3, h4⟩⟩)
    · rcases Nat.lt_or_ge b w.heap.size with hb | hb
      · obtain ⟨k1, ob2, k2, k3⟩ := hat o b ob h5 h6 h4 hb
        exact h1 (.inl ⟨hb, .inr ⟨h3, o, ob2, k1, k2, k3⟩⟩)
      · exact h1 (.inr ⟨hb, o, ob, h4, h5, h6⟩)
  have x : Ext ((C.now φ H w).env φ' H' w') (C.env φ' H' w') := {
    imm := fun b h1 h2 hc => ⟨hN b h1, h2, rfl⟩
    old := fun o ob ver h1 h2 => ⟨ob, h1, h2⟩
    arr := fun o ver sz rows h1 => .inr ⟨rows, h1, rfl, rfl, fun b c e fz _ h3 => ⟨c, e, fz, h3, rfl⟩⟩
    map := fun o es st h1 => .inr ⟨es, st, h1, rfl⟩ }
  have x2 : Ext (C.env φ H w) (C.env φ' H' w') := Ext.trans (show Ext (C.env φ H w) ((C.now φ H w).env φ' H' w') from g'.ext) x
  have hat0 : ∀ (o b : Nat) ob, H'[o]? = some ob → AObj.alive ob → φ'[o]? = some (some b) → b < C.w0.heap.size → C.at0 o b := fun o b ob h1 h2 h3 h4 => by
    obtain ⟨k1, ob2, k2, k3⟩ := hat o b ob h1 h2 h3 (Nat.lt_of_lt_of_le h4 g.size)
    exact (g.own o b ob2 k2 k3 k1).2 h4
  refine ⟨{
    objs := ⟨g'.objs.len, fun o ob h => Cl.mono x rfl (fun b ha hb => ⟨rfl, fun _ => ?_⟩) (g'.objs.cl o ob h), g'.objs.inj⟩
    size := Nat.le_trans g.size hsz
    same := fun b h1 h2 => ?_
    own := fun o b ob h1 h2 h3 => ⟨(g'.own o b ob h1 h2 h3).1, hat0 o b ob h1 h2 h3⟩
    world := g.world.trans g'.world
    n0 := g.n0
    hlen := Nat.le_trans g.hlen g'.hlen
    ext := g.ext.trans x2 }, x, x2⟩
  · rcases Nat.lt_or_ge b C.w0.heap.size with hlt | hge
    · exact .inl ⟨hlt, g.n0 b (hat0 o b ob h ha hb hlt).owns⟩
    · exact .inr ⟨hge, o, ob, hb, h, ha⟩
  · have hb : b < w.heap.size := Nat.lt_of_lt_of_le h1 g.size
    rw [g'.same b hb (fun ⟨o2, ob2, k1, k2, k3⟩ => h2 ((g.own o2 b ob2 k2 k3 k1).2 h1).owns)]
    exact g.same b h1 h2

/-- The same activation, from here on. -/
abbrev Ctx.here (C : Ctx) (φ : List (Option Nat)) (H : List AObj) (w : World) : Ctx := ⟨C.N φ H, φ, H, w, C.ro, C.mb⟩

theorem G.re {N0 : Nat → Prop} {φ0 : List (Option Nat)} {H0 : List AObj} {w0 : World} {ro ro' : Option Nat} {mb mb' : Nat} {φ H w} (g : G ⟨N0, φ0, H0, w0, ro, mb⟩ φ H w) : G ⟨N0, φ0, H0, w0, ro', mb'⟩ φ H w :=
  ⟨g.objs, g.size, g.same, g.own, g.world, g.n0, g.hlen, g.ext⟩

theorem G.here {C φ H w} (g : G C φ H w) : G (C.here φ H w) φ H w := G.re g.now

theorem G.ofHere {C : Ctx} {φ0 : List (Option Nat)} {H0 : List AObj} {w0 : World} {φ H w} (g : G (C.here φ0 H0 w0) φ H w) : G (C.now φ0 H0 w0) φ H w := G.re g

theorem Marks.here {C : Ctx} {φ H w ds} (h : Marks C w ds) (g : G C φ H w) : Marks (C.here φ H w) w ds :=
  let ⟨l, h1, h2, h3⟩ := h; ⟨l, h1, h2, fun b hb => ⟨(h3 b hb).1, fun _ => (h3 b hb).notN g, (h3 b hb).2.2⟩⟩

theorem Marks.ofHere {C : Ctx} {φ H w w' ds} (h : Marks (C.here φ H w) w' ds) (g : G C φ H w) : Marks C w' ds :=
  let ⟨l, h1, h2, h3⟩ := h; ⟨l, h1, h2, fun b hb => ⟨(h3 b hb).1, fun hlt h0 => (h3 b hb).2.1 (Nat.lt_of_lt_of_le hlt g.size) (.inl ⟨hlt, h0⟩), (h3 b hb).2.2⟩⟩

theorem Ctx.le.here {C : Ctx} {n : Nat} {φ H w} (hn : C.le n) (g : G C φ H w) : (C.here φ H w).le H.length where
  f := Nat.le_of_eq (show φ.length = H.length from g.objs.len)
  h := Nat.le_refl _
  r := fun l hl => by
    obtain ⟨h1, h2, r, h3⟩ := hn.r l hl
    have h4 : w.heap[l]? = some (Obj.loop r) := (g.same l h1 h2).trans h3
    refine ⟨(Array.getElem?_eq_some_iff.mp h4).1, ?_, r, h4⟩
    rintro ⟨o, ob, k1, k2, k3⟩
    exact h2 ((g.own o l ob k2 k3 k1).2 h1).owns
  m := Nat.le_trans hn.m g.size

theorem SRel.here {C φ s a w} (h : SRel C φ s a w) : SRel (C.here φ s.H w) φ s a w :=
  ⟨h.defers.here h.g, by rw [show (C.here φ s.H w).env φ s.H w = (C.now φ s.H w).env φ s.H w from rfl, h.g.nowEnv]; exact h.slots, h.g.here⟩

/-- A mark is taken off. -/
theorem G.unmark {C φ H w} (g : G C φ H w) {b : Nat} (hb : C.w0.heap.size ≤ b) (hr : w.heap[b]? = some (Obj.deferred (some []))) : G C φ H (w.putObj b (.deferred none)) ∧ ExtW (C.env φ H w) (C.env φ H (w.putObj b (.deferred none))) := by
  have hget : ∀ k, k ≠ b → (w.putObj b (.deferred none)).heap[k]? = w.heap[k]? := fun k hk => World.putObj_heap_other hk
  have hne : ∀ (i k : Nat) ob, H[i]? = some ob → AObj.alive ob → φ[i]? = some (some k) → k ≠ b := fun i k ob h1 h2 h3 e => by
    subst e
    have k1 := g.objs.cl i ob h1
    cases ob with
    | arr ver sz rows =>
      obtain ⟨_, _, c, e, vs, ⟨fz, hfz, q1⟩, _⟩ := g.arrOf h1 h3
      rw [hr] at q1; cases q1
    | mapx es st =>
      obtain ⟨b', k1, _, ents, clock, k3, _⟩ := k1
      have k1' : φ[i]? = some (some b') := k1
      rw [h3] at k1'
      obtain rfl : k = b' := by simpa using k1'
      have k3' : w.heap[k]? = some (Obj.map ents clock) := k3
      rw [hr] at k3'; cases k3'
    | gone => exact h2
  have x : ExtW (C.env φ H w) (C.env φ H (w.putObj b (.deferred none))) := {
    imm := fun k h1 h2 ⟨c, e, fz, h3⟩ => by
      have hk : k ≠ b := fun e => by
        subst e
        have h3' : w.heap[k]? = some (Obj.cells c _ fz) := h3
        rw [hr] at h3'; cases h3'
      exact ⟨h1, by show k < (w.putObj b (.deferred none)).heap.size; rw [World.putObj_size]; exact h2, hget k hk⟩
    old := fun o ob ver h1 h2 => ⟨ob, h1, h2⟩
    arr := fun o ver sz rows h1 => .inr ⟨rows, h1, rfl, rfl, fun k c e fz h2 h3 => ⟨c, e, fz, (hget k (hne o k _ h1 trivial h2)).trans h3, rfl⟩⟩
    map := fun o es st h1 => .inr ⟨es, st, h1, rfl⟩ }
  refine ⟨{
    objs := ⟨g.objs.len, fun o ob h => Cl.monoW x rfl (fun k ha hk => ⟨hget k (hne o k ob h ha hk), fun h => h⟩) (g.objs.cl o ob h), g.objs.inj⟩
    size := by rw [World.putObj_size]; exact g.size
    same := fun k h1 h2 => (hget k (by omega)).trans (g.same k h1 h2)
    own := fun o k ob h1 h2 h3 => by rw [World.putObj_size]; exact g.own o k ob h1 h2 h3
    world := g.world.trans ⟨rfl, rfl, rfl, (by first | exact Nat.le_refl _ | exact Nat.le_succ _)⟩
    n0 := g.n0
    hlen := g.hlen
    ext := {
      imm := fun k h1 h2 hc => by
        obtain ⟨q1, q2, q3⟩ := g.ext.imm k h1 h2 hc
        have h2' : k < C.w0.heap.size := h2
        exact ⟨q1, by show k < (w.putObj b (.deferred none)).heap.size; rw [World.putObj_size]; exact q2, (hget k (by omega)).trans q3⟩
      old := g.ext.old
      arr := fun o ver sz rows h1 => by
        rcases g.ext.arr o ver sz rows h1 with q | ⟨rows', q1, q2, q3, q4⟩
        · exact .inl q
        · refine .inr ⟨rows', q1, q2, q3, fun k c e fz h2 h3 => ?_⟩
          obtain ⟨c', e', fz', q5, q6⟩ := q4 k c e fz h2 h3
          refine ⟨c', e', fz', (hget k fun e => ?_).trans q5, q6⟩
          subst e
          have q5' : w.heap[k]? = some (Obj.cells c' e' fz') := q5
          rw [hr] at q5'; cases q5'
      map := g.ext.map } }, x⟩

theorem leaves_marks {P : Program} {fn : Func} {tmps : Array Value} {R : Ending → World → Prop} {C : Ctx} {φ : List (Option Nat)} {H : List AObj} {s : List D} (hC : C.w0.heap.size ≤ C.mb)
    (fin : ∀ w, G C φ H w → VRs (C.env φ H w) s tmps.toList → ∃ v, (results fn tmps).run P w = .ok v w ∧ R (.returned v) w) :
    ∀ (l : List Nat) (w : World), l.Nodup → (∀ b ∈ l, Mark C w b) → G C φ H w → VRs (C.env φ H w) s tmps.toList → LeavesInM Fence.wide 0 P fn tmps R (l.map markOf) .returning w
  | [], w, _, _, g, hv => fin w g hv
  | b :: l, w, hn, hm, g, hv => by
    have hb := hm b (List.mem_cons_self ..)
    obtain ⟨g', x⟩ := g.unmark (Nat.le_trans hC hb.1) hb.2.2
    obtain ⟨hn1, hn2⟩ := List.nodup_cons.mp hn
    refine ⟨(fun h => by cases h), .inl ⟨b, _, rfl, run_takeDeferred hb.2.2, leaves_marks hC fin l _ hn2 (fun k hk => ?_) g' (VRs.monoW x hv)⟩⟩
    obtain ⟨q1, q2, q3⟩ := hm k (List.mem_cons_of_mem _ hk)
    exact ⟨q1, q2, (World.putObj_heap_other (by rintro rfl; exact hn1 hk)).trans q3⟩

theorem CallsIn.of_body {P : Program} {T : Tab} (hT : TOk P T) {f : FuncId} {fn : Func} {c : Code} {args : List D} {H : List AObj} {R : D → List AObj → Prop} (hf : P.funcs[f]? = some fn) (hb : fn.body = some c)
    (hn : (fn.name == "runtime.NumGoroutine") = false)
    {Q : Exit → St → Prop} (hQr : ∀ e s, Q e s → retQ T fn.results.toList R e s) (h : W P H.length [.code c] ⟨args ++ List.replicate (fn.ntmps - args.length) (.tup []), H⟩ Q) : CallsIn P f args H R := by
  refine CallsIn.mk' ⟨fn, hf, hn, by rw [hb]; rfl⟩ fun C φ w cargs g hv => (callsIn_wide (n := 0)).1 (callsIn_of_wp_marks hf hb trivial ?_)
  have hl : args.length = cargs.size := by simpa using hv.length
  have hs : SRel (C.now φ H w) φ ⟨args ++ List.replicate (fn.ntmps - args.length) (.tup []), H⟩ { tmps := cargs ++ Array.replicate (fn.ntmps - cargs.size) undef, defers := [] } w := by
    refine ⟨Marks.nil _ _, ?_, g.now⟩
    show VRs ((C.now φ H w).env φ H w) (args ++ List.replicate (fn.ntmps - args.length) (.tup [])) (cargs ++ Array.replicate (fn.ntmps - cargs.size) undef).toList
    rw [g.nowEnv, Array.toList_append, Array.toList_replicate, ← hl]
    refine hv.append ?_
    generalize fn.ntmps - args.length = n
    induction n with
    | zero => exact .nil
    | succ n ih => exact .cons (.tup .nil) ih
  refine wpIn_mono (F := Fence.wide) (W.run h (C := C.now φ H w) (φ := φ) (w := w) ⟨Nat.le_of_eq (show φ.length = H.length from g.objs.len), Nat.le_refl _, (fun _ h => by cases h), Nat.le_refl _⟩ hs) ?_
  have key : ∀ a w', (∃ s φ', SRel (C.now φ H w) φ' s a w' ∧ ∃ ds, resD T s fn.results.toList = some ds ∧ R (oneD ds) s.H) →
      LeavesInM Fence.wide 0 P fn a.tmps (fun e w' => ∃ r u H' φ', e = .returned u ∧ R r H' ∧ G C φ' H' w' ∧ Ext (C.env φ H w) (C.env φ' H' w') ∧ VR (C.env φ' H' w') r u) a.defers .returning w' := by
    rintro a w' ⟨s, φ', hs0, ds, hds, hR⟩
    obtain ⟨l, hl1, hl2, hl3⟩ := hs0.defers
    rw [hl2]
    refine leaves_marks (C := C.now φ H w) (φ := φ') (H := s.H) (s := s.slots) (Nat.le_refl _) (fun w' g' hv' => ?_) l w' hl1 hl3 hs0.g hs0.slots
    have hs' : SRel (C.now φ H w) φ' s { tmps := a.tmps, defers := [] } w' := ⟨Marks.nil _ _, hv', g'⟩
    obtain ⟨vs, k1, k2⟩ := run_results hT hs' _ _ hds
    obtain ⟨b1, b2, b3⟩ := g.back hs'.g
    refine ⟨if h : vs.toArray.size = 1 then vs.toArray[0] else .tuple vs.toArray, ?_, oneD ds, _, s.H, φ', rfl, hR, b1, b3, VR.mono b2 ?_⟩
    · unfold results
      rw [Array.mapM_eq_mapM_toList]
      simp only [Sem.run_bind, Sem.run_map]
      have : ∀ (f : ResultVar → Sem Value), (∀ r, f r = (match r with | .tmp t => pure (a.tmps.getD t undef) | .cell x t => do loadVar t (← asAddr (a.tmps.getD x undef)))) → (fn.results.toList.mapM f).run P w' = .ok vs w' := fun f hf => by
        have e : f = fun r => (match r with | .tmp t => pure (a.tmps.getD t undef) | .cell x t => do loadVar t (← asAddr (a.tmps.getD x undef)) : Sem Value) := funext hf
        rw [e]; exact k1
      rw [this _ (fun r => by cases r <;> rfl)]
      rfl
    · cases k2 with
      | nil => exact .tup .nil
      | cons h1 t1 =>
        cases t1 with
        | nil => exact h1
        | cons h2 t2 =>
          rw [dif_neg (by simp)]
          exact .tup (.cons h1 (.cons h2 t2))
  intro e a w' hq
  obtain ⟨s, φ', hs', hQ⟩ := hq
  replace hQ := hQr _ _ hQ
  cases e with
  | normal => exact key a w' ⟨s, φ', hs', hQ⟩
  | ret => exact key a w' ⟨s, φ', hs', hQ⟩
  | _ => exact hQ.elim

end Go.A
