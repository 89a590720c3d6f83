/- A logic of abstract states, part 32: what a call only looks at, told as what does not change. -/
import Derived.Test.YtgigpjkdfhhahaaA31
namespace Go.A
set_option linter.unusedVariables false
set_option linter.unusedSimpArgs false

-- Nothing in it leads to what does not change.
mutual
def D.bare : D → Prop
  | .agg cs => bares cs
  | .tup cs => bares cs
  | .sl xs => xs = []
  | .pe _ => False
  | .fn _ caps => bares caps
  | .ifc _ v => v.bare
  | _ => True
def bares : List D → Prop
  | [] => True
  | d :: ds => d.bare ∧ bares ds
end
theorem bares_iff : ∀ l : List D, bares l ↔ ∀ x ∈ l, x.bare
  | [] => by simp [bares]
  | d :: ds => by simp [bares, bares_iff ds]
theorem bares_append (a b : List D) : bares (a ++ b) ↔ bares a ∧ bares b := by
  simp only [bares_iff, List.mem_append]
  exact ⟨fun h => ⟨fun x hx => h x (.inl hx), fun x hx => h x (.inr hx)⟩, fun h x hx => hx.elim (h.1 x) (h.2 x)⟩
theorem bare_cells {d : D} (h : d.bare) : bares d.cells := by
  cases d <;> first
    | exact h
    | exact ⟨h, trivial⟩
theorem bares_flat : ∀ {l : List D}, bares l → bares (flat l)
  | [], _ => trivial
  | x :: l, h => (bares_append _ _).mpr ⟨bare_cells h.1, bares_flat h.2⟩
def AObj.bare : AObj → Prop
  | .arr _ _ rows => bares rows
  | .mapx es _ => ∀ e ∈ es, e.1.bare ∧ e.2.bare
  | .gone => True
theorem bares_map {X : Type} {f : X → D} {l : List X} (h : ∀ x, (f x).bare) : bares (l.map f) := by
  rw [bares_iff]; intro y hy; obtain ⟨x, _, rfl⟩ := List.mem_map.mp hy; exact h x

structure EmbB (ρ : Nat → Nat) (E' E : Env) : Prop where
  heap : E.heap = E'.heap
  H : ∀ (i : Nat) ob, E'.H[i]? = some ob → E.H[ρ i]? = some (renO ρ ob)
  φ : ∀ (i : Nat) ob, E'.H[i]? = some ob → E.φ[ρ i]? = E'.φ[i]?

mutual
theorem VR.renB {ρ : Nat → Nat} {E' E : Env} (m : EmbB ρ E' E) : ∀ {d : D} {v : Value}, VR E' d v → d.bare → VR E (Go.A.ren ρ d) v
  | _, _, .undef v, _ => .undef v
  | _, _, .int k n, _ => .int k n
  | _, _, .bool b, _ => .bool b
  | _, _, .str s, _ => .str s
  | _, _, .agg h, hb => .agg (VRs.renB m h hb)
  | _, _, .tup h, hb => .tup (VRs.renB m h hb)
  | _, _, .sl0 a cap, _ => .sl0 a cap
  | _, _, .sl (xs := xs) (a := a) (cap := cap) h1 h2 h3 h4 h5 h6 h7, hb => by
    obtain rfl : xs = [] := hb
    exact .sl0 (some a) cap
  | _, _, .nils, _ => .nils
  | _, _, .hold a len cap h1 h2, _ => .hold a len cap (m.H _ _ h1) (renO_past.mpr h2)
  | _, _, .hnil h1 h2, _ => .hnil (m.H _ _ h1) ((m.φ _ _ h1).trans h2)
  | _, _, .h (rows := rows) h1 h2 h3 h4 h5 h6 h7, _ => .h (rows := renL ρ rows) (m.H _ _ h1) ((m.φ _ _ h1).trans h2) (by rw [renL_length]; exact h3) h4 (m.heap ▸ h5) h6 h7
  | _, _, .pold a h1 h2, _ => .pold a (m.H _ _ h1) (renO_past.mpr h2)
  | _, _, .p (rows := rows) h1 h2 h3 h4, _ => .p (rows := renL ρ rows) (m.H _ _ h1) ((m.φ _ _ h1).trans h2) (by rw [renL_length]; exact h3) h4
  | _, _, .pe _ _ _ _, hb => hb.elim
  | _, _, .pnil, _ => .pnil
  | _, _, .map h1 h2, _ => .map (m.H _ _ h1) ((m.φ _ _ h1).trans h2)
  | _, _, .mnil, _ => .mnil
  | _, _, .mold r h1, _ => .mold r (m.H _ _ h1)
  | _, _, .fn h, hb => .fn (VRs.renB m h hb)
  | _, _, .fnil, _ => .fnil
  | _, _, .ifc h, hb => .ifc (VR.renB m h hb)
  | _, _, .inil, _ => .inil
  | _, _, .raw v, _ => .raw v
theorem VRs.renB {ρ : Nat → Nat} {E' E : Env} (m : EmbB ρ E' E) : ∀ {ds : List D} {vs : List Value}, VRs E' ds vs → bares ds → VRs E (renL ρ ds) vs
  | _, _, .nil, _ => .nil
  | _, _, .cons h t, hb => .cons (VR.renB m h hb.1) (VRs.renB m t hb.2)
end

-- The second one is what the first one shows, where what is listed is only looked at (the numbers below k are those of what is handed on as owned, renamed by ρ).
mutual
inductive Sees (k : Nat) (ρ : Nat → Nat) (F : List (Nat × AObj)) : D → D → Prop where
  | same {d : D} : d.sc 0 → Sees k ρ F d d
  | loc {d d' : D} : d = ren ρ d' → d'.sc k → Sees k ρ F d d'
  | h {o ver sz i n : Nat} {rows rows' xs : List D} : (o, AObj.arr ver sz rows) ∈ F → Seesl k ρ F rows rows' → xs = (rows'.drop i).take n → Sees k ρ F (.h o ver i n) (.sl xs)
  | p {o ver sz i j : Nat} {rows rows' : List D} {row : D} {cs : List D} : (o, AObj.arr ver sz rows) ∈ F → Seesl k ρ F rows rows' → rows'[i]? = some row → cs = row.cells.drop j → Sees k ρ F (.p o ver i j) (.pe cs)
  | sl {xs ys : List D} : Seesl k ρ F xs ys → Sees k ρ F (.sl xs) (.sl ys)
  | pe {xs ys : List D} : Seess k ρ F xs ys → Sees k ρ F (.pe xs) (.pe ys)
  | agg {xs ys : List D} : Seess k ρ F xs ys → Sees k ρ F (.agg xs) (.agg ys)
  | tup {xs ys : List D} : Seess k ρ F xs ys → Sees k ρ F (.tup xs) (.tup ys)
  | fn {f : FuncId} {xs ys : List D} : Seess k ρ F xs ys → Sees k ρ F (.fn f xs) (.fn f ys)
inductive Seess (k : Nat) (ρ : Nat → Nat) (F : List (Nat × AObj)) : List D → List D → Prop where
  | nil : Seess k ρ F [] []
  | cons {x y : D} {xs ys : List D} : Sees k ρ F x y → Seess k ρ F xs ys → Seess k ρ F (x :: xs) (y :: ys)
inductive Seesl (k : Nat) (ρ : Nat → Nat) (F : List (Nat × AObj)) : List D → List D → Prop where
  | all {l : List D} : scs 0 l → Seesl k ρ F l l
  | nil : Seesl k ρ F [] []
  | cons {x y : D} {xs ys : List D} : Seess k ρ F x.cells y.cells → Seesl k ρ F xs ys → Seesl k ρ F (x :: xs) (y :: ys)
end

theorem Seess.length {k ρ F} : ∀ {xs ys : List D}, Seess k ρ F xs ys → xs.length = ys.length
  | _, _, .nil => rfl
  | _, _, .cons _ t => by simp [Seess.length t]
theorem Seesl.length {k ρ F} : ∀ {xs ys : List D}, Seesl k ρ F xs ys → xs.length = ys.length
  | _, _, .all _ => rfl
  | _, _, .nil => rfl
  | _, _, .cons _ t => by simp [Seesl.length t]
theorem Seesl.rows {k ρ F} {sz : Nat} : ∀ {xs ys : List D}, Seesl k ρ F xs ys → (∀ x ∈ xs, x.cells.length = sz) → ∀ y ∈ ys, y.cells.length = sz
  | _, _, .all _, h => h
  | _, _, .nil, _ => fun y hy => by cases hy
  | _, _, .cons h t, hx => fun y hy => by
    rcases List.mem_cons.mp hy with rfl | hy
    · rw [← h.length]; exact hx _ List.mem_cons_self
    · exact Seesl.rows t (fun x h => hx x (List.mem_cons_of_mem _ h)) y hy

structure SeeE (k : Nat) (ρ : Nat → Nat) (F : List (Nat × AObj)) (E E' : Env) : Prop where
  une : Une k ρ E' E
  cl : ∀ (o : Nat) ob, E.H[o]? = some ob → Cl E o ob
  blk : ∀ o ver sz rows b, (o, AObj.arr ver sz rows) ∈ F → E.φ[o]? = some (some b) → ¬ E'.N b ∧ b < E'.heap.size
  get : ∀ o ob, (o, ob) ∈ F → E.H[o]? = some ob

mutual
theorem VR.sees {k : Nat} {ρ : Nat → Nat} {F : List (Nat × AObj)} {E E' : Env} (m : SeeE k ρ F E E') : ∀ {d d' : D} (_ : Sees k ρ F d d') {v : Value}, VR E d v → VR E' d' v
  | _, _, .same h, v, hv => VR.une m.une hv _ (sc_le _ _ h) (ren_sc0 ρ _ h).symm
  | _, _, .loc e h, v, hv => VR.une m.une hv _ h e
  | _, _, .h (o := o) (ver := ver) (sz := sz) (i := i) (n := n) (rows := rows) (rows' := rows') (xs := xs) hF hr e, v, hv => by
    have ho := m.get _ _ hF
    have hl := hr.length
    cases hv with
    | hold a len cap h1 h2 =>
      rw [ho] at h1; obtain rfl := Option.some.inj h1
      exact absurd h2 (Nat.lt_irrefl _)
    | hnil h1 h2 =>
      rw [ho] at h1; cases h1
      obtain rfl := List.length_eq_zero_iff.mp hl.symm
      simp at e
      subst e
      exact .sl0 none 0
    | @h _ _ _ _ sz' b cap rows2 a c e' fz h1 h2 h3 h4 h5 h6 h7 =>
      rw [ho] at h1; cases h1
      rcases m.cl o _ ho with ⟨q1, _⟩ | ⟨b', p1, p2, q1, q2, c', e2, vs, ⟨fz1, hfz, q3⟩, q4, q5⟩
      · rw [h2] at q1; cases q1
      rw [h2] at p1; obtain rfl := Option.some.inj (Option.some.inj p1)
      obtain ⟨q6, q7⟩ := m.blk o _ _ _ b hF h2
      have q4 := VRs.seesl m hr q4
      have q2 := hr.rows q2
      have hxl : xs.length = n := by rw [e]; simp; omega
      rcases Nat.eq_zero_or_pos n with h0 | h0
      · subst h0
        have : xs = [] := List.length_eq_zero_iff.mp hxl
        subst this
        exact .sl0 _ _
      · have ha : a = ⟨b, i * sz, none⟩ := by
          rcases h7 with h7 | h7
          · omega
          · exact h7
        subst ha
        have hvs : VRs E' (flat xs) ((vs.drop (i * sz)).take (n * sz)) := by
          have hu : ∀ x ∈ rows'.drop i, x.cells.length = sz := fun x hx => q2 x (List.mem_of_mem_drop hx)
          rw [e, ← flat_take hu, ← flat_drop q2]
          exact (q4.drop _).take _
        have := VR.sl (E := E') (xs := xs) (a := ⟨b, i * sz, none⟩) (cap := cap) (sz := sz) (by omega) q6 q7 q1
          (fun x hx => q2 x (by rw [e] at hx; exact List.mem_of_mem_drop (List.mem_of_mem_take hx)))
          ⟨rfl, c', e2, fz1, (m.une.heap ▸ q3 : E'.heap[b]? = _), fun j u hj => by
            rw [List.getElem?_take] at hj
            split at hj
            · rw [List.getElem?_drop] at hj
              exact q5 _ _ hj
            · cases hj⟩ hvs
        rw [hxl] at this
        exact this
  | _, _, .p (o := o) (ver := ver) (sz := sz) (i := i) (j := j) (rows := rows) (rows' := rows') (row := row) (cs := cs) hF hr e1 e2, v, hv => by
    have ho := m.get _ _ hF
    cases hv with
    | pold a h1 h2 =>
      rw [ho] at h1; obtain rfl := Option.some.inj h1
      exact absurd h2 (Nat.lt_irrefl _)
    | @p _ _ _ _ sz' b rows2 h1 h2 h3 h4 =>
      rw [ho] at h1; cases h1
      rcases m.cl o _ ho with ⟨q1, _⟩ | ⟨b', p1, p2, q1, q2, c', e2', vs, ⟨fz1, hfz, q3⟩, q4, q5⟩
      · rw [h2] at q1; cases q1
      rw [h2] at p1; obtain rfl := Option.some.inj (Option.some.inj p1)
      obtain ⟨q6, q7⟩ := m.blk o _ _ _ b hF h2
      have q4 := VRs.seesl m hr q4
      have q2 := hr.rows q2
      have hrow : VRs E' row.cells ((vs.drop (i * sz)).take sz) := by
        have hu : ∀ x ∈ rows'.drop i, x.cells.length = sz := fun x hx => q2 x (List.mem_of_mem_drop hx)
        have k : flat ((rows'.drop i).take 1) = row.cells := by
          rw [drop_of_get e1]; simp [flat]
        have k2 := (q4.drop (i * sz)).take (1 * sz)
        rw [flat_drop q2, flat_take hu, k, Nat.one_mul] at k2
        exact k2
      refine .pe q6 q7 (vs := ((vs.drop (i * sz)).take sz).drop j) ⟨rfl, c', e2', fz1, (m.une.heap ▸ q3 : E'.heap[b]? = _), fun k u hk => ?_⟩ (e2 ▸ hrow.drop j)
      rw [List.getElem?_drop, List.getElem?_take] at hk
      split at hk
      · rw [List.getElem?_drop] at hk
        have := q5 _ _ hk
        rw [← Nat.add_assoc] at this
        exact this
      · cases hk
  | _, _, .sl (xs := xs) (ys := ys) hl, v, hv => by
    cases hv with
    | sl0 a cap =>
      have := hl.length
      obtain rfl := List.length_eq_zero_iff.mp this.symm
      exact .sl0 a cap
    | sl h1 h2 h3 h4 h5 h6 h7 =>
      rw [hl.length] at h1 ⊢
      exact .sl h1 (m.une.N _ h2 h3) (m.une.heap ▸ h3) h4 (hl.rows h5) (m.une.heap ▸ h6) (VRs.seesl m hl h7)
  | _, _, .pe hl, v, hv => by
    cases hv with
    | pe h2 h3 h6 h7 => exact .pe (m.une.N _ h2 h3) (m.une.heap ▸ h3) (m.une.heap ▸ h6) (VRs.sees m hl h7)
  | _, _, .agg hl, v, hv => by
    cases hv with
    | agg h => exact .agg (VRs.sees m hl h)
  | _, _, .tup hl, v, hv => by
    cases hv with
    | tup h => exact .tup (VRs.sees m hl h)
  | _, _, .fn hl, v, hv => by
    cases hv with
    | fn h => exact .fn (VRs.sees m hl h)
theorem VRs.sees {k : Nat} {ρ : Nat → Nat} {F : List (Nat × AObj)} {E E' : Env} (m : SeeE k ρ F E E') : ∀ {ds ds' : List D} (_ : Seess k ρ F ds ds') {vs : List Value}, VRs E ds vs → VRs E' ds' vs
  | _, _, .nil, vs, hv => by cases hv; exact .nil
  | _, _, .cons h t, vs, hv => by
    cases hv with
    | cons h1 h2 => exact .cons (VR.sees m h h1) (VRs.sees m t h2)
theorem VRs.seesl {k : Nat} {ρ : Nat → Nat} {F : List (Nat × AObj)} {E E' : Env} (m : SeeE k ρ F E E') : ∀ {ds ds' : List D} (_ : Seesl k ρ F ds ds') {vs : List Value}, VRs E (flat ds) vs → VRs E' (flat ds') vs
  | _, _, .all h, vs, hv => VRs.une m.une hv _ (sc_flat (scs_le _ _ h)) (renL_sc0 ρ _ (sc_flat h)).symm
  | _, _, .nil, vs, hv => by cases hv; exact .nil
  | _, _, .cons h t, vs, hv => by
    obtain ⟨vs1, vs2, rfl, h1, h2⟩ := VRs.split hv
    exact (VRs.sees m h h1).append (VRs.seesl m t h2)
end

/-- A call with what it owns alone, and with what it only looks at told as what does not change (nothing of that may be in what it answers). -/
theorem CallsIn.see {P : Program} {f : FuncId} {args args' : List D} {Hl : List AObj} {R : D → List AObj → Prop} (h : CallsIn P f args' Hl R) (hbare : ∀ r0 H0, R r0 H0 → r0.bare ∧ ∀ ob ∈ H0, ob.bare) (m : List Nat) (F : List (Nat × AObj)) {H : List AObj} (hm : m.length = Hl.length) (hn : m.Nodup)
    (hH : ∀ (i : Nat) o ob, m[i]? = some o → Hl[i]? = some ob → H[o]? = some (renO (ixOf m H.length) ob)) (hso : ∀ ob ∈ Hl, ob.sc Hl.length) (hF : ∀ x ∈ F, x.1 ∉ m ∧ H[x.1]? = some x.2) (hsee : Seess Hl.length (ixOf m H.length) F args args') :
    CallsIn P f args H fun r H' => ∃ r0 H0, R r0 H0 ∧ Hl.length ≤ H0.length ∧ r = ren (ixOf m H.length) r0 ∧ H' = place m H (H0.map (renO (ixOf m H.length))) := by
  have hml : ∀ o ∈ m, o < H.length := fun o ho => by
    obtain ⟨i, hi⟩ := List.getElem?_of_mem ho
    have h1 := (List.getElem?_eq_some_iff.mp hi).1
    exact (List.getElem?_eq_some_iff.mp (hH i o _ hi (List.getElem?_eq_getElem (by omega)))).1
  refine CallsIn.mk' h.fok fun C φ w cargs g hv => ?_
  obtain ⟨ρ, hρ⟩ : ∃ ρ, ρ = ixOf m H.length := ⟨_, rfl⟩
  rw [← hρ] at hH hsee
  have hlen : φ.length = H.length := g.objs.len
  have hρlt : ∀ i, i < Hl.length → ∃ o, m[i]? = some o ∧ ρ i = o := fun i hi => by rw [hρ]; exact ixOf_lt (by omega)
  obtain ⟨φl, hφl⟩ : ∃ φl : List (Option Nat), φl = m.map fun o => (φ[o]?).getD none := ⟨_, rfl⟩
  have hφll : φl.length = Hl.length := by rw [hφl]; simp [hm]
  have hφg : ∀ i, i < Hl.length → φ[ρ i]? = φl[i]? := fun i hi => by
    obtain ⟨o, h1, h2⟩ := hρlt i hi
    have ho := hml o (List.mem_of_getElem? h1)
    have ho' : o < φ.length := by omega
    rw [h2, hφl, List.getElem?_map, h1]
    simp [List.getElem?_eq_getElem ho']
  have hHg : ∀ i ob, Hl[i]? = some ob → H[ρ i]? = some (renO ρ ob) := fun i ob hi => by
    obtain ⟨o, h1, h2⟩ := hρlt i (List.getElem?_eq_some_iff.mp hi).1
    rw [h2]; exact hH i o ob h1 hi
  -- the own blocks of what is local
  have hown : ∀ i b ob, Hl[i]? = some ob → ob.alive → φl[i]? = some (some b) → φ[ρ i]? = some (some b) ∧ H[ρ i]? = some (renO ρ ob) ∧ b < w.heap.size ∧ (b < C.w0.heap.size → C.at0 (ρ i) b) ∧ C.N φ H b := fun i b ob h1 h2 h3 => by
    have k1 := hHg i ob h1
    have k2 : φ[ρ i]? = some (some b) := (hφg i (List.getElem?_eq_some_iff.mp h1).1).trans h3
    have k3 := g.own (ρ i) b _ k1 (renO_alive.mpr h2) k2
    exact ⟨k2, k1, k3.1, k3.2, g.nOf k1 (renO_alive.mpr h2) k2⟩
  obtain ⟨Cl', hCl⟩ : ∃ Cl' : Ctx, Cl' = ⟨fun b => C.N φ H b ∧ ¬ ∃ (o : Nat) (ob : AObj), o ∉ m ∧ H[o]? = some ob ∧ ob.alive ∧ φ[o]? = some (some b), φl, Hl, w, none, 0⟩ := ⟨_, rfl⟩
  have hoth : ∀ (i b : Nat) (ob : AObj), Hl[i]? = some ob → ob.alive → φl[i]? = some (some b) → ¬ ∃ (o : Nat) (ob : AObj), o ∉ m ∧ H[o]? = some ob ∧ ob.alive ∧ φ[o]? = some (some b) := fun i b ob h1 h2 h3 ⟨o, ob', k1, k2, k3, k4⟩ => by
    obtain ⟨q1, q2, _⟩ := hown i b ob h1 h2 h3
    have := g.objs.inj o (ρ i) b _ _ k2 k3 q2 (renO_alive.mpr h2) k4 q1
    obtain ⟨o', p1, p2⟩ := hρlt i (List.getElem?_eq_some_iff.mp h1).1
    rw [p2] at this; subst this
    exact k1 (List.mem_of_getElem? p1)
  have hw0 : Cl'.w0 = w := by rw [hCl]
  have hNl : ∀ b, Cl'.N φl Hl b ↔ b < w.heap.size ∧ C.N φ H b ∧ ¬ ∃ (o : Nat) (ob : AObj), o ∉ m ∧ H[o]? = some ob ∧ ob.alive ∧ φ[o]? = some (some b) := fun b => by
    rw [hCl]
    constructor
    · rintro (h | ⟨h1, i, ob, h2, h3, h4⟩)
      · exact h
      · have := (hown i b ob h3 h4 h2).2.2.1
        have h1' : w.heap.size ≤ b := h1
        omega
    · intro h; exact .inl h
  have hU : Une Hl.length ρ (Cl'.env φl Hl w) (C.env φ H w) := {
    heap := rfl
    N := fun b h1 _ h2 => h1 ((hNl b).mp h2).2.1
    H := fun i ob' hi h1 => by
      have h2 : Hl[i]? = some Hl[i] := List.getElem?_eq_getElem hi
      refine ⟨_, h2, ?_⟩
      have h3 : H[ρ i]? = some ob' := h1
      rw [hHg i _ h2] at h3
      exact (Option.some.inj h3).symm
    φ := fun i hi => hφg i hi }
  have hE0 : Cl'.env0 = Cl'.env φl Hl w := by
    have : Cl'.N φl Hl = fun b => C.N φ H b ∧ ¬ ∃ (o : Nat) (ob : AObj), o ∉ m ∧ H[o]? = some ob ∧ ob.alive ∧ φ[o]? = some (some b) := by
      funext b
      apply propext
      rw [hNl]
      exact ⟨fun h => h.2, fun h => ⟨g.nlt h.1, h⟩⟩
    simp only [Ctx.env0, Ctx.env, this]
    rw [hCl]
  have gl : G Cl' φl Hl w := {
    objs := {
      len := hφll
      cl := fun i ob hi => by
        have hi' : Hl[i]? = some ob := hi
        have hlt := (List.getElem?_eq_some_iff.mp hi').1
        have hsc := hso ob (List.mem_of_getElem? hi')
        have k := g.objs.cl (ρ i) _ (hHg i ob hi')
        have kφ : (C.env φ H w).φ[ρ i]? = φl[i]? := hφg i hlt
        cases ob with
        | arr v sz rows =>
          rcases k with ⟨h1, h2⟩ | ⟨b, h1, h2, h3, h4, c, e, vs, h5, h6, h7⟩
          · left
            refine ⟨kφ.symm.trans h1, ?_⟩
            have := renL_length ρ rows
            rw [h2] at this
            exact List.length_eq_zero_iff.mp this.symm
          · right
            have hb : φl[i]? = some (some b) := kφ.symm.trans h1
            refine ⟨b, hb, (hNl b).mpr ⟨(hown i b _ hi' trivial hb).2.2.1, h2, hoth i b _ hi' trivial hb⟩, h3, fun x hx => ?_, c, e, vs, h5, ?_, h7⟩
            · have := h4 (ren ρ x) (by rw [renL_map]; exact List.mem_map_of_mem hx)
              rw [ren_cells, renL_length] at this
              exact this
            · exact VRs.une hU h6 (flat rows) (sc_flat hsc) (ren_flat ρ rows)
        | mapx es st =>
          obtain ⟨b, h1, h2, ents, clock, h3, h4, h5, h6, h7⟩ := k
          have hb : φl[i]? = some (some b) := kφ.symm.trans h1
          refine ⟨b, hb, (hNl b).mpr ⟨(hown i b _ hi' trivial hb).2.2.1, h2, hoth i b _ hi' trivial hb⟩, ents, clock, h3, ?_, ?_, h6, h7⟩
          · refine VRs.une hU h4 _ ((scs_iff _ _).mpr fun x hx => ?_) (by rw [renL_map]; simp)
            obtain ⟨y, hy, rfl⟩ := List.mem_map.mp hx
            exact (hsc y hy).1
          · refine VRs.une hU h5 _ ((scs_iff _ _).mpr fun x hx => ?_) (by rw [renL_map]; simp)
            obtain ⟨y, hy, rfl⟩ := List.mem_map.mp hx
            exact (hsc y hy).2
        | gone => trivial
      inj := fun i i' b ob ob' h1 h2 h3 h4 h5 h6 => by
        have q1 := hown i b ob h1 h2 h5
        have q2 := hown i' b ob' h3 h4 h6
        have := g.objs.inj (ρ i) (ρ i') b _ _ q1.2.1 (renO_alive.mpr h2) q2.2.1 (renO_alive.mpr h4) q1.1 q2.1
        rw [hρ] at this
        exact ixOf_inj hn hml this }
    size := by rw [hw0]; exact Nat.le_refl _
    same := fun b _ _ => by rw [hw0]
    own := fun i b ob h1 h2 h3 => ⟨(hown i b ob h1 h2 h3).2.2.1, fun _ => by rw [hCl]; exact ⟨h3, ob, h1, h2⟩⟩
    world := by rw [hw0]; exact .refl w
    n0 := fun b hb => by
      rw [hCl] at hb ⊢
      obtain ⟨i, ob, h1, h2, h3⟩ := hb
      exact ⟨(hown i b ob h2 h3 h1).2.2.2.2, hoth i b ob h2 h3 h1⟩
    hlen := by rw [hCl]; exact Nat.le_refl _
    ext := hE0 ▸ .refl _ }
  have hvl : VRs (Cl'.env φl Hl w) args' cargs.toList := VRs.sees (E := C.env φ H w) {
    une := hU
    cl := g.objs.cl
    blk := fun o ver sz rows b hx hb => by
      obtain ⟨k1, k2⟩ := hF _ hx
      have k3 := (g.own o b _ k2 trivial hb).1
      exact ⟨fun hN => ((hNl b).mp hN).2.2 ⟨o, _, k1, k2, trivial, hb⟩, k3⟩
    get := fun o ob hx => (hF _ hx).2 } hsee hv
  refine (h.run Cl' gl hvl).mono ?_
  rintro e w' ⟨r0, v, H0, φ', rfl, hR, g', x', hr⟩
  obtain ⟨hb1, hb2⟩ := hbare r0 H0 hR
  have hkl : Hl.length ≤ H0.length := by have := g'.hlen; rw [hCl] at this; exact this
  have hφ'l : φ'.length = H0.length := g'.objs.len
  have hsz : w.heap.size ≤ w'.heap.size := by have := g'.size; rw [hw0] at this; exact this
  have hsame : ∀ b, b < w.heap.size → ¬ owns φl Hl b → w'.heap[b]? = w.heap[b]? := fun b h1 h2 => by
    have := g'.same b (by rw [hw0]; exact h1) (by rw [hCl]; exact h2)
    rw [hw0] at this; exact this
  have hat : ∀ (i b : Nat) (ob : AObj), H0[i]? = some ob → ob.alive → φ'[i]? = some (some b) → b < w.heap.size → ∃ ob0, Hl[i]? = some ob0 ∧ ob0.alive ∧ φl[i]? = some (some b) := fun i b ob h1 h2 h3 h4 => by
    have := (g'.own i b ob h1 h2 h3).2 (by rw [hw0]; exact h4)
    rw [hCl] at this
    obtain ⟨k1, ob0, k2, k3⟩ := this
    exact ⟨ob0, k2, k3, k1⟩
  obtain ⟨H', hH'⟩ : ∃ H', H' = place m H (H0.map (renO ρ)) := ⟨_, rfl⟩
  obtain ⟨φ'', hφ''⟩ : ∃ φ'', φ'' = place m φ φ' := ⟨_, rfl⟩
  have hmφ : ∀ o ∈ m, o < φ.length := fun o ho => by rw [hlen]; exact hml o ho
  have nH : ∀ i ob, H0[i]? = some ob → H'[ρ i]? = some (renO ρ ob) := fun i ob hi => by
    rw [hH', hρ, place_new hn hml (by simpa using (List.getElem?_eq_some_iff.mp hi).1), List.getElem?_map, hi]; rfl
  have nφ : ∀ i, i < H0.length → φ''[ρ i]? = φ'[i]? := fun i hi => by
    rw [hφ'', hρ, ← hlen, place_new hn hmφ (by omega)]
  have oH : ∀ o, o < H.length → o ∉ m → H'[o]? = H[o]? := fun o h1 h2 => by rw [hH']; exact place_old h1 h2
  have oφ : ∀ o, o < H.length → o ∉ m → φ''[o]? = φ[o]? := fun o h1 h2 => by rw [hφ'']; exact place_old (by omega) h2
  have hcs : ∀ o ob, H'[o]? = some ob → (∃ i ob0, H0[i]? = some ob0 ∧ o = ρ i ∧ ob = renO ρ ob0) ∨ (o < H.length ∧ o ∉ m ∧ H[o]? = some ob) := fun o ob ho => by
    have hlt := (List.getElem?_eq_some_iff.mp ho).1
    rw [hH'] at hlt
    rcases place_cases (by simp; omega) hlt with ⟨i, h1, h2⟩ | ⟨h1, h2⟩
    · left
      have h1' : i < H0.length := by simpa using h1
      have h3 : H0[i]? = some H0[i] := List.getElem?_eq_getElem h1'
      refine ⟨i, _, h3, by rw [hρ]; exact h2, ?_⟩
      have h4 := nH i _ h3
      have h5 : o = ρ i := by rw [hρ]; exact h2
      rw [← h5, ho] at h4
      exact Option.some.inj h4
    · right
      exact ⟨h1, h2, by rw [← oH o h1 h2]; exact ho⟩
  have holdown : ∀ o b ob, o < H.length → o ∉ m → H[o]? = some ob → ob.alive → φ[o]? = some (some b) → ¬ owns φl Hl b := fun o b ob h1 h2 h3 h4 h5 ⟨i, ob0, k1, k2, k3⟩ => by
    have q := hown i b ob0 k2 k3 k1
    have := g.objs.inj o (ρ i) b _ _ h3 h4 q.2.1 (renO_alive.mpr k3) h5 q.1
    obtain ⟨o', p1, p2⟩ := hρlt i (List.getElem?_eq_some_iff.mp k2).1
    rw [p2] at this
    subst this
    exact h2 (List.mem_of_getElem? p1)
  have hNold : ∀ b, b < w.heap.size → C.N φ'' H' b → C.N φ H b := fun b hb hN => by
    rcases hN with h1 | ⟨h1, o, ob, h2, h3, h4⟩
    · exact .inl h1
    · rcases hcs o ob h3 with ⟨i, ob0, k1, rfl, rfl⟩ | ⟨k1, k2, k3⟩
      · have k4 : φ'[i]? = some (some b) := (nφ i (List.getElem?_eq_some_iff.mp k1).1).symm.trans h2
        obtain ⟨ob1, k5, k6, k7⟩ := hat i b ob0 k1 (renO_alive.mp h4) k4 hb
        exact (hown i b ob1 k5 k6 k7).2.2.2.2
      · exact .inr ⟨h1, o, ob, (oφ o k1 k2).symm.trans h2, k3, h4⟩
  have hEmb : EmbB ρ (Cl'.env φ' H0 w') (C.env φ'' H' w') := {
    heap := rfl
    H := fun i ob hi => nH i ob hi
    φ := fun i ob hi => nφ i (List.getElem?_eq_some_iff.mp hi).1 }
  have x : Ext (C.env φ H w) (C.env φ'' H' w') := {
    imm := fun b h1 h2 hc => ⟨fun h3 => h1 (hNold b h2 h3), Nat.lt_of_lt_of_le h2 hsz, hsame b h2 fun ⟨i, ob, k1, k2, k3⟩ => h1 (hown i b ob k2 k3 k1).2.2.2.2⟩
    old := fun o ob ver h1 h2 => by
      have h1' : H[o]? = some ob := h1
      by_cases ho : o ∈ m
      · obtain ⟨i, hi⟩ := List.getElem?_of_mem ho
        have hil : i < Hl.length := by rw [← hm]; exact (List.getElem?_eq_some_iff.mp hi).1
        have h3 : Hl[i]? = some Hl[i] := List.getElem?_eq_getElem hil
        have h4 := hH i o _ hi h3
        rw [h1'] at h4
        obtain rfl := Option.some.inj h4
        obtain ⟨ob', k1, k2⟩ := x'.old i _ ver h3 (renO_past.mp h2)
        have h5 := nH i ob' k1
        obtain ⟨o', p1, p2⟩ := hρlt i hil
        rw [hi] at p1; obtain rfl := Option.some.inj p1
        rw [p2] at h5
        exact ⟨_, h5, renO_past.mpr k2⟩
      · exact ⟨ob, (oH o (List.getElem?_eq_some_iff.mp h1').1 ho).trans h1', h2⟩
    arr := fun o ver sz rows h1 => by
      have h1' : H[o]? = some (.arr ver sz rows) := h1
      by_cases ho : o ∈ m
      · obtain ⟨i, hi⟩ := List.getElem?_of_mem ho
        have hil : i < Hl.length := by rw [← hm]; exact (List.getElem?_eq_some_iff.mp hi).1
        have h3 : Hl[i]? = some Hl[i] := List.getElem?_eq_getElem hil
        have h4 := hH i o _ hi h3
        rw [h1'] at h4
        obtain ⟨rows0, k1, rfl⟩ := renO_arr (Option.some.inj h4).symm
        obtain ⟨o', p1, p2⟩ := hρlt i hil
        rw [hi] at p1; obtain rfl := Option.some.inj p1
        have h3' : (Cl'.env φl Hl w).H[i]? = some (.arr ver sz rows0) := by rw [← k1]; exact h3
        rcases x'.arr i ver sz rows0 h3' with ⟨ob', q1, q2⟩ | ⟨rows', q1, q2, q3, q4⟩
        · left
          have h5 := nH i ob' q1
          rw [p2] at h5
          exact ⟨_, h5, renO_past.mpr q2⟩
        · right
          have h5 := nH i _ q1
          rw [p2] at h5
          refine ⟨_, h5, by rw [renL_length, renL_length]; exact q2, ?_, fun b c e fz s1 s2 => ?_⟩
          · show φ''[o]? = φ[o]?
            have a1 := nφ i (by omega)
            have a2 := hφg i hil
            rw [p2] at a1 a2
            rw [a1, a2]
            exact q3
          · have a2 := hφg i hil
            rw [p2] at a2
            exact q4 b c e fz (show φl[i]? = some (some b) from a2.symm.trans s1) s2
      · have hlt := (List.getElem?_eq_some_iff.mp h1').1
        refine .inr ⟨rows, (oH o hlt ho).trans h1', rfl, oφ o hlt ho, fun b c e fz s1 s2 => ⟨c, e, fz, ?_, rfl⟩⟩
        have s1' : φ[o]? = some (some b) := s1
        exact (hsame b (g.own o b _ h1' trivial s1').1 (holdown o b _ hlt ho h1' trivial s1')).trans s2
    map := fun o es st h1 => by
      have h1' : H[o]? = some (.mapx es st) := h1
      by_cases ho : o ∈ m
      · obtain ⟨i, hi⟩ := List.getElem?_of_mem ho
        have hil : i < Hl.length := by rw [← hm]; exact (List.getElem?_eq_some_iff.mp hi).1
        have h3 : Hl[i]? = some Hl[i] := List.getElem?_eq_getElem hil
        have h4 := hH i o _ hi h3
        rw [h1'] at h4
        obtain ⟨es0, k1, rfl⟩ := renO_map (Option.some.inj h4).symm
        obtain ⟨o', p1, p2⟩ := hρlt i hil
        rw [hi] at p1; obtain rfl := Option.some.inj p1
        have h3' : (Cl'.env φl Hl w).H[i]? = some (.mapx es0 st) := by rw [← k1]; exact h3
        rcases x'.map i es0 st h3' with q1 | ⟨es', st', q1, q2⟩
        · left
          have h5 := nH i _ q1
          rw [p2] at h5
          exact h5
        · right
          have h5 := nH i _ q1
          rw [p2] at h5
          refine ⟨_, _, h5, ?_⟩
          show φ''[o]? = φ[o]?
          have a1 := nφ i (by omega)
          have a2 := hφg i hil
          rw [p2] at a1 a2
          rw [a1, a2]
          exact q2
      · have hlt := (List.getElem?_eq_some_iff.mp h1').1
        exact .inr ⟨es, st, (oH o hlt ho).trans h1', oφ o hlt ho⟩ }
  have hN'' : ∀ o b ob, H'[o]? = some ob → ob.alive → φ''[o]? = some (some b) → (b < C.w0.heap.size → C.at0 o b) → C.N φ'' H' b := fun o b ob h1 h2 h3 h4 => by
    rcases Nat.lt_or_ge b C.w0.heap.size with hb | hb
    · exact .inl ⟨hb, g.n0 b (h4 hb).owns⟩
    · exact .inr ⟨hb, o, ob, h3, h1, h2⟩
  have hown' : ∀ i b ob, H0[i]? = some ob → ob.alive → φ'[i]? = some (some b) → b < w'.heap.size ∧ (b < C.w0.heap.size → C.at0 (ρ i) b) := fun i b ob h1 h2 h3 => by
    refine ⟨(g'.own i b ob h1 h2 h3).1, fun hb => ?_⟩
    obtain ⟨ob0, k1, k2, k3⟩ := hat i b ob h1 h2 h3 (Nat.lt_of_lt_of_le hb g.size)
    exact (hown i b ob0 k1 k2 k3).2.2.2.1 hb
  have hl'' : φ''.length = H'.length := by
    rw [hφ'', hH', place_length, place_length]
    simp [hlen, hφ'l]
  refine ⟨ren ρ r0, v, H', φ'', rfl, ⟨r0, H0, hR, hkl, by rw [hρ], by rw [hH', hρ]⟩, {
    objs := {
      len := hl''
      cl := fun o ob ho => by
        rcases hcs o ob ho with ⟨i, ob0, k1, rfl, rfl⟩ | ⟨k1, k2, k3⟩
        · have k := g'.objs.cl i ob0 k1
          have kφ : (C.env φ'' H' w').φ[ρ i]? = φ'[i]? := nφ i (List.getElem?_eq_some_iff.mp k1).1
          cases ob0 with
          | arr v sz rows =>
            rcases k with ⟨h1, h2⟩ | ⟨b, h1, h2, h3, h4, c, e, vs, h5, h6, h7⟩
            · left
              exact ⟨kφ.trans h1, by rw [h2]; rfl⟩
            · right
              refine ⟨b, kφ.trans h1, hN'' _ b _ (nH i _ k1) trivial (kφ.trans h1) (hown' i b _ k1 trivial h1).2, h3, fun x hx => ?_, c, e, vs, h5, ?_, h7⟩
              · rw [renL_map] at hx
                obtain ⟨y, hy, rfl⟩ := List.mem_map.mp hx
                rw [ren_cells, renL_length]
                exact h4 y hy
              · rw [ren_flat]
                exact VRs.renB hEmb h6 (bares_flat (hb2 _ (List.mem_of_getElem? k1)))
          | mapx es st =>
            obtain ⟨b, h1, h2, ents, clock, h3, h4, h5, h6, h7⟩ := k
            refine ⟨b, kφ.trans h1, hN'' _ b _ (nH i _ k1) trivial (kφ.trans h1) (hown' i b _ k1 trivial h1).2, ents, clock, h3, ?_, ?_, h6, h7⟩
            · have := VRs.renB hEmb h4 ((bares_iff _).mpr fun x hx => by obtain ⟨y, hy, rfl⟩ := List.mem_map.mp hx; exact (hb2 _ (List.mem_of_getElem? k1) y hy).1)
              rw [renL_map, List.map_map] at this
              rw [List.map_map]
              exact this
            · have := VRs.renB hEmb h5 ((bares_iff _).mpr fun x hx => by obtain ⟨y, hy, rfl⟩ := List.mem_map.mp hx; exact (hb2 _ (List.mem_of_getElem? k1) y hy).2)
              rw [renL_map, List.map_map] at this
              rw [List.map_map]
              exact this
          | gone => trivial
        · refine Cl.mono x (oφ o k1 k2) (fun b ha hb => ?_) (g.objs.cl o ob k3)
          have hb' : φ[o]? = some (some b) := hb
          have q := g.own o b ob k3 ha hb'
          exact ⟨hsame b q.1 (holdown o b ob k1 k2 k3 ha hb'), fun _ => hN'' o b ob ((oH o k1 k2).trans k3) ha ((oφ o k1 k2).trans hb') q.2⟩
      inj := fun o o' b ob ob' h1 h2 h3 h4 h5 h6 => by
        rcases hcs o ob h1 with ⟨i, ob0, k1, rfl, rfl⟩ | ⟨k1, k2, k3⟩ <;> rcases hcs o' ob' h3 with ⟨i', ob0', k1', rfl, rfl⟩ | ⟨k1', k2', k3'⟩
        · have a1 : φ'[i]? = some (some b) := (nφ i (List.getElem?_eq_some_iff.mp k1).1).symm.trans h5
          have a2 : φ'[i']? = some (some b) := (nφ i' (List.getElem?_eq_some_iff.mp k1').1).symm.trans h6
          rw [g'.objs.inj i i' b ob0 ob0' k1 (renO_alive.mp h2) k1' (renO_alive.mp h4) a1 a2]
        · have a1 : φ'[i]? = some (some b) := (nφ i (List.getElem?_eq_some_iff.mp k1).1).symm.trans h5
          have a2 : φ[o']? = some (some b) := (oφ o' k1' k2').symm.trans h6
          have hb := (g.own o' b ob' k3' h4 a2).1
          obtain ⟨ob1, q1, q2, q3⟩ := hat i b ob0 k1 (renO_alive.mp h2) a1 hb
          exact absurd ⟨i, ob1, q3, q1, q2⟩ (holdown o' b ob' k1' k2' k3' h4 a2)
        · have a1 : φ'[i']? = some (some b) := (nφ i' (List.getElem?_eq_some_iff.mp k1').1).symm.trans h6
          have a2 : φ[o]? = some (some b) := (oφ o k1 k2).symm.trans h5
          have hb := (g.own o b ob k3 h2 a2).1
          obtain ⟨ob1, q1, q2, q3⟩ := hat i' b ob0' k1' (renO_alive.mp h4) a1 hb
          exact absurd ⟨i', ob1, q3, q1, q2⟩ (holdown o b ob k1 k2 k3 h2 a2)
        · exact g.objs.inj o o' b ob ob' k3 h2 k3' h4 ((oφ o k1 k2).symm.trans h5) ((oφ o' k1' k2').symm.trans h6) }
    size := Nat.le_trans g.size hsz
    same := fun b h1 h2 => by
      have hb : b < w.heap.size := Nat.lt_of_lt_of_le h1 g.size
      rw [hsame b hb fun ⟨i, ob, k1, k2, k3⟩ => h2 ((hown i b ob k2 k3 k1).2.2.2.1 h1).owns]
      exact g.same b h1 h2
    own := fun o b ob h1 h2 h3 => by
      rcases hcs o ob h1 with ⟨i, ob0, k1, rfl, rfl⟩ | ⟨k1, k2, k3⟩
      · exact hown' i b ob0 k1 (renO_alive.mp h2) ((nφ i (List.getElem?_eq_some_iff.mp k1).1).symm.trans h3)
      · have q := g.own o b ob k3 h2 ((oφ o k1 k2).symm.trans h3)
        exact ⟨Nat.lt_of_lt_of_le q.1 hsz, q.2⟩
    world := g.world.trans (by have := g'.world; rw [hw0] at this; exact this)
    n0 := g.n0
    hlen := by
      have := g.hlen
      rw [hH', place_length]
      omega
    ext := g.ext.trans x }, x, VR.renB hEmb hr hb1⟩


/-- A call that turns nothing, of what is owned. -/
theorem Pure.see {P : Program} {f : FuncId} {args args' : List D} {r : D} (h : Pure P f args' r) (hb : r.bare) (hr : r.sc 0) (F : List (Nat × AObj)) {H : List AObj} (hF : ∀ x ∈ F, H[x.1]? = some x.2) (hs : Seess 0 (fun i => H.length + i) F args args') :
    CallsIn P f args H fun r' H' => r' = r ∧ H' = H := by
  have h1 := CallsIn.see (h []) (fun r0 H0 ⟨e1, e2⟩ => by subst e1 e2; exact ⟨hb, fun ob hob => by cases hob⟩) [] F (H := H) rfl .nil (fun i o ob hi => by simp at hi) (fun ob hob => by cases hob) (fun x hx => ⟨by simp, hF x hx⟩) (by rw [ixOf_nil]; exact hs)
  refine h1.mono ?_
  rintro r' H' ⟨r0, H0, ⟨rfl, rfl⟩, _, rfl, rfl⟩
  exact ⟨ren_sc0 _ _ hr, by simp [place, upds]⟩

theorem Pure.seeK {P : Program} {f : FuncId} {args args' : List D} {r : D} (h : Pure P f args' r) (F : List (Nat × AObj)) {H : List AObj} (hF : ∀ x ∈ F, H[x.1]? = some x.2) (hs : Seess 0 (fun i => H.length + i) F args args') (hb : r.bare) (hr : r.sc 0) {K : D → List AObj → Prop} (hk : K r H) :
    CallsIn P f args H K := (h.see hb hr F hF hs).mono fun r' H' ⟨e1, e2⟩ => by subst e1 e2; exact hk

/-- In a drawn region. -/
theorem Pure.seeL {P : Program} {f : FuncId} {args args' : List D} {r : D} (h : Pure P f args' r) (F : List (Nat × AObj)) {H : List AObj} {bx : List Bool} (hF : ∀ x ∈ F, H[x.1]? = some x.2) (hs : ∀ n : Nat, Seess 0 (fun i => n + i) F args args') (hb : r.bare) (hr : r.sc 0)
    {X : D → List Nat → List (Nat × AObj) → List AObj → List Bool → Prop} (hx : X r (F.map Prod.fst) [] H bx) : LocK P f args H bx X :=
  ⟨.inl ⟨r, F.map Prod.fst, [], ⟨fun o ho => by simp [dom] at ho, fun o ho => by
      obtain ⟨x, hx, rfl⟩ := List.mem_map.mp ho
      exact (List.getElem?_eq_some_iff.mp (hF x hx)).1,
    fun H' hH => (h.see hb hr F (fun x hx => (hH _ (List.mem_map_of_mem hx)).trans (hF x hx)) (hs _)).mono fun r' H'' ⟨e1, e2⟩ => ⟨e1, e2⟩⟩, hx⟩⟩

/-- A call that answers a fresh owned slice, of what is owned. -/
theorem Owned.see {P : Program} {f : FuncId} {args args' : List D} {sz : Nat} {rows : List D} (h : Owned P f args' sz rows) (F : List (Nat × AObj)) {H : List AObj} (hF : ∀ x ∈ F, H[x.1]? = some x.2) (hs : Seess 0 (fun i => H.length + i) F args args') (hb : bares rows) :
    CallsIn P f args H fun r H' => ∃ ver, r = .h H.length ver 0 rows.length ∧ H' = H ++ [.arr ver sz rows] := by
  have h1 := CallsIn.see h.calls (fun r0 H0 ⟨ver, e1, e2⟩ => by subst e1 e2; exact ⟨trivial, fun ob hob => by simp only [List.mem_singleton] at hob; subst hob; exact hb⟩) [] F (H := H) rfl .nil (fun i o ob hi => by simp at hi) (fun ob hob => by cases hob) (fun x hx => ⟨by simp, hF x hx⟩) (by rw [ixOf_nil]; exact hs)
  refine h1.mono ?_
  rintro r' H' ⟨r0, H0, ⟨ver, rfl, rfl⟩, _, rfl, rfl⟩
  refine ⟨ver, by rw [ixOf_nil]; rfl, ?_⟩
  simp only [place, List.zip_nil_left, upds, List.length_nil, List.drop_zero, List.map_cons, List.map_nil, renO, renL_sc0 _ _ h.row]

theorem Owned.seeK {P : Program} {f : FuncId} {args args' : List D} {sz : Nat} {rows : List D} (h : Owned P f args' sz rows) (F : List (Nat × AObj)) {H : List AObj} (hF : ∀ x ∈ F, H[x.1]? = some x.2) (hs : Seess 0 (fun i => H.length + i) F args args') (hb : bares rows) {K : D → List AObj → Prop}
    (hk : ∀ ver, lenK H 0 fun o => snocK H (.arr ver sz rows) fun H' => K (.h o ver 0 rows.length) H') : CallsIn P f args H K := (h.see F hF hs hb).mono fun r' H' ⟨ver, e1, e2⟩ => by
  subst e1 e2
  have := snocK_iff.mp (lenK_iff.mp (hk ver))
  rw [Nat.zero_add] at this
  exact this

theorem Owned.seeL {P : Program} {f : FuncId} {args args' : List D} {sz : Nat} {rows : List D} (h : Owned P f args' sz rows) (F : List (Nat × AObj)) {H : List AObj} {bx : List Bool} (hF : ∀ x ∈ F, H[x.1]? = some x.2) (hs : ∀ n : Nat, Seess 0 (fun i => n + i) F args args') (hb : bares rows)
    {X : D → List Nat → List (Nat × AObj) → List AObj → List Bool → Prop} (hx : lenK H 0 fun o => snocK H (.arr 1 sz rows) fun H' => bxK bx o false fun bx => X (.h o 1 0 rows.length) (o :: F.map Prod.fst) [(o, .arr 1 sz rows)] H' bx) : LocK P f args H bx X :=
  ⟨.inr ⟨sz, rows, fun o v => .h o v 0 rows.length, F.map Prod.fst, {
    inr := fun o ho => by
      obtain ⟨x, hx, rfl⟩ := List.mem_map.mp ho
      exact (List.getElem?_eq_some_iff.mp (hF x hx)).1
    calls := fun H' o hH ho => CallsIn.mk' h.calls.fok fun C φ w cargs g hv => by
      have hsc := g.sc
      have h1 := h.see F (fun x hx => (hH _ (List.mem_map_of_mem hx)).trans (hF x hx)) (hs _) hb (H := H')
      have h2 : CallsIn P f args H' fun r H'' => r = .h o 1 0 rows.length ∧ H'' = H'.set o (.arr 1 sz rows) := CallsIn.ghost (h1.mono fun r H'' ⟨ver, e3, e4⟩ => by
        subst e3 e4
        exact ⟨_, _, Ghost.moveTo (ver := ver) (sz := sz) (rows := rows) hsc ho h.row rfl, rfl, rfl⟩)
      exact h2.run C g hv }, hx⟩⟩

theorem fact1 {H : List AObj} {o : Nat} {ob : AObj} (h : H[o]? = some ob) : ∀ x ∈ [(o, ob)], H[x.1]? = some x.2 := fun x hx => by
  simp only [List.mem_singleton] at hx; subst hx; exact h
theorem fact2 {H : List AObj} {o o' : Nat} {ob ob' : AObj} (h : H[o]? = some ob) (h' : H[o']? = some ob') : ∀ x ∈ [(o, ob), (o', ob')], H[x.1]? = some x.2 := fun x hx => by
  simp only [List.mem_cons, List.not_mem_nil, or_false] at hx
  rcases hx with rfl | rfl
  · exact h
  · exact h'

end Go.A
