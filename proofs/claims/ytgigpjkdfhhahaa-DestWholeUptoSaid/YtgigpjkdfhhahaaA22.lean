/- A logic of abstract states, part 22: what is only told otherwise. -/
import Derived.Test.YtgigpjkdfhhahaaA21
namespace Go.A
set_option linter.unusedVariables false
set_option linter.unusedSimpArgs false

def Ghost (n : Nat) (s : List D) (H : List AObj) (s' : List D) (H' : List AObj) : Prop :=
  ∀ (C : Ctx) φ w vs, C.le n → G C φ H w → VRs (C.env φ H w) s vs → ∃ φ', G C φ' H' w ∧ VRs (C.env φ' H' w) s' vs

theorem Ghost.refl (n s H) : Ghost n s H s H := fun C φ w vs _ g hv => ⟨φ, g, hv⟩

theorem Ghost.trans {n s H s' H' s'' H''} (h : Ghost n s H s' H') (k : Ghost n s' H' s'' H'') : Ghost n s H s'' H'' := fun C φ w vs hn g hv => by
  obtain ⟨φ', g', hv'⟩ := h C φ w vs hn g hv
  exact k C φ' w vs hn g' hv'

theorem W_ghost {P : Program} {n : Nat} {k : List Item} {s : List D} {H : List AObj} {s' : List D} {H' : List AObj} {Q : Exit → St → Prop} (hg : Ghost n s H s' H') (h : W P n k ⟨s', H'⟩ Q) : W P n k ⟨s, H⟩ Q :=
  W.intro fun C φ a w hn hs => by
    obtain ⟨φ', g', hv'⟩ := hg C φ w _ hn hs.g hs.slots
    exact W.run h hn (s := ⟨s', H'⟩) ⟨hs.defers, hv', g'⟩

theorem CallsIn.ghost {P : Program} {f : FuncId} {args : List D} {H : List AObj} {R : D → List AObj → Prop} (h : CallsIn P f args H fun r H' => ∃ r' H'', Ghost H.length [r] H' [r'] H'' ∧ R r' H'') : CallsIn P f args H R := by
  refine CallsIn.mk' h.fok fun C φ w cargs g hv => ?_
  refine (h.run (C.now φ H w) g.now (by rw [g.nowEnv]; exact hv)).mono ?_
  rintro e w' ⟨r, v, H', φ', rfl, ⟨r', H'', hg, hR⟩, g', x, hr⟩
  obtain ⟨φ'', g'', hv''⟩ := hg (C.now φ H w) φ' w' [v] ⟨Nat.le_of_eq g.objs.len, Nat.le_refl _, (fun _ h => by cases h), Nat.le_refl _⟩ g' (.cons hr .nil)
  obtain ⟨b1, b2, b3⟩ := g.back g''
  cases hv'' with
  | cons h1 _ => exact ⟨r', v, H'', φ'', rfl, hR, b1, b3, VR.mono b2 h1⟩

-- What was owned, told as what does not change.
mutual
inductive Frz (o ver : Nat) (rows : List D) : D → D → Prop where
  | refl (d : D) : Frz o ver rows d d
  | h {i n : Nat} {xs : List D} : xs = (rows.drop i).take n → Frz o ver rows (.h o ver i n) (.sl xs)
  | p {i j : Nat} {row : D} {cs : List D} : rows[i]? = some row → cs = row.cells.drop j → Frz o ver rows (.p o ver i j) (.pe cs)
  | tup {ds ds' : List D} : Frzs o ver rows ds ds' → Frz o ver rows (.tup ds) (.tup ds')
  | agg {ds ds' : List D} : Frzs o ver rows ds ds' → Frz o ver rows (.agg ds) (.agg ds')
inductive Frzs (o ver : Nat) (rows : List D) : List D → List D → Prop where
  | nil : Frzs o ver rows [] []
  | cons {d d' : D} {ds ds' : List D} : Frz o ver rows d d' → Frzs o ver rows ds ds' → Frzs o ver rows (d :: ds) (d' :: ds')
end

theorem Frzs.refl {o ver : Nat} {rows : List D} : ∀ ds : List D, Frzs o ver rows ds ds
  | [] => .nil
  | d :: ds => .cons (.refl d) (Frzs.refl ds)

structure Fro (o ver sz : Nat) (rows : List D) (E E' : Env) : Prop where
  x : Ext E E'
  ho : E.H[o]? = some (.arr ver sz rows)
  blk : ∀ b, E.φ[o]? = some (some b) → ¬ E'.N b ∧ b < E'.heap.size
  arr : ∀ b, E.φ[o]? = some (some b) → 0 < sz ∧ (∀ x ∈ rows, x.cells.length = sz) ∧ ∃ c e vs, CellsAt E'.heap b c e ∧ VRs E' (flat rows) vs ∧ ∀ (j : Nat) v, vs[j]? = some v → c[j]? = some v
  heap : E'.heap = E.heap

mutual
theorem VR.frz {o ver sz : Nat} {rows : List D} {E E' : Env} (m : Fro o ver sz rows E E') : ∀ {d d' : D} (_ : Frz o ver rows d d') {v : Value}, VR E d v → VR E' d' v
  | _, _, .refl d, v, h => VR.mono m.x h
  | _, _, .h (i := i) (n := n) (xs := xs) e, v, hv => by
    have ho := m.ho
    cases hv with
    | hold a len cap h1 h2 =>
      rw [ho] at h1; obtain rfl := Option.some.inj h1
      exact absurd h2 (Nat.lt_irrefl _)
    | hnil h1 h2 =>
      rw [ho] at h1; cases h1
      simp at e
      subst e
      exact .sl0 none 0
    | @h _ _ _ _ sz' b cap rows' a c e' fz h1 h2 h3 h4 h5 h6 h7 =>
      rw [ho] at h1; cases h1
      obtain ⟨q1, q2, c', e2, vs, ⟨fz1, hfz, q3⟩, q4, q5⟩ := m.arr b h2
      obtain ⟨q6, q7⟩ := m.blk b h2
      have hxl : xs.length = n := by rw [e]; simp; omega
      rcases Nat.eq_zero_or_pos n with h0 | h0
      · subst h0
        have : xs = [] := List.length_eq_zero_iff.mp hxl
        subst this
        exact .sl0 _ _
      · have ha : a = ⟨b, i * sz, none⟩ := by
          rcases h7 with h7 | h7
          · omega
          · exact h7
        subst ha
        have hvs : VRs E' (flat xs) ((vs.drop (i * sz)).take (n * sz)) := by
          have hu : ∀ x ∈ rows.drop i, x.cells.length = sz := fun x hx => q2 x (List.mem_of_mem_drop hx)
          rw [e, ← flat_take hu, ← flat_drop q2]
          exact (q4.drop _).take _
        have := VR.sl (E := E') (xs := xs) (a := ⟨b, i * sz, none⟩) (cap := cap) (sz := sz) (by omega) q6 q7 q1
          (fun x hx => q2 x (by rw [e] at hx; exact List.mem_of_mem_drop (List.mem_of_mem_take hx)))
          ⟨rfl, c', e2, fz1, q3, fun j u hj => by
            rw [List.getElem?_take] at hj
            split at hj
            · rw [List.getElem?_drop] at hj
              exact q5 _ _ hj
            · cases hj⟩ hvs
        rw [hxl] at this
        exact this
  | _, _, .p (i := i) (j := j) (row := row) (cs := cs) e1 e2, v, hv => by
    have ho := m.ho
    cases hv with
    | pold a h1 h2 =>
      rw [ho] at h1; obtain rfl := Option.some.inj h1
      exact absurd h2 (Nat.lt_irrefl _)
    | @p _ _ _ _ sz' b rows' h1 h2 h3 h4 =>
      rw [ho] at h1; cases h1
      obtain ⟨q1, q2, c', e2', vs, ⟨fz1, hfz, q3⟩, q4, q5⟩ := m.arr b h2
      obtain ⟨q6, q7⟩ := m.blk b h2
      have hrow : VRs E' row.cells ((vs.drop (i * sz)).take sz) := by
        have hu : ∀ x ∈ rows.drop i, x.cells.length = sz := fun x hx => q2 x (List.mem_of_mem_drop hx)
        have k : flat ((rows.drop i).take 1) = row.cells := by
          rw [drop_of_get e1]; simp [flat]
        have k2 := (q4.drop (i * sz)).take (1 * sz)
        rw [flat_drop q2, flat_take hu, k, Nat.one_mul] at k2
        exact k2
      refine .pe q6 q7 (vs := ((vs.drop (i * sz)).take sz).drop j) ⟨rfl, c', e2', fz1, q3, fun k u hk => ?_⟩ (e2 ▸ hrow.drop j)
      rw [List.getElem?_drop, List.getElem?_take] at hk
      split at hk
      · rw [List.getElem?_drop] at hk
        have := q5 _ _ hk
        rw [← Nat.add_assoc] at this
        exact this
      · cases hk
  | _, _, .tup h, v, hv => by
    cases hv with
    | tup h1 => exact .tup (VRs.frz m h h1)
  | _, _, .agg h, v, hv => by
    cases hv with
    | agg h1 => exact .agg (VRs.frz m h h1)
theorem VRs.frz {o ver sz : Nat} {rows : List D} {E E' : Env} (m : Fro o ver sz rows E E') : ∀ {ds ds' : List D} (_ : Frzs o ver rows ds ds') {vs : List Value}, VRs E ds vs → VRs E' ds' vs
  | _, _, .nil, vs, h => by cases h; exact .nil
  | _, _, .cons h t, vs, hv => by
    cases hv with
    | cons h1 h2 => exact .cons (VR.frz m h h1) (VRs.frz m t h2)
end

theorem G.freeze {C φ H w} (g : G C φ H w) {n o ver sz : Nat} {rows : List D} (hn : C.le n) (hno : n ≤ o) (ho : H[o]? = some (.arr ver sz rows)) :
    G C φ (H.set o .gone) w ∧ Fro o ver sz rows (C.env φ H w) (C.env φ (H.set o .gone) w) := by
  have hoH : o < H.length := (List.getElem?_eq_some_iff.mp ho).1
  have hset : (H.set o AObj.gone)[o]? = some .gone := by simp [hoH]
  have hH : ∀ (o1 : Nat), o1 ≠ o → (H.set o AObj.gone)[o1]? = H[o1]? := fun o1 h => by simp [Ne.symm h]
  have hback : ∀ (o1 : Nat) ob, (H.set o AObj.gone)[o1]? = some ob → AObj.alive ob → o1 ≠ o ∧ H[o1]? = some ob := fun o1 ob h1 h2 => by
    by_cases e : o1 = o
    · subst e
      rw [hset] at h1; obtain rfl := Option.some.inj h1
      exact h2.elim
    · exact ⟨e, (hH o1 e).symm.trans h1⟩
  have hN : ∀ b, C.N φ (H.set o .gone) b → C.N φ H b := fun b => by
    rintro (h | ⟨h1, o1, ob1, h2, h3, h4⟩)
    · exact .inl h
    · exact .inr ⟨h1, o1, ob1, h2, (hback o1 ob1 h3 h4).2, h4⟩
  have hN' : ∀ (o1 b : Nat) ob1, o1 ≠ o → H[o1]? = some ob1 → AObj.alive ob1 → φ[o1]? = some (some b) → C.N φ H b → C.N φ (H.set o .gone) b := fun o1 b ob1 h1 h2 h3 h4 h5 => by
    rcases Nat.lt_or_ge b C.w0.heap.size with hlt | hge
    · exact .inl ⟨hlt, g.n0 _ ((g.own o1 b ob1 h2 h3 h4).2 hlt).owns⟩
    · exact .inr ⟨hge, o1, ob1, h4, (hH o1 h1).trans h2, h3⟩
  have x : Ext (C.env φ H w) (C.env φ (H.set o .gone) w) := {
    imm := fun b h1 h2 hc => ⟨fun h => h1 (hN b h), h2, rfl⟩
    old := fun o1 ob ver1 h1 h2 => by
      by_cases e : o1 = o
      · subst e; exact ⟨.gone, hset, trivial⟩
      · exact ⟨ob, (hH o1 e).trans h1, h2⟩
    arr := fun o1 ver1 sz1 rows1 h1 => by
      by_cases e : o1 = o
      · subst e; exact .inl ⟨.gone, hset, trivial⟩
      · exact .inr ⟨rows1, (hH o1 e).trans h1, rfl, rfl, fun b c e fz _ h3 => ⟨c, e, fz, h3, rfl⟩⟩
    map := fun o1 es st h1 => by
      by_cases e : o1 = o
      · subst e; exact .inl hset
      · exact .inr ⟨es, st, (hH o1 e).trans h1, rfl⟩ }
  have hblk : ∀ b, φ[o]? = some (some b) → C.w0.heap.size ≤ b ∧ b < w.heap.size ∧ ¬ C.N φ (H.set o .gone) b := fun b hb => by
    have k := g.own o b _ ho trivial hb
    have hge : C.w0.heap.size ≤ b := by
      rcases Nat.lt_or_ge b C.w0.heap.size with h | h
      · obtain ⟨q1, _⟩ := k.2 h
        have := (List.getElem?_eq_some_iff.mp q1).1
        have := hn.f
        omega
      · exact h
    refine ⟨hge, k.1, ?_⟩
    rintro (⟨h1, _⟩ | ⟨h1, o1, ob1, h2, h3, h4⟩)
    · omega
    · obtain ⟨q1, q2⟩ := hback o1 ob1 h3 h4
      exact q1 (g.objs.inj o1 o b ob1 _ q2 h4 ho trivial h2 hb)
  refine ⟨{
    objs := {
      len := by show φ.length = (H.set o .gone).length; simp [show φ.length = H.length from g.objs.len]
      cl := fun o1 ob h1 => by
        by_cases e : o1 = o
        · subst e
          have h1' : (H.set o1 AObj.gone)[o1]? = some ob := h1
          rw [hset] at h1'; obtain rfl := Option.some.inj h1'
          trivial
        · have h1' : (H.set o AObj.gone)[o1]? = some ob := h1
          rw [hH o1 e] at h1'
          refine Cl.mono x rfl (fun b ha hb => ⟨rfl, fun h => hN' o1 b ob e h1' ha hb h⟩) (g.objs.cl o1 ob h1')
      inj := fun o1 o2 b ob1 ob2 h1 h2 h3 h4 h5 h6 => g.objs.inj o1 o2 b ob1 ob2 (hback o1 ob1 h1 h2).2 h2 (hback o2 ob2 h3 h4).2 h4 h5 h6 }
    size := g.size
    same := g.same
    own := fun o1 b ob h1 h2 h3 => g.own o1 b ob (hback o1 ob h1 h2).2 h2 h3
    world := g.world
    n0 := g.n0
    hlen := by have := g.hlen; simpa using this
    ext := g.ext.trans x }, {
    x := x
    ho := ho
    blk := fun b hb => ⟨(hblk b hb).2.2, (hblk b hb).2.1⟩
    arr := fun b hb => by
      obtain ⟨q1, q2, c, e, vs, ⟨fz, hfz, q3⟩, q4, q5⟩ := g.arrOf ho hb
      exact ⟨q1, q2, c, e, vs, ⟨fz, hfz, q3⟩, VRs.mono x q4, q5⟩
    heap := rfl }⟩

theorem Ghost.freeze {n o ver sz : Nat} {rows : List D} {s s' : List D} {H : List AObj} (hno : n ≤ o) (ho : H[o]? = some (.arr ver sz rows)) (hf : Frzs o ver rows s s') : Ghost n s H s' (H.set o .gone) :=
  fun C φ w vs hn g hv => by
    obtain ⟨g', m⟩ := g.freeze hn hno ho
    exact ⟨φ, g', VRs.frz m hf hv⟩

theorem Frzs.set {o ver : Nat} {rows : List D} : ∀ {s : List D} {t : Nat} {d d' : D}, s[t]? = some d → Frz o ver rows d d' → Frzs o ver rows s (s.set t d')
  | [], t, d, d', h, _ => by simp at h
  | x :: s, 0, d, d', h, hf => by
    simp only [List.getElem?_cons_zero, Option.some.injEq] at h
    subst h
    exact .cons hf (Frzs.refl s)
  | x :: s, t + 1, d, d', h, hf => .cons (.refl x) (Frzs.set (by simpa using h) hf)

/-- A nil slice comes to be owned. -/
theorem Ghost.mat {n t sz : Nat} {s : List D} {H : List AObj} (hs : s[t]? = some .nils) : Ghost n s H (s.set t (.h H.length 0 0 0)) (H ++ [.arr 0 sz []]) :=
  fun C φ w vs hn g hv => by
    obtain ⟨g', x⟩ := g.pushNil sz
    refine ⟨_, g', ?_⟩
    obtain ⟨v, h1, h2⟩ := hv.get t _ hs
    have hl : φ.length = H.length := g.objs.len
    cases h2
    have k := (VRs.mono x hv).set t (d := .h H.length 0 0 0) (v := .slice none 0 0) (.hnil (sz := sz) (by show (H ++ [AObj.arr 0 sz []])[H.length]? = _; simp) (by show (φ ++ [none])[H.length]? = _; rw [← hl]; simp))
    have : vs.set t (.slice none 0 0) = vs := by
      obtain ⟨h3, h4⟩ := List.getElem?_eq_some_iff.mp h1
      subst_vars
      rw [← h4]
      exact List.set_getElem_self h3
    rw [this] at k
    exact k

/-- What is not needed. -/
theorem Ghost.keep {n : Nat} (L : List Nat) {s : List D} {H : List AObj} : Ghost n s H (keepL L 0 s) H :=
  fun C φ w vs hn g hv => ⟨φ, g, keepL_ok L 0 hv⟩

mutual
theorem ren_id : ∀ d : D, ren (fun i => i) d = d
  | .undef => rfl
  | .int k n => rfl
  | .bool b => rfl
  | .str s => rfl
  | .agg cs => by simp only [ren, renL_id cs]
  | .tup cs => by simp only [ren, renL_id cs]
  | .sl xs => by simp only [ren, renL_id xs]
  | .nils => rfl
  | .h o ver i n => rfl
  | .p o ver i j => rfl
  | .pe cs => by simp only [ren, renL_id cs]
  | .pnil => rfl
  | .map o => rfl
  | .mnil => rfl
  | .fn f caps => by simp only [ren, renL_id caps]
  | .fnil => rfl
  | .ifc t v => by simp only [ren, ren_id v]
  | .inil => rfl
  | .raw v => rfl
theorem renL_id : ∀ l : List D, renL (fun i => i) l = l
  | [] => rfl
  | d :: ds => by simp only [renL, ren_id d, renL_id ds]
end

/-- What is not reached any more is let go. -/
theorem Ghost.drop {n k : Nat} {s : List D} {H : List AObj} (hk : n ≤ k) (hs : scs k s) (hH : ∀ ob ∈ H.take k, ob.sc k) : Ghost n s H s (H.take k) :=
  fun C φ w vs hn g hv => by
    have hl : φ.length = H.length := g.objs.len
    have hget : ∀ o ob, (H.take k)[o]? = some ob → o < k ∧ H[o]? = some ob := fun o ob h => by
      rw [List.getElem?_take] at h
      split at h
      · exact ⟨by assumption, h⟩
      · cases h
    have hgetφ : ∀ o, o < k → (φ.take k)[o]? = φ[o]? := fun o h => by rw [List.getElem?_take, if_pos h]
    have hgetH : ∀ o, o < k → (H.take k)[o]? = H[o]? := fun o h => by rw [List.getElem?_take, if_pos h]
    have hφlt : ∀ o b, (φ.take k)[o]? = some (some b) → φ[o]? = some (some b) := fun o b h => by
      rw [List.getElem?_take] at h
      split at h
      · exact h
      · cases h
    have hN : ∀ b, C.N (φ.take k) (H.take k) b → C.N φ H b := fun b => by
      rintro (h | ⟨h1, o1, ob1, h2, h3, h4⟩)
      · exact .inl h
      · exact .inr ⟨h1, o1, ob1, hφlt o1 b h2, (hget o1 ob1 h3).2, h4⟩
    have m : Une k (fun i => i) (C.env (φ.take k) (H.take k) w) (C.env φ H w) := {
      heap := rfl
      N := fun b h1 _ h2 => h1 (hN b h2)
      H := fun i ob' hi h1 => ⟨ob', (hgetH i hi).trans h1, by
        cases ob' with
        | arr v sz rows => simp only [renO, renL_id]
        | mapx es st => simp only [renO, ren_id, List.map_id']
        | gone => rfl⟩
      φ := fun i hi => (hgetφ i hi).symm }
    have hx : Ext C.env0 (C.env (φ.take k) (H.take k) w) := {
      imm := fun b h1 h2 hc => by
        obtain ⟨q1, q2, q3⟩ := g.ext.imm b h1 h2 hc
        exact ⟨fun h => q1 (hN b h), q2, q3⟩
      old := fun o ob ver h1 h2 => by
        obtain ⟨ob', q1, q2⟩ := g.ext.old o ob ver h1 h2
        have : o < k := by
          have := (List.getElem?_eq_some_iff.mp (show C.H0[o]? = some ob from h1)).1
          have := hn.h
          omega
        exact ⟨ob', (hgetH o this).trans q1, q2⟩
      arr := fun o ver sz rows h1 => by
        have hok : o < k := by
          have := (List.getElem?_eq_some_iff.mp (show C.H0[o]? = some _ from h1)).1
          have := hn.h
          omega
        rcases g.ext.arr o ver sz rows h1 with ⟨ob', q1, q2⟩ | ⟨rows', q1, q2, q3, q4⟩
        · exact .inl ⟨ob', (hgetH o hok).trans q1, q2⟩
        · exact .inr ⟨rows', (hgetH o hok).trans q1, q2, (hgetφ o hok).trans q3, q4⟩
      map := fun o es st h1 => by
        have hok : o < k := by
          have := (List.getElem?_eq_some_iff.mp (show C.H0[o]? = some _ from h1)).1
          have := hn.h
          omega
        rcases g.ext.map o es st h1 with q1 | ⟨es', st', q1, q2⟩
        · exact .inl ((hgetH o hok).trans q1)
        · exact .inr ⟨es', st', (hgetH o hok).trans q1, (hgetφ o hok).trans q2⟩ }
    have hNin : ∀ o b ob, o < k → H[o]? = some ob → ob.alive → φ[o]? = some (some b) → C.N (φ.take k) (H.take k) b := fun o b ob h1 h2 h3 h4 => by
      rcases Nat.lt_or_ge b C.w0.heap.size with hlt | hge
      · exact .inl ⟨hlt, g.n0 _ ((g.own o b ob h2 h3 h4).2 hlt).owns⟩
      · exact .inr ⟨hge, o, ob, (hgetφ o h1).trans h4, (hgetH o h1).trans h2, h3⟩
    refine ⟨φ.take k, {
      objs := {
        len := by show (φ.take k).length = (H.take k).length; simp [hl]
        cl := fun o ob h1 => by
          obtain ⟨hok, h2⟩ := hget o ob h1
          have hsc := hH ob (List.mem_of_getElem? (show (H.take k)[o]? = some ob from h1))
          have q := g.objs.cl o ob h2
          have qφ : (C.env (φ.take k) (H.take k) w).φ[o]? = φ[o]? := hgetφ o hok
          cases ob with
          | arr v sz rows =>
            rcases q with ⟨a1, a2⟩ | ⟨b, a1, a2, a3, a4, c, e, vs', a5, a6, a7⟩
            · exact .inl ⟨qφ.trans a1, a2⟩
            · exact .inr ⟨b, qφ.trans a1, hNin o b _ hok h2 trivial a1, a3, a4, c, e, vs', a5, VRs.une m a6 (flat rows) (sc_flat hsc) (renL_id _).symm, a7⟩
          | mapx es st =>
            obtain ⟨b, a1, a2, ents, clock, a3, a4, a5, a6, a7⟩ := q
            refine ⟨b, qφ.trans a1, hNin o b _ hok h2 trivial a1, ents, clock, a3, ?_, ?_, a6, a7⟩
            · refine VRs.une m a4 _ ((scs_iff _ _).mpr fun y hy => ?_) (renL_id _).symm
              obtain ⟨z, hz, rfl⟩ := List.mem_map.mp hy
              exact (hsc z hz).1
            · refine VRs.une m a5 _ ((scs_iff _ _).mpr fun y hy => ?_) (renL_id _).symm
              obtain ⟨z, hz, rfl⟩ := List.mem_map.mp hy
              exact (hsc z hz).2
          | gone => trivial
        inj := fun o1 o2 b ob1 ob2 h1 h2 h3 h4 h5 h6 => g.objs.inj o1 o2 b ob1 ob2 (hget o1 ob1 h1).2 h2 (hget o2 ob2 h3).2 h4 (hφlt o1 b h5) (hφlt o2 b h6) }
      size := g.size
      same := g.same
      own := fun o b ob h1 h2 h3 => g.own o b ob (hget o ob h1).2 h2 (hφlt o b h3)
      world := g.world
      n0 := g.n0
      hlen := by have := g.hlen; have := hn.h; simp; omega
      ext := hx }, VRs.une m hv s hs (renL_id _).symm⟩

end Go.A
