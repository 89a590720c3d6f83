/- A logic of abstract states, part 34: what is owned is told as what does not change, also within what stays owned. -/
import Derived.Test.YtgigpjkdfhhahaaA33
namespace Go.A
set_option linter.unusedVariables false
set_option linter.unusedSimpArgs false

-- The second one is what the first one shows, where what is listed does not change any more.
mutual
inductive Fz (F : List (Nat × AObj)) : D → D → Prop where
  | refl {d : D} : Fz F d d
  | nils : Fz F .nils (.sl [])
  | h {o ver sz i n : Nat} {rows rows' xs : List D} : (o, AObj.arr ver sz rows) ∈ F → Fzl F rows rows' → xs = (rows'.drop i).take n → Fz F (.h o ver i n) (.sl xs)
  | p {o ver sz i j : Nat} {rows rows' : List D} {row : D} {cs : List D} : (o, AObj.arr ver sz rows) ∈ F → Fzl F rows rows' → rows'[i]? = some row → cs = row.cells.drop j → Fz F (.p o ver i j) (.pe cs)
  | sl {xs ys : List D} : Fzl F xs ys → Fz F (.sl xs) (.sl ys)
  | pe {xs ys : List D} : Fzs F xs ys → Fz F (.pe xs) (.pe ys)
  | agg {xs ys : List D} : Fzs F xs ys → Fz F (.agg xs) (.agg ys)
  | tup {xs ys : List D} : Fzs F xs ys → Fz F (.tup xs) (.tup ys)
  | fn {f : FuncId} {xs ys : List D} : Fzs F xs ys → Fz F (.fn f xs) (.fn f ys)
inductive Fzs (F : List (Nat × AObj)) : List D → List D → Prop where
  | nil : Fzs F [] []
  | cons {x y : D} {xs ys : List D} : Fz F x y → Fzs F xs ys → Fzs F (x :: xs) (y :: ys)
inductive Fzl (F : List (Nat × AObj)) : List D → List D → Prop where
  | all {l : List D} : Fzl F l l
  | nil : Fzl F [] []
  | cons {x y : D} {xs ys : List D} : Fzs F x.cells y.cells → Fzl F xs ys → Fzl F (x :: xs) (y :: ys)
end

theorem Fzs.length {F} : ∀ {xs ys : List D}, Fzs F xs ys → xs.length = ys.length
  | _, _, .nil => rfl
  | _, _, .cons _ t => by simp [Fzs.length t]
theorem Fzs.all {F} : ∀ {l : List D}, Fzs F l l
  | [] => .nil
  | _ :: _ => .cons .refl Fzs.all
theorem Fzl.length {F} : ∀ {xs ys : List D}, Fzl F xs ys → xs.length = ys.length
  | _, _, .all => rfl
  | _, _, .nil => rfl
  | _, _, .cons _ t => by simp [Fzl.length t]
theorem Fzl.rows {F} {sz : Nat} : ∀ {xs ys : List D}, Fzl F xs ys → (∀ x ∈ xs, x.cells.length = sz) → ∀ y ∈ ys, y.cells.length = sz
  | _, _, .all, h => h
  | _, _, .nil, _ => fun y hy => by cases hy
  | _, _, .cons h t, hx => fun y hy => by
    rcases List.mem_cons.mp hy with rfl | hy
    · rw [← h.length]; exact hx _ List.mem_cons_self
    · exact Fzl.rows t (fun x h => hx x (List.mem_cons_of_mem _ h)) y hy
/-- One row of many. -/
theorem Fzl.set {F} : ∀ {xs : List D} {i : Nat} {x y : D}, xs[i]? = some x → Fzs F x.cells y.cells → Fzl F xs (xs.set i y)
  | [], _, _, _, h, _ => by simp at h
  | z :: xs, 0, x, y, h, hf => by simp at h; subst h; exact .cons hf .all
  | z :: xs, i + 1, x, y, h, hf => .cons Fzs.all (Fzl.set (by simpa using h) hf)
theorem Fzs.set {F} : ∀ {s : List D} {t : Nat} {d d' : D}, s[t]? = some d → Fz F d d' → Fzs F s (s.set t d')
  | [], _, _, _, h, _ => by simp at h
  | x :: s, 0, d, d', h, hf => by simp at h; subst h; exact .cons hf Fzs.all
  | x :: s, t + 1, d, d', h, hf => .cons .refl (Fzs.set (by simpa using h) hf)

theorem Fzl.snoc {F} {x y : D} (h : Fzs F x.cells y.cells) : ∀ {l : List D}, Fzl F (l ++ [x]) (l ++ [y])
  | [] => .cons h .nil
  | _ :: _ => .cons Fzs.all (Fzl.snoc h)

theorem mem0 {α : Type} {a : α} {l : List α} : a ∈ a :: l := List.mem_cons_self
theorem mem1 {α : Type} {a b : α} {l : List α} : b ∈ a :: b :: l := List.mem_cons_of_mem _ List.mem_cons_self
theorem mem2 {α : Type} {a b c : α} {l : List α} : c ∈ a :: b :: c :: l := List.mem_cons_of_mem _ mem1
theorem mem3 {α : Type} {a b c d : α} {l : List α} : d ∈ a :: b :: c :: d :: l := List.mem_cons_of_mem _ mem2

structure FzE (F : List (Nat × AObj)) (E E' : Env) : Prop where
  x : Ext E E'
  heap : E'.heap = E.heap
  cl : ∀ (o : Nat) ob, E.H[o]? = some ob → Cl E o ob
  blk : ∀ o ver sz rows b, (o, AObj.arr ver sz rows) ∈ F → E.φ[o]? = some (some b) → ¬ E'.N b ∧ b < E'.heap.size
  get : ∀ o ob, (o, ob) ∈ F → E.H[o]? = some ob

mutual
theorem VR.fz {F : List (Nat × AObj)} {E E' : Env} (m : FzE F E E') : ∀ {d d' : D} (_ : Fz F d d') {v : Value}, VR E d v → VR E' d' v
  | _, _, .refl, v, hv => VR.mono m.x hv
  | _, _, .nils, v, hv => by
    cases hv
    exact .sl0 none 0
  | _, _, .h (o := o) (ver := ver) (sz := sz) (i := i) (n := n) (rows := rows) (rows' := rows') (xs := xs) hF hr e, v, hv => by
    have ho := m.get _ _ hF
    have hl := hr.length
    cases hv with
    | hold a len cap h1 h2 =>
      rw [ho] at h1; obtain rfl := Option.some.inj h1
      exact absurd h2 (Nat.lt_irrefl _)
    | hnil h1 h2 =>
      rw [ho] at h1; cases h1
      obtain rfl := List.length_eq_zero_iff.mp hl.symm
      simp at e
      subst e
      exact .sl0 none 0
    | @h _ _ _ _ sz' b cap rows2 a c e' fz h1 h2 h3 h4 h5 h6 h7 =>
      rw [ho] at h1; cases h1
      rcases m.cl o _ ho with ⟨q1, _⟩ | ⟨b', p1, p2, q1, q2, c', e2, vs, ⟨fz1, hfz, q3⟩, q4, q5⟩
      · rw [h2] at q1; cases q1
      rw [h2] at p1; obtain rfl := Option.some.inj (Option.some.inj p1)
      obtain ⟨q6, q7⟩ := m.blk o _ _ _ b hF h2
      have q4 := VRs.fzl m hr q4
      have q2 := hr.rows q2
      have hxl : xs.length = n := by rw [e]; simp; omega
      rcases Nat.eq_zero_or_pos n with h0 | h0
      · subst h0
        have : xs = [] := List.length_eq_zero_iff.mp hxl
        subst this
        exact .sl0 _ _
      · have ha : a = ⟨b, i * sz, none⟩ := by
          rcases h7 with h7 | h7
          · omega
          · exact h7
        subst ha
        have hvs : VRs E' (flat xs) ((vs.drop (i * sz)).take (n * sz)) := by
          have hu : ∀ x ∈ rows'.drop i, x.cells.length = sz := fun x hx => q2 x (List.mem_of_mem_drop hx)
          rw [e, ← flat_take hu, ← flat_drop q2]
          exact (q4.drop _).take _
        have := VR.sl (E := E') (xs := xs) (a := ⟨b, i * sz, none⟩) (cap := cap) (sz := sz) (by omega) q6 q7 q1
          (fun x hx => q2 x (by rw [e] at hx; exact List.mem_of_mem_drop (List.mem_of_mem_take hx)))
          ⟨rfl, c', e2, fz1, (m.heap ▸ q3 : E'.heap[b]? = _), fun j u hj => by
            rw [List.getElem?_take] at hj
            split at hj
            · rw [List.getElem?_drop] at hj
              exact q5 _ _ hj
            · cases hj⟩ hvs
        rw [hxl] at this
        exact this
  | _, _, .p (o := o) (ver := ver) (sz := sz) (i := i) (j := j) (rows := rows) (rows' := rows') (row := row) (cs := cs) hF hr e1 e2, v, hv => by
    have ho := m.get _ _ hF
    cases hv with
    | pold a h1 h2 =>
      rw [ho] at h1; obtain rfl := Option.some.inj h1
      exact absurd h2 (Nat.lt_irrefl _)
    | @p _ _ _ _ sz' b rows2 h1 h2 h3 h4 =>
      rw [ho] at h1; cases h1
      rcases m.cl o _ ho with ⟨q1, _⟩ | ⟨b', p1, p2, q1, q2, c', e2', vs, ⟨fz1, hfz, q3⟩, q4, q5⟩
      · rw [h2] at q1; cases q1
      rw [h2] at p1; obtain rfl := Option.some.inj (Option.some.inj p1)
      obtain ⟨q6, q7⟩ := m.blk o _ _ _ b hF h2
      have q4 := VRs.fzl m hr q4
      have q2 := hr.rows q2
      have hrow : VRs E' row.cells ((vs.drop (i * sz)).take sz) := by
        have hu : ∀ x ∈ rows'.drop i, x.cells.length = sz := fun x hx => q2 x (List.mem_of_mem_drop hx)
        have k : flat ((rows'.drop i).take 1) = row.cells := by
          rw [drop_of_get e1]; simp [flat]
        have k2 := (q4.drop (i * sz)).take (1 * sz)
        rw [flat_drop q2, flat_take hu, k, Nat.one_mul] at k2
        exact k2
      refine .pe q6 q7 (vs := ((vs.drop (i * sz)).take sz).drop j) ⟨rfl, c', e2', fz1, (m.heap ▸ q3 : E'.heap[b]? = _), fun k u hk => ?_⟩ (e2 ▸ hrow.drop j)
      rw [List.getElem?_drop, List.getElem?_take] at hk
      split at hk
      · rw [List.getElem?_drop] at hk
        have := q5 _ _ hk
        rw [← Nat.add_assoc] at this
        exact this
      · cases hk
  | _, _, .sl (xs := xs) (ys := ys) hl, v, hv => by
    cases hv with
    | sl0 a cap =>
      have := hl.length
      obtain rfl := List.length_eq_zero_iff.mp this.symm
      exact .sl0 a cap
    | sl h1 h2 h3 h4 h5 h6 h7 =>
      rw [hl.length] at h1 ⊢
      exact .sl h1 (m.x.imm _ h2 h3 (.inl h6.isCells)).1 (m.heap ▸ h3) h4 (hl.rows h5) (m.heap ▸ h6) (VRs.fzl m hl h7)
  | _, _, .pe hl, v, hv => by
    cases hv with
    | pe h2 h3 h6 h7 => exact .pe (m.x.imm _ h2 h3 (.inl h6.isCells)).1 (m.heap ▸ h3) (m.heap ▸ h6) (VRs.fzs m hl h7)
  | _, _, .agg hl, v, hv => by
    cases hv with
    | agg h => exact .agg (VRs.fzs m hl h)
  | _, _, .tup hl, v, hv => by
    cases hv with
    | tup h => exact .tup (VRs.fzs m hl h)
  | _, _, .fn hl, v, hv => by
    cases hv with
    | fn h => exact .fn (VRs.fzs m hl h)
theorem VRs.fzs {F : List (Nat × AObj)} {E E' : Env} (m : FzE F E E') : ∀ {ds ds' : List D} (_ : Fzs F ds ds') {vs : List Value}, VRs E ds vs → VRs E' ds' vs
  | _, _, .nil, vs, hv => by cases hv; exact .nil
  | _, _, .cons h t, vs, hv => by
    cases hv with
    | cons h1 h2 => exact .cons (VR.fz m h h1) (VRs.fzs m t h2)
theorem VRs.fzl {F : List (Nat × AObj)} {E E' : Env} (m : FzE F E E') : ∀ {ds ds' : List D} (_ : Fzl F ds ds') {vs : List Value}, VRs E (flat ds) vs → VRs E' (flat ds') vs
  | _, _, .all, vs, hv => VRs.mono m.x hv
  | _, _, .nil, vs, hv => by cases hv; exact .nil
  | _, _, .cons h t, vs, hv => by
    obtain ⟨vs1, vs2, rfl, h1, h2⟩ := VRs.split hv
    exact (VRs.fzs m h h1).append (VRs.fzl m t h2)
end

def goneL (H : List AObj) : List (Nat × AObj) → List AObj
  | [] => H
  | x :: F => goneL (H.set x.1 .gone) F
def retL (H : List AObj) : List (Nat × AObj) → List AObj
  | [] => H
  | x :: F => retL (H.set x.1 x.2) F

theorem goneL_ne {o : Nat} : ∀ (F : List (Nat × AObj)) (H : List AObj), o ∉ F.map Prod.fst → (goneL H F)[o]? = H[o]?
  | [], _, _ => rfl
  | x :: F, H, h => by
    simp only [List.map_cons, List.mem_cons, not_or] at h
    rw [goneL, goneL_ne F _ h.2, List.getElem?_set_ne (Ne.symm h.1)]

theorem G.freezes {C φ w} {n : Nat} (hn : C.le n) : ∀ (F : List (Nat × AObj)) {H}, G C φ H w → (∀ x ∈ F, n ≤ x.1 ∧ H[x.1]? = some x.2 ∧ ∃ ver sz rows, x.2 = .arr ver sz rows) → (F.map Prod.fst).Nodup →
    G C φ (goneL H F) w ∧ Ext (C.env φ H w) (C.env φ (goneL H F) w) ∧ ∀ x ∈ F, ∀ b, φ[x.1]? = some (some b) → ¬ C.N φ (goneL H F) b ∧ b < w.heap.size
  | [], H, g, _, _ => ⟨g, Ext.refl _, fun x hx => by cases hx⟩
  | x :: F, H, g, h, hd => by
    obtain ⟨h1, h2, ver, sz, rows, h3⟩ := h x List.mem_cons_self
    rw [h3] at h2
    obtain ⟨g1, m⟩ := g.freeze hn h1 h2
    simp only [List.map_cons, List.nodup_cons] at hd
    obtain ⟨g2, x2, k2⟩ := G.freezes hn F g1 (fun y hy => by
      obtain ⟨q1, q2, q3⟩ := h y (List.mem_cons_of_mem _ hy)
      refine ⟨q1, ?_, q3⟩
      rw [List.getElem?_set_ne (fun e => hd.1 (by rw [e]; exact List.mem_map_of_mem hy))]
      exact q2) hd.2
    refine ⟨g2, m.x.trans x2, fun y hy b hb => ?_⟩
    rcases List.mem_cons.mp hy with rfl | hy
    · obtain ⟨q1, q2⟩ := m.blk b hb
      have := x2.imm b q1 q2 (by obtain ⟨_, _, c, e, _, ⟨f1, _, hc⟩, _⟩ := m.arr b hb; exact .inl ⟨c, e, _, hc⟩)
      exact ⟨this.1, q2⟩
    · exact k2 y hy b hb

/-- What is told of a thing's rows anew. -/
def Ret (E : Env) (H : List AObj) (x : Nat × AObj) : Prop :=
  ∃ ver sz rows rows', x.2 = .arr ver sz rows' ∧ H[x.1]? = some (.arr ver sz rows) ∧ rows'.length = rows.length ∧ (rows' = [] ∨ ∃ b c e vs, E.φ[x.1]? = some (some b) ∧ (∀ y ∈ rows', y.cells.length = sz) ∧ CellsAt E.heap b c e ∧ VRs E (flat rows') vs ∧
    ∀ (j : Nat) v, vs[j]? = some v → c[j]? = some v)

theorem G.retells {C φ w} {E1 : Env} (he : E1.φ = φ) (hh : E1.heap = w.heap) : ∀ (R : List (Nat × AObj)) {H}, G C φ H w → Ext E1 (C.env φ H w) → (∀ x ∈ R, Ret E1 H x) → (R.map Prod.fst).Nodup →
    G C φ (retL H R) w ∧ Ext E1 (C.env φ (retL H R) w)
  | [], H, g, x, _, _ => ⟨g, x⟩
  | y :: R, H, g, x, h, hd => by
    obtain ⟨ver, sz, rows, rows', h1, h2, h3, h4⟩ := h y List.mem_cons_self
    simp only [List.map_cons, List.nodup_cons] at hd
    have hnext : G C φ (H.set y.1 y.2) w ∧ Ext E1 (C.env φ (H.set y.1 y.2) w) := by
      rcases h4 with rfl | ⟨b, c, e, vs, q1, q2, q3, q4, q5⟩
      · have : rows = [] := List.length_eq_zero_iff.mp h3.symm
        subst this
        have : H.set y.1 y.2 = H := by
          rw [h1]
          obtain ⟨k1, k2⟩ := List.getElem?_eq_some_iff.mp h2
          rw [← k2]; exact List.set_getElem_self k1
        rw [this]; exact ⟨g, x⟩
      · rw [h1]
        rw [hh] at q3
        have k := g.reRow h2 (by rw [← he]; exact q1) (.inr ⟨rfl, h3⟩) ⟨rfl, rfl, rfl, (by first | exact Nat.le_refl _ | exact Nat.le_succ _)⟩ rfl q3 q3 rfl (fun _ _ => rfl) q2 (VRs.mono x q4) q5
        exact ⟨k.1, x.trans k.2⟩
    refine G.retells he hh R hnext.1 hnext.2 (fun z hz => ?_) hd.2
    obtain ⟨ver, sz, rows, rows', h1, h2, h3, h4⟩ := h z (List.mem_cons_of_mem _ hz)
    refine ⟨ver, sz, rows, rows', h1, ?_, h3, h4⟩
    rw [List.getElem?_set_ne (fun e => hd.1 (by rw [e]; exact List.mem_map_of_mem hz))]
    exact h2

/-- What is listed in F does not change any more; what is listed in R is told anew. -/
theorem Ghost.fz {n : Nat} (F R : List (Nat × AObj)) {s s' : List D} {H : List AObj} (hF : ∀ x ∈ F, n ≤ x.1 ∧ H[x.1]? = some x.2 ∧ ∃ ver sz rows, x.2 = .arr ver sz rows) (hd : (F.map Prod.fst).Nodup) (hs : Fzs F s s')
    (hR : ∀ x ∈ R, x.1 ∉ F.map Prod.fst ∧ ∃ ver sz rows rows', x.2 = .arr ver sz rows' ∧ H[x.1]? = some (.arr ver sz rows) ∧ Fzl F rows rows') (hdR : (R.map Prod.fst).Nodup) : Ghost n s H s' (retL (goneL H F) R) :=
  fun C φ w vs hn g hv => by
    obtain ⟨g1, x1, k1⟩ := G.freezes hn F g hF hd
    have m : FzE F (C.env φ H w) (C.env φ (goneL H F) w) := {
      x := x1
      heap := rfl
      cl := g.objs.cl
      blk := fun o ver sz rows b h1 h2 => k1 _ h1 b h2
      get := fun o ob h1 => (hF _ h1).2.1 }
    obtain ⟨g2, x2⟩ := G.retells (E1 := C.env φ (goneL H F) w) rfl rfl R g1 (Ext.refl _) (fun y hy => by
      obtain ⟨q0, ver, sz, rows, rows', q1, q2, q3⟩ := hR y hy
      refine ⟨ver, sz, rows, rows', q1, (goneL_ne F H q0).trans q2, q3.length.symm, ?_⟩
      rcases g.objs.cl y.1 _ q2 with ⟨_, h2⟩ | ⟨b, h1, h2, h3, h4, c, e, vs, h5, h6, h7⟩
      · left; rw [h2] at q3; exact List.length_eq_zero_iff.mp q3.length.symm
      · exact .inr ⟨b, c, e, vs, h1, q3.rows h4, h5, VRs.fzl m q3 h6, h7⟩) hdR
    exact ⟨φ, g2, VRs.mono x2 (VRs.fzs m hs hv)⟩

/-- One owned thing's rows, told anew. -/
theorem Ghost.re {n o ver sz : Nat} {rows rows' : List D} {s : List D} {H : List AObj} (ho : H[o]? = some (.arr ver sz rows)) (h : Fzl [] rows rows') : Ghost n s H s (H.set o (.arr ver sz rows')) :=
  Ghost.fz [] [(o, .arr ver sz rows')] (fun x hx => by cases hx) (by simp) Fzs.all (fun x hx => by
    simp only [List.mem_singleton] at hx; subst hx
    exact ⟨by simp, ver, sz, rows, rows', rfl, ho, h⟩) (by simp)

theorem renL_set (ρ : Nat → Nat) : ∀ (l : List D) (t : Nat) (d : D), renL ρ (l.set t d) = (renL ρ l).set t (ren ρ d)
  | [], _, _ => rfl
  | _ :: _, 0, _ => rfl
  | x :: l, t + 1, d => by rw [List.set_cons_succ, renL, renL_set ρ l t d]; rfl
/-- One owned thing alone is kept, which one slot has. -/
theorem Ghost.pickAt (k t : Nat) {s : List D} {H : List AObj} {ver i n sz : Nat} {rows : List D} (hs : s[t]? = some (.h k ver i n)) (hsc : scs 0 (s.set t .undef)) (hk : H[k]? = some (.arr ver sz rows)) (hr : scs 0 rows) : Ghost 0 s H (s.set t (.h 0 ver i n)) [.arr ver sz rows] := by
  refine Ghost.pick [k] (by simp) rfl (fun i o ob' h1 h2 => ?_) ?_ ?_ (fun ob hob => by simp only [List.mem_singleton] at hob; subst hob; exact scs_le _ _ hr)
  · cases i with
    | zero => simp at h1 h2; subst h1 h2; rw [renO_sc0 _ (by exact hr)]; exact hk
    | succ i => simp at h1
  · have e : s.set t (.h 0 ver i n) = (s.set t .undef).set t (.h 0 ver i n) := by rw [List.set_set]
    rw [e, renL_set, renL_sc0 _ _ hsc, List.set_set]
    exact (set_selfL (by rw [hs]; rfl)).symm
  · have e : s.set t (.h 0 ver i n) = (s.set t .undef).set t (.h 0 ver i n) := by rw [List.set_set]
    rw [e, scs_iff]
    intro x hx
    rcases List.mem_or_eq_of_mem_set hx with hx | hx
    · exact sc_le _ _ ((scs_iff _ _).mp hsc x hx)
    · subst hx; exact Nat.zero_lt_one

/-- What comes of code, told once, however it came. -/
theorem W_midG {P : Program} {n : Nat} {k : List Item} {s : St} {Q : Exit → St → Prop} {ι : Type} {c : Code} (S : ι → St) (I : ι → Prop) (h1 : W P n (.code c :: .hyp (fun s' => ∃ j, Ghost n s'.slots s'.H (S j).slots (S j).H ∧ I j) :: k) s Q)
    (h2 : ∀ j, I j → W P n k (S j) Q) : W P n (.code c :: k) s Q :=
  W_mid _ h1 fun s' ⟨j, hg, hi⟩ => W_ghost (s := s'.slots) (H := s'.H) hg (h2 j hi)

end Go.A
