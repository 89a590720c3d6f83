/- A logic of abstract states, part 31: what is owned, picked out. -/
import Derived.Test.YtgigpjkdfhhahaaA30
namespace Go.A
set_option linter.unusedVariables false
set_option linter.unusedSimpArgs false

/-- The owned things whose numbers are listed, in that order; all others are let go (where nothing was owned at the beginning). -/
theorem Ghost.pick (m : List Nat) (hm : m.Nodup) {s s' : List D} {H H' : List AObj} (hl : m.length = H'.length) (hH : ∀ (i o : Nat) ob', m[i]? = some o → H'[i]? = some ob' → H[o]? = some (renO (fun i => m.getD i 0) ob'))
    (hs : s = renL (fun i => m.getD i 0) s') (hsc : scs m.length s') (hHsc : ∀ ob ∈ H', ob.sc m.length) : Ghost 0 s H s' H' := fun C φ w vs hn g hv => by
  obtain ⟨ρ, hρ⟩ : ∃ ρ : Nat → Nat, ρ = fun i => m.getD i 0 := ⟨_, rfl⟩
  rw [← hρ] at hH hs
  have hlen : φ.length = H.length := g.objs.len
  have ρat : ∀ i, i < m.length → m[i]? = some (ρ i) := fun i hi => by
    rw [hρ]
    show m[i]? = some (m.getD i 0)
    rw [List.getD_eq_getElem?_getD, List.getElem?_eq_getElem hi]; rfl
  obtain ⟨φ', hφ'⟩ : ∃ φ' : List (Option Nat), φ' = m.map fun o => (φ[o]?).getD none := ⟨_, rfl⟩
  have hφl : φ'.length = H'.length := by rw [hφ']; simp [hl]
  have hHat : ∀ (i : Nat) ob', H'[i]? = some ob' → i < m.length ∧ H[ρ i]? = some (renO ρ ob') := fun i ob' h => by
    have hi : i < m.length := by have := (List.getElem?_eq_some_iff.mp h).1; omega
    exact ⟨hi, hH i (ρ i) ob' (ρat i hi) h⟩
  have hφat : ∀ i, i < m.length → φ'[i]? = φ[ρ i]? := fun i hi => by
    have hi' : i < H'.length := by omega
    have h1 := (hHat i _ (List.getElem?_eq_getElem hi')).2
    have h2 := (List.getElem?_eq_some_iff.mp h1).1
    rw [hφ', List.getElem?_map, ρat i hi, Option.map_some, List.getElem?_eq_getElem (by omega)]
    rfl
  have ρinj : ∀ i j, i < m.length → j < m.length → ρ i = ρ j → i = j := fun i j hi hj e => by
    have h1 := ρat i hi
    have h2 := ρat j hj
    rw [e] at h1
    exact (List.getElem?_inj hi hm).mp (h1.trans h2.symm)
  have ow : ∀ b, owns φ' H' b → owns φ H b := fun b ⟨o1, ob1, h2, h3, h4⟩ => by
    obtain ⟨hi, h5⟩ := hHat o1 ob1 h3
    exact ⟨ρ o1, renO ρ ob1, (hφat o1 hi).symm.trans h2, h5, renO_alive.mpr h4⟩
  have hN : ∀ b, C.N φ' H' b → C.N φ H b := fun b => by
    rintro (h | ⟨h1, h2⟩)
    · exact .inl h
    · exact .inr ⟨h1, ow b h2⟩
  have mm : Une m.length ρ (C.env φ' H' w) (C.env φ H w) := {
    heap := rfl
    N := fun b h1 _ h2 => h1 (hN b h2)
    H := fun i ob' hi h1 => by
      have hi' : i < H'.length := by omega
      have h2 := (hHat i _ (List.getElem?_eq_getElem hi')).2
      have h1' : H[ρ i]? = some ob' := h1
      rw [h2] at h1'
      exact ⟨_, List.getElem?_eq_getElem hi', (Option.some.inj h1').symm⟩
    φ := fun i hi => (hφat i hi).symm }
  have hC0 : C.H0 = [] := List.length_eq_zero_iff.mp (Nat.le_zero.mp hn.h)
  have hx : Ext C.env0 (C.env φ' H' w) := {
    imm := fun b h1 h2 hc => by
      obtain ⟨q1, q2, q3⟩ := g.ext.imm b h1 h2 hc
      exact ⟨fun h => q1 (hN b h), q2, q3⟩
    old := fun o ob ver h1 h2 => by
      have h1' : C.H0[o]? = some ob := h1
      rw [hC0] at h1'; simp at h1'
    arr := fun o ver sz rows h1 => by
      have h1' : C.H0[o]? = some _ := h1
      rw [hC0] at h1'; simp at h1'
    map := fun o es st h1 => by
      have h1' : C.H0[o]? = some _ := h1
      rw [hC0] at h1'; simp at h1' }
  have hNin : ∀ i b ob', i < m.length → H'[i]? = some ob' → ob'.alive → φ[ρ i]? = some (some b) → C.N φ' H' b := fun i b ob' hi h2 h3 h4 => by
    have h5 := (hHat i ob' h2).2
    rcases Nat.lt_or_ge b C.w0.heap.size with hlt | hge
    · exact .inl ⟨hlt, g.n0 _ ((g.own (ρ i) b _ h5 (renO_alive.mpr h3) h4).2 hlt).owns⟩
    · exact .inr ⟨hge, i, ob', (hφat i hi).trans h4, h2, h3⟩
  refine ⟨φ', {
    objs := {
      len := hφl
      cl := fun i ob' h1 => by
        have h1' : H'[i]? = some ob' := h1
        obtain ⟨hi, h2⟩ := hHat i ob' h1'
        have hsc' := hHsc ob' (List.mem_of_getElem? h1')
        have q := g.objs.cl (ρ i) _ h2
        have qφ : (C.env φ' H' w).φ[i]? = φ[ρ i]? := hφat i hi
        cases ob' with
        | arr v sz rows =>
          rcases q with ⟨a1, a2⟩ | ⟨b, a1, a2, a3, a4, c, e, vs', a5, a6, a7⟩
          · refine .inl ⟨qφ.trans a1, ?_⟩
            have := renL_length ρ rows
            rw [a2] at this
            exact List.length_eq_zero_iff.mp this.symm
          · refine .inr ⟨b, qφ.trans a1, hNin i b _ hi h1' trivial a1, a3, fun y hy => ?_, c, e, vs', a5, VRs.une mm a6 (flat rows) (sc_flat hsc') (by rw [ren_flat]), a7⟩
            have := a4 (ren ρ y) (by rw [renL_map]; exact List.mem_map_of_mem hy)
            rw [ren_cells, renL_length] at this
            exact this
        | mapx es st =>
          obtain ⟨b, a1, a2, ents, clock, a3, a4, a5, a6, a7⟩ := q
          refine ⟨b, qφ.trans a1, hNin i b _ hi h1' trivial a1, ents, clock, a3, ?_, ?_, a6, a7⟩
          · refine VRs.une mm a4 _ ((scs_iff _ _).mpr fun y hy => ?_) (by rw [renL_map]; simp)
            obtain ⟨z, hz, rfl⟩ := List.mem_map.mp hy
            exact (hsc' z hz).1
          · refine VRs.une mm a5 _ ((scs_iff _ _).mpr fun y hy => ?_) (by rw [renL_map]; simp)
            obtain ⟨z, hz, rfl⟩ := List.mem_map.mp hy
            exact (hsc' z hz).2
        | gone => trivial
      inj := fun i j b ob1 ob2 h1 h2 h3 h4 h5 h6 => by
        obtain ⟨hi, k1⟩ := hHat i ob1 h1
        obtain ⟨hj, k2⟩ := hHat j ob2 h3
        have h5' : φ'[i]? = some (some b) := h5
        have h6' : φ'[j]? = some (some b) := h6
        rw [hφat i hi] at h5'
        rw [hφat j hj] at h6'
        exact ρinj i j hi hj (g.objs.inj (ρ i) (ρ j) b _ _ k1 (renO_alive.mpr h2) k2 (renO_alive.mpr h4) h5' h6') }
    size := g.size
    same := g.same
    own := fun i b ob h1 h2 h3 => by
      obtain ⟨hi, k1⟩ := hHat i ob h1
      rw [hφat i hi] at h3
      obtain ⟨q1, q2⟩ := g.own (ρ i) b _ k1 (renO_alive.mpr h2) h3
      refine ⟨q1, fun h => ?_⟩
      obtain ⟨p1, ob0, p2, p3⟩ := q2 h
      rw [hC0] at p2; simp at p2
    world := g.world
    n0 := g.n0
    hlen := by rw [hC0]; simp
    ext := hx }, VRs.une mm hv s' hsc hs⟩

/-- A nil slice within what is answered, told as owned. -/
theorem Ghost.matD {n sz : Nat} {s s' : List D} {H : List AObj} (hm : Mts H.length s s') : Ghost n s H s' (H ++ [.arr 0 sz []]) := fun C φ w vs hn g hv => by
  obtain ⟨g1, x1⟩ := g.pushNil sz
  have hl : φ.length = H.length := g.objs.len
  exact ⟨_, g1, Mts.vr (sz := sz) (by show (H ++ [AObj.arr 0 sz []])[H.length]? = _; simp) (by show (φ ++ [none])[H.length]? = _; rw [← hl]; simp) hm (VRs.mono x1 hv)⟩

mutual
/-- A slice of all of one owned thing, under another number. -/
inductive Rn (k ver o m : Nat) : D → D → Prop where
  | refl {d : D} : d.sc k → Rn k ver o m d d
  | h : Rn k ver o m (.h k ver 0 m) (.h o 1 0 m)
  | agg {xs ys : List D} : Rns k ver o m xs ys → Rn k ver o m (.agg xs) (.agg ys)
  | tup {xs ys : List D} : Rns k ver o m xs ys → Rn k ver o m (.tup xs) (.tup ys)
inductive Rns (k ver o m : Nat) : List D → List D → Prop where
  | nil : Rns k ver o m [] []
  | cons {x y : D} {xs ys : List D} : Rn k ver o m x y → Rns k ver o m xs ys → Rns k ver o m (x :: xs) (y :: ys)
end

mutual
theorem Rn.vr {E E' : Env} {k ver o m : Nat} (hh : ∀ v, VR E (.h k ver 0 m) v → VR E' (.h o 1 0 m) v) (hs : ∀ d v, D.sc k d → VR E d v → VR E' d v) : ∀ {v : Value} {d d' : D}, Rn k ver o m d d' → VR E d v → VR E' d' v
  | _, _, _, .refl h, q => hs _ _ h q
  | _, _, _, .h, q => hh _ q
  | _, _, _, .agg h, .agg q => .agg (Rns.vr hh hs h q)
  | _, _, _, .tup h, .tup q => .tup (Rns.vr hh hs h q)
theorem Rns.vr {E E' : Env} {k ver o m : Nat} (hh : ∀ v, VR E (.h k ver 0 m) v → VR E' (.h o 1 0 m) v) (hs : ∀ d v, D.sc k d → VR E d v → VR E' d v) : ∀ {vs : List Value} {ds ds' : List D}, Rns k ver o m ds ds' → VRs E ds vs → VRs E' ds' vs
  | _, _, _, .nil, .nil => .nil
  | _, _, _, .cons a b, .cons q1 q2 => .cons (Rn.vr hh hs a q1) (Rns.vr hh hs b q2)
end

mutual
theorem Rn.scs {k ver o m : Nat} (ho : o < k) : ∀ {d d' : D}, Rn k ver o m d d' → d'.sc k
  | _, _, .refl h => h
  | _, _, .h => ho
  | _, _, .agg h => Rns.scs ho h
  | _, _, .tup h => Rns.scs ho h
theorem Rns.scs {k ver o m : Nat} (ho : o < k) : ∀ {ds ds' : List D}, Rns k ver o m ds ds' → Go.A.scs k ds'
  | _, _, .nil => trivial
  | _, _, .cons a b => ⟨Rn.scs ho a, Rns.scs ho b⟩
end

/-- What was answered with a new thing in it, under the number of a place that was kept. -/
theorem Ghost.moveAll {o ver sz m : Nat} {rows : List D} {H : List AObj} {r r' : D} (hsc : ∀ ob ∈ H, ob.sc H.length) (ho : H[o]? = some (.arr 0 0 [])) (hr : scs 0 rows) (hm : m = rows.length) (hrn : Rn H.length ver o m r r') :
    Ghost H.length [r] (H ++ [.arr ver sz rows]) [r'] (H.set o (.arr 1 sz rows)) := fun C φ w vs hn g hv => by
  have hlt := get_lt ho
  have hk : (H ++ [AObj.arr ver sz rows])[H.length]? = some (.arr ver sz rows) := by simp
  have ho1 : (H ++ [AObj.arr ver sz rows])[o]? = some (.arr 0 0 []) := by rw [List.getElem?_append_left hlt]; exact ho
  have hob : φ[o]? = some none := by
    rcases g.objs.cl o _ ho1 with ⟨h1, _⟩ | ⟨b, _, _, h3, _⟩
    · exact h1
    · exact absurd h3 (by omega)
  have hl : φ.length = (H ++ [AObj.arr ver sz rows]).length := g.objs.len
  have hsr : (AObj.arr 1 sz rows).sc H.length := scs_le _ _ hr
  have hset : ∀ ob ∈ H.set o (.arr 1 sz rows), ob.sc H.length := fun ob hob => by
    rcases List.mem_or_eq_of_mem_set hob with h | h
    · exact hsc ob h
    · subst h; exact hsr
  cases hv with
  | @cons _ v _ _ h1 ht =>
  cases ht
  -- step one: told in the world in which the new thing lies at o
  have key : ∃ φ2 H2, G C φ2 H2 w ∧ H2.take H.length = H.set o (.arr 1 sz rows) ∧ H.length ≤ H2.length ∧ (∀ v, VR (C.env φ (H ++ [.arr ver sz rows]) w) (.h H.length ver 0 m) v → VR (C.env φ2 H2 w) (.h o 1 0 m) v) ∧
      (∀ d v, D.sc H.length d → VR (C.env φ (H ++ [.arr ver sz rows]) w) d v → VR (C.env φ2 H2 w) d v) := by
    rcases g.objs.cl H.length _ hk with ⟨hφ, hrows⟩ | ⟨b, hφ, hN, hpos, hu, c, e, vs', hc, hrr, hin⟩
    · subst hrows
      obtain ⟨g', x⟩ := g.bumpNil (ver' := 1) (sz' := sz) ho1 hob (by omega)
      refine ⟨φ, _, g', ?_, by simp, fun v hv => ?_, fun d v _ hv => VR.mono x hv⟩
      · rw [List.set_append_left _ _ hlt, List.take_append_of_le_length (by simp), List.take_of_length_le (by simp)]
      · rcases hv.inv_h hk with ⟨rfl, _, hm0, _, _⟩ | ⟨b, a, cap, c, e', fz, rfl, hφ2, _⟩
        · rw [hm0]
          exact .hnil (sz := sz) (by show ((H ++ [AObj.arr ver sz []]).set o (.arr 1 sz []))[o]? = _; rw [List.getElem?_set_self (by simp; omega)]) hob
        · have hφ' : φ[H.length]? = some none := hφ
          have hφ2' : φ[H.length]? = some (some b) := hφ2
          rw [hφ'] at hφ2'; cases hφ2'
    · have hφ' : φ[H.length]? = some (some b) := hφ
      have hfresh : C.w0.heap.size ≤ b := by
        rcases Nat.lt_or_ge b C.w0.heap.size with h | h
        · have := (g.own H.length b _ hk trivial hφ').2 h
          have h2 := get_lt this.1
          have := hn.f
          omega
        · exact h
      obtain ⟨g', x⟩ := g.move hk hφ' ho1 hob hfresh
      refine ⟨_, _, g', ?_, by simp, fun v hv => ?_, fun d v _ hv => VR.mono x hv⟩
      · rw [List.set_append_left _ _ hlt, List.set_append_right _ _ (by simp), List.take_append_of_le_length (by simp), List.take_of_length_le (by simp)]
      · rcases hv.inv_h hk with ⟨rfl, _, hm0, hrows, hφ2⟩ | ⟨b2, a, cap, c2, e', fz, rfl, hφ2, k3, k4, k5, k6, k7⟩
        · have hφ2' : φ[H.length]? = some none := hφ2
          rw [hφ'] at hφ2'; cases hφ2'
        · have hφ2' : φ[H.length]? = some (some b2) := hφ2
          rw [hφ'] at hφ2'; cases hφ2'
          refine .h (sz := sz) (rows := rows) (b := b) ?_ ?_ k3 k4 k5 k6 k7
          · show (((H ++ [AObj.arr ver sz rows]).set o (.arr (0 + 1) sz rows)).set H.length .gone)[o]? = _
            rw [List.getElem?_set_ne (by omega), List.getElem?_set_self (by simp; omega)]
          · show (φ.set o (some b))[o]? = _
            rw [List.getElem?_set_self (by rw [hl]; simp; omega)]
  obtain ⟨φ2, H2, g2, ht, hle, hh, hs⟩ := key
  have hscr : r'.sc H.length := by
    exact Rn.scs hlt hrn
  have hd := Ghost.drop (n := H.length) (k := H.length) (s := [r']) (H := H2) (Nat.le_refl _) ⟨hscr, trivial⟩ (by rw [ht]; exact hset)
  rw [ht] at hd
  exact hd C φ2 w _ hn g2 (.cons (Rn.vr hh hs hrn h1) .nil)

/-- A call that answers, within its answer, a slice of all of one thing that is owned from now on. -/
structure OwnedR (P : Program) (f : FuncId) (args : List D) (r : Nat → Nat → D) (sz : Nat) (rows : List D) : Prop where
  arg : scs 0 args
  row : scs 0 rows
  res : ∀ (ρ : Nat → Nat) ver, ren ρ (r 0 ver) = r (ρ 0) ver
  calls : CallsIn P f args [] fun r' H => ∃ ver, r' = r 0 ver ∧ H = [.arr ver sz rows]

theorem OwnedR.of {P : Program} {f : FuncId} {args : List D} {r : Nat → Nat → D} {sz : Nat} {rows : List D} (ha : scs 0 args) (hr : scs 0 rows) (res : ∀ (ρ : Nat → Nat) ver, ren ρ (r 0 ver) = r (ρ 0) ver)
    (h : CallsIn P f args [] fun r' H => ∃ ver, Ghost 0 [r'] H [r 0 ver] [.arr ver sz rows]) : OwnedR P f args r sz rows where
  arg := ha
  row := hr
  res := res
  calls := CallsIn.ghost (h.mono fun r' H ⟨ver, hg⟩ => ⟨_, _, hg, ver, rfl, rfl⟩)

theorem OwnedR.call {P : Program} {f : FuncId} {args : List D} {r : Nat → Nat → D} {sz : Nat} {rows : List D} (h : OwnedR P f args r sz rows) {H : List AObj} {K : D → List AObj → Prop}
    (hk : ∀ ver, lenK H 0 fun o => snocK H (.arr ver sz rows) fun H' => K (r o ver) H') : CallsIn P f args H K := by
  refine (h.calls.fresh h.arg H).mono ?_
  rintro r' H' ⟨r0, H0, ⟨ver, rfl, rfl⟩, rfl, rfl⟩
  have := snocK_iff.mp (lenK_iff.mp (hk ver))
  rw [Nat.zero_add] at this
  rw [h.res]
  simpa [renO, renL_sc0 _ _ h.row] using this

theorem OwnedR.pure {P : Program} {f : FuncId} {args : List D} {r : Nat → Nat → D} {sz : Nat} {rows : List D} (h : OwnedR P f args r sz rows) {pr : D} (hp : pr.sc 0) (hf : ∀ ver, Frz 0 ver rows (r 0 ver) pr) : Pure P f args pr :=
  Pure.ofT h.arg hp (h.calls.mono fun r' H ⟨ver, e1, e2⟩ => by
    subst e1 e2
    exact Told.frz 0 rfl (hf ver))

theorem OwnedR.locK {P : Program} {f : FuncId} {args : List D} {r : Nat → Nat → D} {sz : Nat} {rows : List D} (h : OwnedR P f args r sz rows) (hrn : ∀ k ver o, Rn k ver o rows.length (r k ver) (r o 1)) {H : List AObj} {bx : List Bool} {X : D → List Nat → List (Nat × AObj) → List AObj → List Bool → Prop}
    (hx : lenK H 0 fun o => snocK H (.arr 1 sz rows) fun H' => bxK bx o (isP (r 0 0)) fun bx => X (r o 1) [o] [(o, .arr 1 sz rows)] H' bx) : LocK P f args H bx X :=
  ⟨.inr ⟨sz, rows, r, [], { inr := fun o ho => by simp at ho
                            calls := fun H' o _ ho => CallsIn.mk' h.calls.fok fun C φ w cargs g hv => by
                              have hsc := g.sc
                              have h1 := h.calls.fresh h.arg H'
                              have h2 : CallsIn P f args H' fun r' H'' => r' = r o 1 ∧ H'' = H'.set o (.arr 1 sz rows) := CallsIn.ghost (h1.mono fun r' H'' ⟨r0, H0, ⟨ver, e1, e2⟩, e3, e4⟩ => by
                                subst e1 e2 e3 e4
                                refine ⟨_, _, ?_, rfl, rfl⟩
                                have := Ghost.moveAll (sz := sz) hsc ho h.row rfl (hrn H'.length ver o)
                                rw [h.res]
                                simpa [renO, renL_sc0 _ _ h.row] using this)
                              exact h2.run C g hv }, hx⟩⟩

end Go.A
