/- A logic of abstract states, part 30: what is owned, under another number. -/
import Derived.Test.YtgigpjkdfhhahaaA29
namespace Go.A
set_option linter.unusedVariables false
set_option linter.unusedSimpArgs false

/-- What is owned comes to the place of a nil slice that is owned. -/
theorem G.move {C φ H w} (g : G C φ H w) {o k b ver sz v0 s0 : Nat} {rows : List D} (hk : H[k]? = some (.arr ver sz rows)) (hkb : φ[k]? = some (some b)) (ho : H[o]? = some (.arr v0 s0 [])) (hob : φ[o]? = some none) (hfresh : C.w0.heap.size ≤ b) :
    G C (φ.set o (some b)) ((H.set o (.arr (v0 + 1) sz rows)).set k .gone) w ∧ Ext (C.env φ H w) (C.env (φ.set o (some b)) ((H.set o (.arr (v0 + 1) sz rows)).set k .gone) w) := by
  have hl : φ.length = H.length := g.objs.len
  have hoH : o < H.length := (List.getElem?_eq_some_iff.mp ho).1
  have hkH : k < H.length := (List.getElem?_eq_some_iff.mp hk).1
  have hne : o ≠ k := fun e => by subst e; rw [hob] at hkb; cases hkb
  obtain ⟨H2, hH2⟩ : ∃ H2, H2 = (H.set o (.arr (v0 + 1) sz rows)).set k .gone := ⟨_, rfl⟩
  obtain ⟨φ2, hφ2⟩ : ∃ φ2, φ2 = φ.set o (some b) := ⟨_, rfl⟩
  rw [← hH2, ← hφ2]
  have H2o : H2[o]? = some (.arr (v0 + 1) sz rows) := by rw [hH2, List.getElem?_set_ne (Ne.symm hne)]; simp [hoH]
  have H2k : H2[k]? = some .gone := by rw [hH2, List.getElem?_set_self (by simpa using hkH)]
  have H2e : ∀ o1, o1 ≠ o → o1 ≠ k → H2[o1]? = H[o1]? := fun o1 h1 h2 => by rw [hH2, List.getElem?_set_ne (Ne.symm h2), List.getElem?_set_ne (Ne.symm h1)]
  have φ2o : φ2[o]? = some (some b) := by rw [hφ2]; simp [hl, hoH]
  have φ2e : ∀ o1, o1 ≠ o → φ2[o1]? = φ[o1]? := fun o1 h1 => by rw [hφ2, List.getElem?_set_ne (Ne.symm h1)]
  have hlen2 : H2.length = H.length := by rw [hH2]; simp
  have hlenφ : φ2.length = φ.length := by rw [hφ2]; simp
  have ow : ∀ c, owns φ2 H2 c ↔ owns φ H c := fun c => by
    constructor
    · rintro ⟨o1, ob1, h1, h2, h3⟩
      by_cases e1 : o1 = o
      · subst e1
        rw [φ2o] at h1; cases h1
        exact ⟨k, _, hkb, hk, trivial⟩
      · by_cases e2 : o1 = k
        · subst e2
          rw [H2k] at h2; cases h2
          exact h3.elim
        · exact ⟨o1, ob1, (φ2e o1 e1) ▸ h1, (H2e o1 e1 e2) ▸ h2, h3⟩
    · rintro ⟨o1, ob1, h1, h2, h3⟩
      by_cases e1 : o1 = o
      · subst e1; rw [hob] at h1; cases h1
      · by_cases e2 : o1 = k
        · subst e2
          rw [hkb] at h1; cases h1
          exact ⟨o, _, φ2o, H2o, trivial⟩
        · exact ⟨o1, ob1, by rw [φ2e o1 e1]; exact h1, by rw [H2e o1 e1 e2]; exact h2, h3⟩
  have hN : ∀ c, C.N φ2 H2 c ↔ C.N φ H c := fun c => by
    unfold Ctx.N
    rw [ow c]
  have x : Ext (C.env φ H w) (C.env φ2 H2 w) := {
    imm := fun c h1 h2 hc => ⟨fun h => h1 ((hN c).mp h), h2, rfl⟩
    old := fun o1 ob1 v h1 h2 => by
      by_cases e1 : o1 = o
      · subst e1
        have h1' : H[o1]? = some ob1 := h1
        rw [ho] at h1'; obtain rfl := Option.some.inj h1'
        exact ⟨_, H2o, Nat.lt_succ_of_lt h2⟩
      · by_cases e2 : o1 = k
        · subst e2; exact ⟨_, H2k, trivial⟩
        · exact ⟨ob1, (H2e o1 e1 e2).trans h1, h2⟩
    arr := fun o1 v s1 r1 h1 => by
      by_cases e1 : o1 = o
      · subst e1
        have h1' : H[o1]? = some (.arr v s1 r1) := h1
        rw [ho] at h1'; cases h1'
        exact .inl ⟨_, H2o, Nat.lt_succ_self _⟩
      · by_cases e2 : o1 = k
        · subst e2; exact .inl ⟨_, H2k, trivial⟩
        · exact .inr ⟨r1, (H2e o1 e1 e2).trans h1, rfl, φ2e o1 e1, fun b1 c e fz _ h => ⟨c, e, fz, h, rfl⟩⟩
    map := fun o1 es st h1 => by
      by_cases e1 : o1 = o
      · subst e1
        have h1' : H[o1]? = some (.mapx es st) := h1
        rw [ho] at h1'; cases h1'
      · by_cases e2 : o1 = k
        · subst e2; exact .inl H2k
        · exact .inr ⟨es, st, (H2e o1 e1 e2).trans h1, φ2e o1 e1⟩ }
  have alive2 : ∀ (o1 c : Nat) ob1, H2[o1]? = some ob1 → AObj.alive ob1 → φ2[o1]? = some (some c) → o1 ≠ o → o1 ≠ k ∧ H[o1]? = some ob1 ∧ φ[o1]? = some (some c) := fun o1 c ob1 h1 h2 h3 e1 => by
    have e2 : o1 ≠ k := fun e => by subst e; rw [H2k] at h1; cases h1; exact h2
    exact ⟨e2, (H2e o1 e1 e2) ▸ h1, (φ2e o1 e1) ▸ h3⟩
  refine ⟨⟨⟨?_, ?_, ?_⟩, g.size, g.same, ?_, g.world, g.n0, ?_, g.ext.trans x⟩, x⟩
  · show φ2.length = H2.length
    rw [hlenφ, hlen2]; exact hl
  · intro o1 ob1 h1
    have h1' : H2[o1]? = some ob1 := h1
    by_cases e1 : o1 = o
    · subst e1
      rw [H2o] at h1'; obtain rfl := Option.some.inj h1'
      rcases g.objs.cl k _ hk with ⟨q1, _⟩ | ⟨b', q1, q2, q3, q4, c, e, vs, q5, q6, q7⟩
      · have q1' : φ[k]? = some none := q1
        rw [hkb] at q1'; cases q1'
      · have q1' : φ[k]? = some (some b') := q1
        rw [hkb] at q1'; cases q1'
        exact .inr ⟨b, φ2o, (hN b).mpr q2, q3, q4, c, e, vs, q5, VRs.mono x q6, q7⟩
    · by_cases e2 : o1 = k
      · subst e2; rw [H2k] at h1'; obtain rfl := Option.some.inj h1'; exact trivial
      · rw [H2e o1 e1 e2] at h1'
        exact Cl.mono x (φ2e o1 e1) (fun c _ _ => ⟨rfl, fun h => (hN c).mpr h⟩) (g.objs.cl o1 ob1 h1')
  · intro o1 o2 c ob1 ob2 h1 h2 h3 h4 h5 h6
    have h1' : H2[o1]? = some ob1 := h1
    have h3' : H2[o2]? = some ob2 := h3
    have h5' : φ2[o1]? = some (some c) := h5
    have h6' : φ2[o2]? = some (some c) := h6
    by_cases e1 : o1 = o <;> by_cases e2 : o2 = o
    · omega
    · subst e1
      rw [φ2o] at h5'; cases h5'
      obtain ⟨a1, a2, a3⟩ := alive2 o2 b ob2 h3' h4 h6' e2
      exact absurd (g.objs.inj o2 k b ob2 _ a2 h4 hk trivial a3 hkb) a1
    · subst e2
      rw [φ2o] at h6'; cases h6'
      obtain ⟨a1, a2, a3⟩ := alive2 o1 b ob1 h1' h2 h5' e1
      exact absurd (g.objs.inj o1 k b ob1 _ a2 h2 hk trivial a3 hkb) a1
    · obtain ⟨a1, a2, a3⟩ := alive2 o1 c ob1 h1' h2 h5' e1
      obtain ⟨b1, b2, b3⟩ := alive2 o2 c ob2 h3' h4 h6' e2
      exact g.objs.inj o1 o2 c ob1 ob2 a2 h2 b2 h4 a3 b3
  · intro o1 c ob1 h1 h2 h3
    by_cases e1 : o1 = o
    · subst e1
      rw [φ2o] at h3; cases h3
      exact ⟨(g.own k b _ hk trivial hkb).1, fun h => absurd hfresh (by omega)⟩
    · obtain ⟨a1, a2, a3⟩ := alive2 o1 c ob1 h1 h2 h3 e1
      exact g.own o1 c ob1 a2 h2 a3
  · rw [hlen2]; exact g.hlen

theorem flat_sc {k : Nat} : ∀ {l : List D}, scs k (flat l) → scs k l
  | [], _ => trivial
  | x :: l, h => by
    simp only [flat, scs_append] at h
    refine ⟨?_, flat_sc h.2⟩
    have h1 := h.1
    cases x <;> first | exact h1 | exact h1.1

theorem get_lt {α : Type} {l : List α} {i : Nat} {x : α} (h : l[i]? = some x) : i < l.length := (List.getElem?_eq_some_iff.mp h).1

mutual
theorem VR.sc {E : Env} : ∀ {d : D} {v : Value}, VR E d v → d.sc E.H.length
  | _, _, .undef _ => trivial
  | _, _, .int _ _ => trivial
  | _, _, .bool _ => trivial
  | _, _, .str _ => trivial
  | _, _, .agg h => VRs.sc h
  | _, _, .tup h => VRs.sc h
  | _, _, .sl0 _ _ => trivial
  | _, _, .sl _ _ _ _ _ _ h => flat_sc (VRs.sc h)
  | _, _, .nils => trivial
  | _, _, .hold _ _ _ h _ => get_lt h
  | _, _, .hnil h _ => get_lt h
  | _, _, .h h _ _ _ _ _ _ => get_lt h
  | _, _, .pold _ h _ => get_lt h
  | _, _, .p h _ _ _ => get_lt h
  | _, _, .pe _ _ _ h => VRs.sc h
  | _, _, .pnil => trivial
  | _, _, .map h _ => get_lt h
  | _, _, .mnil => trivial
  | _, _, .mold _ h => get_lt h
  | _, _, .fn h => VRs.sc h
  | _, _, .fnil => trivial
  | .ifc _ d, _, .ifc h => VR.sc (d := d) h
  | _, _, .inil => trivial
  | _, _, .raw _ => trivial
theorem VRs.sc {E : Env} : ∀ {ds : List D} {vs : List Value}, VRs E ds vs → scs E.H.length ds
  | _, _, .nil => trivial
  | _, _, .cons h t => ⟨VR.sc h, VRs.sc t⟩
end

theorem G.sc {C φ H w} (g : G C φ H w) : ∀ ob ∈ H, ob.sc H.length := fun ob hob => by
  obtain ⟨o, ho⟩ := List.getElem?_of_mem hob
  have h := g.objs.cl o ob ho
  cases ob with
  | arr v s rows =>
    rcases h with ⟨_, rfl⟩ | ⟨b, _, _, _, _, c, e, vs, _, h6, _⟩
    · trivial
    · exact flat_sc (VRs.sc h6)
  | mapx es st =>
    obtain ⟨b, _, _, ents, clock, _, h1, h2, _⟩ := h
    have k1 := VRs.sc h1
    have k2 := VRs.sc h2
    rw [scs_iff] at k1 k2
    intro x hx
    exact ⟨k1 _ (List.mem_map_of_mem hx), k2 _ (List.mem_map_of_mem hx)⟩
  | gone => trivial

/-- A slice of all of a new thing, under the number of a place that was kept. -/
theorem Ghost.moveTo {o ver sz m : Nat} {rows : List D} {H : List AObj} (hsc : ∀ ob ∈ H, ob.sc H.length) (ho : H[o]? = some (.arr 0 0 [])) (hr : scs 0 rows) (hm : m = rows.length) :
    Ghost H.length [.h H.length ver 0 m] (H ++ [.arr ver sz rows]) [.h o 1 0 m] (H.set o (.arr 1 sz rows)) := fun C φ w vs hn g hv => by
  have hlt := get_lt ho
  have hk : (H ++ [AObj.arr ver sz rows])[H.length]? = some (.arr ver sz rows) := by simp
  have ho1 : (H ++ [AObj.arr ver sz rows])[o]? = some (.arr 0 0 []) := by rw [List.getElem?_append_left hlt]; exact ho
  have hob : φ[o]? = some none := by
    rcases g.objs.cl o _ ho1 with ⟨h1, _⟩ | ⟨b, _, _, h3, _⟩
    · exact h1
    · exact absurd h3 (by omega)
  cases hv with
  | @cons _ v _ _ h1 ht =>
  cases ht
  have hsr : (AObj.arr 1 sz rows).sc H.length := scs_le _ _ hr
  have hset : ∀ ob ∈ H.set o (.arr 1 sz rows), ob.sc H.length := fun ob hob => by
    rcases List.mem_or_eq_of_mem_set hob with h | h
    · exact hsc ob h
    · subst h; exact hsr
  rcases h1.inv_h hk with ⟨rfl, _, hm0, hrows, hφ⟩ | ⟨b, a, cap, c, e', fz, rfl, hφ, k3, k4, k5, k6, k7⟩
  · subst hrows
    obtain ⟨g', x⟩ := g.bumpNil (ver' := 1) (sz' := sz) ho1 hob (by omega)
    have ht : ((H ++ [AObj.arr ver sz []]).set o (.arr 1 sz [])).take H.length = H.set o (.arr 1 sz []) := by
      rw [List.set_append_left _ _ hlt, List.take_append_of_le_length (by simp), List.take_of_length_le (by simp)]
    have hd := Ghost.drop (n := H.length) (k := H.length) (s := [.h o 1 0 m]) (H := (H ++ [AObj.arr ver sz []]).set o (.arr 1 sz [])) (Nat.le_refl _) ⟨hlt, trivial⟩ (by rw [ht]; exact hset)
    rw [ht] at hd
    refine hd C φ w _ hn g' (.cons ?_ .nil)
    rw [hm0]
    exact .hnil (sz := sz) (by show ((H ++ [AObj.arr ver sz []]).set o (.arr 1 sz []))[o]? = _; rw [List.getElem?_set_self (by simp; omega)]) hob
  · have hfresh : C.w0.heap.size ≤ b := by
      rcases Nat.lt_or_ge b C.w0.heap.size with h | h
      · have := (g.own H.length b _ hk trivial hφ).2 h
        have h2 := get_lt this.1
        have := hn.f
        omega
      · exact h
    obtain ⟨g', x⟩ := g.move hk hφ ho1 hob hfresh
    have ht : (((H ++ [AObj.arr ver sz rows]).set o (.arr (0 + 1) sz rows)).set H.length .gone).take H.length = H.set o (.arr 1 sz rows) := by
      rw [List.set_append_left _ _ hlt, List.set_append_right _ _ (by simp), List.take_append_of_le_length (by simp), List.take_of_length_le (by simp)]
    have hd := Ghost.drop (n := H.length) (k := H.length) (s := [.h o 1 0 m]) (H := ((H ++ [AObj.arr ver sz rows]).set o (.arr (0 + 1) sz rows)).set H.length .gone) (Nat.le_refl _) ⟨hlt, trivial⟩ (by rw [ht]; exact hset)
    rw [ht] at hd
    refine hd C _ w _ hn g' (.cons ?_ .nil)
    have hl : φ.length = (H ++ [AObj.arr ver sz rows]).length := g.objs.len
    refine .h (sz := sz) (rows := rows) (b := b) ?_ ?_ k3 k4 k5 k6 k7
    · show (((H ++ [AObj.arr ver sz rows]).set o (.arr (0 + 1) sz rows)).set H.length .gone)[o]? = _
      rw [List.getElem?_set_ne (by omega), List.getElem?_set_self (by simp; omega)]
    · show (φ.set o (some b))[o]? = _
      rw [List.getElem?_set_self (by rw [hl]; simp; omega)]

theorem Owned.new {P : Program} {f : FuncId} {args : List D} {sz : Nat} {rows : List D} (h : Owned P f args sz rows) (H : List AObj) : CallsNew P f args H sz rows (fun o v => .h o v 0 rows.length) [] where
  inr := fun o ho => by simp at ho
  calls := fun H' o _ ho => CallsIn.mk' h.calls.fok fun C φ w cargs g hv => by
    have hsc := g.sc
    have h1 := h.calls.fresh h.arg H'
    have h2 : CallsIn P f args H' fun r H'' => r = .h o 1 0 rows.length ∧ H'' = H'.set o (.arr 1 sz rows) := CallsIn.ghost (h1.mono fun r H'' ⟨r0, H0, ⟨ver, e1, e2⟩, e3, e4⟩ => by
      subst e1 e2 e3 e4
      refine ⟨_, _, ?_, rfl, rfl⟩
      have := Ghost.moveTo (ver := ver) (sz := sz) (rows := rows) hsc ho h.row rfl
      simpa [ren, renO, renL_sc0 _ _ h.row] using this)
    exact h2.run C g hv

/-- In a drawn region. -/
theorem Owned.locK {P : Program} {f : FuncId} {args : List D} {sz : Nat} {rows : List D} (h : Owned P f args sz rows) {H : List AObj} {bx : List Bool} {X : D → List Nat → List (Nat × AObj) → List AObj → List Bool → Prop}
    (hx : lenK H 0 fun o => snocK H (.arr 1 sz rows) fun H' => bxK bx o false fun bx => X (.h o 1 0 rows.length) [o] [(o, .arr 1 sz rows)] H' bx) : LocK P f args H bx X :=
  ⟨.inr ⟨sz, rows, _, [], h.new H, hx⟩⟩

end Go.A
