/- A logic of abstract states, part 21: what is shown of a call with what it owns alone holds wherever that is owned. -/
import Derived.Test.YtgigpjkdfhhahaaA20
namespace Go.A
set_option linter.unusedVariables false
set_option linter.unusedSimpArgs false

section
variable {α : Type}

def place (m : List Nat) (l x : List α) : List α := upds l (m.zip x) ++ x.drop m.length

def ixOf (m : List Nat) (len : Nat) (i : Nat) : Nat :=
  match m[i]? with
  | some o => o
  | none => len + (i - m.length)

theorem dom_zip : ∀ (m : List Nat) (x : List α), ∀ k ∈ dom (m.zip x), k ∈ m
  | [], _, k, h => by simp [dom] at h
  | _ :: _, [], k, h => by simp [dom] at h
  | o :: m, y :: x, k, h => by
    simp only [dom, List.zip_cons_cons, List.map_cons, List.mem_cons] at h
    rcases h with rfl | h
    · simp
    · exact List.mem_cons_of_mem _ (dom_zip m x k h)

theorem upds_zip : ∀ (m : List Nat) (l x : List α) (i o : Nat), m.Nodup → (∀ o ∈ m, o < l.length) → m[i]? = some o → i < x.length → (upds l (m.zip x))[o]? = x[i]?
  | [], _, _, i, o, _, _, h, _ => by simp at h
  | _ :: _, _, [], i, o, _, _, _, h => by simp at h
  | o0 :: m, l, y :: x, i, o, hn, hl, hi, hx => by
    simp only [List.zip_cons_cons, upds]
    cases i with
    | zero =>
      simp only [List.getElem?_cons_zero, Option.some.injEq] at hi
      subst hi
      rw [upds_ne _ _ _ (fun hk => (List.nodup_cons.mp hn).1 (dom_zip _ _ _ hk))]
      have := hl o0 (by simp)
      simp [this]
    | succ i =>
      have := upds_zip m (l.set o0 y) x i o (List.nodup_cons.mp hn).2 (fun o ho => by simp only [List.length_set]; exact hl o (by simp [ho])) (by simpa using hi) (by simpa using hx)
      simpa using this

variable {m : List Nat} {l x : List α}

theorem place_length : (place m l x).length = l.length + (x.length - m.length) := by simp [place, upds_length]

theorem place_new (hn : m.Nodup) (hl : ∀ o ∈ m, o < l.length) {i : Nat} (hi : i < x.length) : (place m l x)[ixOf m l.length i]? = x[i]? := by
  unfold ixOf place
  cases hm : m[i]? with
  | some o =>
    simp only
    have ho : o < l.length := hl o (List.mem_of_getElem? hm)
    rw [List.getElem?_append_left (by rw [upds_length]; exact ho)]
    exact upds_zip m l x i o hn hl hm hi
  | none =>
    simp only
    have h1 : m.length ≤ i := by simpa using hm
    rw [List.getElem?_append_right (by rw [upds_length]; omega), upds_length, List.getElem?_drop]
    congr 1
    omega

theorem place_old {o : Nat} (ho : o < l.length) (h : o ∉ m) : (place m l x)[o]? = l[o]? := by
  unfold place
  rw [List.getElem?_append_left (by rw [upds_length]; exact ho), upds_ne _ _ _ (fun hk => h (dom_zip _ _ _ hk))]

theorem place_cases (hx : m.length ≤ x.length) {o : Nat} (ho : o < (place m l x).length) : (∃ i, i < x.length ∧ o = ixOf m l.length i) ∨ (o < l.length ∧ o ∉ m) := by
  rw [place_length] at ho
  by_cases h : o < l.length
  · by_cases hm : o ∈ m
    · obtain ⟨i, hi⟩ := List.getElem?_of_mem hm
      have := (List.getElem?_eq_some_iff.mp hi).1
      exact .inl ⟨i, by omega, by simp [ixOf, hi]⟩
    · exact .inr ⟨h, hm⟩
  · refine .inl ⟨m.length + (o - l.length), by omega, ?_⟩
    have : m[m.length + (o - l.length)]? = none := by simp
    simp only [ixOf, this]
    omega

theorem ixOf_inj (hn : m.Nodup) {len : Nat} (hl : ∀ o ∈ m, o < len) {i j : Nat} (h : ixOf m len i = ixOf m len j) : i = j := by
  unfold ixOf at h
  cases hi : m[i]? with
  | some o =>
    cases hj : m[j]? with
    | some o' =>
      simp only [hi, hj] at h
      subst h
      exact (List.getElem?_inj (List.getElem?_eq_some_iff.mp hi).1 hn).mp (hi.trans hj.symm)
    | none =>
      simp only [hi, hj] at h
      have := hl o (List.mem_of_getElem? hi)
      omega
  | none =>
    cases hj : m[j]? with
    | some o' =>
      simp only [hi, hj] at h
      have := hl o' (List.mem_of_getElem? hj)
      omega
    | none =>
      simp only [hi, hj] at h
      have : m.length ≤ i := by simpa using hi
      have : m.length ≤ j := by simpa using hj
      omega

theorem ixOf_lt {len i : Nat} (hi : i < m.length) : ∃ o, m[i]? = some o ∧ ixOf m len i = o := by
  refine ⟨m[i], List.getElem?_eq_getElem hi, ?_⟩
  simp [ixOf, List.getElem?_eq_getElem hi]

end

theorem CallsIn.lift {P : Program} {f : FuncId} {args : List D} {Hl : List AObj} {R : D → List AObj → Prop} (h : CallsIn P f args Hl R) (m : List Nat) {H : List AObj} (hm : m.length = Hl.length) (hn : m.Nodup)
    (hH : ∀ (i : Nat) o ob, m[i]? = some o → Hl[i]? = some ob → H[o]? = some (renO (ixOf m H.length) ob)) (hsa : scs Hl.length args) (hso : ∀ ob ∈ Hl, ob.sc Hl.length) :
    CallsIn P f (renL (ixOf m H.length) args) H fun r H' => ∃ r0 H0, R r0 H0 ∧ Hl.length ≤ H0.length ∧ r = ren (ixOf m H.length) r0 ∧ H' = place m H (H0.map (renO (ixOf m H.length))) := by
  have hml : ∀ o ∈ m, o < H.length := fun o ho => by
    obtain ⟨i, hi⟩ := List.getElem?_of_mem ho
    have h1 := (List.getElem?_eq_some_iff.mp hi).1
    exact (List.getElem?_eq_some_iff.mp (hH i o _ hi (List.getElem?_eq_getElem (by omega)))).1
  refine CallsIn.mk' h.fok fun C φ w cargs g hv => ?_
  obtain ⟨ρ, hρ⟩ : ∃ ρ, ρ = ixOf m H.length := ⟨_, rfl⟩
  rw [← hρ] at hH hv
  have hlen : φ.length = H.length := g.objs.len
  have hρlt : ∀ i, i < Hl.length → ∃ o, m[i]? = some o ∧ ρ i = o := fun i hi => by rw [hρ]; exact ixOf_lt (by omega)
  obtain ⟨φl, hφl⟩ : ∃ φl : List (Option Nat), φl = m.map fun o => (φ[o]?).getD none := ⟨_, rfl⟩
  have hφll : φl.length = Hl.length := by rw [hφl]; simp [hm]
  have hφg : ∀ i, i < Hl.length → φ[ρ i]? = φl[i]? := fun i hi => by
    obtain ⟨o, h1, h2⟩ := hρlt i hi
    have ho := hml o (List.mem_of_getElem? h1)
    have ho' : o < φ.length := by omega
    rw [h2, hφl, List.getElem?_map, h1]
    simp [List.getElem?_eq_getElem ho']
  have hHg : ∀ i ob, Hl[i]? = some ob → H[ρ i]? = some (renO ρ ob) := fun i ob hi => by
    obtain ⟨o, h1, h2⟩ := hρlt i (List.getElem?_eq_some_iff.mp hi).1
    rw [h2]; exact hH i o ob h1 hi
  -- the own blocks of what is local
  have hown : ∀ i b ob, Hl[i]? = some ob → ob.alive → φl[i]? = some (some b) → φ[ρ i]? = some (some b) ∧ H[ρ i]? = some (renO ρ ob) ∧ b < w.heap.size ∧ (b < C.w0.heap.size → C.at0 (ρ i) b) ∧ C.N φ H b := fun i b ob h1 h2 h3 => by
    have k1 := hHg i ob h1
    have k2 : φ[ρ i]? = some (some b) := (hφg i (List.getElem?_eq_some_iff.mp h1).1).trans h3
    have k3 := g.own (ρ i) b _ k1 (renO_alive.mpr h2) k2
    exact ⟨k2, k1, k3.1, k3.2, g.nOf k1 (renO_alive.mpr h2) k2⟩
  obtain ⟨Cl', hCl⟩ : ∃ Cl' : Ctx, Cl' = ⟨C.N φ H, φl, Hl, w, none, 0⟩ := ⟨_, rfl⟩
  have hw0 : Cl'.w0 = w := by rw [hCl]
  have hNl : ∀ b, Cl'.N φl Hl b ↔ b < w.heap.size ∧ C.N φ H b := fun b => by
    rw [hCl]
    constructor
    · rintro (h | ⟨h1, i, ob, h2, h3, h4⟩)
      · exact h
      · have := (hown i b ob h3 h4 h2).2.2.1
        have h1' : w.heap.size ≤ b := h1
        omega
    · intro h; exact .inl h
  have hU : Une Hl.length ρ (Cl'.env φl Hl w) (C.env φ H w) := {
    heap := rfl
    N := fun b h1 _ h2 => h1 ((hNl b).mp h2).2
    H := fun i ob' hi h1 => by
      have h2 : Hl[i]? = some Hl[i] := List.getElem?_eq_getElem hi
      refine ⟨_, h2, ?_⟩
      have h3 : H[ρ i]? = some ob' := h1
      rw [hHg i _ h2] at h3
      exact (Option.some.inj h3).symm
    φ := fun i hi => hφg i hi }
  have hE0 : Cl'.env0 = Cl'.env φl Hl w := by
    have : Cl'.N φl Hl = C.N φ H := by
      funext b
      apply propext
      rw [hNl]
      exact ⟨fun h => h.2, fun h => ⟨g.nlt h, h⟩⟩
    simp only [Ctx.env0, Ctx.env, this]
    rw [hCl]
  have gl : G Cl' φl Hl w := {
    objs := {
      len := hφll
      cl := fun i ob hi => by
        have hi' : Hl[i]? = some ob := hi
        have hlt := (List.getElem?_eq_some_iff.mp hi').1
        have hsc := hso ob (List.mem_of_getElem? hi')
        have k := g.objs.cl (ρ i) _ (hHg i ob hi')
        have kφ : (C.env φ H w).φ[ρ i]? = φl[i]? := hφg i hlt
        cases ob with
        | arr v sz rows =>
          rcases k with ⟨h1, h2⟩ | ⟨b, h1, h2, h3, h4, c, e, vs, h5, h6, h7⟩
          · left
            refine ⟨kφ.symm.trans h1, ?_⟩
            have := renL_length ρ rows
            rw [h2] at this
            exact List.length_eq_zero_iff.mp this.symm
          · right
            have hb : φl[i]? = some (some b) := kφ.symm.trans h1
            refine ⟨b, hb, (hNl b).mpr ⟨(hown i b _ hi' trivial hb).2.2.1, h2⟩, h3, fun x hx => ?_, c, e, vs, h5, ?_, h7⟩
            · have := h4 (ren ρ x) (by rw [renL_map]; exact List.mem_map_of_mem hx)
              rw [ren_cells, renL_length] at this
              exact this
            · exact VRs.une hU h6 (flat rows) (sc_flat hsc) (ren_flat ρ rows)
        | mapx es st =>
          obtain ⟨b, h1, h2, ents, clock, h3, h4, h5, h6, h7⟩ := k
          have hb : φl[i]? = some (some b) := kφ.symm.trans h1
          refine ⟨b, hb, (hNl b).mpr ⟨(hown i b _ hi' trivial hb).2.2.1, h2⟩, ents, clock, h3, ?_, ?_, h6, h7⟩
          · refine VRs.une hU h4 _ ((scs_iff _ _).mpr fun x hx => ?_) (by rw [renL_map]; simp)
            obtain ⟨y, hy, rfl⟩ := List.mem_map.mp hx
            exact (hsc y hy).1
          · refine VRs.une hU h5 _ ((scs_iff _ _).mpr fun x hx => ?_) (by rw [renL_map]; simp)
            obtain ⟨y, hy, rfl⟩ := List.mem_map.mp hx
            exact (hsc y hy).2
        | gone => trivial
      inj := fun i i' b ob ob' h1 h2 h3 h4 h5 h6 => by
        have q1 := hown i b ob h1 h2 h5
        have q2 := hown i' b ob' h3 h4 h6
        have := g.objs.inj (ρ i) (ρ i') b _ _ q1.2.1 (renO_alive.mpr h2) q2.2.1 (renO_alive.mpr h4) q1.1 q2.1
        rw [hρ] at this
        exact ixOf_inj hn hml this }
    size := by rw [hw0]; exact Nat.le_refl _
    same := fun b _ _ => by rw [hw0]
    own := fun i b ob h1 h2 h3 => ⟨(hown i b ob h1 h2 h3).2.2.1, fun _ => by rw [hCl]; exact ⟨h3, ob, h1, h2⟩⟩
    world := by rw [hw0]; exact .refl w
    n0 := fun b hb => by
      rw [hCl] at hb ⊢
      obtain ⟨i, ob, h1, h2, h3⟩ := hb
      exact (hown i b ob h2 h3 h1).2.2.2.2
    hlen := by rw [hCl]; exact Nat.le_refl _
    ext := hE0 ▸ .refl _ }
  have hvl : VRs (Cl'.env φl Hl w) args cargs.toList := VRs.une hU hv args hsa rfl
  refine (h.run Cl' gl hvl).mono ?_
  rintro e w' ⟨r0, v, H0, φ', rfl, hR, g', x', hr⟩
  have hkl : Hl.length ≤ H0.length := by have := g'.hlen; rw [hCl] at this; exact this
  have hφ'l : φ'.length = H0.length := g'.objs.len
  have hsz : w.heap.size ≤ w'.heap.size := by have := g'.size; rw [hw0] at this; exact this
  have hsame : ∀ b, b < w.heap.size → ¬ owns φl Hl b → w'.heap[b]? = w.heap[b]? := fun b h1 h2 => by
    have := g'.same b (by rw [hw0]; exact h1) (by rw [hCl]; exact h2)
    rw [hw0] at this; exact this
  have hat : ∀ (i b : Nat) (ob : AObj), H0[i]? = some ob → ob.alive → φ'[i]? = some (some b) → b < w.heap.size → ∃ ob0, Hl[i]? = some ob0 ∧ ob0.alive ∧ φl[i]? = some (some b) := fun i b ob h1 h2 h3 h4 => by
    have := (g'.own i b ob h1 h2 h3).2 (by rw [hw0]; exact h4)
    rw [hCl] at this
    obtain ⟨k1, ob0, k2, k3⟩ := this
    exact ⟨ob0, k2, k3, k1⟩
  obtain ⟨H', hH'⟩ : ∃ H', H' = place m H (H0.map (renO ρ)) := ⟨_, rfl⟩
  obtain ⟨φ'', hφ''⟩ : ∃ φ'', φ'' = place m φ φ' := ⟨_, rfl⟩
  have hmφ : ∀ o ∈ m, o < φ.length := fun o ho => by rw [hlen]; exact hml o ho
  have nH : ∀ i ob, H0[i]? = some ob → H'[ρ i]? = some (renO ρ ob) := fun i ob hi => by
    rw [hH', hρ, place_new hn hml (by simpa using (List.getElem?_eq_some_iff.mp hi).1), List.getElem?_map, hi]; rfl
  have nφ : ∀ i, i < H0.length → φ''[ρ i]? = φ'[i]? := fun i hi => by
    rw [hφ'', hρ, ← hlen, place_new hn hmφ (by omega)]
  have oH : ∀ o, o < H.length → o ∉ m → H'[o]? = H[o]? := fun o h1 h2 => by rw [hH']; exact place_old h1 h2
  have oφ : ∀ o, o < H.length → o ∉ m → φ''[o]? = φ[o]? := fun o h1 h2 => by rw [hφ'']; exact place_old (by omega) h2
  have hcs : ∀ o ob, H'[o]? = some ob → (∃ i ob0, H0[i]? = some ob0 ∧ o = ρ i ∧ ob = renO ρ ob0) ∨ (o < H.length ∧ o ∉ m ∧ H[o]? = some ob) := fun o ob ho => by
    have hlt := (List.getElem?_eq_some_iff.mp ho).1
    rw [hH'] at hlt
    rcases place_cases (by simp; omega) hlt with ⟨i, h1, h2⟩ | ⟨h1, h2⟩
    · left
      have h1' : i < H0.length := by simpa using h1
      have h3 : H0[i]? = some H0[i] := List.getElem?_eq_getElem h1'
      refine ⟨i, _, h3, by rw [hρ]; exact h2, ?_⟩
      have h4 := nH i _ h3
      have h5 : o = ρ i := by rw [hρ]; exact h2
      rw [← h5, ho] at h4
      exact Option.some.inj h4
    · right
      exact ⟨h1, h2, by rw [← oH o h1 h2]; exact ho⟩
  have holdown : ∀ o b ob, o < H.length → o ∉ m → H[o]? = some ob → ob.alive → φ[o]? = some (some b) → ¬ owns φl Hl b := fun o b ob h1 h2 h3 h4 h5 ⟨i, ob0, k1, k2, k3⟩ => by
    have q := hown i b ob0 k2 k3 k1
    have := g.objs.inj o (ρ i) b _ _ h3 h4 q.2.1 (renO_alive.mpr k3) h5 q.1
    obtain ⟨o', p1, p2⟩ := hρlt i (List.getElem?_eq_some_iff.mp k2).1
    rw [p2] at this
    subst this
    exact h2 (List.mem_of_getElem? p1)
  have hNold : ∀ b, b < w.heap.size → C.N φ'' H' b → C.N φ H b := fun b hb hN => by
    rcases hN with h1 | ⟨h1, o, ob, h2, h3, h4⟩
    · exact .inl h1
    · rcases hcs o ob h3 with ⟨i, ob0, k1, rfl, rfl⟩ | ⟨k1, k2, k3⟩
      · have k4 : φ'[i]? = some (some b) := (nφ i (List.getElem?_eq_some_iff.mp k1).1).symm.trans h2
        obtain ⟨ob1, k5, k6, k7⟩ := hat i b ob0 k1 (renO_alive.mp h4) k4 hb
        exact (hown i b ob1 k5 k6 k7).2.2.2.2
      · exact .inr ⟨h1, o, ob, (oφ o k1 k2).symm.trans h2, k3, h4⟩
  have hEmb : Emb ρ (Cl'.env φ' H0 w') (C.env φ'' H' w') := {
    heap := rfl
    N := fun b h1 h2 h3 => by
      rcases Nat.lt_or_ge b w.heap.size with hb | hb
      · exact h1 (.inl ⟨by rw [hw0]; exact hb, by rw [hCl]; exact hNold b hb h3⟩)
      · rcases h3 with ⟨h4, _⟩ | ⟨_, o, ob, h4, h5, h6⟩
        · have := g.size; omega
        · rcases hcs o ob h5 with ⟨i, ob0, k1, rfl, rfl⟩ | ⟨k1, k2, k3⟩
          · exact h1 (.inr ⟨by rw [hw0]; exact hb, i, ob0, (nφ i (List.getElem?_eq_some_iff.mp k1).1).symm.trans h4, k1, renO_alive.mp h6⟩)
          · have := (g.own o b ob k3 h6 ((oφ o k1 k2).symm.trans h4)).1
            omega
    H := fun i ob hi => nH i ob hi
    φ := fun i ob hi => nφ i (List.getElem?_eq_some_iff.mp hi).1 }
  have x : Ext (C.env φ H w) (C.env φ'' H' w') := {
    imm := fun b h1 h2 hc => ⟨fun h3 => h1 (hNold b h2 h3), Nat.lt_of_lt_of_le h2 hsz, hsame b h2 fun ⟨i, ob, k1, k2, k3⟩ => h1 (hown i b ob k2 k3 k1).2.2.2.2⟩
    old := fun o ob ver h1 h2 => by
      have h1' : H[o]? = some ob := h1
      by_cases ho : o ∈ m
      · obtain ⟨i, hi⟩ := List.getElem?_of_mem ho
        have hil : i < Hl.length := by rw [← hm]; exact (List.getElem?_eq_some_iff.mp hi).1
        have h3 : Hl[i]? = some Hl[i] := List.getElem?_eq_getElem hil
        have h4 := hH i o _ hi h3
        rw [h1'] at h4
        obtain rfl := Option.some.inj h4
        obtain ⟨ob', k1, k2⟩ := x'.old i _ ver h3 (renO_past.mp h2)
        have h5 := nH i ob' k1
        obtain ⟨o', p1, p2⟩ := hρlt i hil
        rw [hi] at p1; obtain rfl := Option.some.inj p1
        rw [p2] at h5
        exact ⟨_, h5, renO_past.mpr k2⟩
      · exact ⟨ob, (oH o (List.getElem?_eq_some_iff.mp h1').1 ho).trans h1', h2⟩
    arr := fun o ver sz rows h1 => by
      have h1' : H[o]? = some (.arr ver sz rows) := h1
      by_cases ho : o ∈ m
      · obtain ⟨i, hi⟩ := List.getElem?_of_mem ho
        have hil : i < Hl.length := by rw [← hm]; exact (List.getElem?_eq_some_iff.mp hi).1
        have h3 : Hl[i]? = some Hl[i] := List.getElem?_eq_getElem hil
        have h4 := hH i o _ hi h3
        rw [h1'] at h4
        obtain ⟨rows0, k1, rfl⟩ := renO_arr (Option.some.inj h4).symm
        obtain ⟨o', p1, p2⟩ := hρlt i hil
        rw [hi] at p1; obtain rfl := Option.some.inj p1
        have h3' : (Cl'.env φl Hl w).H[i]? = some (.arr ver sz rows0) := by rw [← k1]; exact h3
        rcases x'.arr i ver sz rows0 h3' with ⟨ob', q1, q2⟩ | ⟨rows', q1, q2, q3, q4⟩
        · left
          have h5 := nH i ob' q1
          rw [p2] at h5
          exact ⟨_, h5, renO_past.mpr q2⟩
        · right
          have h5 := nH i _ q1
          rw [p2] at h5
          refine ⟨_, h5, by rw [renL_length, renL_length]; exact q2, ?_, fun b c e fz s1 s2 => ?_⟩
          · show φ''[o]? = φ[o]?
            have a1 := nφ i (by omega)
            have a2 := hφg i hil
            rw [p2] at a1 a2
            rw [a1, a2]
            exact q3
          · have a2 := hφg i hil
            rw [p2] at a2
            exact q4 b c e fz (show φl[i]? = some (some b) from a2.symm.trans s1) s2
      · have hlt := (List.getElem?_eq_some_iff.mp h1').1
        refine .inr ⟨rows, (oH o hlt ho).trans h1', rfl, oφ o hlt ho, fun b c e fz s1 s2 => ⟨c, e, fz, ?_, rfl⟩⟩
        have s1' : φ[o]? = some (some b) := s1
        exact (hsame b (g.own o b _ h1' trivial s1').1 (holdown o b _ hlt ho h1' trivial s1')).trans s2
    map := fun o es st h1 => by
      have h1' : H[o]? = some (.mapx es st) := h1
      by_cases ho : o ∈ m
      · obtain ⟨i, hi⟩ := List.getElem?_of_mem ho
        have hil : i < Hl.length := by rw [← hm]; exact (List.getElem?_eq_some_iff.mp hi).1
        have h3 : Hl[i]? = some Hl[i] := List.getElem?_eq_getElem hil
        have h4 := hH i o _ hi h3
        rw [h1'] at h4
        obtain ⟨es0, k1, rfl⟩ := renO_map (Option.some.inj h4).symm
        obtain ⟨o', p1, p2⟩ := hρlt i hil
        rw [hi] at p1; obtain rfl := Option.some.inj p1
        have h3' : (Cl'.env φl Hl w).H[i]? = some (.mapx es0 st) := by rw [← k1]; exact h3
        rcases x'.map i es0 st h3' with q1 | ⟨es', st', q1, q2⟩
        · left
          have h5 := nH i _ q1
          rw [p2] at h5
          exact h5
        · right
          have h5 := nH i _ q1
          rw [p2] at h5
          refine ⟨_, _, h5, ?_⟩
          show φ''[o]? = φ[o]?
          have a1 := nφ i (by omega)
          have a2 := hφg i hil
          rw [p2] at a1 a2
          rw [a1, a2]
          exact q2
      · have hlt := (List.getElem?_eq_some_iff.mp h1').1
        exact .inr ⟨es, st, (oH o hlt ho).trans h1', oφ o hlt ho⟩ }
  have hN'' : ∀ o b ob, H'[o]? = some ob → ob.alive → φ''[o]? = some (some b) → (b < C.w0.heap.size → C.at0 o b) → C.N φ'' H' b := fun o b ob h1 h2 h3 h4 => by
    rcases Nat.lt_or_ge b C.w0.heap.size with hb | hb
    · exact .inl ⟨hb, g.n0 b (h4 hb).owns⟩
    · exact .inr ⟨hb, o, ob, h3, h1, h2⟩
  have hown' : ∀ i b ob, H0[i]? = some ob → ob.alive → φ'[i]? = some (some b) → b < w'.heap.size ∧ (b < C.w0.heap.size → C.at0 (ρ i) b) := fun i b ob h1 h2 h3 => by
    refine ⟨(g'.own i b ob h1 h2 h3).1, fun hb => ?_⟩
    obtain ⟨ob0, k1, k2, k3⟩ := hat i b ob h1 h2 h3 (Nat.lt_of_lt_of_le hb g.size)
    exact (hown i b ob0 k1 k2 k3).2.2.2.1 hb
  have hl'' : φ''.length = H'.length := by
    rw [hφ'', hH', place_length, place_length]
    simp [hlen, hφ'l]
  refine ⟨ren ρ r0, v, H', φ'', rfl, ⟨r0, H0, hR, hkl, by rw [hρ], by rw [hH', hρ]⟩, {
    objs := {
      len := hl''
      cl := fun o ob ho => by
        rcases hcs o ob ho with ⟨i, ob0, k1, rfl, rfl⟩ | ⟨k1, k2, k3⟩
        · have k := g'.objs.cl i ob0 k1
          have kφ : (C.env φ'' H' w').φ[ρ i]? = φ'[i]? := nφ i (List.getElem?_eq_some_iff.mp k1).1
          cases ob0 with
          | arr v sz rows =>
            rcases k with ⟨h1, h2⟩ | ⟨b, h1, h2, h3, h4, c, e, vs, h5, h6, h7⟩
            · left
              exact ⟨kφ.trans h1, by rw [h2]; rfl⟩
            · right
              refine ⟨b, kφ.trans h1, hN'' _ b _ (nH i _ k1) trivial (kφ.trans h1) (hown' i b _ k1 trivial h1).2, h3, fun x hx => ?_, c, e, vs, h5, ?_, h7⟩
              · rw [renL_map] at hx
                obtain ⟨y, hy, rfl⟩ := List.mem_map.mp hx
                rw [ren_cells, renL_length]
                exact h4 y hy
              · rw [ren_flat]
                exact VRs.ren hEmb h6
          | mapx es st =>
            obtain ⟨b, h1, h2, ents, clock, h3, h4, h5, h6, h7⟩ := k
            refine ⟨b, kφ.trans h1, hN'' _ b _ (nH i _ k1) trivial (kφ.trans h1) (hown' i b _ k1 trivial h1).2, ents, clock, h3, ?_, ?_, h6, h7⟩
            · have := VRs.ren hEmb h4
              rw [renL_map, List.map_map] at this
              rw [List.map_map]
              exact this
            · have := VRs.ren hEmb h5
              rw [renL_map, List.map_map] at this
              rw [List.map_map]
              exact this
          | gone => trivial
        · refine Cl.mono x (oφ o k1 k2) (fun b ha hb => ?_) (g.objs.cl o ob k3)
          have hb' : φ[o]? = some (some b) := hb
          have q := g.own o b ob k3 ha hb'
          exact ⟨hsame b q.1 (holdown o b ob k1 k2 k3 ha hb'), fun _ => hN'' o b ob ((oH o k1 k2).trans k3) ha ((oφ o k1 k2).trans hb') q.2⟩
      inj := fun o o' b ob ob' h1 h2 h3 h4 h5 h6 => by
        rcases hcs o ob h1 with ⟨i, ob0, k1, rfl, rfl⟩ | ⟨k1, k2, k3⟩ <;> rcases hcs o' ob' h3 with ⟨i', ob0', k1', rfl, rfl⟩ | ⟨k1', k2', k3'⟩
        · have a1 : φ'[i]? = some (some b) := (nφ i (List.getElem?_eq_some_iff.mp k1).1).symm.trans h5
          have a2 : φ'[i']? = some (some b) := (nφ i' (List.getElem?_eq_some_iff.mp k1').1).symm.trans h6
          rw [g'.objs.inj i i' b ob0 ob0' k1 (renO_alive.mp h2) k1' (renO_alive.mp h4) a1 a2]
        · have a1 : φ'[i]? = some (some b) := (nφ i (List.getElem?_eq_some_iff.mp k1).1).symm.trans h5
          have a2 : φ[o']? = some (some b) := (oφ o' k1' k2').symm.trans h6
          have hb := (g.own o' b ob' k3' h4 a2).1
          obtain ⟨ob1, q1, q2, q3⟩ := hat i b ob0 k1 (renO_alive.mp h2) a1 hb
          exact absurd ⟨i, ob1, q3, q1, q2⟩ (holdown o' b ob' k1' k2' k3' h4 a2)
        · have a1 : φ'[i']? = some (some b) := (nφ i' (List.getElem?_eq_some_iff.mp k1').1).symm.trans h6
          have a2 : φ[o]? = some (some b) := (oφ o k1 k2).symm.trans h5
          have hb := (g.own o b ob k3 h2 a2).1
          obtain ⟨ob1, q1, q2, q3⟩ := hat i' b ob0' k1' (renO_alive.mp h4) a1 hb
          exact absurd ⟨i', ob1, q3, q1, q2⟩ (holdown o b ob k1 k2 k3 h2 a2)
        · exact g.objs.inj o o' b ob ob' k3 h2 k3' h4 ((oφ o k1 k2).symm.trans h5) ((oφ o' k1' k2').symm.trans h6) }
    size := Nat.le_trans g.size hsz
    same := fun b h1 h2 => by
      have hb : b < w.heap.size := Nat.lt_of_lt_of_le h1 g.size
      rw [hsame b hb fun ⟨i, ob, k1, k2, k3⟩ => h2 ((hown i b ob k2 k3 k1).2.2.2.1 h1).owns]
      exact g.same b h1 h2
    own := fun o b ob h1 h2 h3 => by
      rcases hcs o ob h1 with ⟨i, ob0, k1, rfl, rfl⟩ | ⟨k1, k2, k3⟩
      · exact hown' i b ob0 k1 (renO_alive.mp h2) ((nφ i (List.getElem?_eq_some_iff.mp k1).1).symm.trans h3)
      · have q := g.own o b ob k3 h2 ((oφ o k1 k2).symm.trans h3)
        exact ⟨Nat.lt_of_lt_of_le q.1 hsz, q.2⟩
    world := g.world.trans (by have := g'.world; rw [hw0] at this; exact this)
    n0 := g.n0
    hlen := by
      have := g.hlen
      rw [hH', place_length]
      omega
    ext := g.ext.trans x }, x, VR.ren hEmb hr⟩

end Go.A
