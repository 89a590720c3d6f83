/- A logic of abstract states, part 36: rows told in other parts, calls that turn several owned things, maps gone through. -/
import Derived.Test.YtgigpjkdfhhahaaA35
namespace Go.A
set_option linter.unusedVariables false
set_option linter.unusedSimpArgs false

/-- An owned thing's cells, told as rows of another size. -/
theorem G.regroup {C φ H w} (g : G C φ H w) {o ver ver' sz sz' b : Nat} {rows rows' : List D} (ho : H[o]? = some (.arr ver sz rows)) (hb : φ[o]? = some (some b)) (hv : ver < ver') (hf : flat rows' = flat rows) (hsz : 0 < sz') (hu : ∀ x ∈ rows', x.cells.length = sz') :
    G C φ (H.set o (.arr ver' sz' rows')) w ∧ Ext (C.env φ H w) (C.env φ (H.set o (.arr ver' sz' rows')) w) := by
  have hb' : φ.set o (some b) = φ := by
    apply List.ext_getElem?
    intro k
    by_cases hk : k = o
    · subst hk
      have := (List.getElem?_eq_some_iff.mp hb).1
      rw [List.getElem?_set_self this, hb]
    · simp [Ne.symm hk]
  obtain ⟨hpos, hu0, c, e, vs, ⟨fz, hfz, q1⟩, q2, q3⟩ := g.arrOf ho hb
  have key := g.turn (b' := b) (ob' := .arr ver' sz' rows') (w' := w) ho trivial hb trivial
    { old := fun v hv' => by
        simp only [AObj.past] at hv' ⊢
        omega
      arr := fun v s r hh => by
        cases hh
        exact .inl hv
      map := fun es st hh => by cases hh }
    (Same.refl w) (Nat.le_refl _) (g.own o b _ ho trivial hb).1 (fun k _ hk => rfl)
    (.inl ⟨rfl, fun c1 e1 fz hc1 => ⟨_, _, _, hc1, rfl⟩⟩)
    (fun E' hE x1 hφ hN => .inr ⟨b, hφ, hN, hsz, hu, c, e, vs, by subst hE; exact ⟨fz, hfz, q1⟩, by rw [hf]; exact VRs.mono x1 q2, q3⟩)
  rw [hb'] at key
  exact key

theorem slot_same' {s : List Value} {t : Nat} {d : Value} (h : s[t]? = some d) : s.set t d = s := by
  obtain ⟨h1, h2⟩ := List.getElem?_eq_some_iff.mp h
  subst h2
  exact List.set_getElem_self h1

/-- The same in a state: a slot that points to it is told anew. -/
theorem Ghost.regroup {n : Nat} (t : Nat) {s : List D} {H : List AObj} {o ver sz sz' i j i' j' : Nat} {rows rows' : List D} (hs : s[t]? = some (.p o ver i j)) (ho : H[o]? = some (.arr ver sz rows)) (hf : flat rows' = flat rows) (hsz : 0 < sz')
    (hu : ∀ x ∈ rows', x.cells.length = sz') (hij : i * sz + j = i' * sz' + j') (hi : i' < rows'.length) (hj : j' < sz') : Ghost n s H (s.set t (.p o (ver + 1) i' j')) (H.set o (.arr (ver + 1) sz' rows')) := fun C φ w vs hn g hv => by
  obtain ⟨v, h1, h2⟩ := hv.get t _ hs
  obtain ⟨b, rfl, k2, k3, k4⟩ := h2.inv_p ho
  obtain ⟨g', x⟩ := g.regroup ho k2 (Nat.lt_succ_self ver) hf hsz hu
  refine ⟨φ, g', ?_⟩
  have hl : o < H.length := (List.getElem?_eq_some_iff.mp ho).1
  have hp : VR (C.env φ (H.set o (.arr (ver + 1) sz' rows')) w) (.p o (ver + 1) i' j') (.pointer (some ⟨b, i * sz + j, none⟩)) := by
    rw [hij]
    exact .p (by show (H.set o _)[o]? = _; simp [hl]) k2 hi hj
  have := (VRs.mono x hv).set t hp
  rw [slot_same' h1] at this
  exact this

/-- A call that was shown with what it owns alone, and that makes nothing, where that is owned under the numbers m: in a drawn region, or elsewhere. -/
structure TurnsM (P : Program) (f : FuncId) (args0 : List D) (Hl : List AObj) (r0 : D) (Hl' : List AObj) : Prop where
  calls : CallsIn P f args0 Hl fun r H' => r = r0 ∧ H' = Hl'
  len : Hl'.length = Hl.length
  asc : scs Hl.length args0
  osc : ∀ ob ∈ Hl, ob.sc Hl.length

theorem place_zip (m : List Nat) {l x : List AObj} (h : x.length = m.length) : place m l x = upds l (m.zip x) := by
  unfold place
  rw [List.drop_of_length_le (by omega), List.append_nil]

theorem TurnsM.call {P : Program} {f : FuncId} {args0 : List D} {Hl Hl' : List AObj} {r0 : D} (h : TurnsM P f args0 Hl r0 Hl') (m : List Nat) (hn : m.Nodup) {H : List AObj} {args : List D} {r : D} {Hn : List AObj} (hm : m.length = Hl.length)
    (ha : ∀ k, renL (ixOf m k) args0 = args) (hr : ∀ k, ren (ixOf m k) r0 = r) (hH : ∀ k, m.map (fun o => H[o]?) = Hl.map fun ob => some (renO (ixOf m k) ob)) (ho : ∀ k, Hl'.map (renO (ixOf m k)) = Hn)
    {K : D → List AObj → Prop} (hk : updsK H (m.zip Hn) fun H' => K r H') : CallsIn P f args H K := by
  refine h.calls.at m hm hn (ha H.length).symm (hH H.length) h.asc h.osc ?_
  rintro r' H' ⟨rfl, rfl⟩ _
  rw [hr, ho, place_zip m (by rw [← ho 0]; simp [h.len, hm])]
  exact updsK_iff.mp hk

theorem TurnsM.locK {P : Program} {f : FuncId} {args0 : List D} {Hl Hl' : List AObj} {r0 : D} (h : TurnsM P f args0 Hl r0 Hl') (m : List Nat) (hn : m.Nodup) {H : List AObj} {args : List D} {r : D} {Hn : List AObj} (hm : m.length = Hl.length)
    (ha : ∀ k, renL (ixOf m k) args0 = args) (hr : ∀ k, ren (ixOf m k) r0 = r) (hH : ∀ k, m.map (fun o => H[o]?) = Hl.map fun ob => some (renO (ixOf m k) ob)) (ho : ∀ k, Hl'.map (renO (ixOf m k)) = Hn)
    {bx : List Bool} {X : D → List Nat → List (Nat × AObj) → List AObj → List Bool → Prop} (hx : updsK H (m.zip Hn) fun H' => X r m (m.zip Hn) H' bx) : LocK P f args H bx X :=
  ⟨.inl ⟨r, m, m.zip Hn, {
    sub := dom_zip m Hn
    inr := fun o hmo => by
      obtain ⟨i, hi⟩ := List.getElem?_of_mem hmo
      have h1 := congrArg (fun l => l[i]?) (hH 0)
      have hil : i < Hl.length := by rw [← hm]; exact (List.getElem?_eq_some_iff.mp hi).1
      simp only [List.getElem?_map, hi, Option.map_some, List.getElem?_eq_getElem hil] at h1
      exact (List.getElem?_eq_some_iff.mp (Option.some.inj h1)).1
    calls := fun H' hag => by
      refine h.call m hn hm ha hr (fun k => ?_) ho (updsK_iff.mpr ⟨rfl, rfl⟩)
      rw [← hH k]
      exact List.map_congr_left fun o hmo => hag o hmo }, hx⟩⟩

/-- Steps over rows that are not told one by one. -/
theorem takeK_len {n : Nat} {l : List D} {X : List D → Prop} (h : l.length = n) (hx : X l) : takeK n l X := takeK_iff.mpr ⟨by omega, by rw [List.take_of_length_le (by omega)]; exact hx⟩
theorem boolK_of {b : Bool} {X : Prop} (h : b = true) (hx : X) : boolK b X := boolK_iff.mpr ⟨h, hx⟩
theorem listK_of {α : Type} {l l' : List α} {X : List α → Prop} (h : l = l') (hx : X l') : listK l X := listK_iff.mpr (h ▸ hx)
theorem zK_of {d : D} {X : D → Prop} (hx : X d) : zK d X := zK_iff.mpr hx
theorem splice_full {α : Type} {l xs : List α} (h : xs.length = l.length) : spliceL l 0 xs = xs := by
  unfold spliceL
  rw [List.drop_of_length_le (by omega)]; simp
theorem look_some {o : Option D} {v : D} {A : D → Prop} {B : Prop} (h : o = some v) (hx : A v) : (∀ v, o = some v → A v) ∧ (o = none → B) :=
  ⟨fun v' e => (by rw [h] at e; cases e; exact hx), fun e => (by rw [h] at e; cases e)⟩
theorem look_none {o : Option D} {A : D → Prop} {B : Prop} (h : o = none) (hx : B) : (∀ v, o = some v → A v) ∧ (o = none → B) :=
  ⟨fun v' e => (by rw [h] at e; cases e), fun _ => hx⟩

end Go.A
