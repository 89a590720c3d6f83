/- A logic of abstract states, part 20: what is owned, told under other numbers. -/
import Derived.Test.YtgigpjkdfhhahaaA19
namespace Go.A
set_option linter.unusedVariables false
set_option linter.unusedSimpArgs false

mutual
def ren (ρ : Nat → Nat) : D → D
  | .undef => .undef
  | .int k n => .int k n
  | .bool b => .bool b
  | .str s => .str s
  | .agg cs => .agg (renL ρ cs)
  | .tup cs => .tup (renL ρ cs)
  | .sl xs => .sl (renL ρ xs)
  | .nils => .nils
  | .h o ver i n => .h (ρ o) ver i n
  | .p o ver i j => .p (ρ o) ver i j
  | .pe cs => .pe (renL ρ cs)
  | .pnil => .pnil
  | .map o => .map (ρ o)
  | .mnil => .mnil
  | .fn f caps => .fn f (renL ρ caps)
  | .fnil => .fnil
  | .ifc t v => .ifc t (ren ρ v)
  | .inil => .inil
  | .raw v => .raw v
def renL (ρ : Nat → Nat) : List D → List D
  | [] => []
  | d :: ds => ren ρ d :: renL ρ ds
end

-- All that is owned in it has a number below k.
mutual
def D.sc (k : Nat) : D → Prop
  | .agg cs => scs k cs
  | .tup cs => scs k cs
  | .sl xs => scs k xs
  | .h o _ _ _ => o < k
  | .p o _ _ _ => o < k
  | .pe cs => scs k cs
  | .map o => o < k
  | .fn _ caps => scs k caps
  | .ifc _ v => v.sc k
  | _ => True
def scs (k : Nat) : List D → Prop
  | [] => True
  | d :: ds => d.sc k ∧ scs k ds
end

theorem renL_map (ρ : Nat → Nat) : ∀ l : List D, renL ρ l = l.map (ren ρ)
  | [] => rfl
  | x :: l => by simp [renL, renL_map ρ l]

theorem scs_iff (k : Nat) : ∀ l : List D, scs k l ↔ ∀ x ∈ l, x.sc k
  | [] => by simp [scs]
  | x :: l => by simp [scs, scs_iff k l]

theorem ren_cells (ρ : Nat → Nat) (d : D) : (ren ρ d).cells = renL ρ d.cells := by
  cases d <;> simp [ren, D.cells, renL]

theorem renL_length (ρ : Nat → Nat) (l : List D) : (renL ρ l).length = l.length := by simp [renL_map]

theorem renL_append (ρ : Nat → Nat) (a b : List D) : renL ρ (a ++ b) = renL ρ a ++ renL ρ b := by simp [renL_map]

theorem ren_flat (ρ : Nat → Nat) : ∀ l : List D, flat (renL ρ l) = renL ρ (flat l)
  | [] => rfl
  | x :: l => by simp only [renL, flat, ren_cells, ren_flat ρ l, renL_append]

theorem scs_append (k : Nat) (a b : List D) : scs k (a ++ b) ↔ scs k a ∧ scs k b := by
  simp only [scs_iff, List.mem_append]
  constructor
  · intro h
    exact ⟨fun x hx => h x (.inl hx), fun x hx => h x (.inr hx)⟩
  · rintro ⟨h1, h2⟩ x (hx | hx)
    · exact h1 x hx
    · exact h2 x hx

theorem sc_cells {k : Nat} {d : D} (h : d.sc k) : scs k d.cells := by
  cases d <;> first | exact h | exact ⟨h, trivial⟩

theorem sc_flat {k : Nat} : ∀ {l : List D}, scs k l → scs k (flat l)
  | [], _ => trivial
  | x :: l, h => by
    simp only [flat, scs_append]
    exact ⟨sc_cells h.1, sc_flat h.2⟩

def renO (ρ : Nat → Nat) : AObj → AObj
  | .arr v sz rows => .arr v sz (renL ρ rows)
  | .mapx es st => .mapx (es.map fun e => (ren ρ e.1, ren ρ e.2)) st
  | .gone => .gone

def AObj.sc (k : Nat) : AObj → Prop
  | .arr _ _ rows => scs k rows
  | .mapx es _ => ∀ e ∈ es, e.1.sc k ∧ e.2.sc k
  | .gone => True

theorem renO_past {ρ : Nat → Nat} {ob : AObj} {ver : Nat} : (renO ρ ob).past ver ↔ ob.past ver := by
  cases ob <;> exact Iff.rfl

theorem renO_alive {ρ : Nat → Nat} {ob : AObj} : (renO ρ ob).alive ↔ ob.alive := by
  cases ob <;> exact Iff.rfl

theorem renO_arr {ρ : Nat → Nat} {ob : AObj} {v sz : Nat} {rows : List D} (h : renO ρ ob = .arr v sz rows) : ∃ rows0, ob = .arr v sz rows0 ∧ rows = renL ρ rows0 := by
  cases ob with
  | arr v' sz' rows' => simp only [renO, AObj.arr.injEq] at h; obtain ⟨rfl, rfl, rfl⟩ := h; exact ⟨_, rfl, rfl⟩
  | mapx es st => cases h
  | gone => cases h

theorem renO_map {ρ : Nat → Nat} {ob : AObj} {es : List (D × D)} {st : Option (List Nat × Nat)} (h : renO ρ ob = .mapx es st) : ∃ es0, ob = .mapx es0 st ∧ es = es0.map fun e => (ren ρ e.1, ren ρ e.2) := by
  cases ob with
  | arr v' sz' rows' => cases h
  | mapx es' st' => simp only [renO, AObj.mapx.injEq] at h; obtain ⟨h, rfl⟩ := h; exact ⟨_, rfl, h.symm⟩
  | gone => cases h

theorem renO_gone {ρ : Nat → Nat} {ob : AObj} (h : renO ρ ob = .gone) : ob = .gone := by
  cases ob with
  | arr v' sz' rows' => cases h
  | mapx es' st' => cases h
  | gone => rfl

/-- The one told within the other one. -/
structure Emb (ρ : Nat → Nat) (E' E : Env) : Prop where
  heap : E.heap = E'.heap
  N : ∀ b, ¬ E'.N b → b < E'.heap.size → ¬ E.N b
  H : ∀ (i : Nat) ob, E'.H[i]? = some ob → E.H[ρ i]? = some (renO ρ ob)
  φ : ∀ (i : Nat) ob, E'.H[i]? = some ob → E.φ[ρ i]? = E'.φ[i]?

mutual
theorem VR.ren {ρ : Nat → Nat} {E' E : Env} (m : Emb ρ E' E) : ∀ {d : D} {v : Value}, VR E' d v → VR E (Go.A.ren ρ d) v
  | _, _, .undef v => .undef v
  | _, _, .int k n => .int k n
  | _, _, .bool b => .bool b
  | _, _, .str s => .str s
  | _, _, .agg h => .agg (VRs.ren m h)
  | _, _, .tup h => .tup (VRs.ren m h)
  | _, _, .sl0 a cap => .sl0 a cap
  | _, _, .sl (xs := xs) (vs := vs) h1 h2 h3 h4 h5 h6 h7 => by
    have k := VRs.ren m h7
    rw [← ren_flat] at k
    have := VR.sl (E := E) (xs := renL ρ xs) (by rw [renL_length]; exact h1) (m.N _ h2 h3) (m.heap ▸ h3) h4
      (fun x hx => by
        rw [renL_map] at hx
        obtain ⟨y, hy, rfl⟩ := List.mem_map.mp hx
        rw [ren_cells, renL_length]
        exact h5 y hy) (m.heap ▸ h6) k
    rw [renL_length] at this
    exact this
  | _, _, .nils => .nils
  | _, _, .hold a len cap h1 h2 => .hold a len cap (m.H _ _ h1) (renO_past.mpr h2)
  | _, _, .hnil h1 h2 => .hnil (m.H _ _ h1) ((m.φ _ _ h1).trans h2)
  | _, _, .h (rows := rows) h1 h2 h3 h4 h5 h6 h7 => .h (rows := renL ρ rows) (m.H _ _ h1) ((m.φ _ _ h1).trans h2) (by rw [renL_length]; exact h3) h4 (m.heap ▸ h5) h6 h7
  | _, _, .pold a h1 h2 => .pold a (m.H _ _ h1) (renO_past.mpr h2)
  | _, _, .p (rows := rows) h1 h2 h3 h4 => .p (rows := renL ρ rows) (m.H _ _ h1) ((m.φ _ _ h1).trans h2) (by rw [renL_length]; exact h3) h4
  | _, _, .pe h2 h3 h6 h7 => .pe (m.N _ h2 h3) (m.heap ▸ h3) (m.heap ▸ h6) (VRs.ren m h7)
  | _, _, .pnil => .pnil
  | _, _, .map h1 h2 => .map (m.H _ _ h1) ((m.φ _ _ h1).trans h2)
  | _, _, .mnil => .mnil
  | _, _, .mold r h1 => .mold r (m.H _ _ h1)
  | _, _, .fn h => .fn (VRs.ren m h)
  | _, _, .fnil => .fnil
  | _, _, .ifc h => .ifc (VR.ren m h)
  | _, _, .inil => .inil
  | _, _, .raw v => .raw v
theorem VRs.ren {ρ : Nat → Nat} {E' E : Env} (m : Emb ρ E' E) : ∀ {ds : List D} {vs : List Value}, VRs E' ds vs → VRs E (renL ρ ds) vs
  | _, _, .nil => .nil
  | _, _, .cons h t => .cons (VR.ren m h) (VRs.ren m t)
end

/-- And back. -/
structure Une (k : Nat) (ρ : Nat → Nat) (E' E : Env) : Prop where
  heap : E.heap = E'.heap
  N : ∀ b, ¬ E.N b → b < E.heap.size → ¬ E'.N b
  H : ∀ (i : Nat) ob', i < k → E.H[ρ i]? = some ob' → ∃ ob, E'.H[i]? = some ob ∧ ob' = renO ρ ob
  φ : ∀ (i : Nat), i < k → E.φ[ρ i]? = E'.φ[i]?

mutual
theorem VR.une {k : Nat} {ρ : Nat → Nat} {E' E : Env} (m : Une k ρ E' E) : ∀ {d' : D} {v : Value} (_ : VR E d' v) (d : D) (_ : d.sc k) (_ : d' = Go.A.ren ρ d), VR E' d v
  | _, _, .undef v, d, hs, e => by cases d <;> simp [Go.A.ren] at e; exact .undef v
  | _, _, .int k n, d, hs, e => by cases d <;> simp [Go.A.ren] at e; obtain ⟨rfl, rfl⟩ := e; exact .int k n
  | _, _, .bool b, d, hs, e => by cases d <;> simp [Go.A.ren] at e; subst e; exact .bool b
  | _, _, .str s, d, hs, e => by cases d <;> simp [Go.A.ren] at e; subst e; exact .str s
  | _, _, .agg h, d, hs, e => by
    cases d <;> simp [Go.A.ren] at e
    exact .agg (VRs.une m h _ hs e)
  | _, _, .tup h, d, hs, e => by
    cases d <;> simp [Go.A.ren] at e
    exact .tup (VRs.une m h _ hs e)
  | _, _, .sl0 a cap, d, hs, e => by
    cases d <;> simp [Go.A.ren] at e
    rename_i xs
    cases xs with
    | nil => exact .sl0 a cap
    | cons x l => simp [renL] at e
  | _, _, .sl (xs := xs) (vs := vs) h1 h2 h3 h4 h5 h6 h7, d, hs, e => by
    cases d <;> simp [Go.A.ren] at e
    rename_i ys
    have k := VRs.une m h7 (flat ys) (sc_flat hs) (by rw [e, ren_flat])
    subst e
    have := VR.sl (E := E') (xs := ys) (by rw [renL_length] at h1; exact h1) (m.N _ h2 h3) (m.heap ▸ h3) h4
      (fun x hx => by
        have := h5 (Go.A.ren ρ x) (by rw [renL_map]; exact List.mem_map_of_mem hx)
        rw [ren_cells, renL_length] at this
        exact this) (m.heap ▸ h6) k
    rw [renL_length]
    exact this
  | _, _, .nils, d, hs, e => by cases d <;> simp [Go.A.ren] at e; exact .nils
  | _, _, .hold a len cap h1 h2, d, hs, e => by
    cases d <;> simp [Go.A.ren] at e
    obtain ⟨rfl, rfl, rfl, rfl⟩ := e
    obtain ⟨ob, k1, rfl⟩ := m.H _ _ hs h1
    exact .hold a len cap k1 (renO_past.mp h2)
  | _, _, .hnil h1 h2, d, hs, e => by
    cases d <;> simp [Go.A.ren] at e
    obtain ⟨rfl, rfl, rfl, rfl⟩ := e
    obtain ⟨ob, k1, k2⟩ := m.H _ _ hs h1
    obtain ⟨rows0, rfl, k3⟩ := renO_arr k2.symm
    have : rows0 = [] := by
      have := renL_length ρ rows0
      rw [← k3] at this
      exact List.length_eq_zero_iff.mp this.symm
    subst this
    exact .hnil k1 ((m.φ _ hs).symm.trans h2)
  | _, _, .h (rows := rows) h1 h2 h3 h4 h5 h6 h7, d, hs, e => by
    cases d <;> simp [Go.A.ren] at e
    obtain ⟨rfl, rfl, rfl, rfl⟩ := e
    obtain ⟨ob, k1, k2⟩ := m.H _ _ hs h1
    obtain ⟨rows0, rfl, rfl⟩ := renO_arr k2.symm
    exact .h k1 ((m.φ _ hs).symm.trans h2) (by rw [renL_length] at h3; exact h3) h4 (m.heap ▸ h5) h6 h7
  | _, _, .pold a h1 h2, d, hs, e => by
    cases d <;> simp [Go.A.ren] at e
    obtain ⟨rfl, rfl, rfl, rfl⟩ := e
    obtain ⟨ob, k1, rfl⟩ := m.H _ _ hs h1
    exact .pold a k1 (renO_past.mp h2)
  | _, _, .p (rows := rows) h1 h2 h3 h4, d, hs, e => by
    cases d <;> simp [Go.A.ren] at e
    obtain ⟨rfl, rfl, rfl, rfl⟩ := e
    obtain ⟨ob, k1, k2⟩ := m.H _ _ hs h1
    obtain ⟨rows0, rfl, rfl⟩ := renO_arr k2.symm
    exact .p k1 ((m.φ _ hs).symm.trans h2) (by rw [renL_length] at h3; exact h3) h4
  | _, _, .pe h2 h3 h6 h7, d, hs, e => by
    cases d <;> simp [Go.A.ren] at e
    exact .pe (m.N _ h2 h3) (m.heap ▸ h3) (m.heap ▸ h6) (VRs.une m h7 _ hs e)
  | _, _, .pnil, d, hs, e => by cases d <;> simp [Go.A.ren] at e; exact .pnil
  | _, _, .map h1 h2, d, hs, e => by
    cases d <;> simp [Go.A.ren] at e
    subst e
    obtain ⟨ob, k1, k2⟩ := m.H _ _ hs h1
    obtain ⟨es0, rfl, k3⟩ := renO_map k2.symm
    exact .map k1 ((m.φ _ hs).symm.trans h2)
  | _, _, .mnil, d, hs, e => by cases d <;> simp [Go.A.ren] at e; exact .mnil
  | _, _, .mold r h1, d, hs, e => by
    cases d <;> simp [Go.A.ren] at e
    subst e
    obtain ⟨ob, k1, k2⟩ := m.H _ _ hs h1
    obtain rfl := renO_gone k2.symm
    exact .mold r k1
  | _, _, .fn h, d, hs, e => by
    cases d <;> simp [Go.A.ren] at e
    have k := VRs.une m h _ hs e.2
    obtain ⟨rfl, e⟩ := e
    exact .fn k
  | _, _, .fnil, d, hs, e => by cases d <;> simp [Go.A.ren] at e; exact .fnil
  | _, _, .ifc h, d, hs, e => by
    cases d <;> simp [Go.A.ren] at e
    rename_i t2 d2
    have k := VR.une m h d2 hs e.2
    obtain ⟨rfl, e⟩ := e
    exact .ifc k
  | _, _, .inil, d, hs, e => by cases d <;> simp [Go.A.ren] at e; exact .inil
  | _, _, .raw v, d, hs, e => by cases d <;> simp [Go.A.ren] at e; subst e; exact .raw _
theorem VRs.une {k : Nat} {ρ : Nat → Nat} {E' E : Env} (m : Une k ρ E' E) : ∀ {ds' : List D} {vs : List Value} (_ : VRs E ds' vs) (ds : List D) (_ : scs k ds) (_ : ds' = renL ρ ds), VRs E' ds vs
  | _, _, .nil, ds, hs, e => by
    cases ds with
    | nil => exact .nil
    | cons x l => simp [renL] at e
  | _, _, .cons h t, ds, hs, e => by
    cases ds with
    | nil => simp [renL] at e
    | cons x l =>
      simp only [renL, List.cons.injEq] at e
      exact .cons (VR.une m h x hs.1 e.1) (VRs.une m t l hs.2 e.2)
end

end Go.A
