/- A logic of abstract states, part 23: what a law is handed, as data; and what it answers. -/
import Derived.Test.YtgigpjkdfhhahaaA22
import Derived.Deep.Slices
import Derived.SizedLaws
import Derived.WideShapes
import Derived.ChangeOld
namespace Go.A
set_option linter.unusedVariables false
set_option linter.unusedSimpArgs false

/-- What is read at a type is such data. -/
structure IsA (P : Program) (t : TypeId) {X : Type} (enc : X → List D) (ok : X → Prop) : Prop where
  one : ∀ x, (enc x).all D.one = true
  len : ∀ x, (enc x).length = P.cellsOf t
  out : ∀ {H : Type} (encH : TypeId × Value → H) (W : World) (base : Nat) (spare : Nat → Bool) (held : Bool) (fuel : Nat) (cs : List Value) (d : DataW H) (ps : List MemPlace) (E : Env), E.heap = W.heap → (∀ b, ¬ E.N b) →
    DataW.trod encH P W base spare held fuel t cs = some (d, ps) → (∀ n ∈ d.weights P t, n ≤ reachBytes) → ∃ x, ok x ∧ VRs E (enc x) cs

variable {P : Program}

theorem TDOk.cellsOf {t : TypeId} {td : TD} (h : TDOk P t td) : P.cellsOf t = td.size := by
  obtain ⟨i, z, h1, h2, _⟩ := h.info
  simp [Program.cellsOf, h1, h2]

theorem TDOk.bytesOf {t : TypeId} {td : TD} (h : TDOk P t td) : P.bytesOf t = td.bytes := by
  obtain ⟨i, z, h1, _, h2, _⟩ := h.info
  simp [Program.bytesOf, h1, h2]

theorem IsA.int {t : TypeId} {td : TD} (h : TDOk P t td) {k : IntKind} (hk : td.k = .int k) (hs : td.size = 1) : IsA P t (fun n : Int => [.int k n]) (fun n => k.min ≤ n ∧ n ≤ k.max) where
  one := fun x => rfl
  len := fun x => by rw [h.cellsOf, hs]; rfl
  out := fun encH W base spare held fuel cs d ps E hE hN hr hw => by
    obtain ⟨n, rfl, hx, hwf⟩ := DataW.trod_int (h.int hk) hr
    simp only [Lit.wf, Bool.and_eq_true, decide_eq_true_eq] at hwf
    exact ⟨n, hwf, .cons (.int k n) .nil⟩

theorem IsA.bool {t : TypeId} {td : TD} (h : TDOk P t td) (hk : td.k = .bool) (hs : td.size = 1) : IsA P t (fun b : Bool => [.bool b]) (fun _ => True) where
  one := fun x => rfl
  len := fun x => by rw [h.cellsOf, hs]; rfl
  out := fun encH W base spare held fuel cs d ps E hE hN hr hw => by
    obtain ⟨b, rfl, hx⟩ := DataW.trod_bool (h.bool hk) hr
    exact ⟨b, trivial, .cons (.bool b) .nil⟩

theorem IsA.str {t : TypeId} {td : TD} (h : TDOk P t td) (hk : td.k = .string) (hs : td.size = 1) : IsA P t (fun s : ByteArray => [.str s]) (fun s => s.size ≤ 140737488351232) where
  one := fun x => rfl
  len := fun x => by rw [h.cellsOf, hs]; rfl
  out := fun encH W base spare held fuel cs d ps E hE hN hr hw => by
    obtain ⟨s, rfl, hx, hl⟩ := DataW.trod_string (h.string hk) hr
    cases hx
    refine ⟨s, ?_, .cons (.str s) .nil⟩
    have := hw s.data.toList.length (by simp [DataW.weights])
    have e : reachBytes = 140737488351232 := rfl
    simp at this
    rw [e] at this
    exact this

theorem mapM_cell {W : World} {a : Addr} {cs : List Value} {n : Nat} (h : (List.range n).mapM (fun i => W.cell? (a.add i)) = some cs) : cs.length = n ∧ ∀ (i : Nat) v, cs[i]? = some v → W.cell? (a.add i) = some v := by
  refine ⟨by simpa using mapM_some_length h, fun i v hv => ?_⟩
  have hi : i < n := by
    have := (List.getElem?_eq_some_iff.mp hv).1
    have e := mapM_some_length h
    simp at e
    omega
  have := mapM_some_get h i i (by simp [hi])
  rw [this]; exact hv

theorem cell_some {W : World} {a : Addr} {v : Value} (h : W.cell? a = some v) : a.spot = none ∧ ∃ c e fz, W.heap[a.block]? = some (Obj.cells c e fz) ∧ c[a.off]? = some v := by
  unfold World.cell? at h
  split at h
  · rename_i c e fz hc
    split at h
    · cases h
    · rename_i hs
      exact ⟨by simpa using hs, c, e, fz, hc, h⟩
  · cases h

theorem flat_rows {X : Type} {enc : X → List D} (h1 : ∀ x, (enc x).all D.one = true) : ∀ xs : List X, flat (xs.map fun x => mkRow (enc x)) = (xs.map enc).flatten
  | [] => rfl
  | x :: xs => by
    simp only [List.map_cons, flat, mkRow_cells (h1 x), List.flatten_cons]
    rw [flat_rows h1 xs]

theorem IsA.slice {T : Tab} {t e : TypeId} {td te : TD} (h : TDOk P t td) (hk : td.k = .slice e) (hs : td.size = 1) (he : TDOk P e te) (hes : 0 < te.size) {X : Type} {enc : X → List D} {ok : X → Prop} (hX : IsA P e enc ok) :
    IsA P t (fun xs : List X => [.sl (xs.map fun x => mkRow (enc x))]) (fun xs => (∀ x ∈ xs, ok x) ∧ xs.length * te.bytes ≤ 140737488351232) where
  one := fun x => rfl
  len := fun x => by rw [h.cellsOf, hs]; rfl
  out := fun {H} encH W base spare held fuel cs d ps E hE hN hr hw => by
    rcases Deep.open_slice (h.slice hk) hr with ⟨rfl, hx⟩ | ⟨a, len, cap, m, n, Dn, Pl, rfl, hb, hlc, hcm, hm, hx, hel⟩
    · exact ⟨[], ⟨fun x hx => by simp at hx, by simp⟩, .cons (.sl0 none 0) .nil⟩
    · cases hx
      have hlm : len ≤ m := by rw [hm]; split <;> omega
      have ebytes : reachBytes = 140737488351232 := rfl
      have hwl : len * te.bytes ≤ 140737488351232 := by
        have := hw (((List.range len).map Dn).length * P.bytesOf e + ((List.range (m - len)).map fun j => Dn (len + j)).length * P.bytesOf e) (by
          simp only [DataW.weights, h.slice hk]
          rw [← Nat.add_mul]
          exact List.mem_cons_self ..)
        rw [ebytes, he.bytesOf] at this
        simp at this
        omega
      have hwe : ∀ i, i < len → ∀ q ∈ (Dn i).weights P e, q ≤ reachBytes := fun i hi q hq => hw q (by
        simp only [DataW.weights, h.slice hk, List.mem_cons, List.mem_append]
        right; left
        have : ∀ (l : List (DataW H)) (x : DataW H), x ∈ l → ∀ q ∈ x.weights P e, q ∈ DataW.weightsAll P e l := fun l => by
          induction l with
          | nil => intro x hx; simp at hx
          | cons y l ih =>
            intro x hx q hq
            simp only [DataW.weightsAll, List.mem_append]
            rcases List.mem_cons.mp hx with rfl | hx
            · exact .inl hq
            · exact .inr (ih x hx q hq)
        exact this _ (Dn i) (List.mem_map.mpr ⟨i, by simpa using hi, rfl⟩) q hq)
      have hall : ∀ k, k ≤ len → ∃ (xs : List X) (vs : List Value), xs.length = k ∧ (∀ x ∈ xs, ok x) ∧ VRs E (xs.map enc).flatten vs ∧ vs.length = k * te.size ∧ ∀ (j : Nat) v, vs[j]? = some v → W.cell? (a.add j) = some v := fun k => by
        induction k with
        | zero => exact fun _ => ⟨[], [], rfl, fun x hx => by simp at hx, .nil, by simp, fun j v hj => by simp at hj⟩
        | succ k ih =>
          intro hk1
          obtain ⟨xs, vs, h1, h2, h3, h4, h5⟩ := ih (by omega)
          obtain ⟨cs', c1, c2⟩ := hel k (by omega)
          obtain ⟨x, x1, x2⟩ := hX.out encH W base spare held n cs' (Dn k) (Pl k) E hE hN c2 (hwe k (by omega))
          have hcl : cs'.length = te.size := by
            have := x2.length
            rw [hX.len, he.cellsOf] at this
            exact this.symm
          unfold World.cells? at c1
          split at c1
          · obtain ⟨m1, m2⟩ := mapM_cell c1
            refine ⟨xs ++ [x], vs ++ cs', by simp [h1], fun y hy => ?_, ?_, ?_, fun j v hj => ?_⟩
            · rcases List.mem_append.mp hy with hy | hy
              · exact h2 y hy
              · simp at hy; subst hy; exact x1
            · simp only [List.map_append, List.map_cons, List.map_nil, List.flatten_append, List.flatten_cons, List.flatten_nil, List.append_nil]
              exact h3.append x2
            · rw [List.length_append, h4, hcl, Nat.add_mul]; omega
            · rcases Nat.lt_or_ge j vs.length with hj1 | hj1
              · rw [List.getElem?_append_left hj1] at hj
                exact h5 j v hj
              · rw [List.getElem?_append_right hj1] at hj
                have := m2 _ v hj
                rw [Deep.add_add, he.cellsOf] at this
                have e2 : k * te.size + (j - vs.length) = j := by omega
                rw [e2] at this
                exact this
          · cases c1
      obtain ⟨xs, vs, h1, h2, h3, h4, h5⟩ := hall len (Nat.le_refl _)
      refine ⟨xs, ⟨h2, by rw [h1]; exact hwl⟩, .cons ?_ .nil⟩
      rcases Nat.eq_zero_or_pos len with h0 | h0
      · subst h0
        have : xs = [] := List.length_eq_zero_iff.mp h1
        subst this
        exact .sl0 _ _
      · have hv0 : 0 < vs.length := by rw [h4]; exact Nat.mul_pos h0 hes
        obtain ⟨s1, c, ee, fz, s2, s3⟩ := cell_some (h5 0 _ (List.getElem?_eq_getElem hv0))
        rw [Addr.add_block] at s2
        have hsp : a.spot = none := by simpa [Go.Addr.add] using s1
        have := VR.sl (E := E) (xs := xs.map fun x => mkRow (enc x)) (a := a) (cap := cap) (sz := te.size) (vs := vs) (by simpa [h1] using hlc) (hN _)
          (by rw [hE]; exact (Array.getElem?_eq_some_iff.mp s2).1) hes
          (fun y hy => by
            obtain ⟨x, _, rfl⟩ := List.mem_map.mp hy
            rw [mkRow_cells (hX.one x), hX.len, he.cellsOf])
          ⟨hsp, c, ee, fz, by rw [hE]; exact s2, fun j v hj => by
            obtain ⟨q1, c', e', fz', q2, q3⟩ := cell_some (h5 j v hj)
            rw [Addr.add_block, s2] at q2
            cases q2
            have : (a.add j).off = a.off + j := by
              unfold Go.Addr.add
              split
              · rename_i hj0; subst hj0; rfl
              · first | rfl | simp [hsp]
            rw [this] at q3
            exact q3⟩
          (by rw [flat_rows hX.one]; exact h3)
        simpa [h1] using this

end Go.A
