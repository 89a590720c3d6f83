/- A logic of abstract states, part 35: arrays among what a law is handed. -/
import Derived.Test.YtgigpjkdfhhahaaA34
import Derived.ChangeArms
namespace Go.A
set_option linter.unusedVariables false
set_option linter.unusedSimpArgs false
variable {P : Program}

theorem weights_same {H : Type} (P : Program) (e : TypeId) : ∀ (ts : List TypeId) (ds : List (DataW H)), ts.length = ds.length → (∀ t ∈ ts, t = e) → DataW.weightsEach P ts ds = DataW.weightsAll P e ds
  | [], [], _, _ => rfl
  | [], _ :: _, h, _ => by simp at h
  | _ :: _, [], h, _ => by simp at h
  | t :: ts, d :: ds, h, ht => by
    obtain rfl := ht t List.mem_cons_self
    rw [DataW.weightsEach, DataW.weightsAll, weights_same P t ts ds (by simpa using h) (fun x hx => ht x (List.mem_cons_of_mem _ hx))]

theorem trodArr {H : Type} {enc : TypeId × Value → H} {w : World} {base : Nat} {spare : Nat → Bool} {held : Bool} {fuel : Nat} {t : TypeId} {cs : List Value} {x : DataW H × List MemPlace} {n : Nat} {e : TypeId} (ht : P.underlying t = some (.array n e)) (h : DataW.trod enc P w base spare held fuel t cs = some x) :
    ∃ (xs : List (DataW H × List MemPlace)) (m : Nat), fuel = m + 1 ∧ x = (.agg (xs.map (·.1)), xs.flatMap (·.2)) ∧ cs.length = P.cellsOf t ∧ xs.length = n ∧
      ∀ (i : Nat), i < n → DataW.trod enc P w base spare held m e ((cs.drop (i * P.cellsOf e)).take (P.cellsOf e)) = xs[i]? := by
  cases fuel with
  | zero => simp [DataW.trod] at h
  | succ m =>
    unfold DataW.trod at h
    rw [ht] at h
    split at h <;> simp_all
    obtain ⟨hl, xs, hp, hd⟩ := h
    exact ⟨xs, hd.symm, by simpa using mapM_some_length hp, fun i hi => mapM_some_get hp i i (by simp [hi])⟩

/-- An array: as a struct whose fields are its elements. -/
theorem IsA.array {t e : TypeId} {n tot : Nat} (fs : List Field) (ht : P.underlying t = some (.array n e)) (hc : P.cellsOf t = tot) (hl : fs.length = n) (hf : ∀ (i : Nat) f, fs[i]? = some f → f.type = e ∧ f.offset = i * P.cellsOf e) {X : Type} {enc : X → List D} {ok : X → Prop}
    (h : IsF P 0 tot fs enc ok) : IsA P t enc ok where
  one := h.one
  len := fun x => by rw [h.len, hc]
  out := fun encH W base spare held fuel cs d ps E hE hN hr hw => by
    obtain ⟨xs, m, rfl, hx, hcl, hxl, hel⟩ := trodArr ht hr
    cases hx
    obtain ⟨x, k1, k2⟩ := h.out encH W base spare held m cs xs E hE hN (by omega) (fun i f hi => by
      obtain ⟨q1, q2⟩ := hf i f hi
      rw [q1, q2]
      exact hel i (by have := (List.getElem?_eq_some_iff.mp hi).1; omega)) (by
      rw [weights_same P e _ _ (by simp; omega) (fun t1 h1 => by
        obtain ⟨f, hf1, rfl⟩ := List.mem_map.mp h1
        obtain ⟨i, hi⟩ := List.getElem?_of_mem hf1
        exact (hf i f hi).1)]
      simpa [DataW.weights, ht] using hw)
    refine ⟨x, k1, ?_⟩
    have : (cs.drop 0).take tot = cs := by rw [List.drop_zero]; exact List.take_of_length_le (by omega)
    rw [this] at k2
    exact k2

def fieldOf (t : TypeId) (off : Nat) : Field := { (default : Field) with type := t, offset := off }

theorem okWide_arrayA {t e : TypeId} {n : Nat} {w : World} {r : Reach} {base : Nat} {v : Value} (ht : P.underlying t = some (.array n e)) (h : Value.okWide P w r base t v) : ∃ cs, v = .agg cs ∧ cs.size = P.cellsOf t := by
  simp only [Value.okWide, ht] at h
  obtain ⟨cs, h1, h2, _⟩ := h
  exact ⟨cs, h1, h2⟩

/-- A call that answers a fresh owned slice within its answer, of what is owned, in a drawn region. -/
theorem OwnedR.seeL {P : Program} {f : FuncId} {args args' : List D} {r : Nat → Nat → D} {sz : Nat} {rows : List D} (h : OwnedR P f args' r sz rows) (hrn : ∀ k ver o, Rn k ver o rows.length (r k ver) (r o 1)) (F : List (Nat × AObj)) {H : List AObj} {bx : List Bool} (hF : ∀ x ∈ F, H[x.1]? = some x.2)
    (hs : ∀ n : Nat, Seess 0 (fun i => n + i) F args args') (hb : bares rows) (hbr : ∀ ver, (r 0 ver).bare) {X : D → List Nat → List (Nat × AObj) → List AObj → List Bool → Prop}
    (hx : lenK H 0 fun o => snocK H (.arr 1 sz rows) fun H' => bxK bx o (isP (r 0 0)) fun bx => X (r o 1) (o :: F.map Prod.fst) [(o, .arr 1 sz rows)] H' bx) : LocK P f args H bx X :=
  ⟨.inr ⟨sz, rows, r, F.map Prod.fst, {
    inr := fun o ho => by
      obtain ⟨x, hx, rfl⟩ := List.mem_map.mp ho
      exact (List.getElem?_eq_some_iff.mp (hF x hx)).1
    calls := fun H' o hH ho => CallsIn.mk' h.calls.fok fun C φ w cargs g hv => by
      have hsc := g.sc
      have h1 := h.see F (fun x hx => (hH _ (List.mem_map_of_mem hx)).trans (hF x hx)) (hs _) hb hbr (H := H')
      have h2 : CallsIn P f args H' fun r' H'' => r' = r o 1 ∧ H'' = H'.set o (.arr 1 sz rows) := CallsIn.ghost (h1.mono fun r' H'' ⟨ver, e3, e4⟩ => by
        subst e3 e4
        exact ⟨_, _, Ghost.moveAll (sz := sz) hsc ho h.row rfl (hrn H'.length ver o), rfl, rfl⟩)
      exact h2.run C g hv }, hx⟩⟩

/-- How long a slice that was handed is. -/
theorem VR.sl_len {E : Env} {xs : List D} {a : Option Addr} {len cap : Nat} (h : VR E (.sl xs) (.slice a len cap)) : xs.length ≤ len := by
  cases h with
  | sl0 => exact Nat.zero_le _
  | sl => exact Nat.le_refl _
theorem trod_len {P : Program} {H : Type} {enc : TypeId × Value → H} {W : World} {base : Nat} {spare : Nat → Bool} {held : Bool} {t e : TypeId} {a : Option Addr} {len cap : Nat} {d : DataW H} {ps : List MemPlace} (ht : P.underlying t = some (.slice e))
    (h : DataW.Trod enc P W base spare held t (.slice a len cap) d ps) : len = 0 ∨ ∃ el sp, d = .slice el sp ∧ el.length = len := by
  obtain ⟨fuel, hf⟩ := h
  rcases Deep.open_slice ht hf with ⟨h1, _⟩ | ⟨a', len', cap', m, n, Dn, Pl, h1, _, _, _, _, hx, _⟩
  · have : (Value.slice a len cap) = .slice none 0 0 := by simpa [Value.cells] using h1
    cases this; exact .inl rfl
  · have : (Value.slice a len cap) = .slice (some a') len' cap' := by simpa [Value.cells] using h1
    cases this; cases hx
    exact .inr ⟨_, _, rfl, by simp⟩

end Go.A
