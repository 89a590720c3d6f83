/- A logic of abstract states, part 25: calls that turn nothing. -/
import Derived.Test.YtgigpjkdfhhahaaA24
namespace Go.A
set_option linter.unusedVariables false
set_option linter.unusedSimpArgs false

mutual
theorem ren_sc0 (ρ : Nat → Nat) : ∀ (d : D), d.sc 0 → ren ρ d = d
  | .undef, _ => rfl
  | .int k n, _ => rfl
  | .bool b, _ => rfl
  | .str s, _ => rfl
  | .agg cs, h => by simp only [ren, renL_sc0 ρ cs h]
  | .tup cs, h => by simp only [ren, renL_sc0 ρ cs h]
  | .sl xs, h => by simp only [ren, renL_sc0 ρ xs h]
  | .nils, _ => rfl
  | .h o ver i n, h => by simp [D.sc] at h
  | .p o ver i j, h => by simp [D.sc] at h
  | .pe cs, h => by simp only [ren, renL_sc0 ρ cs h]
  | .pnil, _ => rfl
  | .map o, h => by simp [D.sc] at h
  | .mnil, _ => rfl
  | .fn f caps, h => by simp only [ren, renL_sc0 ρ caps h]
  | .fnil, _ => rfl
  | .ifc t v, h => by simp only [ren, ren_sc0 ρ v h]
  | .inil, _ => rfl
  | .raw v, _ => rfl
theorem renL_sc0 (ρ : Nat → Nat) : ∀ (l : List D), scs 0 l → renL ρ l = l
  | [], _ => rfl
  | d :: ds, h => by simp only [renL, ren_sc0 ρ d h.1, renL_sc0 ρ ds h.2]
end

/-- A call that turns nothing, and what it answers. -/
def Pure (P : Program) (f : FuncId) (args : List D) (r : D) : Prop := ∀ H, CallsIn P f args H fun r' H' => r' = r ∧ H' = H

theorem Pure.of {P : Program} {f : FuncId} {args : List D} {r : D} (ha : scs 0 args) (hr : r.sc 0) (h : CallsIn P f args [] fun r' _ => r' = r) : Pure P f args r := fun H => by
  have h0 : CallsIn P f args [] fun r' H' => r' = r ∧ H' = [] := CallsIn.ghost (h.mono fun r' H' e => ⟨r', H'.take 0, Ghost.drop (Nat.le_refl 0) ⟨e ▸ hr, trivial⟩ (fun ob hob => by simp at hob), e, by simp⟩)
  have h1 := h0.lift (H := H) [] rfl (by simp) (fun i o ob h => by simp at h) ha (fun ob hob => by simp at hob)
  rw [renL_sc0 _ _ ha] at h1
  refine h1.mono ?_
  rintro r' H' ⟨r0, H0, ⟨rfl, rfl⟩, _, rfl, rfl⟩
  exact ⟨ren_sc0 _ _ hr, by simp [place, upds]⟩

theorem Pure.call {P : Program} {f : FuncId} {args : List D} {r : D} (h : Pure P f args r) {H : List AObj} {K : D → List AObj → Prop} (hk : K r H) : CallsIn P f args H K :=
  (h H).mono fun r' H' ⟨e1, e2⟩ => by subst e1 e2; exact hk

theorem Pure.loc {P : Program} {f : FuncId} {args : List D} {r : D} (h : Pure P f args r) {H : List AObj} : CallsLoc P f args H r [] [] where
  sub := fun o ho => by simp [dom] at ho
  inr := fun o ho => by simp at ho
  calls := fun H' _ => (h H').mono fun r' H'' ⟨e1, e2⟩ => ⟨e1, e2⟩

theorem Pure.locK {P : Program} {f : FuncId} {args : List D} {r : D} (h : Pure P f args r) {H : List AObj} {bx : List Bool} {X : D → List Nat → List (Nat × AObj) → List AObj → List Bool → Prop} (hx : X r [] [] H bx) : LocK P f args H bx X :=
  ⟨.inl ⟨r, [], [], h.loc, hx⟩⟩

theorem scs_map {X : Type} {k : Nat} {f : X → D} {l : List X} : scs k (l.map f) ↔ ∀ x ∈ l, (f x).sc k := by
  rw [scs_iff]
  simp

/-- What is answered, straight. -/
theorem okRows_one {sz : Nat} {y : D} (h1 : y.cells.length = sz) (h2 : y.cells.all D.one = true) : okRows sz [y] := fun x hx => by
  simp at hx; subst hx; exact ⟨h1, h2⟩

theorem okRows_map {X : Type} {sz : Nat} {f : X → D} {l : List X} (h : ∀ x ∈ l, (f x).cells.length = sz ∧ (f x).cells.all D.one = true) : okRows sz (l.map f) := fun y hy => by
  obtain ⟨x, hx, rfl⟩ := List.mem_map.mp hy
  exact h x hx

end Go.A
