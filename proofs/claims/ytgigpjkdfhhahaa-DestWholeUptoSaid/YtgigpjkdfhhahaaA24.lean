/- A logic of abstract states, part 24: structs among what a law is handed; a law's answer. -/
import Derived.Test.YtgigpjkdfhhahaaA23
import Derived.Below
namespace Go.A
set_option linter.unusedVariables false
set_option linter.unusedSimpArgs false

variable {P : Program}

theorem IsA.conv {t : TypeId} {X Y : Type} {enc : X → List D} {ok : X → Prop} (h : IsA P t enc ok) (enc' : Y → List D) (ok' : Y → Prop) (f : X → Y) (h1 : ∀ x, ok x → enc' (f x) = enc x) (h2 : ∀ x, ok x → ok' (f x))
    (ho : ∀ y, (enc' y).all D.one = true) (hl : ∀ y, (enc' y).length = P.cellsOf t) : IsA P t enc' ok' where
  one := ho
  len := hl
  out := fun encH W base spare held fuel cs d ps E hE hN hr hw => by
    obtain ⟨x, k1, k2⟩ := h.out encH W base spare held fuel cs d ps E hE hN hr hw
    exact ⟨f x, h2 x k1, by rw [h1 x k1]; exact k2⟩

theorem IsA.nat {t : TypeId} {td : TD} (h : TDOk P t td) {k : IntKind} (hk : td.k = .int k) (hs : td.size = 1) (hmin : k.min = 0) : IsA P t (fun n : Nat => [.int k n]) (fun n => (n : Int) ≤ k.max) :=
  (IsA.int h hk hs).conv _ _ Int.toNat (fun x hx => by rw [hmin] at hx; simp only [Int.toNat_of_nonneg hx.1]) (fun x hx => by rw [hmin] at hx; rw [Int.toNat_of_nonneg hx.1]; exact hx.2)
    (fun _ => rfl) (fun _ => by rw [h.cellsOf, hs]; rfl)

/-- Fields in their order, from a place on. -/
structure IsF (P : Program) (off tot : Nat) (fs : List Field) {X : Type} (enc : X → List D) (ok : X → Prop) : Prop where
  one : ∀ x, (enc x).all D.one = true
  len : ∀ x, (enc x).length = tot
  out : ∀ {H : Type} (encH : TypeId × Value → H) (W : World) (base : Nat) (spare : Nat → Bool) (held : Bool) (n : Nat) (cs : List Value) (xs : List (DataW H × List MemPlace)) (E : Env), E.heap = W.heap → (∀ b, ¬ E.N b) →
    xs.length = fs.length → (∀ (i : Nat) f, fs[i]? = some f → DataW.trod encH P W base spare held n f.type ((cs.drop f.offset).take (P.cellsOf f.type)) = xs[i]?) →
    (∀ q ∈ DataW.weightsEach P (fs.map (·.type)) (xs.map (·.1)), q ≤ reachBytes) → ∃ x, ok x ∧ VRs E (enc x) ((cs.drop off).take tot)

theorem IsF.nil {off : Nat} : IsF P off 0 [] (fun _ : Unit => []) (fun _ => True) where
  one := fun _ => rfl
  len := fun _ => rfl
  out := fun encH W base spare held n cs xs E hE hN hl h hw => ⟨(), trivial, by simp only [List.take_zero]; exact .nil⟩

theorem IsF.cons {off tot : Nat} {f : Field} {fs : List Field} {X Y : Type} {e1 : X → List D} {o1 : X → Prop} {e2 : Y → List D} {o2 : Y → Prop} (hoff : f.offset = off) (sz : Nat) (hsz : P.cellsOf f.type = sz) (h1 : IsA P f.type e1 o1)
    (h2 : IsF P (off + sz) tot fs e2 o2) : IsF P off (sz + tot) (f :: fs) (fun x : X × Y => e1 x.1 ++ e2 x.2) (fun x => o1 x.1 ∧ o2 x.2) where
  one := fun x => by rw [List.all_append, h1.one, h2.one]; rfl
  len := fun x => by rw [List.length_append, h1.len, h2.len, hsz]
  out := fun {H} encH W base spare held n cs xs E hE hN hl h hw => by
    cases xs with
    | nil => simp at hl
    | cons x0 xs =>
      have k1 := h 0 f rfl
      simp only [List.getElem?_cons_zero] at k1
      rw [hoff, hsz] at k1
      obtain ⟨x, a1, a2⟩ := h1.out encH W base spare held n _ x0.1 x0.2 E hE hN k1 (fun q hq => hw q (by simp only [List.map_cons, DataW.weightsEach, List.mem_append]; exact .inl hq))
      obtain ⟨y, b1, b2⟩ := h2.out encH W base spare held n cs xs E hE hN (by simpa using hl) (fun i g hg => by simpa using h (i + 1) g (by simpa using hg))
        (fun q hq => hw q (by simp only [List.map_cons, DataW.weightsEach, List.mem_append]; exact .inr hq))
      refine ⟨(x, y), ⟨a1, b1⟩, ?_⟩
      have e : (cs.drop off).take (sz + tot) = (cs.drop off).take sz ++ (cs.drop (off + sz)).take tot := by
        rw [List.take_add, List.drop_drop]
      rw [e]
      exact a2.append b2

theorem IsA.struct {t : TypeId} {fs : Array Field} {tot : Nat} (ht : P.underlying t = some (.struct fs)) (hc : P.cellsOf t = tot) {X : Type} {enc : X → List D} {ok : X → Prop} (h : IsF P 0 tot fs.toList enc ok) : IsA P t enc ok where
  one := h.one
  len := fun x => by rw [h.len, hc]
  out := fun encH W base spare held fuel cs d ps E hE hN hr hw => by
    obtain ⟨xs, n, rfl, hx, hl, hxl, hel⟩ := DataW.trod_struct ht hr
    cases hx
    obtain ⟨x, k1, k2⟩ := h.out encH W base spare held n cs xs E hE hN (by simpa using hxl) (fun i f hf => hel i f (by simpa using hf)) (by simpa [DataW.weights, ht] using hw)
    refine ⟨x, k1, ?_⟩
    have : (cs.drop 0).take tot = cs := by rw [List.drop_zero]; exact List.take_of_length_le (by omega)
    rw [this] at k2
    exact k2

def C1 (W : World) : Ctx := ⟨fun _ => False, [], [], W, none, 0⟩

theorem C1_N (W : World) (b : Nat) : ¬ ((C1 W).env [] [] W).N b := by
  rintro (⟨_, h⟩ | ⟨_, o, ob, h, _⟩)
  · exact h
  · simp at h

theorem C1_G (W : World) : G (C1 W) [] [] W where
  objs := ⟨rfl, fun o ob h => by simp [Ctx.env] at h, fun o o' b ob ob' h => by simp [Ctx.env] at h⟩
  size := Nat.le_refl _
  same := fun _ _ _ => rfl
  own := fun o b ob h => by simp at h
  world := .refl W
  n0 := fun b ⟨o, ob, h, _⟩ => by simp [C1] at h
  hlen := Nat.le_refl _
  ext := by
    have : (C1 W).env0 = (C1 W).env [] [] W := by
      simp only [Ctx.env0, Ctx.env]
      congr 1
      funext b
      apply propext
      exact ⟨fun h => h.elim, fun h => (C1_N W b h).elim⟩
    rw [this]
    exact .refl _

theorem law_calls {f : FuncId} {W : World} {args : Array Value} {ds : List D} (hv : VRs ((C1 W).env [] [] W) ds args.toList) (h : CallsIn P f ds [] fun r _ => r = .bool true) :
    Calls P f args W fun e W' => e = .returned (.bool true) ∧ RowKit.Below W.heap.size W W' := by
  refine (h.run (C1 W) (C1_G W) hv).mono ?_
  rintro e w' ⟨r, v, H', φ', rfl, rfl, g, x, hr⟩
  cases hr
  refine ⟨rfl, g.world.os, g.world.tape, g.world.output, g.size, fun k hk => ?_⟩
  exact g.same k hk fun ⟨o, ob, h, _⟩ => by simp [C1] at h

theorem arg1 {E : Env} {d : D} {v : Value} (h : VRs E [d] v.cells.toList) (hc : v.cells = #[v]) : VR E d v := by
  rw [hc] at h
  cases h with
  | cons h1 _ => exact h1

theorem IsA.arg {t : TypeId} {X : Type} {enc : X → List D} {ok : X → Prop} (h : IsA P t enc ok) {H : Type} {encH : TypeId × Value → H} {W : World} {v : Value} {d : DataW H} {ps : List MemPlace} {base : Nat} {spare : Nat → Bool} {held : Bool}
    (hr : DataW.Trod encH P W base spare held t v d ps) {ts : List TypeId} {ds : List (DataW H)} {j : Nat} (hsz : (DataW.weightsEach P ts ds).all (· ≤ reachBytes) = true) (h1 : ts[j]? = some t) (h2 : ds[j]? = some d) :
    ∃ x, ok x ∧ VRs ((C1 W).env [] [] W) (enc x) v.cells.toList := by
  obtain ⟨fuel, hf⟩ := hr
  refine h.out encH W base spare held fuel _ d ps _ rfl (C1_N W) hf fun n hn => ?_
  have := List.all_eq_true.mp hsz n (DataW.weights_mem_each h1 h2 n hn)
  simpa using this

end Go.A
