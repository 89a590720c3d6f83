/- A logic of abstract states, part 27: what is known less of. -/
import Derived.Test.YtgigpjkdfhhahaaA26
namespace Go.A
set_option linter.unusedVariables false
set_option linter.unusedSimpArgs false

mutual
/-- The second one says no more than the first one. -/
inductive Wk : D → D → Prop where
  | refl {d : D} : Wk d d
  | undef {d : D} : d.cells = [d] → Wk d .undef
  | nils : Wk .nils (.sl [])
  | sl {xs ys : List D} : Wl xs ys → Wk (.sl xs) (.sl ys)
  | agg {xs ys : List D} : Wks xs ys → Wk (.agg xs) (.agg ys)
  | tup {xs ys : List D} : Wks xs ys → Wk (.tup xs) (.tup ys)
inductive Wks : List D → List D → Prop where
  | nil : Wks [] []
  | cons {x y : D} {xs ys : List D} : Wk x y → Wks xs ys → Wks (x :: xs) (y :: ys)
inductive Wl : List D → List D → Prop where
  | nil : Wl [] []
  | cons {x y : D} {xs ys : List D} : Wks x.cells y.cells → Wl xs ys → Wl (x :: xs) (y :: ys)
end

theorem Wks.length : ∀ {xs ys : List D}, Wks xs ys → xs.length = ys.length
  | _, _, .nil => rfl
  | _, _, .cons _ h => by simp [Wks.length h]

theorem Wl.length : ∀ {xs ys : List D}, Wl xs ys → xs.length = ys.length
  | _, _, .nil => rfl
  | _, _, .cons _ h => by simp [Wl.length h]

theorem Wks.append : ∀ {xs ys us vs : List D}, Wks xs ys → Wks us vs → Wks (xs ++ us) (ys ++ vs)
  | _, _, _, _, .nil, h => h
  | _, _, _, _, .cons h1 h2, h => .cons h1 (h2.append h)

theorem Wl.flat : ∀ {xs ys : List D}, Wl xs ys → Wks (flat xs) (flat ys)
  | _, _, .nil => .nil
  | _, _, .cons h1 h2 => h1.append h2.flat

theorem Wl.all {sz : Nat} : ∀ {xs ys : List D}, Wl xs ys → (∀ x ∈ xs, x.cells.length = sz) → ∀ y ∈ ys, y.cells.length = sz
  | _, _, .nil, _, y, hy => by simp at hy
  | _, _, .cons h1 h2, h, y, hy => by
    rcases List.mem_cons.mp hy with rfl | hy
    · rw [← h1.length]; exact h _ (by simp)
    · exact h2.all (fun x hx => h x (by simp [hx])) y hy

mutual
theorem Wk.vr {E : Env} : ∀ {v : Value} {d d' : D}, Wk d d' → VR E d v → VR E d' v
  | _, _, _, .refl, h => h
  | _, _, _, .undef _, _ => .undef _
  | _, _, _, .nils, .nils => .sl0 _ _
  | _, _, _, .sl hl, .sl0 a c => by
    cases hl
    exact .sl0 a c
  | _, _, _, .sl (ys := ys) hl, .sl h1 h2 h3 h4 h5 h6 h7 => by
    rw [hl.length]
    exact .sl (hl.length ▸ h1) h2 h3 h4 (hl.all h5) h6 (Wks.vr hl.flat h7)
  | _, _, _, .agg h, .agg k => .agg (Wks.vr h k)
  | _, _, _, .tup h, .tup k => .tup (Wks.vr h k)
theorem Wks.vr {E : Env} : ∀ {vs : List Value} {ds ds' : List D}, Wks ds ds' → VRs E ds vs → VRs E ds' vs
  | _, _, _, .nil, .nil => .nil
  | _, _, _, .cons h1 h2, .cons k1 k2 => .cons (Wk.vr h1 k1) (Wks.vr h2 k2)
end

theorem Wks.refl : ∀ {l : List D}, Wks l l
  | [] => .nil
  | _ :: _ => .cons .refl Wks.refl

theorem Wl.refl : ∀ {l : List D}, Wl l l
  | [] => .nil
  | _ :: _ => .cons Wks.refl Wl.refl

theorem CallsIn.wk {P : Program} {f : FuncId} {args args' : List D} {H : List AObj} {R : D → List AObj → Prop} (h : CallsIn P f args' H R) (hw : Wks args args') : CallsIn P f args H R :=
  CallsIn.mk' h.fok fun C φ w cargs g hv => h.run C g (hw.vr hv)

theorem Pure.wk {P : Program} {f : FuncId} {args args' : List D} {r : D} (h : Pure P f args' r) (hw : Wks args args') : Pure P f args r := fun H => (h H).wk hw

theorem CallsIn.wkr {P : Program} {f : FuncId} {args : List D} {H : List AObj} {R R' : D → List AObj → Prop} (h : CallsIn P f args H R) (hr : ∀ r H', R r H' → ∃ r', Wk r r' ∧ R' r' H') : CallsIn P f args H R' :=
  CallsIn.mk' h.fok fun C φ w cargs g hv => (h.run C g hv).mono fun e w' ⟨r, v, H', φ', e1, e2, e3, e4, e5⟩ => by
    obtain ⟨r', h1, h2⟩ := hr r H' e2
    exact ⟨r', v, H', φ', e1, h2, e3, e4, h1.vr e5⟩

theorem Pure.wkr {P : Program} {f : FuncId} {args : List D} {r r' : D} (h : Pure P f args r) (hw : Wk r r') : Pure P f args r' := fun H => (h H).wkr fun r1 H' ⟨e1, e2⟩ => ⟨r', e1 ▸ hw, rfl, e2⟩

end Go.A
