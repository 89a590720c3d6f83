/- A logic of abstract states, part 28: what is owned, told otherwise. -/
import Derived.Test.YtgcllbcpdcfkmaaA27
namespace Go.A
set_option linter.unusedVariables false
set_option linter.unusedSimpArgs false

theorem G.reTell {C φ H w} (g : G C φ H w) {o ver sz : Nat} {rows rows' : List D} (ho : H[o]? = some (.arr ver sz rows)) (hl : rows'.length = rows.length)
    (hc : (∀ x ∈ rows, x.cells.length = sz) → ∀ x ∈ rows', x.cells.length = sz) (hr : ∀ vs, VRs (C.env φ H w) (flat rows) vs → VRs (C.env φ H w) (flat rows') vs) :
    G C φ (H.set o (.arr ver sz rows')) w ∧ Ext (C.env φ H w) (C.env φ (H.set o (.arr ver sz rows')) w) := by
  have hcl := g.objs.cl o _ ho
  rcases hcl with ⟨h1, h2⟩ | ⟨b, h1, h2, h3, h4, c, e, vs, h5, h6, h7⟩
  · subst h2
    have : rows' = [] := List.length_eq_zero_iff.mp hl
    subst this
    have : H.set o (.arr ver sz []) = H := by
      obtain ⟨k1, k2⟩ := List.getElem?_eq_some_iff.mp ho
      rw [← k2]; exact List.set_getElem_self k1
    rw [this]
    exact ⟨g, Ext.refl _⟩
  · exact g.reRow ho h1 (.inr ⟨rfl, hl⟩) ⟨rfl, rfl, rfl⟩ rfl h5 h5 rfl (fun _ _ => rfl) (hc h4) (hr vs h6) h7

mutual
/-- A nil slice, told as owned. -/
inductive Mt (k : Nat) : D → D → Prop where
  | refl {d : D} : Mt k d d
  | nil : Mt k .nils (.h k 0 0 0)
  | agg {xs ys : List D} : Mts k xs ys → Mt k (.agg xs) (.agg ys)
inductive Mts (k : Nat) : List D → List D → Prop where
  | nil : Mts k [] []
  | cons {x y : D} {xs ys : List D} : Mt k x y → Mts k xs ys → Mts k (x :: xs) (y :: ys)
end

theorem Mts.length {k : Nat} : ∀ {xs ys : List D}, Mts k xs ys → xs.length = ys.length
  | _, _, .nil => rfl
  | _, _, .cons _ h => by simp [Mts.length h]

theorem Mts.refl {k : Nat} : ∀ {l : List D}, Mts k l l
  | [] => .nil
  | _ :: _ => .cons .refl Mts.refl

theorem Mt.cells {k : Nat} : ∀ {x y : D}, Mt k x y → Mts k x.cells y.cells
  | _, _, .refl => Mts.refl
  | _, _, .nil => .cons .nil .nil
  | _, _, .agg h => h

theorem Mts.append {k : Nat} : ∀ {xs ys us vs : List D}, Mts k xs ys → Mts k us vs → Mts k (xs ++ us) (ys ++ vs)
  | _, _, _, _, .nil, h => h
  | _, _, _, _, .cons h1 h2, h => .cons h1 (h2.append h)

theorem Mts.flat {k : Nat} : ∀ {xs ys : List D}, Mts k xs ys → Mts k (flat xs) (flat ys)
  | _, _, .nil => .nil
  | _, _, .cons h1 h2 => h1.cells.append h2.flat

theorem Mts.all {k sz : Nat} : ∀ {xs ys : List D}, Mts k xs ys → (∀ x ∈ xs, x.cells.length = sz) → ∀ y ∈ ys, y.cells.length = sz
  | _, _, .nil, _, y, hy => by simp at hy
  | _, _, .cons h1 h2, h, y, hy => by
    rcases List.mem_cons.mp hy with rfl | hy
    · rw [← h1.cells.length]; exact h _ (by simp)
    · exact h2.all (fun x hx => h x (by simp [hx])) y hy

mutual
theorem Mt.vr {E : Env} {k sz : Nat} (h1 : E.H[k]? = some (.arr 0 sz [])) (h2 : E.φ[k]? = some none) : ∀ {v : Value} {d d' : D}, Mt k d d' → VR E d v → VR E d' v
  | _, _, _, .refl, h => h
  | _, _, _, .nil, .nils => .hnil h1 h2
  | _, _, _, .agg h, .agg q => .agg (Mts.vr h1 h2 h q)
theorem Mts.vr {E : Env} {k sz : Nat} (h1 : E.H[k]? = some (.arr 0 sz [])) (h2 : E.φ[k]? = some none) : ∀ {vs : List Value} {ds ds' : List D}, Mts k ds ds' → VRs E ds vs → VRs E ds' vs
  | _, _, _, .nil, .nil => .nil
  | _, _, _, .cons a b, .cons q1 q2 => .cons (Mt.vr h1 h2 a q1) (Mts.vr h1 h2 b q2)
end

/-- A nil slice within what is owned, told as owned. -/
theorem Ghost.matO {n o ver sz sz' : Nat} {rows rows' : List D} {s : List D} {H : List AObj} (ho : H[o]? = some (.arr ver sz rows)) (hm : Mts H.length rows rows') :
    Ghost n s H s (H.set o (.arr ver sz rows') ++ [.arr 0 sz' []]) := fun C φ w vs hn g hv => by
  obtain ⟨g1, x1⟩ := g.pushNil sz'
  have hl : φ.length = H.length := g.objs.len
  have hlt := (List.getElem?_eq_some_iff.mp ho).1
  have ho1 : (H ++ [AObj.arr 0 sz' []])[o]? = some (.arr ver sz rows) := by rw [List.getElem?_append_left hlt]; exact ho
  have k1 : (H ++ [AObj.arr 0 sz' []])[H.length]? = some (.arr 0 sz' []) := by simp
  have k2 : (φ ++ [none])[H.length]? = some none := by rw [← hl]; simp
  obtain ⟨g2, x2⟩ := g1.reTell ho1 hm.length.symm hm.all (fun vs hvs => Mts.vr (sz := sz') k1 k2 hm.flat hvs)
  rw [List.set_append_left _ _ hlt] at g2 x2
  exact ⟨_, g2, VRs.mono (x1.trans x2) hv⟩

theorem boolF_dec {p : Prop} [Decidable p] {X Y : Prop} (h1 : p → X) (h2 : ¬ p → Y) : boolF (decide p) X Y := boolF_split (fun h => h1 (by simpa using h)) (fun h => h2 (by simpa using h))
theorem boolF_dect {p : Prop} [Decidable p] {X Y : Prop} (h : p) (h1 : X) : boolF (decide p) X Y := boolF_t (by simpa using h) h1
theorem boolF_decf {p : Prop} [Decidable p] {X Y : Prop} (h : ¬ p) (h1 : Y) : boolF (decide p) X Y := boolF_f (by simpa using h) h1
theorem boolF_not {b : Bool} {X Y : Prop} (h : boolF b Y X) : boolF (!b) X Y := by cases b <;> exact h
theorem boolF_beq {a b : Int} {X Y : Prop} (h1 : a = b → X) (h2 : a ≠ b → Y) : boolF (a == b) X Y := boolF_split (fun h => h1 (by simpa using h)) (fun h => h2 (by simpa using h))
theorem boolF_bne {a b : Int} {X Y : Prop} (h1 : a ≠ b → X) (h2 : a = b → Y) : boolF (a != b) X Y := boolF_split (fun h => h1 (by simpa using h)) (fun h => h2 (by simpa using h))
theorem boolF_beqt {a b : Int} {X Y : Prop} (h : a = b) (h1 : X) : boolF (a == b) X Y := boolF_t (by simpa using h) h1
theorem boolF_beqf {a b : Int} {X Y : Prop} (h : a ≠ b) (h1 : Y) : boolF (a == b) X Y := boolF_f (by simpa using h) h1
theorem boolF_bnet {a b : Int} {X Y : Prop} (h : a ≠ b) (h1 : X) : boolF (a != b) X Y := boolF_t (by simpa using h) h1
theorem boolF_bnef {a b : Int} {X Y : Prop} (h : a = b) (h1 : Y) : boolF (a != b) X Y := boolF_f (by simpa using h) h1
theorem boolF_nbeq {a b : Nat} {X Y : Prop} (h1 : a = b → X) (h2 : a ≠ b → Y) : boolF (a == b) X Y := boolF_split (fun h => h1 (by simpa using h)) (fun h => h2 (by simpa using h))
theorem boolF_nbne {a b : Nat} {X Y : Prop} (h1 : a ≠ b → X) (h2 : a = b → Y) : boolF (a != b) X Y := boolF_split (fun h => h1 (by simpa using h)) (fun h => h2 (by simpa using h))
theorem boolF_nbeqt {a b : Nat} {X Y : Prop} (h : a = b) (h1 : X) : boolF (a == b) X Y := boolF_t (by simpa using h) h1
theorem boolF_nbeqf {a b : Nat} {X Y : Prop} (h : a ≠ b) (h1 : Y) : boolF (a == b) X Y := boolF_f (by simpa using h) h1
theorem boolF_nbnet {a b : Nat} {X Y : Prop} (h : a ≠ b) (h1 : X) : boolF (a != b) X Y := boolF_t (by simpa using h) h1
theorem boolF_nbnef {a b : Nat} {X Y : Prop} (h : a = b) (h1 : Y) : boolF (a != b) X Y := boolF_f (by simpa using h) h1

theorem bool_t {p : Prop} [Decidable p] (h : p) : D.bool true = D.bool (decide p) := by simp [h]
theorem bool_f {p : Prop} [Decidable p] (h : ¬ p) : D.bool false = D.bool (decide p) := by simp [h]
theorem bool_iff {p q : Prop} [Decidable p] [Decidable q] (h : p ↔ q) : D.bool (decide p) = D.bool (decide q) := by simp [h]
theorem bool_beq {p : Prop} [Decidable p] {a b : Int} (h : a = b ↔ p) : D.bool (a == b) = D.bool (decide p) := by
  congr 1; rw [Bool.eq_iff_iff, beq_iff_eq, decide_eq_true_iff]; exact h
theorem bool_bne {p : Prop} [Decidable p] {a b : Int} (h : a ≠ b ↔ p) : D.bool (a != b) = D.bool (decide p) := by
  congr 1; rw [Bool.eq_iff_iff, bne_iff_ne, decide_eq_true_iff]; exact h
theorem bool_not {p q : Prop} [Decidable p] [Decidable q] (h : ¬ p ↔ q) : D.bool (!decide p) = D.bool (decide q) := by
  congr 1; rw [Bool.eq_iff_iff]; simp [h]

theorem keepL_rel {E : Env} (L : List Nat) {s : List D} {vs : List Value} (h : VRs E s vs) : VRs E (keepL L 0 s) vs := keepL_ok L 0 h

/-- What is kept, and what is dropped. -/
theorem Ghost.back {n : Nat} (L : List Nat) (k : Nat) {s s1 : List D} {H H1 : List AObj} (hs : keepL L 0 s = s1) (hH : H.take k = H1) (hn : n ≤ k) (h1 : scs k s1) (h2 : ∀ ob ∈ H1, ob.sc k) : Ghost n s H s1 H1 := by
  subst hs hH
  exact (Ghost.keep L).trans (Ghost.drop hn h1 h2)

/-- What is kept. -/
theorem Ghost.hold {n : Nat} (L : List Nat) {s s1 : List D} {H H1 : List AObj} (h : (⟨keepL L 0 s, H⟩ : St) = ⟨s1, H1⟩) : Ghost n s H s1 H1 := by
  cases h
  exact Ghost.keep L

/-- A loop: each round leads to a state that is told so, and lowers a measure. -/
theorem W_loopG {P : Program} {n : Nat} {k : List Item} {s : St} {Q : Exit → St → Prop} {ι : Type} {c : Code} (S : ι → St) (μ : ι → Nat) (I : ι → Prop) (i0 : ι) (h0 : Ghost n s.slots s.H (S i0).slots (S i0).H) (hI : I i0)
    (round : ∀ i, I i → W P n (.code c :: .hyp (fun s' => ∃ j, Ghost n s'.slots s'.H (S j).slots (S j).H ∧ I j ∧ μ j < μ i) :: k) (S i) Q) : W P n (.code (.loop c) :: k) s Q := by
  refine W_ghost h0 ?_
  refine W.intro fun C φ a w hn hs => ?_
  refine wp_loop_ghost (fun n a w => ∃ i φ, SRel C φ (S i) a w ∧ I i ∧ μ i = n) (μ i0) ⟨i0, φ, hs, hI, rfl⟩ ?_
  rintro m a w ⟨i, φ, h1, h2, rfl⟩
  refine wp_mono (W.run (round i h2) hn h1) ?_
  intro e a w q
  cases e with
  | normal =>
    obtain ⟨s', φ', q1, j, q2, q3, q4⟩ := q
    obtain ⟨φ'', g', hv'⟩ := q2 C φ' w _ hn q1.g q1.slots
    exact ⟨μ j, q4, j, φ'', ⟨q1.defers, hv', g'⟩, q3, rfl⟩
  | _ => exact q

theorem Ghost.wk {n : Nat} {s s' : List D} {H : List AObj} (h : Wks s s') : Ghost n s H s' H := fun C φ w vs _ g hv => ⟨φ, g, h.vr hv⟩

/-- What was answered, told otherwise. -/
def Told (r : D) (H : List AObj) (r' : D) : Prop := ∃ H', Ghost 0 [r] H [r'] H'

theorem Told.refl {r : D} {H : List AObj} : Told r H r := ⟨H, Ghost.refl _ _ _⟩
theorem Told.eq {r r' : D} {H : List AObj} (h : r = r') : Told r H r' := h ▸ Told.refl
theorem Told.wk {r r' : D} {H : List AObj} (h : Wk r r') : Told r H r' := ⟨H, Ghost.wk (.cons h .nil)⟩
theorem Told.frz (o : Nat) {ver sz : Nat} {rows : List D} {r r' : D} {H : List AObj} (ho : H[o]? = some (.arr ver sz rows)) (h : Frz o ver rows r r') : Told r H r' := ⟨_, Ghost.freeze (Nat.zero_le _) ho (.cons h .nil)⟩
theorem Told.frz' (o : Nat) {ver sz : Nat} {rows : List D} {r r' r'' : D} {H : List AObj} (ho : H[o]? = some (.arr ver sz rows)) (h : Frz o ver rows r r') (k : Told r' (H.set o .gone) r'') : Told r H r'' := by
  obtain ⟨H', k⟩ := k
  exact ⟨H', (Ghost.freeze (Nat.zero_le _) ho (.cons h .nil)).trans k⟩
theorem Told.trans {r r' r'' : D} {H : List AObj} (h : Wk r r') (k : Told r' H r'') : Told r H r'' := by
  obtain ⟨H', k⟩ := k
  exact ⟨H', (Ghost.wk (.cons h .nil)).trans k⟩

theorem Pure.ofT {P : Program} {f : FuncId} {args : List D} {r : D} (ha : scs 0 args) (hr : r.sc 0) (h : CallsIn P f args [] fun r' H' => Told r' H' r) : Pure P f args r :=
  Pure.of ha hr (CallsIn.ghost (h.mono fun r' H' ⟨H'', k⟩ => ⟨r, H'', k, rfl⟩))

theorem imin {a b : Int} : min a b = if b < a then b else a := by split <;> omega
theorem imax {a b : Int} : max a b = if b > a then b else a := by split <;> omega
theorem all_take {α β : Type} {f : α → β} {l : List α} {n : Nat} (h : n = l.length) : l.map f = ((l.map f).drop 0).take n := by
  subst h; rw [List.drop_zero, List.take_of_length_le (by simp)]

theorem take_snoc {α : Type} {l : List α} {i : Nat} {x : α} (h : l[i]? = some x) : l.take (i + 1) = l.take i ++ [x] := by
  obtain ⟨h1, h2⟩ := List.getElem?_eq_some_iff.mp h
  subst h2
  exact List.take_succ_eq_append_getElem h1

end Go.A
