/- A logic of abstract states, part 28: what is owned, told otherwise. -/
import Derived.Test.YtgigpjkdfhhahaaA27
namespace Go.A
set_option linter.unusedVariables false
set_option linter.unusedSimpArgs false

theorem G.reTell {C φ H w} (g : G C φ H w) {o ver sz : Nat} {rows rows' : List D} (ho : H[o]? = some (.arr ver sz rows)) (hl : rows'.length = rows.length)
    (hc : (∀ x ∈ rows, x.cells.length = sz) → ∀ x ∈ rows', x.cells.length = sz) (hr : ∀ vs, VRs (C.env φ H w) (flat rows) vs → VRs (C.env φ H w) (flat rows') vs) :
    G C φ (H.set o (.arr ver sz rows')) w ∧ Ext (C.env φ H w) (C.env φ (H.set o (.arr ver sz rows')) w) := by
  have hcl := g.objs.cl o _ ho
  rcases hcl with ⟨h1, h2⟩ | ⟨b, h1, h2, h3, h4, c, e, vs, h5, h6, h7⟩
  · subst h2
    have : rows' = [] := List.length_eq_zero_iff.mp hl
    subst this
    have : H.set o (.arr ver sz []) = H := by
      obtain ⟨k1, k2⟩ := List.getElem?_eq_some_iff.mp ho
      rw [← k2]; exact List.set_getElem_self k1
    rw [this]
    exact ⟨g, Ext.refl _⟩
  · exact g.reRow ho h1 (.inr ⟨rfl, hl⟩) ⟨rfl, rfl, rfl, (by first | exact Nat.le_refl _ | exact Nat.le_succ _)⟩ rfl h5 h5 rfl (fun _ _ => rfl) (hc h4) (hr vs h6) h7

mutual
/-- A nil slice, told as owned. -/
inductive Mt (k : Nat) : D → D → Prop where
  | refl {d : D} : Mt k d d
  | nil : Mt k .nils (.h k 0 0 0)
  | agg {xs ys : List D} : Mts k xs ys → Mt k (.agg xs) (.agg ys)
  | tup {xs ys : List D} : Mts k xs ys → Mt k (.tup xs) (.tup ys)
inductive Mts (k : Nat) : List D → List D → Prop where
  | nil : Mts k [] []
  | cons {x y : D} {xs ys : List D} : Mt k x y → Mts k xs ys → Mts k (x :: xs) (y :: ys)
end

theorem Mts.length {k : Nat} : ∀ {xs ys : List D}, Mts k xs ys → xs.length = ys.length
  | _, _, .nil => rfl
  | _, _, .cons _ h => by simp [Mts.length h]

theorem Mts.refl {k : Nat} : ∀ {l : List D}, Mts k l l
  | [] => .nil
  | _ :: _ => .cons .refl Mts.refl

theorem Mt.cells {k : Nat} : ∀ {x y : D}, Mt k x y → Mts k x.cells y.cells
  | _, _, .refl => Mts.refl
  | _, _, .nil => .cons .nil .nil
  | _, _, .agg h => h
  | _, _, .tup h => .cons (.tup h) .nil

theorem Mts.append {k : Nat} : ∀ {xs ys us vs : List D}, Mts k xs ys → Mts k us vs → Mts k (xs ++ us) (ys ++ vs)
  | _, _, _, _, .nil, h => h
  | _, _, _, _, .cons h1 h2, h => .cons h1 (h2.append h)

theorem Mts.flat {k : Nat} : ∀ {xs ys : List D}, Mts k xs ys → Mts k (flat xs) (flat ys)
  | _, _, .nil => .nil
  | _, _, .cons h1 h2 => h1.cells.append h2.flat

theorem Mts.all {k sz : Nat} : ∀ {xs ys : List D}, Mts k xs ys → (∀ x ∈ xs, x.cells.length = sz) → ∀ y ∈ ys, y.cells.length = sz
  | _, _, .nil, _, y, hy => by simp at hy
  | _, _, .cons h1 h2, h, y, hy => by
    rcases List.mem_cons.mp hy with rfl | hy
    · rw [← h1.cells.length]; exact h _ (by simp)
    · exact h2.all (fun x hx => h x (by simp [hx])) y hy

mutual
theorem Mt.vr {E : Env} {k sz : Nat} (h1 : E.H[k]? = some (.arr 0 sz [])) (h2 : E.φ[k]? = some none) : ∀ {v : Value} {d d' : D}, Mt k d d' → VR E d v → VR E d' v
  | _, _, _, .refl, h => h
  | _, _, _, .nil, .nils => .hnil h1 h2
  | _, _, _, .agg h, .agg q => .agg (Mts.vr h1 h2 h q)
  | _, _, _, .tup h, .tup q => .tup (Mts.vr h1 h2 h q)
theorem Mts.vr {E : Env} {k sz : Nat} (h1 : E.H[k]? = some (.arr 0 sz [])) (h2 : E.φ[k]? = some none) : ∀ {vs : List Value} {ds ds' : List D}, Mts k ds ds' → VRs E ds vs → VRs E ds' vs
  | _, _, _, .nil, .nil => .nil
  | _, _, _, .cons a b, .cons q1 q2 => .cons (Mt.vr h1 h2 a q1) (Mts.vr h1 h2 b q2)
end

/-- A nil slice within what is owned, told as owned. -/
theorem Ghost.matO {n o ver sz sz' : Nat} {rows rows' : List D} {s : List D} {H : List AObj} (ho : H[o]? = some (.arr ver sz rows)) (hm : Mts H.length rows rows') :
    Ghost n s H s (H.set o (.arr ver sz rows') ++ [.arr 0 sz' []]) := fun C φ w vs hn g hv => by
  obtain ⟨g1, x1⟩ := g.pushNil sz'
  have hl : φ.length = H.length := g.objs.len
  have hlt := (List.getElem?_eq_some_iff.mp ho).1
  have ho1 : (H ++ [AObj.arr 0 sz' []])[o]? = some (.arr ver sz rows) := by rw [List.getElem?_append_left hlt]; exact ho
  have k1 : (H ++ [AObj.arr 0 sz' []])[H.length]? = some (.arr 0 sz' []) := by simp
  have k2 : (φ ++ [none])[H.length]? = some none := by rw [← hl]; simp
  obtain ⟨g2, x2⟩ := g1.reTell ho1 hm.length.symm hm.all (fun vs hvs => Mts.vr (sz := sz') k1 k2 hm.flat hvs)
  rw [List.set_append_left _ _ hlt] at g2 x2
  exact ⟨_, g2, VRs.mono (x1.trans x2) hv⟩

theorem set_selfL {α : Type} {l : List α} {t : Nat} {v : α} (h : l[t]? = some v) : l.set t v = l := by
  obtain ⟨h3, h4⟩ := List.getElem?_eq_some_iff.mp h
  rw [← h4]; exact List.set_getElem_self h3

/-- A slice of what is owned, from its beginning: what lies behind it is let go. -/
theorem Ghost.trim {n o t ver sz k : Nat} {rows : List D} {s : List D} {H : List AObj} (ho : H[o]? = some (.arr ver sz rows)) (hs : s[t]? = some (.h o ver 0 k)) :
    Ghost n s H (s.set t (.h o (ver + 1) 0 k)) (H.set o (.arr (ver + 1) sz (rows.take k))) := fun C φ w vs hn g hv => by
  obtain ⟨v, h1, h2⟩ := hv.get t _ hs
  have hlt := (List.getElem?_eq_some_iff.mp ho).1
  rcases h2.inv_h ho with ⟨rfl, _, hn0, hrows, hφ⟩ | ⟨b, a, cap, c, e', fz, rfl, hφ, k3, k4, k5, k6, k7⟩
  · subst hrows hn0
    obtain ⟨g', x⟩ := g.bumpNil (ver' := ver + 1) (sz' := sz) ho hφ (Nat.lt_succ_self _)
    refine ⟨φ, g', ?_⟩
    have k := (VRs.mono x hv).set t (d := .h o (ver + 1) 0 0) (v := .slice none 0 0) (.hnil (sz := sz) (by show (H.set o (AObj.arr (ver + 1) sz []))[o]? = _; simp [hlt]) hφ)
    rw [set_selfL h1] at k
    exact k
  · rcases g.objs.cl o _ ho with ⟨q1, _⟩ | ⟨b', q1, q2, q3, q4, c', e, vs', q5, q6, q7⟩
    · have hφ' : φ[o]? = some (some b) := hφ
      rw [show (C.env φ H w).φ = φ from rfl, hφ'] at q1; cases q1
    · obtain ⟨g', x⟩ := g.reRow (ver' := ver + 1) (rows' := rows.take k) (vs := vs'.take (k * sz)) ho q1 (.inl (Nat.lt_succ_self _)) ⟨rfl, rfl, rfl, (by first | exact Nat.le_refl _ | exact Nat.le_succ _)⟩ rfl q5 q5 rfl (fun _ _ => rfl)
        (fun y hy => q4 y (List.mem_of_mem_take hy)) (by rw [← flat_take q4]; exact q6.take _) (fun j v hj => by
          rw [List.getElem?_take] at hj
          split at hj
          · exact q7 _ _ hj
          · cases hj)
      refine ⟨φ, g', ?_⟩
      have k := (VRs.mono x hv).set t (d := .h o (ver + 1) 0 k) (v := .slice (some a) k cap) (.h (sz := sz) (rows := rows.take k) (by show (H.set o (AObj.arr (ver + 1) sz (rows.take k)))[o]? = _; simp [hlt]) hφ (by rw [List.length_take]; omega) k4 k5 k6 k7)
      rw [set_selfL h1] at k
      exact k

theorem boolF_dec {p : Prop} [Decidable p] {X Y : Prop} (h1 : p → X) (h2 : ¬ p → Y) : boolF (decide p) X Y := boolF_split (fun h => h1 (by simpa using h)) (fun h => h2 (by simpa using h))
theorem boolF_dect {p : Prop} [Decidable p] {X Y : Prop} (h : p) (h1 : X) : boolF (decide p) X Y := boolF_t (by simpa using h) h1
theorem boolF_decf {p : Prop} [Decidable p] {X Y : Prop} (h : ¬ p) (h1 : Y) : boolF (decide p) X Y := boolF_f (by simpa using h) h1
theorem boolF_not {b : Bool} {X Y : Prop} (h : boolF b Y X) : boolF (!b) X Y := by cases b <;> exact h
theorem boolF_beq {a b : Int} {X Y : Prop} (h1 : a = b → X) (h2 : a ≠ b → Y) : boolF (a == b) X Y := boolF_split (fun h => h1 (by simpa using h)) (fun h => h2 (by simpa using h))
theorem boolF_bne {a b : Int} {X Y : Prop} (h1 : a ≠ b → X) (h2 : a = b → Y) : boolF (a != b) X Y := boolF_split (fun h => h1 (by simpa using h)) (fun h => h2 (by simpa using h))
theorem boolF_beqt {a b : Int} {X Y : Prop} (h : a = b) (h1 : X) : boolF (a == b) X Y := boolF_t (by simpa using h) h1
theorem boolF_beqf {a b : Int} {X Y : Prop} (h : a ≠ b) (h1 : Y) : boolF (a == b) X Y := boolF_f (by simpa using h) h1
theorem boolF_bnet {a b : Int} {X Y : Prop} (h : a ≠ b) (h1 : X) : boolF (a != b) X Y := boolF_t (by simpa using h) h1
theorem boolF_bnef {a b : Int} {X Y : Prop} (h : a = b) (h1 : Y) : boolF (a != b) X Y := boolF_f (by simpa using h) h1
theorem boolF_nbeq {a b : Nat} {X Y : Prop} (h1 : a = b → X) (h2 : a ≠ b → Y) : boolF (a == b) X Y := boolF_split (fun h => h1 (by simpa using h)) (fun h => h2 (by simpa using h))
theorem boolF_nbne {a b : Nat} {X Y : Prop} (h1 : a ≠ b → X) (h2 : a = b → Y) : boolF (a != b) X Y := boolF_split (fun h => h1 (by simpa using h)) (fun h => h2 (by simpa using h))
theorem boolF_nbeqt {a b : Nat} {X Y : Prop} (h : a = b) (h1 : X) : boolF (a == b) X Y := boolF_t (by simpa using h) h1
theorem boolF_nbeqf {a b : Nat} {X Y : Prop} (h : a ≠ b) (h1 : Y) : boolF (a == b) X Y := boolF_f (by simpa using h) h1
theorem boolF_nbnet {a b : Nat} {X Y : Prop} (h : a ≠ b) (h1 : X) : boolF (a != b) X Y := boolF_t (by simpa using h) h1
theorem boolF_nbnef {a b : Nat} {X Y : Prop} (h : a = b) (h1 : Y) : boolF (a != b) X Y := boolF_f (by simpa using h) h1

theorem bool_t {p : Prop} [Decidable p] (h : p) : D.bool true = D.bool (decide p) := by simp [h]
theorem bool_f {p : Prop} [Decidable p] (h : ¬ p) : D.bool false = D.bool (decide p) := by simp [h]
theorem bool_iff {p q : Prop} [Decidable p] [Decidable q] (h : p ↔ q) : D.bool (decide p) = D.bool (decide q) := by simp [h]
theorem bool_beq {p : Prop} [Decidable p] {a b : Int} (h : a = b ↔ p) : D.bool (a == b) = D.bool (decide p) := by
  congr 1; rw [Bool.eq_iff_iff, beq_iff_eq, decide_eq_true_iff]; exact h
theorem bool_bne {p : Prop} [Decidable p] {a b : Int} (h : a ≠ b ↔ p) : D.bool (a != b) = D.bool (decide p) := by
  congr 1; rw [Bool.eq_iff_iff, bne_iff_ne, decide_eq_true_iff]; exact h
theorem bool_not {p q : Prop} [Decidable p] [Decidable q] (h : ¬ p ↔ q) : D.bool (!decide p) = D.bool (decide q) := by
  congr 1; rw [Bool.eq_iff_iff]; simp [h]

theorem keepL_rel {E : Env} (L : List Nat) {s : List D} {vs : List Value} (h : VRs E s vs) : VRs E (keepL L 0 s) vs := keepL_ok L 0 h

/-- What is kept, and what is dropped. -/
theorem Ghost.back {n : Nat} (L : List Nat) (k : Nat) {s s1 : List D} {H H1 : List AObj} (hs : keepL L 0 s = s1) (hH : H.take k = H1) (hn : n ≤ k) (h1 : scs k s1) (h2 : ∀ ob ∈ H1, ob.sc k) : Ghost n s H s1 H1 := by
  subst hs hH
  exact (Ghost.keep L).trans (Ghost.drop hn h1 h2)

/-- What is kept. -/
theorem Ghost.hold {n : Nat} (L : List Nat) {s s1 : List D} {H H1 : List AObj} (h : (⟨keepL L 0 s, H⟩ : St) = ⟨s1, H1⟩) : Ghost n s H s1 H1 := by
  cases h
  exact Ghost.keep L

/-- A loop: each round leads to a state that is told so, and lowers a measure. -/
theorem W_loopG {P : Program} {n : Nat} {k : List Item} {s : St} {Q : Exit → St → Prop} {ι : Type} {c : Code} (S : ι → St) (μ : ι → Nat) (I : ι → Prop) (i0 : ι) (h0 : Ghost n s.slots s.H (S i0).slots (S i0).H) (hI : I i0)
    (round : ∀ i, I i → W P n (.code c :: .hyp (fun s' => ∃ j, Ghost n s'.slots s'.H (S j).slots (S j).H ∧ I j ∧ μ j < μ i) :: k) (S i) Q) : W P n (.code (.loop c) :: k) s Q := by
  refine W_ghost h0 ?_
  refine W.intro fun C φ a w hn hs => ?_
  refine wpIn_loopG (fun n a w => ∃ i φ, SRel C φ (S i) a w ∧ I i ∧ μ i = n) (μ i0) ⟨i0, φ, hs, hI, rfl⟩ ?_
  rintro m a w ⟨i, φ, h1, h2, rfl⟩
  refine wpIn_mono (W.run (round i h2) hn h1) ?_
  intro e a w q
  cases e with
  | normal =>
    obtain ⟨s', φ', q1, j, q2, q3, q4⟩ := q
    obtain ⟨φ'', g', hv'⟩ := q2 C φ' w _ hn q1.g q1.slots
    exact ⟨μ j, q4, j, φ'', ⟨q1.defers, hv', g'⟩, q3, rfl⟩
  | _ => exact q

theorem Ghost.wk {n : Nat} {s s' : List D} {H : List AObj} (h : Wks s s') : Ghost n s H s' H := fun C φ w vs _ g hv => ⟨φ, g, h.vr hv⟩

/-- What was answered, told otherwise. -/
def Told (r : D) (H : List AObj) (r' : D) : Prop := ∃ H', Ghost 0 [r] H [r'] H'

theorem Told.refl {r : D} {H : List AObj} : Told r H r := ⟨H, Ghost.refl _ _ _⟩
theorem Told.eq {r r' : D} {H : List AObj} (h : r = r') : Told r H r' := h ▸ Told.refl
theorem Told.wk {r r' : D} {H : List AObj} (h : Wk r r') : Told r H r' := ⟨H, Ghost.wk (.cons h .nil)⟩
theorem Told.frz (o : Nat) {ver sz : Nat} {rows : List D} {r r' : D} {H : List AObj} (ho : H[o]? = some (.arr ver sz rows)) (h : Frz o ver rows r r') : Told r H r' := ⟨_, Ghost.freeze (Nat.zero_le _) ho (.cons h .nil)⟩
theorem Told.frz' (o : Nat) {ver sz : Nat} {rows : List D} {r r' r'' : D} {H : List AObj} (ho : H[o]? = some (.arr ver sz rows)) (h : Frz o ver rows r r') (k : Told r' (H.set o .gone) r'') : Told r H r'' := by
  obtain ⟨H', k⟩ := k
  exact ⟨H', (Ghost.freeze (Nat.zero_le _) ho (.cons h .nil)).trans k⟩
theorem Told.trans {r r' r'' : D} {H : List AObj} (h : Wk r r') (k : Told r' H r'') : Told r H r'' := by
  obtain ⟨H', k⟩ := k
  exact ⟨H', (Ghost.wk (.cons h .nil)).trans k⟩

theorem Pure.ofT {P : Program} {f : FuncId} {args : List D} {r : D} (ha : scs 0 args) (hr : r.sc 0) (h : CallsIn P f args [] fun r' H' => Told r' H' r) : Pure P f args r :=
  Pure.of ha hr (CallsIn.ghost (h.mono fun r' H' ⟨H'', k⟩ => ⟨r, H'', k, rfl⟩))

theorem imin {a b : Int} : min a b = if b < a then b else a := by split <;> omega
theorem imax {a b : Int} : max a b = if b > a then b else a := by split <;> omega
theorem all_take {α β : Type} {f : α → β} {l : List α} {n : Nat} (h : n = l.length) : l.map f = ((l.map f).drop 0).take n := by
  subst h; rw [List.drop_zero, List.take_of_length_le (by simp)]

theorem take_snoc {α : Type} {l : List α} {i : Nat} {x : α} (h : l[i]? = some x) : l.take (i + 1) = l.take i ++ [x] := by
  obtain ⟨h1, h2⟩ := List.getElem?_eq_some_iff.mp h
  subst h2
  exact List.take_succ_eq_append_getElem h1

theorem ixOf_nil (n : Nat) : ixOf [] n = fun i => n + i := by funext i; simp [ixOf]

/-- A call that is handed nothing owned: what it owns when it is done comes behind what was. -/
theorem CallsIn.fresh {P : Program} {f : FuncId} {args : List D} {R : D → List AObj → Prop} (ha : scs 0 args) (h : CallsIn P f args [] R) (H : List AObj) :
    CallsIn P f args H fun r H' => ∃ r0 H0, R r0 H0 ∧ r = ren (fun i => H.length + i) r0 ∧ H' = H ++ H0.map (renO fun i => H.length + i) := by
  have h1 := h.lift (H := H) [] rfl (by simp) (fun i o ob h => by simp at h) ha (fun ob hob => by simp at hob)
  rw [renL_sc0 _ _ ha, ixOf_nil] at h1
  refine h1.mono ?_
  rintro r H' ⟨r0, H0, h2, _, rfl, rfl⟩
  exact ⟨r0, H0, h2, rfl, by simp [place, upds]⟩

/-- A call that answers what is owned: a slice of all of one thing. -/
structure Owned (P : Program) (f : FuncId) (args : List D) (sz : Nat) (rows : List D) : Prop where
  arg : scs 0 args
  row : scs 0 rows
  calls : CallsIn P f args [] fun r H => ∃ ver, r = .h 0 ver 0 rows.length ∧ H = [.arr ver sz rows]

theorem Owned.of {P : Program} {f : FuncId} {args : List D} {sz : Nat} {rows : List D} (ha : scs 0 args) (hr : scs 0 rows)
    (h : CallsIn P f args [] fun r H => ∃ ver, Ghost 0 [r] H [.h 0 ver 0 rows.length] [.arr ver sz rows]) : Owned P f args sz rows where
  arg := ha
  row := hr
  calls := CallsIn.ghost (h.mono fun r H ⟨ver, hg⟩ => ⟨_, _, hg, ver, rfl, rfl⟩)

theorem Owned.call {P : Program} {f : FuncId} {args : List D} {sz : Nat} {rows : List D} (h : Owned P f args sz rows) {H : List AObj} {K : D → List AObj → Prop}
    (hk : ∀ ver, lenK H 0 fun o => snocK H (.arr ver sz rows) fun H' => K (.h o ver 0 rows.length) H') : CallsIn P f args H K := by
  refine (h.calls.fresh h.arg H).mono ?_
  rintro r H' ⟨r0, H0, ⟨ver, rfl, rfl⟩, rfl, rfl⟩
  have := snocK_iff.mp (lenK_iff.mp (hk ver))
  rw [Nat.zero_add] at this
  simpa [ren, renO, renL_sc0 _ _ h.row] using this

theorem Owned.pure {P : Program} {f : FuncId} {args : List D} {sz : Nat} {rows : List D} (h : Owned P f args sz rows) : Pure P f args (.sl rows) :=
  Pure.ofT h.arg h.row (h.calls.mono fun r H ⟨ver, e1, e2⟩ => by
    subst e1 e2
    exact Told.frz 0 rfl (.h (by simp)))

theorem Owned.wk {P : Program} {f : FuncId} {args args' : List D} {sz : Nat} {rows : List D} (h : Owned P f args' sz rows) (ha : scs 0 args) (hw : Wks args args') : Owned P f args sz rows where
  arg := ha
  row := h.row
  calls := h.calls.wk hw

theorem len_more {α β : Type} {n : Nat} {f : α → β} {l : List α} : n + l.length = n + (l.map f).length := by rw [List.length_map]

theorem all_map {α : Type} {f : α → D} {p : D → Bool} {l : List α} (h : ∀ x, p (f x) = true) : (l.map f).all p = true := by
  rw [List.all_map]; exact List.all_eq_true.mpr fun x _ => h x

/-- Bytes as a string. -/
def strOf (l : List D) : ByteArray := ⟨(l.map byteOf).toArray⟩

theorem strOf_eq {a b : List Nat} (ha : ∀ x ∈ a, x < 256) (hb : ∀ x ∈ b, x < 256) : (strOf (a.map fun x : Nat => D.int .u8 (x : Int))).toList = (strOf (b.map fun x : Nat => D.int .u8 (x : Int))).toList ↔ a = b := by
  simp only [strOf, ByteArray.toList_eq, List.map_map]
  have key : ∀ {a b : List Nat}, (∀ x ∈ a, x < 256) → (∀ x ∈ b, x < 256) → a.map (byteOf ∘ fun x : Nat => D.int .u8 (x : Int)) = b.map (byteOf ∘ fun x : Nat => D.int .u8 (x : Int)) → a = b := fun {a} => by
    induction a with
    | nil =>
      intro b _ _ h
      cases b with
      | nil => rfl
      | cons y l => simp at h
    | cons x a ih =>
      intro b ha hb h
      cases b with
      | nil => simp at h
      | cons y b =>
        simp only [List.map_cons, List.cons.injEq] at h
        have h1 := h.1
        have hx := ha x (List.mem_cons_self ..)
        have hy := hb y (List.mem_cons_self ..)
        simp only [Function.comp, byteOf] at h1
        have h2 := congrArg UInt8.toNat h1
        simp at h2
        rw [ih (fun z hz => ha z (List.mem_cons_of_mem _ hz)) (fun z hz => hb z (List.mem_cons_of_mem _ hz)) h.2]
        congr 1
        omega
  constructor
  · intro h; exact key ha hb h
  · rintro rfl; rfl

theorem boolF_leq {α : Type} [BEq α] [LawfulBEq α] {a b : List α} {X Y : Prop} (h1 : a = b → X) (h2 : a ≠ b → Y) : boolF (a == b) X Y := boolF_split (fun h => h1 (by simpa using h)) (fun h => h2 (by simpa using h))
theorem bool_leq {α : Type} [BEq α] [LawfulBEq α] {p : Prop} [Decidable p] {a b : List α} (h : a = b ↔ p) : D.bool (a == b) = D.bool (decide p) := by
  congr 1; rw [Bool.eq_iff_iff, beq_iff_eq, decide_eq_true_iff]; exact h

theorem okRows_all {sz : Nat} {ys : List D} (h : (ys.all fun y => Nat.beq y.cells.length sz && y.cells.all D.one) = true) : okRows sz ys := fun y hy => by
  have := List.all_eq_true.mp h y hy
  simp only [Bool.and_eq_true] at this
  exact ⟨Nat.eq_of_beq_eq_true this.1, this.2⟩

theorem len_two {α : Type} {n : Nat} {a b : α} : n + 2 = n + [a, b].length := rfl
theorem len_three {α : Type} {n : Nat} {a b c : α} : n + 3 = n + [a, b, c].length := rfl
theorem len_four {α : Type} {n : Nat} {a b c d : α} : n + 4 = n + [a, b, c, d].length := rfl
theorem lenl_1 {α : Type} {a : α} : 1 = [a].length := rfl
theorem lenl_2 {α : Type} {a b : α} : 2 = [a, b].length := rfl
theorem lenl_3 {α : Type} {a b c : α} : 3 = [a, b, c].length := rfl
theorem lenl_4 {α : Type} {a b c d : α} : 4 = [a, b, c, d].length := rfl

end Go.A
