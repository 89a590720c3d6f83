/- A logic of abstract states, part 3: types, rows of cells, and what loads and stores do. -/
import Derived.Test.YtgigpjkdfhhahaaA2
namespace Go.A

inductive TK where
  | bool
  | int (k : IntKind)
  | string
  | slice (e : TypeId)
  | struct (fs : List (Nat × TypeId))
  | array (n : Nat) (e : TypeId)
  | map (k e : TypeId)
  | pointer (e : TypeId)
  | func
  | other

/-- What stands in a cell that is compared. -/
inductive EK where
  | b
  | i
  | s
  deriving DecidableEq

structure TD where
  k : TK
  size : Nat
  bytes : Nat
  zero : D
  eqp : Option (List EK) := none

abbrev Tab := List (TypeId × TD)

def Tab.get : Tab → TypeId → Option TD
  | [], _ => none
  | x :: r, t => if x.1 = t then some x.2 else Tab.get r t

def TK.isAgg : TK → Bool
  | .struct _ | .array _ _ => true
  | _ => false

/-- Of one cell. -/
def D.one : D → Bool
  | .agg _ | .tup _ | .undef | .raw _ => false
  | _ => true

def TK.fits (k : TK) : TypeDesc → Prop
  | .bool => k = .bool
  | .int q => k = .int q
  | .string => k = .string
  | .slice e => k = .slice e
  | .struct fields => k = .struct (fields.toList.map fun f => (f.offset, f.type))
  | .array n e => k = .array n e
  | .map q e => k = .map q e
  | .pointer e => k = .pointer e
  | .func _ _ _ => k = .func
  | _ => k = .other

/-- A constant's data. -/
def cD1 : Value → D
  | .bool b => .bool b
  | .int k n => .int k n
  | .string s => .str s
  | .slice none 0 0 => .nils
  | .pointer none => .pnil
  | .nilFunc => .fnil
  | .nilIface => .inil
  | .map none => .mnil
  | _ => .undef

def cD : Value → D
  | .agg cs => .agg (cs.toList.map cD1)
  | v => cD1 v

def EK.fits (k : EK) : Option TypeDesc → Bool
  | some .bool => k == .b
  | some (.int _) => k == .i
  | some .string => k == .s
  | _ => false

def eqFieldsOk (P : Program) : Nat → List Field → List EK → Bool
  | _, [], [] => true
  | n, f :: fs, k :: ks => f.name != "_" && f.offset == n && k.fits (P.underlying f.type) && eqFieldsOk P (n + 1) fs ks
  | _, _, _ => false

/-- A struct of plain cells alone, which are compared one by one. -/
def EqPlain (P : Program) (t : TypeId) (ks : List EK) : Prop :=
  P.eqGuardType P.depth t = false ∧ P.stoodInHeld t = false ∧ ∃ fields, P.underlying t = some (.struct fields) ∧ eqFieldsOk P 0 fields.toList ks = true

structure TDOk (P : Program) (t : TypeId) (td : TD) : Prop where
  eqp : ∀ ks, td.eqp = some ks → EqPlain P t ks
  und : ∃ d, P.underlying t = some d ∧ td.k.fits d
  info : ∃ i z, P.info? t = some i ∧ i.size = td.size ∧ i.bytes = td.bytes ∧ i.zero = some z ∧ cD z = td.zero
  one : td.zero.cells.all D.one = true
  len : td.zero.cells.length = td.size

def TOk (P : Program) (T : Tab) : Prop := ∀ t td, T.get t = some td → TDOk P t td

theorem cD1_ok (E : Env) (v : Value) : VR E (cD1 v) v := by
  unfold cD1
  split <;> first | constructor | exact .undef _

theorem VRs.map_cD1 (E : Env) : ∀ l : List Value, VRs E (l.map cD1) l
  | [] => .nil
  | v :: r => .cons (cD1_ok E v) (VRs.map_cD1 E r)

theorem cD_ok (E : Env) (v : Value) : VR E (cD v) v := by
  unfold cD
  split
  · exact .agg (VRs.map_cD1 E _)
  · exact cD1_ok E v

theorem D.one_told {d : D} (h : d.one = true) : d.told = true := by cases d <;> first | rfl | (simp [D.one] at h)

theorem VR.one {E : Env} {d : D} {v : Value} (h : VR E d v) (h1 : d.one = true) : v.oneCell' = true ∧ d.cells = [d] ∧ v.cells = #[v] := by
  cases h <;> first | (simp [D.one] at h1; done) | exact ⟨rfl, rfl, rfl⟩

theorem VRs.ones {E : Env} : ∀ {ds : List D} {vs : List Value}, VRs E ds vs → ds.all D.one = true → ∀ v ∈ vs, v.oneCell' = true
  | _, _, .nil, _, v, hv => by simp at hv
  | _, _, .cons h t, ha, v, hv => by
    simp only [List.all_cons, Bool.and_eq_true] at ha
    rcases List.mem_cons.mp hv with rfl | hv
    · exact (h.one ha.1).1
    · exact VRs.ones t ha.2 v hv

/- Rows of cells. -/

theorem flat_append (xs ys : List D) : flat (xs ++ ys) = flat xs ++ flat ys := by
  induction xs with
  | nil => rfl
  | cons x xs ih => simp [flat, ih]

theorem flat_length {xs : List D} {sz : Nat} (h : ∀ x ∈ xs, x.cells.length = sz) : (flat xs).length = xs.length * sz := by
  induction xs with
  | nil => simp [flat]
  | cons x xs ih =>
    simp only [flat, List.length_append, List.length_cons]
    rw [ih (fun y hy => h y (List.mem_cons_of_mem _ hy)), h x (List.mem_cons_self ..), Nat.add_mul]
    omega

theorem flat_drop {xs : List D} {sz : Nat} (h : ∀ x ∈ xs, x.cells.length = sz) (i : Nat) : (flat xs).drop (i * sz) = flat (xs.drop i) := by
  induction xs generalizing i with
  | nil => simp [flat]
  | cons x xs ih =>
    cases i with
    | zero => simp
    | succ i =>
      have hx := h x (List.mem_cons_self ..)
      simp only [flat, List.drop_succ_cons]
      rw [List.drop_append, List.drop_eq_nil_of_le (by rw [hx, Nat.add_mul]; omega), hx, List.nil_append,
        show (i + 1) * sz - sz = i * sz by rw [Nat.add_mul]; omega]
      exact ih (fun y hy => h y (List.mem_cons_of_mem _ hy)) i

theorem flat_take {xs : List D} {sz : Nat} (h : ∀ x ∈ xs, x.cells.length = sz) (i : Nat) : (flat xs).take (i * sz) = flat (xs.take i) := by
  induction xs generalizing i with
  | nil => simp [flat]
  | cons x xs ih =>
    cases i with
    | zero => simp [flat]
    | succ i =>
      have hx := h x (List.mem_cons_self ..)
      simp only [flat, List.take_succ_cons]
      rw [List.take_append, List.take_of_length_le (by rw [hx, Nat.add_mul]; omega), hx,
        show (i + 1) * sz - sz = i * sz by rw [Nat.add_mul]; omega]
      rw [ih (fun y hy => h y (List.mem_cons_of_mem _ hy)) i]

theorem drop_of_get {α : Type} {l : List α} {i : Nat} {x : α} (h : l[i]? = some x) : l.drop i = x :: l.drop (i + 1) := by
  obtain ⟨hi, rfl⟩ := List.getElem?_eq_some_iff.mp h
  exact List.drop_eq_getElem_cons hi

/-- Cells from one on. -/
def spliceL {α : Type} (l : List α) (off : Nat) (xs : List α) : List α := l.take off ++ xs ++ l.drop (off + xs.length)

theorem spliceL_length {α : Type} (l : List α) (off : Nat) (xs : List α) (h : off + xs.length ≤ l.length) : (spliceL l off xs).length = l.length := by
  unfold spliceL
  simp
  omega

theorem VRs.splice {E : Env} {ds : List D} {vs : List Value} (h : VRs E ds vs) (off : Nat) {xs : List D} {ws : List Value} (h' : VRs E xs ws) :
    VRs E (spliceL ds off xs) (spliceL vs off ws) := by
  unfold spliceL
  rw [h'.length]
  exact ((h.take off).append h').append (h.drop _)

theorem flat_set {xs : List D} {sz i j : Nat} {row row' : D} {ys : List D} (h : ∀ x ∈ xs, x.cells.length = sz) (hr : xs[i]? = some row) (hc : row'.cells = spliceL row.cells j ys)
    (hj : j + ys.length ≤ sz) : flat (xs.set i row') = spliceL (flat xs) (i * sz + j) ys := by
  have hi := (List.getElem?_eq_some_iff.mp hr).1
  have hrow : row.cells.length = sz := h row (List.mem_of_getElem? hr)
  have hset : xs.set i row' = xs.take i ++ row' :: xs.drop (i + 1) := List.set_eq_take_append_cons_drop .. |>.trans (by rw [if_pos hi])
  have hxs : xs = xs.take i ++ row :: xs.drop (i + 1) := by rw [← drop_of_get hr, List.take_append_drop]
  have hl : (flat (xs.take i)).length = i * sz := by
    rw [flat_length (fun x hx => h x (List.mem_of_mem_take hx)), List.length_take, Nat.min_eq_left (Nat.le_of_lt hi)]
  have e1 : flat (xs.set i row') = flat (xs.take i) ++ (spliceL row.cells j ys ++ flat (xs.drop (i + 1))) := by
    rw [hset, flat_append, flat, hc]
  have e2 : flat xs = flat (xs.take i) ++ (row.cells ++ flat (xs.drop (i + 1))) := by
    conv => lhs; rw [hxs]
    rw [flat_append, flat]
  rw [e1, e2]
  generalize flat (xs.take i) = A at hl
  generalize flat (xs.drop (i + 1)) = B
  generalize row.cells = R at hrow
  have t1 : (A ++ (R ++ B)).take (i * sz + j) = A ++ R.take j := by
    rw [List.take_append, List.take_of_length_le (l := A) (by omega), hl, show i * sz + j - i * sz = j by omega, List.take_append_of_le_length (by omega)]
  have t2 : (A ++ (R ++ B)).drop (i * sz + j + ys.length) = R.drop (j + ys.length) ++ B := by
    rw [List.drop_append, List.drop_eq_nil_of_le (as := A) (by omega), hl, show i * sz + j + ys.length - i * sz = j + ys.length by omega, List.drop_append_of_le_length (by omega)]
    rfl
  unfold spliceL
  rw [t1, t2]
  simp

def spliceA (c : Array Value) (off : Nat) : List Value → Array Value
  | [] => c
  | v :: vs => spliceA (c.setIfInBounds off v) (off + 1) vs

theorem spliceA_size (vs : List Value) : ∀ (c : Array Value) (off : Nat), (spliceA c off vs).size = c.size := by
  induction vs with
  | nil => intro c off; rfl
  | cons v vs ih => intro c off; simp [spliceA, ih]

theorem spliceA_get (vs : List Value) : ∀ (c : Array Value) (off k : Nat), off + vs.length ≤ c.size →
    (spliceA c off vs)[k]? = if off ≤ k ∧ k < off + vs.length then vs[k - off]? else c[k]? := by
  induction vs with
  | nil => intro c off k _; simp [spliceA]; intro h1 h2; omega
  | cons v vs ih =>
    intro c off k h
    simp only [List.length_cons] at h
    simp only [spliceA, List.length_cons]
    rw [ih _ _ _ (by simp; omega)]
    by_cases h1 : off + 1 ≤ k ∧ k < off + 1 + vs.length
    · rw [if_pos h1, if_pos (by omega), show k - off = (k - (off + 1)) + 1 by omega, List.getElem?_cons_succ]
    · rw [if_neg h1, Array.getElem?_setIfInBounds]
      by_cases h2 : off = k
      · subst h2
        rw [if_pos rfl, if_pos (by omega), if_pos (by omega)]
        simp
      · rw [if_neg h2, if_neg (by omega)]

theorem cell_of_heap {w : World} {b o : Nat} {c : Array Value} {e : TypeId} {fz : Nat × Nat} (h : w.heap[b]? = some (Obj.cells c e fz)) : w.cell? ⟨b, o, none⟩ = c[o]? := by
  simp [World.cell?, h]

theorem frozen_of_heap {w : World} {b o : Nat} {c : Array Value} {e : TypeId} {fz : Nat × Nat} (hf : NoFz c.size fz) (hoc : o < c.size) (h : w.heap[b]? = some (Obj.cells c e fz)) : w.frozen? ⟨b, o, none⟩ = false := by
  obtain ⟨lo, hi⟩ := fz
  simp only [World.frozen?, h]
  rcases hf with hf | hf
  · dsimp only at hf
    subst hf
    simp
  · dsimp only at hf
    simp; omega

theorem Addr.add_plain (b o j : Nat) : (⟨b, o, none⟩ : Addr).add j = ⟨b, o + j, none⟩ := by
  unfold Addr.add
  split
  · rename_i h; subst h; rfl
  · rfl

theorem setCell_heap {w : World} {b o : Nat} {c : Array Value} {e : TypeId} {fz : Nat × Nat} (v : Value) (h : w.heap[b]? = some (Obj.cells c e fz)) :
    (w.setCell ⟨b, o, none⟩ v).heap[b]? = some (Obj.cells (c.setIfInBounds o v) e fz) ∧ (∀ k, k ≠ b → (w.setCell ⟨b, o, none⟩ v).heap[k]? = w.heap[k]?) := by
  constructor
  · simp [World.setCell, Array.getElem?_modify, h]
  · intro k hk
    simp [World.setCell, Array.getElem?_modify, Ne.symm hk]

theorem run_storeCells (P : Program) {fz : Nat × Nat} : ∀ (vs : List Value) (w : World) (b off i : Nat) (c : Array Value) (e : TypeId), NoFz c.size fz → w.heap[b]? = some (Obj.cells c e fz) → off + i + vs.length ≤ c.size →
    (∀ v ∈ vs, v.oneCell' = true) → ∃ w', (storeCells ⟨b, off, none⟩ vs i).run P w = .ok () w' ∧ Same w w' ∧ w'.heap.size = w.heap.size ∧
      w'.heap[b]? = some (Obj.cells (spliceA c (off + i) vs) e fz) ∧ ∀ k, k ≠ b → w'.heap[k]? = w.heap[k]?
  | [], w, b, off, i, c, e, _, h, _, _ => ⟨w, by simp [storeCells], .refl w, rfl, by simpa [spliceA] using h, fun _ _ => rfl⟩
  | v :: vs, w, b, off, i, c, e, hf, h, hl, ho => by
    simp only [List.length_cons] at hl
    have hs := setCell_heap (o := off + i) v h
    obtain ⟨w', h1, h2, h3, h4, h5⟩ := run_storeCells P vs (w.setCell ⟨b, off + i, none⟩ v) b off (i + 1) _ e (by rw [Array.size_setIfInBounds]; exact hf) hs.1 (by simp; omega) (fun u hu => ho u (List.mem_cons_of_mem _ hu))
    refine ⟨w', ?_, ?_, ?_, ?_, fun k hk => (h5 k hk).trans (hs.2 k hk)⟩
    · simp only [storeCells, Sem.run_bind, Addr.add_plain]
      rw [run_store P w _ v _ (ho v (List.mem_cons_self ..)), cell_of_heap h]
      have : off + i < c.size := by omega
      simp only [Array.getElem?_eq_getElem this, frozen_of_heap hf this h, Bool.false_eq_true, if_false, Result.andThen_ok]
      exact h1
    · exact Same.trans (b := w.setCell ⟨b, off + i, none⟩ v) ⟨rfl, rfl, rfl, (by first | exact Nat.le_refl _ | exact Nat.le_succ _)⟩ h2
    · rw [h3]; simp
    · rw [h4, spliceA, show off + i + 1 = off + (i + 1) by omega]

theorem run_loadCells_at (P : Program) {w : World} {a : Addr} {vs : List Value} (h : readsAt w.heap a vs) (n : Nat) (hn : n ≤ vs.length) :
    (loadCells a n).run P w = .ok (vs.take n).toArray w := by
  obtain ⟨h1, c, e, fz, h2, h3⟩ := h
  have := run_loadCells_list (P := P) w a (vs.take n) (fun j v hj => by
    obtain ⟨b, off, spot⟩ := a
    simp only at h1 h2 h3
    subst h1
    have hjl : j < n := by
      have := (List.getElem?_eq_some_iff.mp hj).1
      simp at this; omega
    rw [List.getElem?_take, if_pos hjl] at hj
    rw [Addr.add_plain, cell_of_heap h2]
    exact h3 j v hj)
  rw [List.length_take, Nat.min_eq_left hn] at this
  exact this

theorem run_load_at (P : Program) {w : World} {a : Addr} {v : Value} {vs : List Value} (h : readsAt w.heap a (v :: vs)) : (load a).run P w = .ok v w := by
  obtain ⟨h1, c, e, fz, h2, h3⟩ := h
  obtain ⟨b, off, spot⟩ := a
  simp only at h1 h2 h3
  subst h1
  rw [run_load, cell_of_heap h2]
  have := h3 0 v rfl
  simp only [Nat.add_zero] at this
  rw [this]

/- Types. -/
theorem run_underlying (P : Program) (t : TypeId) (w : World) {d : TypeDesc} (h : P.underlying t = some d) : (underlying t).run P w = .ok d w := by
  simp [underlying, h]

theorem run_typeInfo (P : Program) (t : TypeId) (w : World) {i : TypeInfo} (h : P.info? t = some i) : (typeInfo t).run P w = .ok i w := by
  simp [typeInfo, h]

theorem TDOk.run_size {P : Program} {t : TypeId} {td : TD} (h : TDOk P t td) (w : World) : (sizeOf t).run P w = .ok td.size w := by
  obtain ⟨i, z, h1, h2, _⟩ := h.info
  simp [sizeOf, run_typeInfo P t w h1, h2]

theorem TDOk.run_zero {P : Program} {t : TypeId} {td : TD} (h : TDOk P t td) (w : World) : ∃ z, (zeroValue t).run P w = .ok z w ∧ cD z = td.zero := by
  obtain ⟨i, z, h1, h2, h3, h4, h5⟩ := h.info
  exact ⟨z, by simp [zeroValue, run_typeInfo P t w h1, h4], h5⟩

theorem TDOk.run_isAgg {P : Program} {t : TypeId} {td : TD} (h : TDOk P t td) (w : World) : (isAgg t).run P w = .ok td.k.isAgg w := by
  obtain ⟨d, h1, h2⟩ := h.und
  simp only [isAgg, Sem.run_bind, run_underlying P t w h1, Result.andThen_ok]
  cases d <;> simp only [TK.fits] at h2 <;> rw [h2] <;> rfl

theorem TDOk.run_slice {P : Program} {t e : TypeId} {td : TD} (h : TDOk P t td) (hk : td.k = .slice e) (w : World) : (underlying t).run P w = .ok (.slice e) w := by
  obtain ⟨d, h1, h2⟩ := h.und
  rw [run_underlying P t w h1]
  cases d <;> simp only [TK.fits, hk] at h2 <;> cases h2 <;> rfl

theorem TDOk.slice {P : Program} {t e : TypeId} {td : TD} (h : TDOk P t td) (hk : td.k = .slice e) : P.underlying t = some (.slice e) := by
  obtain ⟨d, h1, h2⟩ := h.und
  rw [h1]
  cases d <;> simp only [TK.fits, hk] at h2 <;> cases h2 <;> rfl

theorem TDOk.string {P : Program} {t : TypeId} {td : TD} (h : TDOk P t td) (hk : td.k = .string) : P.underlying t = some .string := by
  obtain ⟨d, h1, h2⟩ := h.und
  rw [h1]
  cases d <;> simp only [TK.fits, hk] at h2 <;> cases h2 <;> rfl

theorem TDOk.bool {P : Program} {t : TypeId} {td : TD} (h : TDOk P t td) (hk : td.k = .bool) : P.underlying t = some .bool := by
  obtain ⟨d, h1, h2⟩ := h.und
  rw [h1]
  cases d <;> simp only [TK.fits, hk] at h2 <;> cases h2 <;> rfl

theorem TDOk.int {P : Program} {t : TypeId} {td : TD} {k : IntKind} (h : TDOk P t td) (hk : td.k = .int k) : P.underlying t = some (.int k) := by
  obtain ⟨d, h1, h2⟩ := h.und
  rw [h1]
  cases d <;> simp only [TK.fits, hk] at h2 <;> cases h2 <;> rfl

theorem TDOk.array {P : Program} {t e : TypeId} {n : Nat} {td : TD} (h : TDOk P t td) (hk : td.k = .array n e) : P.underlying t = some (.array n e) := by
  obtain ⟨d, h1, h2⟩ := h.und
  rw [h1]
  cases d <;> simp only [TK.fits, hk] at h2 <;> cases h2 <;> rfl

theorem TDOk.map {P : Program} {t q e : TypeId} {td : TD} (h : TDOk P t td) (hk : td.k = .map q e) : P.underlying t = some (.map q e) := by
  obtain ⟨d, h1, h2⟩ := h.und
  rw [h1]
  cases d <;> simp only [TK.fits, hk] at h2 <;> cases h2 <;> rfl

theorem TDOk.struct {P : Program} {t : TypeId} {fs : List (Nat × TypeId)} {td : TD} (h : TDOk P t td) (hk : td.k = .struct fs) :
    ∃ fields, P.underlying t = some (.struct fields) ∧ fs = fields.toList.map fun f => (f.offset, f.type) := by
  obtain ⟨d, h1, h2⟩ := h.und
  cases d <;> simp only [TK.fits, hk] at h2 <;> cases h2
  exact ⟨_, h1, rfl⟩

/- What a pointer leads to. -/
def ptrCells (H : List AObj) : D → Option (List D)
  | .pe cs => some cs
  | .p o ver i j => match H[o]? with
    | some (.arr v _ rows) => if v = ver then (match rows[i]? with | some row => some (row.cells.drop j) | none => none) else none
    | _ => none
  | _ => none

theorem G.arrOf {C φ H w} (g : G C φ H w) {o ver sz b : Nat} {rows : List D} (h : H[o]? = some (.arr ver sz rows)) (hb : φ[o]? = some (some b)) :
    0 < sz ∧ (∀ x ∈ rows, x.cells.length = sz) ∧ ∃ c e vs, CellsAt w.heap b c e ∧ VRs (C.env φ H w) (flat rows) vs ∧ ∀ (j : Nat) v, vs[j]? = some v → c[j]? = some v := by
  rcases g.objs.cl o _ h with ⟨h1, _⟩ | ⟨b', h1, _, h3, h4, c, e, vs, h5, h6, h7⟩
  · have : φ[o]? = some none := h1
    rw [hb] at this; cases this
  · have : φ[o]? = some (some b') := h1
    rw [hb] at this
    obtain rfl : b = b' := by simpa using this
    exact ⟨h3, h4, c, e, vs, h5, h6, h7⟩

theorem G.ptr {C φ H w} (g : G C φ H w) {d : D} {v : Value} (h : VR (C.env φ H w) d v) {cs : List D} (hc : ptrCells H d = some cs) :
    ∃ a vs, v = .pointer (some a) ∧ readsAt w.heap a vs ∧ VRs (C.env φ H w) cs vs := by
  cases h with
  | pe h1 h2 h3 h4 =>
    simp only [ptrCells, Option.some.injEq] at hc; subst hc
    exact ⟨_, _, rfl, h3, h4⟩
  | pold a h1 h2 =>
    simp only [ptrCells] at hc
    rename_i o ver i j ob
    have h1' : H[o]? = some ob := h1
    rw [h1'] at hc
    cases ob with
    | arr v sz rows =>
      simp only at hc
      split at hc
      · rename_i e; subst e; simp [AObj.past] at h2
      · cases hc
    | mapx es st => simp [AObj.past] at h2
    | gone => simp at hc
  | p h1 h2 h3 h4 =>
    rename_i o ver i j sz b rows
    have h1' : H[o]? = some (.arr ver sz rows) := h1
    have h2' : φ[o]? = some (some b) := h2
    simp only [ptrCells, h1', if_true] at hc
    obtain ⟨q1, q2, c, e, vs, ⟨fz, hfz, q3⟩, q4, q5⟩ := g.arrOf h1' h2'
    cases hr : rows[i]? with
    | none => rw [hr] at hc; cases hc
    | some row =>
      rw [hr] at hc
      obtain rfl := Option.some.inj hc
      have hd := VRs.drop q4 (i * sz)
      rw [flat_drop q2, drop_of_get hr, flat] at hd
      obtain ⟨vs1, vs2, k1, k2, _⟩ := VRs.split hd
      refine ⟨_, vs1.drop j, rfl, ⟨rfl, c, e, fz, q3, fun m u hm => ?_⟩, k2.drop j⟩
      refine q5 _ _ ?_
      have : (vs.drop (i * sz))[j + m]? = some u := by
        rw [k1, List.getElem?_append_left]
        · rw [List.getElem?_drop] at hm; exact hm
        · rw [List.getElem?_drop] at hm; exact (List.getElem?_eq_some_iff.mp hm).1
      rw [List.getElem?_drop] at this
      rw [← this]
      congr 1
      show i * sz + j + m = i * sz + (j + m)
      omega
  | _ => simp [ptrCells] at hc

/-- A load. -/
theorem G.load {C φ H w} {P : Program} {T : Tab} (hT : TOk P T) (g : G C φ H w) {d : D} {v : Value} (h : VR (C.env φ H w) d v) {cs : List D} (hc : ptrCells H d = some cs)
    {t : TypeId} {td : TD} (ht : T.get t = some td) {r : D} (hr : (td.k.isAgg = true ∧ td.size ≤ cs.length ∧ r = .agg (cs.take td.size)) ∨ (td.k.isAgg = false ∧ cs[0]? = some r)) :
    ∃ u, (Instr.loadAt t v).run P w = .ok u w ∧ VR (C.env φ H w) r u := by
  obtain ⟨a, vs, rfl, h1, h2⟩ := g.ptr h hc
  have hd := hT t td ht
  simp only [Instr.loadAt, Instr.sureAddr, loadVar, Sem.run_bind, Sem.run_pure, Result.andThen_ok, hd.run_isAgg]
  rcases hr with ⟨k1, k2, rfl⟩ | ⟨k1, k2⟩
  · refine ⟨.agg (vs.take td.size).toArray, ?_, .agg ?_⟩
    · rw [k1]; simp only [if_true, Sem.run_bind, hd.run_size, Result.andThen_ok]
      rw [run_loadCells_at P h1 _ (by rw [← h2.length]; exact k2)]
      rfl
    · exact h2.take _
  · obtain ⟨u, h3, h4⟩ := h2.get 0 r k2
    refine ⟨u, ?_, h4⟩
    rw [k1]
    simp only [Bool.false_eq_true, if_false]
    cases vs with
    | nil => simp at h3
    | cons u' vs =>
      simp at h3; subst h3
      exact run_load_at P h1

def mkRow : List D → D
  | [c] => c
  | cs => .agg cs

theorem mkRow_cells {cs : List D} (h : cs.all D.one = true) : (mkRow cs).cells = cs := by
  match cs with
  | [] => rfl
  | [c] =>
    simp at h
    cases c <;> first | rfl | (simp [D.one] at h)
  | _ :: _ :: _ => rfl

/-- A store. -/
theorem G.store {C φ H w} {P : Program} {T : Tab} (hT : TOk P T) (g : G C φ H w) {o ver i j sz : Nat} {rows : List D} {row : D} {p x : D} {v u : Value} (hp : p = .p o ver i j) (h : VR (C.env φ H w) p v) (hx : VR (C.env φ H w) x u)
    (ho : H[o]? = some (.arr ver sz rows)) (hr : rows[i]? = some row) {t : TypeId} {td : TD} (ht : T.get t = some td) (hl : x.cells.length = td.size) (hj : j + td.size ≤ sz)
    (h1 : x.cells.all D.one = true) (h2 : (spliceL row.cells j x.cells).all D.one = true) :
    ∃ w', (Instr.storeAt t v u).run P w = .ok () w' ∧ G C φ (H.set o (.arr ver sz (rows.set i (mkRow (spliceL row.cells j x.cells))))) w' ∧
      Ext (C.env φ H w) (C.env φ (H.set o (.arr ver sz (rows.set i (mkRow (spliceL row.cells j x.cells))))) w') := by
  subst hp
  have hd := hT t td ht
  have htold : x.told = true ∨ td.size = 0 := by
    cases x <;> first | exact .inl rfl | (simp [D.cells, D.one] at h1)
  cases h with
  | pold a k1 k2 =>
    have k1' : H[o]? = some _ := k1
    rw [ho] at k1'
    obtain rfl := Option.some.inj k1'
    simp [AObj.past] at k2
  | p k1 k2 k3 k4 =>
    rename_i sz' b rows'
    have k1' : H[o]? = some (.arr ver sz' rows') := k1
    rw [ho] at k1'
    cases k1'
    have k2' : φ[o]? = some (some b) := k2
    obtain ⟨q1, q2, c, e, vs, ⟨fz, hfz, q3⟩, q4, q5⟩ := g.arrOf ho k2'
    have hxc : VRs (C.env φ H w) x.cells u.cells.toList := hx.cells (by
      rcases htold with h | h
      · exact h
      · cases x <;> first | rfl | (simp [D.cells, D.one] at h1))
    have hul : u.cells.size = td.size := by rw [← hl, hxc.length]; simp
    have hrow : row.cells.length = sz := q2 row (List.mem_of_getElem? hr)
    have hvl : vs.length = rows.length * sz := by rw [← q4.length, flat_length q2]
    have hcs : ∀ k, k < vs.length → k < c.size := fun k hk => by
      have := q5 k _ (List.getElem?_eq_getElem hk)
      exact (Array.getElem?_eq_some_iff.mp this).1
    have hend : i * sz + sz ≤ vs.length := by
      rw [hvl]
      calc i * sz + sz = (i + 1) * sz := by rw [Nat.add_mul]; omega
        _ ≤ rows.length * sz := Nat.mul_le_mul_right _ (by omega)
    have hcsz : i * sz + sz ≤ c.size := by
      have := hcs (i * sz + sz - 1) (by omega)
      omega
    have hulen : u.cells.toList.length = td.size := by simpa using hul
    obtain ⟨w', r1, r2, r3, r4, r5⟩ := run_storeCells P u.cells.toList w b (i * sz + j) 0 c e hfz q3 (by rw [hulen]; omega) (VRs.ones hxc h1)
    refine ⟨w', ?_, ?_⟩
    · simp only [Instr.storeAt, Instr.sureAddr, storeVar, Sem.run_bind, Sem.run_pure, Result.andThen_ok, hd.run_size]
      rw [if_neg (by simp [hul])]
      simpa using r1
    · have hb' : φ.set o (some b) = φ := by
        apply List.ext_getElem?
        intro k
        by_cases hk : k = o
        · subst hk
          have := (List.getElem?_eq_some_iff.mp k2').1
          rw [List.getElem?_set_self this, k2']
        · simp [Ne.symm hk]
      have hmk := mkRow_cells h2
      have key := g.turn (b' := b) (ob' := .arr ver sz (rows.set i (mkRow (spliceL row.cells j x.cells)))) (w' := w') ho trivial k2' trivial
        { old := fun v hv => hv
          arr := fun v s r hh => by cases hh; exact .inr ⟨_, rfl, by simp⟩
          map := fun es st hh => by cases hh }
        r2 (by omega) (by rw [r3]; exact (g.own o b _ ho trivial k2').1) (fun k _ hk => r5 k hk)
        (.inl ⟨rfl, fun c1 e1 fz hc1 => by
          rw [q3] at hc1; cases hc1
          exact ⟨_, _, _, r4, spliceA_size _ _ _⟩⟩)
        (fun E' hE x1 hφ hN => by
          refine .inr ⟨b, hφ, hN, q1, ?_, spliceA c (i * sz + j) u.cells.toList, e, spliceL vs (i * sz + j) u.cells.toList, ?_, ?_, ?_⟩
          · intro y hy
            rcases List.mem_or_eq_of_mem_set hy with hy | rfl
            · exact q2 y hy
            · rw [hmk, spliceL_length _ _ _ (by omega)]; exact hrow
          · subst hE; exact ⟨fz, by rw [spliceA_size]; exact hfz, r4⟩
          · rw [flat_set q2 hr hmk (by omega)]
            exact (VRs.mono x1 q4).splice _ (VRs.mono x1 hxc)
          · intro k y hk
            rw [spliceA_get _ _ _ _ (by rw [hulen]; omega)]
            unfold spliceL at hk
            have hlen1 : (vs.take (i * sz + j)).length = i * sz + j := by rw [List.length_take]; omega
            split
            · rename_i hin
              rw [hulen] at hin
              rw [List.append_assoc, List.getElem?_append_right (by omega), hlen1, List.getElem?_append_left (by rw [hulen]; omega)] at hk
              exact hk
            · rename_i hin
              rw [hulen] at hin
              refine q5 k y ?_
              rcases Nat.lt_or_ge k (i * sz + j) with hlt | hge
              · rw [List.append_assoc, List.getElem?_append_left (by omega), List.getElem?_take, if_pos hlt] at hk
                exact hk
              · rw [List.getElem?_append_right (by simp [hulen]; omega), List.getElem?_drop] at hk
                rw [← hk]
                congr 1
                simp [hulen]
                omega)
      rw [hb'] at key
      exact key

end Go.A
