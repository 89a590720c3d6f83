/- A logic of abstract states over the model: values told as data, memory told by what a call owns. Part 1: data, what a value says of them, and how that is carried on. -/
import Derived.Orders
import Derived.Laws.Sem
import Derived.Laws.World
import Derived.Laws.Cells
import Derived.Deep.LoopGhost
import Derived.Below
import Derived.RangeFuncLeaves
import Derived.RangeFuncRecord
import Derived.RangeFuncSeq
import Derived.OrdersIn
namespace Go.A

/-- What a value says. -/
inductive D where
  | undef
  | int (k : IntKind) (n : Int)
  | bool (b : Bool)
  | str (s : ByteArray)
  | agg (cs : List D)
  | tup (vs : List D)
  | sl (xs : List D)
  | nils
  | h (o ver i n : Nat)
  | p (o ver i j : Nat)
  | pe (cs : List D)
  | pnil
  | map (o : Nat)
  | mnil
  | fn (f : FuncId) (caps : List D)
  | fnil
  | ifc (t : TypeId) (v : D)
  | inil
  | raw (v : Value)
  deriving Inhabited

def D.cells : D → List D
  | .agg cs => cs
  | d => [d]

def flat : List D → List D
  | [] => []
  | x :: xs => x.cells ++ flat xs

/-- What is owned: a row of elements of so many cells each (told apart by a version, which an append raises), or a map. -/
inductive AObj where
  | arr (ver sz : Nat) (rows : List D)
  | mapx (es : List (D × D)) (st : Option (List Nat × Nat))
  | gone

/-- A map whose entries' stamps are not told. -/
@[match_pattern] abbrev AObj.map (es : List (D × D)) : AObj := .mapx es none

def AObj.past (ver : Nat) : AObj → Prop
  | .arr v _ _ => ver < v
  | .mapx _ _ => False
  | .gone => True

def AObj.alive : AObj → Prop
  | .gone => False
  | _ => True

structure Env where
  N : Nat → Prop
  φ : List (Option Nat)
  H : List AObj
  heap : Array Obj

def readsAt (heap : Array Obj) (a : Addr) (vs : List Value) : Prop :=
  a.spot = none ∧ ∃ c e fz, heap[a.block]? = some (Obj.cells c e fz) ∧ ∀ (j : Nat) v, vs[j]? = some v → c[a.off + j]? = some v

theorem readsAt.isCells {heap : Array Obj} {a : Addr} {vs : List Value} (h : readsAt heap a vs) : ∃ c e fz, heap[a.block]? = some (Obj.cells c e fz) := by
  obtain ⟨_, c, e, fz, h1, _⟩ := h
  exact ⟨c, e, fz, h1⟩

mutual
inductive VR (E : Env) : D → Value → Prop where
  | undef (v : Value) : VR E .undef v
  | int (k : IntKind) (n : Int) : VR E (.int k n) (.int k n)
  | bool (b : Bool) : VR E (.bool b) (.bool b)
  | str (s : ByteArray) : VR E (.str s) (.string s)
  | agg {cs : List D} {a : Array Value} : VRs E cs a.toList → VR E (.agg cs) (.agg a)
  | tup {cs : List D} {a : Array Value} : VRs E cs a.toList → VR E (.tup cs) (.tuple a)
  | sl0 (a : Option Addr) (cap : Nat) : VR E (.sl []) (.slice a 0 cap)
  | sl {xs : List D} {a : Addr} {cap sz : Nat} {vs : List Value} : xs.length ≤ cap → ¬ E.N a.block → a.block < E.heap.size → 0 < sz →
      (∀ x ∈ xs, x.cells.length = sz) → readsAt E.heap a vs → VRs E (flat xs) vs → VR E (.sl xs) (.slice (some a) xs.length cap)
  | nils : VR E .nils (.slice none 0 0)
  | hold {o ver i n : Nat} {ob : AObj} (a : Option Addr) (len cap : Nat) : E.H[o]? = some ob → ob.past ver → VR E (.h o ver i n) (.slice a len cap)
  | hnil {o ver sz : Nat} : E.H[o]? = some (.arr ver sz []) → E.φ[o]? = some none → VR E (.h o ver 0 0) (.slice none 0 0)
  | h {o ver i n sz b cap : Nat} {rows : List D} {a : Addr} {c : Array Value} {e : TypeId} {fz : Nat × Nat} : E.H[o]? = some (.arr ver sz rows) → E.φ[o]? = some (some b) →
      i + n ≤ rows.length → n ≤ cap → E.heap[b]? = some (Obj.cells c e fz) → (i + cap) * sz ≤ c.size → (cap = 0 ∨ a = ⟨b, i * sz, none⟩) →
      VR E (.h o ver i n) (.slice (some a) n cap)
  | pold {o ver i j : Nat} {ob : AObj} (a : Option Addr) : E.H[o]? = some ob → ob.past ver → VR E (.p o ver i j) (.pointer a)
  | p {o ver i j sz b : Nat} {rows : List D} : E.H[o]? = some (.arr ver sz rows) → E.φ[o]? = some (some b) → i < rows.length → j < sz →
      VR E (.p o ver i j) (.pointer (some ⟨b, i * sz + j, none⟩))
  | pe {cs : List D} {a : Addr} {vs : List Value} : ¬ E.N a.block → a.block < E.heap.size → readsAt E.heap a vs → VRs E cs vs → VR E (.pe cs) (.pointer (some a))
  | pnil : VR E .pnil (.pointer none)
  | map {o b : Nat} {es : List (D × D)} {st : Option (List Nat × Nat)} : E.H[o]? = some (.mapx es st) → E.φ[o]? = some (some b) → VR E (.map o) (.map (some b))
  | mnil : VR E .mnil (.map none)
  | mold {o : Nat} (r : Option Nat) : E.H[o]? = some .gone → VR E (.map o) (.map r)
  | fn {f : FuncId} {caps : List D} {a : Array Value} : VRs E caps a.toList → VR E (.fn f caps) (.func (.func f) #[] a)
  | fnil : VR E .fnil .nilFunc
  | ifc {t : TypeId} {d : D} {v : Value} : VR E d v → VR E (.ifc t d) (.iface t v)
  | inil : VR E .inil .nilIface
  | raw (v : Value) : VR E (.raw v) v
inductive VRs (E : Env) : List D → List Value → Prop where
  | nil : VRs E [] []
  | cons {d : D} {v : Value} {ds : List D} {vs : List Value} : VR E d v → VRs E ds vs → VRs E (d :: ds) (v :: vs)
end

/-- What is kept as it is: cells, and the mark of a loop's rounds. -/
def Solid (heap : Array Obj) (b : Nat) : Prop := (∃ c e fz, heap[b]? = some (Obj.cells c e fz)) ∨ heap[b]? = some (Obj.deferred (some []))

theorem Solid.cells {heap : Array Obj} {b : Nat} (h : ∃ c e fz, heap[b]? = some (Obj.cells c e fz)) : Solid heap b := .inl h

/-- What was told of values in the one stands in the other one. -/
structure ExtW (E E' : Env) : Prop where
  imm : ∀ b, ¬ E.N b → b < E.heap.size → (∃ c e fz, E.heap[b]? = some (Obj.cells c e fz)) → ¬ E'.N b ∧ b < E'.heap.size ∧ E'.heap[b]? = E.heap[b]?
  old : ∀ (o : Nat) ob ver, E.H[o]? = some ob → AObj.past ver ob → ∃ ob', E'.H[o]? = some ob' ∧ AObj.past ver ob'
  arr : ∀ (o : Nat) ver sz rows, E.H[o]? = some (.arr ver sz rows) → (∃ ob', E'.H[o]? = some ob' ∧ AObj.past ver ob') ∨
    (∃ rows', E'.H[o]? = some (.arr ver sz rows') ∧ rows'.length = rows.length ∧ E'.φ[o]? = E.φ[o]? ∧
      ∀ (b : Nat) c e fz, E.φ[o]? = some (some b) → E.heap[b]? = some (Obj.cells c e fz) → ∃ c' e' fz', E'.heap[b]? = some (Obj.cells c' e' fz') ∧ c'.size = c.size)
  map : ∀ (o : Nat) es st, E.H[o]? = some (.mapx es st) → E'.H[o]? = some .gone ∨ ∃ es' st', E'.H[o]? = some (.mapx es' st') ∧ E'.φ[o]? = E.φ[o]?

/-- The same, and marks stay. -/
structure Ext (E E' : Env) : Prop where
  imm : ∀ b, ¬ E.N b → b < E.heap.size → Solid E.heap b → ¬ E'.N b ∧ b < E'.heap.size ∧ E'.heap[b]? = E.heap[b]?
  old : ∀ (o : Nat) ob ver, E.H[o]? = some ob → AObj.past ver ob → ∃ ob', E'.H[o]? = some ob' ∧ AObj.past ver ob'
  arr : ∀ (o : Nat) ver sz rows, E.H[o]? = some (.arr ver sz rows) → (∃ ob', E'.H[o]? = some ob' ∧ AObj.past ver ob') ∨
    (∃ rows', E'.H[o]? = some (.arr ver sz rows') ∧ rows'.length = rows.length ∧ E'.φ[o]? = E.φ[o]? ∧
      ∀ (b : Nat) c e fz, E.φ[o]? = some (some b) → E.heap[b]? = some (Obj.cells c e fz) → ∃ c' e' fz', E'.heap[b]? = some (Obj.cells c' e' fz') ∧ c'.size = c.size)
  map : ∀ (o : Nat) es st, E.H[o]? = some (.mapx es st) → E'.H[o]? = some .gone ∨ ∃ es' st', E'.H[o]? = some (.mapx es' st') ∧ E'.φ[o]? = E.φ[o]?

theorem Ext.refl (E : Env) : Ext E E where
  imm := fun _ h h' _ => ⟨h, h', rfl⟩
  old := fun _ ob _ h h' => ⟨ob, h, h'⟩
  arr := fun _ _ _ rows h => .inr ⟨rows, h, rfl, rfl, fun _ c e fz _ h' => ⟨c, e, fz, h', rfl⟩⟩
  map := fun _ es st h => .inr ⟨es, st, h, rfl⟩

theorem Ext.trans {A B C : Env} (h : Ext A B) (k : Ext B C) : Ext A C where
  imm := fun b h1 h2 hc => by
    obtain ⟨h3, h4, h5⟩ := h.imm b h1 h2 hc
    obtain ⟨h6, h7, h8⟩ := k.imm b h3 h4 (by unfold Solid; rw [h5]; exact hc)
    exact ⟨h6, h7, h8.trans h5⟩
  old := fun o ob ver h1 h2 => by
    obtain ⟨ob', h3, h4⟩ := h.old o ob ver h1 h2
    exact k.old o ob' ver h3 h4
  arr := fun o ver sz rows h1 => by
    rcases h.arr o ver sz rows h1 with ⟨ob', h3, h4⟩ | ⟨rows', h3, h4, h5, h6⟩
    · exact .inl (k.old o ob' ver h3 h4)
    · rcases k.arr o ver sz rows' h3 with ⟨ob', h7, h8⟩ | ⟨rows'', h7, h8, h9, h10⟩
      · exact .inl ⟨ob', h7, h8⟩
      · refine .inr ⟨rows'', h7, h8.trans h4, h9.trans h5, fun b c e fz hb hc => ?_⟩
        obtain ⟨c', e', fz', hc', hs⟩ := h6 b c e fz hb hc
        obtain ⟨c'', e'', fz'', hc'', hs'⟩ := h10 b c' e' fz' (h5 ▸ hb) hc'
        exact ⟨c'', e'', fz'', hc'', hs'.trans hs⟩
  map := fun o es st h1 => by
    rcases h.map o es st h1 with h2 | ⟨es', st', h2, h3⟩
    · obtain ⟨ob', h3, h4⟩ := k.old o .gone 0 h2 trivial
      left
      rcases ob' with ⟨v, s, r⟩ | _ | _
      · obtain ⟨ob2, h5, h6⟩ := k.old o .gone (v + 1) h2 trivial
        rw [h3] at h5; obtain rfl := Option.some.inj h5
        simp [AObj.past] at h6
        omega
      · exact h4.elim
      · exact h3
    · rcases k.map o es' st' h2 with h4 | ⟨es'', st'', h4, h5⟩
      · exact .inl h4
      · exact .inr ⟨es'', st'', h4, h5.trans h3⟩

theorem Ext.w {A B : Env} (x : Ext A B) : ExtW A B := ⟨fun b h1 h2 hc => x.imm b h1 h2 (.inl hc), x.old, x.arr, x.map⟩

mutual
theorem VR.monoW {E E' : Env} (x : ExtW E E') : ∀ {d : D} {v : Value}, VR E d v → VR E' d v
  | _, _, .undef v => .undef v
  | _, _, .int k n => .int k n
  | _, _, .bool b => .bool b
  | _, _, .str s => .str s
  | _, _, .agg h => .agg (VRs.monoW x h)
  | _, _, .tup h => .tup (VRs.monoW x h)
  | _, _, .sl0 a cap => .sl0 a cap
  | _, _, .sl (xs := xs) (vs := vs) h1 h2 h3 h4 h5 h6 h7 =>
    have q := x.imm _ h2 h3 h6.isCells
    .sl h1 q.1 q.2.1 h4 h5 (by obtain ⟨r1, c, e, fz, r2, r3⟩ := h6; exact ⟨r1, c, e, fz, q.2.2.trans r2, r3⟩) (VRs.monoW x h7)
  | _, _, .nils => .nils
  | _, _, .hold a len cap h1 h2 => by
    obtain ⟨ob', h3, h4⟩ := x.old _ _ _ h1 h2
    exact .hold a len cap h3 h4
  | _, _, .hnil (o := o) (ver := ver) (sz := sz) h1 h2 => by
    rcases x.arr _ _ _ _ h1 with ⟨ob', h3, h4⟩ | ⟨rows', h3, h4, h5, _⟩
    · exact .hold _ _ _ h3 h4
    · obtain rfl : rows' = [] := List.length_eq_zero_iff.mp h4
      exact .hnil h3 (h5.trans h2)
  | _, _, .h h1 h2 h3 h4 h5 h6 h7 => by
    rcases x.arr _ _ _ _ h1 with ⟨ob', g3, g4⟩ | ⟨rows', g3, g4, g5, g6⟩
    · exact .hold _ _ _ g3 g4
    · obtain ⟨c', e', fz', g7, g8⟩ := g6 _ _ _ _ h2 h5
      exact .h g3 (g5.trans h2) (g4 ▸ h3) h4 g7 (g8 ▸ h6) h7
  | _, _, .pold a h1 h2 => by
    obtain ⟨ob', h3, h4⟩ := x.old _ _ _ h1 h2
    exact .pold a h3 h4
  | _, _, .p h1 h2 h3 h4 => by
    rcases x.arr _ _ _ _ h1 with ⟨ob', g3, g4⟩ | ⟨rows', g3, g4, g5, g6⟩
    · exact .pold _ g3 g4
    · exact .p g3 (g5.trans h2) (g4 ▸ h3) h4
  | _, _, .pe h2 h3 h6 h7 =>
    have q := x.imm _ h2 h3 h6.isCells
    .pe q.1 q.2.1 (by obtain ⟨r1, c, e, fz, r2, r3⟩ := h6; exact ⟨r1, c, e, fz, q.2.2.trans r2, r3⟩) (VRs.monoW x h7)
  | _, _, .pnil => .pnil
  | _, _, .map h1 h2 => by
    rcases x.map _ _ _ h1 with h3 | ⟨es', st', h3, h4⟩
    · exact .mold _ h3
    · exact .map h3 (h4.trans h2)
  | _, _, .mnil => .mnil
  | _, _, .mold (o := o) r h1 => by
    obtain ⟨ob', h3, h4⟩ := x.old o .gone 0 h1 trivial
    rcases ob' with ⟨v, s, rr⟩ | _ | _
    · obtain ⟨ob2, h5, h6⟩ := x.old o .gone (v + 1) h1 trivial
      rw [h3] at h5; obtain rfl := Option.some.inj h5
      simp [AObj.past] at h6
      omega
    · exact h4.elim
    · exact .mold r h3
  | _, _, .fn h => .fn (VRs.monoW x h)
  | _, _, .fnil => .fnil
  | _, _, .ifc h => .ifc (VR.monoW x h)
  | _, _, .inil => .inil
  | _, _, .raw v => .raw v
theorem VRs.monoW {E E' : Env} (x : ExtW E E') : ∀ {ds : List D} {vs : List Value}, VRs E ds vs → VRs E' ds vs
  | _, _, .nil => .nil
  | _, _, .cons h t => .cons (VR.monoW x h) (VRs.monoW x t)
end

theorem VR.mono {E E' : Env} (x : Ext E E') {d : D} {v : Value} (h : VR E d v) : VR E' d v := VR.monoW x.w h
theorem VRs.mono {E E' : Env} (x : Ext E E') {ds : List D} {vs : List Value} (h : VRs E ds vs) : VRs E' ds vs := VRs.monoW x.w h

theorem VRs.length {E : Env} : ∀ {ds : List D} {vs : List Value}, VRs E ds vs → ds.length = vs.length
  | _, _, .nil => rfl
  | _, _, .cons _ t => by simp [VRs.length t]

theorem VRs.append {E : Env} : ∀ {ds : List D} {vs : List Value} {ds' : List D} {vs' : List Value}, VRs E ds vs → VRs E ds' vs' → VRs E (ds ++ ds') (vs ++ vs')
  | _, _, _, _, .nil, h => h
  | _, _, _, _, .cons h t, h' => .cons h (VRs.append t h')

theorem VRs.get {E : Env} : ∀ {ds : List D} {vs : List Value} (_ : VRs E ds vs) (i : Nat) (d : D), ds[i]? = some d → ∃ v, vs[i]? = some v ∧ VR E d v
  | _, _, .nil, i, d, h => by simp at h
  | _, _, .cons (v := v) hh t, 0, d, h => by simp at h; exact ⟨v, rfl, h ▸ hh⟩
  | _, _, .cons hh t, i + 1, d, h => by
    obtain ⟨v, h1, h2⟩ := VRs.get t i d (by simpa using h)
    exact ⟨v, by simpa using h1, h2⟩

theorem VRs.get' {E : Env} : ∀ {ds : List D} {vs : List Value} (_ : VRs E ds vs) (i : Nat) (v : Value), vs[i]? = some v → ∃ d, ds[i]? = some d ∧ VR E d v
  | _, _, .nil, i, d, h => by simp at h
  | _, _, .cons (d := d) hh t, 0, v, h => by simp at h; exact ⟨d, rfl, h ▸ hh⟩
  | _, _, .cons hh t, i + 1, v, h => by
    obtain ⟨d, h1, h2⟩ := VRs.get' t i v (by simpa using h)
    exact ⟨d, by simpa using h1, h2⟩

theorem VRs.set {E : Env} : ∀ {ds : List D} {vs : List Value} (_ : VRs E ds vs) (i : Nat) {d : D} {v : Value}, VR E d v → VRs E (ds.set i d) (vs.set i v)
  | _, _, .nil, _, _, _, _ => .nil
  | _, _, .cons _ t, 0, _, _, h => .cons h t
  | _, _, .cons hh t, i + 1, _, _, h => .cons hh (VRs.set t i h)

theorem VRs.drop {E : Env} : ∀ {ds : List D} {vs : List Value} (_ : VRs E ds vs) (i : Nat), VRs E (ds.drop i) (vs.drop i)
  | _, _, h, 0 => by simpa using h
  | _, _, .nil, i + 1 => .nil
  | _, _, .cons _ t, i + 1 => VRs.drop t i

theorem VRs.take {E : Env} : ∀ {ds : List D} {vs : List Value} (_ : VRs E ds vs) (i : Nat), VRs E (ds.take i) (vs.take i)
  | _, _, _, 0 => .nil
  | _, _, .nil, i + 1 => .nil
  | _, _, .cons h t, i + 1 => .cons h (VRs.take t i)

theorem VRs.split {E : Env} : ∀ {ds ds' : List D} {vs : List Value}, VRs E (ds ++ ds') vs → ∃ vs1 vs2, vs = vs1 ++ vs2 ∧ VRs E ds vs1 ∧ VRs E ds' vs2
  | [], _, vs, h => ⟨[], vs, rfl, .nil, h⟩
  | _ :: _, _, _, .cons h t => by
    obtain ⟨vs1, vs2, e, h1, h2⟩ := VRs.split t
    exact ⟨_ :: vs1, vs2, by simp [e], .cons h h1, h2⟩

/-- Is it told at all. -/
def D.told : D → Bool
  | .undef => false
  | .raw _ => false
  | _ => true

theorem VR.cells {E : Env} {d : D} {v : Value} (h : VR E d v) (hd : d.told = true) : VRs E d.cells v.cells.toList := by
  have h0 := h
  cases h <;> first
    | (simp [D.told] at hd; done)
    | assumption
    | exact .cons h0 .nil

end Go.A
