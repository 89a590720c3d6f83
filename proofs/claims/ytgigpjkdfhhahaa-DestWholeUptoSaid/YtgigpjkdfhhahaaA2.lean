/- A logic of abstract states, part 2: what is owned, and how the world goes on. -/
import Derived.Test.YtgigpjkdfhhahaaA1
namespace Go.A

/-- No cell is frozen. -/
def NoFz (n : Nat) (fz : Nat × Nat) : Prop := fz.1 = fz.2 ∨ n ≤ fz.1
def CellsAt (heap : Array Obj) (b : Nat) (c : Array Value) (e : TypeId) : Prop := ∃ fz, NoFz c.size fz ∧ heap[b]? = some (Obj.cells c e fz)
theorem CellsAt.mk0 {heap : Array Obj} {b : Nat} {c : Array Value} {e : TypeId} (h : heap[b]? = some (Obj.cells c e (0, 0))) : CellsAt heap b c e := ⟨(0, 0), .inl rfl, h⟩

theorem CellsAt.via {heap heap' : Array Obj} {b : Nat} {c : Array Value} {e : TypeId} (k : heap'[b]? = heap[b]?) (h : CellsAt heap b c e) : CellsAt heap' b c e := let ⟨fz, h1, h2⟩ := h; ⟨fz, h1, k.trans h2⟩

/-- What is told of one owned thing. -/
def Cl (E : Env) (o : Nat) : AObj → Prop
  | .arr _ sz rows => (E.φ[o]? = some none ∧ rows = []) ∨ ∃ b, E.φ[o]? = some (some b) ∧ E.N b ∧ 0 < sz ∧ (∀ x ∈ rows, x.cells.length = sz) ∧
      ∃ c e vs, CellsAt E.heap b c e ∧ VRs E (flat rows) vs ∧ ∀ (j : Nat) v, vs[j]? = some v → c[j]? = some v
  | .mapx es st => ∃ b, E.φ[o]? = some (some b) ∧ E.N b ∧ ∃ ents clock, E.heap[b]? = some (Obj.map ents clock) ∧
      VRs E (es.map (·.1)) (ents.toList.map (·.key)) ∧ VRs E (es.map (·.2)) (ents.toList.map (·.val)) ∧
      (∀ x ∈ ents.toList, x.born < clock) ∧ (ents.toList.map (·.born)).Nodup ∧ ∀ bs ck, st = some (bs, ck) → ents.toList.map (·.born) = bs ∧ clock = ck
  | .gone => True

structure HRel (E : Env) : Prop where
  len : E.φ.length = E.H.length
  cl : ∀ (o : Nat) ob, E.H[o]? = some ob → Cl E o ob
  inj : ∀ (o o' b : Nat) ob ob', E.H[o]? = some ob → AObj.alive ob → E.H[o']? = some ob' → AObj.alive ob' → E.φ[o]? = some (some b) → E.φ[o']? = some (some b) → o = o'

/-- Where a call began. -/
structure Ctx where
  N0 : Nat → Prop
  φ0 : List (Option Nat)
  H0 : List AObj
  w0 : World
  /-- The loop over a function whose round this is. -/
  ro : Option Nat
  /-- From where on marks lie. -/
  mb : Nat

def owns (φ : List (Option Nat)) (H : List AObj) (b : Nat) : Prop := ∃ (o : Nat) (ob : AObj), φ[o]? = some (some b) ∧ H[o]? = some ob ∧ AObj.alive ob

/-- No more was owned at the beginning; and of a round its loop is there. -/
structure Ctx.le (C : Ctx) (n : Nat) : Prop where
  f : C.φ0.length ≤ n
  h : C.H0.length ≤ n
  r : ∀ l, C.ro = some l → l < C.w0.heap.size ∧ ¬ owns C.φ0 C.H0 l ∧ ∃ r, C.w0.heap[l]? = some (Obj.loop r)
  m : C.mb ≤ C.w0.heap.size


def Ctx.N (C : Ctx) (φ : List (Option Nat)) (H : List AObj) (b : Nat) : Prop := (b < C.w0.heap.size ∧ C.N0 b) ∨ (C.w0.heap.size ≤ b ∧ owns φ H b)

def Ctx.env (C : Ctx) (φ : List (Option Nat)) (H : List AObj) (w : World) : Env := ⟨C.N φ H, φ, H, w.heap⟩

def Ctx.env0 (C : Ctx) : Env := ⟨C.N0, C.φ0, C.H0, C.w0.heap⟩

/-- Who owned a block at the beginning. -/
def Ctx.at0 (C : Ctx) (o b : Nat) : Prop := C.φ0[o]? = some (some b) ∧ ∃ ob, C.H0[o]? = some ob ∧ AObj.alive ob

theorem Ctx.at0.owns {C : Ctx} {o b : Nat} (h : C.at0 o b) : Go.A.owns C.φ0 C.H0 b := by
  obtain ⟨h1, ob, h2, h3⟩ := h
  exact ⟨o, ob, h1, h2, h3⟩

structure Same (w w' : World) : Prop where
  os : w'.os = w.os
  tape : w'.tape = w.tape
  output : w'.output = w.output
  drawn : w.drawn ≤ w'.drawn

theorem Same.refl (w : World) : Same w w := ⟨rfl, rfl, rfl, Nat.le_refl _⟩
theorem Same.trans {a b c : World} (h : Same a b) (k : Same b c) : Same a c := ⟨k.os.trans h.os, k.tape.trans h.tape, k.output.trans h.output, Nat.le_trans h.drawn k.drawn⟩

structure G (C : Ctx) (φ : List (Option Nat)) (H : List AObj) (w : World) : Prop where
  objs : HRel (C.env φ H w)
  size : C.w0.heap.size ≤ w.heap.size
  same : ∀ b, b < C.w0.heap.size → ¬ owns C.φ0 C.H0 b → w.heap[b]? = C.w0.heap[b]?
  own : ∀ (o b : Nat) ob, H[o]? = some ob → AObj.alive ob → φ[o]? = some (some b) → b < w.heap.size ∧ (b < C.w0.heap.size → C.at0 o b)
  world : Same C.w0 w
  n0 : ∀ b, owns C.φ0 C.H0 b → C.N0 b
  hlen : C.H0.length ≤ H.length
  ext : Ext C.env0 (C.env φ H w)

theorem G.nOf {C φ H w} (g : G C φ H w) {o b : Nat} {ob : AObj} (h : H[o]? = some ob) (ha : AObj.alive ob) (hb : φ[o]? = some (some b)) : C.N φ H b := by
  rcases Nat.lt_or_ge b C.w0.heap.size with hlt | hge
  · exact .inl ⟨hlt, g.n0 _ ((g.own o b ob h ha hb).2 hlt).owns⟩
  · exact .inr ⟨hge, o, ob, hb, h, ha⟩

/-- The heap as it was: a draw. -/
theorem G.draw {C φ H w w'} (g : G C φ H w) (hh : w'.heap = w.heap) (hs : Same w w') : G C φ H w' ∧ C.env φ H w' = C.env φ H w := by
  have e : C.env φ H w' = C.env φ H w := by simp [Ctx.env, hh]
  refine ⟨⟨e ▸ g.objs, hh ▸ g.size, fun b h1 h2 => hh ▸ g.same b h1 h2, fun o b ob h1 h2 h3 => hh ▸ g.own o b ob h1 h2 h3, g.world.trans hs, g.n0, g.hlen, e ▸ g.ext⟩, e⟩

theorem Cl.monoW {E E' : Env} (x : ExtW E E') {o : Nat} {ob : AObj} (hφ : E'.φ[o]? = E.φ[o]?) (hb : ∀ b, AObj.alive ob → E.φ[o]? = some (some b) → E'.heap[b]? = E.heap[b]? ∧ (E.N b → E'.N b))
    (h : Cl E o ob) : Cl E' o ob := by
  cases ob with
  | arr ver sz rows =>
    rcases h with ⟨h1, h2⟩ | ⟨b, h1, h2, h3, h4, c, e, vs, h5, h6, h7⟩
    · exact .inl ⟨hφ.trans h1, h2⟩
    · obtain ⟨k1, k2⟩ := hb b trivial h1
      exact .inr ⟨b, hφ.trans h1, k2 h2, h3, h4, c, e, vs, CellsAt.via k1 h5, VRs.monoW x h6, h7⟩
  | mapx es st =>
    obtain ⟨b, h1, h2, ents, clock, h3, h4, h5, h6, h7⟩ := h
    obtain ⟨k1, k2⟩ := hb b trivial h1
    exact ⟨b, hφ.trans h1, k2 h2, ents, clock, k1.trans h3, VRs.monoW x h4, VRs.monoW x h5, h6, h7⟩
  | gone => trivial

theorem Cl.mono {E E' : Env} (x : Ext E E') {o : Nat} {ob : AObj} (hφ : E'.φ[o]? = E.φ[o]?) (hb : ∀ b, AObj.alive ob → E.φ[o]? = some (some b) → E'.heap[b]? = E.heap[b]? ∧ (E.N b → E'.N b))
    (h : Cl E o ob) : Cl E' o ob := Cl.monoW x.w hφ hb h

theorem getElem?_snoc_lt {α : Type} {l : List α} {x : α} {i : Nat} {y : α} (h : l[i]? = some y) : (l ++ [x])[i]? = some y := by
  have hi := (List.getElem?_eq_some_iff.mp h).1
  rw [List.getElem?_append_left hi]; exact h

theorem getElem?_snoc {α : Type} {l : List α} {x : α} {i : Nat} {y : α} (h : (l ++ [x])[i]? = some y) : (i < l.length ∧ l[i]? = some y) ∨ (i = l.length ∧ y = x) := by
  rcases Nat.lt_or_ge i l.length with hi | hi
  · rw [List.getElem?_append_left hi] at h; exact .inl ⟨hi, h⟩
  · rw [List.getElem?_append_right hi] at h
    rcases Nat.eq_or_lt_of_le hi with e | e
    · subst e; simp at h; exact .inr ⟨rfl, h.symm⟩
    · have : i - l.length ≠ 0 := by omega
      cases hk : i - l.length with
      | zero => omega
      | succ k => rw [hk] at h; simp at h

/-- A new block: an owned thing more. -/
theorem G.push {C φ H w w'} (g : G C φ H w) (ob : AObj) (obj : Obj) (ha : AObj.alive ob) (hh : w'.heap = w.heap.push obj) (hs : Same w w')
    (hcl : ∀ E', E' = C.env (φ ++ [some w.heap.size]) (H ++ [ob]) w' → Ext (C.env φ H w) E' → E'.φ[H.length]? = some (some w.heap.size) → E'.N w.heap.size → E'.heap[w.heap.size]? = some obj → Cl E' H.length ob) :
    G C (φ ++ [some w.heap.size]) (H ++ [ob]) w' ∧ Ext (C.env φ H w) (C.env (φ ++ [some w.heap.size]) (H ++ [ob]) w') := by
  have hl : φ.length = H.length := g.objs.len
  have hget : ∀ b, b < w.heap.size → w'.heap[b]? = w.heap[b]? := fun b hb => by rw [hh, Array.getElem?_push, if_neg (by omega)]
  have hnew : w'.heap[w.heap.size]? = some obj := by rw [hh, Array.getElem?_push, if_pos rfl]
  have hsz : w'.heap.size = w.heap.size + 1 := by rw [hh]; simp
  have hφ : ∀ (o b : Nat), (φ ++ [some w.heap.size])[o]? = some (some b) → (o < φ.length ∧ φ[o]? = some (some b)) ∨ (o = φ.length ∧ b = w.heap.size) := fun o b h => by
    rcases getElem?_snoc h with ⟨h1, h2⟩ | ⟨h1, h2⟩
    · exact .inl ⟨h1, h2⟩
    · exact .inr ⟨h1, by simpa using h2⟩
  have hnl : (φ ++ [some w.heap.size])[H.length]? = some (some w.heap.size) := by rw [← hl]; simp
  have hHl : (H ++ [ob])[H.length]? = some ob := by simp
  have hN : ∀ b, b < w.heap.size → (C.N (φ ++ [some w.heap.size]) (H ++ [ob]) b ↔ C.N φ H b) := fun b hb => by
    constructor
    · rintro (h | ⟨h1, o, ob1, h2, h3, h4⟩)
      · exact .inl h
      · rcases hφ o b h2 with ⟨k1, k2⟩ | ⟨k1, k2⟩
        · rcases getElem?_snoc h3 with ⟨m1, m2⟩ | ⟨m1, m2⟩
          · exact .inr ⟨h1, o, ob1, k2, m2, h4⟩
          · omega
        · omega
    · rintro (h | ⟨h1, o, ob1, h2, h3, h4⟩)
      · exact .inl h
      · exact .inr ⟨h1, o, ob1, getElem?_snoc_lt h2, getElem?_snoc_lt h3, h4⟩
  have hNn : C.N (φ ++ [some w.heap.size]) (H ++ [ob]) w.heap.size := .inr ⟨g.size, H.length, ob, hnl, hHl, ha⟩
  have x : Ext (C.env φ H w) (C.env (φ ++ [some w.heap.size]) (H ++ [ob]) w') := {
    imm := fun b h1 h2 hc => ⟨fun h => h1 ((hN b h2).mp h), by show b < w'.heap.size; have : b < w.heap.size := h2; omega, hget b h2⟩
    old := fun o ob1 ver h1 h2 => ⟨ob1, getElem?_snoc_lt h1, h2⟩
    arr := fun o ver sz rows h1 => .inr ⟨rows, getElem?_snoc_lt h1, rfl, by
        show (φ ++ [some w.heap.size])[o]? = φ[o]?
        rw [List.getElem?_append_left (by rw [hl]; exact (List.getElem?_eq_some_iff.mp h1).1)], fun b c e fz h2 h3 => ⟨c, e, fz, by
          have hb : b < w.heap.size := by
            have := (Array.getElem?_eq_some_iff.mp h3).1; exact this
          exact (hget b hb).trans h3, rfl⟩⟩
    map := fun o es st h1 => .inr ⟨es, st, getElem?_snoc_lt h1, by
        show (φ ++ [some w.heap.size])[o]? = φ[o]?
        rw [List.getElem?_append_left (by rw [hl]; exact (List.getElem?_eq_some_iff.mp h1).1)]⟩ }
  refine ⟨⟨⟨?_, ?_, ?_⟩, ?_, ?_, ?_, ?_, g.n0, ?_, g.ext.trans x⟩, x⟩
  · show (φ ++ [some w.heap.size]).length = (H ++ [ob]).length
    simp [hl]
  · intro o ob1 h1
    rcases getElem?_snoc h1 with ⟨m1, m2⟩ | ⟨m1, m2⟩
    · refine Cl.mono x ?_ ?_ (g.objs.cl o ob1 m2)
      · show (φ ++ [some w.heap.size])[o]? = φ[o]?
        rw [List.getElem?_append_left (by omega)]
      · intro b ha1 hb
        have hlt := (g.own o b ob1 m2 ha1 hb).1
        exact ⟨hget b hlt, fun h => (hN b hlt).mpr h⟩
    · subst m1 m2
      exact hcl _ rfl x hnl hNn hnew
  · intro o o' b ob1 ob1' h1 h2 h3 h4 h5 h6
    rcases hφ o b h5 with ⟨k1, k2⟩ | ⟨k1, k2⟩ <;> rcases hφ o' b h6 with ⟨k3, k4⟩ | ⟨k3, k4⟩
    · rcases getElem?_snoc h1 with ⟨m1, m2⟩ | ⟨m1, m2⟩
      · rcases getElem?_snoc h3 with ⟨m3, m4⟩ | ⟨m3, m4⟩
        · exact g.objs.inj o o' b ob1 ob1' m2 h2 m4 h4 k2 k4
        · omega
      · omega
    · rcases getElem?_snoc h1 with ⟨m1, m2⟩ | ⟨m1, m2⟩
      · have := (g.own o b ob1 m2 h2 k2).1; omega
      · omega
    · rcases getElem?_snoc h3 with ⟨m1, m2⟩ | ⟨m1, m2⟩
      · have := (g.own o' b ob1' m2 h4 k4).1; omega
      · omega
    · omega
  · have := g.size; omega
  · intro b h1 h2
    have := g.size
    rw [hget b (by omega)]; exact g.same b h1 h2
  · intro o b ob1 h1 h2 h3
    rcases hφ o b h3 with ⟨k1, k2⟩ | ⟨k1, k2⟩
    · rcases getElem?_snoc h1 with ⟨m1, m2⟩ | ⟨m1, m2⟩
      · have := g.own o b ob1 m2 h2 k2
        exact ⟨by omega, this.2⟩
      · omega
    · have := g.size
      exact ⟨by omega, fun h => by omega⟩
  · exact g.world.trans hs
  · have := g.hlen; simp; omega

/-- An owned thing more that has no block: a nil slice. -/
theorem G.pushNil {C φ H w} (g : G C φ H w) (sz : Nat) :
    G C (φ ++ [none]) (H ++ [.arr 0 sz []]) w ∧ Ext (C.env φ H w) (C.env (φ ++ [none]) (H ++ [.arr 0 sz []]) w) := by
  have hl : φ.length = H.length := g.objs.len
  have hφ : ∀ (o b : Nat), (φ ++ [none])[o]? = some (some b) → (o < φ.length ∧ φ[o]? = some (some b)) := fun o b h => by
    rcases getElem?_snoc h with ⟨h1, h2⟩ | ⟨h1, h2⟩
    · exact ⟨h1, h2⟩
    · cases h2
  have hH : ∀ (o : Nat) ob, (H ++ [AObj.arr 0 sz []])[o]? = some ob → o < φ.length → H[o]? = some ob := fun o ob h k => by
    rcases getElem?_snoc h with ⟨h1, h2⟩ | ⟨h1, h2⟩
    · exact h2
    · omega
  have hN : ∀ b, (C.N (φ ++ [none]) (H ++ [.arr 0 sz []]) b ↔ C.N φ H b) := fun b => by
    constructor
    · rintro (h | ⟨h1, o, ob1, h2, h3, h4⟩)
      · exact .inl h
      · have k := hφ o b h2
        exact .inr ⟨h1, o, ob1, k.2, hH o ob1 h3 k.1, h4⟩
    · rintro (h | ⟨h1, o, ob1, h2, h3, h4⟩)
      · exact .inl h
      · exact .inr ⟨h1, o, ob1, getElem?_snoc_lt h2, getElem?_snoc_lt h3, h4⟩
  have x : Ext (C.env φ H w) (C.env (φ ++ [none]) (H ++ [.arr 0 sz []]) w) := {
    imm := fun b h1 h2 hc => ⟨fun h => h1 ((hN b).mp h), h2, rfl⟩
    old := fun o ob1 ver h1 h2 => ⟨ob1, getElem?_snoc_lt h1, h2⟩
    arr := fun o ver sz1 rows h1 => .inr ⟨rows, getElem?_snoc_lt h1, rfl, by
        show (φ ++ [none])[o]? = φ[o]?
        rw [List.getElem?_append_left (by rw [hl]; exact (List.getElem?_eq_some_iff.mp h1).1)], fun b c e fz h2 h3 => ⟨c, e, fz, h3, rfl⟩⟩
    map := fun o es st h1 => .inr ⟨es, st, getElem?_snoc_lt h1, by
        show (φ ++ [none])[o]? = φ[o]?
        rw [List.getElem?_append_left (by rw [hl]; exact (List.getElem?_eq_some_iff.mp h1).1)]⟩ }
  refine ⟨⟨⟨?_, ?_, ?_⟩, g.size, g.same, ?_, g.world, g.n0, ?_, g.ext.trans x⟩, x⟩
  · show (φ ++ [none]).length = (H ++ [AObj.arr 0 sz []]).length
    simp [hl]
  · intro o ob1 h1
    rcases getElem?_snoc h1 with ⟨m1, m2⟩ | ⟨m1, m2⟩
    · refine Cl.mono x ?_ ?_ (g.objs.cl o ob1 m2)
      · show (φ ++ [none])[o]? = φ[o]?
        rw [List.getElem?_append_left (by omega)]
      · exact fun b _ _ => ⟨rfl, fun h => (hN b).mpr h⟩
    · subst m2
      exact .inl ⟨by show (φ ++ [none])[o]? = some none; rw [m1, ← hl]; simp, rfl⟩
  · intro o o' b ob1 ob1' h1 h2 h3 h4 h5 h6
    have k1 := hφ o b h5
    have k2 := hφ o' b h6
    exact g.objs.inj o o' b ob1 ob1' (hH _ _ h1 k1.1) h2 (hH _ _ h3 k2.1) h4 k1.2 k2.2
  · intro o b ob1 h1 h2 h3
    have k1 := hφ o b h3
    exact g.own o b ob1 (hH _ _ h1 k1.1) h2 k1.2
  · have := g.hlen; simp; omega

/-- How an owned thing may turn. -/
structure Turn (ob ob' : AObj) : Prop where
  old : ∀ ver, AObj.past ver ob → AObj.past ver ob'
  arr : ∀ ver sz rows, ob = .arr ver sz rows → AObj.past ver ob' ∨ ∃ rows', ob' = .arr ver sz rows' ∧ rows'.length = rows.length
  map : ∀ es st, ob = .mapx es st → ob' = .gone ∨ ∃ es' st', ob' = .mapx es' st'

/-- An owned thing is turned, in its block, which keeps its size; or it moves to a new block. -/
theorem G.turn {C φ H w w'} (g : G C φ H w) {o b b' : Nat} {ob ob' : AObj} (ho : H[o]? = some ob) (ha : AObj.alive ob) (hb : φ[o]? = some (some b)) (ha' : AObj.alive ob')
    (ht : Turn ob ob') (hs : Same w w') (hsz : w.heap.size ≤ w'.heap.size) (hb' : b' < w'.heap.size)
    (hheap : ∀ k, k < w.heap.size → k ≠ b → w'.heap[k]? = w.heap[k]?)
    (hnb : (b' = b ∧ ∀ c e fz, w.heap[b]? = some (Obj.cells c e fz) → ∃ c' e' fz', w'.heap[b]? = some (Obj.cells c' e' fz') ∧ c'.size = c.size) ∨ (w.heap.size ≤ b' ∧ ∀ ver sz rows, ob = .arr ver sz rows → AObj.past ver ob') ∧ ∀ es st, ob ≠ .mapx es st)
    (hcl : ∀ E', E' = C.env (φ.set o (some b')) (H.set o ob') w' → Ext (C.env φ H w) E' → E'.φ[o]? = some (some b') → E'.N b' → Cl E' o ob') :
    G C (φ.set o (some b')) (H.set o ob') w' ∧ Ext (C.env φ H w) (C.env (φ.set o (some b')) (H.set o ob') w') := by
  have hl : φ.length = H.length := g.objs.len
  have hoH : o < H.length := (List.getElem?_eq_some_iff.mp ho).1
  have hblt := (g.own o b ob ho ha hb).1
  have hbN : C.N φ H b := g.nOf ho ha hb
  have hsetH : (H.set o ob')[o]? = some ob' := by simp [hoH]
  have hsetφ : (φ.set o (some b'))[o]? = some (some b') := by simp [hl, hoH]
  have hH : ∀ (o1 : Nat), o1 ≠ o → (H.set o ob')[o1]? = H[o1]? := fun o1 h => by simp [Ne.symm h]
  have hφ : ∀ (o1 : Nat), o1 ≠ o → (φ.set o (some b'))[o1]? = φ[o1]? := fun o1 h => by simp [Ne.symm h]
  have hother : ∀ (o1 k : Nat) ob1, o1 ≠ o → H[o1]? = some ob1 → AObj.alive ob1 → φ[o1]? = some (some k) → k ≠ b := fun o1 k ob1 h1 h2 h3 h4 e => by
    subst e; exact h1 (g.objs.inj o1 o k ob1 ob h2 h3 ho ha h4 hb)
  have hNo : ∀ k, k < w.heap.size → k ≠ b → (C.N (φ.set o (some b')) (H.set o ob') k → C.N φ H k) := fun k hk hne => by
    rintro (h | ⟨h1, o1, ob1, h2, h3, h4⟩)
    · exact .inl h
    · by_cases e : o1 = o
      · subst e
        rw [hsetφ] at h2
        have : b' = k := by simpa using h2
        rcases hnb with ⟨h5, _⟩ | ⟨⟨h5, _⟩, _⟩
        · omega
        · omega
      · rw [hφ o1 e] at h2; rw [hH o1 e] at h3
        exact .inr ⟨h1, o1, ob1, h2, h3, h4⟩
  have hNo' : ∀ (o1 k : Nat) ob1, o1 ≠ o → H[o1]? = some ob1 → AObj.alive ob1 → φ[o1]? = some (some k) → C.N φ H k → C.N (φ.set o (some b')) (H.set o ob') k := fun o1 k ob1 h1 h2 h3 h4 hn => by
    rcases Nat.lt_or_ge k C.w0.heap.size with hlt | hge
    · exact .inl ⟨hlt, g.n0 _ ((g.own o1 k ob1 h2 h3 h4).2 hlt).owns⟩
    · exact .inr ⟨hge, o1, ob1, by rw [hφ o1 h1]; exact h4, by rw [hH o1 h1]; exact h2, h3⟩
  have hNb' : C.N (φ.set o (some b')) (H.set o ob') b' := by
    rcases Nat.lt_or_ge b' C.w0.heap.size with hlt | hge
    · have hbb : b' = b := by
        rcases hnb with ⟨h5, _⟩ | ⟨⟨h5, _⟩, _⟩
        · exact h5
        · have := g.size; omega
      subst hbb
      exact .inl ⟨hlt, g.n0 _ ((g.own o b' ob ho ha hb).2 hlt).owns⟩
    · exact .inr ⟨hge, o, ob', hsetφ, hsetH, ha'⟩
  have x : Ext (C.env φ H w) (C.env (φ.set o (some b')) (H.set o ob') w') := {
    imm := fun k h1 h2 hc => by
      have hne : k ≠ b := fun e => h1 (e ▸ hbN)
      exact ⟨fun h => h1 (hNo k h2 hne h), Nat.lt_of_lt_of_le h2 hsz, hheap k h2 hne⟩
    old := fun o1 ob1 ver h1 h2 => by
      by_cases e : o1 = o
      · subst e
        have h1' : H[o1]? = some ob1 := h1
        rw [ho] at h1'; obtain rfl := Option.some.inj h1'
        exact ⟨ob', hsetH, ht.old ver h2⟩
      · exact ⟨ob1, (hH o1 e).trans h1, h2⟩
    arr := fun o1 ver sz rows h1 => by
      by_cases e : o1 = o
      · subst e
        have h1' : H[o1]? = some (.arr ver sz rows) := h1
        rw [ho] at h1'; obtain rfl := Option.some.inj h1'
        rcases ht.arr ver sz rows rfl with h2 | ⟨rows', h2, h3⟩
        · exact .inl ⟨ob', hsetH, h2⟩
        · rcases hnb with ⟨h5, h6⟩ | ⟨⟨h5, h6⟩, _⟩
          · subst h5
            refine .inr ⟨rows', h2 ▸ hsetH, h3, ?_, ?_⟩
            · show (φ.set o1 (some b'))[o1]? = φ[o1]?
              rw [hsetφ, hb]
            · intro b1 c e1 fz k1 k2
              have k1' : φ[o1]? = some (some b1) := k1
              rw [hb] at k1'
              obtain rfl : b' = b1 := by simpa using k1'
              exact h6 c e1 fz k2
          · exact .inl ⟨ob', hsetH, h6 ver sz rows rfl⟩
      · refine .inr ⟨rows, (hH o1 e).trans h1, rfl, hφ o1 e, fun b1 c e1 fz k1 k2 => ⟨c, e1, fz, ?_, rfl⟩⟩
        have k1' : φ[o1]? = some (some b1) := k1
        have h1' : H[o1]? = some (.arr ver sz rows) := h1
        have hb1 : b1 < w.heap.size := (g.own o1 b1 _ h1' trivial k1').1
        exact (hheap b1 hb1 (hother o1 b1 _ e h1' trivial k1')).trans k2
    map := fun o1 es st h1 => by
      by_cases e : o1 = o
      · subst e
        have h1' : H[o1]? = some (.mapx es st) := h1
        rw [ho] at h1'; obtain rfl := Option.some.inj h1'
        rcases ht.map es st rfl with h2 | ⟨es', st', h2⟩
        · exact .inl (h2 ▸ hsetH)
        · rcases hnb with ⟨h5, h6⟩ | ⟨⟨h5, h6⟩, h7⟩
          · refine .inr ⟨es', st', h2 ▸ hsetH, ?_⟩
            show (φ.set o1 (some b'))[o1]? = φ[o1]?
            rw [hsetφ, hb, h5]
          · exact absurd rfl (h7 es st)
      · exact .inr ⟨es, st, (hH o1 e).trans h1, hφ o1 e⟩ }
  refine ⟨⟨⟨?_, ?_, ?_⟩, ?_, ?_, ?_, ?_, g.n0, ?_, g.ext.trans x⟩, x⟩
  · show (φ.set o (some b')).length = (H.set o ob').length
    simp [hl]
  · intro o1 ob1 h1
    by_cases e : o1 = o
    · subst e
      have h1' : (H.set o1 ob')[o1]? = some ob1 := h1
      rw [hsetH] at h1'; obtain rfl := Option.some.inj h1'
      exact hcl _ rfl x hsetφ hNb'
    · have h1' : (H.set o ob')[o1]? = some ob1 := h1
      rw [hH o1 e] at h1'
      refine Cl.mono x (hφ o1 e) ?_ (g.objs.cl o1 ob1 h1')
      intro k ha1 hk
      have hk' : φ[o1]? = some (some k) := hk
      have hlt := (g.own o1 k ob1 h1' ha1 hk').1
      exact ⟨hheap k hlt (hother o1 k ob1 e h1' ha1 hk'), hNo' o1 k ob1 e h1' ha1 hk'⟩
  · intro o1 o2 k ob1 ob2 h1 h2 h3 h4 h5 h6
    have h1' : (H.set o ob')[o1]? = some ob1 := h1
    have h3' : (H.set o ob')[o2]? = some ob2 := h3
    have h5' : (φ.set o (some b'))[o1]? = some (some k) := h5
    have h6' : (φ.set o (some b'))[o2]? = some (some k) := h6
    by_cases e1 : o1 = o <;> by_cases e2 : o2 = o
    · omega
    · subst e1
      rw [hsetφ] at h5'; rw [hφ o2 e2] at h6'; rw [hH o2 e2] at h3'
      obtain rfl : b' = k := by simpa using h5'
      have k1 := (g.own o2 b' ob2 h3' h4 h6').1
      have k2 := hother o2 b' ob2 e2 h3' h4 h6'
      rcases hnb with ⟨h7, _⟩ | ⟨⟨h7, _⟩, _⟩
      · omega
      · omega
    · subst e2
      rw [hsetφ] at h6'; rw [hφ o1 e1] at h5'; rw [hH o1 e1] at h1'
      obtain rfl : b' = k := by simpa using h6'
      have k1 := (g.own o1 b' ob1 h1' h2 h5').1
      have k2 := hother o1 b' ob1 e1 h1' h2 h5'
      rcases hnb with ⟨h7, _⟩ | ⟨⟨h7, _⟩, _⟩
      · omega
      · omega
    · rw [hφ o1 e1] at h5'; rw [hH o1 e1] at h1'; rw [hφ o2 e2] at h6'; rw [hH o2 e2] at h3'
      exact g.objs.inj o1 o2 k ob1 ob2 h1' h2 h3' h4 h5' h6'
  · have := g.size; omega
  · intro k h1 h2
    have hne : k ≠ b := fun e => h2 (e ▸ ((g.own o b ob ho ha hb).2 (e ▸ h1)).owns)
    have := g.size
    rw [hheap k (by omega) hne]; exact g.same k h1 h2
  · intro o1 k ob1 h1 h2 h3
    by_cases e : o1 = o
    · subst e
      rw [hsetφ] at h3
      obtain rfl : b' = k := by simpa using h3
      refine ⟨hb', fun hlt => ?_⟩
      rcases hnb with ⟨h7, _⟩ | ⟨⟨h7, _⟩, _⟩
      · subst h7; exact (g.own o1 b' ob ho ha hb).2 hlt
      · have := g.size; omega
    · rw [hφ o1 e] at h3; rw [hH o1 e] at h1
      have := g.own o1 k ob1 h1 h2 h3
      exact ⟨by omega, this.2⟩
  · exact g.world.trans hs
  · have := g.hlen; simp; omega

/-- A nil slice that is owned comes to a block. -/
theorem G.give {C φ H w w'} (g : G C φ H w) {o ver sz : Nat} {obj : Obj} {ob' : AObj} (ho : H[o]? = some (.arr ver sz [])) (hb : φ[o]? = some none) (ha' : AObj.alive ob')
    (ht : ∀ v, v ≤ ver → AObj.past v ob') (hs : Same w w') (hh : w'.heap = w.heap.push obj)
    (hcl : ∀ E', E' = C.env (φ.set o (some w.heap.size)) (H.set o ob') w' → Ext (C.env φ H w) E' → E'.φ[o]? = some (some w.heap.size) → E'.N w.heap.size → E'.heap[w.heap.size]? = some obj → Cl E' o ob') :
    G C (φ.set o (some w.heap.size)) (H.set o ob') w' ∧ Ext (C.env φ H w) (C.env (φ.set o (some w.heap.size)) (H.set o ob') w') := by
  have hl : φ.length = H.length := g.objs.len
  have hoH : o < H.length := (List.getElem?_eq_some_iff.mp ho).1
  have hsetH : (H.set o ob')[o]? = some ob' := by simp [hoH]
  have hsetφ : (φ.set o (some w.heap.size))[o]? = some (some w.heap.size) := by simp [hl, hoH]
  have hH : ∀ (o1 : Nat), o1 ≠ o → (H.set o ob')[o1]? = H[o1]? := fun o1 h => by simp [Ne.symm h]
  have hφ : ∀ (o1 : Nat), o1 ≠ o → (φ.set o (some w.heap.size))[o1]? = φ[o1]? := fun o1 h => by simp [Ne.symm h]
  have hget : ∀ b, b < w.heap.size → w'.heap[b]? = w.heap[b]? := fun b hb => by rw [hh, Array.getElem?_push, if_neg (by omega)]
  have hnew : w'.heap[w.heap.size]? = some obj := by rw [hh, Array.getElem?_push, if_pos rfl]
  have hsz : w'.heap.size = w.heap.size + 1 := by rw [hh]; simp
  have hNo : ∀ k, k < w.heap.size → (C.N (φ.set o (some w.heap.size)) (H.set o ob') k → C.N φ H k) := fun k hk => by
    rintro (h | ⟨h1, o1, ob1, h2, h3, h4⟩)
    · exact .inl h
    · by_cases e : o1 = o
      · subst e
        rw [hsetφ] at h2
        have : w.heap.size = k := by simpa using h2
        omega
      · rw [hφ o1 e] at h2; rw [hH o1 e] at h3
        exact .inr ⟨h1, o1, ob1, h2, h3, h4⟩
  have hne : ∀ (o1 k : Nat), φ[o1]? = some (some k) → o1 ≠ o := fun o1 k h e => by subst e; rw [hb] at h; cases h
  have hNo' : ∀ k, C.N φ H k → C.N (φ.set o (some w.heap.size)) (H.set o ob') k := fun k => by
    rintro (h | ⟨h1, o1, ob1, h2, h3, h4⟩)
    · exact .inl h
    · have e := hne o1 k h2
      exact .inr ⟨h1, o1, ob1, by rw [hφ o1 e]; exact h2, by rw [hH o1 e]; exact h3, h4⟩
  have hNb' : C.N (φ.set o (some w.heap.size)) (H.set o ob') w.heap.size := .inr ⟨g.size, o, ob', hsetφ, hsetH, ha'⟩
  have x : Ext (C.env φ H w) (C.env (φ.set o (some w.heap.size)) (H.set o ob') w') := {
    imm := fun k h1 h2 hc => ⟨fun h => h1 (hNo k h2 h), by show k < w'.heap.size; have : k < w.heap.size := h2; omega, hget k h2⟩
    old := fun o1 ob1 v h1 h2 => by
      by_cases e : o1 = o
      · subst e
        have h1' : H[o1]? = some ob1 := h1
        rw [ho] at h1'; obtain rfl := Option.some.inj h1'
        exact ⟨ob', hsetH, ht v (Nat.le_of_lt h2)⟩
      · exact ⟨ob1, (hH o1 e).trans h1, h2⟩
    arr := fun o1 v sz1 rows h1 => by
      by_cases e : o1 = o
      · subst e
        have h1' : H[o1]? = some (.arr v sz1 rows) := h1
        rw [ho] at h1'; cases h1'
        exact .inl ⟨ob', hsetH, ht _ (Nat.le_refl _)⟩
      · refine .inr ⟨rows, (hH o1 e).trans h1, rfl, hφ o1 e, fun b1 c e1 fz k1 k2 => ⟨c, e1, fz, ?_, rfl⟩⟩
        have k1' : φ[o1]? = some (some b1) := k1
        have h1' : H[o1]? = some (.arr v sz1 rows) := h1
        exact (hget b1 (g.own o1 b1 _ h1' trivial k1').1).trans k2
    map := fun o1 es st h1 => by
      by_cases e : o1 = o
      · subst e
        have h1' : H[o1]? = some (.mapx es st) := h1
        rw [ho] at h1'; cases h1'
      · exact .inr ⟨es, st, (hH o1 e).trans h1, hφ o1 e⟩ }
  refine ⟨⟨⟨?_, ?_, ?_⟩, ?_, ?_, ?_, ?_, g.n0, ?_, g.ext.trans x⟩, x⟩
  · show (φ.set o (some w.heap.size)).length = (H.set o ob').length
    simp [hl]
  · intro o1 ob1 h1
    by_cases e : o1 = o
    · subst e
      have h1' : (H.set o1 ob')[o1]? = some ob1 := h1
      rw [hsetH] at h1'; obtain rfl := Option.some.inj h1'
      exact hcl _ rfl x hsetφ hNb' hnew
    · have h1' : (H.set o ob')[o1]? = some ob1 := h1
      rw [hH o1 e] at h1'
      refine Cl.mono x (hφ o1 e) ?_ (g.objs.cl o1 ob1 h1')
      intro k ha1 hk
      have hk' : φ[o1]? = some (some k) := hk
      exact ⟨hget k (g.own o1 k ob1 h1' ha1 hk').1, hNo' k⟩
  · intro o1 o2 k ob1 ob2 h1 h2 h3 h4 h5 h6
    have h1' : (H.set o ob')[o1]? = some ob1 := h1
    have h3' : (H.set o ob')[o2]? = some ob2 := h3
    have h5' : (φ.set o (some w.heap.size))[o1]? = some (some k) := h5
    have h6' : (φ.set o (some w.heap.size))[o2]? = some (some k) := h6
    by_cases e1 : o1 = o <;> by_cases e2 : o2 = o
    · omega
    · subst e1
      rw [hsetφ] at h5'; rw [hφ o2 e2] at h6'; rw [hH o2 e2] at h3'
      obtain rfl : w.heap.size = k := by simpa using h5'
      have k1 := (g.own o2 _ ob2 h3' h4 h6').1
      omega
    · subst e2
      rw [hsetφ] at h6'; rw [hφ o1 e1] at h5'; rw [hH o1 e1] at h1'
      obtain rfl : w.heap.size = k := by simpa using h6'
      have k1 := (g.own o1 _ ob1 h1' h2 h5').1
      omega
    · rw [hφ o1 e1] at h5'; rw [hH o1 e1] at h1'; rw [hφ o2 e2] at h6'; rw [hH o2 e2] at h3'
      exact g.objs.inj o1 o2 k ob1 ob2 h1' h2 h3' h4 h5' h6'
  · have := g.size; omega
  · intro k h1 h2
    have := g.size
    rw [hget k (by omega)]; exact g.same k h1 h2
  · intro o1 k ob1 h1 h2 h3
    by_cases e : o1 = o
    · subst e
      rw [hsetφ] at h3
      obtain rfl : w.heap.size = k := by simpa using h3
      have := g.size
      exact ⟨by omega, fun hlt => by omega⟩
    · rw [hφ o1 e] at h3; rw [hH o1 e] at h1
      have := g.own o1 k ob1 h1 h2 h3
      exact ⟨by omega, this.2⟩
  · exact g.world.trans hs
  · have := g.hlen; simp; omega

end Go.A
