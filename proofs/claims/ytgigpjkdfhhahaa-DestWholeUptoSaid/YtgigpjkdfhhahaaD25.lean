import Derived.Test.YtgigpjkdfhhahaaM7
namespace Go.Proofs.Ytgigpjkdfhhahaa
open Go.A
set_option linter.unusedVariables false
set_option linter.unusedSimpArgs false
set_option linter.unnecessarySimpa false
attribute [local irreducible] IntKind.wrap bitsI
open B L M
set_option maxRecDepth 100000
set_option maxHeartbeats 4000000

theorem nd_ne {l : List Out} (h : (l.map Out.id).Nodup) {i j : Nat} {x y : Out} (hx : l[i]? = some x) (hy : l[j]? = some y) (hij : i < j) : x.id ≠ y.id := by
  have hi := (List.getElem?_eq_some_iff.mp hx).1
  have hj := (List.getElem?_eq_some_iff.mp hy).1
  have := (List.pairwise_iff_getElem.mp h) i j (by simpa using hi) (by simpa using hj) hij
  simp only [List.getElem_map] at this
  rwa [(List.getElem?_eq_some_iff.mp hx).2, (List.getElem?_eq_some_iff.mp hy).2] at this
theorem read_full {v : List Nat} {n : Int} (h : v.length = n.toNat) (hn : 1 ≤ n ∧ n ≤ 1024) : readM v 0 n = (v, 0) := by
  rw [readM, if_neg (by omega), if_pos ⟨Int.le_refl _, by omega, by omega, by omega⟩, Int.toNat_zero, List.drop_zero, List.take_of_length_le (by omega)]
theorem out_uniq {d : Dst} (hd : InvD d) {x : Out} (hx : x ∈ d.out) : ∀ y ∈ d.out, y.id = x.id → y = x := fun y hy e => by
  obtain ⟨i, hi⟩ := List.getElem?_of_mem hx
  obtain ⟨j, hj⟩ := List.getElem?_of_mem hy
  rcases Nat.lt_trichotomy i j with g | g | g
  · exact absurd e.symm (nd_ne hd.nd hi hj g)
  · subst g; rw [hi] at hj; exact (Option.some.inj hj).symm
  · exact absurd e (nd_ne hd.nd hj hi g)
/-- A berth where a node's stream has landed, or where nothing has come. -/
def laidB (ver n : Int) (j : Nat) : Option (List Nat) → Bt
  | none => newB (j : Int) ver n
  | some v => ⟨cm0, 7, v, true, (j : Int), ver, cm0⟩
def mkV (mk : Nat → Option (List Nat)) (j : Nat) : List Nat := (mk j).getD []
structure MkOk (N : Nat) (mk : Nat → Option (List Nat)) : Prop where
  len : ∀ j v, mk j = some v → v.length = N
/-- While a destination is announced: each berth as told. -/
structure WhA (m : T23) (bt : Nat → Bt) (d : Dst) : Prop where
  id : d.id = 7
  out : d.out = []
  n : d.n = m.n_
  ver : d.version = m.version_
  mp : d.mp = m.pieces_
  bs : ∀ j, j < 16 → (d.bs j).2 = bt j
/-- It is published. -/
structure WhB (m : T23) (mk : Nat → Option (List Nat)) (d : Dst) : Prop where
  id : d.id = 0
  out : d.out = [⟨7, wholeV (mkV mk) m.pieces_⟩]
  n : d.n = m.n_
  all : ∀ p ∈ m.pieces_, ∃ v, mk p.node_.toNat = some v
theorem laid_there (ver n : Int) (j : Nat) (o : Option (List Nat)) : (laidB ver n j o).there = 7 ↔ ∃ v, o = some v := by
  cases o with
  | none =>
    constructor
    · intro h; exact absurd h (by show ¬ (0 : Int) = 7; decide)
    · rintro ⟨v, h⟩; cases h
  | some v => exact ⟨fun _ => ⟨v, rfl⟩, fun _ => rfl⟩
theorem wh_take {m : T23} {bt : Nat → Bt} {d : Dst} (h : WhA m bt d) {j : Nat} (hj : j < 16) {k : Int} {r : T43} {b' : Bt} (hk : r.kind_ = 1 → r.snap_ = 7) (ht : takeM (bt j) k r = (b', 0)) :
    takeD d (j : Int) k r = (setB d j b', 0) ∧ WhA m (fun i => if i = j then b' else bt i) (setB d j b') := by
  have hn : isNode (j : Int) := ⟨by omega, by omega⟩
  refine ⟨?_, h.id, h.out, h.n, h.ver, h.mp, fun i hi => ?_⟩
  · rw [takeD, if_neg (fun g => g hn), if_neg (by rw [h.id]; decide), if_neg (fun g => g.2 (by rw [h.id]; exact hk g.1)), Int.toNat_natCast, h.bs j hj, ht]
  · show ((setB d j b').bs i).2 = if i = j then b' else bt i
    by_cases e : i = j
    · subst e; rw [if_pos rfl, setB_bs]
    · rw [if_neg e, setB_ne d e, h.bs i hi]
theorem wh_pub {m : T23} (hm : rightP m) {bt : Nat → Bt} {mk : Nat → Option (List Nat)} {d : Dst} (h : WhA m bt d) (hb : ∀ j, j < 16 → (bt j).there = 7 → ∃ v, mk j = some v ∧ (bt j).all = v) :
    ((publishD d).2 = 0 ∧ WhB m mk (publishD d).1 ∧ ∀ p ∈ m.pieces_, (bt p.node_.toNat).there = 7) ∨ (publishD d = (d, 15) ∧ ∃ p ∈ m.pieces_, (bt p.node_.toNat).there ≠ 7) := by
  have hid : ¬ d.id = 0 := by rw [h.id]; decide
  have hnode : ∀ p ∈ m.pieces_, p.node_.toNat < 16 := fun p hp => by
    have := M.ends_node hm.2.2.2.2.2 p hp
    omega
  by_cases ha : allThere d
  · left
    have ha' : ∀ p ∈ m.pieces_, (bt p.node_.toNat).there = 7 := fun p hp => by
      have := ha p (by rw [h.mp]; exact hp)
      rw [h.bs _ (hnode p hp), h.id] at this
      exact this
    have e : publishD d = ({ d with id := 0, out := d.out ++ [⟨d.id, partsD d d.mp⟩] }, 0) := by rw [publishD, if_neg hid, if_pos ha]
    rw [e]
    refine ⟨rfl, ⟨rfl, ?_, h.n, fun p hp => ?_⟩, ha'⟩
    · show d.out ++ [⟨d.id, partsD d d.mp⟩] = _
      rw [h.out, h.id, h.mp, List.nil_append]
      congr 2
      rw [partsD, wholeV]
      congr 1
      refine List.map_congr_left fun p hp => ?_
      obtain ⟨v, h1, h2⟩ := hb _ (hnode p hp) (ha' p hp)
      rw [partD, h.bs _ (hnode p hp), h2, mkV, h1]; rfl
    · obtain ⟨v, h1, _⟩ := hb _ (hnode p hp) (ha' p hp)
      exact ⟨v, h1⟩
  · right
    refine ⟨by rw [publishD, if_neg hid, if_neg ha], Classical.byContradiction fun g => ha fun p hp => ?_⟩
    rw [h.mp] at hp
    rw [h.bs _ (hnode p hp), h.id]
    exact Classical.byContradiction fun q => g ⟨p, hp, q⟩

end Go.Proofs.Ytgigpjkdfhhahaa

