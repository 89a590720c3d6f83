/- A logic of abstract states, part 37: a map that is gone through, in whatever order. -/
import Derived.Test.YtgigpjkdfhhahaaA36
import Derived.Maps.RangeRun
namespace Go.A
set_option linter.unusedVariables false
set_option linter.unusedSimpArgs false

/-- What is no cells and is nobody's is turned. -/
theorem G.freeTurn {C φ H w w'} (g : G C φ H w) {r : Nat} {o o' : Obj} (hr : w.heap[r]? = some o) (hc : ∀ c e fz, o ≠ .cells c e fz) (hm : ∀ es ck, o ≠ .map es ck) (hd : ∀ x, o ≠ .deferred x) (hnew : C.w0.heap.size ≤ r) (hs : Same w w') (hh : w'.heap = w.heap.setIfInBounds r o') :
    G C φ H w' ∧ Ext (C.env φ H w) (C.env φ H w') := by
  have hsz : w'.heap.size = w.heap.size := by rw [hh]; simp
  have hget : ∀ b, b ≠ r → w'.heap[b]? = w.heap[b]? := fun b hb => by rw [hh, Array.getElem?_setIfInBounds_ne (Ne.symm hb)]
  have hne : ∀ (i b : Nat) ob, H[i]? = some ob → AObj.alive ob → φ[i]? = some (some b) → b ≠ r := fun i b ob h1 h2 h3 e => by
    subst e
    have k := g.objs.cl i ob h1
    cases ob with
    | arr ver sz rows =>
      obtain ⟨_, _, c, e, vs, ⟨fz, hfz, q1⟩, _⟩ := g.arrOf h1 h3
      rw [hr] at q1
      exact hc _ _ _ (Option.some.inj q1)
    | mapx es st =>
      obtain ⟨b', k1, _, ents, clock, k3, _⟩ := k
      have k1' : φ[i]? = some (some b') := k1
      rw [h3] at k1'
      obtain rfl : b = b' := by simpa using k1'
      have k3' : w.heap[b]? = some (Obj.map ents clock) := k3
      rw [hr] at k3'
      exact hm _ _ (Option.some.inj k3')
    | gone => exact h2
  have x : Ext (C.env φ H w) (C.env φ H w') := {
    imm := fun b h1 h2 h3 => by
      have hb : b ≠ r := fun e => by
        subst e
        rcases h3 with ⟨c, e, fz, h3⟩ | h3
        · have h3' : w.heap[b]? = some (Obj.cells c _ fz) := h3
          rw [hr] at h3'
          exact hc _ _ _ (Option.some.inj h3')
        · have h3' : w.heap[b]? = some (Obj.deferred (some [])) := h3
          rw [hr] at h3'
          exact hd _ (Option.some.inj h3')
      exact ⟨h1, by show b < w'.heap.size; rw [hsz]; exact h2, hget b hb⟩
    old := fun o ob ver h1 h2 => ⟨ob, h1, h2⟩
    arr := fun o ver sz rows h1 => .inr ⟨rows, h1, rfl, rfl, fun b c e fz h2 h3 => ⟨c, e, fz, by
      have : w'.heap[b]? = w.heap[b]? := hget b (hne o b _ h1 trivial h2)
      exact this.trans h3, rfl⟩⟩
    map := fun o es st h1 => .inr ⟨es, st, h1, rfl⟩ }
  refine ⟨{
    objs := ⟨g.objs.len, fun o ob h => Cl.mono x rfl (fun b ha hb => ⟨hget b (hne o b ob h ha hb), fun h => h⟩) (g.objs.cl o ob h), g.objs.inj⟩
    size := by rw [hsz]; exact g.size
    same := fun b h1 h2 => (hget b (by omega)).trans (g.same b h1 h2)
    own := fun o b ob h1 h2 h3 => by rw [hsz]; exact g.own o b ob h1 h2 h3
    world := g.world.trans hs
    n0 := g.n0
    hlen := g.hlen
    ext := g.ext.trans x }, x⟩

theorem G.noOwn {C φ H w} (g : G C φ H w) {r : Nat} {o : Obj} (hr : w.heap[r]? = some o) (hc : ∀ c e fz, o ≠ .cells c e fz) (hm : ∀ es ck, o ≠ .map es ck) : ¬ owns φ H r := by
  rintro ⟨i, ob, h3, h1, h2⟩
  have k := g.objs.cl i ob h1
  cases ob with
  | arr ver sz rows =>
    obtain ⟨_, _, c, e, vs, ⟨fz, hfz, q1⟩, _⟩ := g.arrOf h1 h3
    rw [hr] at q1
    exact hc _ _ _ (Option.some.inj q1)
  | mapx es st =>
    obtain ⟨b', k1, _, ents, clock, k3, _⟩ := k
    have k1' : φ[i]? = some (some b') := k1
    rw [h3] at k1'
    obtain rfl : r = b' := by simpa using k1'
    have k3' : w.heap[r]? = some (Obj.map ents clock) := k3
    rw [hr] at k3'
    exact hm _ _ (Option.some.inj k3')
  | gone => exact h2

theorem Oper.wpIn_monoQ {F : Fence} {n : Nat} {P : Program} {o : Oper} {a : Act} {w : World} {K K' : Act → World → Prop} {Q Q' : Exit → Act → World → Prop} (h : ∀ a w, K a w → K' a w) (hQ : ∀ e a w, Q e a w → Q' e a w)
    (hh : o.wpIn F n P a w K Q) : o.wpIn F n P a w K' Q' := by
  have hL : LetsOut Q → LetsOut Q' := fun ⟨a, w, q⟩ => ⟨a, w, hQ _ _ _ q⟩
  unfold Oper.wpIn at *
  refine ⟨hh.1, ?_⟩
  replace hh := hh.2
  generalize (o.semAt F.round a.eval).run P w = r at *
  cases r with
  | ok n w' =>
    cases n <;> simp only [Oper.uponIn] at hh ⊢ <;>
      first
        | exact h _ _ hh
        | exact ⟨hh.1, Go.CallsIn.mono hh.2 (fun e w'' he => by cases e <;> first | exact h _ _ he | exact hQ _ _ _ he | exact hL he)⟩
        | exact ⟨hh.1, RowsIn.mono hh.2 (fun _ _ he => h _ _ he)⟩
        | exact ⟨hh.1, RoundIn.mono hh.2 (fun e w'' he => by cases e <;> first | exact h _ _ he | exact hQ _ _ _ he | exact hL he)⟩
        | exact hQ _ _ _ hh
        | exact hL hh
        | exact hh
  | halt x w' => cases x <;> simp only [Oper.uponIn] at hh ⊢ <;> first | exact hQ _ _ _ hh | exact hL hh | exact hh

theorem wpOpsIn_monoQ {F : Fence} {n : Nat} {P : Program} {ops : Array Oper} {Q Q' : Exit → Act → World → Prop} (hQ : ∀ e a w, Q e a w → Q' e a w) : ∀ (l : List Nat) (a : Act) (w : World), wpOpsIn F n P ops Q l a w → wpOpsIn F n P ops Q' l a w
  | [], a, w, h => hQ _ _ _ h
  | i :: l, a, w, h => by
    rw [wpOpsIn_cons] at h ⊢
    have ih := wpOpsIn_monoQ (F := F) (n := n) (P := P) (ops := ops) hQ l
    unfold wpOpIn at *
    split
    · exact ih _ _ (by simpa [*] using h)
    · rename_i o ho
      simp only [ho] at h
      split
      · rename_i hw
        simp only [hw, if_true] at h
        exact Oper.wpIn_monoQ ih hQ h
      · rename_i hw
        simp only [hw] at h
        exact ⟨h.1, ih _ _ h.2⟩

theorem wpOpIn_val {C : Ctx} {n : Nat} {P : Program} {ops : Array Oper} {Q : Exit → Act → World → Prop} {i : Nat} {o : Oper} {K : Act → World → Prop} {a : Act} {w w' : World} {v : Value} (hi : ops[i]? = some o) (hg : o.guard = none)
    (hrun : (execOp a.eval o).run P w = .ok (.value v) w') (hnd : ∀ c, o.op ≠ .defer c) (hk : K (a.put o.dst v) w') : wpOpIn C.F n P ops Q i K a w := by
  unfold wpOpIn
  simp only [hi]
  rw [if_pos (by simp [Region.wanted, hg])]
  refine ⟨fun _ _ => trivial, ?_⟩
  rw [Oper.semAt_eq _ _ _ hnd, hrun]
  exact hk

/-- The stamps that have been met. -/
def seenOf (bs : List Nat) (d : List Nat) : Array Nat := (d.map fun i => bs.getD i 0).toArray
def lf (bs : List Nat) (seen : Array Nat) : Nat := (bs.filter fun x => !seen.contains x).length
theorem lf_eq (ents : Array MapEntry) (seen : Array Nat) : (leftOf ents seen).size = lf (ents.toList.map (·.born)) seen := by
  unfold leftOf lf
  rw [← Array.length_toList, Array.toList_filter, List.filter_map, List.length_map]
  rfl
theorem seenOf_push (bs d : List Nat) (i : Nat) : (seenOf bs d).push (bs.getD i 0) = seenOf bs (d ++ [i]) := by
  simp [seenOf]

/-- A map's stamps are told. -/
theorem W_stamps {P : Program} {n : Nat} {k : List Item} {s : List D} {H : List AObj} {Q : Exit → St → Prop} {om : Nat} {es : List (D × D)} (ho : H[om]? = some (.map es))
    (h : ∀ bs ck, bs.length = es.length → W P n k ⟨s, H.set om (.mapx es (some (bs, ck)))⟩ Q) : W P n k ⟨s, H⟩ Q := W.intro fun C φ a w hn hs => by
  have hl : om < H.length := (List.getElem?_eq_some_iff.mp ho).1
  obtain ⟨b, h1, h2, ents, clock, h3, h4, h5, h6, h7, h8⟩ := hs.g.objs.cl om _ ho
  have hb : φ.set om (some b) = φ := by
    apply List.ext_getElem?
    intro k
    by_cases hk : k = om
    · subst hk
      have h1' : φ[k]? = some (some b) := h1
      rw [List.getElem?_set_self (List.getElem?_eq_some_iff.mp h1').1, h1']
    · simp [Ne.symm hk]
  have key := hs.g.turn (o := om) (b := b) (b' := b) (ob' := .mapx es (some (ents.toList.map (·.born), clock))) (w' := w) ho trivial h1 trivial
    { old := fun v hv => hv.elim
      arr := fun v s r hh => by cases hh
      map := fun es' st' hh => .inr ⟨_, _, rfl⟩ }
    (Same.refl w) (Nat.le_refl _) (hs.g.own om b _ ho trivial h1).1 (fun k _ hk => rfl)
    (.inl ⟨rfl, fun c1 e1 fz hc1 => ⟨_, _, _, hc1, rfl⟩⟩)
    (fun E' hE x1 hφ hN => ⟨b, hφ, hN, ents, clock, by subst hE; exact h3, VRs.mono x1 h4, VRs.mono x1 h5, h6, h7, fun bs ck e => by cases e; exact ⟨rfl, rfl⟩⟩)
  rw [hb] at key
  refine W.run (h (ents.toList.map (·.born)) clock ?_) hn (s := ⟨s, _⟩) ⟨hs.defers, VRs.mono key.2 hs.slots, key.1⟩
  have := h4.length
  simpa using this.symm
/-- And forgotten. -/
theorem Ghost.unstamp {n : Nat} {s : List D} {H : List AObj} {om : Nat} {es : List (D × D)} {st : Option (List Nat × Nat)} (ho : H[om]? = some (.mapx es st)) : Ghost n s H s (H.set om (.map es)) := fun C φ w vs hn g hv => by
  have hl : om < H.length := (List.getElem?_eq_some_iff.mp ho).1
  obtain ⟨b, h1, h2, ents, clock, h3, h4, h5, h6, h7, h8⟩ := g.objs.cl om _ ho
  have hb : φ.set om (some b) = φ := by
    apply List.ext_getElem?
    intro k
    by_cases hk : k = om
    · subst hk
      have h1' : φ[k]? = some (some b) := h1
      rw [List.getElem?_set_self (List.getElem?_eq_some_iff.mp h1').1, h1']
    · simp [Ne.symm hk]
  have key := g.turn (o := om) (b := b) (b' := b) (ob' := .map es) (w' := w) ho trivial h1 trivial
    { old := fun v hv => hv.elim
      arr := fun v s r hh => by cases hh
      map := fun es' st' hh => .inr ⟨_, _, rfl⟩ }
    (Same.refl w) (Nat.le_refl _) (g.own om b _ ho trivial h1).1 (fun k _ hk => rfl)
    (.inl ⟨rfl, fun c1 e1 fz hc1 => ⟨_, _, _, hc1, rfl⟩⟩)
    (fun E' hE x1 hφ hN => ⟨b, hφ, hN, ents, clock, by subst hE; exact h3, VRs.mono x1 h4, VRs.mono x1 h5, h6, h7, fun bs ck e => by cases e⟩)
  rw [hb] at key
  exact ⟨φ, key.1, VRs.mono key.2 hv⟩

theorem VR.inv_mapx {E : Env} {o : Nat} {es : List (D × D)} {st : Option (List Nat × Nat)} {v : Value} (h : VR E (.map o) v) (ho : E.H[o]? = some (.mapx es st)) : ∃ b, v = .map (some b) ∧ E.φ[o]? = some (some b) := by
  cases h with
  | map h1 h2 => exact ⟨_, rfl, h2⟩
  | mold r h1 => rw [ho] at h1; cases h1

/-- The first operations of a region. -/
theorem runS_pre {P : Program} {T : Tab} (hT : TOk P T) {n : Nat} {own : List Nat} {id : Nat} {ops : Array Oper} {k : List Item} {Q : Exit → St → Prop} {X : List D → List AObj → List Bool → Prop} {j : Nat}
    (hX : ∀ s H bx, X s H bx → W P n (.ops id ops ((List.range ops.size).drop j) :: k) ⟨s, H⟩ Q) : ∀ {pre post : List Oper} {i : Nat} {l : List Nat} {s : List D} {H : List AObj} {bx : List Bool},
    ops.toList.drop i = pre ++ post → l = (List.range ops.size).drop i → i + pre.length = j → runS P T n own ops.toList pre s H bx X → W P n (.ops id ops l :: k) ⟨s, H⟩ Q
  | [], post, i, l, s, H, bx, hd, hl, hj, h => by
    simp only [List.length_nil, Nat.add_zero] at hj
    subst hj hl
    exact hX _ _ _ h
  | o :: rest, post, i, l, s, H, bx, hd, hl, hj, h => by
    have hi : ops[i]? = some o := by
      have : (ops.toList.drop i)[0]? = some o := by rw [hd]; rfl
      simpa using this
    have hlt := (Array.getElem?_eq_some_iff.mp hi).1
    have hd' : ops.toList.drop (i + 1) = rest ++ post := by
      rw [← List.drop_drop, hd]; rfl
    have hl' : l = i :: (List.range ops.size).drop (i + 1) := by
      rw [hl, List.drop_eq_getElem_cons (by simpa using hlt)]
      simp
    have hj' : i + 1 + rest.length = j := by rw [← hj, List.length_cons]; omega
    subst hl'
    rw [runS_cons] at h
    rcases guardF_ok h with ⟨h1, h2⟩ | ⟨h1, h2⟩
    · refine W_ops_cons hT (hd := ⟨ownAt own o.dst, none, n⟩) rfl ?_
      unfold stepK
      rw [hi]
      refine h2 s H _ _ (fun _ _ => rfl) ?_
      exact doS_ok h1 fun d H' bx' hx => runS_pre hT hX hd' rfl hj' (putK_iff.mp hx)
    · refine W_ops_cons hT (hd := { n := n }) rfl ?_
      unfold stepK
      rw [hi]
      refine h2 s H _ _ (fun _ _ => rfl) ?_
      exact runS_pre hT hX hd' rfl hj' (putK_iff.mp h1)

/-- 'for k, v := range m', where the rounds leave the map alone. -/
theorem W_mapRange {P : Program} {T : Tab} (hT : TOk P T) {n n' : Nat} {k : List Item} {Q : Exit → St → Prop} {id5 j5 it tm bid b2 r6 r7 t18 tok t20 om : Nat} {ops5 ops7 : Array Oper} {o5 x6 y6 z7 : Oper} {mt q e : TypeId} {c8 : Code} {td : TD}
    {s : List D} {H : List AObj} {es : List (D × D)} {bs : List Nat} {ck : Nat}
    (h5 : ops5[j5]? = some o5) (g5 : o5.guard = none) (p5 : o5.op = .range mt (.tmp tm)) (d5 : o5.dst = some it)
    (gx : x6.guard = none) (px : x6.op = .next (.tmp it) false) (dx : x6.dst = some t18) (gy : y6.guard = none) (py : y6.op = .extract (.tmp t18) 0) (dy : y6.dst = some tok)
    (hz : ops7[0]? = some z7) (gz : z7.guard = none) (pz : z7.op = .entry (.tmp it)) (dz : z7.dst = some t20)
    (ht : T.get mt = some td) (hk : td.k = .map q e) (hm : s[tm]? = some (.map om)) (ho : H[om]? = some (.mapx es (some (bs, ck))))
    (S : Value → List Nat → St) (init : ∀ v, Ghost n (s.set it (.raw v)) H (S v []).slots (S v []).H)
    (hSit : ∀ v d, (S v d).slots[it]? = some (.raw v)) (hStm : ∀ v d, (S v d).slots[tm]? = some (.map om)) (hSo : ∀ v d, (S v d).H[om]? = some (.mapx es (some (bs, ck))))
    (hlen : ∀ v d, (S v d).H.length = n') (hlt : ∀ v d, t18 < (S v d).slots.length ∧ tok < (S v d).slots.length) (hne : t18 ≠ it ∧ tok ≠ it ∧ t18 ≠ tm ∧ tok ≠ tm)
    (round : ∀ v d i kd vd, es[i]? = some (kd, vd) → i ∉ d → (∀ x ∈ d, x < es.length) → W P n' (.ops r7 ops7 (List.range ops7.size).tail :: .code c8 :: .inBlock b2 ::
      .hyp (fun s' => s'.slots[tm]? = some (.map om) ∧ s'.H[om]? = some (.mapx es (some (bs, ck))) ∧ Ghost n' s'.slots s'.H (S v (d ++ [i])).slots (S v (d ++ [i])).H) :: [])
      ⟨(((S v d).slots.set t18 (.tup [.bool true, kd, vd])).set tok (.bool true)).set t20 (.tup [kd, vd]), (S v d).H⟩ fun _ _ => False)
    (fin : ∀ v d, (∀ i, i < es.length → i ∈ d) → (∀ x ∈ d, x < es.length) → W P n k ⟨((S v d).slots.set t18 (.tup [.bool false])).set tok (.bool false), (S v d).H⟩ Q) :
    W P n (.ops id5 ops5 [j5] :: .code (.block bid (.loop (.seq (.region r6 #[x6, y6] false) (.seq (.cond (.tmp tok) .skip (.exit bid)) (.block b2 (.seq (.region r7 ops7 false) c8)))))) :: k) ⟨s, H⟩ Q := W.intro fun C φ a w hn hs => by
  have getE : ∀ {a : Act} {t : Nat} {v : Value}, a.tmps.toList[t]? = some v → a.eval (.tmp t) = v := fun {a t v} h => by
    have h' : a.tmps[t]? = some v := by simpa using h
    simp [Act.eval, h']
  have hund : P.underlying mt = some (.map q e) := (hT.at ht).map hk
  show wpOpsIn C.F 0 P ops5 _ [j5] a w
  rw [wpOpsIn_cons]
  obtain ⟨mv, hmv, hmv2⟩ := hs.slots.get tm _ hm
  obtain ⟨b, rfl, hφb⟩ := hmv2.inv_mapx ho
  obtain ⟨b', h1, h2, ents, clock, h3, h4, h5', h6, h7, h8⟩ := hs.g.objs.cl om _ ho
  have hφb' : φ[om]? = some (some b) := hφb
  have h1' : φ[om]? = some (some b') := h1
  rw [hφb'] at h1'
  obtain rfl : b = b' := by simpa using h1'
  obtain ⟨hbs, rfl⟩ := h8 bs ck rfl
  have h3' : w.heap[b]? = some (Obj.map ents clock) := h3
  have hrun : (execOp a.eval o5).run P w = .ok (.value (.pointer (some ⟨w.heap.size, 0, none⟩))) (w.alloc (.mapIter (some b) clock #[] clock)) := by
    have := run_range_map (P := P) w mt q e b ents clock hund h3'
    simp only [execOp, p5, getE hmv, Sem.run_bind, this, Result.andThen_ok, Sem.run_pure]
  refine wpOpIn_val h5 g5 hrun (by rw [p5]; intro c h; cases h) ?_
  rw [d5]
  obtain ⟨r, hr⟩ : ∃ r, r = w.heap.size := ⟨_, rfl⟩
  obtain ⟨v, hv⟩ : ∃ v : Value, v = .pointer (some ⟨w.heap.size, 0, none⟩) := ⟨_, rfl⟩
  rw [← hv]
  obtain ⟨w1, hw1⟩ : ∃ w1, w1 = w.alloc (.mapIter (some b) clock #[] clock) := ⟨_, rfl⟩
  rw [← hw1]
  have hheap1 : w1.heap = w.heap.push (.mapIter (some b) clock #[] clock) := by rw [hw1]; rfl
  obtain ⟨g1, x1, _⟩ := hs.g.pushFree (w' := w1) hheap1 (by rw [hw1]; exact ⟨rfl, rfl, rfl, (by first | exact Nat.le_refl _ | exact Nat.le_succ _)⟩)
  have hs1 := hs.put g1 x1 (VR.raw v) (some it)
  obtain ⟨φ1, g2, hv2⟩ := init v C φ w1 _ hn hs1.g hs1.slots
  have hit1 : w1.heap[r]? = some (.mapIter (some b) clock (seenOf bs []) clock) := by rw [hheap1, hr]; simp [seenOf]
  have hrw : C.w0.heap.size ≤ r := by rw [hr]; exact hs.g.size
  have htm1 : (a.put (some it) v).tmps.toList[tm]? = some (.map (some b)) := by
    obtain ⟨v', q1, q2⟩ := hv2.get tm _ (hStm v [])
    by_cases e : tm = it
    · have := hSit v []
      rw [← e, hStm v []] at this
      cases this
    · simp only [Act.put, Array.toList_setIfInBounds, List.getElem?_set_ne (Ne.symm e)]
      exact hmv
  refine wpIn_block ?_
  refine wpIn_loopG (fun m a w => ∃ d φ, SRel C φ (S v d) a w ∧ (∀ x ∈ d, x < es.length) ∧ w.heap[r]? = some (.mapIter (some b) clock (seenOf bs d) clock) ∧ a.tmps.toList[tm]? = some (.map (some b)) ∧ lf bs (seenOf bs d) = m) _
    ⟨[], φ1, ⟨hs1.defers, hv2, g2⟩, fun x hx => by simp at hx, hit1, htm1, rfl⟩ ?_
  rintro m a2 w2 ⟨d, φ2, hs2, hd2, hit2, htm2, rfl⟩
  clear hrun hs1 g2 hv2 hit1 htm1 g1 x1 h3 h3' h4 h5' h6 h7 h8 hmv hmv2
  -- where things are
  obtain ⟨mv2, q1, q2⟩ := hs2.slots.get tm _ (hStm v d)
  rw [htm2] at q1; cases q1
  obtain ⟨b0, e0, hφ2⟩ := q2.inv_mapx (hSo v d)
  obtain rfl : b = b0 := by simpa using e0
  obtain ⟨b1, k1, k2, ents2, clock2, k3, k4, k5, k6, k7, k8⟩ := hs2.g.objs.cl om _ (hSo v d)
  have hφ2' : φ2[om]? = some (some b) := hφ2
  have k1' : φ2[om]? = some (some b1) := k1
  rw [hφ2'] at k1'
  obtain rfl : b = b1 := by simpa using k1'
  obtain ⟨hbs2, rfl⟩ := k8 bs clock rfl
  have k3' : w2.heap[b]? = some (Obj.map ents2 clock2) := k3
  have hents : ents2.toList.length = es.length := by have := k4.length; simpa using this.symm
  obtain ⟨iv, q3, q4⟩ := hs2.slots.get it _ (hSit v d)
  cases q4
  have hev : a2.eval (.tmp it) = .pointer (some ⟨r, 0, none⟩) := by rw [getE q3, hv, hr]
  have noc : ∀ (m : Option Nat) (s : Nat) (sn : Array Nat) (l : Nat), (∀ c e fz, Obj.mapIter m s sn l ≠ .cells c e fz) ∧ ∀ es ck, Obj.mapIter m s sn l ≠ .map es ck := fun m s sn l => ⟨fun c e fz h => (by cases h), fun es ck h => (by cases h)⟩
  refine wpIn_seq (wpIn_region ?_)
  show wpOpsIn C.F 0 P #[x6, y6] _ [0, 1] a2 w2
  rw [wpOpsIn_cons]
  rcases run_next_at (P := P) w2 x6.type r b clock2 clock2 (seenOf bs d) ents2 clock2 hit2 k3' k6 (Nat.le_refl _) with ⟨h0, hrun⟩ | ⟨en, hen, w3, hal, hrun⟩
  · -- all is done
    refine wpOpIn_val (o := x6) rfl gx (v := .tuple #[.bool false]) (w' := w2) (by simp only [execOp, px, hev, Sem.run_bind, hrun, Result.andThen_ok, Sem.run_pure]) (by rw [px]; intro c h; cases h) ?_
    rw [wpOpsIn_cons, dx]
    have hs3 := hs2.put hs2.g (.refl _) (VR.tup (cs := [.bool false]) (a := #[.bool false]) (.cons (.bool _) .nil)) (some t18)
    have hev3 : (a2.put (some t18) (.tuple #[.bool false])).eval (.tmp t18) = .tuple #[.bool false] := by
      refine getE ?_
      have hl2 := hs2.slots.length
      have := (hlt v d).1
      simp only [Act.put, Array.toList_setIfInBounds]
      exact List.getElem?_set_self (by omega)
    refine wpOpIn_val (o := y6) rfl gy (v := .bool false) (w' := w2) (by simp only [execOp, py, hev3, Sem.run_bind, Instr.extract]; rfl) (by rw [py]; intro c h; cases h) ?_
    rw [dy]
    have hs4 := hs3.put hs3.g (.refl _) (VR.bool false) (some tok)
    have hev4 : ((a2.put (some t18) (.tuple #[.bool false])).put (some tok) (.bool false)).eval (.tmp tok) = .bool false := by
      refine getE ?_
      have hl2 := hs2.slots.length
      have := (hlt v d).2
      simp only [Act.put, Array.toList_setIfInBounds]
      exact List.getElem?_set_self (by rw [List.length_set]; omega)
    show (Code.seq _ _).wpIn C.F 0 P _ _ _
    refine wpIn_seq (wpIn_cond_false hev4 (wpIn_exit ?_))
    show Exit.inBlock bid _ (.exit bid) _ _
    simp only [Exit.inBlock, if_true]
    have hall := all_seen ents2 (seenOf bs d) h0
    exact W.run (fin v d (fun i hi => by
      have hi' : i < ents2.toList.length := by omega
      have := hall (ents2.toList[i]) (List.getElem_mem hi')
      have hbi : bs[i]? = some (ents2.toList[i]).born := by rw [← hbs2, List.getElem?_map, List.getElem?_eq_getElem hi']; rfl
      simp only [seenOf, List.contains_toArray, List.contains_iff_mem, List.mem_map] at this
      obtain ⟨j, hj, e⟩ := this
      have hj' : j < bs.length := by rw [← hbs2, List.length_map]; have := hd2 j hj; omega
      have : bs[j]? = bs[i]? := by
        rw [hbi, ← e, List.getD_eq_getElem?_getD, List.getElem?_eq_getElem hj']; rfl
      have hbn : bs.Nodup := by rw [← hbs2]; exact k7
      have := (List.getElem?_inj hj' hbn).mp this
      exact this ▸ hj) hd2) hn hs4
  · -- one more
    obtain ⟨hen1, hen2⟩ := mem_left hen
    obtain ⟨i, hi⟩ := List.getElem?_of_mem hen1
    have hil : i < es.length := by have := (List.getElem?_eq_some_iff.mp hi).1; omega
    obtain ⟨⟨kd, vd⟩, hkv⟩ : ∃ p, es[i]? = some p := ⟨_, List.getElem?_eq_getElem hil⟩
    have hbi : bs.getD i 0 = en.born := by
      rw [List.getD_eq_getElem?_getD, ← hbs2, List.getElem?_map, hi]; rfl
    have hid : i ∉ d := fun h => by
      have : (seenOf bs d).contains en.born = true := by
        simp only [seenOf, List.contains_toArray, List.contains_iff_mem, List.mem_map]
        exact ⟨i, h, hbi⟩
      rw [hen2] at this; cases this
    obtain ⟨w3', hw3⟩ : ∃ w3', w3' = ChangeMaps.setBlock w3 r (.mapIter (some b) clock2 ((seenOf bs d).push en.born) clock2) := ⟨_, rfl⟩
    have hheap3 : w3.heap = w2.heap := by rcases hal with rfl | rfl <;> rfl
    have hsame3 : Same w2 w3' := by rw [hw3]; rcases hal with rfl | rfl <;> exact ⟨rfl, rfl, rfl, (by first | exact Nat.le_refl _ | exact Nat.le_succ _)⟩
    have hh3 : w3'.heap = w2.heap.setIfInBounds r (.mapIter (some b) clock2 ((seenOf bs d).push en.born) clock2) := by rw [hw3, ← hheap3]; rfl
    obtain ⟨g3, x3⟩ := hs2.g.freeTurn (w' := w3') hit2 (noc _ _ _ _).1 (noc _ _ _ _).2 (fun x h => by cases h) hrw hsame3 hh3
    have hrlt : r < w2.heap.size := (Array.getElem?_eq_some_iff.mp hit2).1
    have hit3 : w3'.heap[r]? = some (.mapIter (some b) clock2 (seenOf bs (d ++ [i])) clock2) := by rw [hh3, ← seenOf_push, hbi]; simp [hrlt]
    have hbr : b ≠ r := fun e => by subst e; rw [hit2] at k3'; cases k3'
    have hb3 : w3'.heap[b]? = some (Obj.map ents2 clock2) := by rw [hh3, Array.getElem?_setIfInBounds_ne (Ne.symm hbr)]; exact k3'
    have hkv1 : VR (C.env φ2 (S v d).H w2) kd en.key := by
      obtain ⟨u, u1, u2⟩ := k4.get i kd (by rw [List.getElem?_map, hkv]; rfl)
      rw [List.getElem?_map, hi] at u1
      cases u1; exact u2
    have hkv2 : VR (C.env φ2 (S v d).H w2) vd en.val := by
      obtain ⟨u, u1, u2⟩ := k5.get i vd (by rw [List.getElem?_map, hkv]; rfl)
      rw [List.getElem?_map, hi] at u1
      cases u1; exact u2
    refine wpOpIn_val (o := x6) rfl gx (v := .tuple #[.bool true, en.key, en.val]) (w' := w3') (by simp only [execOp, px, hev, Sem.run_bind, hrun, Result.andThen_ok, Sem.run_pure, hw3]) (by rw [px]; intro c h; cases h) ?_
    rw [wpOpsIn_cons, dx]
    have hs3 := hs2.put g3 x3 (VR.tup (cs := [.bool true, kd, vd]) (a := #[.bool true, en.key, en.val]) (.cons (.bool _) (.cons (VR.mono x3 hkv1) (.cons (VR.mono x3 hkv2) .nil)))) (some t18)
    have hl2 := hs2.slots.length
    have hev3 : (a2.put (some t18) (.tuple #[.bool true, en.key, en.val])).eval (.tmp t18) = .tuple #[.bool true, en.key, en.val] := by
      refine getE ?_
      have := (hlt v d).1
      simp only [Act.put, Array.toList_setIfInBounds]
      exact List.getElem?_set_self (by omega)
    refine wpOpIn_val (o := y6) rfl gy (v := .bool true) (w' := w3') (by simp only [execOp, py, hev3, Sem.run_bind, Instr.extract]; rfl) (by rw [py]; intro c h; cases h) ?_
    rw [dy]
    have hs4 := hs3.put hs3.g (.refl _) (VR.bool true) (some tok)
    obtain ⟨a4, ha4⟩ : ∃ a4, a4 = (a2.put (some t18) (.tuple #[.bool true, en.key, en.val])).put (some tok) (.bool true) := ⟨_, rfl⟩
    have hev4 : a4.eval (.tmp tok) = .bool true := by
      rw [ha4]
      refine getE ?_
      have := (hlt v d).2
      simp only [Act.put, Array.toList_setIfInBounds]
      exact List.getElem?_set_self (by rw [List.length_set]; omega)
    have hev5 : a4.eval (.tmp it) = .pointer (some ⟨r, 0, none⟩) := by
      rw [ha4, ← hev]
      simp only [Act.eval, Act.put, Array.getD_eq_getD_getElem?]
      rw [Array.getElem?_setIfInBounds_ne hne.2.1, Array.getElem?_setIfInBounds_ne hne.1]
    rw [← ha4] at hs4 ⊢
    show (Code.seq _ _).wpIn C.F 0 P _ _ _
    refine wpIn_seq (wpIn_cond_true hev4 (wpIn_skip ?_))
    refine wpIn_block (wpIn_seq (wpIn_region ?_))
    have hrange : List.range ops7.size = 0 :: (List.range ops7.size).tail := by
      have : 0 < ops7.size := (Array.getElem?_eq_some_iff.mp hz).1
      obtain ⟨m, hm⟩ : ∃ m, ops7.size = m + 1 := ⟨ops7.size - 1, by omega⟩
      rw [hm, List.range_succ_eq_map]; rfl
    rw [hrange, wpOpsIn_cons]
    have hentry : (Instr.entry (.pointer (some ⟨r, 0, none⟩))).run P w3' = .ok (.tuple #[en.key, en.val]) w3' :=
      run_entry_at w3' r b clock2 (seenOf bs d) ents2 clock2 en (by rw [hit3, ← seenOf_push, hbi]) hb3 hen1 k7
    refine wpOpIn_val hz gz (v := .tuple #[en.key, en.val]) (w' := w3') (by simp only [execOp, pz, hev5, Sem.run_bind, hentry, Result.andThen_ok, Sem.run_pure]) (by rw [pz]; intro c h; cases h) ?_
    rw [dz]
    have hs5 := hs4.put hs4.g (.refl _) (VR.tup (cs := [kd, vd]) (a := #[en.key, en.val]) (.cons (VR.mono x3 hkv1) (.cons (VR.mono x3 hkv2) .nil))) (some t20)
    obtain ⟨a5, ha5⟩ : ∃ a5, a5 = a4.put (some t20) (.tuple #[en.key, en.val]) := ⟨_, rfl⟩
    rw [← ha5] at hs5 ⊢
    -- the round, from here
    have hg5 := hs5.g
    have hrnd := W.run (round v d i kd vd hkv hid hd2) (C := C.here φ2 (S v d).H w3') (φ := φ2) (a := a5) (w := w3') (hlen v d ▸ hn.here hg5) hs5.here
    have hrnd' : wpOpsIn C.F 0 P ops7 _ (List.range ops7.size).tail a5 w3' := hrnd
    have base : ∀ (s' : St) (φ' : List (Option Nat)) (a6 : Act) (w6 : World), SRel (C.here φ2 (S v d).H w3') φ' s' a6 w6 → (s'.slots[tm]? = some (.map om) ∧ s'.H[om]? = some (.mapx es (some (bs, clock2))) ∧ Ghost n' s'.slots s'.H (S v (d ++ [i])).slots (S v (d ++ [i])).H) →
        ∃ m', m' < lf bs (seenOf bs d) ∧ ∃ d φ, SRel C φ (S v d) a6 w6 ∧ (∀ x ∈ d, x < es.length) ∧ w6.heap[r]? = some (.mapIter (some b) clock2 (seenOf bs d) clock2) ∧ a6.tmps.toList[tm]? = some (.map (some b)) ∧ lf bs (seenOf bs d) = m' := fun s' φ' a6 w6 hs6 ⟨i1, i2, i3⟩ => by
      have hit6 : w6.heap[r]? = some (.mapIter (some b) clock2 (seenOf bs (d ++ [i])) clock2) := by
        refine (hs6.g.same r ?_ (hg5.noOwn hit3 (noc _ _ _ _).1 (noc _ _ _ _).2)).trans hit3
        show r < w3'.heap.size
        exact (Array.getElem?_eq_some_iff.mp hit3).1
      obtain ⟨mv6, z1, z2⟩ := hs6.slots.get tm _ i1
      obtain ⟨b6, rfl, hφ6⟩ := z2.inv_mapx i2
      obtain ⟨gb, xb, xb2⟩ := hg5.back hs6.g.ofHere
      have hb6 : b6 = b := by
        rcases xb2.map om es _ (hSo v d) with y1 | ⟨es', st', y1, y2⟩
        · have y1' : s'.H[om]? = some .gone := y1
          rw [i2] at y1'; cases y1'
        · have y2' : φ'[om]? = φ2[om]? := y2
          have hφ6' : φ'[om]? = some (some b6) := hφ6
          rw [hφ2', hφ6'] at y2'
          simpa using y2'
      subst hb6
      obtain ⟨φ7, g7, hv7⟩ := i3 _ φ' w6 _ (hlen v d ▸ hn.here hg5) hs6.g hs6.slots
      obtain ⟨gc, xc, xc2⟩ := hg5.back g7.ofHere
      refine ⟨_, ?_, d ++ [i], φ7, ⟨hs6.defers.ofHere hg5, VRs.mono xc hv7, gc⟩, fun x hx => ?_, hit6, z1, rfl⟩
      · have := left_shrinks ents2 (seenOf bs d) en hen
        rw [lf_eq, lf_eq, hbs2, ← hbi, seenOf_push] at this
        exact this
      · rcases List.mem_append.mp hx with h | h
        · exact hd2 x h
        · simp only [List.mem_singleton] at h; subst h; exact hil
    refine wpOpsIn_monoQ ?_ _ _ _ hrnd'
    intro e6 a6 w6 q6
    cases e6 with
    | normal =>
      refine wpIn_mono (show c8.wpIn C.F 0 P _ a6 w6 from q6) ?_
      intro e7 a7 w7 q7
      cases e7 with
      | normal =>
        obtain ⟨s', φ', q8, q9⟩ := q7
        exact base s' φ' a7 w7 q8 q9
      | exit id =>
        show Exit.inBlock b2 _ (.exit id) a7 w7
        simp only [after] at q7
        simp only [Exit.inBlock]
        split at q7
        · rename_i hid'
          rw [if_pos hid']
          obtain ⟨s', φ', q8, q9⟩ := q7
          exact base s' φ' a7 w7 q8 q9
        · obtain ⟨_, _, _, q10⟩ := q7
          exact q10.elim
      | _ =>
        obtain ⟨_, _, _, q10⟩ := q7
        exact q10.elim
    | exit id =>
      show Exit.inBlock b2 _ (.exit id) a6 w6
      simp only [after] at q6
      simp only [Exit.inBlock]
      split at q6
      · rename_i hid'
        rw [if_pos hid']
        obtain ⟨s', φ', q8, q9⟩ := q6
        exact base s' φ' a6 w6 q8 q9
      · obtain ⟨_, _, _, q10⟩ := q6
        exact q10.elim
    | _ =>
      obtain ⟨_, _, _, q10⟩ := q6
      exact q10.elim

end Go.A
