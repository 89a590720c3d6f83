/- A logic of abstract states, part 7: more operations that do what part 4 says of them. -/
import Derived.Test.YtgigpjkdfhhahaaA6
namespace Go.A
set_option linter.unusedVariables false
set_option linter.unusedSimpArgs false

def numOf : D → Int
  | .int _ n => n
  | _ => 0

theorem flat_one {xs : List D} (h : ∀ x ∈ xs, x.cells = [x]) : flat xs = xs := by
  induction xs with
  | nil => rfl
  | cons x xs ih => simp [flat, h x (List.mem_cons_self ..), ih (fun y hy => h y (List.mem_cons_of_mem _ hy))]

theorem isU8_cells {x : D} (h : isU8 x = true) : x.cells = [x] := by cases x <;> first | rfl | (simp [isU8] at h)

theorem VRs.u8 {E : Env} : ∀ {xs : List D} {vs : List Value}, VRs E xs vs → xs.all isU8 = true → vs = (xs.map numOf).map (Value.int .u8)
  | _, _, .nil, _ => rfl
  | x :: _, _, .cons h t, ha => by
    simp only [List.all_cons, Bool.and_eq_true] at ha
    have e := VRs.u8 t ha.2
    cases h <;> simp [isU8] at ha
    rename_i k n
    cases k <;> simp [isU8] at ha
    simp [numOf, e]

theorem foldl_push (ns : List Int) (acc : ByteArray) : ns.foldl (fun r n => r.push (UInt8.ofNat n.toNat)) acc = ⟨acc.data ++ (ns.map fun n => UInt8.ofNat n.toNat).toArray⟩ := by
  induction ns generalizing acc with
  | nil => simp
  | cons n ns ih =>
    rw [List.foldl_cons, ih]
    simp [ByteArray.push]

theorem strBytes_all (s : ByteArray) : (strBytes s).all isU8 = true := by
  rw [List.all_eq_true]
  intro x hx
  obtain ⟨b, _, rfl⟩ := List.mem_map.mp hx
  rfl

theorem VRs.strBytes (E : Env) (s : ByteArray) : VRs E (strBytes s) (s.data.toList.map fun b => Value.int .u8 b.toNat) := by
  unfold Go.A.strBytes
  generalize s.data.toList = l
  induction l with
  | nil => exact .nil
  | cons b l ih => exact .cons (.int _ _) ih

theorem VR.inv_h {E : Env} {o ver i n sz : Nat} {rows : List D} {v : Value} (h : VR E (.h o ver i n) v) (ho : E.H[o]? = some (.arr ver sz rows)) :
    (v = .slice none 0 0 ∧ i = 0 ∧ n = 0 ∧ rows = [] ∧ E.φ[o]? = some none) ∨ ∃ b a cap c e fz, v = .slice (some a) n cap ∧ E.φ[o]? = some (some b) ∧ i + n ≤ rows.length ∧ n ≤ cap ∧
      E.heap[b]? = some (Obj.cells c e fz) ∧ (i + cap) * sz ≤ c.size ∧ (cap = 0 ∨ a = ⟨b, i * sz, none⟩) := by
  cases h with
  | hold a len cap k1 k2 =>
    rw [ho] at k1; obtain rfl := Option.some.inj k1
    simp [AObj.past] at k2
  | hnil k1 k2 =>
    rw [ho] at k1; cases k1
    exact .inl ⟨rfl, rfl, rfl, rfl, k2⟩
  | h k1 k2 k3 k4 k5 k6 k7 =>
    rw [ho] at k1; cases k1
    exact .inr ⟨_, _, _, _, _, _, rfl, k2, k3, k4, k5, k6, k7⟩

theorem G.mark {C φ H w w'} (g : G C φ H w) {n o ver sz b : Nat} {rows : List D} (hn : C.le n) (hno : n ≤ o) (ho : H[o]? = some (.arr ver sz rows)) (hb : φ[o]? = some (some b)) (hs : Same w w') (hsz : w'.heap.size = w.heap.size)
    (hh : ∀ k, k ≠ b → w'.heap[k]? = w.heap[k]?) : G C φ (H.set o .gone) w' ∧ Ext (C.env φ H w) (C.env φ (H.set o .gone) w') ∧ ¬ C.N φ (H.set o .gone) b := by
  have hoH : o < H.length := (List.getElem?_eq_some_iff.mp ho).1
  have hset : (H.set o AObj.gone)[o]? = some .gone := by simp [hoH]
  have hH : ∀ (o1 : Nat), o1 ≠ o → (H.set o AObj.gone)[o1]? = H[o1]? := fun o1 h => by simp [Ne.symm h]
  have hback : ∀ (o1 : Nat) ob, (H.set o AObj.gone)[o1]? = some ob → AObj.alive ob → o1 ≠ o ∧ H[o1]? = some ob := fun o1 ob h1 h2 => by
    by_cases e : o1 = o
    · subst e
      rw [hset] at h1; obtain rfl := Option.some.inj h1
      exact h2.elim
    · exact ⟨e, (hH o1 e).symm.trans h1⟩
  have hN : ∀ b, C.N φ (H.set o .gone) b → C.N φ H b := fun b => by
    rintro (h | ⟨h1, o1, ob1, h2, h3, h4⟩)
    · exact .inl h
    · exact .inr ⟨h1, o1, ob1, h2, (hback o1 ob1 h3 h4).2, h4⟩
  have hN' : ∀ (o1 b : Nat) ob1, o1 ≠ o → H[o1]? = some ob1 → AObj.alive ob1 → φ[o1]? = some (some b) → C.N φ H b → C.N φ (H.set o .gone) b := fun o1 b ob1 h1 h2 h3 h4 h5 => by
    rcases Nat.lt_or_ge b C.w0.heap.size with hlt | hge
    · exact .inl ⟨hlt, g.n0 _ ((g.own o1 b ob1 h2 h3 h4).2 hlt).owns⟩
    · exact .inr ⟨hge, o1, ob1, h4, (hH o1 h1).trans h2, h3⟩
  have hbN : C.N φ H b := g.nOf ho trivial hb
  have hother : ∀ (o1 k : Nat) ob1, o1 ≠ o → H[o1]? = some ob1 → AObj.alive ob1 → φ[o1]? = some (some k) → k ≠ b := fun o1 k ob1 h1 h2 h3 h4 h5 =>
    h1 (g.objs.inj o1 o b ob1 _ h2 h3 ho trivial (h5 ▸ h4) hb)
  have x : Ext (C.env φ H w) (C.env φ (H.set o .gone) w') := {
    imm := fun k h1 h2 hc => ⟨fun h => h1 (hN k h), by show k < w'.heap.size; rw [hsz]; exact h2, hh k fun e => h1 (e ▸ hbN)⟩
    old := fun o1 ob ver1 h1 h2 => by
      by_cases e : o1 = o
      · subst e; exact ⟨.gone, hset, trivial⟩
      · exact ⟨ob, (hH o1 e).trans h1, h2⟩
    arr := fun o1 ver1 sz1 rows1 h1 => by
      by_cases e : o1 = o
      · subst e; exact .inl ⟨.gone, hset, trivial⟩
      · exact .inr ⟨rows1, (hH o1 e).trans h1, rfl, rfl, fun k c e1 fz k1 h3 => ⟨c, e1, fz, (hh k (hother o1 k _ e h1 trivial k1)).trans h3, rfl⟩⟩
    map := fun o1 es st h1 => by
      by_cases e : o1 = o
      · subst e; exact .inl hset
      · exact .inr ⟨es, st, (hH o1 e).trans h1, rfl⟩ }
  have hge : C.w0.heap.size ≤ b := by
    rcases Nat.lt_or_ge b C.w0.heap.size with h | h
    · obtain ⟨q1, _⟩ := (g.own o b _ ho trivial hb).2 h
      have := (List.getElem?_eq_some_iff.mp q1).1
      have := hn.f
      omega
    · exact h
  refine ⟨{
    objs := {
      len := by show φ.length = (H.set o .gone).length; simp [show φ.length = H.length from g.objs.len]
      cl := fun o1 ob h1 => by
        by_cases e : o1 = o
        · subst e
          have h1' : (H.set o1 AObj.gone)[o1]? = some ob := h1
          rw [hset] at h1'; obtain rfl := Option.some.inj h1'
          trivial
        · have h1' : (H.set o AObj.gone)[o1]? = some ob := h1
          rw [hH o1 e] at h1'
          refine Cl.mono x rfl (fun k ha hk => ⟨hh k (hother o1 k ob e h1' ha hk), fun h => hN' o1 k ob e h1' ha hk h⟩) (g.objs.cl o1 ob h1')
      inj := fun o1 o2 b ob1 ob2 h1 h2 h3 h4 h5 h6 => g.objs.inj o1 o2 b ob1 ob2 (hback o1 ob1 h1 h2).2 h2 (hback o2 ob2 h3 h4).2 h4 h5 h6 }
    size := by rw [hsz]; exact g.size
    same := fun k h1 h2 => (hh k (by omega)).trans (g.same k h1 h2)
    own := fun o1 b ob h1 h2 h3 => by rw [hsz]; exact g.own o1 b ob (hback o1 ob h1 h2).2 h2 h3
    world := g.world.trans hs
    n0 := g.n0
    hlen := by have := g.hlen; simpa using this
    ext := g.ext.trans x }, x, ?_⟩
  rintro (⟨h1, _⟩ | ⟨h1, o1, ob1, h2, h3, h4⟩)
  · omega
  · obtain ⟨q1, q2⟩ := hback o1 ob1 h3 h4
    exact q1 (g.objs.inj o1 o b ob1 _ q2 h4 ho trivial h2 hb)

theorem snd_convert {P T C φ H w} (hT : TOk P T) (g : G C φ H w) {hd : Hd} (hle : C.le hd.n) {ρ : Operand → D} {a : Operand → Value} (hρ : ∀ x, VR (C.env φ H w) (ρ x) (a x)) (o : Oper) {src dst : TypeId} {x : Operand}
    (ho : o.op = .convert src dst x) {K} (h : opK T hd o.op ρ H K) : Out P C φ H w (execOp a o) K := by
  rw [ho] at h
  simp only [opK] at h
  have hx := hρ x
  split at h
  · rename_i ts td k n h1 h2 hx1
    rw [hx1] at hx
    cases hax : a x <;> rw [hax] at hx <;> cases hx
    obtain ⟨⟨q, hq⟩, h⟩ := h
    split at h
    · rename_i kd hk
      refine Out.pure g (v := .int kd (kd.wrap n)) ?_ (.int _ _) h
      simp [execOp, ho, hax, convert, run_underlying P src w ((hT.at h1).int hq), run_underlying P dst w ((hT.at h2).int hk), Conv.intToInt]
    · exact h.elim
  · rename_i ts td s h1 h2 hx1
    rw [hx1] at hx
    cases hax : a x <;> rw [hax] at hx <;> cases hx
    obtain ⟨hq, h⟩ := h
    split at h
    · rename_i hk
      refine Out.pure g (v := .string s) ?_ (.str _) h
      simp [execOp, ho, hax, convert, run_underlying P src w ((hT.at h1).string hq), run_underlying P dst w ((hT.at h2).string hk)]
    · rename_i e hk
      obtain ⟨⟨te, he, hek⟩, h⟩ := h
      obtain ⟨cap, hcap⟩ : ∃ cap, (Question.appendCap s.size 0 e).cut (w.tape w.drawn (.appendCap s.size 0 e)) = cap ∧ s.size ≤ cap := ⟨_, rfl, by simp [Question.cut]⟩
      let cells := (s.data.map fun b => Value.int .u8 b.toNat) ++ Array.replicate (cap - s.size) (Value.int .u8 0)
      obtain ⟨w', hw'⟩ : ∃ w', w' = (({ w with drawn := w.drawn + 1, heap := w.heap.push (Obj.cells cells e (0, 0)) } : World).freeze ⟨w.heap.size, cells.size, none⟩ 1) := ⟨_, rfl⟩
      have hfz : w'.heap = w.heap.push (Obj.cells cells e (cells.size, cells.size + 1)) := by
        subst hw'
        apply Array.ext_getElem?
        intro k
        have e0 : ({ w with drawn := w.drawn + 1, heap := w.heap.push (Obj.cells cells e (0, 0)) } : World).freeze ⟨w.heap.size, cells.size, none⟩ 1 =
          { w with drawn := w.drawn + 1, heap := (w.heap.push (Obj.cells cells e (0, 0))).modify w.heap.size fun
            | .cells c elem (lo, hi) => .cells c elem (if lo == hi then (cells.size, cells.size + 1) else (min lo cells.size, max hi (cells.size + 1)))
            | o => o } := rfl
        rw [e0]
        simp only [Array.getElem?_modify, Array.getElem?_push]
        by_cases hk : w.heap.size = k
        · subst hk; simp
        · simp [hk, Ne.symm hk]
      have hheap : ∃ fz, w'.heap[w.heap.size]? = some (Obj.cells cells e fz) := ⟨(cells.size, cells.size + 1), by rw [hfz, Array.getElem?_push, if_pos rfl]⟩
      have hold : ∀ b, b < w.heap.size → w'.heap[b]? = w.heap[b]? := fun b hb => by rw [hfz, Array.getElem?_push, if_neg (by omega)]
      have hsz : w'.heap.size = w.heap.size + 1 := by rw [hfz]; simp
      have hN : ∀ b, C.N φ H b → b < w.heap.size := fun b hb => by
        rcases hb with ⟨h1, _⟩ | ⟨_, o1, ob1, h3, h4, h5⟩
        · have := g.size; omega
        · exact (g.own o1 b ob1 h4 h5 h3).1
      have xx : Ext (C.env φ H w) (C.env φ H w') := {
        imm := fun b h1 h2 hc => ⟨h1, by show b < w'.heap.size; have : b < w.heap.size := h2; omega, hold b h2⟩
        old := fun o1 ob1 ver h1 h2 => ⟨ob1, h1, h2⟩
        arr := fun o1 ver sz rows h1 => .inr ⟨rows, h1, rfl, rfl, fun b c e fz k1 k2 => ⟨c, e, fz, by
          have hb : b < w.heap.size := (Array.getElem?_eq_some_iff.mp k2).1
          exact (hold b hb).trans k2, rfl⟩⟩
        map := fun o1 es st h1 => .inr ⟨es, st, h1, rfl⟩ }
      have gg : G C φ H w' := {
        objs := ⟨g.objs.len, fun o1 ob1 k1 => Cl.mono xx rfl (fun b ha hb => ⟨hold b (g.own o1 b ob1 k1 ha hb).1, fun h => h⟩) (g.objs.cl o1 ob1 k1), g.objs.inj⟩
        size := by have := g.size; omega
        same := fun b k1 k2 => by have := g.size; rw [hold b (by omega)]; exact g.same b k1 k2
        own := fun o1 b ob1 k1 k2 k3 => ⟨by have := (g.own o1 b ob1 k1 k2 k3).1; omega, (g.own o1 b ob1 k1 k2 k3).2⟩
        world := g.world.trans (by subst hw'; exact ⟨rfl, rfl, rfl, (by first | exact Nat.le_refl _ | exact Nat.le_succ _)⟩)
        n0 := g.n0
        hlen := g.hlen
        ext := g.ext.trans xx }
      refine ⟨.value (.slice (some ⟨w.heap.size, 0, none⟩) s.size cap), _, w', φ, H, _, ?_, .inl rfl, h, gg, xx, ?_⟩
      · simp only [execOp, ho, hax, convert, Sem.run_bind, run_underlying P src w ((hT.at h1).string hq), run_underlying P dst w ((hT.at h2).slice hk), run_underlying P e w ((hT.at he).int hek), Result.andThen_ok,
          Conv.stringToBytes, run_choose, Question.forced, Bool.false_eq_true, if_false, hcap.1, newRow, run_newObj, markStringish, run_shape, World.shape?, Sem.run_pure]
        rw [hw']
        simp [cells]
      · obtain ⟨fz, hf⟩ := hheap
        have hlen : (strBytes s).length = s.size := by simp [strBytes]
        have := VR.sl (E := C.env φ H w') (xs := strBytes s) (a := ⟨w.heap.size, 0, none⟩) (cap := cap) (sz := 1) (vs := s.data.toList.map fun b => Value.int .u8 b.toNat)
          (by rw [hlen]; exact hcap.2) (fun h => by have := hN _ h; simp at this) (by show w.heap.size < w'.heap.size; omega) (by omega)
          (fun x hx => by rw [isU8_cells (List.all_eq_true.mp (strBytes_all s) x hx)]; rfl)
          ⟨rfl, cells, e, fz, hf, fun j v hj => by
            simp only [Nat.zero_add, cells]
            have hjl := (List.getElem?_eq_some_iff.mp hj).1
            rw [Array.getElem?_append_left (by simpa using hjl)]
            simpa using hj⟩
          (by rw [flat_one (fun x hx => isU8_cells (List.all_eq_true.mp (strBytes_all s) x hx))]; exact VRs.strBytes _ s)
        rw [hlen] at this
        exact this
    · exact h.elim
  · rename_i ts td h1 h2 hx1 hx2
    rcases h with h | ⟨oo, ver, i, m, e, te, sz, rows, hxe, hsd, hts, htd, he, hek, hm, hno, hobj, h⟩
    case inr =>
      rw [hxe] at hx
      rcases hx.inv_h hobj with ⟨_, _, hn0, _⟩ | ⟨b, ad, cap, c, e', fz0, hav, hφ, k3, k4, k5, k6, k7⟩
      · omega
      have hφ' : φ[oo]? = some (some b) := hφ
      obtain ⟨q1, q2, c2, e2, vs, ⟨fz, hfz, q3⟩, q4, q5⟩ := g.arrOf hobj hφ'
      have k5' : w.heap[b]? = some (Obj.cells c e' fz0) := k5
      rw [q3] at k5'; cases k5'
      have had : ad = ⟨b, i * sz, none⟩ := by
        rcases k7 with k7 | k7
        · omega
        · exact k7
      subst had
      obtain ⟨w', hw'⟩ : ∃ w', w' = w.freeze ⟨b, c.size, none⟩ 1 := ⟨_, rfl⟩
      have e0 : w.freeze ⟨b, c.size, none⟩ 1 = { w with heap := w.heap.modify b fun
          | .cells c' elem (lo, hi) => .cells c' elem (if lo == hi then (c.size, c.size + 1) else (min lo c.size, max hi (c.size + 1)))
          | o => o } := rfl
      have hhp : ∀ k, k ≠ b → w'.heap[k]? = w.heap[k]? := fun k hk => by
        rw [hw', e0]
        simp only [Array.getElem?_modify]
        rw [if_neg (Ne.symm hk)]
      obtain ⟨fz2, hfz2⟩ : ∃ fz2, fz2 = (if fz0.1 == fz0.2 then (c.size, c.size + 1) else (min fz0.1 c.size, max fz0.2 (c.size + 1))) := ⟨_, rfl⟩
      have hFz2 : NoFz c.size fz2 := by
        rw [hfz2]
        split
        · exact .inr (Nat.le_refl _)
        · rename_i hne
          rcases hfz with hfz | hfz
          · exact absurd (beq_iff_eq.mpr hfz) hne
          · exact .inr (by dsimp only; omega)
      have hhb : w'.heap[b]? = some (Obj.cells c e' fz2) := by
        rw [hw', e0, hfz2]
        simp only [Array.getElem?_modify]
        simp [q3]
      have hszw : w'.heap.size = w.heap.size := by rw [hw', e0]; simp
      have hsame : Same w w' := by rw [hw', e0]; exact ⟨rfl, rfl, rfl, (by first | exact Nat.le_refl _ | exact Nat.le_succ _)⟩
      split at h
      · have hφs : φ.set oo (some b) = φ := by
          apply List.ext_getElem?
          intro k
          by_cases hk : k = oo
          · subst hk
            have := (List.getElem?_eq_some_iff.mp hφ').1
            rw [List.getElem?_set_self this, hφ']
          · simp [Ne.symm hk]
        have key := g.turn (b' := b) (ob' := .arr ver sz rows) (w' := w') hobj trivial hφ' trivial
          { old := fun v hv => hv
            arr := fun v s r hh => by cases hh; exact .inr ⟨_, rfl, rfl⟩
            map := fun es st hh => by cases hh }
          hsame (by omega) (by rw [hszw]; exact (g.own oo b _ hobj trivial hφ').1) (fun k _ hk => hhp k hk)
          (.inl ⟨rfl, fun c1 e1 fz1 hc1 => by
            rw [q3] at hc1; cases hc1
            exact ⟨_, _, _, hhb, rfl⟩⟩)
          (fun E' hE x1 hφ1 hN => by
            refine .inr ⟨b, hφ1, hN, q1, q2, c, e', vs, ?_, VRs.mono x1 q4, q5⟩
            subst hE; exact ⟨fz2, hFz2, hhb⟩)
        rw [hφs] at key
        obtain ⟨m1, m2⟩ := key
        refine ⟨_, .slice (some ⟨b, i * sz, none⟩) m cap, w', φ, _, _, ?_, .inl rfl, h, m1, m2, ?_⟩
        · have hbeq : (src == dst) = true := by simp [hsd]
          simp only [execOp, ho, hav, Sem.run_bind, convert, run_underlying P src w ((hT.at h1).slice hts), run_underlying P dst w ((hT.at h2).slice htd), run_underlying P e w ((hT.at he).int hek), Result.andThen_ok, hbeq,
            markStringish, run_shape, World.shape?, q3, Sem.run_pure]
          rw [hw']
          first | rfl | simp
        · rw [hav] at hx
          exact VR.mono m2 hx
      obtain ⟨m1, m2, m3⟩ := g.mark (w' := w') hle hno hobj hφ' hsame hszw hhp
      refine ⟨_, .slice (some ⟨b, i * sz, none⟩) m cap, w', φ, _, _, ?_, .inl rfl, h, m1, m2, ?_⟩
      · have hbeq : (src == dst) = true := by simp [hsd]
        simp only [execOp, ho, hav, Sem.run_bind, convert, run_underlying P src w ((hT.at h1).slice hts), run_underlying P dst w ((hT.at h2).slice htd), run_underlying P e w ((hT.at he).int hek), Result.andThen_ok, hbeq,
          markStringish, run_shape, World.shape?, q3, Sem.run_pure]
        rw [hw']
        first | rfl | simp
      · have hxl : ((rows.drop i).take m).length = m := by simp; omega
        have hu : ∀ x ∈ rows.drop i, x.cells.length = sz := fun x hx => q2 x (List.mem_of_mem_drop hx)
        have := VR.sl (E := C.env φ (H.set oo .gone) w') (xs := (rows.drop i).take m) (a := ⟨b, i * sz, none⟩) (cap := cap) (sz := sz) (vs := (vs.drop (i * sz)).take (m * sz)) (by omega) m3
          (by show b < w'.heap.size; rw [hszw]; exact (Array.getElem?_eq_some_iff.mp q3).1) q1
          (fun x hx => hu x (List.mem_of_mem_take hx))
          ⟨rfl, c, e', fz2, hhb, fun j v hj => by
            rw [List.getElem?_take] at hj
            split at hj
            · rw [List.getElem?_drop] at hj
              exact q5 _ _ hj
            · cases hj⟩ (by
              rw [← flat_take hu, ← flat_drop q2]
              exact VRs.mono m2 ((q4.drop _).take _))
        rw [hxl] at this
        exact this
    obtain ⟨hk, e, te, hts, he, hek, xs, hxs, hall, h⟩ := h
    obtain ⟨ad, cap, hv, hle, hr⟩ := g.rows hx hxs
    refine Out.pure g (v := .string ⟨(xs.map byteOf).toArray⟩) ?_ (.str _) h
    have hrun : (Conv.bytesToString (.slice ad xs.length cap)).run P w = .ok (.string ⟨(xs.map byteOf).toArray⟩) w := by
      cases xs with
      | nil =>
        cases ad with
        | none => simp [Conv.bytesToString]; rfl
        | some ad =>
          have := run_bytesToString (P := P) w ad 0 cap [] (by simp [loadCells, loadCellsFrom])
          exact this
      | cons x0 xr =>
        obtain ⟨ad', sz, vs, rfl, h3, h4, h5, h6⟩ := hr (by simp)
        rw [flat_one (fun x hx => isU8_cells (List.all_eq_true.mp hall x hx))] at h6
        have h7 := VRs.u8 h6 hall
        have h8 := h6.length
        have := run_bytesToString (P := P) w ad' (x0 :: xr).length cap ((x0 :: xr).map numOf) (by
          rw [run_loadCells_at P h5 _ (by omega), List.take_of_length_le (by omega), h7])
        rw [this, foldl_push]
        congr 2
        simp only [List.map_map]
        have : ∀ x ∈ (x0 :: xr), ((fun n => UInt8.ofNat n.toNat) ∘ numOf) x = byteOf x := fun x hx => by
          have := List.all_eq_true.mp hall x hx
          cases x <;> simp [isU8] at this
          rfl
        rw [List.map_congr_left this]
        simp
    simp only [execOp, ho, hv, Sem.run_bind, run_convert_bytes_string w src dst e ad _ _ ((hT.at h1).slice hts) ((hT.at he).int hek) ((hT.at h2).string hk), hrun, Result.andThen_ok, Sem.run_pure]
  · exact h.elim

end Go.A
