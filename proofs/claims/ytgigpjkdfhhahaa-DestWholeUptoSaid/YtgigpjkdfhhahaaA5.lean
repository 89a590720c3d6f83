/- A logic of abstract states, part 5: the operations do what part 4 says of them. -/
import Derived.Test.YtgigpjkdfhhahaaA4
import Derived.Laws.Append
import Derived.Laws.StructEq
import Derived.Laws.BytesString
namespace Go.A
set_option linter.unusedVariables false
set_option linter.unusedSimpArgs false

/-- What an operation comes to. -/
def Out (P : Program) (C : Ctx) (φ : List (Option Nat)) (H : List AObj) (w : World) (x : Sem Next) (K : D → List AObj → Prop) : Prop :=
  ∃ n v w' φ' H' d, x.run P w = .ok n w' ∧ (n = .value v ∨ n = .skip ∧ v = undef) ∧ K d H' ∧ G C φ' H' w' ∧ Ext (C.env φ H w) (C.env φ' H' w') ∧ VR (C.env φ' H' w') d v

theorem Out.pure {P C φ H w} {x : Sem Next} {K : D → List AObj → Prop} (g : G C φ H w) {v : Value} {d : D} (hr : x.run P w = .ok (.value v) w) (hv : VR (C.env φ H w) d v) (hk : K d H) :
    Out P C φ H w x K := ⟨_, v, w, φ, H, d, hr, .inl rfl, hk, g, .refl _, hv⟩

theorem TOk.at {P : Program} {T : Tab} (hT : TOk P T) {t : TypeId} {td : TD} (h : T.get t = some td) : TDOk P t td := hT t td h

theorem VR.zero {P : Program} {t : TypeId} {td : TD} (h : TDOk P t td) {z : Value} (hz : cD z = td.zero) (E : Env) : VR E td.zero z ∧ VRs E td.zero.cells z.cells.toList := by
  have h1 : VR E td.zero z := hz ▸ cD_ok E z
  refine ⟨h1, h1.cells ?_⟩
  have := h.one
  cases hq : td.zero <;> first | rfl | (rw [hq] at this; simp [D.cells, D.one] at this)

/-- A new row. -/
theorem G.newArr {C φ H w w'} (g : G C φ H w) {sz : Nat} {rows : List D} {c : Array Value} {e : TypeId} {vs : List Value} (hsz : 0 < sz) (hu : ∀ x ∈ rows, x.cells.length = sz)
    (hv : VRs (C.env φ H w) (flat rows) vs) (hc : ∀ (j : Nat) v, vs[j]? = some v → c[j]? = some v) (hh : w'.heap = w.heap.push (Obj.cells c e (0, 0))) (hs : Same w w') :
    G C (φ ++ [some w.heap.size]) (H ++ [.arr 0 sz rows]) w' ∧ Ext (C.env φ H w) (C.env (φ ++ [some w.heap.size]) (H ++ [.arr 0 sz rows]) w') ∧
      (H ++ [AObj.arr 0 sz rows])[H.length]? = some (.arr 0 sz rows) ∧ (φ ++ [some w.heap.size])[H.length]? = some (some w.heap.size) ∧ w'.heap[w.heap.size]? = some (Obj.cells c e (0, 0)) := by
  have hl : φ.length = H.length := g.objs.len
  have k := g.push (.arr 0 sz rows) (Obj.cells c e (0, 0)) trivial hh hs (fun E' hE x h1 h2 h3 => .inr ⟨_, h1, h2, hsz, hu, c, e, vs, CellsAt.mk0 h3, VRs.mono x hv, hc⟩)
  exact ⟨k.1, k.2, by simp, by rw [← hl]; simp, by rw [hh, Array.getElem?_push, if_pos rfl]⟩

theorem G.newArr' {C φ H w w'} (g : G C φ H w) {pl : Option Nat} {sz : Nat} {rows : List D} {c : Array Value} {e : TypeId} {vs : List Value} {K : Nat → Nat → List AObj → Prop} (hk : newK pl H sz rows K) (hsz : 0 < sz) (hu : ∀ x ∈ rows, x.cells.length = sz)
    (hv : VRs (C.env φ H w) (flat rows) vs) (hc : ∀ (j : Nat) v, vs[j]? = some v → c[j]? = some v) (hh : w'.heap = w.heap.push (Obj.cells c e (0, 0))) (hs : Same w w') :
    ∃ φ' H' o ver, K o ver H' ∧ G C φ' H' w' ∧ Ext (C.env φ H w) (C.env φ' H' w') ∧
      H'[o]? = some (.arr ver sz rows) ∧ φ'[o]? = some (some w.heap.size) ∧ w'.heap[w.heap.size]? = some (Obj.cells c e (0, 0)) := by
  cases pl with
  | none =>
    obtain ⟨k1, k2, k3, k4, k5⟩ := g.newArr hsz hu hv hc hh hs
    exact ⟨_, _, _, _, hk, k1, k2, k3, k4, k5⟩
  | some r =>
    obtain ⟨hr, hk⟩ := hk
    have hl : φ.length = H.length := g.objs.len
    have hrH : r < H.length := (List.getElem?_eq_some_iff.mp hr).1
    have hφ : φ[r]? = some none := by
      rcases g.objs.cl r _ hr with ⟨h1, _⟩ | ⟨b, _, _, h3, _⟩
      · exact h1
      · exact absurd h3 (by omega)
    obtain ⟨m1, m2⟩ := g.give (w' := w') (ob' := .arr 1 sz rows) hr hφ trivial (fun v' hv' => by simp only [AObj.past]; omega) hs hh (fun E' hE x1 h1 h2 h3 =>
      .inr ⟨_, h1, h2, hsz, hu, _, e, vs, CellsAt.mk0 h3, VRs.mono x1 hv, hc⟩)
    exact ⟨_, _, r, 1, hk, m1, m2, by simp [hrH], by simp [hl, hrH], by rw [hh, Array.getElem?_push, if_pos rfl]⟩

/-- A new block that nothing owns. -/
theorem G.pushFree {C φ H w w'} (g : G C φ H w) {obj : Obj} (hh : w'.heap = w.heap.push obj) (hs : Same w w') :
    G C φ H w' ∧ Ext (C.env φ H w) (C.env φ H w') ∧ ¬ C.N φ H w.heap.size := by
  have hold : ∀ b, b < w.heap.size → w'.heap[b]? = w.heap[b]? := fun b hb => by rw [hh, Array.getElem?_push, if_neg (by omega)]
  have hsz : w'.heap.size = w.heap.size + 1 := by rw [hh]; simp
  have hN : ∀ b, C.N φ H b → b < w.heap.size := fun b hb => by
    rcases hb with ⟨h1, _⟩ | ⟨_, o1, ob1, h3, h4, h5⟩
    · have := g.size; omega
    · exact (g.own o1 b ob1 h4 h5 h3).1
  have xx : Ext (C.env φ H w) (C.env φ H w') := {
    imm := fun b h1 h2 hc => ⟨h1, by show b < w'.heap.size; have : b < w.heap.size := h2; omega, hold b h2⟩
    old := fun o1 ob1 ver h1 h2 => ⟨ob1, h1, h2⟩
    arr := fun o1 ver sz rows h1 => .inr ⟨rows, h1, rfl, rfl, fun b c e fz k1 k2 => ⟨c, e, fz, by
      have hb : b < w.heap.size := (Array.getElem?_eq_some_iff.mp k2).1
      exact (hold b hb).trans k2, rfl⟩⟩
    map := fun o1 es st h1 => .inr ⟨es, st, h1, rfl⟩ }
  exact ⟨{
    objs := ⟨g.objs.len, fun o1 ob1 k1 => Cl.mono xx rfl (fun b ha hb => ⟨hold b (g.own o1 b ob1 k1 ha hb).1, fun h => h⟩) (g.objs.cl o1 ob1 k1), g.objs.inj⟩
    size := by have := g.size; omega
    same := fun b k1 k2 => by have := g.size; rw [hold b (by omega)]; exact g.same b k1 k2
    own := fun o1 b ob1 k1 k2 k3 => ⟨by have := (g.own o1 b ob1 k1 k2 k3).1; omega, (g.own o1 b ob1 k1 k2 k3).2⟩
    world := g.world.trans hs
    n0 := g.n0
    hlen := g.hlen
    ext := g.ext.trans xx }, xx, fun h => by have := hN _ h; omega⟩

theorem snd_alloc {P T C φ H w} (hT : TOk P T) (g : G C φ H w) {ρ : Operand → D} {a : Operand → Value} (o : Oper) {t : TypeId} (ho : o.op = .alloc t) {hd K} (h : opK T hd o.op ρ H K) :
    Out P C φ H w (execOp a o) K := by
  rw [ho] at h
  simp only [opK] at h
  split at h
  · rename_i td ht
    obtain ⟨h1, h2⟩ := h
    obtain ⟨z, hz1, hz2⟩ := (hT.at ht).run_zero (P := P) w
    have hzv := VR.zero (hT.at ht) hz2 (C.env φ H w)
    obtain ⟨φ', H', o', ver, h2, k1, k2, k3, k4, k5⟩ := g.newArr' (w' := { w with heap := w.heap.push (Obj.cells z.cells t (0, 0)) }) h2 h1 (fun x hx => by simp at hx; subst hx; exact (hT.at ht).len)
      (by simp only [flat, List.append_nil]; exact hzv.2) (fun j v hj => by simpa using hj) rfl ⟨rfl, rfl, rfl, (by first | exact Nat.le_refl _ | exact Nat.le_succ _)⟩
    refine ⟨.value (.pointer (some ⟨w.heap.size, 0, none⟩)), _, _, _, _, _, ?_, .inl rfl, h2, k1, k2, ?_⟩
    · simp only [execOp, ho, Instr.alloc, Sem.run_bind, hz1, Result.andThen_ok, newVar, newRow, run_newObj, Sem.run_pure]
    · have := VR.p (E := C.env φ' H' { w with heap := w.heap.push (Obj.cells z.cells t (0, 0)) }) (i := 0) (j := 0) k3 k4 (by simp) h1
      simpa using this
  · exact h.elim

theorem snd_box {P T C φ H w} (hT : TOk P T) (g : G C φ H w) {ρ : Operand → D} {a : Operand → Value} (hρ : ∀ x, VR (C.env φ H w) (ρ x) (a x)) (o : Oper) {t : TypeId} {x : Operand}
    (ho : o.op = .box t x) {hd K} (h : opK T hd o.op ρ H K) : Out P C φ H w (execOp a o) K := by
  rw [ho] at h
  simp only [opK] at h
  split at h
  · rename_i td ht
    obtain ⟨h1, h2, h3, h4⟩ := h
    have hrun : ∀ w', w' = { w with heap := w.heap.push (Obj.cells (a x).cells t (0, 0)) } → (execOp a o).run P w = .ok (.value (.pointer (some ⟨w.heap.size, 0, none⟩))) w' := fun w' e => by
      subst e
      simp only [execOp, ho, Instr.box, Sem.run_bind, Result.andThen_ok, newVar, newRow, run_newObj, Sem.run_pure]
    split at h4
    · obtain ⟨φ', H', o', ver, h4, k1, k2, k3, k4, k5⟩ := g.newArr' (w' := { w with heap := w.heap.push (Obj.cells (a x).cells t (0, 0)) }) h4 h1 (fun y hy => by simp at hy; subst hy; exact h2)
        (by simp only [flat, List.append_nil]; exact (hρ x).cells h3) (fun j v hj => by simpa using hj) rfl ⟨rfl, rfl, rfl, (by first | exact Nat.le_refl _ | exact Nat.le_succ _)⟩
      refine ⟨.value (.pointer (some ⟨w.heap.size, 0, none⟩)), _, _, _, _, _, hrun _ rfl, .inl rfl, h4, k1, k2, ?_⟩
      have := VR.p (E := C.env φ' H' { w with heap := w.heap.push (Obj.cells (a x).cells t (0, 0)) }) (i := 0) (j := 0) k3 k4 (by simp) h1
      simpa using this
    · obtain ⟨w', hw'⟩ : ∃ w', w' = { w with heap := w.heap.push (Obj.cells (a x).cells t (0, 0)) } := ⟨_, rfl⟩
      have hhp : w'.heap = w.heap.push (Obj.cells (a x).cells t (0, 0)) := by rw [hw']
      have hsame : Same w w' := by rw [hw']; exact ⟨rfl, rfl, rfl, (by first | exact Nat.le_refl _ | exact Nat.le_succ _)⟩
      obtain ⟨m1, m2, m3⟩ := g.pushFree hhp hsame
      refine ⟨_, _, w', φ, H, _, hrun w' hw', .inl rfl, h4, m1, m2, ?_⟩
      have hcl := (hρ x).cells h3
      exact VR.pe (vs := (a x).cells.toList) m3 (by show w.heap.size < w'.heap.size; rw [hhp]; simp)
        ⟨rfl, (a x).cells, t, (0, 0), by rw [show (C.env φ H w').heap = w'.heap from rfl, hhp, Array.getElem?_push, if_pos rfl], fun j v hj => by simpa using hj⟩ (VRs.mono m2 hcl)
  · exact h.elim

theorem snd_load {P T C φ H w} (hT : TOk P T) (g : G C φ H w) {ρ : Operand → D} {a : Operand → Value} (hρ : ∀ x, VR (C.env φ H w) (ρ x) (a x)) (o : Oper) {t : TypeId} {x : Operand}
    (ho : o.op = .load t x) {hd K} (h : opK T hd o.op ρ H K) : Out P C φ H w (execOp a o) K := by
  rw [ho] at h
  simp only [opK, loadK] at h
  split at h
  · rename_i td ht
    obtain ⟨cs, hc, h1⟩ := h
    have key : ∀ r : D, ((td.k.isAgg = true ∧ td.size ≤ cs.length ∧ r = .agg (cs.take td.size)) ∨ (td.k.isAgg = false ∧ cs[0]? = some r)) → K r H → Out P C φ H w (execOp a o) K := fun r hr hk => by
      obtain ⟨u, h3, h4⟩ := g.load hT (hρ x) hc ht hr
      exact Out.pure g (by simp [execOp, ho, h3]) h4 hk
    split at h1
    · rename_i hb
      exact key _ (.inl ⟨hb, h1.1, rfl⟩) h1.2
    · rename_i hb
      split at h1
      · exact key _ (.inr ⟨hb, rfl⟩) h1
      · exact h1.elim
  · exact h.elim

theorem snd_store {P T C φ H w} (hT : TOk P T) (g : G C φ H w) {ρ : Operand → D} {a : Operand → Value} (hρ : ∀ x, VR (C.env φ H w) (ρ x) (a x)) (o : Oper) {t : TypeId} {x y : Operand}
    (ho : o.op = .store t x y) {hd K} (h : opK T hd o.op ρ H K) : Out P C φ H w (execOp a o) K := by
  rw [ho] at h
  simp only [opK, storeK] at h
  split at h
  · rename_i td ht
    split at h
    · rename_i o' ver i j hp
      split at h
      · rename_i v sz rows hobj
        obtain ⟨rfl, row, h1, h2, h3, h4, h5, h6⟩ := h
        obtain ⟨w', k1, k2, k3⟩ := g.store hT hp (hρ x) (hρ y) hobj h1 ht h2 h3 h4 h5
        exact ⟨.skip, undef, w', _, _, .tup [], by simp [execOp, ho, k1], .inr ⟨rfl, rfl⟩, h6, k2, k3, .tup .nil⟩
      · exact h.elim
    · exact h.elim
  · exact h.elim

theorem snd_move {P T C φ H w} (g : G C φ H w) {ρ : Operand → D} {a : Operand → Value} (hρ : ∀ x, VR (C.env φ H w) (ρ x) (a x)) (o : Oper) {x : Operand}
    (ho : o.op = .move x ∨ o.op = .assign x) {hd K} (h : opK T hd o.op ρ H K) : Out P C φ H w (execOp a o) K := by
  rcases ho with ho | ho <;> (rw [ho] at h; exact Out.pure g (by simp [execOp, ho]) (hρ x) h)

theorem snd_pick {P T C φ H w} (g : G C φ H w) {ρ : Operand → D} {a : Operand → Value} (hρ : ∀ x, VR (C.env φ H w) (ρ x) (a x)) (o : Oper) {c x y : Operand}
    (ho : o.op = .pick c x y) {hd K} (h : opK T hd o.op ρ H K) : Out P C φ H w (execOp a o) K := by
  rw [ho] at h
  simp only [opK] at h
  split at h
  · rename_i t hc
    have hv := hρ c
    rw [hc] at hv
    cases hac : a c <;> rw [hac] at hv <;> cases hv
    cases t with
    | true => exact Out.pure g (by simp [execOp, ho, hac, asBool]) (hρ x) (h.1 rfl)
    | false => exact Out.pure g (by simp [execOp, ho, hac, asBool]) (hρ y) (h.2 rfl)
  · exact h.elim

theorem snd_nilCheck {P T C φ H w} (g : G C φ H w) {ρ : Operand → D} {a : Operand → Value} (hρ : ∀ x, VR (C.env φ H w) (ρ x) (a x)) (o : Oper) {x : Operand}
    (ho : o.op = .nilCheck x) {hd K} (h : opK T hd o.op ρ H K) : Out P C φ H w (execOp a o) K := by
  rw [ho] at h
  simp only [opK] at h
  have hv := hρ x
  split at h
  · rename_i o' ver i j hx
    obtain ⟨h1, h2⟩ := h
    obtain ⟨cs, hcs⟩ := Option.isSome_iff_exists.mp h1
    obtain ⟨ad, vs, had, _, _⟩ := g.ptr (hx ▸ hv) hcs
    exact Out.pure g (v := a x) (by simp [execOp, ho, had]) (hρ x) (hx ▸ h2)
  · rename_i cs hx
    rw [hx] at hv
    cases hac : a x <;> rw [hac] at hv <;> cases hv
    exact Out.pure g (v := a x) (by simp [execOp, ho, hac]) (hρ x) (hx ▸ h)
  · rename_i f caps hx
    rw [hx] at hv
    cases hac : a x <;> rw [hac] at hv <;> cases hv
    exact Out.pure g (v := a x) (by simp [execOp, ho, hac]) (hρ x) (hx ▸ h)
  · exact h.elim

theorem snd_unOp {P T C φ H w} (g : G C φ H w) {ρ : Operand → D} {a : Operand → Value} (hρ : ∀ x, VR (C.env φ H w) (ρ x) (a x)) (o : Oper) {op : UnOp} {t : TypeId} {x : Operand}
    (ho : o.op = .unOp op t x) {hd K} (h : opK T hd o.op ρ H K) : Out P C φ H w (execOp a o) K := by
  rw [ho] at h
  simp only [opK] at h
  have hv := hρ x
  split at h
  · rename_i hx
    rw [hx] at hv
    cases hac : a x <;> rw [hac] at hv <;> cases hv
    exact Out.pure g (by simp [execOp, ho, hac, Op.unary, Op.intArith]) (.int _ _) h
  · rename_i k n hx
    rw [hx] at hv
    cases hac : a x <;> rw [hac] at hv <;> cases hv
    refine Out.pure g (d := .int k (bitsI .xor k (if k.signed then -1 else k.max) n)) ?_ (.int _ _) h
    simp [execOp, ho, hac, Op.unary, Op.intBits, bitsI]
  · rename_i hx
    rw [hx] at hv
    cases hac : a x <;> rw [hac] at hv <;> cases hv
    exact Out.pure g (by simp [execOp, ho, hac, Op.unary]) (.bool _) h
  · exact h.elim

theorem snd_makeFunc {P T C φ H w} (g : G C φ H w) {ρ : Operand → D} {a : Operand → Value} (hρ : ∀ x, VR (C.env φ H w) (ρ x) (a x)) (o : Oper) {fn : Fn} {fi ca : Array Operand}
    (ho : o.op = .makeFunc fn fi ca) {hd K} (h : opK T hd o.op ρ H K) : Out P C φ H w (execOp a o) K := by
  rw [ho] at h
  simp only [opK] at h
  split at h
  · rename_i f hf
    have hmap : ∀ l : List Operand, VRs (C.env φ H w) (l.map ρ) (l.map a) := fun l => by
      induction l with
      | nil => exact .nil
      | cons x l ih => exact .cons (hρ x) ih
    have hfi : fi = #[] := by cases fi; simp_all
    subst hfi
    refine Out.pure g (v := .func (.func f) #[] (ca.map a)) (by simp [execOp, ho, Instr.makeFunc]) (.fn ?_) h
    have := hmap ca.toList
    simpa using this
  · exact h.elim

theorem snd_extract {P T C φ H w} (g : G C φ H w) {ρ : Operand → D} {a : Operand → Value} (hρ : ∀ x, VR (C.env φ H w) (ρ x) (a x)) (o : Oper) {x : Operand} {ix : Nat}
    (ho : o.op = .extract x ix) {hd K} (h : opK T hd o.op ρ H K) : Out P C φ H w (execOp a o) K := by
  rw [ho] at h
  simp only [opK] at h
  have hv := hρ x
  split at h
  · rename_i vs hx
    split at h
    · rename_i d hd
      rw [hx] at hv
      cases hac : a x <;> rw [hac] at hv <;> cases hv
      rename_i arr hvs
      obtain ⟨u, h1, h2⟩ := hvs.get ix d hd
      have h1' : arr[ix]? = some u := by simpa using h1
      exact Out.pure g (v := u) (by simp [execOp, ho, hac, Instr.extract, h1']) h2 h
    · exact h.elim
  · exact h.elim

theorem snd_makeInterface {P T C φ H w} (hT : TOk P T) (g : G C φ H w) {ρ : Operand → D} {a : Operand → Value} (hρ : ∀ x, VR (C.env φ H w) (ρ x) (a x)) (o : Oper) {t : TypeId} {x : Operand}
    (ho : o.op = .makeInterface t x) {hd K} (h : opK T hd o.op ρ H K) : Out P C φ H w (execOp a o) K := by
  rw [ho] at h
  simp only [opK] at h
  obtain ⟨⟨td, ht, hne⟩, h⟩ := h
  obtain ⟨d, h1, h2⟩ := (hT.at ht).und
  refine Out.pure g (v := .iface t (a x)) ?_ (.ifc (hρ x)) h
  simp only [execOp, ho, Instr.makeInterface, Sem.run_bind, run_underlying P t w h1, Result.andThen_ok]
  cases d <;> first | (simp [TK.fits] at h2; exact absurd h2 hne) | rfl

theorem snd_makeMap {P T C φ H w} (hT : TOk P T) (g : G C φ H w) {ρ : Operand → D} {a : Operand → Value} (o : Oper) {t : TypeId} {r : Option Operand}
    (ho : o.op = .makeMap t r) {hd K} (h : opK T hd o.op ρ H K) : Out P C φ H w (execOp a o) K := by
  rw [ho] at h
  simp only [opK] at h
  split at h
  · obtain ⟨_, h⟩ := h
    have hl : φ.length = H.length := g.objs.len
    have k := g.push (w' := { w with heap := w.heap.push (Obj.map #[] 0) }) (.map []) (Obj.map #[] 0) trivial rfl ⟨rfl, rfl, rfl, (by first | exact Nat.le_refl _ | exact Nat.le_succ _)⟩
      (fun E' hE x h1 h2 h3 => ⟨_, h1, h2, #[], 0, h3, .nil, .nil, by simp, by simp⟩)
    refine ⟨.value (.map (some w.heap.size)), _, _, _, _, _, by simp only [execOp, ho, Instr.makeMap, Sem.run_bind, Option.map_none, Sem.run_pure, Result.andThen_ok, run_newObj], .inl rfl, h, k.1, k.2, ?_⟩
    exact .map (es := []) (st := none) (by show (H ++ [AObj.map []])[H.length]? = some (.mapx [] none); simp [AObj.map]) (by show (φ ++ [some w.heap.size])[H.length]? = _; rw [← hl]; simp)
  · exact h.elim

theorem flat_replicate (n : Nat) (d : D) : flat (List.replicate n d) = (List.replicate n d.cells).flatten := by
  induction n with
  | zero => rfl
  | succ n ih => simp [List.replicate_succ, flat, ih]

theorem VRs.replicate {E : Env} {ds : List D} {vs : List Value} (h : VRs E ds vs) (n : Nat) : VRs E (List.replicate n ds).flatten (List.replicate n vs).flatten := by
  induction n with
  | zero => exact .nil
  | succ n ih => simp only [List.replicate_succ, List.flatten_cons]; exact h.append ih

theorem repl_get {α : Type} (zs : List α) : ∀ (n j : Nat) (v : α), (List.replicate n zs).flatten[j]? = some v → j < n * zs.length ∧ zs[j % zs.length]? = some v
  | 0, j, v, h => by simp at h
  | n + 1, j, v, h => by
    rw [List.replicate_succ, List.flatten_cons] at h
    have e : (n + 1) * zs.length = n * zs.length + zs.length := by rw [Nat.add_mul]; omega
    rcases Nat.lt_or_ge j zs.length with h1 | h1
    · rw [List.getElem?_append_left h1] at h
      exact ⟨by omega, by rw [Nat.mod_eq_of_lt h1]; exact h⟩
    · rw [List.getElem?_append_right h1] at h
      obtain ⟨h2, h3⟩ := repl_get zs n _ v h
      exact ⟨by omega, by rw [Nat.mod_eq_sub_mod h1]; exact h3⟩

theorem zeroRow_get (zero : Array Value) (n j : Nat) (v : Value) (h : (List.replicate n zero.toList).flatten[j]? = some v) :
    ((Array.range (n * zero.size)).map (zero[· % zero.size]!))[j]? = some v := by
  obtain ⟨h1, h2⟩ := repl_get _ _ _ _ h
  rw [Array.length_toList] at h1 h2
  have h3 : zero[j % zero.size]? = some v := by simpa using h2
  rw [Array.getElem?_map, Array.getElem?_range, if_pos h1]
  simp only [Option.map_some, getElem!_def, h3]

theorem snd_makeSlice {P T C φ H w} (hT : TOk P T) (g : G C φ H w) {ρ : Operand → D} {a : Operand → Value} (hρ : ∀ x, VR (C.env φ H w) (ρ x) (a x)) (o : Oper) {t : TypeId} {l c : Operand}
    (ho : o.op = .makeSlice t l c) {hd K} (h : opK T hd o.op ρ H K) : Out P C φ H w (execOp a o) K := by
  rw [ho] at h
  simp only [opK] at h
  split at h
  · rename_i td ht
    split at h
    · rename_i e hk
      split at h
      · rename_i te n m hte hl hc
        obtain ⟨rfl, h1, h2, h3, h4, h5⟩ := h
        have hvl := hρ l; have hvc := hρ c
        rw [hl] at hvl; rw [hc] at hvc
        cases hal : a l <;> rw [hal] at hvl <;> cases hvl
        cases hac : a c <;> rw [hac] at hvc <;> cases hvc
        obtain ⟨z, hz1, hz2⟩ := (hT.at hte).run_zero (P := P) w
        have hzv := VR.zero (hT.at hte) hz2 (C.env φ H w)
        obtain ⟨i, z', hi1, hi2, hi3, hi4, _⟩ := (hT.at hte).info
        have hzs : z.cells.size = te.size := by
          have := hzv.2.length
          rw [(hT.at hte).len] at this
          simpa using this.symm
        have hwr : IntKind.i64.wrap n = n := by
          simp [IntKind.wrap, IntKind.bits, IntKind.signed]
          omega
        obtain ⟨w', hw'⟩ : ∃ w', w' = { w with heap := w.heap.push (Obj.cells ((Array.range (n.toNat * te.size)).map (z.cells[· % z.cells.size]!)) e (0, 0)) } := ⟨_, rfl⟩
        have hrun : (execOp a o).run P w = .ok (.value (.slice (some ⟨w.heap.size, 0, none⟩) n.toNat n.toNat)) w' := by
          have hbig : ¬ ((n : Int) < 0 ∨ (te.bytes : Int) * n > 2 ^ 48) := by
            have : (2 : Int) ^ 48 = 281474976710656 := by decide
            rw [this]; omega
          simp only [execOp, ho, hal, hac, Instr.makeSlice, Sem.run_bind, (hT.at ht).run_slice hk, Result.andThen_ok, asInt, asIntOf, Sem.run_pure, run_typeInfo P e w hi1, hi3, hwr]
          rw [if_neg (by simp; omega)]
          simp only [Sem.run_bind, run_askRoom, Result.andThen_ok, (hT.at hte).run_size]
          rw [hw']
          split
          · rename_i h0
            simp only [Sem.run_pure, Result.andThen_ok, newRow, Sem.run_bind, run_newObj, h0]
            have hr0 : Array.range 0 = #[] := rfl
            rw [hr0]
            simp
          · simp only [hz1, Sem.run_bind, Sem.run_pure, Result.andThen_ok, newRow, run_newObj]
        have hhp : w'.heap = w.heap.push (Obj.cells ((Array.range (n.toNat * te.size)).map (z.cells[· % z.cells.size]!)) e (0, 0)) := by rw [hw']
        have hsame : Same w w' := by rw [hw']; exact ⟨rfl, rfl, rfl, (by first | exact Nat.le_refl _ | exact Nat.le_succ _)⟩
        have hlr : ∀ x ∈ List.replicate n.toNat te.zero, x.cells.length = te.size := fun x hx => by rw [(List.mem_replicate.mp hx).2]; exact (hT.at hte).len
        have hvr : VRs (C.env φ H w) (flat (List.replicate n.toNat te.zero)) (List.replicate n.toNat z.cells.toList).flatten := by rw [flat_replicate]; exact hzv.2.replicate _
        have hcl : ∀ (j : Nat) v, ((List.replicate n.toNat z.cells.toList).flatten)[j]? = some v → ((Array.range (n.toNat * te.size)).map (z.cells[· % z.cells.size]!))[j]? = some v := fun j v hj => by rw [← hzs]; exact zeroRow_get _ _ _ _ hj
        split at h5
        · obtain ⟨m1, m2, m3⟩ := g.pushFree hhp hsame
          refine ⟨_, _, w', φ, H, _, hrun, .inl rfl, h5, m1, m2, ?_⟩
          have := VR.sl (E := C.env φ H w') (xs := List.replicate n.toNat te.zero) (a := ⟨w.heap.size, 0, none⟩) (cap := n.toNat) (sz := te.size) (vs := (List.replicate n.toNat z.cells.toList).flatten) (by simp) m3 (by show w.heap.size < w'.heap.size; rw [hhp]; simp) h1 hlr
            ⟨rfl, _, e, (0, 0), by rw [show (C.env φ H w').heap = w'.heap from rfl, hhp, Array.getElem?_push, if_pos rfl], fun j v hj => by rw [Nat.zero_add]; exact hcl j v hj⟩ (VRs.mono m2 hvr)
          rw [List.length_replicate] at this
          exact this
        · obtain ⟨φ', H', o', ver, h5, k1, k2, k3, k4, k5⟩ := g.newArr' (w' := w') (c := (Array.range (n.toNat * te.size)).map (z.cells[· % z.cells.size]!)) (e := e)
            h5 (vs := (List.replicate n.toNat z.cells.toList).flatten) h1 hlr hvr hcl hhp hsame
          refine ⟨_, _, w', _, _, _, hrun, .inl rfl, h5, k1, k2, ?_⟩
          have := VR.h (E := C.env φ' H' w') (i := 0) (n := n.toNat) (cap := n.toNat) (a := ⟨w.heap.size, 0, none⟩) k3 k4 (by simp) (Nat.le_refl _) k5
            (by simp) (.inr (by simp))
          simpa using this
      · exact h.elim
    · exact h.elim
  · exact h.elim

/-- A slice's rows, in memory. -/
theorem G.rows {C φ H w} (g : G C φ H w) {d : D} {v : Value} (h : VR (C.env φ H w) d v) {xs : List D} (hx : rowsOf H d = some xs) :
    ∃ a cap, v = .slice a xs.length cap ∧ xs.length ≤ cap ∧ (xs ≠ [] → ∃ ad sz vs, a = some ad ∧ 0 < sz ∧ (∀ x ∈ xs, x.cells.length = sz) ∧ readsAt w.heap ad vs ∧ VRs (C.env φ H w) (flat xs) vs) := by
  cases h with
  | sl0 a cap =>
    simp only [rowsOf, Option.some.injEq] at hx; subst hx
    exact ⟨a, cap, rfl, Nat.zero_le _, fun h => absurd rfl h⟩
  | sl h1 h2 h3 h4 h5 h6 h7 =>
    simp only [rowsOf, Option.some.injEq] at hx; subst hx
    exact ⟨_, _, rfl, h1, fun _ => ⟨_, _, _, rfl, h4, h5, h6, h7⟩⟩
  | nils =>
    simp only [rowsOf, Option.some.injEq] at hx; subst hx
    exact ⟨none, 0, rfl, Nat.le_refl _, fun h => absurd rfl h⟩
  | hold a len cap h1 h2 =>
    rename_i o ver i n ob
    simp only [rowsOf] at hx
    have h1' : H[o]? = some ob := h1
    rw [h1'] at hx
    cases ob with
    | arr v sz rows =>
      simp only at hx
      split at hx
      · rename_i e; subst e; simp [AObj.past] at h2
      · cases hx
    | mapx es st => simp [AObj.past] at h2
    | gone => simp at hx
  | hnil h1 h2 =>
    rename_i o ver sz
    simp only [rowsOf] at hx
    have h1' : H[o]? = some (.arr ver sz []) := h1
    rw [h1'] at hx
    simp at hx; subst hx
    exact ⟨none, 0, rfl, Nat.le_refl _, fun h => absurd rfl h⟩
  | h h1 h2 h3 h4 h5 h6 h7 =>
    rename_i o ver i n sz b cap rows a c e fz
    simp only [rowsOf] at hx
    have h1' : H[o]? = some (.arr ver sz rows) := h1
    have h2' : φ[o]? = some (some b) := h2
    rw [h1'] at hx
    simp only [if_true, Option.some.injEq] at hx
    have hlen : xs.length = n := by rw [← hx]; simp; omega
    obtain ⟨q1, q2, c', e', vs, ⟨fz, hfz, q3⟩, q4, q5⟩ := g.arrOf h1' h2'
    refine ⟨some a, cap, by rw [hlen], by omega, fun hne => ?_⟩
    have hn : 0 < n := by
      rcases Nat.eq_zero_or_pos n with e | e
      · subst e; exact absurd (List.length_eq_zero_iff.mp hlen) hne
      · exact e
    rcases h7 with h7 | h7
    · omega
    · subst h7
      refine ⟨_, sz, (vs.drop (i * sz)).take (n * sz), rfl, q1, fun x hxm => q2 x ?_, ⟨rfl, c', e', fz, q3, fun j u hj => ?_⟩, ?_⟩
      · rw [← hx] at hxm
        exact List.mem_of_mem_drop (List.mem_of_mem_take hxm)
      · have hjl : j < n * sz := by
          have := (List.getElem?_eq_some_iff.mp hj).1
          simp at this; omega
        rw [List.getElem?_take, if_pos hjl, List.getElem?_drop] at hj
        exact q5 _ _ hj
      · rw [← hx, ← flat_take (fun x hxm => q2 x (List.mem_of_mem_drop hxm)), ← flat_drop q2]
        exact (q4.drop _).take _
  | _ => simp [rowsOf] at hx

theorem lenD_ok {E : Env} {d : D} {v : Value} (h : VR E d v) {n : Nat} (hn : lenD E.H d = some n) (hs : ∀ s, d ≠ .str s) : ∃ a cap, v = .slice a n cap ∧ n ≤ cap := by
  cases h with
  | sl0 a cap => simp only [lenD, Option.some.injEq] at hn; subst hn; exact ⟨_, _, rfl, Nat.zero_le _⟩
  | sl h1 => simp only [lenD, Option.some.injEq] at hn; subst hn; exact ⟨_, _, rfl, h1⟩
  | nils => simp only [lenD, Option.some.injEq] at hn; subst hn; exact ⟨_, _, rfl, Nat.le_refl _⟩
  | hold a len cap h1 h2 =>
    rename_i ob
    simp only [lenD, h1] at hn
    cases ob with
    | arr v sz rows =>
      simp only at hn
      split at hn
      · rename_i e; subst e; simp [AObj.past] at h2
      · cases hn
    | mapx es st => simp [AObj.past] at h2
    | gone => simp at hn
  | hnil h1 h2 => simp only [lenD, h1, if_true, Option.some.injEq] at hn; subst hn; exact ⟨_, _, rfl, Nat.le_refl _⟩
  | h h1 h2 h3 h4 => simp only [lenD, h1, if_true, Option.some.injEq] at hn; subst hn; exact ⟨_, _, rfl, h4⟩
  | str s => exact absurd rfl (hs s)
  | _ => simp [lenD] at hn

end Go.A
