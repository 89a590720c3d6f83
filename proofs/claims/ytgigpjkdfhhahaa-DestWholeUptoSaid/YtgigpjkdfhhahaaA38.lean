/- A logic of abstract states, part 38: a range over a function. -/
import Derived.Test.YtgigpjkdfhhahaaA37
namespace Go.A
set_option linter.unusedVariables false
set_option linter.unusedSimpArgs false

/-- The heap has grown. -/
structure Grow (w w' : World) : Prop where
  size : w.heap.size ≤ w'.heap.size
  same : ∀ b, b < w.heap.size → w'.heap[b]? = w.heap[b]?
  world : Same w w'

theorem Grow.refl (w : World) : Grow w w := ⟨Nat.le_refl _, fun _ _ => rfl, .refl w⟩
theorem Grow.trans {a b c : World} (h : Grow a b) (k : Grow b c) : Grow a c := ⟨Nat.le_trans h.size k.size, fun x hx => (k.same x (Nat.lt_of_lt_of_le hx h.size)).trans (h.same x hx), h.world.trans k.world⟩
theorem Grow.alloc (w : World) (o : Obj) : Grow w (w.alloc o) where
  size := by rw [World.size_alloc]; omega
  same := fun b hb => by
    show (w.heap.push o)[b]? = _
    rw [Array.getElem?_push, if_neg (by omega)]
  world := ⟨rfl, rfl, rfl, (by first | exact Nat.le_refl _ | exact Nat.le_succ _)⟩

theorem G.grow {C φ H w w'} (g : G C φ H w) (k : Grow w w') : G C φ H w' ∧ Ext (C.env φ H w) (C.env φ H w') := by
  have x : Ext (C.env φ H w) (C.env φ H w') := {
    imm := fun b h1 h2 _ => ⟨h1, Nat.lt_of_lt_of_le h2 k.size, k.same b h2⟩
    old := fun o ob ver h1 h2 => ⟨ob, h1, h2⟩
    arr := fun o ver sz rows h1 => .inr ⟨rows, h1, rfl, rfl, fun b c e fz h2 h3 => ⟨c, e, fz, (k.same b (Array.getElem?_eq_some_iff.mp h3).1).trans h3, rfl⟩⟩
    map := fun o es st h1 => .inr ⟨es, st, h1, rfl⟩ }
  refine ⟨{
    objs := ⟨g.objs.len, fun o ob h => Cl.mono x rfl (fun b ha hb => ⟨k.same b (g.own o b ob h ha hb).1, fun h => h⟩) (g.objs.cl o ob h), g.objs.inj⟩
    size := Nat.le_trans g.size k.size
    same := fun b h1 h2 => (k.same b (Nat.lt_of_lt_of_le h1 g.size)).trans (g.same b h1 h2)
    own := fun o b ob h1 h2 h3 => ⟨Nat.lt_of_lt_of_le (g.own o b ob h1 h2 h3).1 k.size, (g.own o b ob h1 h2 h3).2⟩
    world := g.world.trans k.world
    n0 := g.n0
    hlen := g.hlen
    ext := g.ext.trans x }, x⟩

/-- What is told where nothing is owned, but some blocks may be turned by others. -/
def LEnv (N : Nat → Prop) (w : World) : Env := ⟨N, [], [], w.heap⟩

def LC (B : Nat) (N : Nat → Prop) (w : World) : Ctx := ⟨N, [], [], w, none, B⟩

structure KeepN (w : World) (N : Nat → Prop) (w' : World) (N' : Nat → Prop) : Prop where
  size : w.heap.size ≤ w'.heap.size
  keep : ∀ b, b < w.heap.size → ¬ N b → Solid w.heap b → ¬ N' b ∧ w'.heap[b]? = w.heap[b]?

theorem KeepN.w {w N w' N'} (k : KeepN w N w' N') : ExtW (LEnv N w) (LEnv N' w') where
  imm := fun b h1 h2 h3 => ⟨(k.keep b h2 h1 (.inl h3)).1, Nat.lt_of_lt_of_le h2 k.size, (k.keep b h2 h1 (.inl h3)).2⟩
  old := fun o ob ver h => by simp [LEnv] at h
  arr := fun o ver sz rows h => by simp [LEnv] at h
  map := fun o es st h => by simp [LEnv] at h

theorem Grow.keepN {w w' : World} (k : Grow w w') (N : Nat → Prop) : KeepN w N w' N := ⟨k.size, fun b h1 h2 _ => ⟨h2, k.same b h1⟩⟩

structure LoI (B : Nat) (N : Nat → Prop) (s : List D) (a : Act) (w : World) : Prop where
  defers : ∃ l : List Nat, l.Nodup ∧ a.defers = l.map markOf ∧ ∀ b ∈ l, B ≤ b ∧ ¬ N b ∧ w.heap[b]? = some (Obj.deferred (some []))
  slots : VRs (LEnv N w) s a.tmps.toList

theorem LoI.keep {B N s a w N' w'} (h : LoI B N s a w) (k : KeepN w N w' N') : LoI B N' s a w' where
  defers := by
    obtain ⟨l, h1, h2, h3⟩ := h.defers
    refine ⟨l, h1, h2, fun b hb => ?_⟩
    obtain ⟨q1, q2, q3⟩ := h3 b hb
    obtain ⟨q4, q5⟩ := k.keep b (Array.getElem?_eq_some_iff.mp q3).1 q2 (.inr q3)
    exact ⟨q1, q4, q5.trans q3⟩
  slots := VRs.monoW k.w h.slots

theorem LoI.get {B N s a w} (h : LoI B N s a w) {t : Nat} {d : D} (ht : s[t]? = some d) : VR (LEnv N w) d (a.eval (.tmp t)) := by
  obtain ⟨v, h1, h2⟩ := h.slots.get t d ht
  have : a.tmps[t]? = some v := by simpa using h1
  simp only [Act.eval, Array.getD_eq_getD_getElem?, this]
  exact h2

theorem LC.env {B : Nat} {N : Nat → Prop} {w : World} (hN : ∀ b, N b → b < w.heap.size) : (LC B N w).env [] [] w = LEnv N w := by
  simp only [Ctx.env, LEnv]
  congr 1
  funext b
  apply propext
  constructor
  · rintro (⟨_, h⟩ | ⟨_, o, ob, h, _⟩)
    · exact h
    · simp at h
  · exact fun h => .inl ⟨hN b h, h⟩

theorem LC.g {B : Nat} {N : Nat → Prop} {w : World} (hN : ∀ b, N b → b < w.heap.size) : G (LC B N w) [] [] w where
  objs := ⟨rfl, fun o ob h => by simp [Ctx.env] at h, fun o o' b ob ob' h => by simp [Ctx.env] at h⟩
  size := Nat.le_refl _
  same := fun _ _ _ => rfl
  own := fun o b ob h => by simp at h
  world := .refl w
  n0 := fun b ⟨o, ob, h, _⟩ => by simp [LC] at h
  hlen := Nat.le_refl _
  ext := by
    have : (LC B N w).env0 = (LC B N w).env [] [] w := by rw [LC.env hN]; rfl
    rw [this]
    exact .refl _

theorem LC.le {B : Nat} (N : Nat → Prop) {w : World} (hB : B ≤ w.heap.size) : (LC B N w).le 0 := ⟨Nat.le_refl _, Nat.le_refl _, (fun _ h => by cases h), hB⟩

theorem LoI.srel {B N s a w} (h : LoI B N s a w) (hN : ∀ b, N b → b < w.heap.size) : SRel (LC B N w) [] ⟨s, []⟩ a w where
  defers := by
    obtain ⟨l, h1, h2, h3⟩ := h.defers
    exact ⟨l, h1, h2, fun b hb => ⟨(h3 b hb).1, fun _ => (h3 b hb).2.1, (h3 b hb).2.2⟩⟩
  slots := by rw [LC.env hN]; exact h.slots
  g := LC.g hN

def Item.plain' : Item → Bool
  | .code _ | .ops _ _ _ | .inBlock _ => true
  | _ => false

theorem after_app {P : Program} {C C' : Ctx} (hro : C.ro = C'.ro) {I : St → Prop} {k : List Item} {Post : Exit → Act → World → Prop}
    (hk : ∀ s φ a w, SRel C φ s a w → I s → after P C' k Post .normal a w) : ∀ (pre : List Item), pre.all Item.plain' = true → ∀ e a w, after P C (pre ++ [.hyp I]) (postOf C fun _ _ => False) e a w → after P C' (pre ++ k) Post e a w
  | [], _, e, a, w, h => by
    cases e with
    | normal =>
      obtain ⟨s, φ, h1, h2⟩ := h
      exact hk s φ a w h1 h2
    | _ =>
      obtain ⟨_, _, _, h⟩ := h
      exact h.elim
  | x :: pre, hp, e, a, w, h => by
    have hF : C.F = C'.F := by unfold Ctx.F; rw [hro]
    have hp' : Item.plain' x = true ∧ pre.all Item.plain' = true := by simpa using hp
    have ih := after_app hro hk pre hp'.2
    cases x with
    | code c =>
      cases e with
      | normal =>
        have h' : c.wpIn C.F 0 P (after P C (pre ++ [.hyp I]) (postOf C fun _ _ => False)) a w := h
        rw [hF] at h'
        exact wpIn_mono h' ih
      | _ => exact ih _ _ _ h
    | ops id ops l =>
      cases e with
      | normal =>
        have h' : wpOpsIn C.F 0 P ops (after P C (pre ++ [.hyp I]) (postOf C fun _ _ => False)) l a w := h
        rw [hF] at h'
        exact wpOpsIn_monoQ ih _ _ _ h'
      | _ => exact ih _ _ _ h
    | inBlock id =>
      cases e with
      | exit id' =>
        simp only [List.cons_append, after] at h ⊢
        split at h
        · rename_i he
          rw [if_pos he]
          exact ih _ _ _ h
        · rename_i he
          rw [if_neg he]
          exact ih _ _ _ h
      | _ => exact ih _ _ _ h
    | any o f l => cases hp'.1
    | hyp I => cases hp'.1

/-- Some way on, within what reads alone. -/
theorem LoI.seg {P : Program} {C : Ctx} (hro : C.ro = none) {B N s a w} (h : LoI B N s a w) (hN : ∀ b, N b → b < w.heap.size) (hB : B ≤ w.heap.size) (pre : List Item) (hp : pre.all Item.plain' = true) {I : List D → Prop}
    (hW : W P 0 (pre ++ [.hyp fun s' => ∃ s1, Ghost 0 s'.slots s'.H s1 [] ∧ I s1]) ⟨s, []⟩ fun _ _ => False) {k : List Item} {Post : Exit → Act → World → Prop}
    (hk : ∀ s1 a' w', I s1 → Grow w w' → LoI B N s1 a' w' → after P C k Post .normal a' w') : after P C (pre ++ k) Post .normal a w := by
  refine after_app (C := LC B N w) hro.symm ?_ pre hp .normal a w (W.run hW (LC.le N hB) (h.srel hN))
  rintro s' φ a' w' hs ⟨s1, hg, hI⟩
  obtain ⟨φ', g', hv'⟩ := hg _ _ _ _ (LC.le N hB) hs.g hs.slots
  have hφ : φ' = [] := List.length_eq_zero_iff.mp g'.objs.len
  subst hφ
  have hgr : Grow w w' := ⟨g'.size, fun b hb => g'.same b hb (fun ⟨o, ob, q, _⟩ => by simp [LC] at q), g'.world⟩
  obtain ⟨l, hl1, hl2, hl3⟩ := hs.defers
  refine hk s1 a' w' hI hgr ⟨⟨l, hl1, hl2, fun b hb => ?_⟩, ?_⟩
  · obtain ⟨q1, q2, q3⟩ := hl3 b hb
    exact ⟨q1, fun h => q2 (hN b h) h, q3⟩
  · have : (LC B N w).env [] [] w' = LEnv N w' := by
      simp only [Ctx.env, LEnv]
      congr 1
      funext b
      apply propext
      constructor
      · rintro (⟨_, h⟩ | ⟨_, o, ob, h, _⟩)
        · exact h
        · simp at h
      · exact fun h => .inl ⟨hN b h, h⟩
    rw [this] at hv'
    exact hv'

section
variable {P : Program} {C : Ctx} {k : List Item} {Post : Exit → Act → World → Prop} {a : Act} {w : World}

theorem af_seq {x y : Code} (h : after P C (.code x :: .code y :: k) Post .normal a w) : after P C (.code (.seq x y) :: k) Post .normal a w :=
  wpIn_seq (wpIn_mono h fun e a w q => by cases e <;> exact q)

theorem af_block {id : Nat} {c : Code} (h : after P C (.code c :: .inBlock id :: k) Post .normal a w) : after P C (.code (.block id c) :: k) Post .normal a w :=
  wpIn_block (wpIn_mono h fun e a w q => by cases e <;> exact q)

theorem af_exit {id : Nat} {k' : List Item} (hk : toExit id k = some k') (h : after P C k' Post .normal a w) : after P C (.code (.exit id) :: k) Post .normal a w :=
  wpIn_exit (after_exit hk h)

theorem af_ret (h : Post .ret a w) : after P C (.code .ret :: k) Post .normal a w := wpIn_ret (after_ret h)

theorem af_region {id : Nat} {ops : Array Oper} (h : after P C (.ops id ops (List.range ops.size) :: k) Post .normal a w) : after P C (.code (.region id ops false) :: k) Post .normal a w := wpIn_region h

theorem af_loop {c : Code} (Inv : Nat → Act → World → Prop) (m : Nat) (h0 : Inv m a w)
    (round : ∀ m a w, Inv m a w → after P C [.code c] (fun e a w => match e with | .normal => ∃ m', m' < m ∧ Inv m' a w | e => after P C k Post e a w) .normal a w) : after P C (.code (.loop c) :: k) Post .normal a w := by
  refine wpIn_loopG Inv m h0 fun m a w h => wpIn_mono (round m a w h) fun e a w q => ?_
  cases e <;> exact q

theorem af_cond {B N s} (hl : LoI B N s a w) {t : Nat} {x y : Code} {b : Bool} (ht : s[t]? = some (.bool b)) (h1 : b = true → after P C (.code x :: k) Post .normal a w) (h2 : b = false → after P C (.code y :: k) Post .normal a w) :
    after P C (.code (.cond (.tmp t) x y) :: k) Post .normal a w := by
  have hv := hl.get ht
  cases hav : a.eval (.tmp t) <;> rw [hav] at hv <;> cases hv
  exact wpIn_cond_split hav h1 h2

theorem af_skip (h : after P C k Post .normal a w) : after P C (.code .skip :: k) Post .normal a w := wpIn_skip h

end

theorem Oper.wpIn_monoP {F : Fence} {n : Nat} {P : Program} {o : Oper} {a : Act} {w : World} {K K' : Act → World → Prop} {Q Q' : Exit → Act → World → Prop} (h : ∀ a w, K a w → K' a w) (hQ : ∀ e a w, e ≠ .normal → Q e a w → Q' e a w)
    (hh : o.wpIn F n P a w K Q) : o.wpIn F n P a w K' Q' := by
  have hL : LetsOut Q → LetsOut Q' := fun ⟨a, w, q⟩ => ⟨a, w, hQ _ _ _ (by simp) q⟩
  have hP : ∀ ch a w, Q (.panic ch) a w → Q' (.panic ch) a w := fun ch a w => hQ _ _ _ (by simp)
  unfold Oper.wpIn at *
  refine ⟨hh.1, ?_⟩
  replace hh := hh.2
  generalize (o.semAt F.round a.eval).run P w = r at *
  cases r with
  | ok n w' =>
    cases n <;> simp only [Oper.uponIn] at hh ⊢ <;>
      first
        | exact h _ _ hh
        | exact ⟨hh.1, Go.CallsIn.mono hh.2 (fun e w'' he => by cases e <;> first | exact h _ _ he | exact hP _ _ _ he | exact hL he)⟩
        | exact ⟨hh.1, RowsIn.mono hh.2 (fun _ _ he => h _ _ he)⟩
        | exact ⟨hh.1, RoundIn.mono hh.2 (fun e w'' he => by cases e <;> first | exact h _ _ he | exact hP _ _ _ he | exact hL he)⟩
        | exact hP _ _ _ hh
        | exact hL hh
        | exact hh
  | halt x w' => cases x <;> simp only [Oper.uponIn] at hh ⊢ <;> first | exact hP _ _ _ hh | exact hL hh | exact hh

theorem af_ops {P : Program} {C : Ctx} {k : List Item} {Post : Exit → Act → World → Prop} {id : Nat} {ops : Array Oper} {l2 : List Nat} : ∀ {l1 : List Nat} {a : Act} {w : World},
    after P C (.ops id ops l1 :: .ops id ops l2 :: k) Post .normal a w → after P C (.ops id ops (l1 ++ l2) :: k) Post .normal a w
  | [], a, w, h => h
  | i :: l1, a, w, h => by
    have h' : wpOpsIn C.F 0 P ops (after P C (.ops id ops l2 :: k) Post) (i :: l1) a w := h
    show wpOpsIn C.F 0 P ops (after P C k Post) (i :: (l1 ++ l2)) a w
    rw [wpOpsIn_cons] at h' ⊢
    unfold wpOpIn at h' ⊢
    split
    · rename_i hi
      simp only [hi] at h'
      exact af_ops (k := k) h'
    · rename_i o ho
      simp only [ho] at h'
      split
      · rename_i hw
        simp only [hw, if_true] at h'
        refine Oper.wpIn_monoP (fun a w q => af_ops (k := k) q) (fun e a w hne q => ?_) h'
        cases e with
        | normal => exact absurd rfl hne
        | _ => exact q
      · rename_i hw
        simp only [hw] at h'
        exact ⟨h'.1, af_ops (k := k) h'.2⟩

/-- A call of yield. -/
theorem af_yield {P : Program} {C : Ctx} {k : List Item} {Post : Exit → Act → World → Prop} (hro : C.ro = none) {id i lp : Nat} {ops : Array Oper} {l : List Nat} {o : Oper} {c : Call} {ty d : Nat} {ts : List Nat} {ads : List D} {B N s a w} (hl : LoI B N s a w)
    (ho : ops[i]? = some o) (hg : o.guard = none) (hd : o.dst = some d) (hc : o.op = .call c) (hcc : c.callee = .value (.tmp ty)) (hca : c.args = (ts.map Operand.tmp).toArray) (hy : s[ty]? = some (.raw (.func (.yield lp) #[] #[])))
    (hargs : ts.map (fun t => s[t]?) = ads.map some) {R : Ending → World → Prop}
    (hR : ∀ cargs, VRs (LEnv N w) ads cargs.toList → YieldAt Fence.wide 0 P lp cargs w R)
    (hk : ∀ e w', R e w' → ∃ b N', e = .returned (.bool b) ∧ KeepN w N w' N' ∧ ∀ a', LoI B N' (s.set d (.bool b)) a' w' → after P C (.ops id ops l :: k) Post .normal a' w') : after P C (.ops id ops (i :: l) :: k) Post .normal a w := by
  show wpOpsIn C.F 0 P ops (after P C k Post) (i :: l) a w
  rw [wpOpsIn_cons]
  unfold wpOpIn
  simp only [ho]
  rw [if_pos (by simp [Region.wanted, hg])]
  have hav : a.eval (.tmp ty) = .func (.yield lp) #[] #[] := by
    have := hl.get hy
    cases hv : a.eval (.tmp ty) <;> rw [hv] at this <;> cases this
    rfl
  have hvs : ∀ (ts : List Nat) (ads : List D), ts.map (fun t => s[t]?) = ads.map some → VRs (LEnv N w) ads (ts.map fun t => a.eval (.tmp t)) := fun ts => by
    induction ts with
    | nil =>
      intro ads h
      cases ads with
      | nil => exact .nil
      | cons x y => simp at h
    | cons t ts ih =>
      intro ads h
      cases ads with
      | nil => simp at h
      | cons x y =>
        simp only [List.map_cons, List.cons.injEq] at h
        exact .cons (hl.get h.1) (ih y h.2)
  have hvs' : VRs (LEnv N w) ads (c.args.map a.eval).toList := by
    have := hvs ts ads hargs
    rw [hca]
    simpa [Function.comp_def] using this
  obtain ⟨fn, tmps, assign, body, hrun, hround⟩ := hR (c.args.map a.eval) hvs'
  have hF : C.F = Fence.wide := by unfold Ctx.F Fence.wide; rw [hro]
  refine ⟨fun f hf => by rw [hF]; trivial, ?_⟩
  have hexec : (execOp a.eval o).run P w = .ok (.round lp fn tmps assign body) w := by
    simp [execOp, hc, resolve, hcc, hav, Deferred.ofValue, invoke, hrun]
  rw [Oper.semAt_eq _ _ _ (by rw [hc]; intro c h; cases h), hexec, hF]
  refine ⟨(fun h => by cases h), RoundIn.mono hround fun e w' hr => ?_⟩
  obtain ⟨b, N', rfl, hkeep, hafter⟩ := hk e w' hr
  rw [← hF]
  refine hafter (a.put o.dst (.bool b)) ⟨?_, ?_⟩
  · have := (hl.keep hkeep).defers
    rw [hd]
    exact this
  · rw [hd]
    have := (hl.keep hkeep).slots.set d (VR.bool (E := LEnv N' w') b)
    simpa [Act.put] using this

/-- What a function that is ranged over hands on, in order; it reads alone. -/
def IterOk (P : Program) (gf : FuncId) (caps : List D) (seq : List (List D)) : Prop :=
  FOk P gf ∧ ∀ (l : Nat) (J : Option Nat → World → (Nat → Prop) → Prop) (w : World) (N : Nat → Prop) (cargs : Array Value),
    (∀ i w N, J i w N → ∀ b, N b → b < w.heap.size) →
    (∀ i w w' N, J i w N → Grow w w' → J i w' N) →
    (∀ i w' N b, J i w' N → w.heap.size ≤ b → w'.heap[b]? = some (Obj.deferred (some [])) → J i (w'.putObj b (.deferred none)) N) →
    (∀ i args w N cargs, seq[i]? = some args → J (some i) w N → VRs (LEnv N w) args cargs.toList →
      YieldAt Fence.wide 0 P l cargs w fun e w' => ∃ b N', e = .returned (.bool b) ∧ KeepN w N w' N' ∧ J (if b then some (i + 1) else none) w' N') →
    J (some 0) w N → VRs (LEnv N w) (.raw (.func (.yield l) #[] #[]) :: caps) cargs.toList →
    Calls P gf cargs w fun e w' => ∃ v N', e = .returned v ∧ (J (some seq.length) w' N' ∨ J none w' N')

/-- An iterator's walk. -/
theorem IterOk.of {P : Program} {gf : FuncId} {caps : List D} {seq : List (List D)} {fn : Func} {c : Code} (hf : P.funcs[gf]? = some fn) (hb : fn.body = some c) (hn : (fn.name == "runtime.NumGoroutine") = false) (hres : fn.results = #[])
    (h : ∀ (l : Nat) (J : Option Nat → World → (Nat → Prop) → Prop) (B : Nat) (C : Ctx), C.ro = none → (∀ i w N, J i w N → ∀ b, N b → b < w.heap.size) → (∀ i w w' N, J i w N → Grow w w' → J i w' N) →
      (∀ i args w N cargs, seq[i]? = some args → J (some i) w N → VRs (LEnv N w) args cargs.toList →
        YieldAt Fence.wide 0 P l cargs w fun e w' => ∃ b N', e = .returned (.bool b) ∧ KeepN w N w' N' ∧ J (if b then some (i + 1) else none) w' N') →
      ∀ a w N, B ≤ w.heap.size → J (some 0) w N → LoI B N (.raw (.func (.yield l) #[] #[]) :: caps ++ List.replicate (fn.ntmps - (caps.length + 1)) (.tup [])) a w →
      after P C [.code c] (fun e a' w' => (e = .normal ∨ e = .ret) ∧ ∃ s' N' i, (i = some seq.length ∨ i = none) ∧ J i w' N' ∧ LoI B N' s' a' w') .normal a w) : IterOk P gf caps seq := by
  refine ⟨⟨fn, hf, hn, by rw [hb]; rfl⟩, fun l J w N cargs hlt hgr hun hY h0 hv => (callsIn_wide (n := 0)).1 (callsIn_of_wp_marks hf hb trivial ?_)⟩
  have hl : caps.length + 1 = cargs.size := by simpa using hv.length
  have hloc : LoI w.heap.size N (.raw (.func (.yield l) #[] #[]) :: caps ++ List.replicate (fn.ntmps - (caps.length + 1)) (.tup [])) { tmps := cargs ++ Array.replicate (fn.ntmps - cargs.size) undef, defers := [] } w := by
    refine ⟨⟨[], .nil, rfl, fun _ h => by cases h⟩, ?_⟩
    rw [Array.toList_append, Array.toList_replicate, ← hl]
    refine hv.append ?_
    generalize fn.ntmps - (caps.length + 1) = n
    induction n with
    | zero => exact .nil
    | succ n ih => exact .cons (.tup .nil) ih
  refine wpIn_mono (h l J w.heap.size (LC 0 N w) rfl hlt hgr hY _ w N (Nat.le_refl _) h0 hloc) ?_
  have key : ∀ (a' : Act) (i : Option Nat) (N' : Nat → Prop), (i = some seq.length ∨ i = none) → ∀ (ds : List Nat) (w' : World), ds.Nodup → (∀ b ∈ ds, w.heap.size ≤ b ∧ w'.heap[b]? = some (Obj.deferred (some []))) → J i w' N' →
      LeavesInM Fence.wide 0 P fn a'.tmps (fun e w' => ∃ v N', e = .returned v ∧ (J (some seq.length) w' N' ∨ J none w' N')) (ds.map markOf) .returning w' := fun a' i N' hi ds => by
    induction ds with
    | nil =>
      intro w' _ _ hJ
      refine ⟨.tuple #[], ?_, _, N', rfl, ?_⟩
      · unfold results
        rw [hres, Array.mapM_eq_mapM_toList]
        simp only [Sem.run_bind, Sem.run_map]
        rfl
      · rcases hi with rfl | rfl
        · exact .inl hJ
        · exact .inr hJ
    | cons b ds ih =>
      intro w' hn hd hJ
      obtain ⟨hn1, hn2⟩ := List.nodup_cons.mp hn
      obtain ⟨q1, q2⟩ := hd b (List.mem_cons_self ..)
      refine ⟨(fun h => by cases h), .inl ⟨b, _, rfl, run_takeDeferred q2, ih _ hn2 (fun k hk => ?_) (hun i w' N' b hJ q1 q2)⟩⟩
      obtain ⟨q3, q4⟩ := hd k (List.mem_cons_of_mem _ hk)
      exact ⟨q3, (World.putObj_heap_other (by rintro rfl; exact hn1 hk)).trans q4⟩
  rintro e a' w' ⟨he, s', N', i, hi, hJ, hl'⟩
  obtain ⟨ds, k1, k2, k3⟩ := hl'.defers
  have := key a' i N' hi ds w' k1 (fun b hb => ⟨(k3 b hb).1, (k3 b hb).2.2⟩) hJ
  rw [← k2] at this
  rcases he with rfl | rfl
  · exact this
  · exact this

theorem Frzs.at {o ver : Nat} {rows : List D} {d d' : D} (hf : Frz o ver rows d d') : ∀ {s : List D} {t : Nat}, s[t]? = some d → Frzs o ver rows s (s.set t d')
  | [], t, h => by simp at h
  | x :: s, 0, h => by
    simp only [List.getElem?_cons_zero, Option.some.injEq] at h
    subst h
    exact .cons hf (Frzs.refl s)
  | x :: s, t + 1, h => .cons (.refl x) (Frzs.at hf (s := s) (t := t) (by simpa using h))

/-- A struct that is owned is told as one that does not change. -/
theorem Ghost.frzP {n o ver sz i j t : Nat} {rows : List D} {row : D} {s : List D} {H : List AObj} (hno : n ≤ o) (ho : H[o]? = some (.arr ver sz rows)) (hs : s[t]? = some (.p o ver i j)) (hr : rows[i]? = some row) :
    Ghost n s H (s.set t (.pe (row.cells.drop j))) (H.set o .gone) := Ghost.freeze hno ho (Frzs.at (.p hr rfl) hs)

/-- Some operations of a region. -/
theorem W_opsL {P : Program} {T : Tab} (hT : TOk P T) {n : Nat} {own : List Nat} {id : Nat} {ops : Array Oper} {k : List Item} {Q : Exit → St → Prop} {X : List D → List AObj → List Bool → Prop}
    (hX : ∀ s H bx, X s H bx → W P n k ⟨s, H⟩ Q) : ∀ {pre : List Oper} {l : List Nat} {s : List D} {H : List AObj} {bx : List Bool},
    l.map (fun i => ops[i]?) = pre.map some → runS P T n own ops.toList pre s H bx X → W P n (.ops id ops l :: k) ⟨s, H⟩ Q
  | [], [], s, H, bx, _, h => W_ops_nil (hX _ _ _ h)
  | [], i :: l, s, H, bx, hl, h => by simp at hl
  | o :: rest, [], s, H, bx, hl, h => by simp at hl
  | o :: rest, i :: l, s, H, bx, hl, h => by
    simp only [List.map_cons, List.cons.injEq] at hl
    rw [runS_cons] at h
    rcases guardF_ok h with ⟨h1, h2⟩ | ⟨h1, h2⟩
    · refine W_ops_cons hT (hd := ⟨ownAt own o.dst, none, n⟩) rfl ?_
      unfold stepK
      rw [hl.1]
      refine h2 s H _ _ (fun _ _ => rfl) ?_
      exact doS_ok h1 fun d H' bx' hx => W_opsL hT hX hl.2 (putK_iff.mp hx)
    · refine W_ops_cons hT (hd := { n := n }) rfl ?_
      unfold stepK
      rw [hl.1]
      refine h2 s H _ _ (fun _ _ => rfl) ?_
      exact W_opsL hT hX hl.2 (putK_iff.mp h1)

theorem W_opsR {P : Program} {T : Tab} (hT : TOk P T) {n : Nat} {own : List Nat} {id : Nat} {ops : Array Oper} {k : List Item} {Q : Exit → St → Prop} {X : List D → List AObj → List Bool → Prop} {s : List D} {H : List AObj} {bx : List Bool}
    (i j : Nat) (hij : i + j ≤ ops.size) (hX : ∀ s H bx, X s H bx → W P n k ⟨s, H⟩ Q) (h : runS P T n own ops.toList ((ops.toList.drop i).take j) s H bx X) : W P n (.ops id ops (List.range' i j) :: k) ⟨s, H⟩ Q := by
  refine W_opsL hT hX ?_ h
  apply List.ext_getElem?
  intro m
  simp only [List.getElem?_map, List.getElem?_range', List.getElem?_take, List.getElem?_drop]
  by_cases hm : m < j
  · rw [if_pos hm]
    have : i + m < ops.size := by omega
    simp [hm, this]
  · rw [if_neg hm]
    simp [hm]

/-- Arguments put into slots. -/
def putL : List Nat → List D → List D → List D
  | t :: ts, d :: ds, s => putL ts ds (s.set t d)
  | _, _, s => s

theorem putL_ok {E : Env} : ∀ (ts : List Nat) (ds : List D) (vs : List Value) (s : List D) (a : Array Value), VRs E ds vs → VRs E s a.toList → VRs E (putL ts ds s) ((ts.zip vs).foldl (fun x (p : Nat × Value) => x.setIfInBounds p.1 p.2) a).toList
  | [], ds, vs, s, a, h, k => by
    have : putL [] ds s = s := by cases ds <;> rfl
    rw [this]
    simpa using k
  | t :: ts, [], vs, s, a, h, k => by
    cases h
    simpa [putL] using k
  | t :: ts, d :: ds, v :: vs, s, a, .cons h h', k => by
    simp only [putL, List.zip_cons_cons, List.foldl_cons]
    exact putL_ok ts ds vs _ _ h' (by rw [Array.toList_setIfInBounds]; exact k.set t h)

theorem enter_run {P : Program} {C : Ctx} {n : Nat} (hn : C.le n) {φ H w} (g : G C φ H w) (fn : FuncId) (tmps : Array Value) (ps : Array Tmp) (assign body : Code) :
    ∃ (l : Nat) (ms : List Nat) (w1 : World) (rec : Loop), (Instr.enterLoop fn tmps ps assign body C.ro).run P w = .ok (l, ms.map markOf) w1 ∧ Grow w w1 ∧ w.heap.size ≤ l ∧ w1.heap[l]? = some (.loop rec) ∧
      rec.state = .ready ∧ rec.pending = none ∧ rec.tmps = tmps ∧ rec.params = ps ∧ rec.assign = assign ∧ rec.body = body ∧ ms.Nodup ∧ ∀ b ∈ ms, w.heap.size ≤ b ∧ w1.heap[b]? = some (Obj.deferred (some [])) := by
  cases hro : C.ro with
  | none =>
    refine ⟨_, [w.heap.size], _, { state := .ready, pending := none, fn, tmps, params := ps, assign, body, defers := w.heap.size }, run_enterLoop_outer fn tmps ps assign body, (Grow.alloc w _).trans (Grow.alloc _ _), by omega, ?_, rfl, rfl, rfl, rfl, rfl, rfl, by simp, fun b hb => ?_⟩
    · have := World.alloc_heap_new (w.alloc (.deferred (some []))) (.loop { state := .ready, pending := none, fn, tmps, params := ps, assign, body, defers := w.heap.size })
      rwa [World.size_alloc] at this
    · simp only [List.mem_singleton] at hb
      subst hb
      refine ⟨Nat.le_refl _, ?_⟩
      rw [(Grow.alloc (w.alloc (.deferred (some []))) _).same _ (by rw [World.size_alloc]; omega)]
      exact World.alloc_heap_new w _
  | some l0 =>
    obtain ⟨h1, h2, r0, h3⟩ := hn.r l0 hro
    have h4 : w.heap[l0]? = some (.loop r0) := (g.same l0 h1 h2).trans h3
    refine ⟨w.heap.size, [], w.alloc (.loop { state := .ready, pending := none, fn, tmps, params := ps, assign, body, defers := r0.defers }), { state := .ready, pending := none, fn, tmps, params := ps, assign, body, defers := r0.defers }, ?_, Grow.alloc w _, Nat.le_refl _, World.alloc_heap_new w _, rfl, rfl, rfl, rfl, rfl, rfl, .nil, fun b hb => by cases hb⟩
    unfold Instr.enterLoop
    simp only [Sem.run_bind, run_getLoop h4, run_newObj_alloc, Result.andThen, Sem.run_pure]
    rfl

/-- Where a round begins and ends: its record is told otherwise at the beginning, too. -/
theorem SRel.turnBase {N0 : Nat → Prop} {φ0 : List (Option Nat)} {H0 : List AObj} {w0 : World} {ro : Option Nat} {mb l : Nat} {r r' : Loop} {φ H w} (g : G ⟨N0, φ0, H0, w0, ro, mb⟩ φ H w) (hl0 : w0.heap[l]? = some (.loop r)) (ho : ¬ owns φ0 H0 l) :
    G ⟨N0, φ0, H0, w0.putObj l (.loop r'), ro, mb⟩ φ H (w.putObj l (.loop r')) ∧ ExtW ((⟨N0, φ0, H0, w0, ro, mb⟩ : Ctx).env φ H w) ((⟨N0, φ0, H0, w0.putObj l (.loop r'), ro, mb⟩ : Ctx).env φ H (w.putObj l (.loop r'))) := by
  have hlt : l < w0.heap.size := (Array.getElem?_eq_some_iff.mp hl0).1
  have hl : w.heap[l]? = some (.loop r) := (g.same l hlt ho).trans hl0
  have hltw : l < w.heap.size := (Array.getElem?_eq_some_iff.mp hl).1
  have hget : ∀ k, k ≠ l → (w.putObj l (.loop r')).heap[k]? = w.heap[k]? := fun k hk => World.putObj_heap_other hk
  have hget0 : ∀ k, k ≠ l → (w0.putObj l (.loop r')).heap[k]? = w0.heap[k]? := fun k hk => World.putObj_heap_other hk
  have hne : ∀ (i k : Nat) ob, H[i]? = some ob → AObj.alive ob → φ[i]? = some (some k) → k ≠ l := fun i k ob h1 h2 h3 e => by
    subst e
    exact (g.noOwn hl (fun _ _ _ h => by cases h) (fun _ _ h => by cases h)) ⟨i, ob, h3, h1, h2⟩
  have hNe : (⟨N0, φ0, H0, w0.putObj l (.loop r'), ro, mb⟩ : Ctx).N φ H = (⟨N0, φ0, H0, w0, ro, mb⟩ : Ctx).N φ H := by
    funext b
    simp only [Ctx.N, World.putObj_size]
  have x : ExtW ((⟨N0, φ0, H0, w0, ro, mb⟩ : Ctx).env φ H w) ((⟨N0, φ0, H0, w0.putObj l (.loop r'), ro, mb⟩ : Ctx).env φ H (w.putObj l (.loop r'))) := {
    imm := fun k h1 h2 ⟨c, e, fz, h3⟩ => by
      have hk : k ≠ l := fun e => by
        subst e
        have h3' : w.heap[k]? = some (Obj.cells c _ fz) := h3
        rw [hl] at h3'; cases h3'
      refine ⟨?_, by show k < (w.putObj l (.loop r')).heap.size; rw [World.putObj_size]; exact h2, hget k hk⟩
      show ¬ (⟨N0, φ0, H0, w0.putObj l (.loop r'), ro, mb⟩ : Ctx).N φ H k
      rw [hNe]
      exact h1
    old := fun o ob ver h1 h2 => ⟨ob, h1, h2⟩
    arr := fun o ver sz rows h1 => .inr ⟨rows, h1, rfl, rfl, fun k c e fz h2 h3 => ⟨c, e, fz, (hget k (hne o k _ h1 trivial h2)).trans h3, rfl⟩⟩
    map := fun o es st h1 => .inr ⟨es, st, h1, rfl⟩ }
  refine ⟨{
    objs := ⟨g.objs.len, fun o ob h => Cl.monoW x rfl (fun k ha hk => ⟨hget k (hne o k ob h ha hk), fun h => by show (⟨N0, φ0, H0, w0.putObj l (.loop r'), ro, mb⟩ : Ctx).N φ H k; rw [hNe]; exact h⟩) (g.objs.cl o ob h), g.objs.inj⟩
    size := by show (w0.putObj l (.loop r')).heap.size ≤ (w.putObj l (.loop r')).heap.size; rw [World.putObj_size, World.putObj_size]; exact g.size
    same := fun k h1 h2 => by
      have h1' : k < w0.heap.size := by
        have : k < (w0.putObj l (.loop r')).heap.size := h1
        rwa [World.putObj_size] at this
      show _ = (w0.putObj l (.loop r')).heap[k]?
      by_cases hk : k = l
      · subst hk
        rw [World.putObj_heap_same hltw, World.putObj_heap_same hlt]
      · rw [hget k hk, hget0 k hk]
        exact g.same k h1' h2
    own := fun o k ob h1 h2 h3 => by
      rw [World.putObj_size]
      refine ⟨(g.own o k ob h1 h2 h3).1, fun hk => (g.own o k ob h1 h2 h3).2 ?_⟩
      have : k < (w0.putObj l (.loop r')).heap.size := hk
      rwa [World.putObj_size] at this
    world := ⟨g.world.os, g.world.tape, g.world.output, g.world.drawn⟩
    n0 := g.n0
    hlen := g.hlen
    ext := {
      imm := fun k h1 h2 hc => by
        have h2' : k < w0.heap.size := by
          have : k < (w0.putObj l (.loop r')).heap.size := h2
          rwa [World.putObj_size] at this
        have hk : k ≠ l := fun e => by
          subst e
          rcases hc with ⟨c, e, fz, hc⟩ | hc
          · have hc' : (w0.putObj k (.loop r')).heap[k]? = some (Obj.cells c e fz) := hc
            rw [World.putObj_heap_same hlt] at hc'; cases hc'
          · have hc' : (w0.putObj k (.loop r')).heap[k]? = some (Obj.deferred (some [])) := hc
            rw [World.putObj_heap_same hlt] at hc'; cases hc'
        have hc0 : Solid w0.heap k := by
          have hc' : Solid (w0.putObj l (.loop r')).heap k := hc
          unfold Solid at hc' ⊢
          rwa [hget0 k hk] at hc'
        obtain ⟨q1, q2, q3⟩ := g.ext.imm k h1 h2' hc0
        refine ⟨by show ¬ (⟨N0, φ0, H0, w0.putObj l (.loop r'), ro, mb⟩ : Ctx).N φ H k; rw [hNe]; exact q1, by show k < (w.putObj l (.loop r')).heap.size; rw [World.putObj_size]; exact q2, ?_⟩
        show (w.putObj l (.loop r')).heap[k]? = (w0.putObj l (.loop r')).heap[k]?
        rw [hget k hk, hget0 k hk]
        exact q3
      old := g.ext.old
      arr := fun o ver sz rows h1 => by
        rcases g.ext.arr o ver sz rows h1 with q | ⟨rows', q1, q2, q3, q4⟩
        · exact .inl q
        · refine .inr ⟨rows', q1, q2, q3, fun k c e fz h2 h3 => ?_⟩
          have hk : k ≠ l := fun e' => by
            subst e'
            have h3' : (w0.putObj k (.loop r')).heap[k]? = some (Obj.cells c e fz) := h3
            rw [World.putObj_heap_same hlt] at h3'; cases h3'
          have h3' : w0.heap[k]? = some (Obj.cells c e fz) := by
            have : (w0.putObj l (.loop r')).heap[k]? = some (Obj.cells c e fz) := h3
            rwa [hget0 k hk] at this
          obtain ⟨c', e', fz', q5, q6⟩ := q4 k c e fz h2 h3'
          exact ⟨c', e', fz', (hget k hk).trans q5, q6⟩
      map := g.ext.map } }, x⟩

/-- How a round's end is told. -/
def roundQ (n : Nat) (I : List AObj → Prop) (X : Code → List AObj → Prop) (e : Exit) (s : St) : Prop :=
  ∃ s' H', Ghost n s.slots s.H s' H' ∧ match e with
    | .normal => I H'
    | .ret => X .ret H'
    | .exit id => X (.exit id) H'
    | _ => False

/-- 'for .. := range f { .. }' -/
theorem W_rangeFunc {P : Program} {n : Nat} {k : List Item} {s : List D} {H : List AObj} {Q : Exit → St → Prop} {gt : Nat} {ps : Array Tmp} {assign body : Code} {gf : FuncId} {caps : List D} {seq : List (List D)}
    (hg : s[gt]? = some (.fn gf caps)) (hcaps : scs 0 caps) (it : IterOk P gf caps seq) (hseq : ∀ x ∈ seq, x.length = ps.size)
    (I : Nat → List AObj → Prop) (X : Code → List AObj → Prop) (h0 : I 0 H)
    (round : ∀ i args H1, seq[i]? = some args → I i H1 →
      W P H1.length [.code assign, .hyp fun s1 => W P H1.length [.code body] s1 (roundQ H1.length (I (i + 1)) X)] ⟨putL ps.toList args s, H1⟩ fun _ _ => False)
    (done : ∀ H1, I seq.length H1 → W P n k ⟨s, H1⟩ Q)
    (stop : ∀ c H1, X c H1 → W P n (.code c :: k) ⟨s, H1⟩ Q) : W P n (.code (.rangeFunc (.tmp gt) ps assign body) :: k) ⟨s, H⟩ Q := W.intro fun C φ a w hn hs => by
  show (Code.rangeFunc (.tmp gt) ps assign body).wpIn C.F 0 P (after P C k (postOf C Q)) a w
  refine wpIn_rangeFunc fun fn _ => ?_
  obtain ⟨l, ms, w1, rec, hent, hgr, hlw, hl1, r1, r2, r3, r4, r5, r6, hms1, hms2⟩ := enter_run (P := P) hn hs.g fn a.tmps ps assign body
  have hgv := hs.ev (.tmp gt)
  have hev : ev s (.tmp gt) = .fn gf caps := by simp [ev, hg]
  obtain ⟨lb, hlb, hcv⟩ : ∃ lb : Array Value, a.eval (.tmp gt) = .func (.func gf) #[] lb ∧ VRs (C.env φ H w) caps lb.toList := by
    rw [hev] at hgv
    cases hav : a.eval (.tmp gt) <;> rw [hav] at hgv <;> cases hgv
    rename_i h
    exact ⟨_, rfl, h⟩
  obtain ⟨⟨f, hf, hname, hbody⟩, hit⟩ := it
  obtain ⟨g1, x1⟩ := hs.g.grow hgr
  have hF : C.F.round = C.ro := rfl
  refine ⟨l, ms.map markOf, w1, { target := .fn (.func gf) lb, args := #[.func (.yield l) #[] #[]] }, w1, gf, #[.func (.yield l) #[] #[]] ++ lb, w1, hent, ?_, fun _ _ => trivial, ?_, (fun h => by cases h), callsIn_F ?_⟩
  · simp only [resolve, hlb]
    simp [go_sem]
  · have n1 : f.name ≠ "runtime.NumGoroutine" := by simpa using hname
    have n2 : f.body ≠ none := fun e => by rw [e] at hbody; simp at hbody
    simp [invoke, callFunc, hf, n1, n2]
  -- what is so between rounds
  obtain ⟨st, hst⟩ : ∃ st : Option Nat → Loop → List AObj → Prop, st = fun i r H' => match i with
      | some i => r = rec ∧ I i H'
      | none => ∃ c, r = { rec with state := .done, pending := some c } ∧ X c H' := ⟨_, rfl⟩
  have hmarks : Marks C w1 (ms.map markOf ++ a.defers) := by
    obtain ⟨l0, q1, q2, q3⟩ := hs.defers.put hs.g x1
    have q4 : ∀ b ∈ l0, b < w.heap.size := fun b hb => by
      obtain ⟨l0', p1, p2, p3⟩ := hs.defers
      have : l0' = l0 := by
        have : l0'.map markOf = l0.map markOf := p2.symm.trans q2
        exact (List.map_inj_right (fun x y h => by simpa [markOf] using h)).mp this
      subst this
      exact (Array.getElem?_eq_some_iff.mp (p3 b hb).2.2).1
    refine ⟨ms ++ l0, ?_, by rw [q2, List.map_append], fun b hb => ?_⟩
    · rw [List.nodup_append]
      refine ⟨hms1, q1, fun x hx y hy e => ?_⟩
      subst e
      have := (hms2 x hx).1
      have := q4 x hy
      omega
    · rcases List.mem_append.mp hb with h | h
      · obtain ⟨h1, h2⟩ := hms2 b h
        have := hs.g.size
        exact ⟨Nat.le_trans hn.m (Nat.le_trans this h1), fun h3 => by omega, h2⟩
      · exact q3 b h
  have hmb : ∀ (w' : World) (ds : List Deferred), Marks C w' ds → ∀ b, w'.heap[b]? = some (Obj.deferred (some [])) → (∀ d ∈ ds, d ≠ markOf b) → Marks C (w'.putObj b (.deferred none)) ds := fun w' ds ⟨l0, q1, q2, q3⟩ b hb hd =>
    ⟨l0, q1, q2, fun b' hb' => ⟨(q3 b' hb').1, (q3 b' hb').2.1, (World.putObj_heap_other (fun e => hd (markOf b') (by rw [q2]; exact List.mem_map_of_mem hb') (by rw [e]))).trans (q3 b' hb').2.2⟩⟩
  have hold : ∀ d ∈ ms.map markOf ++ a.defers, ∀ b, w1.heap.size ≤ b → d ≠ markOf b := fun d hd b hb e => by
    obtain ⟨l0, q1, q2, q3⟩ := hmarks
    rw [q2] at hd
    obtain ⟨b', hb', rfl⟩ := List.mem_map.mp hd
    have : b' = b := by simpa [markOf] using e
    subst this
    have := (Array.getElem?_eq_some_iff.mp (q3 b' hb').2.2).1
    omega
  have hlt1 : l < w1.heap.size := (Array.getElem?_eq_some_iff.mp hl1).1
  have hC0 : C.w0.heap.size ≤ l := Nat.le_trans hs.g.size hlw
  obtain ⟨J, hJ⟩ : ∃ J : Option Nat → World → (Nat → Prop) → Prop, J = fun i w' N => ∃ φ' H' r, G C φ' H' w' ∧ N = C.N φ' H' ∧ w'.heap[l]? = some (.loop r) ∧ VRs (C.env φ' H' w') s a.tmps.toList ∧ Marks C w' (ms.map markOf ++ a.defers) ∧ st i r H' ∧ w1.heap.size ≤ w'.heap.size := ⟨_, rfl⟩
  refine Calls.mono (hit l J w1 (C.N φ H) _ ?_ ?_ ?_ ?_ ?_ ?_) ?_
  · subst hJ
    rintro i w' N ⟨φ', H', r, g', rfl, _⟩ b hb
    exact g'.nlt hb
  · subst hJ
    rintro i w' w'' N ⟨φ', H', r, g', rfl, k1, k2, k3, k4, k5⟩ hg'
    obtain ⟨g2, x2⟩ := g'.grow hg'
    exact ⟨φ', H', r, g2, rfl, (hg'.same l (Array.getElem?_eq_some_iff.mp k1).1).trans k1, VRs.mono x2 k2, k3.put g' x2, k4, Nat.le_trans k5 hg'.size⟩
  · subst hJ
    rintro i w' N b ⟨φ', H', r, g', rfl, k1, k2, k3, k4, k5⟩ hb hd
    obtain ⟨g2, x2⟩ := g'.unmark (by have := hs.g.size; have := hgr.size; omega) hd
    exact ⟨φ', H', r, g2, rfl, (World.putObj_heap_other (by omega)).trans k1, VRs.monoW x2 k2, hmb w' _ k3 b hd fun d hd' => hold d hd' b hb, k4, by rw [World.putObj_size]; exact k5⟩
  · -- a round
    subst hJ
    rintro i args w' N cargs hsq ⟨φ', H', r, g', rfl, k1, k2, k3, k4, k5⟩ hargs
    rw [hst] at k4
    obtain ⟨hr, k4⟩ := k4
    rw [hr] at k1
    have hsz : cargs.size = rec.params.size := by
      rw [r4, ← hseq args (List.mem_of_getElem? hsq)]
      simpa using hargs.length.symm
    refine ⟨_, _, _, _, run_yield k1 hsz, roundIn_of_wpIn (F := Fence.wide) trivial ?_⟩
    rw [r3, r4, r5, r6]
    have hno : ¬ owns φ' H' l := g'.noOwn k1 (fun _ _ _ h => by cases h) (fun _ _ h => by cases h)
    have hlw' : l < w'.heap.size := (Array.getElem?_eq_some_iff.mp k1).1
    obtain ⟨A, hA⟩ : ∃ A : Ctx, A = ⟨C.N φ' H', φ', H', w', some l, w'.heap.size⟩ := ⟨_, rfl⟩
    have gA : G A φ' H' w' := by rw [hA]; exact G.re g'.now
    have hAle : A.le H'.length := by
      rw [hA]
      exact ⟨Nat.le_of_eq (show φ'.length = H'.length from g'.objs.len), Nat.le_refl _, fun l' h => by cases h; exact ⟨hlw', hno, rec, k1⟩, Nat.le_refl _⟩
    have hAenv : A.env φ' H' w' = C.env φ' H' w' := by rw [hA]; exact g'.nowEnv
    have hargs' : VRs (C.env φ' H' w') args cargs.toList := by
      have m : Emb (fun i => i) (LEnv (C.N φ' H') w') (C.env φ' H' w') := ⟨rfl, fun b h _ => h, fun i ob h => by simp [LEnv] at h, fun i ob h => by simp [LEnv] at h⟩
      have := VRs.ren m hargs
      rwa [renL_id] at this
    have hsA : SRel A φ' ⟨putL ps.toList args s, H'⟩ { tmps := (ps.zip cargs).foldl (fun x (p : Nat × Value) => x.setIfInBounds p.1 p.2) a.tmps, defers := [] } w' := by
      refine ⟨Marks.nil _ _, ?_, gA⟩
      rw [hAenv, ← Array.foldl_toList, Array.toList_zip]
      exact putL_ok _ _ _ _ _ hargs' k2
    have hAF : A.F = Fence.wide.inRound l := by rw [hA]; rfl
    have hW := W.run (round i args H' hsq k4) hAle hsA
    have hW' : assign.wpIn A.F 0 P (after P A [.hyp fun s1 => W P H'.length [.code body] s1 (roundQ H'.length (I (i + 1)) X)] (postOf A fun _ _ => False)) { tmps := (ps.zip cargs).foldl (fun x (p : Nat × Value) => x.setIfInBounds p.1 p.2) a.tmps, defers := [] } w' := hW
    rw [hAF] at hW'
    refine wpIn_mono hW' ?_
    intro e a2 w2 q
    cases e with
    | normal =>
      obtain ⟨s1, φ1, hs1, hW1⟩ := q
      have g1' := hs1.g
      rw [hA] at g1'
      have hl2 : w2.heap[l]? = some (.loop rec) := (g1'.same l hlw' hno).trans k1
      obtain ⟨rb, hrb⟩ : ∃ rb : Loop, rb = { rec with state := .busy } := ⟨_, rfl⟩
      refine ⟨_, run_beginRound hl2 r1, ?_⟩
      rw [← hrb]
      obtain ⟨g2, x2⟩ := SRel.turnBase (r' := rb) g1' k1 hno
      obtain ⟨Bc, hBc⟩ : ∃ Bc : Ctx, Bc = ⟨C.N φ' H', φ', H', w'.putObj l (.loop rb), some l, w'.heap.size⟩ := ⟨_, rfl⟩
      have hBle : Bc.le H'.length := by
        rw [hBc]
        exact ⟨Nat.le_of_eq (show φ'.length = H'.length from g'.objs.len), Nat.le_refl _, fun l' h => by cases h; exact ⟨by rw [World.putObj_size]; exact hlw', hno, rb, World.putObj_heap_same hlw'⟩, by show w'.heap.size ≤ (w'.putObj l (.loop rb)).heap.size; rw [World.putObj_size]; exact Nat.le_refl _⟩
      have hsB : SRel Bc φ1 s1 a2 (w2.putObj l (.loop rb)) := by
        refine ⟨?_, ?_, by rw [hBc]; exact g2⟩
        · obtain ⟨l0, q1, q2, q3⟩ := hs1.defers
          refine ⟨l0, q1, q2, fun b hb => ?_⟩
          obtain ⟨p1, p2, p3⟩ := q3 b hb
          rw [hA] at p1 p2
          rw [hBc]
          refine ⟨p1, fun h => p2 ?_, (World.putObj_heap_other (fun e => ?_)).trans p3⟩
          · have : b < (w'.putObj l (.loop rb)).heap.size := h
            rwa [World.putObj_size] at this
          · subst e
            rw [hl2] at p3; cases p3
        · have := hs1.slots
          rw [hA] at this
          rw [hBc]
          exact VRs.monoW x2 this
      have hB := W.run hW1 hBle hsB
      have hB' : body.wpIn Bc.F 0 P (postOf Bc (roundQ H'.length (I (i + 1)) X)) a2 (w2.putObj l (.loop rb)) := hB
      have hBF : Bc.F = Fence.wide.inRound l := by rw [hBc]; rfl
      rw [hBF] at hB'
      refine wpIn_mono hB' ?_
      -- the round's end
      have fin : ∀ (a3 : Act) (w3 : World) (s2 : St) (φ2 : List (Option Nat)) (s3 : List D) (H3 : List AObj) (jump : Option Code), SRel Bc φ2 s2 a3 w3 → Ghost H'.length s2.slots s2.H s3 H3 →
          (match jump with | none => I (i + 1) H3 | some c => X c H3) →
          ∃ v w4, (Instr.endRound l jump).run P w3 = .ok v w4 ∧ ∃ b N', Ending.returned v = .returned (.bool b) ∧ KeepN w' (C.N φ' H') w4 N' ∧
            ∃ φ'' H'' r, G C φ'' H'' w4 ∧ N' = C.N φ'' H'' ∧ w4.heap[l]? = some (.loop r) ∧ VRs (C.env φ'' H'' w4) s a.tmps.toList ∧ Marks C w4 (ms.map markOf ++ a.defers) ∧ st (if b then some (i + 1) else none) r H'' ∧ w1.heap.size ≤ w4.heap.size := by
        intro a3 w3 s2 φ2 s3 H3 jump hs2 hgh hq
        obtain ⟨φ3, g3, _⟩ := hgh Bc φ2 w3 _ hBle hs2.g hs2.slots
        rw [hBc] at g3
        have hl3 : w3.heap[l]? = some (.loop rb) := (g3.same l (by rw [World.putObj_size]; exact hlw') hno).trans (World.putObj_heap_same hlw')
        refine ⟨_, _, run_endRound jump hl3, jump.isNone, C.N φ3 H3, rfl, ?_⟩
        obtain ⟨rx, hrx⟩ : ∃ rx : Loop, rx = { rb with state := if jump.isNone then .ready else .done, pending := jump } := ⟨_, rfl⟩
        rw [← hrx]
        obtain ⟨g4, x4⟩ := SRel.turnBase (r' := rx) g3 (World.putObj_heap_same hlw') hno
        have e0 : ((w'.putObj l (.loop rb)).putObj l (.loop rx)) = w'.putObj l (.loop rx) := by
          simp only [World.putObj]
          congr 1
          apply Array.ext_getElem?
          intro j
          by_cases hj : l = j
          · subst hj; simp [hlw']
          · simp [Array.getElem?_setIfInBounds_ne hj]
        rw [e0] at g4
        obtain ⟨gf, xf⟩ := g'.freeTurn (w' := w'.putObj l (.loop rx)) k1 (fun _ _ _ h => by cases h) (fun _ _ h => by cases h) (fun _ h => by cases h) hC0 ⟨rfl, rfl, rfl, (by first | exact Nat.le_refl _ | exact Nat.le_succ _)⟩ rfl
        obtain ⟨g5, _, x5⟩ := gf.back (G.re g4)
        have xx := xf.trans x5
        refine ⟨⟨?_, fun b h1 h2 h3 => ?_⟩, φ3, H3, rx, g5, rfl, World.putObj_heap_same (Array.getElem?_eq_some_iff.mp hl3).1, VRs.mono xx k2, k3.put g' xx, ?_, ?_⟩
        · have := g4.size
          have h0 : (w'.putObj l (.loop rx)).heap.size ≤ (w3.putObj l (.loop rx)).heap.size := this
          rwa [World.putObj_size] at h0
        · obtain ⟨y1, y2, y3⟩ := xx.imm b h2 h1 h3
          exact ⟨y1, y3⟩
        · rw [hst]
          cases jump with
          | none =>
            refine ⟨?_, hq⟩
            rw [hrx, hrb]
            cases rec
            cases r1; cases r2
            rfl
          | some c =>
            refine ⟨c, ?_, hq⟩
            rw [hrx, hrb]
            rfl
        · have h0 : (w'.putObj l (.loop rx)).heap.size ≤ (w3.putObj l (.loop rx)).heap.size := g4.size
          rw [World.putObj_size] at h0
          exact Nat.le_trans k5 h0
      intro e a3 w3 q
      obtain ⟨s2, φ2, hs2, s3, H3, hgh, hq⟩ := q
      cases e with
      | normal => exact fin a3 w3 s2 φ2 s3 H3 none hs2 hgh hq
      | ret => exact fin a3 w3 s2 φ2 s3 H3 (some .ret) hs2 hgh hq
      | exit id => exact fin a3 w3 s2 φ2 s3 H3 (some (.exit id)) hs2 hgh hq
      | _ => exact hq.elim
    | _ =>
      obtain ⟨_, _, _, h⟩ := q
      exact h.elim
  · subst hJ
    exact ⟨φ, H, rec, g1, rfl, hl1, VRs.mono x1 hs.slots, hmarks, by rw [hst]; exact ⟨rfl, h0⟩, Nat.le_refl _⟩
  · have : VRs (LEnv (C.N φ H) w1) caps lb.toList := by
      have m : Une 0 (fun i => i) (LEnv (C.N φ H) w1) (C.env φ H w1) := ⟨rfl, fun b h _ => h, fun i ob h => by omega, fun i h => by omega⟩
      exact VRs.une m (VRs.mono x1 hcv) caps hcaps (renL_id _).symm
    have h2 : VRs (LEnv (C.N φ H) w1) (.raw (.func (.yield l) #[] #[]) :: caps) (#[Value.func (.yield l) #[] #[]] ++ lb).toList := by
      simp only [Array.toList_append]
      exact .cons (.raw _) this
    exact h2
  · -- behind the loop
    subst hJ
    rintro e w3 ⟨v, N', rfl, hh⟩
    have key : ∀ (φ' : List (Option Nat)) (H' : List AObj) (r : Loop), G C φ' H' w3 → w3.heap[l]? = some (.loop r) → VRs (C.env φ' H' w3) s a.tmps.toList → Marks C w3 (ms.map markOf ++ a.defers) → r.state ≠ .busy →
        ∃ w4, (Instr.endLoop l).run P w3 = .ok r.pending w4 ∧ SRel C φ' ⟨s, H'⟩ { a with defers := ms.map markOf ++ a.defers } w4 := fun φ' H' r g3 k1 k2 k3 k6 => by
      obtain ⟨gf, xf⟩ := g3.freeTurn (w' := w3.putObj l (.loop { r with state := .exhausted })) k1 (fun _ _ _ h => by cases h) (fun _ _ h => by cases h) (fun _ h => by cases h) hC0 ⟨rfl, rfl, rfl, (by first | exact Nat.le_refl _ | exact Nat.le_succ _)⟩ rfl
      exact ⟨_, run_endLoop k1 k6, k3.put g3 xf, VRs.mono xf k2, gf⟩
    rcases hh with ⟨φ', H', r, g3, rfl, k1, k2, k3, k4, k5⟩ | ⟨φ', H', r, g3, rfl, k1, k2, k3, k4, k5⟩
    · rw [hst] at k4
      obtain ⟨hr, k4⟩ := k4
      rw [hr] at k1
      obtain ⟨w4, hrun, hs4⟩ := key φ' H' rec g3 k1 k2 k3 (by rw [r1]; exact fun h => by cases h)
      refine ⟨_, w4, hrun, ?_⟩
      rw [r2]
      exact W.run (done H' k4) hn hs4
    · rw [hst] at k4
      obtain ⟨c, rfl, k4⟩ := k4
      obtain ⟨w4, hrun, hs4⟩ := key φ' H' _ g3 k1 k2 k3 (fun h => by cases h)
      exact ⟨_, w4, hrun, W.run (stop c H' k4) hn hs4⟩

end Go.A
