/- A logic of abstract states, part 11: code. -/
import Derived.Test.YtgigpjkdfhhahaaA10
namespace Go.A
set_option linter.unusedVariables false
set_option linter.unusedSimpArgs false

structure St where
  slots : List D
  H : List AObj

/-- Where the marks lie. -/
def Mark (C : Ctx) (w : World) (b : Nat) : Prop := C.mb ≤ b ∧ (b < C.w0.heap.size → ¬ C.N0 b) ∧ w.heap[b]? = some (Obj.deferred (some []))

def markOf (b : Nat) : Deferred := { target := .collected b, args := #[] }

/-- Nothing is deferred but marks of loops that are over. -/
def Marks (C : Ctx) (w : World) (ds : List Deferred) : Prop := ∃ l : List Nat, l.Nodup ∧ ds = l.map markOf ∧ ∀ b ∈ l, Mark C w b

theorem Marks.nil (C : Ctx) (w : World) : Marks C w [] := ⟨[], .nil, rfl, fun _ h => by cases h⟩

theorem Mark.notN {C : Ctx} {w : World} {b : Nat} (h : Mark C w b) {φ H} (g : G C φ H w) : ¬ C.N φ H b := by
  rintro (⟨h1, h2⟩ | ⟨h1, i, ob, h3, h4, h5⟩)
  · exact h.2.1 h1 h2
  · have k := g.objs.cl i ob h4
    have hr := h.2.2
    cases ob with
    | arr ver sz rows =>
      obtain ⟨_, _, c, e, vs, ⟨fz, hfz, q1⟩, _⟩ := g.arrOf h4 h3
      rw [hr] at q1; cases q1
    | mapx es st =>
      obtain ⟨b', k1, _, ents, clock, k3, _⟩ := k
      have k1' : φ[i]? = some (some b') := k1
      rw [h3] at k1'
      obtain rfl : b = b' := by simpa using k1'
      have k3' : w.heap[b]? = some (Obj.map ents clock) := k3
      rw [hr] at k3'; cases k3'
    | gone => exact h5

theorem Mark.put {C : Ctx} {φ φ' H H'} {w w' : World} {b : Nat} (h : Mark C w b) (g : G C φ H w) (x : Ext (C.env φ H w) (C.env φ' H' w')) : Mark C w' b :=
  ⟨h.1, h.2.1, ((x.imm b (h.notN g) (Array.getElem?_eq_some_iff.mp h.2.2).1 (.inr h.2.2)).2.2).trans h.2.2⟩

theorem Marks.put {C : Ctx} {φ φ' H H'} {w w' : World} {ds : List Deferred} (h : Marks C w ds) (g : G C φ H w) (x : Ext (C.env φ H w) (C.env φ' H' w')) : Marks C w' ds :=
  let ⟨l, h1, h2, h3⟩ := h; ⟨l, h1, h2, fun b hb => (h3 b hb).put g x⟩

structure SRel (C : Ctx) (φ : List (Option Nat)) (s : St) (a : Act) (w : World) : Prop where
  defers : Marks C w a.defers
  slots : VRs (C.env φ s.H w) s.slots a.tmps.toList
  g : G C φ s.H w

/-- An operand's data. -/
def ev (s : List D) : Operand → D
  | .tmp t => match s[t]? with | some d => d | none => .tup []
  | .const v => cD v
  | .global _ => .undef
  | .func f => .fn f []

def putD (s : List D) (dst : Option Tmp) (d : D) : List D :=
  match dst with
  | some t => s.set t d
  | none => s

theorem SRel.ev {C φ s a w} (h : SRel C φ s a w) (x : Operand) : VR (C.env φ s.H w) (ev s.slots x) (a.eval x) := by
  cases x with
  | tmp t =>
    simp only [Go.A.ev, Act.eval]
    cases hd : s.slots[t]? with
    | some d =>
      obtain ⟨v, h1, h2⟩ := h.slots.get t d hd
      have : a.tmps[t]? = some v := by simpa using h1
      simp [this]
      exact h2
    | none =>
      have hl := h.slots.length
      have : a.tmps[t]? = none := by
        rw [Array.getElem?_eq_none]
        rw [List.getElem?_eq_none_iff] at hd
        simp at hl; omega
      simp [this]
      exact .tup .nil
  | const v => exact cD_ok _ v
  | global g => exact .undef _
  | func f => exact .fn .nil

theorem SRel.put {C φ φ' w w' H'} {s : St} {a : Act} (h : SRel C φ s a w) (g : G C φ' H' w') (x : Ext (C.env φ s.H w) (C.env φ' H' w')) {d : D} {v : Value} (hv : VR (C.env φ' H' w') d v) (dst : Option Tmp) :
    SRel C φ' ⟨putD s.slots dst d, H'⟩ (a.put dst v) w' := by
  refine ⟨?_, ?_, g⟩
  · have := h.defers.put h.g x
    cases dst <;> exact this
  · cases dst with
    | none => exact VRs.mono x h.slots
    | some t =>
      have := (VRs.mono x h.slots).set t hv
      simpa [Act.put, putD] using this

/-- A function that can be entered. -/
def FOk (P : Program) (f : FuncId) : Prop := ∃ fn, P.funcs[f]? = some fn ∧ (fn.name == "runtime.NumGoroutine") = false ∧ fn.body.isNone = false

/-- A call, as who makes it sees it: with what is owned, and what comes of it. -/
def CallsIn (P : Program) (f : FuncId) (args : List D) (H : List AObj) (R : D → List AObj → Prop) : Prop :=
  FOk P f ∧ ∀ (C : Ctx) φ w (cargs : Array Value), G C φ H w → VRs (C.env φ H w) args cargs.toList →
    Calls P f cargs w fun e w' => ∃ r v H' φ', e = .returned v ∧ R r H' ∧ G C φ' H' w' ∧ Ext (C.env φ H w) (C.env φ' H' w') ∧ VR (C.env φ' H' w') r v

theorem CallsIn.mk' {P f args H R} (h1 : FOk P f) (h2 : ∀ (C : Ctx) φ w (cargs : Array Value), G C φ H w → VRs (C.env φ H w) args cargs.toList →
    Calls P f cargs w fun e w' => ∃ r v H' φ', e = .returned v ∧ R r H' ∧ G C φ' H' w' ∧ Ext (C.env φ H w) (C.env φ' H' w') ∧ VR (C.env φ' H' w') r v) : CallsIn P f args H R := ⟨h1, h2⟩

theorem CallsIn.fok {P f args H R} (h : CallsIn P f args H R) : FOk P f := h.1

theorem CallsIn.run {P f args H R} (h : CallsIn P f args H R) (C : Ctx) {φ w} {cargs : Array Value} (g : G C φ H w) (hv : VRs (C.env φ H w) args cargs.toList) :
    Calls P f cargs w fun e w' => ∃ r v H' φ', e = .returned v ∧ R r H' ∧ G C φ' H' w' ∧ Ext (C.env φ H w) (C.env φ' H' w') ∧ VR (C.env φ' H' w') r v := h.2 C φ w cargs g hv

theorem CallsIn.mono {P f args H} {R R' : D → List AObj → Prop} (h : CallsIn P f args H R) (hr : ∀ r H', R r H' → R' r H') : CallsIn P f args H R' :=
  ⟨h.1, fun C φ w cargs g hv => (h.2 C φ w cargs g hv).mono fun e w' ⟨r, v, H', φ', e1, e2, e3⟩ => ⟨r, v, H', φ', e1, hr _ _ e2, e3⟩⟩

/-- One operation. -/
def doK (P : Program) (T : Tab) (hd : Hd) (o : Oper) (s : St) (K : St → Prop) : Prop :=
  match o.op with
  | .call c => match c.callee with
    | .value f => match ev s.slots f with
      | .fn g caps => CallsIn P g (c.args.toList.map (ev s.slots) ++ caps) s.H fun r H' => K ⟨putD s.slots o.dst r, H'⟩
      | _ => False
    | _ => opK T hd o.op (ev s.slots) s.H fun d H' => K ⟨putD s.slots o.dst d, H'⟩
  | _ => opK T hd o.op (ev s.slots) s.H fun d H' => K ⟨putD s.slots o.dst d, H'⟩

/-- The fence of an activation, or of a round. -/
def Ctx.F (C : Ctx) : Fence := { fn := fun _ => True, depth := none, alive := false, round := C.ro }

theorem callsIn_F {C : Ctx} {n : Nat} {P : Program} {f : FuncId} {args : Array Value} {w : World} {R : Ending → World → Prop} (h : Calls P f args w R) : Go.CallsIn C.F n P f args w R :=
  (callsIn_wide (n := n)).2 h

theorem doK_wp {P T} (hT : TOk P T) {hd : Hd} {o : Oper} {s : St} {K : St → Prop} (h : doK P T hd o s K) {C φ a w} (hle : C.le hd.n) (hs : SRel C φ s a w) {next : Act → World → Prop} {Q : Exit → Act → World → Prop}
    (hn : ∀ s' φ' a' w', K s' → SRel C φ' s' a' w' → next a' w') : o.wpIn C.F 0 P a w next Q := by
  have plain : opK T hd o.op (ev s.slots) s.H (fun d H' => K ⟨putD s.slots o.dst d, H'⟩) → o.wpIn C.F 0 P a w next Q := fun h => by
    have hnd : ∀ c, o.op ≠ .defer c := fun c e => by rw [e] at h; exact h
    obtain ⟨n, v, w', φ', H', d, h1, h2, h3, h4, h5, h6⟩ := op_sound hT hs.g hle (a := a.eval) hs.ev o h
    refine ⟨fun _ _ => trivial, ?_⟩
    rw [Oper.semAt_eq _ _ _ hnd, h1]
    have := hn _ _ _ _ h3 (hs.put h4 h5 h6 o.dst)
    rcases h2 with rfl | ⟨rfl, rfl⟩
    · exact this
    · exact this
  unfold doK at h
  split at h
  · rename_i c ho
    split at h
    · rename_i f hc
      split at h
      · rename_i g caps hf
        obtain ⟨⟨fn, hfn, hname, hbody⟩, hcall⟩ := h
        have hfv := hs.ev f
        rw [hf] at hfv
        cases hav : a.eval f <;> rw [hav] at hfv <;> cases hfv
        rename_i cv hcv
        have hargs : VRs (C.env φ s.H w) (c.args.toList.map (ev s.slots) ++ caps) ((c.args.map a.eval) ++ cv).toList := by
          have : ∀ l : List Operand, VRs (C.env φ s.H w) (l.map (ev s.slots)) (l.map a.eval) := fun l => by
            induction l with
            | nil => exact .nil
            | cons x l ih => exact .cons (hs.ev x) ih
          have h1 := (this c.args.toList).append hcv
          simpa using h1
        refine ⟨fun _ _ => trivial, ?_⟩
        have hrun : (execOp a.eval o).run P w = .ok (.enter g ((c.args.map a.eval) ++ cv)) w := by
          have n1 : fn.name ≠ "runtime.NumGoroutine" := by simpa using hname
          have n2 : fn.body ≠ none := fun e => by rw [e] at hbody; simp at hbody
          simp [execOp, ho, resolve, hc, hav, Deferred.ofValue, invoke, callFunc, hfn, n1, n2]
        rw [Oper.semAt_eq _ _ _ (by rw [ho]; intro c hc'; cases hc'), hrun]
        refine ⟨(fun h => by cases h), callsIn_F ((hcall C φ w _ hs.g hargs).mono ?_)⟩
        rintro e w' ⟨r, v, H', φ', rfl, k1, k2, k3, k4⟩
        exact hn _ _ _ _ k1 (hs.put k2 k3 k4 o.dst)
      · exact h.elim
    · exact plain h
  · exact plain h

/-- Whether an operation is done: what of it is known. -/
def wantK (ops : Array Oper) (o : Oper) (s : St) (Kt Kf : Prop) : Prop :=
  match o.guard with
  | none => Kt
  | some (j, want) => match (ops[j]?).bind (·.dst) with
    | none => Kf
    | some t => match s.slots[t]? with
      | some (.bool b) => (b = want → Kt) ∧ (b = !want → Kf)
      | some (.tup _) => Kf
      | _ => False

theorem wantK_ok {ops : Array Oper} {o : Oper} {s : St} {Kt Kf : Prop} (h : wantK ops o s Kt Kf) {C φ a w} (hs : SRel C φ s a w) :
    (Region.wanted o (yielded ops a.tmps) = true ∧ Kt) ∨ (Region.wanted o (yielded ops a.tmps) = false ∧ Kf) := by
  unfold wantK at h
  unfold Region.wanted
  split at h
  · rename_i hg
    rw [hg]
    exact .inl ⟨rfl, h⟩
  · rename_i j want hg
    rw [hg]
    simp only
    split at h
    · rename_i hd
      right
      exact ⟨by simp [yielded, hd], h⟩
    · rename_i t hd
      split at h
      · rename_i b hb
        obtain ⟨v, h1, h2⟩ := hs.slots.get t _ hb
        cases h2
        have h1' : a.tmps[t]? = some (.bool b) := by simpa using h1
        have hy : yielded ops a.tmps j = some b := by simp [yielded, hd, h1']
        rw [hy]
        by_cases e : b = want
        · subst e; exact .inl ⟨by simp, h.1 rfl⟩
        · exact .inr ⟨by simpa using e, h.2 (by cases b <;> cases want <;> simp_all)⟩
      · rename_i vs hb
        obtain ⟨v, h1, h2⟩ := hs.slots.get t _ hb
        cases h2
        rename_i arr _
        have h1' : a.tmps[t]? = some (.tuple arr) := by simpa using h1
        have hy : yielded ops a.tmps j = none := by simp [yielded, hd, h1']
        rw [hy]
        exact .inr ⟨rfl, h⟩
      · exact h.elim

/-- One operation of a region, or its being left out. -/
def stepK (P : Program) (T : Tab) (hd : Hd) (ops : Array Oper) (i : Nat) (s : St) (K : St → Prop) : Prop :=
  match ops[i]? with
  | none => K s
  | some o => wantK ops o s (doK P T hd o s K) (K ⟨putD s.slots o.dst (.tup []), s.H⟩)

theorem stepK_wp {P T} (hT : TOk P T) {hd : Hd} {ops : Array Oper} {i : Nat} {s : St} {K : St → Prop} (h : stepK P T hd ops i s K) {C φ a w} (hle : C.le hd.n) (hs : SRel C φ s a w) {next : Act → World → Prop} {Q : Exit → Act → World → Prop}
    (hn : ∀ s' φ' a' w', K s' → SRel C φ' s' a' w' → next a' w') : wpOpIn C.F 0 P ops Q i next a w := by
  unfold stepK at h
  unfold wpOpIn
  split at h
  · rename_i hi
    simp only [hi]
    exact hn _ _ _ _ h hs
  · rename_i o hi
    simp only [hi]
    rcases wantK_ok h hs with ⟨h1, h2⟩ | ⟨h1, h2⟩
    · rw [if_pos h1]
      exact doK_wp hT h2 hle hs hn
    · rw [if_neg (by simp [h1])]
      exact ⟨fun _ _ => trivial, hn _ _ _ _ h2 (hs.put hs.g (.refl _) (.tup .nil) o.dst)⟩

open Classical in
/-- A loop whose states bear numbers, which each round lowers. -/
theorem wpIn_loopG {F : Fence} {n : Nat} {P : Program} {Q : Exit → Act → World → Prop} {a : Act} {w : World} {c : Code} (I : Nat → Act → World → Prop) (m : Nat) (h : I m a w)
    (round : ∀ m a w, I m a w → c.wpIn F n P (Exit.then (fun a' w' => ∃ m', m' < m ∧ I m' a' w') Q) a w) : (Code.loop c).wpIn F n P Q a w := by
  have hmin : ∀ m a w, I m a w → ∃ k, I k a w ∧ ∀ j, I j a w → k ≤ j := fun m a w hI => by
    induction m using Nat.strongRecOn with
    | ind m ih =>
      by_cases hlt : ∃ j, j < m ∧ I j a w
      · obtain ⟨j, h1, h2⟩ := hlt
        exact ih j h1 h2
      · exact ⟨m, hI, fun j hj => Nat.le_of_not_lt fun h => hlt ⟨j, h, hj⟩⟩
  refine wpIn_loop (fun a w => ∃ k, I k a w) (fun a w => if h : ∃ k, I k a w ∧ ∀ j, I j a w → k ≤ j then Classical.choose h else 0) ⟨m, h⟩ ?_
  rintro a w ⟨k, hk⟩
  have h0 := hmin k a w hk
  refine wpIn_mono (round _ a w (Classical.choose_spec h0).1) ?_
  intro e a' w' hq
  cases e with
  | normal =>
    obtain ⟨m', h1, h2⟩ := hq
    have h3 := hmin m' a' w' h2
    refine ⟨⟨m', h2⟩, ?_⟩
    rw [dif_pos h3, dif_pos h0]
    exact Nat.lt_of_le_of_lt ((Classical.choose_spec h3).2 m' h2) h1
  | _ => exact hq

/-- What is still to be run. -/
inductive Item where
  | code (c : Code)
  | ops (id : Nat) (ops : Array Oper) (l : List Nat)
  | any (ops : Array Oper) (fuel : Nat) (listed : Array Bool)
  | inBlock (id : Nat)
  | hyp (I : St → Prop)

def after (P : Program) (C : Ctx) : List Item → (Exit → Act → World → Prop) → Exit → Act → World → Prop
  | [], Post => Post
  | .code c :: k, Post => fun e a w => match e with
    | .normal => c.wpIn C.F 0 P (after P C k Post) a w
    | e => after P C k Post e a w
  | .ops _ ops l :: k, Post => fun e a w => match e with
    | .normal => wpOpsIn C.F 0 P ops (after P C k Post) l a w
    | e => after P C k Post e a w
  | .any ops fuel listed :: k, Post => fun e a w => match e with
    | .normal => wpAnyIn C.F 0 P .any ops (after P C k Post) fuel listed a w
    | e => after P C k Post e a w
  | .inBlock id :: k, Post => fun e a w => match e with
    | .exit id' => if id' = id then after P C k Post .normal a w else after P C k Post (.exit id') a w
    | e => after P C k Post e a w
  | .hyp I :: k, Post => fun e a w => match e with
    | .normal => ∃ s φ, SRel C φ s a w ∧ I s
    | e => after P C k Post e a w

def postOf (C : Ctx) (Q : Exit → St → Prop) (e : Exit) (a : Act) (w : World) : Prop := ∃ s φ, SRel C φ s a w ∧ Q e s

/-- From here on all goes well. -/
def W (P : Program) (n : Nat) (todo : List Item) (s : St) (Q : Exit → St → Prop) : Prop :=
  ∀ C φ a w, C.le n → SRel C φ s a w → after P C todo (postOf C Q) .normal a w

section
variable {P : Program} {n : Nat} {k : List Item} {s : St} {Q : Exit → St → Prop}

theorem W_nil (h : Q .normal s) : W P n [] s Q := fun C φ a w hn hs => ⟨s, φ, hs, h⟩

theorem W_hyp {I : St → Prop} (h : I s) : W P n (.hyp I :: k) s Q := fun C φ a w hn hs => ⟨s, φ, hs, h⟩

theorem W_skip (h : W P n k s Q) : W P n (.code .skip :: k) s Q := fun C φ a w hn hs => wpIn_skip (h C φ a w hn hs)

theorem W_seq {x y : Code} (h : W P n (.code x :: .code y :: k) s Q) : W P n (.code (.seq x y) :: k) s Q := fun C φ a w hn hs =>
  wpIn_seq (wpIn_mono (h C φ a w hn hs) fun e a w q => by cases e <;> exact q)

theorem W_block {id : Nat} {c : Code} (h : W P n (.code c :: .inBlock id :: k) s Q) : W P n (.code (.block id c) :: k) s Q := fun C φ a w hn hs =>
  wpIn_block (wpIn_mono (h C φ a w hn hs) fun e a w q => by cases e <;> exact q)

theorem W_inBlock {id : Nat} (h : W P n k s Q) : W P n (.inBlock id :: k) s Q := fun C φ a w hn hs => h C φ a w hn hs

def toExit (id : Nat) : List Item → Option (List Item)
  | [] => none
  | .inBlock id' :: k => if id = id' then some k else toExit id k
  | .code _ :: k => toExit id k
  | .ops _ _ _ :: k => toExit id k
  | .any _ _ _ :: k => toExit id k
  | .hyp _ :: k => toExit id k

theorem after_exit {C : Ctx} {Post : Exit → Act → World → Prop} {id : Nat} : ∀ {k k' : List Item} (_ : toExit id k = some k') {a w} (_ : after P C k' Post .normal a w), after P C k Post (.exit id) a w
  | .inBlock id' :: k, k', h, a, w, hk => by
    simp only [toExit] at h
    split at h
    · rename_i e
      subst e
      cases h
      simp only [after, if_true]
      exact hk
    · rename_i e
      simp only [after, if_neg e]
      exact after_exit h hk
  | .code _ :: k, k', h, a, w, hk => after_exit (k := k) h hk
  | .ops _ _ _ :: k, k', h, a, w, hk => after_exit (k := k) h hk
  | .any _ _ _ :: k, k', h, a, w, hk => after_exit (k := k) h hk
  | .hyp _ :: k, k', h, a, w, hk => after_exit (k := k) h hk

theorem W_exit {id : Nat} {k' : List Item} (hk : toExit id k = some k') (h : W P n k' s Q) : W P n (.code (.exit id) :: k) s Q := fun C φ a w hn hs =>
  wpIn_exit (after_exit hk (h C φ a w hn hs))

theorem after_ret {C : Ctx} {Post : Exit → Act → World → Prop} : ∀ {k : List Item} {a w} (_ : Post .ret a w), after P C k Post .ret a w
  | [], _, _, h => h
  | .code _ :: k, _, _, h => after_ret (k := k) h
  | .ops _ _ _ :: k, _, _, h => after_ret (k := k) h
  | .any _ _ _ :: k, _, _, h => after_ret (k := k) h
  | .inBlock _ :: k, _, _, h => after_ret (k := k) h
  | .hyp _ :: k, _, _, h => after_ret (k := k) h

theorem W_ret (h : Q .ret s) : W P n (.code .ret :: k) s Q := fun C φ a w hn hs => wpIn_ret (after_ret ⟨s, φ, hs, h⟩)

theorem W_cond {c : Operand} {x y : Code} {b : Bool} (hc : ev s.slots c = .bool b) (h1 : b = true → W P n (.code x :: k) s Q) (h2 : b = false → W P n (.code y :: k) s Q) : W P n (.code (.cond c x y) :: k) s Q := fun C φ a w hn hs => by
  have hv := hs.ev c
  rw [hc] at hv
  cases hav : a.eval c <;> rw [hav] at hv <;> cases hv
  exact wpIn_cond_split hav (fun e => h1 e C φ a w hn hs) (fun e => h2 e C φ a w hn hs)

theorem W_region {id : Nat} {ops : Array Oper} (h : W P n (.ops id ops (List.range ops.size) :: k) s Q) : W P n (.code (.region id ops false) :: k) s Q := fun C φ a w hn hs => wpIn_region (h C φ a w hn hs)

theorem W_ops_nil {id : Nat} {ops : Array Oper} (h : W P n k s Q) : W P n (.ops id ops [] :: k) s Q := fun C φ a w hn hs => h C φ a w hn hs

theorem W_ops_cons {T : Tab} (hT : TOk P T) {hd : Hd} (hdn : hd.n = n) {id : Nat} {ops : Array Oper} {i : Nat} {l : List Nat} (h : stepK P T hd ops i s fun s' => W P n (.ops id ops l :: k) s' Q) : W P n (.ops id ops (i :: l) :: k) s Q := fun C φ a w hn hs => by
  show wpOpsIn C.F 0 P ops _ (i :: l) a w
  rw [wpOpsIn_cons]
  exact stepK_wp hT h (hdn ▸ hn) hs fun s' φ' a' w' hk hs' => hk C φ' a' w' hn hs'

/-- What of a state is kept. -/
def keepL (L : List Nat) : Nat → List D → List D
  | _, [] => []
  | n, d :: ds => (if L.contains n then d else .undef) :: keepL L (n + 1) ds

theorem keepL_ok {E : Env} (L : List Nat) : ∀ (n : Nat) {ds : List D} {vs : List Value}, VRs E ds vs → VRs E (keepL L n ds) vs
  | _, _, _, .nil => .nil
  | n, _, _, .cons h t => by
    simp only [keepL]
    split
    · exact .cons h (keepL_ok L (n + 1) t)
    · exact .cons (.undef _) (keepL_ok L (n + 1) t)

theorem W_keep (L : List Nat) (h : W P n k ⟨keepL L 0 s.slots, s.H⟩ Q) : W P n k s Q := fun C φ a w hn hs =>
  h C φ a w hn ⟨hs.defers, keepL_ok L 0 hs.slots, hs.g⟩

/-- A loop: its states are told by what is counted; each round lowers a measure. -/
theorem W_loop {ι : Type} {c : Code} (L : List Nat) (S : ι → St) (μ : ι → Nat) (I : ι → Prop) (i0 : ι) (h0 : (⟨keepL L 0 s.slots, s.H⟩ : St) = S i0) (hI : I i0)
    (round : ∀ i, I i → W P n (.code c :: .hyp (fun s' => ∃ j, (⟨keepL L 0 s'.slots, s'.H⟩ : St) = S j ∧ I j ∧ μ j < μ i) :: k) (S i) Q) : W P n (.code (.loop c) :: k) s Q := fun C φ a w hn hs => by
  refine wpIn_loopG (fun n a w => ∃ i φ, SRel C φ (S i) a w ∧ I i ∧ μ i = n) (μ i0) ⟨i0, φ, h0 ▸ ⟨hs.defers, keepL_ok L 0 hs.slots, hs.g⟩, hI, rfl⟩ ?_
  rintro n a w ⟨i, φ, h1, h2, rfl⟩
  refine wpIn_mono (round i h2 C φ a w hn h1) ?_
  intro e a w q
  cases e with
  | normal =>
    obtain ⟨s', φ', q1, j, q2, q3, q4⟩ := q
    exact ⟨μ j, q4, j, φ', q2 ▸ ⟨q1.defers, keepL_ok L 0 q1.slots, q1.g⟩, q3, rfl⟩
  | _ => exact q

theorem W_mid {c : Code} (M : St → Prop) (h1 : W P n (.code c :: .hyp M :: k) s Q) (h2 : ∀ s', M s' → W P n k s' Q) : W P n (.code c :: k) s Q := fun C φ a w hn hs => by
  refine wpIn_mono (h1 C φ a w hn hs) ?_
  intro e a w q
  cases e with
  | normal =>
    obtain ⟨s', φ', q1, q2⟩ := q
    exact h2 s' q2 C φ' a w hn q1
  | _ => exact q

theorem W.intro (h : ∀ C φ a w, C.le n → SRel C φ s a w → after P C k (postOf C Q) .normal a w) : W P n k s Q := h

theorem W.run (h : W P n k s Q) {C φ a w} (hn : C.le n) (hs : SRel C φ s a w) : after P C k (postOf C Q) .normal a w := h C φ a w hn hs

end

attribute [irreducible] W CallsIn

end Go.A
