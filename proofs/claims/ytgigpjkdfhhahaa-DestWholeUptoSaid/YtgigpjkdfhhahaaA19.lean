/- A logic of abstract states, part 19: code gone through by computing. -/
import Derived.Test.YtgigpjkdfhhahaaA18
import Derived.KernelRfl
namespace Go.A
set_option linter.unusedVariables false
set_option linter.unusedSimpArgs false

def goS (r : Res) (H : List AObj) (bx : List Bool) (X : D → List AObj → List Bool → Prop) : Prop :=
  match r with
  | .val d _ => X d H bx
  | .upd d _ o ob => setK H o ob fun H => X d H bx
  | .new sz rows mk _ => lenK H 0 fun o => snocK H (.arr 0 sz rows) fun H => bxK bx o (isP (mk 0 0)) fun bx => X (mk o 0) H bx
  | .newMap => lenK H 0 fun o => snocK H (.map []) fun H => X (.map o) H bx

theorem goS_ok {r : Res} {H : List AObj} {bx : List Bool} {X : D → List AObj → List Bool → Prop} (h : goS r H bx X) {K : D → List AObj → Prop} (hK : ∀ d H' bx', X d H' bx' → K d H') : r.go none H K := by
  cases r with
  | val d rd => exact hK _ _ _ h
  | upd d rd o ob =>
    simp only [goS] at h
    exact hK _ _ _ ((setK_iff (X := fun H => X d H bx)).mp h)
  | new sz rows mk rd =>
    replace h := snocK_iff.mp (lenK_iff.mp h)
    obtain ⟨bx', h⟩ := bxK_ok h
    rw [Nat.zero_add] at h
    exact hK _ _ _ h
  | newMap =>
    replace h := snocK_iff.mp (lenK_iff.mp h)
    rw [Nat.zero_add] at h
    exact hK _ _ _ h

/-- Two ways on: either may be taken. -/
structure Both (A B : Prop) : Prop where
  t : A
  f : B

/-- An empty slice compared with nil: it may be nil, or not. -/
def nilS (T : Tab) (t : TypeId) (x y : D) (Y : Bool → Prop) (N : Prop) : Prop :=
  match x, y with
  | .sl [], .nils => tyK T t fun td => (match td.k with | .slice _ => Both (Y true) (Y false) | _ => False)
  | .nils, .sl [] => tyK T t fun td => (match td.k with | .slice _ => Both (Y true) (Y false) | _ => False)
  | _, _ => N

theorem nilS_ok {T : Tab} {t : TypeId} {x y : D} {Y : Bool → Prop} {N : Prop} (h : nilS T t x y Y N) : (∀ K : D → Prop, (∀ b, Y b → K (.bool b)) → binK T .eql t x y K) ∨ N := by
  unfold nilS at h
  split at h
  · obtain ⟨td, h1, h2⟩ := tyK_iff.mp h
    split at h2
    · rename_i e hk
      exact .inl fun K hK => ⟨⟨td, e, h1, hk⟩, fun _ => hK _ h2.t, hK _ h2.f⟩
    · exact h2.elim
  · obtain ⟨td, h1, h2⟩ := tyK_iff.mp h
    split at h2
    · rename_i e hk
      exact .inl fun K hK => ⟨⟨td, e, h1, hk⟩, fun _ => hK _ h2.t, hK _ h2.f⟩
    · exact h2.elim
  · exact .inr h

def doS (P : Program) (T : Tab) (cf : Cf) (bx : List Bool) (o : Oper) (s : List D) (H : List AObj) (X : D → List AObj → List Bool → Prop) : Prop :=
  match o.op with
  | .call c => match c.callee with
    | .value f => evK s f fun f => match f with
      | .fn g caps => evsK s c.args.toList fun args => listK (args ++ caps) fun args => CallsIn P g args H fun r H' => X r H' bx
      | _ => False
    | _ => opF T cf bx o.op s H fun r => goS r H bx X
  | .binOp .eql t x y _ => evK s x fun dx => evK s y fun dy => nilS T t dx dy (fun b => X (.bool b) H bx) (opF T cf bx o.op s H fun r => goS r H bx X)
  | _ => opF T cf bx o.op s H fun r => goS r H bx X

theorem doS_ok {P : Program} {T : Tab} {cf : Cf} {bx : List Bool} {o : Oper} {s : List D} {H : List AObj} {X : D → List AObj → List Bool → Prop} (h : doS P T cf bx o s H X) {K : St → Prop}
    (hK : ∀ d H' bx', X d H' bx' → K ⟨putD s o.dst d, H'⟩) : doK P T ⟨cf.own, none, cf.n⟩ o ⟨s, H⟩ K := by
  have plain : opF T cf bx o.op s H (fun r => goS r H bx X) → opK T ⟨cf.own, none, cf.n⟩ o.op (ev s) H fun d H' => K ⟨putD s o.dst d, H'⟩ := fun h => by
    obtain ⟨r, h1, h2⟩ := opF_ok h
    exact h2 s H none _ (fun _ _ => rfl) (fun _ _ => rfl) (goS_ok h1 hK)
  unfold doS at h
  unfold doK
  split at h
  · rename_i c hc
    simp only [hc]
    split at h
    · rename_i f hf
      simp only [hf]
      replace h := evK_iff.mp h
      split at h
      · rename_i g caps hg
        rw [hg]
        replace h := listK_iff.mp (evsK_iff.mp h)
        exact h.mono fun r H' hx => hK _ _ _ hx
      · exact h.elim
    · rename_i hne
      have := plain h
      rw [hc] at this
      split
      · rename_i f hf
        exact absurd hf (hne f)
      · exact this
  · rename_i t x y u hop
    simp only [hop] at plain ⊢
    rcases nilS_ok (evK_iff.mp (evK_iff.mp h)) with h | h
    · exact .inl (h (fun d => K ⟨putD s o.dst d, H⟩) fun b hb => hK _ _ _ hb)
    · exact plain (hop ▸ h)
  · rename_i hne _
    have := plain h
    split
    · rename_i c hc
      exact absurd hc (hne c)
    · exact this

def runS1 (P : Program) (T : Tab) (n : Nat) (own : List Nat) (all : List Oper) (o : Oper) (ih : List D → List AObj → List Bool → (List D → List AObj → List Bool → Prop) → Prop) (s : List D) (H : List AObj) (bx : List Bool) (X : List D → List AObj → List Bool → Prop) : Prop :=
  guardF all o s
    (fun s => doS P T ⟨ownAt own o.dst, n⟩ bx o s H fun d H bx => putK s o.dst d fun s => ih s H bx X)
    (fun s => putK s o.dst (.tup []) fun s => ih s H bx X)

-- by the recursor itself: the kernel and the tactics see the same terms
def runS (P : Program) (T : Tab) (n : Nat) (own : List Nat) (all : List Oper) (rest : List Oper) : List D → List AObj → List Bool → (List D → List AObj → List Bool → Prop) → Prop :=
  List.rec (motive := fun _ => List D → List AObj → List Bool → (List D → List AObj → List Bool → Prop) → Prop) (fun s H bx X => X s H bx) (fun o _ ih => runS1 P T n own all o ih) rest

theorem runS_cons {P : Program} {T : Tab} {n : Nat} {own : List Nat} {all : List Oper} {o : Oper} {rest : List Oper} {s H bx X} : runS P T n own all (o :: rest) s H bx X = guardF all o s
    (fun s => doS P T ⟨ownAt own o.dst, n⟩ bx o s H fun d H bx => putK s o.dst d fun s => runS P T n own all rest s H bx X)
    (fun s => putK s o.dst (.tup []) fun s => runS P T n own all rest s H bx X) := rfl

theorem runS_ok {P : Program} {T : Tab} (hT : TOk P T) {n : Nat} {own : List Nat} {id : Nat} {ops : Array Oper} {k : List Item} {Q : Exit → St → Prop} {X : List D → List AObj → List Bool → Prop}
    (hX : ∀ s H bx, X s H bx → W P n k ⟨s, H⟩ Q) : ∀ {rest : List Oper} {i : Nat} {l : List Nat} {s : List D} {H : List AObj} {bx : List Bool},
    ops.toList.drop i = rest → l = (List.range ops.size).drop i → runS P T n own ops.toList rest s H bx X → W P n (.ops id ops l :: k) ⟨s, H⟩ Q
  | [], i, l, s, H, bx, hd, hl, h => by
    have : ops.size ≤ i := by simpa using hd
    have : l = [] := by rw [hl]; simp [this]
    subst this
    exact W_ops_nil (hX _ _ _ h)
  | o :: rest, i, l, s, H, bx, hd, hl, h => by
    have hi : ops[i]? = some o := by
      have : (ops.toList.drop i)[0]? = some o := by rw [hd]; rfl
      simpa using this
    have hlt := (Array.getElem?_eq_some_iff.mp hi).1
    have hd' : ops.toList.drop (i + 1) = rest := by
      rw [← List.drop_drop, hd]; rfl
    have hl' : l = i :: (List.range ops.size).drop (i + 1) := by
      rw [hl, List.drop_eq_getElem_cons (by simpa using hlt)]
      simp
    subst hl'
    rw [runS_cons] at h
    rcases guardF_ok h with ⟨h1, h2⟩ | ⟨h1, h2⟩
    · refine W_ops_cons hT (hd := ⟨ownAt own o.dst, none, n⟩) rfl ?_
      unfold stepK
      rw [hi]
      refine h2 s H _ _ (fun _ _ => rfl) ?_
      exact doS_ok h1 fun d H' bx' hx => runS_ok hT hX hd' rfl (putK_iff.mp hx)
    · refine W_ops_cons hT (hd := { n := n }) rfl ?_
      unfold stepK
      rw [hi]
      refine h2 s H _ _ (fun _ _ => rfl) ?_
      exact runS_ok hT hX hd' rfl (putK_iff.mp h1)

/-- What was drawn may be drawn so. -/
structure PairK (b : Bool) (X : Prop) : Prop where
  ok : b = true
  out : X

theorem foldU_none {α : Type} {us : Nat → List (Nat × α)} {L : Nat → Bool} (h : ∀ i, L i = false) (l : List α) : ∀ m, foldU us L m l = l
  | 0 => rfl
  | m + 1 => by simp [foldU, h m, foldU_none h l m]

theorem SRel.phs {C φ s a w} (h : SRel C φ s a w) : ∀ k : Nat, ∃ φ', SRel C φ' ⟨s.slots, s.H ++ List.replicate k ph⟩ a w
  | 0 => ⟨φ, by simpa using h⟩
  | k + 1 => by
    obtain ⟨φ', h'⟩ := SRel.phs h k
    obtain ⟨g, x⟩ := h'.g.pushNil 0
    refine ⟨φ' ++ [none], ?_⟩
    rw [List.replicate_succ', ← List.append_assoc]
    exact ⟨h.defers, VRs.mono x h'.slots, g⟩

theorem W_draw {P : Program} {T : Tab} (hT : TOk P T) (hm : P.follows .mixedOrders = true) {n : Nat} {own : List Nat} {id : Nat} {ops : Array Oper} {k : List Item} {s : List D} {H : List AObj} {bx : List Bool} {Q : Exit → St → Prop}
    {X : List D → List AObj → List Bool → Prop} (hX : ∀ s H bx, X s H bx → W P n k ⟨s, H⟩ Q)
    (h : runD P T n own ops.toList ops.toList s H bx [] fun s H bx recs => listK recs.reverse fun rs => PairK (pairsB [] 0 ops.toList rs) (X s H bx)) : W P n (.code (.region id ops true) :: k) ⟨s, H⟩ Q := by
  obtain ⟨rs, s', H', bx', q, h1, h2, h3⟩ := runD_ok (i := 0) (by simp) h
  obtain ⟨h4, h5⟩ := listK_iff.mp h1
  simp only [List.append_nil, List.reverse_reverse] at h4
  have hW := hX _ _ _ h5
  refine W.intro fun C φ a w hn hs => ?_
  show (Code.region id ops true).wpIn C.F 0 P _ a w
  refine wpIn_region_any hm ?_
  obtain ⟨g, e⟩ := hs.g.draw (w' := { w with drawn := w.drawn + 1 }) rfl ⟨rfl, rfl, rfl, (by first | exact Nat.le_refl _ | exact Nat.le_succ _)⟩
  have hs1 : SRel C φ ⟨s, H⟩ a { w with drawn := w.drawn + 1 } := ⟨hs.defers, e ▸ hs.slots, g⟩
  obtain ⟨φ', hs2⟩ := hs1.phs q
  have hch := h3 0 []
  simp only [Nat.add_zero, List.append_nil, List.replicate_zero] at hch
  refine wpAny_chain hT hch h4 (C := C) hn (fun φ a w hs => W.run hW hn hs) ops.size (Array.replicate ops.size false) φ' a _ (by simp) ?_ ?_ ?_
  · exact cnt_all (fun i => by simp [Array.getElem?_replicate]; split <;> rfl) _
  · intro i o _ hi
    have : (Array.replicate ops.size false).getD i false = false := by simp [Array.getElem?_replicate]; split <;> rfl
    rw [this] at hi; cases hi
  · rw [foldU_none (fun i => by simp [Array.getElem?_replicate]; split <;> rfl), foldU_none (fun i => by simp [Array.getElem?_replicate]; split <;> rfl)]
    exact hs2

/-- Code gone through, as far as a loop. -/
def exec1 (P : Program) (T : Tab) (n : Nat) (own : List Nat) (ih : List Item → List D → List AObj → List Bool → (Exit → St → Prop) → Prop) (todo : List Item) (s : List D) (H : List AObj) (bx : List Bool) (Q : Exit → St → Prop) : Prop :=
    match todo with
    | [] => Q .normal ⟨s, H⟩
    | .hyp I :: _ => I ⟨s, H⟩
    | .inBlock _ :: k => ih k s H bx Q
    | .code c :: k => match c with
      | .skip => ih k s H bx Q
      | .seq x y => ih (.code x :: .code y :: k) s H bx Q
      | .block id c => ih (.code c :: .inBlock id :: k) s H bx Q
      | .exit id => (match toExit id k with | some k' => ih k' s H bx Q | none => False)
      | .ret => Q .ret ⟨s, H⟩
      | .cond c x y => evK s c fun d => (match d with
        | .bool b => (match c with
          | .tmp t => boolF b (setK s t (.bool true) fun s => ih (.code x :: k) s H bx Q) (setK s t (.bool false) fun s => ih (.code y :: k) s H bx Q)
          | _ => boolF b (ih (.code x :: k) s H bx Q) (ih (.code y :: k) s H bx Q))
        | _ => False)
      | .region id ops false => runS P T n own ops.toList ops.toList s H bx fun s H bx => ih k s H bx Q
      | .region id ops true => runD P T n own ops.toList ops.toList s H bx [] fun s H bx recs => listK recs.reverse fun rs => PairK (pairsB [] 0 ops.toList rs) (ih k s H bx Q)
      | c => W P n (.code c :: k) ⟨s, H⟩ Q
    | todo => W P n todo ⟨s, H⟩ Q

def exec (P : Program) (T : Tab) (n : Nat) (own : List Nat) (fuel : Nat) : List Item → List D → List AObj → List Bool → (Exit → St → Prop) → Prop :=
  Nat.rec (motive := fun _ => List Item → List D → List AObj → List Bool → (Exit → St → Prop) → Prop) (fun todo s H bx Q => W P n todo ⟨s, H⟩ Q) (fun _ ih => exec1 P T n own ih) fuel

theorem exec_succ {P : Program} {T : Tab} {n : Nat} {own : List Nat} {fuel : Nat} {todo s H bx Q} : exec P T n own (fuel + 1) todo s H bx Q = exec1 P T n own (exec P T n own fuel) todo s H bx Q := rfl

theorem exec_ok {P : Program} {T : Tab} (hT : TOk P T) (hm : P.follows .mixedOrders = true) {n : Nat} {own : List Nat} : ∀ (fuel : Nat) {todo : List Item} {s : List D} {H : List AObj} {bx : List Bool} {Q : Exit → St → Prop},
    exec P T n own fuel todo s H bx Q → W P n todo ⟨s, H⟩ Q
  | 0, todo, s, H, bx, Q, h => h
  | fuel + 1, todo, s, H, bx, Q, h => by
    rw [exec_succ] at h
    unfold exec1 at h
    split at h
    · exact W_nil h
    · exact W_hyp h
    · exact W_inBlock (exec_ok hT hm fuel h)
    · split at h
      · exact W_skip (exec_ok hT hm fuel h)
      · exact W_seq (exec_ok hT hm fuel h)
      · exact W_block (exec_ok hT hm fuel h)
      · split at h
        · rename_i hx
          exact W_exit hx (exec_ok hT hm fuel h)
        · exact h.elim
      · exact W_ret h
      · replace h := evK_iff.mp h
        split at h
        · rename_i b hb
          split at h
          · rename_i t
            refine W_cond (b := b) hb (fun e => ?_) (fun e => ?_)
            · subst e
              replace h := setK_iff.mp h
              have hg : s[t]? = some (.bool true) := by
                simp only [ev] at hb
                split at hb
                · rename_i d hd
                  rw [hd, hb]
                · cases hb
              rw [slot_same hg] at h
              exact exec_ok hT hm fuel h
            · subst e
              replace h := setK_iff.mp h
              have hg : s[t]? = some (.bool false) := by
                simp only [ev] at hb
                split at hb
                · rename_i d hd
                  rw [hd, hb]
                · cases hb
              rw [slot_same hg] at h
              exact exec_ok hT hm fuel h
          · refine W_cond (b := b) hb (fun e => ?_) (fun e => ?_)
            · subst e
              exact exec_ok hT hm fuel h
            · subst e
              exact exec_ok hT hm fuel h
        · exact h.elim
      · refine W_region ?_
        exact runS_ok hT (fun s H bx hx => exec_ok hT hm fuel hx) (i := 0) (by simp) (by simp) h
      · exact W_draw hT hm (fun s H bx hx => exec_ok hT hm fuel hx) h
      · exact h
    · exact h

def resK1 (T : Tab) (s : List D) (H : List AObj) (r : ResultVar) (X : D → Prop) : Prop :=
  match r with
  | .tmp t => getK s t X
  | .cell a t => getK s a fun p => tyK T t fun td => match p with
    | .pe cs => cellsF td cs X
    | .p o ver i j => arrK H o ver fun _ rows => ∃ row, rows[i]? = some row ∧ dropK j row.cells fun cs => cellsF td cs X
    | _ => False

theorem resK1_ok {T : Tab} {s : List D} {H : List AObj} {r : ResultVar} {X : D → Prop} (h : resK1 T s H r X) : ∃ d, resD1 T ⟨s, H⟩ r = some d ∧ X d := by
  cases r with
  | tmp t => exact ⟨_, rfl, getK_iff.mp h⟩
  | cell a t =>
    replace h := getK_iff.mp h
    obtain ⟨td, ht, h⟩ := tyK_iff.mp h
    have key : ∀ cs d, ptrCells H (ev s (.tmp a)) = some cs → ((td.k.isAgg = true ∧ td.size ≤ cs.length ∧ d = .agg (cs.take td.size)) ∨ (td.k.isAgg = false ∧ ∃ r, cs = d :: r)) → resD1 T ⟨s, H⟩ (.cell a t) = some d := fun cs d h1 h2 => by
      simp only [resD1, ht, h1]
      rcases h2 with ⟨k1, k2, rfl⟩ | ⟨k1, r, rfl⟩
      · rw [if_pos k1, if_pos k2]
      · rw [if_neg (by simp [k1])]; rfl
    split at h
    · rename_i cs hp
      obtain ⟨d, h1, h2⟩ := cellsF_ok h
      exact ⟨d, key cs d (by rw [hp]; rfl) h2, h1⟩
    · rename_i o ver i j hp
      obtain ⟨sz, rows, h1, row, h2, h3⟩ := arrK_ok h
      obtain ⟨d, h4, h5⟩ := cellsF_ok (dropK_iff.mp h3)
      refine ⟨d, key (row.cells.drop j) d ?_ h5, h4⟩
      rw [hp]
      simp [ptrCells, h1, h2]
    · exact h.elim

def resK (T : Tab) (s : List D) (H : List AObj) : List ResultVar → (List D → Prop) → Prop
  | [], X => X []
  | r :: rs, X => resK1 T s H r fun d => resK T s H rs fun ds => X (d :: ds)

theorem resK_ok {T : Tab} {s : List D} {H : List AObj} : ∀ {rs : List ResultVar} {X : List D → Prop}, resK T s H rs X → ∃ ds, resD T ⟨s, H⟩ rs = some ds ∧ X ds
  | [], X, h => ⟨[], rfl, h⟩
  | r :: rs, X, h => by
    obtain ⟨d, h1, h2⟩ := resK1_ok h
    obtain ⟨ds, h3, h4⟩ := resK_ok h2
    exact ⟨d :: ds, by simp [resD, h1, h3], h4⟩

def oneK (ds : List D) (X : D → Prop) : Prop :=
  match ds with
  | [d] => X d
  | ds => X (.tup ds)

/-- What a call came to. -/
structure Done (R : D → List AObj → Prop) (r : D) (H : List AObj) : Prop where
  out : R r H

def retX (T : Tab) (rs : List ResultVar) (R : D → List AObj → Prop) (e : Exit) (st : St) : Prop :=
  match e with
  | .normal => resK T st.slots st.H rs fun ds => oneK ds fun r => Done R r st.H
  | .ret => resK T st.slots st.H rs fun ds => oneK ds fun r => Done R r st.H
  | _ => False

theorem retX_ok {T : Tab} {rs : List ResultVar} {R : D → List AObj → Prop} {e : Exit} {st : St} (h : retX T rs R e st) : retQ T rs R e st := by
  have key : (resK T st.slots st.H rs fun ds => oneK ds fun r => Done R r st.H) → ∃ ds, resD T st rs = some ds ∧ R (oneD ds) st.H := fun h => by
    obtain ⟨ds, h1, h2⟩ := resK_ok h
    refine ⟨ds, h1, ?_⟩
    match ds, h2 with
    | [], h2 => exact h2.out
    | [d], h2 => exact h2.out
    | _ :: _ :: _, h2 => exact h2.out
  cases e with
  | normal => exact key h
  | ret => exact key h
  | _ => exact h.elim

def TabAll (P : Program) : Tab → Prop
  | [] => True
  | x :: l => TDOk P x.1 x.2 ∧ TabAll P l

theorem Tab.ok {P : Program} : ∀ {T : Tab}, TabAll P T → TOk P T
  | [], _, t, td, h => by simp [Tab.get] at h
  | x :: l, hh, t, td, h => by
    simp only [Tab.get] at h
    split at h
    · rename_i e
      cases h
      subst e
      exact hh.1
    · exact Tab.ok hh.2 t td h

def repK : Nat → (List D → Prop) → Prop
  | 0, X => X []
  | n + 1, X => repK n fun l => X (.tup [] :: l)

theorem repK_iff : ∀ {n : Nat} {X : List D → Prop}, repK n X ↔ X (List.replicate n (.tup []))
  | 0, X => by simp [repK]
  | n + 1, X => by
    simp only [repK]
    rw [repK_iff (n := n)]
    simp [List.replicate_succ]

def padK : List D → Nat → (List D → Prop) → Prop
  | [], n, X => repK n X
  | a :: as, n, X => padK as (n - 1) fun l => X (a :: l)

theorem padK_iff : ∀ {as : List D} {n : Nat} {X : List D → Prop}, padK as n X ↔ X (as ++ List.replicate (n - as.length) (.tup []))
  | [], n, X => by simp only [padK, repK_iff]; simp
  | a :: as, n, X => by
    simp only [padK]
    rw [padK_iff (as := as) (n := n - 1)]
    have : n - 1 - as.length = n - (a :: as).length := by simp; omega
    rw [this]
    simp

theorem CallsIn.of_exec {P : Program} {T : Tab} (hT : TOk P T) (hm : P.follows .mixedOrders = true) {f : FuncId} {fn : Func} {c : Code} {args : List D} {H : List AObj} {R : D → List AObj → Prop}
    (hf : P.funcs[f]? = some fn) (hb : fn.body = some c) (hn : (fn.name == "runtime.NumGoroutine") = false) (own : List Nat) (bx : List Bool)
    (h : padK args fn.ntmps fun s => lenK H 0 fun n => exec P T n own 1000000 [.code c] s H bx (retX T fn.results.toList R)) : CallsIn P f args H R := by
  replace h := lenK_iff.mp (padK_iff.mp h)
  rw [Nat.zero_add] at h
  exact CallsIn.of_body hT hf hb hn (fun e s hq => retX_ok hq) (exec_ok hT hm _ h)

end Go.A
