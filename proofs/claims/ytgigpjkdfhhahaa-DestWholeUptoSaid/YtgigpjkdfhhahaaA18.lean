/- A logic of abstract states, part 18: regions gone through by computing. -/
import Derived.Test.YtgigpjkdfhhahaaA17
namespace Go.A
set_option linter.unusedVariables false
set_option linter.unusedSimpArgs false

def getSK : List D → Nat → (D → Prop) → Prop
  | [], _, _ => False
  | d :: _, 0, X => X d
  | _ :: l, n + 1, X => getSK l n X

theorem getSK_ok : ∀ {s : List D} {t : Nat} {X : D → Prop}, getSK s t X → ∃ d, s[t]? = some d ∧ X d
  | [], _, X, h => h.elim
  | d :: _, 0, X, h => ⟨d, rfl, h⟩
  | _ :: l, n + 1, X, h => by
    obtain ⟨d, h1, h2⟩ := getSK_ok (s := l) h
    exact ⟨d, by simpa using h1, h2⟩

def setK {α : Type} : List α → Nat → α → (List α → Prop) → Prop
  | [], _, _, X => X []
  | _ :: l, 0, d, X => X (d :: l)
  | x :: l, n + 1, d, X => setK l n d fun l => X (x :: l)

theorem setK_iff {α : Type} : ∀ {l : List α} {n : Nat} {d : α} {X : List α → Prop}, setK l n d X ↔ X (l.set n d)
  | [], _, _, X => by simp [setK]
  | _ :: l, 0, d, X => by simp [setK]
  | x :: l, n + 1, d, X => by simp only [setK]; rw [setK_iff (l := l)]; simp

def putK (s : List D) (dst : Option Tmp) (d : D) (X : List D → Prop) : Prop :=
  match dst with
  | some t => setK s t d X
  | none => X s

theorem putK_iff {s : List D} {dst : Option Tmp} {d : D} {X : List D → Prop} : putK s dst d X ↔ X (putD s dst d) := by
  cases dst with
  | none => exact Iff.rfl
  | some t => exact setK_iff

def getO : List Oper → Nat → Option Oper
  | [], _ => none
  | o :: _, 0 => some o
  | _ :: l, n + 1 => getO l n

theorem getO_eq : ∀ (l : List Oper) (n : Nat), getO l n = l[n]?
  | [], _ => by simp [getO]
  | _ :: _, 0 => by simp [getO]
  | _ :: l, n + 1 => by simp only [getO]; rw [getO_eq l n]; simp

/-- Is the operation wanted. -/
def guardF (ops : List Oper) (o : Oper) (s : List D) (Xt Xf : List D → Prop) : Prop :=
  match o.guard with
  | none => Xt s
  | some (j, want) => match getO ops j with
    | none => Xf s
    | some oj => match oj.dst with
      | none => Xf s
      | some t => getSK s t fun d => match d with
        | .bool b => boolF b (setK s t (.bool true) fun s => match want with | true => Xt s | false => Xf s) (setK s t (.bool false) fun s => match want with | true => Xf s | false => Xt s)
        | .tup _ => Xf s
        | _ => False

def tmpOf : Operand → Option Nat
  | .tmp t => some t
  | _ => none

def tmpsOf : List Operand → List Nat
  | [] => []
  | .tmp t :: l => t :: tmpsOf l
  | _ :: l => tmpsOf l

theorem tmpsOf_mem {t : Nat} : ∀ {l : List Operand}, Operand.tmp t ∈ l → t ∈ tmpsOf l
  | [], h => by simp at h
  | x :: l, h => by
    rcases List.mem_cons.mp h with rfl | h
    · simp [tmpsOf]
    · have := tmpsOf_mem h
      cases x <;> simp [tmpsOf, this]

def guardT (ops : List Oper) (o : Oper) : List Nat :=
  match o.guard with
  | none => []
  | some (j, _) => match getO ops j with
    | none => []
    | some oj => match oj.dst with
      | none => []
      | some t => [t]

def looksF (ops : List Oper) (o : Oper) : List Nat := guardT ops o ++ tmpsOf o.op.operands.toList

theorem slot_same {s : List D} {t : Nat} {d : D} (h : s[t]? = some d) : s.set t d = s := by
  obtain ⟨h1, h2⟩ := List.getElem?_eq_some_iff.mp h
  subst h2
  exact List.set_getElem_self h1

theorem guardF_ok {ops : Array Oper} {o : Oper} {s : List D} {Xt Xf : List D → Prop} (h : guardF ops.toList o s Xt Xf) :
    (Xt s ∧ ∀ (s' : List D) (H' : List AObj) (Kt Kf : Prop), (∀ t ∈ guardT ops.toList o, s'[t]? = s[t]?) → Kt → wantK ops o ⟨s', H'⟩ Kt Kf) ∨
    (Xf s ∧ ∀ (s' : List D) (H' : List AObj) (Kt Kf : Prop), (∀ t ∈ guardT ops.toList o, s'[t]? = s[t]?) → Kf → wantK ops o ⟨s', H'⟩ Kt Kf) := by
  unfold guardF at h
  unfold guardT wantK
  split at h
  · rename_i hg
    rw [hg]
    exact .inl ⟨h, fun s' H' Kt Kf _ k => k⟩
  · rename_i j want hg
    rw [hg]
    have ej : getO ops.toList j = ops[j]? := by rw [getO_eq]; simp
    rw [ej] at h ⊢
    split at h
    · rename_i hj
      simp only [hj, Option.bind_none]
      exact .inr ⟨h, fun s' H' Kt Kf _ k => k⟩
    · rename_i oj hj
      simp only [hj]
      split at h
      · rename_i hd
        simp only [Option.bind_some, hd]
        exact .inr ⟨h, fun s' H' Kt Kf _ k => k⟩
      · rename_i t hd
        simp only [Option.bind_some, hd]
        obtain ⟨d, h1, h2⟩ := getSK_ok h
        split at h2
        · rename_i b
          rcases boolF_ok h2 with ⟨rfl, h3⟩ | ⟨rfl, h3⟩
          · rw [setK_iff, slot_same h1] at h3
            cases want with
            | true =>
              refine .inl ⟨h3, fun s' H' Kt Kf hs k => ?_⟩
              rw [hs t (by simp), h1]
              exact ⟨fun _ => k, fun e => by cases e⟩
            | false =>
              refine .inr ⟨h3, fun s' H' Kt Kf hs k => ?_⟩
              rw [hs t (by simp), h1]
              exact ⟨fun e => (by cases e), fun _ => k⟩
          · rw [setK_iff, slot_same h1] at h3
            cases want with
            | true =>
              refine .inr ⟨h3, fun s' H' Kt Kf hs k => ?_⟩
              rw [hs t (by simp), h1]
              exact ⟨fun e => (by cases e), fun _ => k⟩
            | false =>
              refine .inl ⟨h3, fun s' H' Kt Kf hs k => ?_⟩
              rw [hs t (by simp), h1]
              exact ⟨fun _ => k, fun e => (by cases e)⟩
        · refine .inr ⟨h2, fun s' H' Kt Kf hs k => ?_⟩
          rw [hs t (by simp), h1]
          exact k
        · exact h2.elim

def succK : Nat → (Nat → Prop) → Prop
  | 0, X => X 1
  | 1, X => X 2
  | 2, X => X 3
  | 3, X => X 4
  | 4, X => X 5
  | 5, X => X 6
  | 6, X => X 7
  | 7, X => X 8
  | 8, X => X 9
  | 9, X => X 10
  | 10, X => X 11
  | 11, X => X 12
  | 12, X => X 13
  | 13, X => X 14
  | 14, X => X 15
  | 15, X => X 16
  | 16, X => X 17
  | 17, X => X 18
  | 18, X => X 19
  | n, X => X (n + 1)

theorem succK_iff {n : Nat} {X : Nat → Prop} : succK n X ↔ X (n + 1) := by
  unfold succK
  split <;> exact Iff.rfl

def lenK {α : Type} : List α → Nat → (Nat → Prop) → Prop
  | [], n, X => X n
  | _ :: l, n, X => succK n fun n => lenK l n X

theorem lenK_iff {α : Type} : ∀ {l : List α} {n : Nat} {X : Nat → Prop}, lenK l n X ↔ X (n + l.length)
  | [], _, _ => Iff.rfl
  | x :: l, n, X => by
    simp only [lenK, succK_iff]
    rw [lenK_iff (l := l)]
    have : n + 1 + l.length = n + (x :: l).length := by simp; omega
    rw [this]

def snocK {α : Type} : List α → α → (List α → Prop) → Prop
  | [], y, X => X [y]
  | x :: l, y, X => snocK l y fun l => X (x :: l)

theorem snocK_iff {α : Type} : ∀ {l : List α} {y : α} {X : List α → Prop}, snocK l y X ↔ X (l ++ [y])
  | [], _, _ => Iff.rfl
  | x :: l, y, X => by simp only [snocK]; rw [snocK_iff (l := l)]; simp

def bxK : List Bool → Nat → Bool → (List Bool → Prop) → Prop
  | [], 0, b, X => X [b]
  | [], n + 1, b, X => bxK [] n b fun l => X (false :: l)
  | _ :: l, 0, b, X => X (b :: l)
  | x :: l, n + 1, b, X => bxK l n b fun l => X (x :: l)

theorem bxK_ok : ∀ {l : List Bool} {n : Nat} {b : Bool} {X : List Bool → Prop}, bxK l n b X → ∃ l', X l'
  | [], 0, b, X, h => ⟨_, h⟩
  | [], n + 1, b, X, h => by
    obtain ⟨l', h'⟩ := bxK_ok (l := []) (n := n) h
    exact ⟨_, h'⟩
  | _ :: l, 0, b, X, h => ⟨_, h⟩
  | x :: l, n + 1, b, X, h => by
    obtain ⟨l', h'⟩ := bxK_ok (l := l) (n := n) h
    exact ⟨_, h'⟩

def isP : D → Bool
  | .p _ _ _ _ => true
  | _ => false

def ownAt (own : List Nat) (dst : Option Tmp) : Bool :=
  match dst with
  | some t => memB t own
  | none => false

/-- Are all there. -/
def allIn (H : List AObj) : List Nat → Bool
  | [] => true
  | o :: l => match H[o]? with
    | some _ => allIn H l
    | none => false

theorem allIn_ok {H : List AObj} : ∀ {l : List Nat}, allIn H l = true → ∀ o ∈ l, o < H.length
  | [], _, o, h => by simp at h
  | x :: l, h, o, ho => by
    simp only [allIn] at h
    split at h
    · rename_i hx
      rcases List.mem_cons.mp ho with rfl | ho
      · exact (List.getElem?_eq_some_iff.mp hx).1
      · exact allIn_ok h o ho
    · cases h

/-- What a call does, wherever what it looks at is alike. -/
structure CallsLoc (P : Program) (g : FuncId) (args : List D) (H : List AObj) (rv : D) (rd : List Nat) (ups : List (Nat × AObj)) : Prop where
  sub : ∀ o ∈ dom ups, o ∈ rd
  inr : ∀ o ∈ rd, o < H.length
  calls : ∀ H' : List AObj, (∀ o ∈ rd, H'[o]? = H[o]?) → CallsIn P g args H' fun r H'' => r = rv ∧ H'' = upds H' ups

def updsK : List AObj → List (Nat × AObj) → (List AObj → Prop) → Prop
  | H, [], X => X H
  | H, x :: u, X => setK H x.1 x.2 fun H => updsK H u X

theorem updsK_iff : ∀ {u : List (Nat × AObj)} {H : List AObj} {X : List AObj → Prop}, updsK H u X ↔ X (upds H u)
  | [], _, _ => Iff.rfl
  | x :: u, H, X => by simp only [updsK, setK_iff, upds]; exact updsK_iff (u := u)

/-- What a call does that answers what is new, put where a place was kept. -/
structure CallsNew (P : Program) (g : FuncId) (args : List D) (H : List AObj) (sz : Nat) (rows : List D) (mk : Nat → Nat → D) (rd : List Nat) : Prop where
  inr : ∀ o ∈ rd, o < H.length
  calls : ∀ (H' : List AObj) (o : Nat), (∀ x ∈ rd, H'[x]? = H[x]?) → H'[o]? = some (.arr 0 0 []) → CallsIn P g args H' fun r H'' => r = mk o 1 ∧ H'' = H'.set o (.arr 1 sz rows)

/-- A call in a drawn region. -/
structure LocK (P : Program) (g : FuncId) (args : List D) (H : List AObj) (bx : List Bool) (X : D → List Nat → List (Nat × AObj) → List AObj → List Bool → Prop) : Prop where
  out : (∃ rv rd ups, CallsLoc P g args H rv rd ups ∧ updsK H ups fun H' => X rv rd ups H' bx) ∨
    (∃ sz rows mk rd, CallsNew P g args H sz rows mk rd ∧ lenK H 0 fun o => snocK H (.arr 1 sz rows) fun H' => bxK bx o (isP (mk 0 0)) fun bx => X (mk o 1) (o :: rd) [(o, .arr 1 sz rows)] H' bx)

def plainD (T : Tab) (cf : Cf) (bx : List Bool) (op : Op) (s : List D) (H : List AObj) (X : D → List Nat → List (Nat × AObj) → List AObj → List Bool → Prop) : Prop :=
  opF T cf bx op s H fun r => match r with
  | .val d rd => boolK (allIn H rd) (X d rd [] H bx)
  | .upd d rd o ob => boolK (allIn H (o :: rd)) (setK H o ob fun H' => X d (o :: rd) [(o, ob)] H' bx)
  | .new sz rows mk rd => boolK (allIn H rd) (lenK H 0 fun o => snocK H (.arr 1 sz rows) fun H' => bxK bx o (isP (mk 0 0)) fun bx => X (mk o 1) (o :: rd) [(o, .arr 1 sz rows)] H' bx)
  | .newMap => False

def doD (P : Program) (T : Tab) (cf : Cf) (bx : List Bool) (o : Oper) (s : List D) (H : List AObj) (X : D → List Nat → List (Nat × AObj) → List AObj → List Bool → Prop) : Prop :=
  match o.op with
  | .call c => match c.callee with
    | .value f => evK s f fun f => match f with
      | .fn g caps => evsK s c.args.toList fun args => listK (args ++ caps) fun args => LocK P g args H bx X
      | _ => False
    | _ => plainD T cf bx o.op s H X
  | _ => plainD T cf bx o.op s H X

abbrev ph : AObj := .arr 0 0 []

theorem rep_get {H : List AObj} {k : Nat} {tail : List AObj} : (H ++ List.replicate (k + 1) ph ++ tail)[H.length]? = some ph := by
  rw [List.append_assoc, List.getElem?_append_right (Nat.le_refl _), List.getElem?_append_left (by simp)]
  simp

theorem rep_set {H : List AObj} {k : Nat} {tail : List AObj} {ob : AObj} : (H ++ List.replicate (k + 1) ph ++ tail).set H.length ob = (H ++ [ob]) ++ List.replicate k ph ++ tail := by
  rw [List.append_assoc, List.set_append_right _ _ (Nat.le_refl _), List.replicate_succ]
  simp

theorem doD_ok {P : Program} {T : Tab} {cf : Cf} {bx : List Bool} {o : Oper} {s : List D} {H : List AObj} {X : D → List Nat → List (Nat × AObj) → List AObj → List Bool → Prop} (h : doD P T cf bx o s H X) :
    ∃ d rds ups H1 bx1 k, X d rds ups H1 bx1 ∧ H1.length = H.length + k ∧ (∀ x ∈ dom ups, x ∈ rds) ∧ ∀ tail, (∀ j, upds (H ++ List.replicate (k + j) ph ++ tail) ups = H1 ++ List.replicate j ph ++ tail ∧
      ∃ hd : Hd, hd.n = cf.n ∧ ∀ (s' : List D) (H' : List AObj) (K : St → Prop), (∀ x ∈ o.op.operands.toList, ev s' x = ev s x) → (∀ o ∈ rds, H'[o]? = (H ++ List.replicate (k + j) ph ++ tail)[o]?) → K ⟨putD s' o.dst d, upds H' ups⟩ → doK P T hd o ⟨s', H'⟩ K) := by
  have old : ∀ (j : Nat) (tail : List AObj) (o : Nat), o < H.length → (H ++ List.replicate j ph ++ tail)[o]? = H[o]? := fun j tail o ho => by
    rw [List.append_assoc, List.getElem?_append_left ho]
  have plain : (∀ c f, o.op = .call c → c.callee ≠ .value f) → plainD T cf bx o.op s H X → ∃ d rds ups H1 bx1 k, X d rds ups H1 bx1 ∧ H1.length = H.length + k ∧ (∀ x ∈ dom ups, x ∈ rds) ∧ ∀ tail, (∀ j, upds (H ++ List.replicate (k + j) ph ++ tail) ups = H1 ++ List.replicate j ph ++ tail ∧
      ∃ hd : Hd, hd.n = cf.n ∧ ∀ (s' : List D) (H' : List AObj) (K : St → Prop), (∀ x ∈ o.op.operands.toList, ev s' x = ev s x) → (∀ o ∈ rds, H'[o]? = (H ++ List.replicate (k + j) ph ++ tail)[o]?) → K ⟨putD s' o.dst d, upds H' ups⟩ → doK P T hd o ⟨s', H'⟩ K) := fun hno h => by
    have toDo : ∀ hd s' H' K, opK T hd o.op (ev s') H' (fun d H' => K ⟨putD s' o.dst d, H'⟩) → doK P T hd o ⟨s', H'⟩ K := fun hd s' H' K hk => by
      unfold doK
      split
      · rename_i c hc
        split
        · rename_i f hf
          exact absurd hf (hno c f hc)
        · exact hk
      · exact hk
    obtain ⟨r, h1, h2⟩ := opF_ok h
    split at h1
    · rename_i d rd
      obtain ⟨c1, h1⟩ := boolK_iff.mp h1
      have hin := allIn_ok c1
      refine ⟨d, rd, [], H, bx, 0, h1, rfl, fun x hx => by simp [dom] at hx, fun tail j => ⟨by simp only [upds, Nat.zero_add], ⟨cf.own, none, cf.n⟩, rfl, fun s' H' K hs hH hK => toDo _ _ _ _ ?_⟩⟩
      exact h2 s' H' none _ hs (fun o ho => (hH o ho).trans (old _ _ o (hin o ho))) hK
    · rename_i d rd o' ob
      obtain ⟨c1, h1⟩ := boolK_iff.mp h1
      have hin := allIn_ok c1
      replace h1 := setK_iff.mp h1
      refine ⟨d, o' :: rd, [(o', ob)], H.set o' ob, bx, 0, h1, by simp, fun x hx => by simp [dom] at hx; simp [hx], fun tail j => ⟨?_, ⟨cf.own, none, cf.n⟩, rfl, fun s' H' K hs hH hK => toDo _ _ _ _ ?_⟩⟩
      · simp only [upds, Nat.zero_add]
        rw [List.append_assoc, List.set_append_left _ _ (hin o' (by simp)), List.append_assoc]
      · exact h2 s' H' none _ hs (fun o ho => (hH o ho).trans (old _ _ o (hin o ho))) hK
    · rename_i sz rows mk rd
      obtain ⟨c1, h1⟩ := boolK_iff.mp h1
      have hin := allIn_ok c1
      replace h1 := snocK_iff.mp (lenK_iff.mp h1)
      rw [Nat.zero_add] at h1
      obtain ⟨bx', h1⟩ := bxK_ok h1
      refine ⟨_, _, _, _, bx', 1, h1, by simp, fun x hx => by simp [dom] at hx; simp [hx], fun tail j => ⟨?_, ⟨cf.own, some H.length, cf.n⟩, rfl, fun s' H' K hs hH hK => toDo _ _ _ _ ?_⟩⟩
      · simp only [upds]
        rw [Nat.add_comm 1 j]
        exact rep_set
      · refine h2 s' H' (some H.length) _ hs (fun o ho => (hH o (List.mem_cons_of_mem _ ho)).trans (old _ _ o (hin o ho))) ?_
        refine ⟨?_, hK⟩
        rw [hH H.length (List.mem_cons_self ..), Nat.add_comm 1 j]
        exact rep_get
    · exact h1.elim
  unfold doD at h
  split at h
  · rename_i c hc
    split at h
    · rename_i f hf
      replace h := evK_iff.mp h
      split at h
      · rename_i g caps hg
        replace h := listK_iff.mp (evsK_iff.mp h)
        rcases h.out with ⟨rv, rd, ups, hl, h⟩ | ⟨sz, rows, mk, rd, hl, h⟩
        · replace h := updsK_iff.mp h
          refine ⟨rv, rd, ups, _, bx, 0, h, by rw [upds_length]; rfl, hl.sub, fun tail j => ⟨?_, { n := cf.n }, rfl, fun s' H' K hs hH hK => ?_⟩⟩
          · have : ∀ (u : List (Nat × AObj)) (H : List AObj), (∀ o ∈ dom u, o < H.length) → upds (H ++ List.replicate j ph ++ tail) u = upds H u ++ List.replicate j ph ++ tail := fun u => by
              induction u with
              | nil => intro H _; rfl
              | cons x u ih =>
                intro H hx
                simp only [upds]
                rw [List.append_assoc, List.set_append_left _ _ (hx x.1 (by simp [dom])), ← List.append_assoc]
                exact ih _ fun o ho => by simp only [List.length_set]; exact hx o (by simp [dom] at ho ⊢; exact .inr ho)
            rw [Nat.zero_add]
            exact this ups H fun o ho => hl.inr o (hl.sub o ho)
          · unfold doK
            simp only [hc, hf]
            rw [hs f (by simp [hc, Op.operands, Call.operands, hf]), hg]
            have ea : c.args.toList.map (ev s') = c.args.toList.map (ev s) := args_eq fun x hx => hs x (by simp [hc, Op.operands, Call.operands, hf]; right; simpa using hx)
            rw [ea]
            refine (hl.calls H' fun o ho => (hH o ho).trans (old _ _ o (hl.inr o ho))).mono ?_
            rintro r H'' ⟨rfl, rfl⟩
            exact hK
        · replace h := snocK_iff.mp (lenK_iff.mp h)
          rw [Nat.zero_add] at h
          obtain ⟨bx', h⟩ := bxK_ok h
          refine ⟨_, _, _, _, bx', 1, h, by simp, fun x hx => by simp [dom] at hx; simp [hx], fun tail j => ⟨?_, { n := cf.n }, rfl, fun s' H' K hs hH hK => ?_⟩⟩
          · simp only [upds]
            rw [Nat.add_comm 1 j]
            exact rep_set
          · unfold doK
            simp only [hc, hf]
            rw [hs f (by simp [hc, Op.operands, Call.operands, hf]), hg]
            have ea : c.args.toList.map (ev s') = c.args.toList.map (ev s) := args_eq fun x hx => hs x (by simp [hc, Op.operands, Call.operands, hf]; right; simpa using hx)
            rw [ea]
            refine (hl.calls H' H.length (fun o ho => (hH o (List.mem_cons_of_mem _ ho)).trans (old _ _ o (hl.inr o ho))) (by rw [hH H.length (List.mem_cons_self ..), Nat.add_comm 1 j]; exact rep_get)).mono ?_
            rintro r H'' ⟨rfl, rfl⟩
            exact hK
      · exact h.elim
    · rename_i hne
      refine plain (fun c' f hc' hf => ?_) h
      rw [hc] at hc'; cases hc'
      exact hne f hf
  · rename_i hne
    exact plain (fun c' f hc' hf => hne c' hc') h

def runD1 (P : Program) (T : Tab) (n : Nat) (own : List Nat) (all : List Oper) (o : Oper) (ih : List D → List AObj → List Bool → List Rec → (List D → List AObj → List Bool → List Rec → Prop) → Prop) (s : List D) (H : List AObj) (bx : List Bool) (acc : List Rec) (X : List D → List AObj → List Bool → List Rec → Prop) : Prop :=
  guardF all o s
    (fun s => doD P T ⟨ownAt own o.dst, n⟩ bx o s H fun d rds ups H bx => listK (looksF all o) fun lk => putK s o.dst d fun s => ih s H bx (⟨o.dst, d, lk, rds, ups⟩ :: acc) X)
    (fun s => listK (looksF all o) fun lk => putK s o.dst (.tup []) fun s => ih s H bx (⟨o.dst, .tup [], lk, [], []⟩ :: acc) X)

/-- All of them, in their order (by the recursor itself: the kernel and the tactics see the same terms). -/
def runD (P : Program) (T : Tab) (n : Nat) (own : List Nat) (all : List Oper) (rest : List Oper) : List D → List AObj → List Bool → List Rec → (List D → List AObj → List Bool → List Rec → Prop) → Prop :=
  List.rec (motive := fun _ => List D → List AObj → List Bool → List Rec → (List D → List AObj → List Bool → List Rec → Prop) → Prop) (fun s H bx acc X => X s H bx acc) (fun o _ ih => runD1 P T n own all o ih) rest

theorem runD_cons {P : Program} {T : Tab} {n : Nat} {own : List Nat} {all : List Oper} {o : Oper} {rest : List Oper} {s H bx acc X} : runD P T n own all (o :: rest) s H bx acc X = guardF all o s
    (fun s => doD P T ⟨ownAt own o.dst, n⟩ bx o s H fun d rds ups H bx => listK (looksF all o) fun lk => putK s o.dst d fun s => runD P T n own all rest s H bx (⟨o.dst, d, lk, rds, ups⟩ :: acc) X)
    (fun s => listK (looksF all o) fun lk => putK s o.dst (.tup []) fun s => runD P T n own all rest s H bx (⟨o.dst, .tup [], lk, [], []⟩ :: acc) X) := rfl

theorem ev_agree {s s' : List D} {l : List Operand} (h : ∀ t ∈ tmpsOf l, s'[t]? = s[t]?) : ∀ x ∈ l, ev s' x = ev s x := fun x hx => by
  cases x with
  | tmp t =>
    simp only [ev]
    rw [h t (tmpsOf_mem hx)]
  | _ => rfl

theorem runD_ok {P : Program} {T : Tab} {n : Nat} {own : List Nat} {ops : Array Oper} : ∀ {rest : List Oper} {i : Nat} {s : List D} {H : List AObj} {bx : List Bool} {acc : List Rec} {X : List D → List AObj → List Bool → List Rec → Prop},
    ops.toList.drop i = rest → runD P T n own ops.toList rest s H bx acc X →
    ∃ rs s' H' bx' k, X s' H' bx' (rs.reverse ++ acc) ∧ H'.length = H.length + k ∧ ∀ j tail, Chain P T n ops i s (H ++ List.replicate (k + j) ph ++ tail) rs s' (H' ++ List.replicate j ph ++ tail)
  | [], i, s, H, bx, acc, X, hd, h => ⟨[], s, H, bx, 0, h, rfl, fun j tail => by rw [Nat.zero_add]; exact .nil⟩
  | o :: rest, i, s, H, bx, acc, X, hd, h => by
    have hi : ops[i]? = some o := by
      have : (ops.toList.drop i)[0]? = some o := by rw [hd]; rfl
      simpa using this
    have hd' : ops.toList.drop (i + 1) = rest := by
      rw [← List.drop_drop, hd]; rfl
    rw [runD_cons] at h
    rcases guardF_ok h with ⟨h1, h2⟩ | ⟨h1, h2⟩
    · obtain ⟨d, rds, ups, H1, bx1, k1, h3, h4, h5, h6⟩ := doD_ok h1
      replace h3 := putK_iff.mp (listK_iff.mp h3)
      obtain ⟨rs, s', H', bx', k, m1, m2, m3⟩ := runD_ok hd' h3
      refine ⟨_ :: rs, s', H', bx', k1 + k, by simpa using m1, by omega, fun j tail => ?_⟩
      have m4 := m3 j tail
      obtain ⟨q1, hd, hdn, q2⟩ := h6 tail (k + j)
      refine .cons (r := ⟨o.dst, d, looksF ops.toList o, rds, ups⟩) ⟨hd, hdn, fun s2 H2 K l1 l2 l3 l4 hK => ?_⟩ h5 ?_
      · unfold stepK
        rw [hi]
        refine h2 s2 H2 _ _ (fun t ht => l3 t (by simp [looksF, ht])) ?_
        refine q2 s2 H2 K (ev_agree fun t ht => l3 t (by simp [looksF, ht])) (fun o ho => ?_) ?_
        · rw [l4 o ho, Nat.add_assoc]
        · rw [← Rec.put] at hK
          exact hK
      · rw [← Rec.put, Nat.add_assoc, q1]
        exact m4
    · replace h1 := putK_iff.mp (listK_iff.mp h1)
      obtain ⟨rs, s', H', bx', k, m1, m2, m3⟩ := runD_ok hd' h1
      refine ⟨_ :: rs, s', H', bx', k, by simpa using m1, m2, fun j tail => ?_⟩
      have m4 := m3 j tail
      refine .cons (r := ⟨o.dst, .tup [], looksF ops.toList o, [], []⟩) ⟨{ n := n }, rfl, fun s2 H2 K l1 l2 l3 l4 hK => ?_⟩ (fun k hk => by simp [dom] at hk) ?_
      · unfold stepK
        rw [hi]
        refine h2 s2 H2 _ _ (fun t ht => l3 t (by simp [looksF, ht])) ?_
        rw [← Rec.put] at hK
        exact hK
      · rw [← Rec.put]
        exact m4

end Go.A
