/- A logic of abstract states, part 13: operations gone through by computing. -/
import Derived.Test.YtgigpjkdfhhahaaA12
namespace Go.A
set_option linter.unusedVariables false
set_option linter.unusedSimpArgs false

def getK : List D → Nat → (D → Prop) → Prop
  | [], _, X => X (.tup [])
  | d :: _, 0, X => X d
  | _ :: l, n + 1, X => getK l n X

theorem getK_iff : ∀ {s : List D} {t : Nat} {X : D → Prop}, getK s t X ↔ X (ev s (.tmp t))
  | [], _, X => by simp [getK, ev]
  | d :: _, 0, X => by simp [getK, ev]
  | _ :: l, n + 1, X => by
    simp only [getK]
    rw [getK_iff (s := l)]
    simp [ev]

def kU : IntKind → Bool
  | .u8 | .u16 | .u32 | .u64 => true
  | _ => false

/-- An equation that is asked. -/
structure IsE {α : Type} (a b : α) : Prop where
  eq : a = b

def litTab : List Nat := [0, 1, 2, 3, 4, 5, 6, 7, 8, 9, 10, 13, 16, 17, 24, 32, 40, 87, 97, 98, 99, 100, 101, 105, 107, 112, 120, 255, 256, 700, 65521, 65535, 65536, 300286872, 1784767339, 4294967296]

def findL : List Nat → Nat → (Nat → Prop) → Prop
  | [], m, X => X m
  | c :: l, m, X => match Nat.beq c m with
    | true => X c
    | false => findL l m X

theorem findL_iff : ∀ {l : List Nat} {m : Nat} {X : Nat → Prop}, findL l m X ↔ X m
  | [], _, _ => Iff.rfl
  | c :: l, m, X => by
    simp only [findL]
    split
    · rename_i h
      rw [Nat.eq_of_beq_eq_true h]
    · exact findL_iff (l := l)

def litK (k : IntKind) (n : Int) (X : Int → Prop) : Prop :=
  match kU k with
  | true => (match n with
    | .ofNat m => findL litTab m fun c => X (c : Int)
    | n => X n)
  | false => X n

theorem litK_iff {k : IntKind} {n : Int} {X : Int → Prop} : litK k n X ↔ X n := by
  unfold litK
  split
  · split
    · exact findL_iff
    · exact Iff.rfl
  · exact Iff.rfl

def constK : Value → (D → Prop) → Prop
  | .bool b, X => X (.bool b)
  | .int k n, X => litK k n fun n => X (.int k n)
  | .string s, X => X (.str s)
  | .slice none 0 0, X => X .nils
  | .pointer none, X => X .pnil
  | .nilFunc, X => X .fnil
  | .nilIface, X => X .inil
  | .map none, X => X .mnil
  | v, X => X (cD v)

theorem constK_iff {v : Value} {X : D → Prop} : constK v X ↔ X (cD v) := by
  unfold constK
  split <;> first | exact litK_iff | rfl | exact Iff.rfl

def evK (s : List D) : Operand → (D → Prop) → Prop
  | .tmp t, X => getK s t X
  | .const v, X => constK v X
  | .global _, X => X .undef
  | .func f, X => X (.fn f [])

theorem evK_iff {s : List D} {x : Operand} {X : D → Prop} : evK s x X ↔ X (ev s x) := by
  cases x with
  | tmp t => exact getK_iff
  | const v => exact constK_iff
  | _ => exact Iff.rfl

def evsK (s : List D) : List Operand → (List D → Prop) → Prop
  | [], X => X []
  | x :: xs, X => evK s x fun d => evsK s xs fun ds => X (d :: ds)

theorem evsK_iff {s : List D} : ∀ {l : List Operand} {X : List D → Prop}, evsK s l X ↔ X (l.map (ev s))
  | [], _ => Iff.rfl
  | x :: xs, X => by
    simp only [evsK, evK_iff, List.map_cons]
    exact evsK_iff (l := xs)

def partsK (s : List D) : List (Nat × Operand) → (List (Nat × D) → Prop) → Prop
  | [], X => X []
  | x :: xs, X => evK s x.2 fun d => partsK s xs fun ds => X ((x.1, d) :: ds)

theorem partsK_iff {s : List D} : ∀ {l : List (Nat × Operand)} {X : List (Nat × D) → Prop}, partsK s l X ↔ X (l.map fun p => (p.1, ev s p.2))
  | [], _ => Iff.rfl
  | x :: xs, X => by
    simp only [partsK, evK_iff, List.map_cons]
    exact partsK_iff (l := xs)

def optK (s : List D) : Option Operand → (Option D → Prop) → Prop
  | none, X => X none
  | some x, X => evK s x fun d => X (some d)

theorem optK_iff {s : List D} {x : Option Operand} {X : Option D → Prop} : optK s x X ↔ X (x.map (ev s)) := by
  cases x with
  | none => exact Iff.rfl
  | some x => exact evK_iff

def objK : List AObj → Nat → (AObj → Prop) → Prop
  | [], _, _ => False
  | x :: _, 0, X => X x
  | _ :: l, o + 1, X => objK l o X

theorem objK_iff : ∀ {H : List AObj} {o : Nat} {X : AObj → Prop}, objK H o X ↔ ∃ ob, H[o]? = some ob ∧ X ob
  | [], _, _ => by simp [objK]
  | x :: _, 0, _ => by simp [objK]
  | _ :: l, o + 1, X => by
    simp only [objK]
    rw [objK_iff (H := l)]
    simp

def boolK : Bool → Prop → Prop
  | true, X => X
  | false, _ => False

theorem boolK_iff {b : Bool} {X : Prop} : boolK b X ↔ b = true ∧ X := by cases b <;> simp [boolK]

def boolF (b : Bool) (X Y : Prop) : Prop :=
  match b with
  | true => X
  | false => Y

theorem boolF_split {b : Bool} {X Y : Prop} (h1 : b = true → X) (h2 : b = false → Y) : boolF b X Y := by
  cases b with
  | true => exact h1 rfl
  | false => exact h2 rfl

theorem boolF_t {b : Bool} {X Y : Prop} (h : b = true) (h1 : X) : boolF b X Y := by subst h; exact h1
theorem boolF_f {b : Bool} {X Y : Prop} (h : b = false) (h1 : Y) : boolF b X Y := by subst h; exact h1

theorem boolF_ok {b : Bool} {X Y : Prop} (h : boolF b X Y) : (b = true ∧ X) ∨ (b = false ∧ Y) := by
  cases b with
  | true => exact .inl ⟨rfl, h⟩
  | false => exact .inr ⟨rfl, h⟩

def tyK (T : Tab) (t : TypeId) (X : TD → Prop) : Prop :=
  match T.get t with
  | some td => X td
  | none => False

theorem tyK_iff {T : Tab} {t : TypeId} {X : TD → Prop} : tyK T t X ↔ ∃ td, T.get t = some td ∧ X td := by
  unfold tyK
  cases T.get t <;> simp

def listK {α : Type} : List α → (List α → Prop) → Prop
  | [], X => X []
  | x :: l, X => listK l fun l => X (x :: l)

theorem listK_iff {α : Type} : ∀ {l : List α} {X : List α → Prop}, listK l X ↔ X l
  | [], _ => Iff.rfl
  | x :: l, X => by simp only [listK]; exact listK_iff (l := l)

def takeK : Nat → List D → (List D → Prop) → Prop
  | 0, _, X => X []
  | n + 1, x :: l, X => takeK n l fun l => X (x :: l)
  | _ + 1, [], _ => False

theorem takeK_iff : ∀ {n : Nat} {l : List D} {X : List D → Prop}, takeK n l X ↔ n ≤ l.length ∧ X (l.take n)
  | 0, _, X => by simp [takeK]
  | n + 1, x :: l, X => by simp only [takeK]; rw [takeK_iff (l := l)]; simp
  | n + 1, [], X => by simp [takeK]

def dropK : Nat → List D → (List D → Prop) → Prop
  | 0, l, X => X l
  | n + 1, _ :: l, X => dropK n l X
  | _ + 1, [], X => X []

theorem dropK_iff : ∀ {n : Nat} {l : List D} {X : List D → Prop}, dropK n l X ↔ X (l.drop n)
  | 0, _, X => by simp [dropK]
  | n + 1, x :: l, X => by simp only [dropK]; rw [dropK_iff (l := l)]; simp
  | n + 1, [], X => by simp [dropK]

/-- A nought. -/
def zK (d : D) (X : D → Prop) : Prop :=
  match d with
  | .int k n => X (.int k n)
  | .bool b => X (.bool b)
  | .str s => X (.str s)
  | .agg cs => listK cs fun cs => X (.agg cs)
  | .nils => X .nils
  | .pnil => X .pnil
  | .mnil => X .mnil
  | .fnil => X .fnil
  | .inil => X .inil
  | d => X d

theorem zK_iff {d : D} {X : D → Prop} : zK d X ↔ X d := by
  cases d <;> first | exact Iff.rfl | exact listK_iff

/-- What an operation comes to. -/
inductive Res where
  | val (d : D) (rd : List Nat)
  | upd (d : D) (rd : List Nat) (o : Nat) (ob : AObj)
  | new (sz : Nat) (rows : List D) (mk : Nat → Nat → D) (rd : List Nat)
  | newMap

def Res.go (pl : Option Nat) (H : List AObj) (K : D → List AObj → Prop) : Res → Prop
  | .val d _ => K d H
  | .upd d _ o ob => K d (H.set o ob)
  | .new sz rows mk _ => newK pl H sz rows fun o v H' => K (mk o v) H'
  | .newMap => K (.map H.length) (H ++ [.map []])

def Res.rds : Res → List Nat
  | .val _ rd => rd
  | .upd _ rd o _ => o :: rd
  | .new _ _ _ rd => rd
  | .newMap => []

def isBx : List Bool → Nat → Bool
  | [], _ => false
  | b :: _, 0 => b
  | _ :: l, n + 1 => isBx l n

def rowF (b : Bool) (rows : List D) (i : Nat) (X : D → Prop) : Prop :=
  match b with
  | true => (match rows, i with | [row], 0 => X row | _, _ => False)
  | false => ∃ row, rows[i]? = some row ∧ X row

theorem rowF_ok {b : Bool} {rows : List D} {i : Nat} {X : D → Prop} (h : rowF b rows i X) : ∃ row, rows[i]? = some row ∧ X row := by
  unfold rowF at h
  split at h
  · split at h
    · exact ⟨_, rfl, h⟩
    · exact h.elim
  · exact h

def setRow (b : Bool) (rows : List D) (i : Nat) (r : D) : List D :=
  match b with
  | true => (match rows, i with | [_], 0 => [r] | rows, i => rows.set i r)
  | false => rows.set i r

theorem setRow_eq (b : Bool) (rows : List D) (i : Nat) (r : D) : setRow b rows i r = rows.set i r := by
  unfold setRow
  split
  · split <;> rfl
  · rfl

def cellsF (td : TD) (cs : List D) (X : D → Prop) : Prop :=
  match td.k.isAgg with
  | true => takeK td.size cs fun cs => X (.agg cs)
  | false => match cs with | c :: _ => X c | [] => False

def arrK (H : List AObj) (o ver : Nat) (X : Nat → List D → Prop) : Prop :=
  objK H o fun ob => match ob with
  | .arr v sz rows => v = ver ∧ X sz rows
  | _ => False

theorem arrK_ok {H : List AObj} {o ver : Nat} {X : Nat → List D → Prop} (h : arrK H o ver X) : ∃ sz rows, H[o]? = some (.arr ver sz rows) ∧ X sz rows := by
  obtain ⟨ob, h1, h2⟩ := objK_iff.mp h
  split at h2
  · obtain ⟨rfl, h2⟩ := h2
    exact ⟨_, _, h1, h2⟩
  · exact h2.elim

def loadF (T : Tab) (bx : List Bool) (t : TypeId) (p : D) (H : List AObj) (X : Res → Prop) : Prop :=
  tyK T t fun td => match p with
  | .pe cs => cellsF td cs fun d => X (.val d [])
  | .p o ver i j => arrK H o ver fun _ rows => rowF (isBx bx o) rows i fun row => dropK j row.cells fun cs => cellsF td cs fun d => X (.val d [o])
  | _ => False

def mkRowK (cs : List D) (X : D → Prop) : Prop :=
  match cs with
  | [c] => X c
  | cs => X (.agg cs)

theorem mkRowK_iff {cs : List D} {X : D → Prop} : mkRowK cs X ↔ X (mkRow cs) := by
  match cs with
  | [] => exact Iff.rfl
  | [c] => exact Iff.rfl
  | _ :: _ :: _ => exact Iff.rfl

def storeF (T : Tab) (bx : List Bool) (t : TypeId) (p x : D) (H : List AObj) (X : Res → Prop) : Prop :=
  tyK T t fun td => match p with
  | .p o ver i j => arrK H o ver fun sz rows => rowF (isBx bx o) rows i fun row =>
    boolK (Nat.beq x.cells.length td.size) <| boolK (Nat.ble (j + td.size) sz) <| boolK (x.cells.all D.one) <| listK (spliceL row.cells j x.cells) fun cs => boolK (cs.all D.one) <|
      mkRowK cs fun r => X (.upd (.tup []) [] o (.arr ver sz (setRow (isBx bx o) rows i r)))
  | _ => False

def isSlice : TK → Bool
  | .slice _ => true
  | _ => false

def okRows (sz : Nat) (ys : List D) : Prop := ∀ y ∈ ys, y.cells.length = sz ∧ y.cells.all D.one = true

/-- Sizes of elements. -/
def byteTab : List Nat := [1, 2, 4, 8, 16, 24, 32, 40, 48, 56, 64, 72, 80, 88, 96, 104, 112, 120, 128]

def appF (T : Tab) (t : TypeId) (s : D) (ys : List D) (rd : List Nat) (H : List AObj) (X : Res → Prop) : Prop :=
  tyK T t fun td => match td.k with
  | .slice e => tyK T e fun te => boolK (Nat.blt 0 te.size) <| boolK (Nat.blt 0 te.bytes) <| findL byteTab te.bytes fun q => okRows te.size ys ∧ (match s with
    | .nils => ∃ m, IsE m ys.length ∧ m * q ≤ 140737488355328 ∧ X (.new te.size ys (fun o v => .h o v 0 m) rd)
    | .h o ver i n => arrK H o ver fun sz rows => i = 0 ∧ n = rows.length ∧ sz = te.size ∧ ∃ m, IsE m (n + ys.length) ∧ m * q ≤ 140737488355328 ∧ ∃ zs, IsE zs (rows ++ ys) ∧
      X (.upd (.h o (ver + 1) 0 m) rd o (.arr (ver + 1) sz zs))
    | _ => False)
  | _ => False

def rowsF (H : List AObj) (x : D) (X : List D → List Nat → Prop) : Prop :=
  match x with
  | .sl xs => X xs []
  | .nils => X [] []
  | .h o ver i n => arrK H o ver fun _ rows => ∃ ys, IsE ys ((rows.drop i).take n) ∧ X ys [o]
  | _ => False

theorem rowsF_ok {H : List AObj} {x : D} {X : List D → List Nat → Prop} (h : rowsF H x X) :
    ∃ ys rd, X ys rd ∧ rowsOf H x = some ys ∧ ∀ H' : List AObj, (∀ o ∈ rd, H'[o]? = H[o]?) → rowsOf H' x = some ys := by
  unfold rowsF at h
  split at h
  · exact ⟨_, _, h, rfl, fun _ _ => rfl⟩
  · exact ⟨_, _, h, rfl, fun _ _ => rfl⟩
  · rename_i o ver i n
    obtain ⟨sz, rows, h1, ys, ⟨rfl⟩, h2⟩ := arrK_ok h
    have e : ∀ H' : List AObj, H'[o]? = some (.arr ver sz rows) → rowsOf H' (.h o ver i n) = some ((rows.drop i).take n) := fun H' hh => by
      simp only [rowsOf, hh, if_true]
    exact ⟨_, _, h2, e H h1, fun H' hh => e H' ((hh _ (by simp)).trans h1)⟩
  · exact h.elim

def eq1K (x y : D) (X : (p : Prop) → Decidable p → Prop) : Prop :=
  match x, y with
  | .int _ a, .int _ b => X (a = b) inferInstance
  | .bool a, .bool b => X (a = b) inferInstance
  | .str a, .str b => X (a.toList = b.toList) inferInstance
  | _, _ => False

def eqpK : List D → List D → ((p : Prop) → Decidable p → Prop) → Prop
  | [], [], X => X True inferInstance
  | [x], [y], X => eq1K x y X
  | x :: xs, y :: ys, X => eq1K x y fun p ip => eqpK xs ys fun q iq => X (p ∧ q) instDecidableAnd
  | _, _, _ => False

theorem eq1K_ok {x y : D} {X : (p : Prop) → Decidable p → Prop} (h : eq1K x y X) : ∃ p ip, X p ip ∧ eq1 x y = @decide p ip := by
  unfold eq1K at h
  split at h
  · exact ⟨_, _, h, by simp [eq1, Bool.beq_eq_decide_eq]⟩
  · exact ⟨_, _, h, by simp [eq1, Bool.beq_eq_decide_eq]⟩
  · exact ⟨_, _, h, by simp [eq1, Bool.beq_eq_decide_eq]⟩
  · exact h.elim

theorem eqpK_ok : ∀ {xs ys : List D} {X : (p : Prop) → Decidable p → Prop}, eqpK xs ys X → ∃ p ip, X p ip ∧ eqCells xs ys = @decide p ip
  | [], [], X, h => ⟨_, _, h, by simp [eqCells]⟩
  | [x], [y], X, h => by
    obtain ⟨p, ip, h1, h2⟩ := eq1K_ok h
    exact ⟨p, ip, h1, by simp [eqCells, h2]⟩
  | x :: x' :: xs, y :: ys, X, h => by
    simp only [eqpK] at h
    obtain ⟨p, ip, h1, h2⟩ := eq1K_ok h
    obtain ⟨q, iq, h3, h4⟩ := eqpK_ok h1
    refine ⟨_, _, h3, ?_⟩
    rw [eqCells, h2, h4]
    simp
  | [x], y :: y' :: ys, X, h => by
    simp only [eqpK] at h
    obtain ⟨p, ip, h1, h2⟩ := eq1K_ok h
    exact h1.elim
  | [], _ :: _, X, h => h.elim
  | _ :: _, [], X, h => by cases ‹List D› <;> exact h.elim

def eqF (T : Tab) (t : TypeId) (x y : D) (X : Bool → Prop) : Prop :=
  match x, y with
  | .bool a, .bool b => tyK T t fun td => match td.k with | .bool => X (a == b) | _ => False
  | .agg xs, .agg ys => tyK T t fun td => match td.eqp with | some ks => boolK (eqOk ks xs ys) (eqpK xs ys fun p ip => X (@decide p ip)) | none => False
  | .nils, .nils => tyK T t fun td => match td.k with | .slice _ => X true | _ => False
  | .nils, .sl xs | .sl xs, .nils => tyK T t fun td => match td.k with | .slice _ => xs ≠ [] ∧ X false | _ => False
  | .pnil, .pnil => tyK T t fun td => match td.k with | .pointer _ => X true | _ => False
  | .pnil, .pe _ | .pe _, .pnil => tyK T t fun td => match td.k with | .pointer _ => X false | _ => False
  | .fnil, .fnil => tyK T t fun td => match td.k with | .func => X true | _ => False
  | .fnil, .fn _ _ | .fn _ _, .fnil => tyK T t fun td => match td.k with | .func => X false | _ => False
  | .mnil, .mnil => tyK T t fun td => match td.k with | .map _ _ => X true | _ => False
  | _, _ => False

theorem eqF_ok {T : Tab} {t : TypeId} {x y : D} {X : Bool → Prop} (h : eqF T t x y X) : ∃ r, X r ∧ ∀ K : Bool → Prop, K r → eqK T t x y K := by
  unfold eqF at h
  split at h <;> first
    | (obtain ⟨td, h1, h2⟩ := tyK_iff.mp h
       split at h2 <;> first
         | exact h2.elim
         | (rename_i hk
            first
              | (obtain ⟨h3, h4⟩ := boolK_iff.mp h2
                 obtain ⟨p, ip, h5, h6⟩ := eqpK_ok h4
                 exact ⟨_, h5, fun K hK => ⟨⟨td, _, h1, hk, h3⟩, by rw [h6]; exact hK⟩⟩)
              | (obtain ⟨h3, h4⟩ := h2
                 exact ⟨_, h4, fun K hK => ⟨⟨td, _, h1, hk⟩, fun e => absurd e h3, hK⟩⟩)
              | exact ⟨_, h2, fun K hK => ⟨⟨td, h1, hk⟩, hK⟩⟩
              | exact ⟨_, h2, fun K hK => ⟨⟨td, _, h1, hk⟩, hK⟩⟩
              | exact ⟨_, h2, fun K hK => ⟨⟨td, _, _, h1, hk⟩, hK⟩⟩))
    | exact h.elim

def sameKind (k k' : IntKind) : Bool := decide (k = k')

/-- Whole numbers without a sign. -/
def uF (op : BinOp) (k : IntKind) (m n : Nat) (X : D → Prop) : Prop :=
  match op with
  | .add => ∃ r : Nat, (r : Int) = k.wrap ((m : Int) + (n : Int)) ∧ X (.int k (r : Int))
  | .sub => ∃ r : Nat, (r : Int) = k.wrap ((m : Int) - (n : Int)) ∧ X (.int k (r : Int))
  | .mul => ∃ r : Nat, (r : Int) = k.wrap ((m : Int) * (n : Int)) ∧ X (.int k (r : Int))
  | .quo => n ≠ 0 ∧ ∃ r : Nat, (r : Int) = k.wrap ((m / n : Nat) : Int) ∧ X (.int k (r : Int))
  | .rem => n ≠ 0 ∧ X (.int k ((m % n : Nat) : Int))
  | .and => ∃ r : Nat, (r : Int) = bitsI .and k (m : Int) (n : Int) ∧ X (.int k (r : Int))
  | .or => ∃ r : Nat, (r : Int) = bitsI .or k (m : Int) (n : Int) ∧ X (.int k (r : Int))
  | .xor => ∃ r : Nat, (r : Int) = bitsI .xor k (m : Int) (n : Int) ∧ X (.int k (r : Int))
  | .andNot => ∃ r : Nat, (r : Int) = bitsI .andNot k (m : Int) (n : Int) ∧ X (.int k (r : Int))
  | .eql => X (.bool (m == n))
  | .neq => X (.bool (m != n))
  | .lss => X (.bool (decide (m < n)))
  | .leq => X (.bool (decide (m ≤ n)))
  | .gtr => X (.bool (decide (n < m)))
  | .geq => X (.bool (decide (n ≤ m)))
  | _ => False

def sF (op : BinOp) (k : IntKind) (a b : Int) (X : D → Prop) : Prop :=
  match op with
  | .add => ∃ r : Int, r = k.wrap (a + b) ∧ X (.int k r)
  | .sub => ∃ r : Int, r = k.wrap (a - b) ∧ X (.int k r)
  | .mul => ∃ r : Int, r = k.wrap (a * b) ∧ X (.int k r)
  | .quo => b ≠ 0 ∧ ∃ r : Int, r = k.wrap (a.tdiv b) ∧ X (.int k r)
  | .rem => b ≠ 0 ∧ X (.int k (a.tmod b))
  | .and => ∃ r : Int, r = bitsI .and k a b ∧ X (.int k r)
  | .or => ∃ r : Int, r = bitsI .or k a b ∧ X (.int k r)
  | .xor => ∃ r : Int, r = bitsI .xor k a b ∧ X (.int k r)
  | .andNot => ∃ r : Int, r = bitsI .andNot k a b ∧ X (.int k r)
  | .eql => X (.bool (a == b))
  | .neq => X (.bool (a != b))
  | .lss => X (.bool (decide (a < b)))
  | .leq => X (.bool (decide (a ≤ b)))
  | .gtr => X (.bool (decide (b < a)))
  | .geq => X (.bool (decide (b ≤ a)))
  | _ => False

/-- A power of two as a numeral, where it is one that is used. -/
def powK (n : Nat) (X : Nat → Prop) : Prop :=
  match n with
  | 0 => X 1
  | 1 => X 2
  | 2 => X 4
  | 3 => X 8
  | 8 => X 256
  | 16 => X 65536
  | 24 => X 16777216
  | 32 => X 4294967296
  | 40 => X 1099511627776
  | 48 => X 281474976710656
  | 56 => X 72057594037927936
  | n => X (2 ^ n)

theorem powK_iff {n : Nat} {X : Nat → Prop} : powK n X ↔ X (2 ^ n) := by
  unfold powK
  split <;> exact Iff.rfl

def minBits (n : Nat) (k : IntKind) : Nat := match Nat.ble n k.bits with | true => n | false => k.bits

theorem minBits_eq (n : Nat) (k : IntKind) : minBits n k = min n k.bits := by
  unfold minBits
  split
  · rename_i h
    have := Nat.le_of_ble_eq_true h
    omega
  · rename_i h
    have : ¬ n ≤ k.bits := fun e => by rw [Nat.ble_eq_true_of_le e] at h; cases h
    omega

def shF (op : BinOp) (k : IntKind) (a b : Int) (X : D → Prop) : Prop :=
  match b with
  | .ofNat n => powK (minBits n k) fun q => match kU k, op with
    | true, .shl => (match a with | .ofNat m => ∃ r : Nat, (r : Int) = k.wrap ((m : Int) * (q : Int)) ∧ X (.int k (r : Int)) | _ => False)
    | true, .shr => (match a with | .ofNat m => X (.int k ((m / q : Nat) : Int)) | _ => False)
    | false, .shl => ∃ r : Int, r = k.wrap (a * (q : Int)) ∧ X (.int k r)
    | false, .shr => ∃ r : Int, r = a.fdiv (q : Int) ∧ X (.int k r)
    | _, _ => False
  | _ => False

def binF (T : Tab) (op : BinOp) (t : TypeId) (x y : D) (X : D → Prop) : Prop :=
  match x, y with
  | .int k a, .int k' b =>
    match op with
    | .shl => shF .shl k a b X
    | .shr => shF .shr k a b X
    | op => boolK (sameKind k k') (match kU k with
      | true => (match a, b with
        | .ofNat m, .ofNat n => uF op k m n X
        | _, _ => False)
      | false => sF op k a b X)
  | .str a, .str b =>
    match op with
    | .add => ((a.size + b.size : Nat) : Int) ≤ IntKind.i64.max ∧ X (.str (a ++ b))
    | .eql => X (.bool (a.toList == b.toList))
    | .neq => X (.bool (!(a.toList == b.toList)))
    | _ => False
  | x, y =>
    match op with
    | .eql => eqF T t x y fun r => X (.bool r)
    | .neq => eqF T t x y fun r => X (.bool (!r))
    | _ => False

theorem uF_ok {T : Tab} {op : BinOp} {t : TypeId} {k : IntKind} {m n : Nat} {X : D → Prop} (h : uF op k m n X) : ∃ d, X d ∧ ∀ K : D → Prop, K d → binK T op t (.int k (.ofNat m)) (.int k (.ofNat n)) K := by
  have e1 : ∀ a b : Nat, (Int.ofNat a == Int.ofNat b) = (a == b) := fun a b => by
    rw [Bool.eq_iff_iff, beq_iff_eq, beq_iff_eq]
    exact ⟨Int.ofNat.inj, fun e => by rw [e]⟩
  cases op with
  | add => obtain ⟨r, h1, h2⟩ := h; exact ⟨_, h2, fun K hK => ⟨rfl, by rw [h1] at hK; exact hK⟩⟩
  | sub => obtain ⟨r, h1, h2⟩ := h; exact ⟨_, h2, fun K hK => ⟨rfl, by rw [h1] at hK; exact hK⟩⟩
  | mul => obtain ⟨r, h1, h2⟩ := h; exact ⟨_, h2, fun K hK => ⟨rfl, by rw [h1] at hK; exact hK⟩⟩
  | quo =>
    obtain ⟨h0, r, h1, h2⟩ := h
    exact ⟨_, h2, fun K hK => ⟨rfl, fun e => h0 (Int.ofNat.inj e), by rw [h1] at hK; exact hK⟩⟩
  | rem =>
    obtain ⟨h0, h2⟩ := h
    exact ⟨_, h2, fun K hK => ⟨rfl, fun e => h0 (Int.ofNat.inj e), hK⟩⟩
  | and => obtain ⟨r, h1, h2⟩ := h; exact ⟨_, h2, fun K hK => ⟨rfl, by rw [h1] at hK; exact hK⟩⟩
  | or => obtain ⟨r, h1, h2⟩ := h; exact ⟨_, h2, fun K hK => ⟨rfl, by rw [h1] at hK; exact hK⟩⟩
  | xor => obtain ⟨r, h1, h2⟩ := h; exact ⟨_, h2, fun K hK => ⟨rfl, by rw [h1] at hK; exact hK⟩⟩
  | andNot => obtain ⟨r, h1, h2⟩ := h; exact ⟨_, h2, fun K hK => ⟨rfl, by rw [h1] at hK; exact hK⟩⟩
  | eql => exact ⟨_, h, fun K hK => ⟨rfl, by rw [e1]; exact hK⟩⟩
  | neq => exact ⟨_, h, fun K hK => ⟨rfl, by rw [show (Int.ofNat m != Int.ofNat n) = (m != n) by simp only [bne, e1]]; exact hK⟩⟩
  | lss => exact ⟨_, h, fun K hK => ⟨rfl, by rw [show decide (Int.ofNat m < Int.ofNat n) = decide (m < n) from decide_eq_decide.mpr Int.ofNat_lt]; exact hK⟩⟩
  | leq => exact ⟨_, h, fun K hK => ⟨rfl, by rw [show decide (Int.ofNat m ≤ Int.ofNat n) = decide (m ≤ n) from decide_eq_decide.mpr Int.ofNat_le]; exact hK⟩⟩
  | gtr => exact ⟨_, h, fun K hK => ⟨rfl, by rw [show decide (Int.ofNat m > Int.ofNat n) = decide (n < m) from decide_eq_decide.mpr Int.ofNat_lt]; exact hK⟩⟩
  | geq => exact ⟨_, h, fun K hK => ⟨rfl, by rw [show decide (Int.ofNat m ≥ Int.ofNat n) = decide (n ≤ m) from decide_eq_decide.mpr Int.ofNat_le]; exact hK⟩⟩
  | _ => exact h.elim

theorem sF_ok {T : Tab} {op : BinOp} {t : TypeId} {k : IntKind} {a b : Int} {X : D → Prop} (h : sF op k a b X) : ∃ d, X d ∧ ∀ K : D → Prop, K d → binK T op t (.int k a) (.int k b) K := by
  cases op with
  | add => obtain ⟨r, rfl, h2⟩ := h; exact ⟨_, h2, fun K hK => ⟨rfl, hK⟩⟩
  | sub => obtain ⟨r, rfl, h2⟩ := h; exact ⟨_, h2, fun K hK => ⟨rfl, hK⟩⟩
  | mul => obtain ⟨r, rfl, h2⟩ := h; exact ⟨_, h2, fun K hK => ⟨rfl, hK⟩⟩
  | quo => obtain ⟨h0, r, rfl, h2⟩ := h; exact ⟨_, h2, fun K hK => ⟨rfl, h0, hK⟩⟩
  | rem => obtain ⟨h0, h2⟩ := h; exact ⟨_, h2, fun K hK => ⟨rfl, h0, hK⟩⟩
  | and => obtain ⟨r, rfl, h2⟩ := h; exact ⟨_, h2, fun K hK => ⟨rfl, hK⟩⟩
  | or => obtain ⟨r, rfl, h2⟩ := h; exact ⟨_, h2, fun K hK => ⟨rfl, hK⟩⟩
  | xor => obtain ⟨r, rfl, h2⟩ := h; exact ⟨_, h2, fun K hK => ⟨rfl, hK⟩⟩
  | andNot => obtain ⟨r, rfl, h2⟩ := h; exact ⟨_, h2, fun K hK => ⟨rfl, hK⟩⟩
  | eql => exact ⟨_, h, fun K hK => ⟨rfl, hK⟩⟩
  | neq => exact ⟨_, h, fun K hK => ⟨rfl, hK⟩⟩
  | lss => exact ⟨_, h, fun K hK => ⟨rfl, hK⟩⟩
  | leq => exact ⟨_, h, fun K hK => ⟨rfl, hK⟩⟩
  | gtr => exact ⟨_, h, fun K hK => ⟨rfl, hK⟩⟩
  | geq => exact ⟨_, h, fun K hK => ⟨rfl, hK⟩⟩
  | _ => exact h.elim

theorem shF_ok {T : Tab} {op : BinOp} {t : TypeId} {k k' : IntKind} {a b : Int} {X : D → Prop} (h : shF op k a b X) : ∃ d, X d ∧ ∀ K : D → Prop, K d → binK T op t (.int k a) (.int k' b) K := by
  unfold shF at h
  split at h
  · rename_i n
    replace h := powK_iff.mp h
    rw [minBits_eq] at h
    have e : ((2 ^ min n k.bits : Nat) : Int) = (2 : Int) ^ min n k.bits := by simp
    rw [e] at h
    split at h
    · split at h
      · obtain ⟨r, h1, h2⟩ := h
        exact ⟨_, h2, fun K hK => ⟨Int.natCast_nonneg n, by rw [h1] at hK; exact hK⟩⟩
      · exact h.elim
    · split at h
      · rename_i m
        refine ⟨_, h, fun K hK => ⟨Int.natCast_nonneg n, ?_⟩⟩
        have e2 : (Int.ofNat m).fdiv (2 ^ min (Int.ofNat n).toNat k.bits) = ((m / 2 ^ min n k.bits : Nat) : Int) := by
          have : (2 : Int) ^ min n k.bits = ((2 ^ min n k.bits : Nat) : Int) := e.symm
          show (Int.ofNat m).fdiv (2 ^ min n k.bits) = _
          rw [this]
          exact Int.fdiv_eq_ediv_of_nonneg _ (Int.natCast_nonneg _)
        show K _
        rw [e2]
        exact hK
      · exact h.elim
    · obtain ⟨r, rfl, h2⟩ := h
      exact ⟨_, h2, fun K hK => ⟨Int.natCast_nonneg n, hK⟩⟩
    · obtain ⟨r, rfl, h2⟩ := h
      exact ⟨_, h2, fun K hK => ⟨Int.natCast_nonneg n, hK⟩⟩
    · exact h.elim
  · exact h.elim

theorem binF_ok {T : Tab} {op : BinOp} {t : TypeId} {x y : D} {X : D → Prop} (h : binF T op t x y X) : ∃ d, X d ∧ ∀ K : D → Prop, K d → binK T op t x y K := by
  unfold binF at h
  split at h
  · split at h
    · exact shF_ok h
    · exact shF_ok h
    · obtain ⟨h1, h2⟩ := boolK_iff.mp h
      simp only [sameKind, decide_eq_true_eq] at h1
      subst h1
      split at h2
      · split at h2
        · exact uF_ok h2
        · exact h2.elim
      · exact sF_ok h2
  · cases op <;> first
      | exact h.elim
      | exact ⟨_, h.2, fun K hK => ⟨h.1, hK⟩⟩
      | exact ⟨_, h, fun K hK => hK⟩
  · rename_i x' y' hn1 hn2
    have key : ∀ (f : Bool → D) (r : Bool) (K : D → Prop), (op = .eql ∧ f = D.bool ∨ op = .neq ∧ f = fun r => .bool (!r)) → eqK T t x y (fun r => K (f r)) → binK T op t x y K := fun f r K ho hK => by
      unfold binK
      split
      · exact (hn1 _ _ _ _ rfl rfl).elim
      · exact (hn2 _ _ rfl rfl).elim
      · rcases ho with ⟨rfl, rfl⟩ | ⟨rfl, rfl⟩
        · exact hK
        · exact hK
    cases op <;> first
      | exact h.elim
      | (obtain ⟨r, h1, h2⟩ := eqF_ok h
         first
           | exact ⟨_, h1, fun K hK => key .bool r K (.inl ⟨rfl, rfl⟩) (h2 _ hK)⟩
           | exact ⟨_, h1, fun K hK => key (fun r => .bool (!r)) r K (.inr ⟨rfl, rfl⟩) (h2 _ hK)⟩)

end Go.A
