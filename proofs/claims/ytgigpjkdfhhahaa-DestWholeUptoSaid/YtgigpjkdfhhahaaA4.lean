/- A logic of abstract states, part 4: what each operation does to data. -/
import Derived.Test.YtgigpjkdfhhahaaA3
namespace Go.A

/-- The rows that a slice's data shows. -/
def rowsOf (H : List AObj) : D → Option (List D)
  | .sl xs => some xs
  | .nils => some []
  | .h o ver i n => match H[o]? with
    | some (.arr v _ rows) => if v = ver then some ((rows.drop i).take n) else none
    | _ => none
  | _ => none

def lenD (H : List AObj) : D → Option Nat
  | .sl xs => some xs.length
  | .nils => some 0
  | .h o ver _ n => match H[o]? with
    | some (.arr v _ _) => if v = ver then some n else none
    | _ => none
  | .str s => some s.size
  | _ => none

def eq1 : D → D → Bool
  | .int _ a, .int _ b => a == b
  | .bool a, .bool b => a == b
  | .str a, .str b => a.toList == b.toList
  | _, _ => false

def eqCells : List D → List D → Bool
  | [], [] => true
  | x :: xs, y :: ys => eq1 x y && eqCells xs ys
  | _, _ => false

def eqOk : List EK → List D → List D → Bool
  | [], [], [] => true
  | .i :: ks, .int q _ :: xs, .int q' _ :: ys => q == q' && eqOk ks xs ys
  | .b :: ks, .bool _ :: xs, .bool _ :: ys => eqOk ks xs ys
  | .s :: ks, .str _ :: xs, .str _ :: ys => eqOk ks xs ys
  | _, _, _ => false

def bitsI (op : BinOp) (k : IntKind) (x y : Int) : Int :=
  let a := BitVec.ofInt k.bits x
  let b := BitVec.ofInt k.bits y
  match op with
  | .and => k.wrap (a &&& b).toNat
  | .or => k.wrap (a ||| b).toNat
  | .xor => k.wrap (a ^^^ b).toNat
  | _ => k.wrap (a &&& ~~~b).toNat

def strBytes (s : ByteArray) : List D := s.data.toList.map fun b => .int .u8 b.toNat

def byteOf : D → UInt8
  | .int _ n => UInt8.ofNat n.toNat
  | _ => 0

def isU8 : D → Bool
  | .int .u8 _ => true
  | _ => false

/-- Two values compared: what comes out. -/
def eqK (T : Tab) (t : TypeId) (x y : D) (K : Bool → Prop) : Prop :=
  match x, y with
  | .bool a, .bool b => (∃ td, T.get t = some td ∧ td.k = .bool) ∧ K (a == b)
  | .agg xs, .agg ys => (∃ td ks, T.get t = some td ∧ td.eqp = some ks ∧ eqOk ks xs ys = true) ∧ K (eqCells xs ys)
  | .nils, .nils => (∃ td e, T.get t = some td ∧ td.k = .slice e) ∧ K true
  | .nils, .sl xs | .sl xs, .nils => (∃ td e, T.get t = some td ∧ td.k = .slice e) ∧ (xs = [] → K true) ∧ K false
  | .pnil, .pnil => (∃ td e, T.get t = some td ∧ td.k = .pointer e) ∧ K true
  | .pnil, .pe _ | .pe _, .pnil => (∃ td e, T.get t = some td ∧ td.k = .pointer e) ∧ K false
  | .fnil, .fnil => (∃ td, T.get t = some td ∧ td.k = .func) ∧ K true
  | .fnil, .fn _ _ | .fn _ _, .fnil => (∃ td, T.get t = some td ∧ td.k = .func) ∧ K false
  | .mnil, .mnil => (∃ td q e, T.get t = some td ∧ td.k = .map q e) ∧ K true
  | _, _ => False

def binK (T : Tab) (op : BinOp) (t : TypeId) (x y : D) (K : D → Prop) : Prop :=
  match x, y with
  | .int k a, .int k' b =>
    match op with
    | .shl => 0 ≤ b ∧ K (.int k (k.wrap (a * 2 ^ min b.toNat k.bits)))
    | .shr => 0 ≤ b ∧ K (.int k (a.fdiv (2 ^ min b.toNat k.bits)))
    | .add => k = k' ∧ K (.int k (k.wrap (a + b)))
    | .sub => k = k' ∧ K (.int k (k.wrap (a - b)))
    | .mul => k = k' ∧ K (.int k (k.wrap (a * b)))
    | .quo => k = k' ∧ b ≠ 0 ∧ K (.int k (k.wrap (a.tdiv b)))
    | .rem => k = k' ∧ b ≠ 0 ∧ K (.int k (a.tmod b))
    | .and | .or | .xor | .andNot => k = k' ∧ K (.int k (bitsI op k a b))
    | .eql => k = k' ∧ K (.bool (a == b))
    | .neq => k = k' ∧ K (.bool (a != b))
    | .lss => k = k' ∧ K (.bool (decide (a < b)))
    | .leq => k = k' ∧ K (.bool (decide (a ≤ b)))
    | .gtr => k = k' ∧ K (.bool (decide (a > b)))
    | .geq => k = k' ∧ K (.bool (decide (a ≥ b)))
  | .str a, .str b =>
    match op with
    | .add => ((a.size + b.size : Nat) : Int) ≤ IntKind.i64.max ∧ K (.str (a ++ b))
    | .eql => K (.bool (a.toList == b.toList))
    | .neq => K (.bool (!(a.toList == b.toList)))
    | _ => False
  | x, y =>
    match op with
    | .eql => eqK T t x y fun r => K (.bool r)
    | .neq => eqK T t x y fun r => K (.bool (!r))
    | _ => False

/-- What is owned, compared with nil. -/
def nilK (T : Tab) (H : List AObj) (op : BinOp) (t : TypeId) (x y : D) (K : D → Prop) : Prop :=
  ((op = .eql ∧ K (.bool false)) ∨ (op = .neq ∧ K (.bool true))) ∧
  match x, y with
  | .p o ver _ _, .pnil | .pnil, .p o ver _ _ => (∃ sz rows, H[o]? = some (.arr ver sz rows)) ∧ ∃ td e, T.get t = some td ∧ td.k = .pointer e
  | .map o, .mnil | .mnil, .map o => (∃ es, H[o]? = some (.map es)) ∧ ∃ td q e, T.get t = some td ∧ td.k = .map q e
  | _, _ => False

/-- Where a new thing is owned. -/
def newK (pl : Option Nat) (H : List AObj) (sz : Nat) (rows : List D) (K : Nat → Nat → List AObj → Prop) : Prop :=
  match pl with
  | none => K H.length 0 (H ++ [.arr 0 sz rows])
  | some r => H[r]? = some (.arr 0 0 []) ∧ K r 1 (H.set r (.arr 1 sz rows))

/-- How an operation is taken: is a literal's row owned, and where is a new row put. -/
structure Hd where
  own : Bool := false
  at_ : Option Nat := none
  n : Nat := 0

def appKs (te : TD) (pl : Option Nat) (s : D) (ys : List D) (H : List AObj) (K : D → List AObj → Prop) : Prop :=
  match s with
  | .nils => ys.length * te.bytes ≤ 140737488355328 ∧ newK pl H te.size ys fun o v H' => K (.h o v 0 ys.length) H'
  | .h o ver i n => match H[o]? with
    | some (.arr v sz rows) => v = ver ∧ i = 0 ∧ n = rows.length ∧ sz = te.size ∧ (n + ys.length) * te.bytes ≤ 140737488355328 ∧
      K (.h o (ver + 1) 0 (n + ys.length)) (H.set o (.arr (ver + 1) sz (rows ++ ys)))
    | _ => False
  | _ => False

def appK (T : Tab) (pl : Option Nat) (t : TypeId) (s : D) (ys : List D) (H : List AObj) (K : D → List AObj → Prop) : Prop :=
  ∃ td e te, T.get t = some td ∧ td.k = .slice e ∧ T.get e = some te ∧ 0 < te.size ∧ 0 < te.bytes ∧ (∀ y ∈ ys, y.cells.length = te.size ∧ y.cells.all D.one = true) ∧ appKs te pl s ys H K

/-- So many noughts, appended to nothing. -/
def appZK (T : Tab) (pl : Option Nat) (t : TypeId) (n : Nat) (H : List AObj) (K : D → List AObj → Prop) : Prop :=
  ∃ td e te, T.get t = some td ∧ td.k = .slice e ∧ T.get e = some te ∧ 0 < te.size ∧ 0 < te.bytes ∧ 0 < n ∧ n * te.bytes ≤ 140737488355328 ∧ newK pl H te.size (List.replicate n te.zero) fun o v H' => K (.h o v 0 n) H'

/-- What is copied. -/
def srcOk (H : List AObj) (x : D) (sz : Nat) (ys : List D) : Prop :=
  match x with
  | .str s => ys = strBytes s ∧ sz = 1
  | x => rowsOf H x = some ys

def mapFind (k : D) : List (D × D) → Option D
  | [] => none
  | x :: r => if eq1 k x.1 then some x.2 else mapFind k r

def mapPut (k v : D) : List (D × D) → List (D × D)
  | [] => [(k, v)]
  | x :: r => if eq1 k x.1 then (k, v) :: r else x :: mapPut k v r

def mapDel (k : D) : List (D × D) → List (D × D)
  | [] => []
  | x :: r => if eq1 k x.1 then r else x :: mapDel k r

/-- A key that is a number, and all keys of a map of such keys. -/
def keyOk (k : D) (es : List (D × D)) : Prop := ∃ q, (match k with | .int q' _ => q' = q | _ => False) ∧ ∀ x ∈ es, (match x.1 with | .int q' _ => q' = q | _ => False)

def biK (T : Tab) (pl : Option Nat) (b : Builtin) (ts : List TypeId) (xs : List D) (H : List AObj) (K : D → List AObj → Prop) : Prop :=
  match b, ts, xs with
  | .len, t :: _, [x] => match x with
    | .map o => (∃ td q e, T.get t = some td ∧ td.k = .map q e) ∧ (match H[o]? with | some (.map es) => K (.int .i64 es.length) H | _ => False)
    | .str s => (∃ td, T.get t = some td ∧ td.k = .string) ∧ K (.int .i64 s.size) H
    | x => (∃ td e, T.get t = some td ∧ td.k = .slice e) ∧ (match lenD H x with | some n => K (.int .i64 n) H | none => False)
  | .cap, t :: _, [.nils] => (∃ td e, T.get t = some td ∧ td.k = .slice e) ∧ K (.int .i64 0) H
  | .append, t :: t' :: _, [.nils, .int _ (.ofNat n)] => (∃ td q, T.get t' = some td ∧ td.k = .int q) ∧ appZK T pl t n H K
  | .append, t :: t' :: _, [.h o ver i m, .int _ (.ofNat n)] => (∃ td q, T.get t' = some td ∧ td.k = .int q) ∧ ∃ td e te, T.get t = some td ∧ td.k = .slice e ∧ T.get e = some te ∧ appK T pl t (.h o ver i m) (List.replicate n te.zero) H K
  | .append, t :: t' :: _, [s, x] => match x with
    | .str b => (∃ td, T.get t' = some td ∧ td.k = .string) ∧ (∃ td e te, T.get t = some td ∧ td.k = .slice e ∧ T.get e = some te ∧ te.size = 1) ∧ appK T pl t s (strBytes b) H K
    | x => (∃ td e, T.get t' = some td ∧ td.k = .slice e) ∧ ∃ ys, rowsOf H x = some ys ∧ appK T pl t s ys H K
  | .min, _, [.int k a, .int k' b] => k = k' ∧ K (.int k (if b < a then b else a)) H
  | .max, _, [.int k a, .int k' b] => k = k' ∧ K (.int k (if b > a then b else a)) H
  | .copy, t :: _, [.h o ver i n, x] => ∃ td e te, T.get t = some td ∧ td.k = .slice e ∧ T.get e = some te ∧
    ∃ ys, srcOk H x te.size ys ∧ (∀ y ∈ ys, y.cells.length = te.size ∧ y.cells.all D.one = true) ∧
    (match H[o]? with
    | some (.arr v sz rows) => v = ver ∧ sz = te.size ∧ K (.int .i64 ((min ys.length n : Nat) : Int)) (H.set o (.arr v sz (spliceL rows i (ys.take (min ys.length n)))))
    | _ => False)
  | .clear, t :: _, [.h o ver i n] => ∃ td e te, T.get t = some td ∧ td.k = .slice e ∧ T.get e = some te ∧
    (match H[o]? with
    | some (.arr v sz rows) => v = ver ∧ sz = te.size ∧ K (.tup []) (H.set o (.arr v sz (spliceL rows i (List.replicate n te.zero))))
    | _ => False)
  | .clear, t :: _, [.map o] => (∃ td q e, T.get t = some td ∧ td.k = .map q e) ∧ (match H[o]? with | some (.map _) => K (.tup []) (H.set o (.map [])) | _ => False)
  | .delete, t :: _, [.map o, k] => (∃ td q e tq iq, T.get t = some td ∧ td.k = .map q e ∧ T.get q = some tq ∧ tq.k = .int iq) ∧
    (match H[o]? with | some (.map es) => keyOk k es ∧ K (.tup []) (H.set o (.map (mapDel k es))) | _ => False)
  | _, _, _ => False

def loB : Option D → Option Int
  | none => some 0
  | some (.int _ l) => some l
  | _ => none

def hiB (n : Nat) : Option D → Option Int
  | none => some n
  | some (.int _ h) => some h
  | _ => none

def sliceK (T : Tab) (t : TypeId) (x : D) (lo hi : Option D) (H : List AObj) (K : D → Prop) : Prop :=
  match lenD H x with
  | some n => match loB lo, hiB n hi with
    | some l, some h => 0 ≤ l ∧ l ≤ h ∧ h ≤ n ∧
      (match x with
      | .str s => (∃ td, T.get t = some td ∧ td.k = .string) ∧ K (.str (s.extract l.toNat h.toNat))
      | .sl xs => (∃ td e, T.get t = some td ∧ td.k = .slice e ∧ ∃ te, T.get e = some te ∧ ∀ y ∈ xs, y.cells.length = te.size) ∧ K (.sl ((xs.drop l.toNat).take (h.toNat - l.toNat)))
      | .nils => (∃ td e, T.get t = some td ∧ td.k = .slice e ∧ ∃ te, T.get e = some te) ∧ K .nils
      | .h o ver i _ => (∃ td e, T.get t = some td ∧ td.k = .slice e ∧ ∃ te, T.get e = some te ∧ ∃ rows, H[o]? = some (.arr ver te.size rows)) ∧ K (.h o ver (i + l.toNat) (h.toNat - l.toNat))
      | _ => False)
    | _, _ => False
  | none => False

/-- All of an array, by a pointer to its first element. -/
def arrSlK (T : Tab) (t : TypeId) (x : D) (lo hi : Option D) (H : List AObj) (K : D → Prop) : Prop :=
  match lo, hi, x with
  | none, none, .p o ver i 0 => ∃ td n e te rows, T.get t = some td ∧ td.k = .array n e ∧ T.get e = some te ∧ H[o]? = some (.arr ver te.size rows) ∧ 0 < n ∧ i + n ≤ rows.length ∧ K (.h o ver i n)
  | _, _, _ => False

/-- A part of a struct's or an array's cells. -/
def partK (T : Tab) (t : TypeId) (cs : List D) (off : Nat) (K : D → Prop) : Prop :=
  match T.get t with
  | some td => match td.k.isAgg with
    | true => off + td.size ≤ cs.length ∧ K (.agg ((cs.drop off).take td.size))
    | false => match cs[off]? with | some c => K c | none => False
  | none => False

def fillD (place : Nat → Option (Nat × Nat)) (cells : List D) : List (Nat × D) → Option (List D)
  | [] => some cells
  | (i, v) :: rest =>
    match place i with
    | none => none
    | some (off, size) => if v.told = true ∧ v.cells.length = size ∧ off + v.cells.length ≤ cells.length then fillD place (spliceL cells off v.cells) rest else none

def placeS (T : Tab) (fs : List (Nat × TypeId)) (i : Nat) : Option (Nat × Nat) :=
  match fs[i]? with
  | some (off, t) => match T.get t with | some td => some (off, td.size) | none => none
  | none => none

/-- The elements of a slice literal. -/
def litRows (size : Nat) (zero : D) : Nat → List (Nat × D) → Option (List D)
  | len, parts => parts.foldlM (fun (rows : List D) (p : Nat × D) => if p.1 < len ∧ p.2.told = true ∧ p.2.cells.length = size then some (rows.set p.1 p.2) else none) (List.replicate len zero)

def loadK (T : Tab) (t : TypeId) (p : D) (H : List AObj) (K : D → Prop) : Prop :=
  match T.get t with
  | some td => ∃ cs, ptrCells H p = some cs ∧
    (match td.k.isAgg with
    | true => td.size ≤ cs.length ∧ K (.agg (cs.take td.size))
    | false => match cs with | c :: _ => K c | [] => False)
  | none => False

def storeK (T : Tab) (t : TypeId) (p x : D) (H : List AObj) (K : List AObj → Prop) : Prop :=
  match T.get t with
  | some td => match p with
    | .p o ver i j => match H[o]? with
      | some (.arr v sz rows) => v = ver ∧ ∃ row, rows[i]? = some row ∧ x.cells.length = td.size ∧ j + td.size ≤ sz ∧ x.cells.all D.one = true ∧ (spliceL row.cells j x.cells).all D.one = true ∧
        K (H.set o (.arr v sz (rows.set i (mkRow (spliceL row.cells j x.cells)))))
      | _ => False
    | _ => False
  | none => False

/-- A literal of bytes turned to what does not change. -/
def markK (T : Tab) (hd : Hd) (src dst : TypeId) (ts td : TD) (x : D) (H : List AObj) (K : D → List AObj → Prop) : Prop :=
  ∃ o ver i m e te sz rows, x = .h o ver i m ∧ src = dst ∧ ts.k = .slice e ∧ td.k = .slice e ∧ T.get e = some te ∧ te.k = .int .u8 ∧ 0 < m ∧ hd.n ≤ o ∧ H[o]? = some (.arr ver sz rows) ∧ (match hd.own with | true => K (.h o ver i m) (H.set o (.arr ver sz rows)) | false => K (.sl ((rows.drop i).take m)) (H.set o .gone))

def opK (T : Tab) (hd : Hd) (op : Op) (ρ : Operand → D) (H : List AObj) (K : D → List AObj → Prop) : Prop :=
  match op with
  | .move x | .assign x => K (ρ x) H
  | .pick c a b => match ρ c with | .bool t => (t = true → K (ρ a) H) ∧ (t = false → K (ρ b) H) | _ => False
  | .alloc t => match T.get t with | some td => 0 < td.size ∧ newK hd.at_ H td.size [td.zero] fun o v H' => K (.p o v 0 0) H' | none => False
  | .box t x => match T.get t with | some td => 0 < td.size ∧ (ρ x).cells.length = td.size ∧ (ρ x).told = true ∧ (match hd.own with | true => newK hd.at_ H td.size [ρ x] fun o v H' => K (.p o v 0 0) H' | false => K (.pe (ρ x).cells) H) | none => False
  | .build t parts => match T.get t with
    | some td => match td.k with
      | .struct fs => match fillD (placeS T fs) td.zero.cells (parts.toList.map fun p => (p.1, ρ p.2)) with | some cs => (∀ f ∈ fs, (T.get f.2).isSome = true) ∧ K (.agg cs) H | none => False
      | .array n e => match T.get e with
        | some te => match fillD (fun i => some (i * te.size, te.size)) td.zero.cells (parts.toList.map fun p => (p.1, ρ p.2)) with | some cs => K (.agg cs) H | none => False
        | none => False
      | _ => False
    | none => False
  | .buildSlice t len parts => match T.get t with
    | some td => match td.k with
      | .slice e => match T.get e with
        | some te => 0 < te.size ∧ len * te.size ≤ 16777216 ∧ (match litRows te.size te.zero len (parts.toList.map fun p => (p.1, ρ p.2)) with | some rows => (match hd.own with | true => newK hd.at_ H te.size rows fun o v H' => K (.h o v 0 len) H' | false => K (.sl rows) H) | none => False)
        | none => False
      | _ => False
    | none => False
  | .load t a => loadK T t (ρ a) H fun d => K d H
  | .store t a x => storeK T t (ρ a) (ρ x) H fun H' => K (.tup []) H'
  | .nilCheck x => match ρ x with | .p o ver i j => (ptrCells H (.p o ver i j)).isSome = true ∧ K (.p o ver i j) H | .pe cs => K (.pe cs) H | .fn f caps => K (.fn f caps) H | _ => False
  | .binOp op t x y _ => binK T op t (ρ x) (ρ y) (fun d => K d H) ∨ nilK T H op t (ρ x) (ρ y) fun d => K d H
  | .unOp op _ x => match op, ρ x with
    | .neg, .int k n => K (.int k (k.wrap (0 - n))) H
    | .xor, .int k n => K (.int k (bitsI .xor k (if k.signed then -1 else k.max) n)) H
    | .not, .bool b => K (.bool (!b)) H
    | _, _ => False
  | .convert src dst x => match T.get src, T.get dst, ρ x with
    | some ts, some td, .int _ n => (∃ q, ts.k = .int q) ∧ (match td.k with | .int k => K (.int k (k.wrap n)) H | _ => False)
    | some ts, some td, .str s => ts.k = .string ∧ (match td.k with
      | .string => K (.str s) H
      | .slice e => (∃ te, T.get e = some te ∧ te.k = .int .u8) ∧ K (.sl (strBytes s)) H
      | _ => False)
    | some ts, some td, x => (td.k = .string ∧ ∃ e te, ts.k = .slice e ∧ T.get e = some te ∧ te.k = .int .u8 ∧ ∃ xs, rowsOf H x = some xs ∧ xs.all isU8 = true ∧ K (.str ⟨(xs.map byteOf).toArray⟩) H) ∨ markK T hd src dst ts td x H K
    | _, _, _ => False
  | .makeFunc fn first captured => match fn, first.toList with | .func f, [] => K (.fn f (captured.toList.map ρ)) H | _, _ => False
  | .makeMap t r => match T.get t, r with
    | some td, none => (∃ q e, td.k = .map q e) ∧ K (.map H.length) (H ++ [.map []])
    | _, _ => False
  | .makeSlice t l c => match T.get t with
    | some td => match td.k with
      | .slice e => match T.get e, ρ l, ρ c with
        | some te, .int .i64 n, .int .i64 m => n = m ∧ 0 < te.size ∧ 0 ≤ n ∧ te.bytes * n ≤ 281474976710656 ∧ n ≤ 9223372036854775807 ∧ (match hd.own with | true => K (.sl (List.replicate n.toNat te.zero)) H | false => newK hd.at_ H te.size (List.replicate n.toNat te.zero) fun o v H' => K (.h o v 0 n.toNat) H')
        | _, _, _ => False
      | _ => False
    | none => False
  | .slice t x lo hi mx => match mx with | none => sliceK T t (ρ x) (lo.map ρ) (hi.map ρ) H (fun d => K d H) ∨ arrSlK T t (ρ x) (lo.map ρ) (hi.map ρ) H fun d => K d H | some _ => False
  | .fieldAddr t x f => match T.get t with
    | some td => match td.k with
      | .struct fs => match fs[f]? with
        | some (off, ft) => (∃ tf, T.get ft = some tf ∧ 0 < tf.size) ∧ (match ρ x with
          | .p o ver i j => (∃ sz rows, H[o]? = some (.arr ver sz rows) ∧ i < rows.length ∧ j + off < sz) ∧ K (.p o ver i (j + off)) H
          | .pe cs => K (.pe (cs.drop off)) H
          | _ => False)
        | none => False
      | _ => False
    | none => False
  | .field t x f => match T.get t with
    | some td => match td.k with
      | .struct fs => match fs[f]?, ρ x with
        | some (off, ft), .agg cs => partK T ft cs off fun d => K d H
        | _, _ => False
      | _ => False
    | none => False
  | .indexAddr t x ix => match T.get t with
    | some td => match td.k with
      | .slice e => match T.get e, ρ ix with
        | some te, .int _ n => (match ρ x with
          | .sl xs => 0 ≤ n ∧ ∃ row, xs[n.toNat]? = some row ∧ row.cells.length = te.size ∧ K (.pe row.cells) H
          | .h o ver i m => 0 ≤ n ∧ n < m ∧ (match H[o]? with | some (.arr v sz rows) => v = ver ∧ sz = te.size ∧ i + n.toNat < rows.length ∧ K (.p o ver (i + n.toNat) 0) H | _ => False)
          | _ => False)
        | _, _ => False
      | .array len e => match T.get e, ρ ix with
        | some te, .int _ n => (match ρ x with
          | .pe cs => 0 ≤ n ∧ n < len ∧ K (.pe (cs.drop (n.toNat * te.size))) H
          | .p o ver i j => 0 ≤ n ∧ n < len ∧ (∃ sz rows, H[o]? = some (.arr ver sz rows) ∧ i < rows.length ∧ j + n.toNat * te.size < sz) ∧ K (.p o ver i (j + n.toNat * te.size)) H
          | _ => False)
        | _, _ => False
      | _ => False
    | none => False
  | .index t x ix => match T.get t, ρ ix with
    | some td, .int _ n => (match td.k, ρ x with
      | .string, .str s => 0 ≤ n ∧ ∃ b, s[n.toNat]? = some b ∧ K (.int .u8 b.toNat) H
      | .array len e, .agg cs => (match T.get e with | some te => 0 ≤ n ∧ n < len ∧ partK T e cs (n.toNat * te.size) fun d => K d H | none => False)
      | _, _ => False)
    | _, _ => False
  | .lookup t m k ok => (∃ td q e tq iq, T.get t = some td ∧ td.k = .map q e ∧ T.get q = some tq ∧ tq.k = .int iq) ∧ (match ρ m with
    | .map o => (match H[o]? with
      | some (.map es) => keyOk (ρ k) es ∧ (match T.get t with
        | some td => (match td.k with
          | .map _ e => (match T.get e with
            | some te => (match mapFind (ρ k) es with
              | some v => K (if ok then .tup [v, .bool true] else v) H
              | none => K (if ok then .tup [te.zero, .bool false] else te.zero) H)
            | none => False)
          | _ => False)
        | none => False)
      | _ => False)
    | _ => False)
  | .mapUpdate t m k x => (∃ td q e tq iq, T.get t = some td ∧ td.k = .map q e ∧ T.get q = some tq ∧ tq.k = .int iq) ∧ (match ρ m with
    | .map o => (match H[o]? with
      | some (.map es) => keyOk (ρ k) es ∧ K (.tup []) (H.set o (.map (mapPut (ρ k) (ρ x) es)))
      | _ => False)
    | _ => False)
  | .extract x ix => match ρ x with | .tup vs => (match vs[ix]? with | some v => K v H | none => False) | _ => False
  | .makeInterface t x => (∃ td, T.get t = some td ∧ td.k ≠ .other) ∧ K (.ifc t (ρ x)) H
  | .call c => match c.callee with
    | .builtin b => biK T hd.at_ b c.argTypes.toList (c.args.toList.map ρ) H K
    | _ => False
  | _ => False

end Go.A
