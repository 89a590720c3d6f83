/- A logic of abstract states, part 14: all operations gone through by computing. -/
import Derived.Test.YtgigpjkdfhhahaaA13
namespace Go.A
set_option linter.unusedVariables false
set_option linter.unusedSimpArgs false

def lenF (T : Tab) (t : TypeId) (x : D) (H : List AObj) (X : Res → Prop) : Prop :=
  tyK T t fun td => match x with
  | .map o => objK H o fun ob => match ob, td.k with
    | .map es, .map _ _ => X (.val (.int .i64 es.length) [o])
    | _, _ => False
  | .str s => match td.k with | .string => X (.val (.int .i64 s.size) []) | _ => False
  | .sl xs => match td.k with | .slice _ => ∃ n : Nat, IsE n xs.length ∧ X (.val (.int .i64 n) []) | _ => False
  | .nils => match td.k with | .slice _ => X (.val (.int .i64 (0 : Nat)) []) | _ => False
  | .h o ver i n => match td.k with | .slice _ => arrK H o ver fun _ _ => X (.val (.int .i64 n) [o]) | _ => False
  | _ => False

def srcF (H : List AObj) (x : D) (sz : Nat) (X : List D → List Nat → Prop) : Prop :=
  match x with
  | .str s => boolK (Nat.beq sz 1) (X (strBytes s) [])
  | x => rowsF H x X

def intMap (T : Tab) (td : TD) : Bool :=
  match td.k with
  | .map q _ => (match T.get q with | some tq => (match tq.k with | .int _ => true | _ => false) | none => false)
  | _ => false

def mapK (H : List AObj) (o : Nat) (X : List (D × D) → Prop) : Prop :=
  objK H o fun ob => match ob with
  | .map es => X es
  | _ => False

theorem mapK_ok {H : List AObj} {o : Nat} {X : List (D × D) → Prop} (h : mapK H o X) : ∃ es, H[o]? = some (.map es) ∧ X es := by
  replace h := objK_iff.mp h
  obtain ⟨ob, h1, h2⟩ := h
  split at h2
  · exact ⟨_, h1, h2⟩
  · exact h2.elim

def minF (k : IntKind) (v : Int) (X : Res → Prop) : Prop :=
  match kU k with
  | true => ∃ r : Nat, (r : Int) = v ∧ X (.val (.int k (r : Int)) [])
  | false => ∃ r : Int, r = v ∧ X (.val (.int k r) [])

theorem minF_ok {k : IntKind} {v : Int} {X : Res → Prop} (h : minF k v X) : ∃ r, X r ∧ r = .val (.int k v) [] := by
  unfold minF at h
  split at h
  · obtain ⟨r, rfl, h⟩ := h
    exact ⟨_, h, rfl⟩
  · obtain ⟨r, rfl, h⟩ := h
    exact ⟨_, h, rfl⟩

def biF (T : Tab) (b : Builtin) (ts : List TypeId) (xs : List D) (H : List AObj) (X : Res → Prop) : Prop :=
  match b, ts, xs with
  | .len, t :: _, [x] => lenF T t x H X
  | .cap, t :: _, [.nils] => tyK T t fun td => match td.k with | .slice _ => X (.val (.int .i64 0) []) | _ => False
  | .append, t :: t' :: _, [.nils, .int _ (.ofNat n)] => tyK T t' fun td' => (match td'.k with
    | .int _ => tyK T t fun td => (match td.k with
      | .slice e => tyK T e fun te => boolK (Nat.blt 0 te.size) <| boolK (Nat.blt 0 te.bytes) <| findL byteTab te.bytes fun q => 0 < n ∧ n * q ≤ 140737488355328 ∧ zK te.zero fun z => X (.new te.size (List.replicate n z) (fun o v => .h o v 0 n) [])
      | _ => False)
    | _ => False)
  | .append, t :: t' :: _, [.h o ver i m, .int _ (.ofNat n)] => tyK T t' fun td' => (match td'.k with
    | .int _ => tyK T t fun td => (match td.k with
      | .slice e => tyK T e fun te => zK te.zero fun z => appF T t (.h o ver i m) (List.replicate n z) [] H X
      | _ => False)
    | _ => False)
  | .append, t :: t' :: _, [s, x] => tyK T t' fun td' => (match x with
    | .str b => (match td'.k with
      | .string => tyK T t fun td => (match td.k with
        | .slice e => tyK T e fun te => boolK (Nat.beq te.size 1) (appF T t s (strBytes b) [] H X)
        | _ => False)
      | _ => False)
    | x => (match td'.k with
      | .slice _ => (match x with
        | .sl ys => appF T t s ys [] H X
        | .nils => appF T t s [] [] H X
        | .h o ver i n => arrK H o ver fun _ rows => ∃ ys, IsE ys ((rows.drop i).take n) ∧ appF T t s ys [o] H X
        | _ => False)
      | _ => False))
  | .min, _, [.int k a, .int k' b] => boolK (sameKind k k') (minF k (if b < a then b else a) X)
  | .max, _, [.int k a, .int k' b] => boolK (sameKind k k') (minF k (if b > a then b else a) X)
  | .copy, t :: _, [.h o ver i n, x] => tyK T t fun td => (match td.k with
    | .slice e => tyK T e fun te => srcF H x te.size fun ys rd => okRows te.size ys ∧ arrK H o ver fun sz rows => sz = te.size ∧
        X (.upd (.int .i64 ((min ys.length n : Nat) : Int)) rd o (.arr ver sz (spliceL rows i (ys.take (min ys.length n)))))
    | _ => False)
  | .clear, t :: _, [.h o ver i n] => tyK T t fun td => (match td.k with
    | .slice e => tyK T e fun te => arrK H o ver fun sz rows => sz = te.size ∧ X (.upd (.tup []) [] o (.arr ver sz (spliceL rows i (List.replicate n te.zero))))
    | _ => False)
  | .clear, t :: _, [.map o] => tyK T t fun td => (match td.k with
    | .map _ _ => mapK H o fun _ => X (.upd (.tup []) [] o (.map []))
    | _ => False)
  | .delete, t :: _, [.map o, k] => tyK T t fun td => boolK (intMap T td) (mapK H o fun es => keyOk k es ∧ X (.upd (.tup []) [] o (.map (mapDel k es))))
  | _, _, _ => False

/-- From where, to where: as numbers. -/
def cutF (n : Nat) (lo hi : Option D) (X : Nat → Nat → Prop) : Prop :=
  match lo, hi with
  | none, none => X 0 n
  | none, some (.int _ h) => ∃ m : Nat, IsE h (m : Int) ∧ m ≤ n ∧ X 0 m
  | some (.int _ l), none => ∃ m : Nat, IsE l (m : Int) ∧ m ≤ n ∧ X m n
  | some (.int _ l), some (.int _ h) => ∃ m q : Nat, IsE l (m : Int) ∧ IsE h (q : Int) ∧ m ≤ q ∧ q ≤ n ∧ X m q
  | _, _ => False

def cutL {α : Type} (lo hi : Option D) (xs : List α) (m q : Nat) : List α :=
  match lo, hi with
  | none, none => xs
  | none, _ => xs.take q
  | _, none => xs.drop m
  | _, _ => (xs.drop m).take (q - m)

theorem cutF_ok {n : Nat} {lo hi : Option D} {X : Nat → Nat → Prop} (h : cutF n lo hi X) : ∃ m q : Nat, X m q ∧ loB lo = some (m : Int) ∧ hiB n hi = some (q : Int) ∧ m ≤ q ∧ q ≤ n ∧ ∀ {α : Type} (xs : List α), xs.length = n → cutL lo hi xs m q = (xs.drop m).take (q - m) := by
  unfold cutF at h
  split at h
  · exact ⟨0, n, h, rfl, rfl, Nat.zero_le _, Nat.le_refl _, fun xs hx => by simp [cutL, ← hx]⟩
  · obtain ⟨m, ⟨rfl⟩, h1, h2⟩ := h
    exact ⟨0, m, h2, rfl, rfl, Nat.zero_le _, h1, fun xs hx => by simp [cutL]⟩
  · obtain ⟨m, ⟨rfl⟩, h1, h2⟩ := h
    exact ⟨m, n, h2, rfl, rfl, h1, Nat.le_refl _, fun xs hx => by
      simp only [cutL]
      rw [List.take_of_length_le (by simp; omega)]⟩
  · obtain ⟨m, q, ⟨rfl⟩, ⟨rfl⟩, h1, h2, h3⟩ := h
    exact ⟨m, q, h3, rfl, rfl, h1, h2, fun xs hx => rfl⟩
  · exact h.elim

def sliceF (T : Tab) (t : TypeId) (x : D) (lo hi : Option D) (H : List AObj) (X : Res → Prop) : Prop :=
  tyK T t fun td => match td.k, x with
  | .string, .str s => cutF s.size lo hi fun m q => X (.val (.str (s.extract m q)) [])
  | .slice e, .sl xs => tyK T e fun te => (∀ y ∈ xs, y.cells.length = te.size) ∧ ∃ n, IsE n xs.length ∧ cutF n lo hi fun m q => ∃ ys, IsE ys (cutL lo hi xs m q) ∧ X (.val (.sl ys) [])
  | .slice e, .nils => tyK T e fun te => cutF 0 lo hi fun m q => X (.val .nils [])
  | .slice e, .h o ver i n => tyK T e fun te => arrK H o ver fun sz rows => boolK (Nat.beq sz te.size) <| cutF n lo hi fun m q => ∃ i' n' : Nat, IsE i' (i + m) ∧ IsE n' (q - m) ∧ X (.val (.h o ver i' n') [o])
  | .array n e, .p o ver i 0 => tyK T e fun te => arrK H o ver fun sz rows => (match lo, hi with
    | none, none => sz = te.size ∧ 0 < n ∧ i + n ≤ rows.length ∧ X (.val (.h o ver i n) [o])
    | _, _ => False)
  | _, _ => False

def cellF (cs : List D) (off : Nat) (X : D → Prop) : Prop :=
  dropK off cs fun cs => match cs with | c :: _ => X c | [] => False

def partF (T : Tab) (t : TypeId) (cs : List D) (off : Nat) (X : D → Prop) : Prop :=
  tyK T t fun td => match td.k.isAgg with
  | true => boolK (Nat.blt 0 td.size) <| dropK off cs fun cs => takeK td.size cs fun cs => X (.agg cs)
  | false => cellF cs off X

/-- The same at an index that is not known. -/
def partI (T : Tab) (t : TypeId) (cs : List D) (off : Nat) (X : D → Prop) : Prop :=
  tyK T t fun td => match td.k.isAgg with
  | true => off + td.size ≤ cs.length ∧ X (.agg ((cs.drop off).take td.size))
  | false => ∃ c, cs[off]? = some c ∧ X c

def fieldF (td : TD) (f : Nat) (X : Nat → TypeId → Prop) : Prop :=
  match td.k with
  | .struct fs => (match fs[f]? with | some (off, ft) => X off ft | none => False)
  | _ => False

/-- Whether or not, of what is nil. -/
def nilB (op : BinOp) (X : Bool → Prop) : Prop :=
  match op with
  | .eql => X false
  | .neq => X true
  | _ => False
/-- Two values, of which one may be owned, and the other one nil. -/
def pnF (T : Tab) (H : List AObj) (op : BinOp) (t : TypeId) (x y : D) (X : Res → Prop) : Prop :=
  match x, y with
  | .p o ver _ _, .pnil | .pnil, .p o ver _ _ => arrK H o ver fun _ _ => tyK T t fun td => (match td.k with | .pointer _ => nilB op fun b => X (.val (.bool b) [o]) | _ => False)
  | .map o, .mnil | .mnil, .map o => mapK H o fun _ => tyK T t fun td => (match td.k with | .map _ _ => nilB op fun b => X (.val (.bool b) [o]) | _ => False)
  | x, y => binF T op t x y fun d => X (.val d [])

/-- How operations are taken. -/
structure Cf where
  own : Bool := false
  n : Nat := 0

def sliceOf (e : TypeId) : TK → Bool
  | .slice e' => Nat.beq e e'
  | _ => false

theorem sliceOf_ok {e : TypeId} {k : TK} (h : sliceOf e k = true) : k = .slice e := by
  unfold sliceOf at h
  split at h
  · rw [Nat.eq_of_beq_eq_true h]
  · cases h

def opF (T : Tab) (cf : Cf) (bx : List Bool) (op : Op) (s : List D) (H : List AObj) (X : Res → Prop) : Prop :=
  match op with
  | .move x | .assign x => evK s x fun d => X (.val d [])
  | .pick c a b => evK s c fun c => match c with
    | .bool t => boolF t (evK s a fun d => X (.val d [])) (evK s b fun d => X (.val d []))
    | _ => False
  | .alloc t => tyK T t fun td => boolK (Nat.blt 0 td.size) <| zK td.zero fun z => X (.new td.size [z] (fun o v => .p o v 0 0) [])
  | .box t x => tyK T t fun td => evK s x fun d => boolK (Nat.blt 0 td.size) <| boolK (Nat.beq d.cells.length td.size) <| boolK d.told <| (match cf.own with | true => X (.new td.size [d] (fun o v => .p o v 0 0) []) | false => listK d.cells fun cs => X (.val (.pe cs) []))
  | .build t parts => tyK T t fun td => partsK s parts.toList fun ps => match td.k with
    | .struct fs => (match fillD (placeS T fs) td.zero.cells ps with | some cs => boolK (fs.all fun f => (T.get f.2).isSome) (listK cs fun cs => X (.val (.agg cs) [])) | none => False)
    | .array n e => tyK T e fun te => (match fillD (fun i => some (i * te.size, te.size)) td.zero.cells ps with | some cs => listK cs fun cs => X (.val (.agg cs) []) | none => False)
    | _ => False
  | .buildSlice t len parts => tyK T t fun td => partsK s parts.toList fun ps => match td.k with
    | .slice e => tyK T e fun te => boolK (Nat.blt 0 te.size) <| boolK (Nat.ble (len * te.size) 16777216) <| (match litRows te.size te.zero len ps with
      | some rows => listK rows fun rows => (match cf.own with | true => X (.new te.size rows (fun o v => .h o v 0 len) []) | false => X (.val (.sl rows) []))
      | none => False)
    | _ => False
  | .load t a => evK s a fun p => loadF T bx t p H X
  | .store t a x => evK s a fun p => evK s x fun x => storeF T bx t p x H X
  | .nilCheck x => evK s x fun p => match p with
    | .p o ver i j => arrK H o ver fun _ rows => rowF (isBx bx o) rows i fun _ => X (.val (.p o ver i j) [o])
    | .pe cs => X (.val (.pe cs) [])
    | .fn f caps => X (.val (.fn f caps) [])
    | _ => False
  | .binOp op t x y _ => evK s x fun x => evK s y fun y => pnF T H op t x y X
  | .unOp op _ x => evK s x fun x => match op, x with
    | .neg, .int k n => X (.val (.int k (k.wrap (0 - n))) [])
    | .xor, .int k n => X (.val (.int k (bitsI .xor k (if k.signed then -1 else k.max) n)) [])
    | .not, .bool b => X (.val (.bool (!b)) [])
    | _, _ => False
  | .convert src dst x => tyK T src fun ts => tyK T dst fun td => evK s x fun x => match ts.k, td.k, x with
    | .int ks, .int k, .int _ n => (match kU k with
      | true => (match n with
        | .ofNat m => ∃ r : Nat, (r : Int) = k.wrap (m : Int) ∧ X (.val (.int k (r : Int)) [])
        | _ => False)
      | false => ∃ r : Int, r = k.wrap n ∧ X (.val (.int k r) []))
    | .string, .string, .str s => X (.val (.str s) [])
    | .string, .slice e, .str s => tyK T e fun te => (match te.k with | .int .u8 => X (.val (.sl (strBytes s)) []) | _ => False)
    | .slice e, .slice _, .h o ver i m => boolK (Nat.beq src dst) <| boolK (sliceOf e td.k) <| tyK T e fun te => (match te.k with | .int .u8 => arrK H o ver fun sz rows => 0 < m ∧ cf.n ≤ o ∧ (match cf.own with | true => X (.upd (.h o ver i m) [] o (.arr ver sz rows)) | false => X (.upd (.sl ((rows.drop i).take m)) [] o .gone)) | _ => False)
    | .slice e, .string, .sl xs => tyK T e fun te => (match te.k with | .int .u8 => xs.all isU8 = true ∧ X (.val (.str ⟨(xs.map byteOf).toArray⟩) []) | _ => False)
    | .slice e, .string, .nils => tyK T e fun te => (match te.k with | .int .u8 => X (.val (.str ⟨(([] : List D).map byteOf).toArray⟩) []) | _ => False)
    | .slice e, .string, .h o ver i n => tyK T e fun te => (match te.k with | .int .u8 => arrK H o ver fun _ rows => ((rows.drop i).take n).all isU8 = true ∧ X (.val (.str ⟨(((rows.drop i).take n).map byteOf).toArray⟩) [o]) | _ => False)
    | _, _, _ => False
  | .makeFunc fn first captured => match fn, first.toList with
    | .func f, [] => evsK s captured.toList fun cs => X (.val (.fn f cs) [])
    | _, _ => False
  | .makeMap t r => tyK T t fun td => match td.k, r with
    | .map _ _, none => X .newMap
    | _, _ => False
  | .makeSlice t l c => tyK T t fun td => match td.k with
    | .slice e => tyK T e fun te => boolK (Nat.blt 0 te.size) <| evK s l fun l => evK s c fun c => (match l, c with
      | .int .i64 n, .int .i64 m => n = m ∧ 0 ≤ n ∧ te.bytes * n ≤ 281474976710656 ∧ n ≤ 9223372036854775807 ∧ zK te.zero fun z => (match cf.own with | true => X (.val (.sl (List.replicate n.toNat z)) []) | false => X (.new te.size (List.replicate n.toNat z) (fun o v => .h o v 0 n.toNat) []))
      | _, _ => False)
    | _ => False
  | .slice t x lo hi mx => match mx with
    | none => evK s x fun x => optK s lo fun lo => optK s hi fun hi => sliceF T t x lo hi H X
    | some _ => False
  | .fieldAddr t x f => tyK T t fun td => fieldF td f fun off ft => tyK T ft fun tf => boolK (Nat.blt 0 tf.size) <| evK s x fun p => match p with
    | .p o ver i j => arrK H o ver fun sz rows => i < rows.length ∧ j + off < sz ∧ X (.val (.p o ver i (j + off)) [o])
    | .pe cs => dropK off cs fun cs => X (.val (.pe cs) [])
    | _ => False
  | .field t x f => tyK T t fun td => fieldF td f fun off ft => evK s x fun x => match x with
    | .agg cs => partF T ft cs off fun d => X (.val d [])
    | _ => False
  | .indexAddr t x ix => tyK T t fun td => match td.k with
    | .slice e => tyK T e fun te => evK s x fun x => evK s ix fun ix => (match ix, x with
      | .int _ n, .sl xs => 0 ≤ n ∧ ∃ row, xs[n.toNat]? = some row ∧ row.cells.length = te.size ∧ listK row.cells fun cs => X (.val (.pe cs) [])
      | .int _ n, .h o ver i m => arrK H o ver fun sz rows => 0 ≤ n ∧ n < m ∧ sz = te.size ∧ i + n.toNat < rows.length ∧ X (.val (.p o ver (i + n.toNat) 0) [o])
      | _, _ => False)
    | .array len e => tyK T e fun te => evK s x fun x => evK s ix fun ix => (match ix, x with
      | .int _ n, .pe cs => 0 ≤ n ∧ n < len ∧ dropK (n.toNat * te.size) cs fun cs => X (.val (.pe cs) [])
      | .int _ n, .p o ver i j => arrK H o ver fun sz rows => 0 ≤ n ∧ n < len ∧ i < rows.length ∧ j + n.toNat * te.size < sz ∧ X (.val (.p o ver i (j + n.toNat * te.size)) [o])
      | _, _ => False)
    | _ => False
  | .index t x ix => tyK T t fun td => evK s x fun x => evK s ix fun ix => match td.k, x, ix with
    | .string, .str s, .int _ n => 0 ≤ n ∧ ∃ b, s[n.toNat]? = some b ∧ X (.val (.int .u8 b.toNat) [])
    | .array len e, .agg cs, .int _ n => tyK T e fun te => 0 ≤ n ∧ n < len ∧ partI T e cs (n.toNat * te.size) fun d => X (.val d [])
    | _, _, _ => False
  | .lookup t m k ok => tyK T t fun td => boolK (intMap T td) <| evK s m fun m => evK s k fun k => match m with
    | .map o => mapK H o fun es => keyOk k es ∧ (match td.k with
      | .map _ e => tyK T e fun te => (∀ v, mapFind k es = some v → X (.val (if ok then .tup [v, .bool true] else v) [o])) ∧ (mapFind k es = none → X (.val (if ok then .tup [te.zero, .bool false] else te.zero) [o]))
      | _ => False)
    | _ => False
  | .mapUpdate t m k x => tyK T t fun td => boolK (intMap T td) <| evK s m fun m => evK s k fun k => evK s x fun x => match m with
    | .map o => mapK H o fun es => keyOk k es ∧ X (.upd (.tup []) [] o (.map (mapPut k x es)))
    | _ => False
  | .extract x ix => evK s x fun x => match x with
    | .tup vs => cellF vs ix fun d => X (.val d [])
    | _ => False
  | .makeInterface t x => tyK T t fun td => evK s x fun d => match td.k with
    | .other => False
    | _ => X (.val (.ifc t d) [])
  | .call c => match c.callee with
    | .builtin b => evsK s c.args.toList fun xs => biF T b c.argTypes.toList xs H X
    | _ => False
  | _ => False

/-- What comes of an operation, wherever what it looks at is alike. -/
def Good (T : Tab) (cf : Cf) (op : Op) (s : List D) (H : List AObj) (r : Res) : Prop :=
  ∀ (s' : List D) (H' : List AObj) (pl : Option Nat) (K : D → List AObj → Prop), (∀ x ∈ op.operands.toList, ev s' x = ev s x) → (∀ o ∈ r.rds, H'[o]? = H[o]?) → r.go pl H' K → opK T ⟨cf.own, pl, cf.n⟩ op (ev s') H' K

section
variable {T : Tab} {cf : Cf} {bx : List Bool} {s : List D} {H : List AObj} {X : Res → Prop}

theorem cellsF_ok {td : TD} {cs : List D} {X : D → Prop} (h : cellsF td cs X) : ∃ d, X d ∧ ((td.k.isAgg = true ∧ td.size ≤ cs.length ∧ d = .agg (cs.take td.size)) ∨ (td.k.isAgg = false ∧ ∃ r, cs = d :: r)) := by
  unfold cellsF at h
  split at h
  · rename_i hk
    replace h := takeK_iff.mp h
    obtain ⟨h1, h2⟩ := h
    exact ⟨_, h2, .inl ⟨hk, h1, rfl⟩⟩
  · rename_i hk
    split at h
    · exact ⟨_, h, .inr ⟨hk, _, rfl⟩⟩
    · exact h.elim

theorem pnF_ok {op : BinOp} {t : TypeId} {x y : D} (h : pnF T H op t x y X) : ∃ r, X r ∧ ∀ (H' : List AObj) (pl : Option Nat) (K : D → List AObj → Prop), (∀ o ∈ r.rds, H'[o]? = H[o]?) → r.go pl H' K →
    (binK T op t x y (fun d => K d H') ∨ nilK T H' op t x y fun d => K d H') := by
  have key : ∀ {Y : Bool → Prop}, nilB op Y → ∃ b, Y b ∧ ∀ K : D → Prop, K (.bool b) → ((op = .eql ∧ K (.bool false)) ∨ (op = .neq ∧ K (.bool true))) := fun {Y} hy => by
    cases op <;> simp only [nilB] at hy
    · exact ⟨false, hy, fun K hk => .inl ⟨rfl, hk⟩⟩
    · exact ⟨true, hy, fun K hk => .inr ⟨rfl, hk⟩⟩
  unfold pnF at h
  split at h
  · obtain ⟨sz, rows, h1, h2⟩ := arrK_ok h
    obtain ⟨td, h3, h4⟩ := tyK_iff.mp h2
    split at h4
    · rename_i e hk
      obtain ⟨b, h5, h6⟩ := key h4
      exact ⟨_, h5, fun H' pl K hH hK => .inr ⟨h6 (fun d => K d H') hK, ⟨sz, rows, (hH _ (List.mem_cons_self ..)).trans h1⟩, td, e, h3, hk⟩⟩
    · exact h4.elim
  · obtain ⟨sz, rows, h1, h2⟩ := arrK_ok h
    obtain ⟨td, h3, h4⟩ := tyK_iff.mp h2
    split at h4
    · rename_i e hk
      obtain ⟨b, h5, h6⟩ := key h4
      exact ⟨_, h5, fun H' pl K hH hK => .inr ⟨h6 (fun d => K d H') hK, ⟨sz, rows, (hH _ (List.mem_cons_self ..)).trans h1⟩, td, e, h3, hk⟩⟩
    · exact h4.elim
  · obtain ⟨es, h1, h2⟩ := mapK_ok h
    obtain ⟨td, h3, h4⟩ := tyK_iff.mp h2
    split at h4
    · rename_i q e hk
      obtain ⟨b, h5, h6⟩ := key h4
      exact ⟨_, h5, fun H' pl K hH hK => .inr ⟨h6 (fun d => K d H') hK, ⟨es, (hH _ (List.mem_cons_self ..)).trans h1⟩, td, q, e, h3, hk⟩⟩
    · exact h4.elim
  · obtain ⟨es, h1, h2⟩ := mapK_ok h
    obtain ⟨td, h3, h4⟩ := tyK_iff.mp h2
    split at h4
    · rename_i q e hk
      obtain ⟨b, h5, h6⟩ := key h4
      exact ⟨_, h5, fun H' pl K hH hK => .inr ⟨h6 (fun d => K d H') hK, ⟨es, (hH _ (List.mem_cons_self ..)).trans h1⟩, td, q, e, h3, hk⟩⟩
    · exact h4.elim
  · obtain ⟨d, h1, h2⟩ := binF_ok h
    exact ⟨_, h1, fun H' pl K hH hK => .inl (h2 _ hK)⟩

theorem loadF_ok {t : TypeId} {p : D} (h : loadF T bx t p H X) : ∃ d rd, X (.val d rd) ∧ ∀ (H' : List AObj) (K : D → Prop), (∀ o ∈ rd, H'[o]? = H[o]?) → K d → loadK T t p H' K := by
  replace h := tyK_iff.mp h
  obtain ⟨td, ht, h⟩ := h
  have fin : ∀ {H' : List AObj} {cs : List D} {d : D} {K : D → Prop}, ptrCells H' p = some cs → ((td.k.isAgg = true ∧ td.size ≤ cs.length ∧ d = .agg (cs.take td.size)) ∨ (td.k.isAgg = false ∧ ∃ r, cs = d :: r)) → K d → loadK T t p H' K := fun h1 h2 h3 => by
    unfold loadK
    rw [ht]
    refine ⟨_, h1, ?_⟩
    rcases h2 with ⟨k1, k2, rfl⟩ | ⟨k1, r, rfl⟩
    · rw [k1]; exact ⟨k2, h3⟩
    · rw [k1]; exact h3
  split at h
  · replace h := cellsF_ok h
    obtain ⟨d, h1, h2⟩ := h
    exact ⟨d, [], h1, fun H' K _ hK => fin rfl h2 hK⟩
  · rename_i o ver i j
    replace h := arrK_ok h
    obtain ⟨sz, rows, h1, h2⟩ := h
    obtain ⟨row, h3, h4⟩ := rowF_ok h2
    obtain ⟨d, h5, h6⟩ := cellsF_ok (dropK_iff.mp h4)
    refine ⟨d, [o], h5, fun H' K hH hK => fin (cs := row.cells.drop j) ?_ h6 hK⟩
    have := (hH o (by simp)).trans h1
    simp [ptrCells, this, h3]
  · exact h.elim

theorem storeF_ok {t : TypeId} {p x : D} (h : storeF T bx t p x H X) : ∃ o ob, X (.upd (.tup []) [] o ob) ∧ ∀ (H' : List AObj) (K : List AObj → Prop), H'[o]? = H[o]? → K (H'.set o ob) → storeK T t p x H' K := by
  replace h := tyK_iff.mp h
  obtain ⟨td, ht, h⟩ := h
  split at h
  · rename_i o ver i j
    replace h := arrK_ok h
    obtain ⟨sz, rows, h1, h2⟩ := h
    obtain ⟨row, h3, h4⟩ := rowF_ok h2
    obtain ⟨c1, h4⟩ := boolK_iff.mp h4
    obtain ⟨c2, h4⟩ := boolK_iff.mp h4
    obtain ⟨c3, h4⟩ := boolK_iff.mp h4
    obtain ⟨c4, h4⟩ := boolK_iff.mp (listK_iff.mp h4)
    have h5 := mkRowK_iff.mp h4
    rw [setRow_eq] at h5
    refine ⟨o, _, h5, fun H' K hH hK => ?_⟩
    unfold storeK
    rw [ht]
    simp only [hH.trans h1]
    exact ⟨trivial, row, h3, Nat.eq_of_beq_eq_true c1, Nat.le_of_ble_eq_true c2, c3, c4, hK⟩
  · exact h.elim

theorem appF_ok {t : TypeId} {sd : D} {ys : List D} {rd : List Nat} (h : appF T t sd ys rd H X) :
    ∃ r, X r ∧ (∀ o ∈ rd, o ∈ r.rds) ∧ ∀ (H' : List AObj) (pl : Option Nat) (K : D → List AObj → Prop), (∀ o ∈ r.rds, H'[o]? = H[o]?) → r.go pl H' K → appK T pl t sd ys H' K := by
  replace h := tyK_iff.mp h
  obtain ⟨td, ht, h⟩ := h
  split at h
  · rename_i e hk
    replace h := tyK_iff.mp h
    obtain ⟨te, hte, h⟩ := h
    replace h := boolK_iff.mp h
    obtain ⟨c1, h⟩ := h
    replace h := boolK_iff.mp h
    obtain ⟨c2, h⟩ := h
    replace h := findL_iff.mp h
    obtain ⟨hy, h⟩ := h
    have b1 : 0 < te.size := by simpa using c1
    have b2 : 0 < te.bytes := by simpa using c2
    split at h
    · obtain ⟨m, ⟨rfl⟩, h1, h2⟩ := h
      exact ⟨_, h2, fun o h => h, fun H' pl K hH hg => ⟨td, e, te, ht, hk, hte, b1, b2, hy, h1, hg⟩⟩
    · replace h := arrK_ok h
      obtain ⟨sz, rows, h1, h2⟩ := h
      obtain ⟨k1, k2, k3, m, ⟨rfl⟩, k4, zs, ⟨rfl⟩, k5⟩ := h2
      refine ⟨_, k5, fun o h => List.mem_cons_of_mem _ h, fun H' pl K hH hg => ⟨td, e, te, ht, hk, hte, b1, b2, hy, ?_⟩⟩
      simp only [appKs, (hH _ (List.mem_cons_self ..)).trans h1]
      exact ⟨trivial, k1, k2, k3, k4, hg⟩
    · exact h.elim
  · exact h.elim

theorem srcF_ok {x : D} {sz : Nat} {X : List D → List Nat → Prop} (h : srcF H x sz X) : ∃ ys rd, X ys rd ∧ ∀ H' : List AObj, (∀ o ∈ rd, H'[o]? = H[o]?) → srcOk H' x sz ys := by
  unfold srcF at h
  split at h
  · replace h := boolK_iff.mp h
    obtain ⟨h1, h2⟩ := h
    exact ⟨_, _, h2, fun _ _ => ⟨rfl, Nat.eq_of_beq_eq_true h1⟩⟩
  · rename_i hn
    replace h := rowsF_ok h
    obtain ⟨ys, rd, h1, h2, h3⟩ := h
    refine ⟨ys, rd, h1, fun H' hH => ?_⟩
    unfold srcOk
    split
    · exact (hn _ rfl).elim
    · exact h3 H' hH

theorem intMap_ok {td : TD} (h : intMap T td = true) : ∃ q e tq iq, td.k = .map q e ∧ T.get q = some tq ∧ tq.k = .int iq := by
  unfold intMap at h
  split at h
  · rename_i q e hk
    split at h
    · rename_i tq hq
      split at h
      · rename_i iq hi
        exact ⟨q, e, tq, iq, hk, hq, hi⟩
      · cases h
    · cases h
  · cases h

theorem lenF_ok {t : TypeId} {x : D} {r0 : List TypeId} (h : lenF T t x H X) :
    ∃ r, X r ∧ ∀ (H' : List AObj) (pl : Option Nat) (K : D → List AObj → Prop), (∀ o ∈ r.rds, H'[o]? = H[o]?) → r.go pl H' K → biK T pl .len (t :: r0) [x] H' K := by
  replace h := tyK_iff.mp h
  obtain ⟨td, ht, h⟩ := h
  split at h
  · rename_i o
    replace h := objK_iff.mp h
    obtain ⟨ob, h1, h2⟩ := h
    split at h2
    · rename_i q e hk
      refine ⟨_, h2, fun H' pl K hH hg => ?_⟩
      simp only [biK, (hH o (List.mem_cons_self ..)).trans h1]
      exact ⟨⟨td, _, _, ht, hk⟩, hg⟩
    · exact h2.elim
  · split at h
    · rename_i hk
      exact ⟨_, h, fun H' pl K hH hg => by simp only [biK]; exact ⟨⟨td, ht, hk⟩, hg⟩⟩
    · exact h.elim
  · split at h
    · rename_i hk
      obtain ⟨n, ⟨rfl⟩, h⟩ := h
      exact ⟨_, h, fun H' pl K hH hg => by simp only [biK, lenD]; exact ⟨⟨td, _, ht, hk⟩, hg⟩⟩
    · exact h.elim
  · split at h
    · rename_i hk
      exact ⟨_, h, fun H' pl K hH hg => by simp only [biK, lenD]; exact ⟨⟨td, _, ht, hk⟩, hg⟩⟩
    · exact h.elim
  · split at h
    · rename_i hk
      replace h := arrK_ok h
      obtain ⟨sz, rows, h1, h2⟩ := h
      exact ⟨_, h2, fun H' pl K hH hg => by
        simp only [biK, lenD, (hH _ (List.mem_cons_self ..)).trans h1, if_true]
        exact ⟨⟨td, _, ht, hk⟩, hg⟩⟩
    · exact h.elim
  · exact h.elim

theorem biF_ok {b : Builtin} {ts : List TypeId} {xs : List D} (h : biF T b ts xs H X) :
    ∃ r, X r ∧ ∀ (H' : List AObj) (pl : Option Nat) (K : D → List AObj → Prop), (∀ o ∈ r.rds, H'[o]? = H[o]?) → r.go pl H' K → biK T pl b ts xs H' K := by
  unfold biF at h
  split at h
  · exact lenF_ok h
  · replace h := tyK_iff.mp h
    obtain ⟨td, ht, h⟩ := h
    split at h
    · rename_i e hk
      refine ⟨_, h, fun H' pl K hH hg => ?_⟩
      simp only [biK]
      exact ⟨⟨td, _, ht, hk⟩, hg⟩
    · exact h.elim
  · replace h := tyK_iff.mp h
    obtain ⟨td', ht', h⟩ := h
    split at h
    · rename_i q hk'
      replace h := tyK_iff.mp h
      obtain ⟨td, ht, h⟩ := h
      split at h
      · rename_i e hk
        replace h := tyK_iff.mp h
        obtain ⟨te, hte, h⟩ := h
        replace h := boolK_iff.mp h
        obtain ⟨c1, h⟩ := h
        replace h := boolK_iff.mp h
        obtain ⟨c2, h⟩ := h
        replace h := findL_iff.mp h
        obtain ⟨h1, h2, h⟩ := h
        replace h := zK_iff.mp h
        refine ⟨_, h, fun H' pl K hH hg => ?_⟩
        simp only [biK]
        exact ⟨⟨td', _, ht', hk'⟩, td, e, te, ht, hk, hte, by simpa using c1, by simpa using c2, h1, h2, hg⟩
      · exact h.elim
    · exact h.elim
  · replace h := tyK_iff.mp h
    obtain ⟨td', ht', h⟩ := h
    split at h
    · rename_i q hk'
      replace h := tyK_iff.mp h
      obtain ⟨td, ht, h⟩ := h
      split at h
      · rename_i e hk
        replace h := tyK_iff.mp h
        obtain ⟨te, hte, h⟩ := h
        replace h := zK_iff.mp h
        obtain ⟨r, h1, _, h2⟩ := appF_ok h
        refine ⟨r, h1, fun H' pl K hH hg => ?_⟩
        simp only [biK]
        exact ⟨⟨td', _, ht', hk'⟩, td, e, te, ht, hk, hte, h2 H' pl K hH hg⟩
      · exact h.elim
    · exact h.elim
  · replace h := tyK_iff.mp h
    obtain ⟨td', ht', h⟩ := h
    split at h
    · split at h
      · rename_i hk'
        replace h := tyK_iff.mp h
        obtain ⟨td, ht, h⟩ := h
        split at h
        · rename_i e hk
          replace h := tyK_iff.mp h
          obtain ⟨te, hte, h⟩ := h
          replace h := boolK_iff.mp h
          obtain ⟨c1, h⟩ := h
          replace h := appF_ok h
          obtain ⟨r, h1, _, h2⟩ := h
          refine ⟨r, h1, fun H' pl K hH hg => ?_⟩
          simp only [biK]
          exact ⟨⟨td', ht', hk'⟩, ⟨td, e, te, ht, hk, hte, Nat.eq_of_beq_eq_true c1⟩, h2 H' pl K hH hg⟩
        · exact h.elim
      · exact h.elim
    · split at h
      · rename_i e' hk'
        split at h
        · replace h := appF_ok h
          obtain ⟨r, h1, _, h2⟩ := h
          refine ⟨r, h1, fun H' pl K hH hg => ?_⟩
          simp only [biK]
          exact ⟨⟨td', _, ht', hk'⟩, _, rfl, h2 H' pl K hH hg⟩
        · replace h := appF_ok h
          obtain ⟨r, h1, _, h2⟩ := h
          refine ⟨r, h1, fun H' pl K hH hg => ?_⟩
          simp only [biK]
          exact ⟨⟨td', _, ht', hk'⟩, _, rfl, h2 H' pl K hH hg⟩
        · rename_i o ver i n _ _ _
          replace h := arrK_ok h
          obtain ⟨sz, rows, h1, ys, ⟨rfl⟩, h2⟩ := h
          obtain ⟨r, h3, h4, h5⟩ := appF_ok h2
          refine ⟨r, h3, fun H' pl K hH hg => ?_⟩
          simp only [biK]
          refine ⟨⟨td', _, ht', hk'⟩, _, ?_, h5 H' pl K hH hg⟩
          simp only [rowsOf, (hH o (h4 o (by simp))).trans h1, if_true]
        · exact h.elim
      · exact h.elim
  · replace h := boolK_iff.mp h
    obtain ⟨h1, h2⟩ := h
    simp only [sameKind, decide_eq_true_eq] at h1
    obtain ⟨r, h3, rfl⟩ := minF_ok h2
    exact ⟨_, h3, fun H' pl K hH hg => by simp only [biK]; exact ⟨h1, hg⟩⟩
  · replace h := boolK_iff.mp h
    obtain ⟨h1, h2⟩ := h
    simp only [sameKind, decide_eq_true_eq] at h1
    obtain ⟨r, h3, rfl⟩ := minF_ok h2
    exact ⟨_, h3, fun H' pl K hH hg => by simp only [biK]; exact ⟨h1, hg⟩⟩
  · replace h := tyK_iff.mp h
    obtain ⟨td, ht, h⟩ := h
    split at h
    · rename_i e hk
      replace h := tyK_iff.mp h
      obtain ⟨te, hte, h⟩ := h
      replace h := srcF_ok h
      obtain ⟨ys, rd, ⟨hy, h1⟩, h2⟩ := h
      obtain ⟨sz, rows, h3, h4, h5⟩ := arrK_ok h1
      refine ⟨_, h5, fun H' pl K hH hg => ?_⟩
      simp only [biK]
      refine ⟨td, e, te, ht, hk, hte, ys, h2 H' fun o ho => hH o (List.mem_cons_of_mem _ ho), hy, ?_⟩
      simp only [(hH _ (List.mem_cons_self ..)).trans h3]
      exact ⟨trivial, h4, hg⟩
    · exact h.elim
  · replace h := tyK_iff.mp h
    obtain ⟨td, ht, h⟩ := h
    split at h
    · rename_i e hk
      replace h := tyK_iff.mp h
      obtain ⟨te, hte, h⟩ := h
      replace h := arrK_ok h
      obtain ⟨sz, rows, h3, h4, h5⟩ := h
      refine ⟨_, h5, fun H' pl K hH hg => ?_⟩
      simp only [biK]
      refine ⟨td, e, te, ht, hk, hte, ?_⟩
      simp only [(hH _ (List.mem_cons_self ..)).trans h3]
      exact ⟨trivial, h4, hg⟩
    · exact h.elim
  · replace h := tyK_iff.mp h
    obtain ⟨td, ht, h⟩ := h
    split at h
    · rename_i q e hk
      replace h := mapK_ok h
      obtain ⟨es, h3, h5⟩ := h
      refine ⟨_, h5, fun H' pl K hH hg => ?_⟩
      simp only [biK, (hH _ (List.mem_cons_self ..)).trans h3]
      exact ⟨⟨td, _, _, ht, hk⟩, hg⟩
    · exact h.elim
  · replace h := tyK_iff.mp h
    obtain ⟨td, ht, h⟩ := h
    replace h := boolK_iff.mp h
    obtain ⟨c1, h⟩ := h
    obtain ⟨q, e, tq, iq, k1, k2, k3⟩ := intMap_ok c1
    replace h := mapK_ok h
    obtain ⟨es, h3, h4, h5⟩ := h
    refine ⟨_, h5, fun H' pl K hH hg => ?_⟩
    simp only [biK, (hH _ (List.mem_cons_self ..)).trans h3]
    exact ⟨⟨td, q, e, tq, iq, ht, k1, k2, k3⟩, h4, hg⟩
  · exact h.elim

theorem sliceF_ok {t : TypeId} {x : D} {lo hi : Option D} (h : sliceF T t x lo hi H X) :
    ∃ d rd, X (.val d rd) ∧ ∀ (H' : List AObj) (K : D → Prop), (∀ o ∈ rd, H'[o]? = H[o]?) → K d → sliceK T t x lo hi H' K ∨ arrSlK T t x lo hi H' K := by
  replace h := tyK_iff.mp h
  obtain ⟨td, ht, h⟩ := h
  have nn : ∀ m q : Nat, m ≤ q → (0 : Int) ≤ (m : Int) ∧ (m : Int) ≤ (q : Int) := fun m q h => ⟨by omega, by omega⟩
  split at h
  · rename_i sb hk
    obtain ⟨m, q, h1, h2, h3, h4, h5, h6⟩ := cutF_ok h
    refine ⟨_, _, h1, fun H' K hH hK => ?_⟩
    left
    simp only [sliceK, lenD, h2, h3]
    exact ⟨(nn m q h4).1, (nn m q h4).2, by omega, ⟨td, ht, hk⟩, hK⟩
  · rename_i e xs hk
    replace h := tyK_iff.mp h
    obtain ⟨te, hte, h0, n, ⟨rfl⟩, h⟩ := h
    obtain ⟨m, q, ⟨ys, ⟨rfl⟩, h1⟩, h2, h3, h4, h5, h6⟩ := cutF_ok h
    refine ⟨_, _, h1, fun H' K hH hK => ?_⟩
    left
    simp only [sliceK, lenD, h2, h3]
    rw [h6 xs rfl] at hK
    refine ⟨(nn m q h4).1, (nn m q h4).2, by omega, ⟨td, e, ht, hk, te, hte, h0⟩, hK⟩
  · rename_i e hk
    replace h := tyK_iff.mp h
    obtain ⟨te, hte, h⟩ := h
    obtain ⟨m, q, h1, h2, h3, h4, h5, h6⟩ := cutF_ok h
    refine ⟨_, _, h1, fun H' K hH hK => ?_⟩
    left
    simp only [sliceK, lenD, h2, h3]
    exact ⟨(nn m q h4).1, (nn m q h4).2, by omega, ⟨td, e, ht, hk, te, hte⟩, hK⟩
  · rename_i e o ver i n hk
    replace h := tyK_iff.mp h
    obtain ⟨te, hte, h⟩ := h
    replace h := arrK_ok h
    obtain ⟨sz, rows, h5, h⟩ := h
    replace h := boolK_iff.mp h
    obtain ⟨c1, h⟩ := h
    have h0 := Nat.eq_of_beq_eq_true c1
    subst h0
    obtain ⟨m, q, ⟨i', n', ⟨rfl⟩, ⟨rfl⟩, h1⟩, h2, h3, h4, h7, h6⟩ := cutF_ok h
    refine ⟨_, _, h1, fun H' K hH hK => ?_⟩
    have h8 := (hH _ (List.mem_cons_self ..)).trans h5
    left
    simp only [sliceK, lenD, h2, h3, h8, if_true]
    exact ⟨(nn m q h4).1, (nn m q h4).2, by omega, ⟨td, e, ht, hk, te, hte, rows, rfl⟩, hK⟩
  · rename_i n e o ver i hk
    replace h := tyK_iff.mp h
    obtain ⟨te, hte, h⟩ := h
    replace h := arrK_ok h
    obtain ⟨sz, rows, h5, h⟩ := h
    split at h
    · obtain ⟨rfl, h6, h7, h8⟩ := h
      refine ⟨_, _, h8, fun H' K hH hK => .inr ?_⟩
      exact ⟨td, n, e, te, rows, ht, hk, hte, (hH _ (List.mem_cons_self ..)).trans h5, h6, h7, hK⟩
    · exact h.elim
  · exact h.elim

theorem cellF_ok {cs : List D} {off : Nat} {X : D → Prop} (h : cellF cs off X) : ∃ c, cs[off]? = some c ∧ X c := by
  have h := dropK_iff.mp h
  split at h
  · rename_i c r hc
    refine ⟨c, ?_, h⟩
    have : (cs.drop off)[0]? = some c := by rw [hc]; rfl
    simpa using this
  · exact h.elim

theorem partF_ok {t : TypeId} {cs : List D} {off : Nat} {X : D → Prop} (h : partF T t cs off X) : ∃ d, X d ∧ ∀ K : D → Prop, K d → partK T t cs off K := by
  replace h := tyK_iff.mp h
  obtain ⟨td, ht, h⟩ := h
  split at h
  · rename_i hk
    replace h := boolK_iff.mp h
    obtain ⟨h0, h⟩ := h
    have h0 : 0 < td.size := by simpa using h0
    obtain ⟨h1, h2⟩ := takeK_iff.mp (dropK_iff.mp h)
    refine ⟨_, h2, fun K hK => ?_⟩
    simp only [partK, ht, hk]
    rw [List.length_drop] at h1
    exact ⟨by omega, hK⟩
  · rename_i hk
    replace h := cellF_ok h
    obtain ⟨c, h1, h2⟩ := h
    refine ⟨_, h2, fun K hK => ?_⟩
    simp only [partK, ht, hk, h1]
    exact hK

theorem partI_ok {t : TypeId} {cs : List D} {off : Nat} {X : D → Prop} (h : partI T t cs off X) : ∃ d, X d ∧ ∀ K : D → Prop, K d → partK T t cs off K := by
  replace h := tyK_iff.mp h
  obtain ⟨td, ht, h⟩ := h
  split at h
  · rename_i hk
    obtain ⟨h1, h2⟩ := h
    refine ⟨_, h2, fun K hK => ?_⟩
    simp only [partK, ht, hk]
    exact ⟨h1, hK⟩
  · rename_i hk
    obtain ⟨c, h1, h2⟩ := h
    refine ⟨_, h2, fun K hK => ?_⟩
    simp only [partK, ht, hk, h1]
    exact hK

theorem fieldF_ok {td : TD} {f : Nat} {X : Nat → TypeId → Prop} (h : fieldF td f X) : ∃ fs off ft, td.k = .struct fs ∧ fs[f]? = some (off, ft) ∧ X off ft := by
  unfold fieldF at h
  split at h
  · rename_i fs hk
    split at h
    · rename_i off ft hf
      exact ⟨fs, off, ft, hk, hf, h⟩
    · exact h.elim
  · exact h.elim

end

end Go.A
