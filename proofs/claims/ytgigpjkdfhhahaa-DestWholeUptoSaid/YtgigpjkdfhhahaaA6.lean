/- A logic of abstract states, part 6: more operations that do what part 4 says of them. -/
import Derived.Test.YtgigpjkdfhhahaaA5
namespace Go.A
set_option linter.unusedVariables false
set_option linter.unusedSimpArgs false

def scalarT : TypeDesc → Bool
  | .struct _ | .array _ _ => false
  | _ => true

theorem run_part_one (P : Program) (w : World) (t : TypeId) (cs : Array Value) (off : Nat) (u : Value) (d : TypeDesc) (h : P.underlying t = some d) (hd : scalarT d = true)
    (hu : cs[off]? = some u) : (part t cs off).run P w = .ok u w := by
  simp only [part, isAgg, Sem.run_bind, run_underlying P t w h, Result.andThen_ok]
  cases d <;> first | (simp [scalarT] at hd; done) | simp [hu]

theorem run_eqFields {P : Program} {E : Env} (w : World) (dep : Nat) : ∀ (fs : List Field) (ks : List EK) (n : Nat) (xs ys : List D) (X Y : Array Value), eqFieldsOk P n fs ks = true →
    VRs E xs (X.toList.drop n) → VRs E ys (Y.toList.drop n) → eqOk ks xs ys = true → (Op.eqFields (dep + 1) X Y fs).run P w = .ok (eqCells xs ys) w
  | [], ks, n, xs, ys, X, Y, h, hx, hy, ho => by
    cases ks with
    | cons k ks => simp [eqFieldsOk] at h
    | nil => cases xs <;> cases ys <;> simp [eqOk] at ho; simp [Op.eqFields, eqCells]
  | f :: fs, ks, n, xs, ys, X, Y, h, hx, hy, ho => by
    cases ks with
    | nil => simp [eqFieldsOk] at h
    | cons k ks =>
      simp only [eqFieldsOk, Bool.and_eq_true, bne_iff_ne, ne_eq, beq_iff_eq] at h
      obtain ⟨⟨⟨h1, h2⟩, h3⟩, h4⟩ := h
      have key : ∀ (x y : D) (xs' ys' : List D) (b : Bool), xs = x :: xs' → ys = y :: ys' → eqOk ks xs' ys' = true → eq1 x y = b →
          (∀ u v, VR E x u → VR E y v → ∃ d, P.underlying f.type = some d ∧ scalarT d = true ∧ (Op.equalIn (dep + 1) f.type u v).run P w = .ok b w) →
          (Op.eqFields (dep + 1) X Y (f :: fs)).run P w = .ok (eqCells xs ys) w := by
        intro x y xs' ys' b ex ey ho' hb hr
        subst ex ey
        have gx : ∃ u r, X.toList.drop n = u :: r ∧ VR E x u ∧ VRs E xs' r := by
          generalize X.toList.drop n = l at hx
          cases hx with
          | cons a b => exact ⟨_, _, rfl, a, b⟩
        have gy : ∃ u r, Y.toList.drop n = u :: r ∧ VR E y u ∧ VRs E ys' r := by
          generalize Y.toList.drop n = l at hy
          cases hy with
          | cons a b => exact ⟨_, _, rfl, a, b⟩
        obtain ⟨u, ru, eu, vu, tu⟩ := gx
        obtain ⟨v, rv, ev, vv, tv⟩ := gy
        obtain ⟨d, hd1, hd2, hd3⟩ := hr u v vu vv
        have e1 : X[n]? = some u := by
          have : (X.toList.drop n)[0]? = some u := by rw [eu]; rfl
          rw [List.getElem?_drop] at this; simpa using this
        have e2 : Y[n]? = some v := by
          have : (Y.toList.drop n)[0]? = some v := by rw [ev]; rfl
          rw [List.getElem?_drop] at this; simpa using this
        have d1 : X.toList.drop (n + 1) = ru := by rw [← List.drop_drop, eu]; rfl
        have d2 : Y.toList.drop (n + 1) = rv := by rw [← List.drop_drop, ev]; rfl
        simp only [Op.eqFields, Sem.run_bind, Sem.run_ite]
        rw [if_pos h1, h2, run_part_one P w _ _ _ _ d hd1 hd2 e1]
        simp only [Result.andThen_ok]
        rw [run_part_one P w _ _ _ _ d hd1 hd2 e2]
        simp only [Result.andThen_ok, hd3]
        cases b with
        | true =>
          simp only [Bool.not_true, Bool.false_eq_true, if_false]
          rw [run_eqFields w dep fs ks (n + 1) xs' ys' X Y h4 (by rw [d1]; exact tu) (by rw [d2]; exact tv) ho']
          simp [eqCells, hb]
        | false =>
          simp [eqCells, hb]
      cases k with
      | i =>
        cases hq : P.underlying f.type with
        | none => rw [hq] at h3; simp [EK.fits] at h3
        | some d =>
          rw [hq] at h3
          cases d <;> simp [EK.fits] at h3
          rename_i kk
          cases xs with
          | nil => simp [eqOk] at ho
          | cons x xs' =>
            cases ys with
            | nil => cases x <;> simp [eqOk] at ho
            | cons y ys' =>
              cases x <;> cases y <;> simp [eqOk] at ho
              rename_i q a q' b
              obtain ⟨rfl, ho⟩ := ho
              refine key _ _ _ _ (a == b) rfl rfl ho rfl ?_
              intro u v hu hv
              cases hu; cases hv
              exact ⟨_, hq, rfl, run_equalIn_int w dep f.type _ kk a b hq⟩
      | b =>
        cases hq : P.underlying f.type with
        | none => rw [hq] at h3; simp [EK.fits] at h3
        | some d =>
          rw [hq] at h3
          cases d <;> simp [EK.fits] at h3
          cases xs with
          | nil => simp [eqOk] at ho
          | cons x xs' =>
            cases ys with
            | nil => cases x <;> simp [eqOk] at ho
            | cons y ys' =>
              cases x <;> cases y <;> simp [eqOk] at ho
              rename_i a b
              refine key _ _ _ _ (a == b) rfl rfl ho rfl ?_
              intro u v hu hv
              cases hu; cases hv
              exact ⟨_, hq, rfl, run_equalIn_bool' w dep f.type a b hq⟩
      | s =>
        cases hq : P.underlying f.type with
        | none => rw [hq] at h3; simp [EK.fits] at h3
        | some d =>
          rw [hq] at h3
          cases d <;> simp [EK.fits] at h3
          cases xs with
          | nil => simp [eqOk] at ho
          | cons x xs' =>
            cases ys with
            | nil => cases x <;> simp [eqOk] at ho
            | cons y ys' =>
              cases x <;> cases y <;> simp [eqOk] at ho
              rename_i a b
              refine key _ _ _ _ (a.toList == b.toList) rfl rfl ho rfl ?_
              intro u v hu hv
              cases hu; cases hv
              exact ⟨_, hq, rfl, run_equalIn_string w dep f.type a b hq⟩

theorem eqIn_slice_nil {P : Program} (w : World) (dep : Nat) {t e : TypeId} (h : P.underlying t = some (.slice e)) (m c m' c' : Nat) (b : Option Addr) :
    (Op.equalIn (dep + 1) t (.slice none m c) (.slice b m' c')).run P w = .ok b.isNone w := by simp [Op.equalIn, run_underlying P t w h]
theorem eqIn_nil_slice {P : Program} (w : World) (dep : Nat) {t e : TypeId} (h : P.underlying t = some (.slice e)) (m c m' c' : Nat) (a : Addr) :
    (Op.equalIn (dep + 1) t (.slice (some a) m c) (.slice none m' c')).run P w = .ok false w := by simp [Op.equalIn, run_underlying P t w h]
theorem eqIn_nil_ptr {P : Program} (w : World) (dep : Nat) {t e : TypeId} (h : P.underlying t = some (.pointer e)) (b : Option Addr) :
    (Op.equalIn (dep + 1) t (.pointer none) (.pointer b)).run P w = .ok b.isNone w := by simp [Op.equalIn, run_underlying P t w h]
theorem eqIn_ptr_nil {P : Program} (w : World) (dep : Nat) {t e : TypeId} (h : P.underlying t = some (.pointer e)) (a : Addr) :
    (Op.equalIn (dep + 1) t (.pointer (some a)) (.pointer none)).run P w = .ok false w := by simp [Op.equalIn, run_underlying P t w h]
theorem eqIn_func_nil {P : Program} (w : World) (dep : Nat) {t : TypeId} {ps rs : Array TypeId} {vd : Bool} (h : P.underlying t = some (.func ps rs vd)) :
    (Op.equalIn (dep + 1) t .nilFunc .nilFunc).run P w = .ok true w := by simp [Op.equalIn, run_underlying P t w h]
theorem eqIn_func_nil1 {P : Program} (w : World) (dep : Nat) {t : TypeId} {ps rs : Array TypeId} {vd : Bool} (h : P.underlying t = some (.func ps rs vd)) (f : Fn) (x y : Array Value) :
    (Op.equalIn (dep + 1) t .nilFunc (.func f x y)).run P w = .ok false w := by simp [Op.equalIn, run_underlying P t w h]
theorem eqIn_func_nil2 {P : Program} (w : World) (dep : Nat) {t : TypeId} {ps rs : Array TypeId} {vd : Bool} (h : P.underlying t = some (.func ps rs vd)) (f : Fn) (x y : Array Value) :
    (Op.equalIn (dep + 1) t (.func f x y) .nilFunc).run P w = .ok false w := by simp [Op.equalIn, run_underlying P t w h]
theorem eqIn_map_nil {P : Program} (w : World) (dep : Nat) {t q e : TypeId} (h : P.underlying t = some (.map q e)) (b : Option Nat) :
    (Op.equalIn (dep + 1) t (.map none) (.map b)).run P w = .ok b.isNone w := by simp [Op.equalIn, run_underlying P t w h]

/-- A comparison. -/
theorem eqK_ok {P : Program} {T : Tab} {C : Ctx} {φ : List (Option Nat)} {H : List AObj} {w : World} (hT : TOk P T) {x y : D} {u v : Value} (hx : VR (C.env φ H w) x u) (hy : VR (C.env φ H w) y v) {t : TypeId} {K : Bool → Prop} (h : eqK T t x y K) (hnt : ∀ k a, x ≠ .int k a) (hns : ∀ a, x ≠ .str a)
    (op : BinOp) (hop : op = .eql ∨ op = .neq) (p q : Operand) :
    ∃ r, K r ∧ (do eqGuard op t p q u v; binOp op t u v : Sem Value).run P w = .ok (.bool (if op = .eql then r else !r)) w := by
  have plain : ∀ (r : Bool), (∀ p q, (eqGuard op t p q u v).run P w = .ok () w) → (Op.equal t u v).run P w = .ok r w → (binOp .eql t u v = do pure (.bool (← Op.equal t u v))) → (binOp .neq t u v = do pure (.bool (!(← Op.equal t u v)))) →
      (do eqGuard op t p q u v; binOp op t u v : Sem Value).run P w = .ok (.bool (if op = .eql then r else !r)) w := fun r h1 h2 h3 h4 => by
    rcases hop with rfl | rfl
    · simp [h1, h3, h2]
    · simp [h1, h4, h2]
  have guard1 : (∀ cs, u ≠ .agg cs) → u ≠ .nilIface → ∀ p q, (eqGuard op t p q u v).run P w = .ok () w := fun h1 h2 p q => by
    cases u <;> first | exact absurd rfl (h1 _) | exact absurd rfl h2 | (rcases hop with rfl | rfl <;> simp [eqGuard])
  unfold eqK at h
  split at h
  · obtain ⟨⟨td, h1, h2⟩, h3⟩ := h
    cases hx; cases hy
    exact ⟨_, h3, plain _ (guard1 (by simp) (by simp)) (run_equalIn_bool' w 9999 t _ _ ((hT.at h1).bool h2)) rfl rfl⟩
  · rename_i xs0 ys0
    obtain ⟨⟨td, ks, h1, h2, h3⟩, h4⟩ := h
    cases hx; cases hy
    rename_i a hva b hvb
    obtain ⟨e1, e2, fields, e3, e4⟩ := (hT.at h1).eqp ks h2
    have e5 : P.fieldsOf t = fields := by simp [Program.fieldsOf, e3]
    refine ⟨_, h4, ?_⟩
    have hr : (Op.equalIn 10000 t (.agg a) (.agg b)).run P w = .ok (eqCells xs0 ys0) w := by
      rw [run_equalIn_struct w 9999 t a b (by rw [e5]; exact e3) e2, e5]
      exact run_eqFields w 9998 fields.toList ks 0 _ _ a b e4 (by simpa using hva) (by simpa using hvb) h3
    rcases hop with rfl | rfl
    · simp only [Sem.run_bind, run_eqGuard_agg w _ _ _ _ _ _ e1, Result.andThen_ok, run_eql_struct, hr, if_true]
    · simp only [Sem.run_bind, run_eqGuard_agg w _ _ _ _ _ _ e1, Result.andThen_ok, run_neq_struct, hr]; rfl
  · obtain ⟨⟨td, e, h1, h2⟩, h3⟩ := h
    cases hx; cases hy
    exact ⟨_, h3, plain _ (guard1 (by simp) (by simp)) (eqIn_slice_nil w 9999 ((hT.at h1).slice h2) _ _ _ _ _) rfl rfl⟩
  · obtain ⟨⟨td, e, h1, h2⟩, h3, h4⟩ := h
    cases hx
    cases hy with
    | sl0 a cap =>
      cases a with
      | none => exact ⟨_, h3 rfl, plain _ (guard1 (by simp) (by simp)) (eqIn_slice_nil w 9999 ((hT.at h1).slice h2) _ _ _ _ _) rfl rfl⟩
      | some a => exact ⟨_, h4, plain _ (guard1 (by simp) (by simp)) (eqIn_slice_nil w 9999 ((hT.at h1).slice h2) _ _ _ _ _) rfl rfl⟩
    | sl k1 => exact ⟨_, h4, plain _ (guard1 (by simp) (by simp)) (eqIn_slice_nil w 9999 ((hT.at h1).slice h2) _ _ _ _ _) rfl rfl⟩
  · obtain ⟨⟨td, e, h1, h2⟩, h3, h4⟩ := h
    cases hy
    cases hx with
    | sl0 a cap =>
      cases a with
      | none => exact ⟨_, h3 rfl, plain _ (guard1 (by simp) (by simp)) (eqIn_slice_nil w 9999 ((hT.at h1).slice h2) _ _ _ _ _) rfl rfl⟩
      | some a => exact ⟨_, h4, plain _ (guard1 (by simp) (by simp)) (eqIn_nil_slice w 9999 ((hT.at h1).slice h2) _ _ _ _ _) rfl rfl⟩
    | sl k1 => exact ⟨_, h4, plain _ (guard1 (by simp) (by simp)) (eqIn_nil_slice w 9999 ((hT.at h1).slice h2) _ _ _ _ _) rfl rfl⟩
  · obtain ⟨⟨td, e, h1, h2⟩, h3⟩ := h
    cases hx; cases hy
    obtain ⟨d, e1, e2⟩ := (hT.at h1).und
    cases d <;> simp only [TK.fits, h2] at e2 <;> cases e2
    exact ⟨_, h3, plain _ (guard1 (by simp) (by simp)) (eqIn_nil_ptr w 9999 e1 _) rfl rfl⟩
  · obtain ⟨⟨td, e, h1, h2⟩, h3⟩ := h
    cases hx; cases hy
    obtain ⟨d, e1, e2⟩ := (hT.at h1).und
    cases d <;> simp only [TK.fits, h2] at e2 <;> cases e2
    exact ⟨_, h3, plain _ (guard1 (by simp) (by simp)) (eqIn_nil_ptr w 9999 e1 _) rfl rfl⟩
  · obtain ⟨⟨td, e, h1, h2⟩, h3⟩ := h
    cases hx; cases hy
    obtain ⟨d, e1, e2⟩ := (hT.at h1).und
    cases d <;> simp only [TK.fits, h2] at e2 <;> cases e2
    exact ⟨_, h3, plain _ (guard1 (by simp) (by simp)) (eqIn_ptr_nil w 9999 e1 _) rfl rfl⟩
  · obtain ⟨⟨td, h1, h2⟩, h3⟩ := h
    cases hx; cases hy
    obtain ⟨d, e1, e2⟩ := (hT.at h1).und
    cases d <;> simp only [TK.fits, h2] at e2 <;> cases e2
    exact ⟨_, h3, plain _ (guard1 (by simp) (by simp)) (eqIn_func_nil w 9999 e1) rfl rfl⟩
  · obtain ⟨⟨td, h1, h2⟩, h3⟩ := h
    cases hx; cases hy
    obtain ⟨d, e1, e2⟩ := (hT.at h1).und
    cases d <;> simp only [TK.fits, h2] at e2 <;> cases e2
    exact ⟨_, h3, plain _ (guard1 (by simp) (by simp)) (eqIn_func_nil1 w 9999 e1 _ _ _) rfl rfl⟩
  · obtain ⟨⟨td, h1, h2⟩, h3⟩ := h
    cases hx; cases hy
    obtain ⟨d, e1, e2⟩ := (hT.at h1).und
    cases d <;> simp only [TK.fits, h2] at e2 <;> cases e2
    exact ⟨_, h3, plain _ (guard1 (by simp) (by simp)) (eqIn_func_nil2 w 9999 e1 _ _ _) rfl rfl⟩
  · obtain ⟨⟨td, q, e, h1, h2⟩, h3⟩ := h
    cases hx; cases hy
    exact ⟨_, h3, plain _ (guard1 (by simp) (by simp)) (eqIn_map_nil w 9999 ((hT.at h1).map h2) _) rfl rfl⟩
  · exact h.elim

theorem snd_binOp {P T C φ H w} (hT : TOk P T) (g : G C φ H w) {ρ : Operand → D} {a : Operand → Value} (hρ : ∀ x, VR (C.env φ H w) (ρ x) (a x)) (o : Oper) {op : BinOp} {t u : TypeId} {x y : Operand}
    (ho : o.op = .binOp op t x y u) {K : D → List AObj → Prop} (h : binK T op t (ρ x) (ρ y) fun d => K d H) : Out P C φ H w (execOp a o) K := by
  simp only [binK] at h
  have hx := hρ x; have hy := hρ y
  split at h
  · rename_i k m k' m' ex ey
    rw [ex] at hx; rw [ey] at hy
    cases hax : a x <;> rw [hax] at hx <;> cases hx
    cases hay : a y <;> rw [hay] at hy <;> cases hy
    have hg : ∀ op, (eqGuard op t x y (.int k m) (.int k' m')).run P w = .ok () w := fun op => by cases op <;> simp [eqGuard]
    have fin : ∀ d v, K d H → VR (C.env φ H w) d v → (binOp op t (.int k m) (.int k' m')).run P w = .ok v w → Out P C φ H w (execOp a o) K := fun d v h1 h2 h3 =>
      Out.pure g (v := v) (by simp [execOp, ho, hax, hay, hg, h3]) h2 h1
    split at h
    · exact fin _ _ h.2 (.int _ _) (by simp [binOp, Op.shift, show ¬ m' < 0 by omega])
    · exact fin _ _ h.2 (.int _ _) (by simp [binOp, Op.shift, show ¬ m' < 0 by omega])
    · obtain ⟨rfl, h⟩ := h; exact fin _ _ h (.int _ _) (by simp [binOp, Op.intArith])
    · obtain ⟨rfl, h⟩ := h; exact fin _ _ h (.int _ _) (by simp [binOp, Op.intArith])
    · obtain ⟨rfl, h⟩ := h; exact fin _ _ h (.int _ _) (by simp [binOp, Op.intArith])
    · obtain ⟨rfl, h0, h⟩ := h; exact fin _ _ h (.int _ _) (by simp [binOp, Op.intDiv, h0])
    · obtain ⟨rfl, h0, h⟩ := h; exact fin _ _ h (.int _ _) (by simp [binOp, Op.intDiv, h0])
    · obtain ⟨rfl, h⟩ := h; exact fin _ _ h (.int _ _) (by simp [binOp, Op.intBits, bitsI])
    · obtain ⟨rfl, h⟩ := h; exact fin _ _ h (.int _ _) (by simp [binOp, Op.intBits, bitsI])
    · obtain ⟨rfl, h⟩ := h; exact fin _ _ h (.int _ _) (by simp [binOp, Op.intBits, bitsI])
    · obtain ⟨rfl, h⟩ := h; exact fin _ _ h (.int _ _) (by simp [binOp, Op.intBits, bitsI])
    · obtain ⟨rfl, h⟩ := h; exact fin _ _ h (.bool _) (by simp [binOp, Op.intCmp])
    · obtain ⟨rfl, h⟩ := h; exact fin _ _ h (.bool _) (by simp [binOp, Op.intCmp])
    · obtain ⟨rfl, h⟩ := h; exact fin _ _ h (.bool _) (by simp [binOp, Op.intCmp])
    · obtain ⟨rfl, h⟩ := h; exact fin _ _ h (.bool _) (by simp [binOp, Op.intCmp])
    · obtain ⟨rfl, h⟩ := h; exact fin _ _ h (.bool _) (by simp [binOp, Op.intCmp])
    · obtain ⟨rfl, h⟩ := h; exact fin _ _ h (.bool _) (by simp [binOp, Op.intCmp])
  · rename_i m m' ex ey
    rw [ex] at hx; rw [ey] at hy
    cases hax : a x <;> rw [hax] at hx <;> cases hx
    cases hay : a y <;> rw [hay] at hy <;> cases hy
    have hg : ∀ op, (eqGuard op t x y (.string m) (.string m')).run P w = .ok () w := fun op => by cases op <;> simp [eqGuard]
    have fin : ∀ d v, K d H → VR (C.env φ H w) d v → (binOp op t (.string m) (.string m')).run P w = .ok v w → Out P C φ H w (execOp a o) K := fun d v h1 h2 h3 =>
      Out.pure g (v := v) (by simp [execOp, ho, hax, hay, hg, h3]) h2 h1
    split at h
    · refine fin _ _ h.2 (.str _) ?_
      simp only [binOp, Op.stringOp]
      rw [if_neg (by have := h.1; omega)]
      rfl
    · exact fin _ _ h (.bool _) (by simp [binOp, Op.stringOp])
    · exact fin _ _ h (.bool _) (by simp [binOp, Op.stringOp])
    · exact h.elim
  · rename_i h1 h2
    have hni : ∀ k m, ρ x ≠ .int k m := fun k m e => by
      split at h
      · rw [e] at h; cases hq : ρ y <;> rw [hq] at h <;> first | exact h | exact h1 _ _ _ _ e hq
      · rw [e] at h; cases hq : ρ y <;> rw [hq] at h <;> first | exact h | exact h1 _ _ _ _ e hq
      · exact h
    have hns : ∀ m, ρ x ≠ .str m := fun m e => by
      split at h
      · rw [e] at h; cases hq : ρ y <;> rw [hq] at h <;> first | exact h | exact h2 _ _ e hq
      · rw [e] at h; cases hq : ρ y <;> rw [hq] at h <;> first | exact h | exact h2 _ _ e hq
      · exact h
    split at h
    · obtain ⟨r, k1, k2⟩ := eqK_ok hT hx hy h hni hns .eql (.inl rfl) x y
      refine Out.pure g (v := .bool r) ?_ (.bool _) k1
      simp only [Sem.run_bind, if_true] at k2
      simp only [execOp, ho, Sem.run_bind, k2, Result.andThen_ok, Sem.run_pure]
    · obtain ⟨r, k1, k2⟩ := eqK_ok hT hx hy h hni hns .neq (.inr rfl) x y
      refine Out.pure g (v := .bool (!r)) ?_ (.bool _) k1
      simp only [Sem.run_bind] at k2
      simp only [execOp, ho, Sem.run_bind, k2, Result.andThen_ok, Sem.run_pure]
      rfl
    · exact h.elim

end Go.A
