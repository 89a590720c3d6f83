/- A logic of abstract states, part 8: more operations that do what part 4 says of them. -/
import Derived.Test.YtgigpjkdfhhahaaA7
namespace Go.A
set_option linter.unusedVariables false
set_option linter.unusedSimpArgs false

theorem run_sliceBound (P : Program) (w : World) (k : IntKind) (i : Int) (y : Nat) (code : BoundsCode) (h0 : 0 ≤ i) (h1 : i ≤ y) : (Instr.sliceBound (.int k i) y code).run P w = .ok i.toNat w := by
  simp only [Instr.sliceBound, asIntOf, Sem.run_bind, Sem.run_pure, Result.andThen_ok]
  rw [if_pos ⟨h0, h1⟩]
  rfl

/-- A bound that is an operand's data, or left out. -/
def BoundR (E : Env) : Option D → Option Value → Prop
  | none, none => True
  | some d, some v => VR E d v
  | _, _ => False

theorem run_sliceBounds {P : Program} {E : Env} {w : World} (b : Bool) {len cap : Nat} {lo hi : Option D} {lo' hi' : Option Value} (hl : BoundR E lo lo') (hh : BoundR E hi hi')
    {l h : Int} (el : loB lo = some l) (eh : hiB len hi = some h) (h0 : 0 ≤ l) (h1 : l ≤ h) (h2 : h ≤ len) (h3 : len ≤ cap) :
    (Instr.sliceBounds b len cap lo' hi' none).run P w = .ok (l.toNat, h.toNat, cap) w := by
  have hhr : (hi' = none ∧ h.toNat = len) ∨ ∃ k, hi' = some (.int k h) := by
    cases hi with
    | none =>
      cases hi' with
      | none => simp [hiB] at eh; left; exact ⟨rfl, by omega⟩
      | some v => exact hh.elim
    | some d =>
      cases hi' with
      | none => exact hh.elim
      | some v =>
        cases d <;> simp [hiB] at eh
        subst eh
        cases hh
        exact .inr ⟨_, rfl⟩
  have hlr : (lo' = none ∧ l = 0) ∨ ∃ k, lo' = some (.int k l) := by
    cases lo with
    | none =>
      cases lo' with
      | none => simp [loB] at el; left; exact ⟨rfl, el.symm⟩
      | some v => exact hl.elim
    | some d =>
      cases lo' with
      | none => exact hl.elim
      | some v =>
        cases d <;> simp [loB] at el
        subst el
        cases hl
        exact .inr ⟨_, rfl⟩
  have hb1 : ∀ k code, (Instr.sliceBound (.int k h) cap code).run P w = .ok h.toNat w := fun k code => run_sliceBound P w k h cap code (by omega) (by omega)
  have hb2 : ∀ k code, (Instr.sliceBound (.int k l) h.toNat code).run P w = .ok l.toNat w := fun k code => run_sliceBound P w k l _ code (by omega) (by omega)
  rcases hhr with ⟨rfl, e1⟩ | ⟨k1, rfl⟩ <;> rcases hlr with ⟨rfl, e2⟩ | ⟨k2, rfl⟩
  · subst e1 e2; simp [Instr.sliceBounds]
  · rw [e1] at hb2 ⊢; simp [Instr.sliceBounds, hb2]
  · subst e2; simp [Instr.sliceBounds, hb1]
  · simp [Instr.sliceBounds, hb1, hb2]

theorem readsAt_drop {heap : Array Obj} {a : Addr} {vs : List Value} (h : readsAt heap a vs) (n : Nat) : readsAt heap (a.add n) (vs.drop n) := by
  obtain ⟨h1, c, e, fz, h2, h3⟩ := h
  obtain ⟨b, off, spot⟩ := a
  simp only at h1 h2 h3
  subst h1
  rw [Addr.add_plain]
  refine ⟨rfl, c, e, fz, h2, fun j v hj => ?_⟩
  rw [List.getElem?_drop] at hj
  have := h3 _ _ hj
  rw [show off + n + j = off + (n + j) by omega]
  exact this

theorem readsAt_take {heap : Array Obj} {a : Addr} {vs : List Value} (h : readsAt heap a vs) (n : Nat) : readsAt heap a (vs.take n) := by
  obtain ⟨h1, c, e, fz, h2, h3⟩ := h
  refine ⟨h1, c, e, fz, h2, fun j v hj => h3 j v ?_⟩
  have : j < n := by
    have := (List.getElem?_eq_some_iff.mp hj).1
    simp at this; omega
  rw [List.getElem?_take, if_pos this] at hj
  exact hj

theorem Addr.add_block (a : Addr) (n : Nat) : (a.add n).block = a.block := by
  unfold Addr.add; split <;> rfl

theorem run_sliceAt_slice {P : Program} {w : World} {t e : TypeId} {sz : Nat} (ht : P.underlying t = some (.slice e)) (hs : (sizeOf e).run P w = .ok sz w) {a : Option Addr} {len cap l h : Nat} {lo hi : Option Value}
    (hb : (Instr.sliceBounds true len cap lo hi none).run P w = .ok (l, h, cap) w) :
    (Instr.sliceAt t (.slice a len cap) lo hi none).run P w = .ok (.slice (if cap = l then a else a.map (·.add (l * sz))) (h - l) (cap - l)) w := by
  simp only [Instr.sliceAt, Sem.run_bind, run_underlying P t w ht, Result.andThen_ok, Instr.slice, hb, hs, Sem.run_pure]

theorem VR.inv_p {E : Env} {o ver i j sz : Nat} {rows : List D} {v : Value} (h : VR E (.p o ver i j) v) (ho : E.H[o]? = some (.arr ver sz rows)) :
    ∃ b, v = .pointer (some ⟨b, i * sz + j, none⟩) ∧ E.φ[o]? = some (some b) ∧ i < rows.length ∧ j < sz := by
  cases h with
  | pold a k1 k2 =>
    rw [ho] at k1; obtain rfl := Option.some.inj k1
    simp [AObj.past] at k2
  | p k1 k2 k3 k4 =>
    rw [ho] at k1; cases k1
    exact ⟨_, rfl, k2, k3, k4⟩

theorem snd_slice {P T C φ H w} (hT : TOk P T) (g : G C φ H w) {ρ : Operand → D} {a : Operand → Value} (hρ : ∀ x, VR (C.env φ H w) (ρ x) (a x)) (o : Oper) {t : TypeId} {x : Operand} {lo hi mx : Option Operand}
    (ho : o.op = .slice t x lo hi mx) {hd K} (h : opK T hd o.op ρ H K) : Out P C φ H w (execOp a o) K := by
  rw [ho] at h
  simp only [opK] at h
  split at h
  · rcases h with h | h
    rotate_left
    · unfold arrSlK at h
      have hx := hρ x
      split at h
      · rename_i o' ver i hl hh hp
        obtain ⟨td, n, e, te, rows, ht, hk, hte, hobj, hn, hle, h⟩ := h
        rw [hp] at hx
        obtain ⟨b, hax, k2, k3, k4⟩ := hx.inv_p hobj
        obtain ⟨hpos, hu, c, el, vs, ⟨fz, hfz, q1⟩, q2, q3⟩ := g.arrOf hobj k2
        have hlo : lo = none := by cases lo <;> simp at hl ⊢
        have hhi : hi = none := by cases hi <;> simp at hh ⊢
        subst hlo hhi
        have hvl : vs.length = rows.length * te.size := by rw [← q2.length, flat_length hu]
        have hcs : vs.length ≤ c.size := by
          rcases Nat.eq_zero_or_pos vs.length with h0 | h0
          · omega
          · have hlt : vs.length - 1 < vs.length := by omega
            have := q3 (vs.length - 1) _ (List.getElem?_eq_getElem hlt)
            have := (Array.getElem?_eq_some_iff.mp this).1
            omega
        refine Out.pure g (v := .slice (some ⟨b, i * te.size, none⟩) n n) ?_ (.h hobj k2 hle (Nat.le_refl _) q1 ?_ (.inr rfl)) h
        · simp only [execOp, ho, hax, Option.map_none, Instr.sliceAt, Sem.run_bind, run_underlying P t w ((hT.at ht).array hk), Result.andThen_ok, Instr.sureAddr, Sem.run_pure, Instr.sliceBounds, (hT.at hte).run_size, Nat.add_zero, Nat.sub_zero]
          rw [if_neg (by omega), Addr.add_plain]
          simp
        · have := Nat.mul_le_mul_right te.size hle
          omega
      · exact h.elim
    unfold sliceK at h
    have hx := hρ x
    have hlo : BoundR (C.env φ H w) (lo.map ρ) (lo.map a) := by cases lo <;> simp [BoundR, hρ]
    have hhi : BoundR (C.env φ H w) (hi.map ρ) (hi.map a) := by cases hi <;> simp [BoundR, hρ]
    split at h
    · rename_i n hn
      split at h
      rotate_left
      · exact h.elim
      rename_i l hh el eh
      obtain ⟨h0, h1, h2, h⟩ := h
      have hrun : ∀ b cap, n ≤ cap → (Instr.sliceBounds b n cap (lo.map a) (hi.map a) none).run P w = .ok (l.toNat, hh.toNat, cap) w := fun b cap hc =>
        run_sliceBounds b hlo hhi el eh h0 h1 h2 hc
      have hex : ∀ v, (Instr.sliceAt t (a x) (lo.map a) (hi.map a) none).run P w = .ok v w → (execOp a o).run P w = .ok (.value v) w := fun v hv => by simp [execOp, ho, hv]
      split at h
      · rename_i s hs
        obtain ⟨⟨td, ht, hk⟩, h⟩ := h
        rw [hs] at hx hn
        cases hax : a x <;> rw [hax] at hx <;> cases hx
        simp only [lenD, Option.some.injEq] at hn; subst hn
        refine Out.pure g (hex (.string (s.extract l.toNat hh.toNat)) ?_) (.str _) h
        simp only [hax, Instr.sliceAt, Sem.run_bind, run_underlying P t w ((hT.at ht).string hk), Result.andThen_ok, Instr.slice, Option.isSome_none, Bool.false_eq_true, if_false, hrun _ _ (Nat.le_refl _), Sem.run_pure]
      · rename_i xs hs
        obtain ⟨⟨td, e, ht, hk, te, hte, hu⟩, h⟩ := h
        rw [hs] at hx hn
        simp only [lenD, Option.some.injEq] at hn; subst hn
        obtain ⟨ad, cap, hv, hle, hr⟩ := g.rows (xs := xs) hx rfl
        refine Out.pure g (hex _ (by rw [hv]; exact run_sliceAt_slice ((hT.at ht).slice hk) ((hT.at hte).run_size w) (hrun _ _ hle))) ?_ h
        have hlen : ((xs.drop l.toNat).take (hh.toNat - l.toNat)).length = hh.toNat - l.toNat := by simp; omega
        rcases Nat.eq_zero_or_pos (hh.toNat - l.toNat) with hz | hz
        · rw [hz]
          have : (xs.drop l.toNat).take 0 = [] := rfl
          rw [this]
          exact .sl0 _ _
        · have hne : xs ≠ [] := fun e => by subst e; simp at hlen; omega
          obtain ⟨ad', sz, vs, rfl, q1, q2, q3, q4⟩ := hr hne
          have hsz : sz = te.size := by
            cases xs with
            | nil => exact absurd rfl hne
            | cons x0 xr => rw [← q2 x0 (List.mem_cons_self ..), hu x0 (List.mem_cons_self ..)]
          subst hsz
          rw [if_neg (by omega)]
          have hN : ¬ (C.env φ H w).N ad'.block ∧ ad'.block < (C.env φ H w).heap.size := by
            rw [hv] at hx
            cases hx with
            | sl0 => exact absurd rfl hne
            | sl k1 k2 k3 => exact ⟨k2, k3⟩
          have := VR.sl (E := C.env φ H w) (xs := (xs.drop l.toNat).take (hh.toNat - l.toNat)) (a := ad'.add (l.toNat * te.size)) (cap := cap - l.toNat) (sz := te.size) (vs := (vs.drop (l.toNat * te.size)).take ((hh.toNat - l.toNat) * te.size))
            (by rw [hlen]; omega) (by rw [Addr.add_block]; exact hN.1) (by rw [Addr.add_block]; exact hN.2) q1 (fun y hy => q2 y (List.mem_of_mem_drop (List.mem_of_mem_take hy)))
            (readsAt_take (readsAt_drop q3 _) _)
            (by rw [← flat_take (fun y hy => q2 y (List.mem_of_mem_drop hy)), ← flat_drop q2]; exact (q4.drop _).take _)
          rw [hlen] at this
          exact this
      · rename_i hs
        obtain ⟨⟨td, e, ht, hk, te, hte⟩, h⟩ := h
        rw [hs] at hx hn
        simp only [lenD, Option.some.injEq] at hn; subst hn
        cases hax : a x <;> rw [hax] at hx <;> cases hx
        have hl0 : l.toNat = 0 := by omega
        have hh0 : hh.toNat = 0 := by omega
        refine Out.pure g (hex _ (by rw [hax]; exact run_sliceAt_slice ((hT.at ht).slice hk) ((hT.at hte).run_size w) (hrun _ _ (Nat.le_refl _)))) ?_ h
        rw [hl0, hh0]
        exact .nils
      · rename_i o' ver i m hs
        obtain ⟨⟨td, e, ht, hk, te, hte, rows0, hobj⟩, h⟩ := h
        rw [hs] at hx hn
        have hmn : m = n := by simpa [lenD, hobj] using hn
        subst hmn
        obtain ⟨ad, cap, hv, hle⟩ := lenD_ok hx hn (by simp)
        refine Out.pure g (hex _ (by rw [hv]; exact run_sliceAt_slice ((hT.at ht).slice hk) ((hT.at hte).run_size w) (hrun _ _ hle))) ?_ h
        rw [hv] at hx
        cases hx with
        | hold _ _ _ k1 k2 =>
          have k1' : H[o']? = some _ := k1
          rw [hobj] at k1'; obtain rfl := Option.some.inj k1'
          simp [AObj.past] at k2
        | hnil k1 k2 =>
          have hl0 : l.toNat = 0 := by omega
          have hh0 : hh.toNat = 0 := by omega
          rw [hl0, hh0]
          exact .hnil k1 k2
        | h k1 k2 k3 k4 k5 k6 k7 =>
          rename_i sz b rows a' c e' fz
          have k1' : H[o']? = some (.arr ver sz rows) := k1
          rw [hobj] at k1'; cases k1'
          by_cases hc : cap = l.toNat
          · rw [if_pos hc]
            refine .h k1 k2 (by omega) (by omega) k5 ?_ (.inl (by omega))
            rw [show i + l.toNat + (cap - l.toNat) = i + cap by omega]; exact k6
          · rw [if_neg hc]
            rcases k7 with k7 | k7
            · omega
            · subst k7
              simp only [Option.map_some]
              refine .h k1 k2 (by omega) (by omega) k5 ?_ (.inr ?_)
              · rw [show i + l.toNat + (cap - l.toNat) = i + cap by omega]; exact k6
              · rw [Addr.add_plain, Nat.add_mul]
      · exact h.elim
    · exact h.elim
  · exact h.elim

theorem VR.inv_sl {E : Env} {xs : List D} {v : Value} (h : VR E (.sl xs) v) (hne : 0 < xs.length) :
    ∃ a cap sz vs, v = .slice (some a) xs.length cap ∧ xs.length ≤ cap ∧ ¬ E.N a.block ∧ a.block < E.heap.size ∧ 0 < sz ∧ (∀ x ∈ xs, x.cells.length = sz) ∧ readsAt E.heap a vs ∧ VRs E (flat xs) vs := by
  cases h with
  | sl0 => simp at hne
  | sl k1 k2 k3 k4 k5 k6 k7 => exact ⟨_, _, _, _, rfl, k1, k2, k3, k4, k5, k6, k7⟩

theorem snd_fieldAddr {P T C φ H w} (hT : TOk P T) (g : G C φ H w) {ρ : Operand → D} {a : Operand → Value} (hρ : ∀ x, VR (C.env φ H w) (ρ x) (a x)) (o : Oper) {t : TypeId} {x : Operand} {f : Nat}
    (ho : o.op = .fieldAddr t x f) {hd K} (h : opK T hd o.op ρ H K) : Out P C φ H w (execOp a o) K := by
  rw [ho] at h
  simp only [opK] at h
  have hx := hρ x
  split at h
  · rename_i td ht
    split at h
    · rename_i fs hk
      split at h
      · rename_i off ft hf
        obtain ⟨⟨tf, htf, hpos⟩, h⟩ := h
        obtain ⟨fields, hu, hfs⟩ := (hT.at ht).struct hk
        have hfd : ∃ fd, fields[f]? = some fd ∧ fd.offset = off ∧ fd.type = ft := by
          subst hfs
          rw [List.getElem?_map] at hf
          cases hq : fields.toList[f]? with
          | none => rw [hq] at hf; cases hf
          | some fd =>
            rw [hq] at hf
            simp only [Option.map_some, Option.some.injEq, Prod.mk.injEq] at hf
            exact ⟨fd, by simpa using hq, hf.1, hf.2⟩
        obtain ⟨fd, hfd1, hfd2, hfd3⟩ := hfd
        have hrun : ∀ ad : Addr, (Instr.fieldAt t (.pointer (some ad)) f).run P w = .ok (.pointer (some (ad.add off))) w := fun ad => by
          simp only [Instr.fieldAt, Sem.run_bind, run_underlying P t w hu, Result.andThen_ok, hfd1, Instr.sureAddr, Sem.run_pure, fieldPlace, hfd3, (hT.at htf).run_size, hfd2]
          rw [if_neg (by omega)]
          rfl
        split at h
        · rename_i o' ver i j hp
          obtain ⟨⟨sz, rows, hobj, hi, hj⟩, h⟩ := h
          rw [hp] at hx
          obtain ⟨b, hax, k2, k3, k4⟩ := hx.inv_p hobj
          refine Out.pure g (v := .pointer (some ⟨b, i * sz + (j + off), none⟩)) ?_ (.p hobj k2 k3 hj) h
          simp only [execOp, ho, hax, Sem.run_bind, hrun, Result.andThen_ok, Addr.add_plain, Sem.run_pure, Nat.add_assoc]
        · rename_i cs hp
          rw [hp] at hx
          cases hax : a x <;> rw [hax] at hx <;> cases hx
          rename_i ad vs k1 k2 k3 k4
          refine Out.pure g (v := .pointer (some (ad.add off))) ?_ (.pe (by rw [Addr.add_block]; exact k1) (by rw [Addr.add_block]; exact k2) (readsAt_drop k3 off) (k4.drop off)) h
          simp only [execOp, ho, hax, Sem.run_bind, hrun, Result.andThen_ok, Sem.run_pure]
        · exact h.elim
      · exact h.elim
    · exact h.elim
  · exact h.elim

theorem run_part {P : Program} {T : Tab} {C : Ctx} {φ : List (Option Nat)} {H : List AObj} {w : World} (hT : TOk P T) {t : TypeId} {cs : List D} {arr : Array Value} (hv : VRs (C.env φ H w) cs arr.toList) {off : Nat} {K : D → Prop} (h : partK T t cs off K) :
    ∃ d v, K d ∧ VR (C.env φ H w) d v ∧ (part t arr off).run P w = .ok v w := by
  unfold partK at h
  split at h
  · rename_i td ht
    have hd := hT.at ht
    split at h
    · rename_i hb
      refine ⟨_, .agg (arr.extract off (off + td.size)), h.2, .agg ?_, ?_⟩
      · have := (hv.drop off).take td.size
        simpa [List.drop_take, Nat.add_sub_cancel_left] using this
      · simp only [part, Sem.run_bind, hd.run_isAgg, Result.andThen_ok, hb, if_true, hd.run_size, Sem.run_pure]
    · rename_i hb
      split at h
      · rename_i c hc
        obtain ⟨u, h1, h2⟩ := hv.get off c hc
        refine ⟨c, u, h, h2, ?_⟩
        have h1' : arr[off]? = some u := by simpa using h1
        simp only [part, Sem.run_bind, hd.run_isAgg, Result.andThen_ok, hb, Bool.false_eq_true, if_false, h1', Sem.run_pure]
      · exact h.elim
  · exact h.elim

theorem snd_field {P T C φ H w} (hT : TOk P T) (g : G C φ H w) {ρ : Operand → D} {a : Operand → Value} (hρ : ∀ x, VR (C.env φ H w) (ρ x) (a x)) (o : Oper) {t : TypeId} {x : Operand} {f : Nat}
    (ho : o.op = .field t x f) {hd K} (h : opK T hd o.op ρ H K) : Out P C φ H w (execOp a o) K := by
  rw [ho] at h
  simp only [opK] at h
  have hx := hρ x
  split at h
  · rename_i td ht
    split at h
    · rename_i fs hk
      split at h
      · rename_i off ft cs hf hp
        obtain ⟨fields, hu, hfs⟩ := (hT.at ht).struct hk
        have hfd : ∃ fd, fields[f]? = some fd ∧ fd.offset = off ∧ fd.type = ft := by
          subst hfs
          rw [List.getElem?_map] at hf
          cases hq : fields.toList[f]? with
          | none => rw [hq] at hf; cases hf
          | some fd =>
            rw [hq] at hf
            simp only [Option.map_some, Option.some.injEq, Prod.mk.injEq] at hf
            exact ⟨fd, by simpa using hq, hf.1, hf.2⟩
        obtain ⟨fd, hfd1, hfd2, hfd3⟩ := hfd
        rw [hp] at hx
        cases hax : a x <;> rw [hax] at hx <;> cases hx
        rename_i arr hv
        obtain ⟨d, v, k1, k2, k3⟩ := run_part (P := P) hT hv h
        refine Out.pure g (v := v) ?_ k2 k1
        simp only [execOp, ho, hax, Instr.field, Sem.run_bind, run_underlying P t w hu, Result.andThen_ok, hfd1, asAgg, Sem.run_pure, hfd3, hfd2, k3]
      · exact h.elim
    · exact h.elim
  · exact h.elim

theorem snd_index {P T C φ H w} (hT : TOk P T) (g : G C φ H w) {ρ : Operand → D} {a : Operand → Value} (hρ : ∀ x, VR (C.env φ H w) (ρ x) (a x)) (o : Oper) {t : TypeId} {x ix : Operand}
    (ho : o.op = .index t x ix) {hd K} (h : opK T hd o.op ρ H K) : Out P C φ H w (execOp a o) K := by
  rw [ho] at h
  simp only [opK] at h
  have hx := hρ x; have hi := hρ ix
  split at h
  · rename_i td k n ht hn
    rw [hn] at hi
    cases hai : a ix <;> rw [hai] at hi <;> cases hi
    split at h
    · rename_i s hk hs
      obtain ⟨h0, b, hb, h⟩ := h
      rw [hs] at hx
      cases hax : a x <;> rw [hax] at hx <;> cases hx
      refine Out.pure g (v := .int .u8 b.toNat) ?_ (.int _ _) h
      simp only [execOp, ho, hax, hai, Instr.index, asIntOf, Sem.run_bind, Sem.run_pure, Result.andThen_ok, run_underlying P t w ((hT.at ht).string hk)]
      rw [if_pos h0, hb]
      rfl
    · rename_i len e cs hk hs
      split at h
      · rename_i te hte
        obtain ⟨h0, h1, h⟩ := h
        rw [hs] at hx
        cases hax : a x <;> rw [hax] at hx <;> cases hx
        rename_i arr hv
        obtain ⟨d, v, k1, k2, k3⟩ := run_part (P := P) hT hv h
        refine Out.pure g (v := v) ?_ k2 k1
        simp only [execOp, ho, hax, hai, Instr.index, asIntOf, Sem.run_bind, Sem.run_pure, Result.andThen_ok, run_underlying P t w ((hT.at ht).array hk)]
        rw [if_pos ⟨h0, h1⟩]
        simp only [Sem.run_bind, (hT.at hte).run_size, Result.andThen_ok, k3]
      · exact h.elim
    · exact h.elim
  · exact h.elim

theorem snd_indexAddr {P T C φ H w} (hT : TOk P T) (g : G C φ H w) {ρ : Operand → D} {a : Operand → Value} (hρ : ∀ x, VR (C.env φ H w) (ρ x) (a x)) (o : Oper) {t : TypeId} {x ix : Operand}
    (ho : o.op = .indexAddr t x ix) {hd K} (h : opK T hd o.op ρ H K) : Out P C φ H w (execOp a o) K := by
  rw [ho] at h
  simp only [opK] at h
  have hx := hρ x; have hi := hρ ix
  split at h
  · rename_i td ht
    split at h
    · rename_i e hk
      split at h
      · rename_i te k n hte hn
        rw [hn] at hi
        cases hai : a ix <;> rw [hai] at hi <;> cases hi
        have hrun : ∀ (ad : Addr) (len cap : Nat), 0 ≤ n → n < len → a x = .slice (some ad) len cap → (execOp a o).run P w = .ok (.value (.pointer (some (ad.add (n.toNat * te.size))))) w := fun ad len cap h0 h1 hax => by
          simp only [execOp, ho, hax, hai, Instr.indexAt, asIntOf, Sem.run_bind, Sem.run_pure, Result.andThen_ok, run_underlying P t w ((hT.at ht).slice hk)]
          rw [if_pos ⟨h0, h1⟩]
          simp only [Sem.run_bind, (hT.at hte).run_size, Result.andThen_ok, Sem.run_pure]
        split at h
        · rename_i xs hs
          obtain ⟨h0, row, hr, hl, h⟩ := h
          have hlt := (List.getElem?_eq_some_iff.mp hr).1
          rw [hs] at hx
          obtain ⟨ad, cap, sz, vs, hax, k1, k2, k3, k4, k5, k6, k7⟩ := hx.inv_sl (by omega)
          have hsz : sz = te.size := by rw [← hl, k5 row (List.mem_of_getElem? hr)]
          subst hsz
          have hv := k7.drop (n.toNat * te.size)
          rw [flat_drop k5, drop_of_get hr, flat] at hv
          obtain ⟨vs1, vs2, m1, m2, _⟩ := VRs.split hv
          have hrd := readsAt_drop k6 (n.toNat * te.size)
          have hrd2 : readsAt w.heap (ad.add (n.toNat * te.size)) vs1 := by
            obtain ⟨p1, c, e', fz, p2, p3⟩ := hrd
            exact ⟨p1, c, e', fz, p2, fun j v hj => p3 j v (by
              rw [m1, List.getElem?_append_left (List.getElem?_eq_some_iff.mp hj).1]; exact hj)⟩
          exact Out.pure g (hrun ad xs.length cap h0 (by omega) hax) (.pe (by rw [Addr.add_block]; exact k2) (by rw [Addr.add_block]; exact k3) hrd2 m2) h
        · rename_i o' ver i m hs
          obtain ⟨h0, h1, h⟩ := h
          split at h
          · rename_i v sz rows hobj
            obtain ⟨rfl, rfl, h2, h⟩ := h
            rw [hs] at hx
            rcases hx.inv_h hobj with ⟨_, _, k, _⟩ | ⟨b, ad, cap, c, e', fz, hax, k2, k3, k4, k5, k6, k7⟩
            · omega
            · rcases k7 with k7 | k7
              · omega
              · subst k7
                have hpos := (g.arrOf hobj k2).1
                refine Out.pure g (hrun _ m _ h0 (by omega) hax) ?_ h
                rw [Addr.add_plain, ← Nat.add_mul]
                exact .p hobj k2 h2 hpos
          · exact h.elim
        · exact h.elim
      · exact h.elim
    · rename_i len e hk
      split at h
      · rename_i te k n hte hn
        rw [hn] at hi
        cases hai : a ix <;> rw [hai] at hi <;> cases hi
        have hrun : ∀ (ad : Addr), 0 ≤ n → n < len → a x = .pointer (some ad) → (execOp a o).run P w = .ok (.value (.pointer (some (ad.add (n.toNat * te.size))))) w := fun ad h0 h1 hax => by
          simp only [execOp, ho, hax, hai, Instr.indexAt, asIntOf, Instr.sureAddr, Sem.run_bind, Sem.run_pure, Result.andThen_ok, run_underlying P t w ((hT.at ht).array hk)]
          rw [if_pos ⟨h0, h1⟩]
          simp only [Sem.run_bind, (hT.at hte).run_size, Result.andThen_ok, Sem.run_pure]
        split at h
        · rename_i cs hs
          obtain ⟨h0, h1, h⟩ := h
          rw [hs] at hx
          cases hax : a x <;> rw [hax] at hx <;> cases hx
          rename_i ad vs k1 k2 k3 k4
          exact Out.pure g (hrun _ h0 h1 hax) (.pe (by rw [Addr.add_block]; exact k1) (by rw [Addr.add_block]; exact k2) (readsAt_drop k3 _) (k4.drop _)) h
        · rename_i o' ver i j hs
          obtain ⟨h0, h1, ⟨sz, rows, hobj, h2, h3⟩, h⟩ := h
          rw [hs] at hx
          obtain ⟨b, hax, k1, k2, k3⟩ := hx.inv_p hobj
          refine Out.pure g (hrun _ h0 h1 hax) ?_ h
          rw [Addr.add_plain, Nat.add_assoc]
          exact .p hobj k1 k2 h3
        · exact h.elim
      · exact h.elim
    · exact h.elim
  · exact h.elim

end Go.A
