/- A logic of abstract states, part 9: what builds, and the builtins. -/
import Derived.Test.YtgigpjkdfhhahaaA8
namespace Go.A
set_option linter.unusedVariables false
set_option linter.unusedSimpArgs false

theorem spliceA_toList (c : Array Value) (off : Nat) (vs : List Value) (h : off + vs.length ≤ c.size) : (spliceA c off vs).toList = spliceL c.toList off vs := by
  apply List.ext_getElem?
  intro k
  rw [Array.getElem?_toList, spliceA_get _ _ _ _ h]
  unfold spliceL
  have hl : (c.toList.take off).length = off := by simp; omega
  split
  · rename_i hk
    rw [List.append_assoc, List.getElem?_append_right (by omega), hl, List.getElem?_append_left (by omega)]
  · rename_i hk
    rcases Nat.lt_or_ge k off with h1 | h1
    · rw [List.append_assoc, List.getElem?_append_left (by omega), List.getElem?_take, if_pos h1]
      simp
    · rw [List.getElem?_append_right (by simp; omega), List.getElem?_drop]
      simp only [List.length_append, hl]
      rw [show off + vs.length + (k - (off + vs.length)) = k by omega]
      simp

theorem foldl_zip (off : Nat) : ∀ (l : List Value) (k : Nat) (cells : Array Value), (l.zipIdx k).foldl (fun (cs : Array Value) (x : Value × Nat) => cs.setIfInBounds (off + x.2) x.1) cells = spliceA cells (off + k) l
  | [], k, cells => rfl
  | v :: l, k, cells => by
    rw [List.zipIdx_cons, List.foldl_cons, foldl_zip off l (k + 1)]
    rfl

theorem fill_ok {E : Env} : ∀ (dp : List (Nat × D)) (vp : List (Nat × Value)) (pd pv : Nat → Option (Nat × Nat)) (dcells dcs : List D) (cells : Array Value),
    dp.length = vp.length → (∀ (i : Nat) (p : Nat × D) (q : Nat × Value), dp[i]? = some p → vp[i]? = some q → p.1 = q.1 ∧ VR E p.2 q.2) → (∀ i r, pd i = some r → pv i = some r) → VRs E dcells cells.toList →
    fillD pd dcells dp = some dcs → ∃ cs, Instr.fill pv cells vp = some cs ∧ VRs E dcs cs.toList
  | [], vp, pd, pv, dcells, dcs, cells, hl, hp, hpl, hc, h => by
    cases vp with
    | nil => simp [fillD] at h; subst h; exact ⟨cells, rfl, hc⟩
    | cons q vp => simp at hl
  | (i, d) :: dp, vp, pd, pv, dcells, dcs, cells, hl, hp, hpl, hc, h => by
    cases vp with
    | nil => simp at hl
    | cons q vp =>
      obtain ⟨i', v⟩ := q
      obtain ⟨e1, e2⟩ := hp 0 _ _ rfl rfl
      simp only at e1 e2; subst e1
      simp only [fillD] at h
      split at h
      · cases h
      · rename_i off size hpi
        split at h
        · rename_i hcond
          obtain ⟨h1, h2, h3⟩ := hcond
          have hvc := e2.cells h1
          have hlen := hvc.length
          have hcl := hc.length
          simp only [Array.length_toList] at hlen hcl
          have hfold : (v.cells.zipIdx.foldl (fun (cs : Array Value) (x : Value × Nat) => cs.setIfInBounds (off + x.2) x.1) cells) = spliceA cells off v.cells.toList := by
            rw [← Array.foldl_toList, Array.toList_zipIdx, foldl_zip]
            rfl
          obtain ⟨cs, k1, k2⟩ := fill_ok dp vp pd pv _ dcs (spliceA cells off v.cells.toList) (by simpa using hl) (fun j p q hj hq => hp (j + 1) p q (by simpa using hj) (by simpa using hq)) hpl
            (by rw [spliceA_toList _ _ _ (by simp; omega)]; exact hc.splice off hvc) h
          refine ⟨cs, ?_, k2⟩
          simp only [Instr.fill, hpl i _ hpi]
          rw [if_neg (by simp; omega)]
          rw [← k1]
          congr 1
        · cases h

theorem run_mapM_list {α β : Type} (P : Program) (w : World) (f : α → Sem β) (r : α → β) : ∀ (l : List α), (∀ x ∈ l, (f x).run P w = .ok (r x) w) → (l.mapM f).run P w = .ok (l.map r) w
  | [], _ => by simp
  | x :: l, h => by
    simp only [List.mapM_cons, Sem.run_bind, h x (List.mem_cons_self ..), Result.andThen_ok, run_mapM_list P w f r l (fun y hy => h y (List.mem_cons_of_mem _ hy)), Sem.run_pure, List.map_cons]

theorem run_mapM {α β : Type} (P : Program) (w : World) (f : α → Sem β) (r : α → β) (l : Array α) (h : ∀ x ∈ l.toList, (f x).run P w = .ok (r x) w) : (l.mapM f).run P w = .ok (l.map r) w := by
  rw [Array.mapM_eq_mapM_toList, Sem.run_map, run_mapM_list P w f r _ h]
  simp only [Result.andThen_ok]
  congr 1
  apply Array.ext'
  simp

theorem parts_rel {E : Env} {ρ : Operand → D} {a : Operand → Value} (hρ : ∀ x, VR E (ρ x) (a x)) (parts : List (Nat × Operand)) (i : Nat) (p : Nat × D) (q : Nat × Value)
    (h1 : (parts.map fun p => (p.1, ρ p.2))[i]? = some p) (h2 : (parts.map fun p => (p.1, a p.2))[i]? = some q) : p.1 = q.1 ∧ VR E p.2 q.2 := by
  rw [List.getElem?_map] at h1 h2
  cases hq : parts[i]? with
  | none => rw [hq] at h1; cases h1
  | some r =>
    rw [hq] at h1 h2
    simp only [Option.map_some, Option.some.injEq] at h1 h2
    subst h1 h2
    exact ⟨rfl, hρ _⟩

theorem snd_build {P T C φ H w} (hT : TOk P T) (g : G C φ H w) {ρ : Operand → D} {a : Operand → Value} (hρ : ∀ x, VR (C.env φ H w) (ρ x) (a x)) (o : Oper) {t : TypeId} {parts : Array (Nat × Operand)}
    (ho : o.op = .build t parts) {hd K} (h : opK T hd o.op ρ H K) : Out P C φ H w (execOp a o) K := by
  rw [ho] at h
  simp only [opK] at h
  split at h
  · rename_i td ht
    obtain ⟨z, hz1, hz2⟩ := (hT.at ht).run_zero (P := P) w
    have hzv := (VR.zero (hT.at ht) hz2 (C.env φ H w)).2
    have hpl : (parts.map fun (p : Nat × Operand) => (p.1, a p.2)).toList = parts.toList.map fun p => (p.1, a p.2) := by simp
    split at h
    · rename_i fs hk
      obtain ⟨fields, hu, hfs⟩ := (hT.at ht).struct hk
      split at h
      · rename_i cs hcs
        obtain ⟨hall, h⟩ := h
        have hsz : ∀ f ∈ fields.toList, ∃ tf, T.get f.type = some tf := fun f hf => by
          have := hall (f.offset, f.type) (by rw [hfs]; exact List.mem_map.mpr ⟨f, hf, rfl⟩)
          exact Option.isSome_iff_exists.mp this
        have hmap : (fields.mapM fun f => (do pure (f.offset, ← sizeOf f.type) : Sem (Nat × Nat))).run P w = .ok (fields.map fun f => (f.offset, ((T.get f.type).map (·.size)).getD 0)) w := by
          refine run_mapM P w _ _ _ (fun f hf => ?_)
          obtain ⟨tf, htf⟩ := hsz f hf
          simp only [Sem.run_bind, (hT.at htf).run_size, Result.andThen_ok, Sem.run_pure, htf, Option.map_some, Option.getD_some]
        obtain ⟨vcs, k1, k2⟩ := fill_ok _ (parts.toList.map fun p => (p.1, a p.2)) (placeS T fs) ((fields.map fun f => (f.offset, ((T.get f.type).map (·.size)).getD 0))[·]?) _ cs z.cells (by simp) (parts_rel hρ parts.toList)
          (fun i r hi => by
            unfold placeS at hi
            split at hi
            · rename_i off tt hft
              split at hi
              · rename_i td' htd'
                simp only [Option.some.injEq] at hi; subst hi
                rw [hfs, List.getElem?_map] at hft
                cases hq : fields.toList[i]? with
                | none => rw [hq] at hft; cases hft
                | some f =>
                  rw [hq] at hft
                  simp only [Option.map_some, Option.some.injEq, Prod.mk.injEq] at hft
                  obtain ⟨rfl, rfl⟩ := hft
                  have hq' : fields[i]? = some f := by simpa using hq
                  simp [hq', htd']
              · cases hi
            · cases hi) hzv hcs
        refine Out.pure g (v := .agg vcs) ?_ (.agg k2) h
        simp only [execOp, ho, Instr.build, Sem.run_bind, hz1, Result.andThen_ok, run_underlying P t w hu, hmap]
        have : Instr.fill (fun i => (fields.map fun f => (f.offset, ((T.get f.type).map (·.size)).getD 0))[i]?) z.cells (parts.map fun (p : Nat × Operand) => (p.1, a p.2)).toList = some vcs := by rw [hpl]; exact k1
        rw [this]
        simp
      · exact h.elim
    · rename_i n e hk
      split at h
      · rename_i te hte
        split at h
        · rename_i cs hcs
          obtain ⟨vcs, k1, k2⟩ := fill_ok _ (parts.toList.map fun p => (p.1, a p.2)) (fun i => some (i * te.size, te.size)) (fun i => some (i * te.size, te.size)) _ cs z.cells (by simp) (parts_rel hρ parts.toList)
            (fun i r hi => hi) hzv hcs
          refine Out.pure g (v := .agg vcs) ?_ (.agg k2) h
          simp only [execOp, ho, Instr.build, Sem.run_bind, hz1, Result.andThen_ok, run_underlying P t w ((hT.at ht).array hk), (hT.at hte).run_size]
          have : Instr.fill (fun i => some (i * te.size, te.size)) z.cells (parts.map fun (p : Nat × Operand) => (p.1, a p.2)).toList = some vcs := by rw [hpl]; exact k1
          rw [this]
          simp
        · exact h.elim
      · exact h.elim
    · exact h.elim
  · exact h.elim

theorem litRows_ok {E : Env} {sz : Nat} (hsz : 0 < sz) (len : Nat) : ∀ (dp : List (Nat × D)) (vp : List (Nat × Value)) (rows rows' : List D) (cells : Array Value),
    dp.length = vp.length → (∀ (i : Nat) (p : Nat × D) (q : Nat × Value), dp[i]? = some p → vp[i]? = some q → p.1 = q.1 ∧ VR E p.2 q.2) → rows.length = len → (∀ x ∈ rows, x.cells.length = sz) → VRs E (flat rows) cells.toList →
    dp.foldlM (fun (rows : List D) (p : Nat × D) => if p.1 < len ∧ p.2.told = true ∧ p.2.cells.length = sz then some (rows.set p.1 p.2) else none) rows = some rows' →
    ∃ cs, Instr.fill (fun i => some (i * sz, sz)) cells vp = some cs ∧ VRs E (flat rows') cs.toList ∧ (∀ x ∈ rows', x.cells.length = sz) ∧ rows'.length = len
  | [], vp, rows, rows', cells, hl, hp, hr, hu, hc, h => by
    cases vp with
    | nil => simp at h; subst h; exact ⟨cells, rfl, hc, hu, hr⟩
    | cons q vp => simp at hl
  | (i, d) :: dp, vp, rows, rows', cells, hl, hp, hr, hu, hc, h => by
    cases vp with
    | nil => simp at hl
    | cons q vp =>
      obtain ⟨i', v⟩ := q
      obtain ⟨e1, e2⟩ := hp 0 _ _ rfl rfl
      simp only at e1 e2; subst e1
      rw [List.foldlM_cons] at h
      split at h
      · rename_i hcond
        obtain ⟨h1, h2, h3⟩ := hcond
        simp only at h1 h2 h3
        have hvc := e2.cells h2
        have hlen := hvc.length
        have hcl := hc.length
        simp only [Array.length_toList] at hlen hcl
        rw [flat_length hu, hr] at hcl
        have hle : i * sz + sz ≤ len * sz := by
          calc i * sz + sz = (i + 1) * sz := by rw [Nat.add_mul]; omega
            _ ≤ len * sz := Nat.mul_le_mul_right _ (by omega)
        have hir : i < rows.length := by omega
        have hfold : (v.cells.zipIdx.foldl (fun (cs : Array Value) (x : Value × Nat) => cs.setIfInBounds (i * sz + x.2) x.1) cells) = spliceA cells (i * sz) v.cells.toList := by
          rw [← Array.foldl_toList, Array.toList_zipIdx, foldl_zip]
          rfl
        have hrow : rows[i]? = some rows[i] := List.getElem?_eq_getElem hir
        have hrl : (rows[i]).cells.length = sz := hu _ (List.getElem_mem hir)
        have hsp : d.cells = spliceL (rows[i]).cells 0 d.cells := by
          unfold spliceL
          rw [List.drop_eq_nil_of_le (by omega)]
          simp
        obtain ⟨cs, k1, k2, k3, k4⟩ := litRows_ok hsz len dp vp (rows.set i d) rows' (spliceA cells (i * sz) v.cells.toList) (by simpa using hl) (fun j p q hj hq => hp (j + 1) p q (by simpa using hj) (by simpa using hq))
          (by simpa using hr) (fun x hx => by
            rcases List.mem_or_eq_of_mem_set hx with hx | rfl
            · exact hu x hx
            · exact h3)
          (by
            rw [spliceA_toList _ _ _ (by simp; omega), flat_set hu hrow hsp (by omega)]
            simpa using hc.splice (i * sz) hvc) h
        refine ⟨cs, ?_, k2, k3, k4⟩
        simp only [Instr.fill]
        rw [if_neg (by simp; omega)]
        rw [← k1]
        congr 1
      · cases h

theorem snd_buildSlice {P T C φ H w} (hT : TOk P T) (g : G C φ H w) {ρ : Operand → D} {a : Operand → Value} (hρ : ∀ x, VR (C.env φ H w) (ρ x) (a x)) (o : Oper) {t : TypeId} {len : Nat} {parts : Array (Nat × Operand)}
    (ho : o.op = .buildSlice t len parts) {hd K} (h : opK T hd o.op ρ H K) : Out P C φ H w (execOp a o) K := by
  rw [ho] at h
  simp only [opK] at h
  split at h
  · rename_i td ht
    split at h
    · rename_i e hk
      split at h
      · rename_i te hte
        obtain ⟨hsz, hlim, h⟩ := h
        split at h
        · rename_i rows hrows
          obtain ⟨z, hz1, hz2⟩ := (hT.at hte).run_zero (P := P) w
          have hzv := (VR.zero (hT.at hte) hz2 (C.env φ H w)).2
          have hzs : z.cells.size = te.size := by
            have := hzv.length
            rw [(hT.at hte).len] at this
            simpa using this.symm
          have hzl : ((Array.range (len * te.size)).map (z.cells[· % z.cells.size]!)).toList = (List.replicate len z.cells.toList).flatten := by
            apply List.ext_getElem?
            intro k
            rcases Nat.lt_or_ge k (len * te.size) with hk' | hk'
            · have hlen : (List.replicate len z.cells.toList).flatten.length = len * te.size := by simp [hzs]
              have := zeroRow_get z.cells len k _ (List.getElem?_eq_getElem (by omega) : (List.replicate len z.cells.toList).flatten[k]? = some _)
              have e0 : len * z.cells.size = len * te.size := by rw [hzs]
              rw [e0] at this
              rw [Array.getElem?_toList, this, List.getElem?_eq_getElem (by omega)]
            · rw [List.getElem?_eq_none (by simp; omega), List.getElem?_eq_none (by simp [hzs]; omega)]
          unfold litRows at hrows
          obtain ⟨vcs, k1, k2, k3, k4⟩ := litRows_ok (E := C.env φ H w) hsz len _ (parts.toList.map fun p => (p.1, a p.2)) _ rows ((Array.range (len * te.size)).map (z.cells[· % z.cells.size]!)) (by simp) (parts_rel hρ parts.toList)
            (by simp) (fun x hx => by rw [(List.mem_replicate.mp hx).2]; exact (hT.at hte).len) (by rw [flat_replicate, hzl]; exact hzv.replicate _) hrows
          have hpl : (parts.map fun (p : Nat × Operand) => (p.1, a p.2)).toList = parts.toList.map fun p => (p.1, a p.2) := by simp
          obtain ⟨w', hw'⟩ : ∃ w', w' = { w with heap := w.heap.push (Obj.cells vcs e (0, 0)) } := ⟨_, rfl⟩
          have hrun : (execOp a o).run P w = .ok (.value (.slice (some ⟨w.heap.size, 0, none⟩) len len)) w' := by
            simp only [execOp, ho, Instr.buildSlice, Sem.run_bind, (hT.at ht).run_slice hk, Result.andThen_ok, (hT.at hte).run_size]
            rw [if_neg (by omega)]
            have hk1 : Instr.fill (fun i => some (i * te.size, te.size)) ((Array.range (len * te.size)).map (z.cells[· % z.cells.size]!)) (parts.map fun (p : Nat × Operand) => (p.1, a p.2)).toList = some vcs := by rw [hpl]; exact k1
            by_cases h0 : len * te.size = 0
            · rw [if_pos h0]
              simp only [Sem.run_bind, Sem.run_pure, Result.andThen_ok]
              have he : ∀ y : Array Value, (Array.range (len * te.size)).map (y[· % y.size]!) = #[] := fun y => by rw [h0]; simp
              rw [he] at hk1 ⊢
              rw [hk1]
              simp only [newRow, Sem.run_bind, run_newObj, Result.andThen_ok, Sem.run_pure, hw']
            · rw [if_neg h0]
              simp only [Sem.run_bind, hz1, Result.andThen_ok, Sem.run_pure, hk1, newRow, run_newObj, hw']
          have hhp : w'.heap = w.heap.push (Obj.cells vcs e (0, 0)) := by rw [hw']
          have hsame : Same w w' := by rw [hw']; exact ⟨rfl, rfl, rfl, (by first | exact Nat.le_refl _ | exact Nat.le_succ _)⟩
          split at h
          · obtain ⟨φ', H', o', ver, h, m1, m2, m3, m4, m5⟩ := g.newArr' (w' := w') (c := vcs) (e := e) h hsz k3 k2 (fun j v hj => by simpa using hj) hhp hsame
            refine ⟨_, _, w', _, _, _, hrun, .inl rfl, h, m1, m2, ?_⟩
            have hvl : vcs.size = len * te.size := by
              have := k2.length
              rw [flat_length k3, k4] at this
              simpa using this.symm
            have := VR.h (E := C.env φ' H' w') (i := 0) (n := len) (cap := len) (a := ⟨w.heap.size, 0, none⟩) m3 m4 (by omega) (Nat.le_refl _) m5 (by rw [hvl]; simp) (.inr (by simp))
            exact this
          · obtain ⟨m1, m2, m3⟩ := g.pushFree hhp hsame
            refine ⟨_, _, w', φ, H, _, hrun, .inl rfl, h, m1, m2, ?_⟩
            have := VR.sl (E := C.env φ H w') (xs := rows) (a := ⟨w.heap.size, 0, none⟩) (cap := len) (sz := te.size) (vs := vcs.toList) (by omega) m3 (by show w.heap.size < w'.heap.size; rw [hhp]; simp) hsz k3
              ⟨rfl, vcs, e, (0, 0), by rw [show (C.env φ H w').heap = w'.heap from rfl, hhp, Array.getElem?_push, if_pos rfl], fun j v hj => by simpa using hj⟩ (VRs.mono m2 k2)
            rw [k4] at this
            exact this
        · exact h.elim
      · exact h.elim
    · exact h.elim
  · exact h.elim

/-- What is appended, or copied. -/
theorem run_cellsOf {P C φ H w} (g : G C φ H w) {x : D} {v : Value} (hx : VR (C.env φ H w) x v) {sz : Nat} {ys : List D} (hy : (∃ s, x = .str s ∧ ys = strBytes s ∧ sz = 1) ∨ rowsOf H x = some ys) (hu : ∀ y ∈ ys, y.cells.length = sz) :
    ∃ cs : List Value, (Builtin.lenOf v).run P w = .ok ys.length w ∧ cs.length = ys.length * sz ∧ VRs (C.env φ H w) (flat ys) cs ∧ ∀ (m : Nat) (w' : World), w'.heap = w.heap → m ≤ ys.length → (Builtin.firstCells sz m v).run P w' = .ok (cs.take (m * sz)).toArray w' := by
  rcases hy with ⟨s, rfl, rfl, rfl⟩ | hy
  · cases hx
    have hl : (strBytes s).length = s.size := by simp [strBytes]
    refine ⟨s.data.toList.map fun b => Value.int .u8 b.toNat, by simp [Builtin.lenOf, hl], by simp [strBytes], ?_, fun m w' hw hm => ?_⟩
    · rw [flat_one (fun x hx => isU8_cells (List.all_eq_true.mp (strBytes_all s) x hx))]
      exact VRs.strBytes _ s
    · simp only [Builtin.firstCells, Sem.run_pure]
      congr 1
      apply Array.ext'
      simp [ByteArray.data_extract]
  · obtain ⟨a, cap, rfl, hle, hr⟩ := g.rows hx hy
    rcases Nat.eq_zero_or_pos ys.length with hz | hz
    · have : ys = [] := List.length_eq_zero_iff.mp hz
      subst this
      refine ⟨[], by simp [Builtin.lenOf], by simp, .nil, fun m w' hw hm => ?_⟩
      have : m = 0 := by simpa using hm
      subst this
      cases a with
      | none => simp [Builtin.firstCells]
      | some ad => simp [Builtin.firstCells, loadCells, loadCellsFrom]
    · obtain ⟨ad, sz', vs, rfl, q1, q2, q3, q4⟩ := hr (fun e => by subst e; simp at hz)
      have hsz : sz' = sz := by
        cases ys with
        | nil => simp at hz
        | cons y0 yr => rw [← q2 y0 (List.mem_cons_self ..), hu y0 (List.mem_cons_self ..)]
      subst hsz
      have hvl := q4.length
      rw [flat_length q2] at hvl
      refine ⟨vs, by simp [Builtin.lenOf], hvl.symm, q4, fun m w' hw hm => ?_⟩
      simp only [Builtin.firstCells]
      exact run_loadCells_at P (hw ▸ q3) _ (by rw [← hvl]; exact Nat.mul_le_mul_right _ hm)

theorem flat_one_all {ys : List D} (h : ∀ y ∈ ys, y.cells.all D.one = true) : (flat ys).all D.one = true := by
  induction ys with
  | nil => rfl
  | cons y ys ih =>
    simp only [flat, List.all_append, Bool.and_eq_true]
    exact ⟨h y (List.mem_cons_self ..), ih (fun z hz => h z (List.mem_cons_of_mem _ hz))⟩

/-- The rows of an owned thing are turned, in place. -/
theorem G.reRow {C φ H w w'} (g : G C φ H w) {o ver ver' sz b : Nat} {rows rows' : List D} {c c' : Array Value} {e : TypeId} {vs : List Value} (ho : H[o]? = some (.arr ver sz rows)) (hb : φ[o]? = some (some b))
    (hv : ver < ver' ∨ (ver' = ver ∧ rows'.length = rows.length)) (hs : Same w w') (hsz : w'.heap.size = w.heap.size) (hc : CellsAt w.heap b c e) (hc' : CellsAt w'.heap b c' e) (hcs : c'.size = c.size)
    (hold : ∀ k, k ≠ b → w'.heap[k]? = w.heap[k]?) (hu : ∀ x ∈ rows', x.cells.length = sz) (hr : VRs (C.env φ H w) (flat rows') vs) (hin : ∀ (j : Nat) v, vs[j]? = some v → c'[j]? = some v) :
    G C φ (H.set o (.arr ver' sz rows')) w' ∧ Ext (C.env φ H w) (C.env φ (H.set o (.arr ver' sz rows')) w') := by
  have hb' : φ.set o (some b) = φ := by
    apply List.ext_getElem?
    intro k
    by_cases hk : k = o
    · subst hk
      have := (List.getElem?_eq_some_iff.mp hb).1
      rw [List.getElem?_set_self this, hb]
    · simp [Ne.symm hk]
  have hpos := (g.arrOf ho hb).1
  have key := g.turn (b' := b) (ob' := .arr ver' sz rows') (w' := w') ho trivial hb trivial
    { old := fun v hv' => by
        simp only [AObj.past] at hv' ⊢
        omega
      arr := fun v s r hh => by
        cases hh
        rcases hv with hv | ⟨hv, hl⟩
        · exact .inl hv
        · exact .inr ⟨rows', by rw [hv], hl⟩
      map := fun es st hh => by cases hh }
    hs (by omega) (by rw [hsz]; exact (g.own o b _ ho trivial hb).1) (fun k _ hk => hold k hk)
    (.inl ⟨rfl, fun c1 e1 fz hc1 => by
      obtain ⟨f1, _, hc⟩ := hc
      obtain ⟨f2, _, hc'⟩ := hc'
      rw [hc] at hc1; cases hc1; exact ⟨_, _, _, hc', hcs⟩⟩)
    (fun E' hE x1 hφ hN => .inr ⟨b, hφ, hN, hpos, hu, c', e, vs, by subst hE; exact hc', VRs.mono x1 hr, hin⟩)
  rw [hb'] at key
  exact key

theorem zeroCells_size (z : Array Value) (n : Nat) : (Builtin.zeroCells z n).size = n * z.size := by simp [Builtin.zeroCells]

/-- An append, run. -/
theorem run_append {P : Program} {w : World} {t t' e ty : TypeId} {ts : List TypeId} {i : TypeInfo} {z : Value} {d' : TypeDesc} {sz : Nat} (ht : P.underlying t = some (.slice e)) (ht' : P.underlying t' = some d') (hd' : d' = .string ∨ ∃ e', d' = .slice e')
    (hi1 : P.info? e = some i) (hi2 : i.size = sz) (hi4 : i.zero = some z) (hby : 0 < i.bytes) {base : Option Addr} {n cap m : Nat} {xv : Value} {old cs : List Value} (hn : n ≤ cap) (hlen : (Builtin.lenOf xv).run P w = .ok m w)
    (hnew : ∀ w' : World, w'.heap = w.heap → (Builtin.firstCells sz m xv).run P w' = .ok cs.toArray w') (hold : ∀ w' : World, w'.heap = w.heap → (Builtin.firstCells sz n (.slice base n cap)).run P w' = .ok old.toArray w')
    (hroom : (n + m) * i.bytes ≤ 140737488355328) :
    (n + m ≤ cap → (Builtin.append_ (t :: t' :: ts).toArray ty #[.slice base n cap, xv]).run P w = ((match base with | some a => storeCells (a.add (n * sz)) cs | none => (pure () : Sem Unit)).run P w).andThen fun _ w' => .ok (.slice base (n + m) cap) w') ∧
    (cap < n + m → ∃ newCap, n + m ≤ newCap ∧ (Builtin.append_ (t :: t' :: ts).toArray ty #[.slice base n cap, xv]).run P w =
      .ok (.slice (some ⟨w.heap.size, 0, none⟩) (n + m) newCap) { w with drawn := w.drawn + 1, heap := w.heap.push (Obj.cells (old.toArray ++ cs.toArray ++ Builtin.zeroCells z.cells (newCap - (n + m))) e (0, 0)) }) := by
  have hsz : (sizeOf e).run P w = .ok sz w := by simp [sizeOf, run_typeInfo P e w hi1, hi2]
  have hcapb : cap < n + m → Builtin.nextslicecap (n + m) cap * i.bytes ≤ 281474976710656 := fun hc => growslice_fits hc hroom
  have hmax : ¬ (((n + m : Nat) : Int) > IntKind.i64.max ∧ (false = true ∨ i.bytes = 0)) := by
    rintro ⟨_, h | h⟩
    · cases h
    · omega
  constructor
  · intro hc
    rcases hd' with rfl | ⟨e', rfl⟩
    all_goals
      simp only [Builtin.append_, List.getElem?_toArray, List.getElem?_cons_zero, List.getElem?_cons_succ, Sem.run_bind, run_underlying P t w ht, run_underlying P t' w ht', Result.andThen_ok, hsz, Sem.run_pure, Bool.false_eq_true, if_false, hlen]
      rw [if_pos hc]
      simp only [Bool.not_false, if_true, Sem.run_bind, hnew w rfl, Result.andThen_ok]
      cases base with
      | none => simp
      | some a => simp
  · intro hc
    refine ⟨(Question.appendCap (n + m) cap e).cut (w.tape w.drawn (.appendCap (n + m) cap e)), by simp [Question.cut], ?_⟩
    have hcap := hcapb hc
    rcases hd' with rfl | ⟨e', rfl⟩
    all_goals
      simp only [Builtin.append_, List.getElem?_toArray, List.getElem?_cons_zero, List.getElem?_cons_succ, Sem.run_bind, run_underlying P t w ht, run_underlying P t' w ht', Result.andThen_ok, hsz, Sem.run_pure, Bool.false_eq_true, if_false, hlen]
      rw [if_neg (by omega)]
      simp only [Sem.run_bind, run_typeInfo P e w hi1, Result.andThen_ok]
      rw [if_neg (by simpa using hmax)]
      simp only [Sem.run_bind, run_typeInfo P e w hi1, Result.andThen_ok]
      rw [if_neg (by omega)]
      simp only [Sem.run_bind, run_choose, Question.forced, Bool.false_eq_true, if_false, Result.andThen_ok, run_typeInfo P e _ hi1, run_askRoom, Bool.not_false, if_true]
      rw [hold { w with drawn := w.drawn + 1 } rfl]
      simp only [Result.andThen_ok]
      rw [hnew { w with drawn := w.drawn + 1 } rfl]
      simp only [Result.andThen_ok, zeroValue, Sem.run_bind, run_typeInfo P e _ hi1, hi4, Sem.run_pure, newRow, run_newObj]

/-- A nil slice that is owned, told anew. -/
theorem G.bumpNil {C φ H w} (g : G C φ H w) {o ver ver' sz sz' : Nat} (ho : H[o]? = some (.arr ver sz [])) (hb : φ[o]? = some none) (hv : ver < ver') :
    G C φ (H.set o (.arr ver' sz' [])) w ∧ Ext (C.env φ H w) (C.env φ (H.set o (.arr ver' sz' [])) w) := by
  have hoH : o < H.length := (List.getElem?_eq_some_iff.mp ho).1
  have hsetH : (H.set o (AObj.arr ver' sz' []))[o]? = some (.arr ver' sz' []) := by simp [hoH]
  have hH : ∀ (o1 : Nat), o1 ≠ o → (H.set o (AObj.arr ver' sz' []))[o1]? = H[o1]? := fun o1 h => by simp [Ne.symm h]
  have hne : ∀ (o1 k : Nat), φ[o1]? = some (some k) → o1 ≠ o := fun o1 k h e => by subst e; rw [hb] at h; cases h
  have hN : ∀ k, C.N φ (H.set o (.arr ver' sz' [])) k ↔ C.N φ H k := fun k => by
    constructor
    · rintro (h | ⟨h1, o1, ob1, h2, h3, h4⟩)
      · exact .inl h
      · rw [hH o1 (hne o1 k h2)] at h3
        exact .inr ⟨h1, o1, ob1, h2, h3, h4⟩
    · rintro (h | ⟨h1, o1, ob1, h2, h3, h4⟩)
      · exact .inl h
      · exact .inr ⟨h1, o1, ob1, h2, by rw [hH o1 (hne o1 k h2)]; exact h3, h4⟩
  have x : Ext (C.env φ H w) (C.env φ (H.set o (.arr ver' sz' [])) w) := {
    imm := fun k h1 h2 hc => ⟨fun h => h1 ((hN k).mp h), h2, rfl⟩
    old := fun o1 ob1 v h1 h2 => by
      by_cases e : o1 = o
      · subst e
        have h1' : H[o1]? = some ob1 := h1
        rw [ho] at h1'; obtain rfl := Option.some.inj h1'
        exact ⟨_, hsetH, by simp only [AObj.past] at h2 ⊢; omega⟩
      · exact ⟨ob1, (hH o1 e).trans h1, h2⟩
    arr := fun o1 v sz1 rows h1 => by
      by_cases e : o1 = o
      · subst e
        have h1' : H[o1]? = some (.arr v sz1 rows) := h1
        rw [ho] at h1'; cases h1'
        exact .inl ⟨_, hsetH, hv⟩
      · exact .inr ⟨rows, (hH o1 e).trans h1, rfl, rfl, fun b1 c e1 fz k1 k2 => ⟨c, e1, fz, k2, rfl⟩⟩
    map := fun o1 es st h1 => by
      by_cases e : o1 = o
      · subst e
        have h1' : H[o1]? = some (.mapx es st) := h1
        rw [ho] at h1'; cases h1'
      · exact .inr ⟨es, st, (hH o1 e).trans h1, rfl⟩ }
  have hal : ∀ (o1 k : Nat) ob1, (H.set o (AObj.arr ver' sz' []))[o1]? = some ob1 → φ[o1]? = some (some k) → H[o1]? = some ob1 := fun o1 k ob1 h1 h2 => by rw [← hH o1 (hne o1 k h2)]; exact h1
  refine ⟨⟨⟨?_, ?_, ?_⟩, g.size, g.same, ?_, g.world, g.n0, ?_, g.ext.trans x⟩, x⟩
  · show φ.length = (H.set o (AObj.arr ver' sz' [])).length
    have : φ.length = H.length := g.objs.len
    simpa using this
  · intro o1 ob1 h1
    by_cases e : o1 = o
    · subst e
      have h1' : (H.set o1 (AObj.arr ver' sz' []))[o1]? = some ob1 := h1
      rw [hsetH] at h1'; obtain rfl := Option.some.inj h1'
      exact .inl ⟨hb, rfl⟩
    · have h1' : (H.set o (AObj.arr ver' sz' []))[o1]? = some ob1 := h1
      rw [hH o1 e] at h1'
      exact Cl.mono x rfl (fun k _ _ => ⟨rfl, fun h => (hN k).mpr h⟩) (g.objs.cl o1 ob1 h1')
  · intro o1 o2 k ob1 ob2 h1 h2 h3 h4 h5 h6
    exact g.objs.inj o1 o2 k ob1 ob2 (hal _ _ _ h1 h5) h2 (hal _ _ _ h3 h6) h4 h5 h6
  · intro o1 k ob1 h1 h2 h3
    exact g.own o1 k ob1 (hal _ _ _ h1 h3) h2 h3
  · have := g.hlen; simpa using this

/-- What an append of so many elements does, whatever they come from. -/
def AppRun (P : Program) (w : World) (tys : List TypeId) (ty e : TypeId) (i : TypeInfo) (z : Value) (sz m : Nat) (cs : List Value) (xv : Value) : Prop :=
  ∀ (base : Option Addr) (n cap : Nat) (old : List Value), n ≤ cap → (∀ w' : World, w'.heap = w.heap → (Builtin.firstCells sz n (.slice base n cap)).run P w' = .ok old.toArray w') → (n + m) * i.bytes ≤ 140737488355328 →
    (n + m ≤ cap → (Builtin.append_ tys.toArray ty #[.slice base n cap, xv]).run P w = ((match base with | some a => storeCells (a.add (n * sz)) cs | none => (pure () : Sem Unit)).run P w).andThen fun _ w' => .ok (.slice base (n + m) cap) w') ∧
    (cap < n + m → ∃ newCap, n + m ≤ newCap ∧ (Builtin.append_ tys.toArray ty #[.slice base n cap, xv]).run P w =
      .ok (.slice (some ⟨w.heap.size, 0, none⟩) (n + m) newCap) { w with drawn := w.drawn + 1, heap := w.heap.push (Obj.cells (old.toArray ++ cs.toArray ++ Builtin.zeroCells z.cells (newCap - (n + m))) e (0, 0)) })

theorem snd_appendG {P T C φ H w} {pl : Option Nat} (hT : TOk P T) (g : G C φ H w) {s : D} {sv xv : Value} (hs : VR (C.env φ H w) s sv) {e ty : TypeId} {tys : List TypeId} {ys : List D} {te : TD} {i : TypeInfo} {z : Value} {cs : List Value} {K : D → List AObj → Prop}
    (hte : T.get e = some te) (hsz : 0 < te.size) (hu1 : ∀ y ∈ ys, y.cells.length = te.size) (hi3 : i.bytes = te.bytes) (hzs : z.cells.size = te.size) (hi5 : cD z = te.zero) (hl2 : cs.length = ys.length * te.size) (hl3 : VRs (C.env φ H w) (flat ys) cs)
    (hones : ∀ v ∈ cs, v.oneCell' = true) (R : AppRun P w tys ty e i z te.size ys.length cs xv) (h : appKs te pl s ys H K) :
    ∃ v w' φ' H' d, (Builtin.append_ tys.toArray ty #[sv, xv]).run P w = .ok v w' ∧ K d H' ∧ G C φ' H' w' ∧ Ext (C.env φ H w) (C.env φ' H' w') ∧ VR (C.env φ' H' w') d v := by
  unfold appKs at h
  split at h
  · obtain ⟨hroom, h⟩ := h
    cases hs
    obtain ⟨r1, r2⟩ := R none 0 0 [] (Nat.le_refl _) (fun w' hw => by simp [Builtin.firstCells]) (by rw [hi3]; simpa using hroom)
    rcases Nat.eq_zero_or_pos ys.length with hz | hz
    · have hys : ys = [] := List.length_eq_zero_iff.mp hz
      subst hys
      have hl : φ.length = H.length := g.objs.len
      cases pl with
      | none =>
        obtain ⟨k1, k2⟩ := g.pushNil te.size
        refine ⟨.slice none 0 0, w, _, _, _, by rw [r1 (by simp)]; simp, h, k1, k2, ?_⟩
        exact .hnil (sz := te.size) (by show (H ++ [AObj.arr 0 te.size []])[H.length]? = _; simp) (by show (φ ++ [none])[H.length]? = _; rw [← hl]; simp)
      | some r =>
        obtain ⟨hr, h⟩ := h
        have hrH : r < H.length := (List.getElem?_eq_some_iff.mp hr).1
        have hφ : φ[r]? = some none := by
          rcases g.objs.cl r _ hr with ⟨h1, _⟩ | ⟨b, _, _, h3, _⟩
          · exact h1
          · exact absurd h3 (by omega)
        obtain ⟨k1, k2⟩ := g.bumpNil (sz' := te.size) hr hφ (Nat.lt_succ_self 0)
        refine ⟨.slice none 0 0, w, _, _, _, by rw [r1 (by simp)]; simp, h, k1, k2, ?_⟩
        exact .hnil (sz := te.size) (by show (H.set r (AObj.arr 1 te.size []))[r]? = _; simp [hrH]) hφ
    · obtain ⟨newCap, q1, q2⟩ := r2 (by omega)
      obtain ⟨w', hw'⟩ : ∃ w', w' = { w with drawn := w.drawn + 1, heap := w.heap.push (Obj.cells (([] : List Value).toArray ++ cs.toArray ++ Builtin.zeroCells z.cells (newCap - (0 + ys.length))) e (0, 0)) } := ⟨_, rfl⟩
      have hhp : w'.heap = w.heap.push (Obj.cells (([] : List Value).toArray ++ cs.toArray ++ Builtin.zeroCells z.cells (newCap - (0 + ys.length))) e (0, 0)) := by rw [hw']
      obtain ⟨φ', H', o', ver, h, m1, m2, m3, m4, m5⟩ := g.newArr' (w' := w') h hsz hu1 hl3 (fun j v hj => by
        rw [Array.getElem?_append_left (by have := (List.getElem?_eq_some_iff.mp hj).1; simpa using this)]
        simpa using hj) hhp (by rw [hw']; exact ⟨rfl, rfl, rfl, (by first | exact Nat.le_refl _ | exact Nat.le_succ _)⟩)
      refine ⟨_, w', _, _, _, by rw [q2, ← hw'], h, m1, m2, ?_⟩
      have hsize : (([] : List Value).toArray ++ cs.toArray ++ Builtin.zeroCells z.cells (newCap - (0 + ys.length))).size = newCap * te.size := by
        rw [Array.size_append, zeroCells_size]
        have hzv := (VR.zero (hT.at hte) hi5 (C.env φ H w)).2
        have hzs : z.cells.size = te.size := by
          have := hzv.length
          rw [(hT.at hte).len] at this
          simpa using this.symm
        rw [hzs]
        simp only [List.append_toArray, List.nil_append, List.size_toArray, hl2, ← Nat.add_mul]
        congr 1
        omega
      have := VR.h (E := C.env φ' H' w') (i := 0) (n := ys.length) (cap := newCap) (a := ⟨w.heap.size, 0, none⟩) m3 m4 (by omega) (by omega) m5 (by rw [hsize]; simp) (.inr (by simp))
      rw [Nat.zero_add]
      exact this
  · rename_i o ver i0 n
    split at h
    · rename_i v sz rows hobj
      obtain ⟨rfl, rfl, rfl, rfl, hroom, h⟩ := h
      rcases hs.inv_h hobj with ⟨rfl, _, hn0, hrows, hφ⟩ | ⟨b, a, cap, c, e', fz, rfl, hφ, k3, k4, k5, k6, k7⟩
      · have hφ' : φ[o]? = some none := hφ
        subst hrows
        obtain ⟨r1, r2⟩ := R none 0 0 [] (Nat.le_refl _) (fun w' hw => by simp [Builtin.firstCells]) (by rw [hi3]; simpa using hroom)
        rcases Nat.eq_zero_or_pos ys.length with hz | hz
        · have hys : ys = [] := List.length_eq_zero_iff.mp hz
          subst hys
          obtain ⟨k1, k2⟩ := g.bumpNil hobj hφ' (Nat.lt_succ_self v)
          refine ⟨.slice none 0 0, w, _, _, _, by rw [r1 (by simp)]; simp, h, k1, k2, ?_⟩
          have hoH : o < H.length := (List.getElem?_eq_some_iff.mp hobj).1
          exact .hnil (sz := te.size) (by show (H.set o (AObj.arr (v + 1) te.size []))[o]? = _; simp [hoH]) hφ
        · obtain ⟨newCap, q1, q2⟩ := r2 (by omega)
          obtain ⟨w', hw'⟩ : ∃ w', w' = { w with drawn := w.drawn + 1, heap := w.heap.push (Obj.cells (([] : List Value).toArray ++ cs.toArray ++ Builtin.zeroCells z.cells (newCap - (0 + ys.length))) e (0, 0)) } := ⟨_, rfl⟩
          have hhp : w'.heap = w.heap.push (Obj.cells (([] : List Value).toArray ++ cs.toArray ++ Builtin.zeroCells z.cells (newCap - (0 + ys.length))) e (0, 0)) := by rw [hw']
          have hsame : Same w w' := by rw [hw']; exact ⟨rfl, rfl, rfl, (by first | exact Nat.le_refl _ | exact Nat.le_succ _)⟩
          obtain ⟨m1, m2⟩ := g.give (w' := w') (ob' := .arr (v + 1) te.size ys) hobj hφ' trivial (fun v' hv' => by simp only [AObj.past]; omega) hsame hhp (fun E' hE x1 h1 h2 h3 =>
            .inr ⟨_, h1, h2, hsz, hu1, _, e, cs, CellsAt.mk0 h3, VRs.mono x1 hl3, fun j v hj => by
              rw [Array.getElem?_append_left (by have := (List.getElem?_eq_some_iff.mp hj).1; simpa using this)]
              simpa using hj⟩)
          refine ⟨_, w', _, _, _, by rw [q2, ← hw'], h, m1, m2, ?_⟩
          have hoH : o < H.length := (List.getElem?_eq_some_iff.mp hobj).1
          have hl : φ.length = H.length := g.objs.len
          have hsize : (([] : List Value).toArray ++ cs.toArray ++ Builtin.zeroCells z.cells (newCap - (0 + ys.length))).size = newCap * te.size := by
            rw [Array.size_append, zeroCells_size, hzs]
            simp only [List.append_toArray, List.nil_append, List.size_toArray, hl2, ← Nat.add_mul]
            congr 1
            omega
          have := VR.h (E := C.env (φ.set o (some w.heap.size)) (H.set o (.arr (v + 1) te.size ys)) w') (o := o) (ver := v + 1) (sz := te.size) (rows := ys) (i := 0) (n := ys.length) (cap := newCap) (a := ⟨w.heap.size, 0, none⟩) (b := w.heap.size)
            (by show (H.set o (AObj.arr (v + 1) te.size ys))[o]? = _; simp [hoH]) (by show (φ.set o (some w.heap.size))[o]? = _; simp [hl, hoH]) (by omega) (by omega)
            (by rw [show (C.env (φ.set o (some w.heap.size)) (H.set o (.arr (v + 1) te.size ys)) w').heap = w'.heap from rfl, hhp, Array.getElem?_push, if_pos rfl]) (by rw [hsize]; simp) (.inr (by simp))
          simpa using this
      · have hφ' : φ[o]? = some (some b) := hφ
        have hoH : o < H.length := (List.getElem?_eq_some_iff.mp hobj).1
        have hl : φ.length = H.length := g.objs.len
        obtain ⟨q1, q2, c2, e2, vs, ⟨fz1, hfz, q3⟩, q4, q5⟩ := g.arrOf hobj hφ'
        have k5' : w.heap[b]? = some (Obj.cells c e' fz) := k5
        rw [q3] at k5'; cases k5'
        have hvl := q4.length
        rw [flat_length q2] at hvl
        have hvc : vs.length ≤ c.size := by
          rcases Nat.eq_zero_or_pos vs.length with h0 | h0
          · omega
          · have := q5 (vs.length - 1) _ (List.getElem?_eq_getElem (by omega))
            have := (Array.getElem?_eq_some_iff.mp this).1
            omega
        have hold : ∀ w' : World, w'.heap = w.heap → (Builtin.firstCells te.size rows.length (.slice (some a) rows.length cap)).run P w' = .ok vs.toArray w' := fun w' hw => by
          simp only [Builtin.firstCells]
          rcases k7 with k7 | k7
          · have hr0 : rows.length = 0 := by omega
            have hv0 : vs = [] := List.length_eq_zero_iff.mp (by rw [← hvl, hr0]; simp)
            rw [hr0, hv0]
            simp [loadCells, loadCellsFrom]
          · subst k7
            have := run_loadCells_at P (w := w') (a := ⟨b, 0 * te.size, none⟩) (vs := vs) ⟨rfl, c, e', fz, by rw [hw]; exact q3, fun j u hj => by simpa using q5 j u hj⟩ (rows.length * te.size) (by omega)
            rw [this, List.take_of_length_le (by omega)]
        obtain ⟨r1, r2⟩ := R (some a) rows.length cap vs k4 hold (by rw [hi3]; exact hroom)
        have hflat : VRs (C.env φ H w) (flat (rows ++ ys)) (vs ++ cs) := by rw [flat_append]; exact q4.append hl3
        have huu : ∀ y ∈ rows ++ ys, y.cells.length = te.size := fun y hy => by
          rcases List.mem_append.mp hy with hy | hy
          · exact q2 y hy
          · exact hu1 y hy
        rcases Nat.lt_or_ge cap (rows.length + ys.length) with hc | hc
        · obtain ⟨newCap, p1, p2⟩ := r2 hc
          obtain ⟨w', hw'⟩ : ∃ w', w' = { w with drawn := w.drawn + 1, heap := w.heap.push (Obj.cells (vs.toArray ++ cs.toArray ++ Builtin.zeroCells z.cells (newCap - (rows.length + ys.length))) e (0, 0)) } := ⟨_, rfl⟩
          have hhp : w'.heap = w.heap.push (Obj.cells (vs.toArray ++ cs.toArray ++ Builtin.zeroCells z.cells (newCap - (rows.length + ys.length))) e (0, 0)) := by rw [hw']
          have hsame : Same w w' := by rw [hw']; exact ⟨rfl, rfl, rfl, (by first | exact Nat.le_refl _ | exact Nat.le_succ _)⟩
          obtain ⟨m1, m2⟩ := g.turn (b' := w.heap.size) (ob' := .arr (v + 1) te.size (rows ++ ys)) (w' := w') hobj trivial hφ' trivial
            { old := fun v' hv' => by simp only [AObj.past] at hv' ⊢; omega
              arr := fun v' s r hh => by cases hh; exact .inl (Nat.lt_succ_self _)
              map := fun es st hh => by cases hh }
            hsame (by rw [hhp]; simp) (by rw [hhp]; simp) (fun k hk _ => by rw [hhp, Array.getElem?_push, if_neg (by omega)])
            (.inr ⟨⟨Nat.le_refl _, fun v' s r hh => by cases hh; exact Nat.lt_succ_self _⟩, fun es st hh => by cases hh⟩)
            (fun E' hE x1 h1 h2 => .inr ⟨_, h1, h2, hsz, huu, _, e, vs ++ cs, by subst hE; refine CellsAt.mk0 ?_; show w'.heap[w.heap.size]? = _; rw [hhp, Array.getElem?_push, if_pos rfl], VRs.mono x1 hflat, fun j u hj => by
              rw [Array.getElem?_append_left (by have := (List.getElem?_eq_some_iff.mp hj).1; simpa using this)]
              simpa using hj⟩)
          refine ⟨_, w', _, _, _, by rw [p2, ← hw'], h, m1, m2, ?_⟩
          have hsize : (vs.toArray ++ cs.toArray ++ Builtin.zeroCells z.cells (newCap - (rows.length + ys.length))).size = newCap * te.size := by
            rw [Array.size_append, zeroCells_size, hzs]
            simp only [List.append_toArray, List.size_toArray, List.length_append, hl2, ← hvl, ← Nat.add_mul]
            congr 1
            omega
          have := VR.h (E := C.env (φ.set o (some w.heap.size)) (H.set o (.arr (v + 1) te.size (rows ++ ys))) w') (o := o) (ver := v + 1) (sz := te.size) (rows := rows ++ ys) (i := 0) (n := rows.length + ys.length) (cap := newCap) (a := ⟨w.heap.size, 0, none⟩) (b := w.heap.size)
            (by show (H.set o (AObj.arr (v + 1) te.size (rows ++ ys)))[o]? = _; simp [hoH]) (by show (φ.set o (some w.heap.size))[o]? = _; simp [hl, hoH]) (by simp) (by omega)
            (by rw [show (C.env (φ.set o (some w.heap.size)) (H.set o (.arr (v + 1) te.size (rows ++ ys))) w').heap = w'.heap from rfl, hhp, Array.getElem?_push, if_pos rfl]) (by rw [hsize]; simp) (.inr (by simp))
          exact this
        · have hst : ∃ w' c', (storeCells (a.add (rows.length * te.size)) cs).run P w = .ok () w' ∧ Same w w' ∧ w'.heap.size = w.heap.size ∧ w'.heap[b]? = some (Obj.cells c' e' fz) ∧ c'.size = c.size ∧
              (∀ k, k ≠ b → w'.heap[k]? = w.heap[k]?) ∧ ∀ (j : Nat) u, (vs ++ cs)[j]? = some u → c'[j]? = some u := by
            rcases k7 with k7 | k7
            · have hr0 : rows.length = 0 := by omega
              have hy0 : ys.length = 0 := by omega
              have hc0 : cs = [] := List.length_eq_zero_iff.mp (by rw [hl2, hy0]; simp)
              have hv0 : vs = [] := List.length_eq_zero_iff.mp (by rw [← hvl, hr0]; simp)
              exact ⟨w, c, by rw [hc0]; simp [storeCells], .refl w, rfl, q3, rfl, fun _ _ => rfl, fun j u hj => by rw [hc0, hv0] at hj; simp at hj⟩
            · subst k7
              have hlen2 : rows.length * te.size + cs.length ≤ c.size := by
                rw [hl2, ← Nat.add_mul]
                refine Nat.le_trans (Nat.mul_le_mul_right _ hc) ?_
                simpa using k6
              obtain ⟨w', s1, s2, s3, s4, s5⟩ := run_storeCells P cs w b (rows.length * te.size) 0 c e' hfz q3 (by omega) hones
              refine ⟨w', spliceA c (rows.length * te.size) cs, by rw [Addr.add_plain, Nat.zero_mul, Nat.zero_add]; exact s1, s2, s3, by simpa using s4, spliceA_size _ _ _, s5, fun j u hj => ?_⟩
              rw [spliceA_get _ _ _ _ hlen2]
              rcases Nat.lt_or_ge j vs.length with hj1 | hj1
              · rw [if_neg (by omega)]
                rw [List.getElem?_append_left hj1] at hj
                exact q5 j u hj
              · rw [List.getElem?_append_right hj1] at hj
                have := (List.getElem?_eq_some_iff.mp hj).1
                rw [if_pos (by omega), hvl]
                exact hj
          obtain ⟨w', c', s1, s2, s3, s4, s5, s6, s7⟩ := hst
          obtain ⟨m1, m2⟩ := g.reRow (ver' := v + 1) (rows' := rows ++ ys) hobj hφ' (.inl (Nat.lt_succ_self _)) s2 s3 ⟨fz, hfz, q3⟩ ⟨fz, by rw [s5]; exact hfz, s4⟩ s5 s6 huu hflat s7
          refine ⟨.slice (some a) (rows.length + ys.length) cap, w', _, _, _, by rw [r1 hc]; simp only [s1, Result.andThen_ok], h, m1, m2, ?_⟩
          have := VR.h (E := C.env φ (H.set o (.arr (v + 1) te.size (rows ++ ys))) w') (o := o) (ver := v + 1) (sz := te.size) (rows := rows ++ ys) (i := 0) (n := rows.length + ys.length) (cap := cap) (a := a) (b := b)
            (by show (H.set o (AObj.arr (v + 1) te.size (rows ++ ys)))[o]? = _; simp [hoH]) hφ (by simp) (by omega) s4 (by rw [s5]; exact k6) k7
          exact this
    · exact h.elim
  · exact h.elim

theorem snd_append {P T C φ H w} {pl : Option Nat} (hT : TOk P T) (g : G C φ H w) {s x : D} {sv xv : Value} (hs : VR (C.env φ H w) s sv) (hx : VR (C.env φ H w) x xv) {t t' ty : TypeId} {ts : List TypeId} {ys : List D} {K : D → List AObj → Prop}
    (hy : (∃ b, x = .str b ∧ ys = strBytes b ∧ (∃ td, T.get t' = some td ∧ td.k = .string) ∧ (∃ td e te, T.get t = some td ∧ td.k = .slice e ∧ T.get e = some te ∧ te.size = 1)) ∨
      (rowsOf H x = some ys ∧ ∃ td e, T.get t' = some td ∧ td.k = .slice e)) (h : appK T pl t s ys H K) :
    ∃ v w' φ' H' d, (Builtin.append_ (t :: t' :: ts).toArray ty #[sv, xv]).run P w = .ok v w' ∧ K d H' ∧ G C φ' H' w' ∧ Ext (C.env φ H w) (C.env φ' H' w') ∧ VR (C.env φ' H' w') d v := by
  unfold appK at h
  obtain ⟨td, e, te, ht, hk, hte, hsz, hby, hu, h⟩ := h
  have hu1 : ∀ y ∈ ys, y.cells.length = te.size := fun y hy => (hu y hy).1
  obtain ⟨i, z, hi1, hi2, hi3, hi4, hi5⟩ := (hT.at hte).info
  have hcells : (∃ s, x = .str s ∧ ys = strBytes s ∧ te.size = 1) ∨ rowsOf H x = some ys := by
    rcases hy with ⟨b, h1, h2, _, td2, e2, te2, k1, k2, k3, k4⟩ | ⟨h1, _⟩
    · rw [ht] at k1; cases k1
      rw [hk] at k2; cases k2
      rw [hte] at k3; cases k3
      exact .inl ⟨b, h1, h2, k4⟩
    · exact .inr h1
  obtain ⟨cs, hl1, hl2, hl3, hl4⟩ := run_cellsOf (P := P) g hx hcells hu1
  have hzs : z.cells.size = te.size := by
    have := (VR.zero (hT.at hte) hi5 (C.env φ H w)).2.length
    rw [(hT.at hte).len] at this
    simpa using this.symm
  have htk : cs.take (ys.length * te.size) = cs := List.take_of_length_le (by omega)
  have hnew : ∀ w' : World, w'.heap = w.heap → (Builtin.firstCells te.size ys.length xv).run P w' = .ok cs.toArray w' := fun w' hw => by
    rw [hl4 ys.length w' hw (Nat.le_refl _), htk]
  have hdt : ∃ d', P.underlying t' = some d' ∧ (d' = .string ∨ ∃ e', d' = .slice e') := by
    rcases hy with ⟨b, _, _, ⟨td2, k1, k2⟩, _⟩ | ⟨_, td2, e2, k1, k2⟩
    · exact ⟨_, (hT.at k1).string k2, .inl rfl⟩
    · exact ⟨_, (hT.at k1).slice k2, .inr ⟨_, rfl⟩⟩
  obtain ⟨d', hd1, hd2⟩ := hdt
  have hbytes : 0 < i.bytes := by omega
  have hones : ∀ v ∈ cs, v.oneCell' = true := VRs.ones hl3 (flat_one_all fun y hy => (hu y hy).2)
  exact snd_appendG hT g hs hte hsz hu1 hi3 hzs hi5 hl2 hl3 hones (fun base n cap old h1 h2 h3 => run_append (P := P) (w := w) (ts := ts) (ty := ty) (base := base) (n := n) (cap := cap) (m := ys.length) (old := old) ((hT.at ht).slice hk) hd1 hd2 hi1 hi2 hi4 hbytes h1 hl1 hnew h2 h3) h

end Go.A
