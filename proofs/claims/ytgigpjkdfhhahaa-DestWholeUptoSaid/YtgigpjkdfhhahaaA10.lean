/- A logic of abstract states, part 10: more builtins, maps, and all operations together. -/
import Derived.Test.YtgigpjkdfhhahaaA9
namespace Go.A
set_option linter.unusedVariables false
set_option linter.unusedSimpArgs false

theorem Out.ofV {P C φ H w} {x : Sem Next} {y : Sem Value} {K : D → List AObj → Prop} (hx : x.run P w = (y.run P w).andThen fun v w' => .ok (.value v) w')
    (h : ∃ v w' φ' H' d, y.run P w = .ok v w' ∧ K d H' ∧ G C φ' H' w' ∧ Ext (C.env φ H w) (C.env φ' H' w') ∧ VR (C.env φ' H' w') d v) : Out P C φ H w x K := by
  obtain ⟨v, w', φ', H', d, h1, h2, h3, h4, h5⟩ := h
  exact ⟨.value v, v, w', φ', H', d, by rw [hx, h1]; rfl, .inl rfl, h2, h3, h4, h5⟩

theorem snd_copy {P T C φ H w} (hT : TOk P T) (g : G C φ H w) {x : D} {dv xv : Value} {o ver i n : Nat} (hd : VR (C.env φ H w) (.h o ver i n) dv) (hx : VR (C.env φ H w) x xv) {t ty : TypeId} {ts : List TypeId} {K : D → List AObj → Prop}
    (h : ∃ td e te, T.get t = some td ∧ td.k = .slice e ∧ T.get e = some te ∧
      ∃ ys, srcOk H x te.size ys ∧ (∀ y ∈ ys, y.cells.length = te.size ∧ y.cells.all D.one = true) ∧
      (match H[o]? with
      | some (.arr v sz rows) => v = ver ∧ sz = te.size ∧ K (.int .i64 ((min ys.length n : Nat) : Int)) (H.set o (.arr v sz (spliceL rows i (ys.take (min ys.length n)))))
      | _ => False)) :
    ∃ v w' φ' H' d, (Builtin.copy_ (t :: ts).toArray ty #[dv, xv]).run P w = .ok v w' ∧ K d H' ∧ G C φ' H' w' ∧ Ext (C.env φ H w) (C.env φ' H' w') ∧ VR (C.env φ' H' w') d v := by
  obtain ⟨td, e, te, ht, hk, hte, ys, hy, hu, h⟩ := h
  have hu1 : ∀ y ∈ ys, y.cells.length = te.size := fun y hy => (hu y hy).1
  have hcells : (∃ s, x = .str s ∧ ys = strBytes s ∧ te.size = 1) ∨ rowsOf H x = some ys := by
    unfold srcOk at hy
    split at hy
    · exact .inl ⟨_, rfl, hy.1, hy.2⟩
    · exact .inr hy
  obtain ⟨cs, hl1, hl2, hl3, hl4⟩ := run_cellsOf (P := P) g hx hcells hu1
  split at h
  · rename_i v sz rows hobj
    obtain ⟨rfl, rfl, h⟩ := h
    generalize hm : min ys.length n = m at h
    have hmy : m ≤ ys.length := by omega
    have hmn : m ≤ n := by omega
    have hrun : ∀ base cap, (Builtin.copy_ (t :: ts).toArray ty #[.slice base n cap, xv]).run P w =
        ((match base with | some a => storeCells a (cs.take (m * te.size)) | none => (pure () : Sem Unit)).run P w).andThen fun _ w' => .ok (goInt m) w' := fun base cap => by
      have : Nat.min ys.length n = m := hm
      simp only [Builtin.copy_, List.getElem?_toArray, List.getElem?_cons_zero, List.getElem?_cons_succ, Sem.run_bind, run_underlying P t w ((hT.at ht).slice hk), Result.andThen_ok, hl1, (hT.at hte).run_size, this, hl4 m w rfl hmy]
      cases base with
      | none => simp
      | some a => simp
    have hwid : (cs.take (m * te.size)).length = m * te.size := by
      rw [List.length_take, hl2]
      exact Nat.min_eq_left (Nat.mul_le_mul_right _ hmy)
    have hflat : VRs (C.env φ H w) (flat (ys.take m)) (cs.take (m * te.size)) := by rw [← flat_take hu1]; exact hl3.take _
    have hyt : ∀ y ∈ ys.take m, y.cells.length = te.size := fun y hy => hu1 y (List.mem_of_mem_take hy)
    rcases hd.inv_h hobj with ⟨rfl, hi0, hn0, hrows, hφ⟩ | ⟨b, a, cap, c, e', fz, rfl, hφ, k3, k4, k5, k6, k7⟩
    · have hm0 : m = 0 := by omega
      subst hm0 hn0 hi0
      have hset : H.set o (.arr v te.size (spliceL rows 0 (ys.take 0))) = H := by
        have : spliceL rows 0 (ys.take 0) = rows := by simp [spliceL]
        rw [this]
        apply List.ext_getElem?
        intro k
        by_cases hk : k = o
        · subst hk
          rw [List.getElem?_set_self (List.getElem?_eq_some_iff.mp hobj).1, hobj]
        · simp [Ne.symm hk]
      rw [hset] at h
      exact ⟨goInt 0, w, φ, H, _, by rw [hrun]; simp, h, g, .refl _, .int _ _⟩
    · have hφ' : φ[o]? = some (some b) := hφ
      obtain ⟨q1, q2, c', e2, vs, ⟨fz1, hfz, q3⟩, q4, q5⟩ := g.arrOf hobj hφ'
      have k5' : w.heap[b]? = some (Obj.cells c e' fz) := k5
      rw [q3] at k5'; cases k5'
      have hvl := q4.length
      rw [flat_length q2] at hvl
      have hvc : vs.length ≤ c.size := by
        rcases Nat.eq_zero_or_pos vs.length with h0 | h0
        · omega
        · have := q5 (vs.length - 1) _ (List.getElem?_eq_getElem (by omega))
          have := (Array.getElem?_eq_some_iff.mp this).1
          omega
      have hend : i * te.size + m * te.size ≤ vs.length := by
        rw [← hvl, ← Nat.add_mul]; exact Nat.mul_le_mul_right _ (by omega)
      have hsp : ∀ ys' : List D, (∀ y ∈ ys', y.cells.length = te.size) → i + ys'.length ≤ rows.length → flat (spliceL rows i ys') = spliceL (flat rows) (i * te.size) (flat ys') := fun ys' h1 h2 => by
        unfold spliceL
        rw [flat_append, flat_append, flat_take q2, flat_length h1, ← Nat.add_mul, flat_drop q2]
      have hlt : (ys.take m).length = m := by rw [List.length_take]; omega
      have hst : ∃ w' c', (storeCells a (cs.take (m * te.size))).run P w = .ok () w' ∧ Same w w' ∧ w'.heap.size = w.heap.size ∧ w'.heap[b]? = some (Obj.cells c' e' fz) ∧ c'.size = c.size ∧
          (∀ k, k ≠ b → w'.heap[k]? = w.heap[k]?) ∧ ∀ (j : Nat) u, (spliceL vs (i * te.size) (cs.take (m * te.size)))[j]? = some u → c'[j]? = some u := by
        rcases k7 with k7 | k7
        · have hm0 : m = 0 := by omega
          subst hm0
          refine ⟨w, c, by simp [storeCells], .refl w, rfl, q3, rfl, fun _ _ => rfl, fun j u hj => q5 j u ?_⟩
          simpa [spliceL] using hj
        · subst k7
          obtain ⟨w', s1, s2, s3, s4, s5⟩ := run_storeCells P (cs.take (m * te.size)) w b (i * te.size) 0 c e' hfz q3 (by rw [hwid]; omega) (fun u hu' => VRs.ones hflat (flat_one_all fun y hy => (hu y (List.mem_of_mem_take hy)).2) u hu')
          refine ⟨w', spliceA c (i * te.size) (cs.take (m * te.size)), s1, s2, s3, by simpa using s4, spliceA_size _ _ _, s5, fun j u hj => ?_⟩
          rw [spliceA_get _ _ _ _ (by rw [hwid]; omega)]
          unfold spliceL at hj
          have hl0 : (vs.take (i * te.size)).length = i * te.size := by rw [List.length_take]; omega
          split
          · rename_i hin
            rw [List.append_assoc, List.getElem?_append_right (by omega), hl0, List.getElem?_append_left (by omega)] at hj
            exact hj
          · rename_i hin
            refine q5 j u ?_
            rcases Nat.lt_or_ge j (i * te.size) with h1 | h1
            · rw [List.append_assoc, List.getElem?_append_left (by omega), List.getElem?_take, if_pos h1] at hj
              exact hj
            · rw [List.getElem?_append_right (by simp [hwid]; omega), List.getElem?_drop] at hj
              rw [← hj]
              congr 1
              simp only [List.length_append, hl0, hwid]
              omega
      obtain ⟨w', c', s1, s2, s3, s4, s5, s6, s7⟩ := hst
      obtain ⟨m1, m2⟩ := g.reRow (ver' := v) (rows' := spliceL rows i (ys.take m)) hobj hφ' (.inr ⟨rfl, spliceL_length _ _ _ (by omega)⟩) s2 s3 ⟨fz, hfz, q3⟩ ⟨fz, by rw [s5]; exact hfz, s4⟩ s5 s6
        (fun y hy => by
          unfold spliceL at hy
          rcases List.mem_append.mp hy with hy | hy
          · rcases List.mem_append.mp hy with hy | hy
            · exact q2 y (List.mem_of_mem_take hy)
            · exact hyt y hy
          · exact q2 y (List.mem_of_mem_drop hy))
        (by rw [hsp _ hyt (by omega)]; exact q4.splice _ hflat) s7
      exact ⟨goInt m, w', _, _, _, by rw [hrun]; simp only [s1, Result.andThen_ok], h, m1, m2, .int _ _⟩
  · exact h.elim

theorem zeroCells_toList (z : Array Value) (n : Nat) : (Builtin.zeroCells z n).toList = (List.replicate n z.toList).flatten := by
  apply List.ext_getElem?
  intro k
  rcases Nat.lt_or_ge k (n * z.size) with hk | hk
  · have hl : k < (List.replicate n z.toList).flatten.length := by simp; exact hk
    have := zeroRow_get z n k _ (List.getElem?_eq_getElem hl)
    rw [List.getElem?_eq_getElem hl, Array.getElem?_toList]
    exact this
  · rw [List.getElem?_eq_none (by simp [Builtin.zeroCells]; omega), List.getElem?_eq_none (by simp; omega)]

/-- Noughts, appended to nothing. -/
theorem snd_appendZ {P T C φ H w} {pl : Option Nat} (hT : TOk P T) (g : G C φ H w) {t t' ty : TypeId} {ts : List TypeId} {q kk : IntKind} {n : Nat} {K : D → List AObj → Prop}
    (hd1 : P.underlying t' = some (.int q)) (h : appZK T pl t n H K) :
    ∃ v w' φ' H' d, (Builtin.append_ (t :: t' :: ts).toArray ty #[.slice none 0 0, .int kk (n : Int)]).run P w = .ok v w' ∧ K d H' ∧ G C φ' H' w' ∧ Ext (C.env φ H w) (C.env φ' H' w') ∧ VR (C.env φ' H' w') d v := by
  obtain ⟨td, e, te, ht, hk, hte, hsz, hby, hpos, hroom, h⟩ := h
  obtain ⟨i, z, hi1, hi2, hi3, hi4, hi5⟩ := (hT.at hte).info
  have hzv := (VR.zero (hT.at hte) hi5 (C.env φ H w)).2
  have hzs : z.cells.size = te.size := by
    have := hzv.length
    rw [(hT.at hte).len] at this
    simpa using this.symm
  have hu1 : ∀ y ∈ List.replicate n te.zero, y.cells.length = te.size := fun y hy => by rw [(List.mem_replicate.mp hy).2]; exact (hT.at hte).len
  have hn63 : n ≤ 140737488355328 := Nat.le_trans (Nat.le_mul_of_pos_right n hby) hroom
  have hwrap : IntKind.i64.wrap (n : Int) = (n : Int) := by simp [IntKind.wrap, IntKind.bits, IntKind.signed]; omega
  have hsize : (sizeOf e).run P w = .ok te.size w := (hT.at hte).run_size w
  have hcapb : Builtin.nextslicecap n 0 * i.bytes ≤ 281474976710656 := growslice_fits hpos (by rw [hi3]; exact hroom)
  have hrun : ∃ newCap, n ≤ newCap ∧ (Builtin.append_ (t :: t' :: ts).toArray ty #[.slice none 0 0, .int kk (n : Int)]).run P w =
      .ok (.slice (some ⟨w.heap.size, 0, none⟩) n newCap) { w with drawn := w.drawn + 1, heap := w.heap.push (Obj.cells (Builtin.zeroCells z.cells n ++ Builtin.zeroCells z.cells (newCap - n)) e (0, 0)) } := by
    refine ⟨(Question.appendCap n 0 e).cut (w.tape w.drawn (.appendCap n 0 e)), by simp [Question.cut], ?_⟩
    simp only [Builtin.append_, List.getElem?_toArray, List.getElem?_cons_zero, List.getElem?_cons_succ, Sem.run_bind, run_underlying P t w ((hT.at ht).slice hk), run_underlying P t' w hd1, Result.andThen_ok, hsize, Sem.run_pure, if_true, asInt, asIntOf, hwrap]
    rw [if_neg (by omega)]
    simp only [Sem.run_bind, run_typeInfo P e w hi1, Result.andThen_ok]
    rw [if_neg (by rw [hi3]; have : (n : Int) * (te.bytes : Int) = ((n * te.bytes : Nat) : Int) := by simp
                   rw [this]; omega)]
    simp only [Sem.run_bind, Sem.run_pure, Result.andThen_ok, Int.toNat_natCast, Nat.zero_add]
    rw [if_neg (by omega)]
    simp only [Sem.run_bind, run_typeInfo P e w hi1, Result.andThen_ok]
    rw [if_neg (by simp [IntKind.max, IntKind.bits, IntKind.signed]; omega)]
    simp only [Sem.run_bind, run_typeInfo P e w hi1, Result.andThen_ok]
    rw [if_neg (by omega)]
    simp only [Sem.run_bind, run_choose, Question.forced, Bool.false_eq_true, if_false, Result.andThen_ok, run_typeInfo P e _ hi1, run_askRoom, Bool.not_true]
    have hm : ¬ n * te.size = 0 := by
      intro h0
      rcases Nat.mul_eq_zero.mp h0 with h0 | h0 <;> omega
    rw [if_neg hm]
    simp only [Builtin.firstCells, zeroValue, Sem.run_bind, run_typeInfo P e _ hi1, hi4, Sem.run_pure, Result.andThen_ok, newRow, run_newObj, List.getElem?_toArray]
    simp
  obtain ⟨newCap, q1, q2⟩ := hrun
  obtain ⟨w', hw'⟩ : ∃ w', w' = { w with drawn := w.drawn + 1, heap := w.heap.push (Obj.cells (Builtin.zeroCells z.cells n ++ Builtin.zeroCells z.cells (newCap - n)) e (0, 0)) } := ⟨_, rfl⟩
  have hhp : w'.heap = w.heap.push (Obj.cells (Builtin.zeroCells z.cells n ++ Builtin.zeroCells z.cells (newCap - n)) e (0, 0)) := by rw [hw']
  have hsame : Same w w' := by rw [hw']; exact ⟨rfl, rfl, rfl, (by first | exact Nat.le_refl _ | exact Nat.le_succ _)⟩
  have hflat : VRs (C.env φ H w) (flat (List.replicate n te.zero)) (Builtin.zeroCells z.cells n).toList := by
    rw [flat_replicate, zeroCells_toList]; exact hzv.replicate _
  obtain ⟨φ', H', o', ver, h, m1, m2, m3, m4, m5⟩ := g.newArr' (w' := w') h hsz hu1 hflat (fun j v hj => by
    rw [Array.getElem?_append_left (by have := (List.getElem?_eq_some_iff.mp hj).1; simpa using this)]
    simpa using hj) hhp hsame
  refine ⟨_, w', _, _, _, by rw [q2, ← hw'], h, m1, m2, ?_⟩
  have hsz2 : (Builtin.zeroCells z.cells n ++ Builtin.zeroCells z.cells (newCap - n)).size = newCap * te.size := by
    rw [Array.size_append, zeroCells_size, zeroCells_size, hzs, ← Nat.add_mul]
    congr 1
    omega
  exact VR.h (E := C.env φ' H' w') (i := 0) (n := n) (cap := newCap) (a := ⟨w.heap.size, 0, none⟩) m3 m4 (by simp) (by omega) m5 (by rw [hsz2]; simp) (.inr (by simp))

/-- Noughts, appended to what is owned. -/
theorem snd_appendZh {P T C φ H w} {pl : Option Nat} (hT : TOk P T) (g : G C φ H w) {s : D} {sv : Value} (hs : VR (C.env φ H w) s sv) {t t' ty e0 : TypeId} {ts : List TypeId} {q kk : IntKind} {n : Nat} {td0 te0 : TD} {K : D → List AObj → Prop}
    (hd1 : P.underlying t' = some (.int q)) (ht0 : T.get t = some td0) (hk0 : td0.k = .slice e0) (hte0 : T.get e0 = some te0) (h : appK T pl t s (List.replicate n te0.zero) H K) :
    ∃ v w' φ' H' d, (Builtin.append_ (t :: t' :: ts).toArray ty #[sv, .int kk (n : Int)]).run P w = .ok v w' ∧ K d H' ∧ G C φ' H' w' ∧ Ext (C.env φ H w) (C.env φ' H' w') ∧ VR (C.env φ' H' w') d v := by
  unfold appK at h
  obtain ⟨td, e, te, ht, hk, hte, hsz, hby, hu, h⟩ := h
  rw [ht0] at ht; cases ht
  rw [hk0] at hk; cases hk
  rw [hte0] at hte; cases hte
  obtain ⟨i, z, hi1, hi2, hi3, hi4, hi5⟩ := (hT.at hte0).info
  have hzv := (VR.zero (hT.at hte0) hi5 (C.env φ H w)).2
  have hzs : z.cells.size = te0.size := by
    have := hzv.length
    rw [(hT.at hte0).len] at this
    simpa using this.symm
  have hsize : (sizeOf e0).run P w = .ok te0.size w := (hT.at hte0).run_size w
  have hflat : VRs (C.env φ H w) (flat (List.replicate n te0.zero)) (Builtin.zeroCells z.cells n).toList := by
    rw [flat_replicate, zeroCells_toList]; exact hzv.replicate _
  have hcl : (Builtin.zeroCells z.cells n).toList.length = (List.replicate n te0.zero).length * te0.size := by
    rw [Array.length_toList, zeroCells_size, hzs, List.length_replicate]
  have happ : ∀ w' : World, w'.heap = w.heap → (if n * te0.size = 0 then (pure #[] : Sem (Array Value)) else do pure (Builtin.zeroCells (← zeroValue e0).cells n)).run P w' = .ok (Builtin.zeroCells z.cells n) w' := fun w' hw => by
    split
    · rename_i h0
      rcases Nat.mul_eq_zero.mp h0 with h0 | h0
      · subst h0; simp [Builtin.zeroCells]
      · omega
    · simp only [zeroValue, Sem.run_bind, run_typeInfo P e0 w' hi1, hi4, Sem.run_pure, Result.andThen_ok]
  refine snd_appendG hT g hs hte0 hsz (fun y hy => (hu y hy).1) hi3 hzs hi5 hcl hflat (VRs.ones hflat (flat_one_all fun y hy => (hu y hy).2)) ?_ h
  intro base n' cap old h1 h2 h3
  rw [List.length_replicate] at h3 ⊢
  have hn63 : n' + n ≤ 140737488355328 := Nat.le_trans (Nat.le_mul_of_pos_right _ (by omega)) h3
  have hwrap : IntKind.i64.wrap (n : Int) = (n : Int) := by simp [IntKind.wrap, IntKind.bits, IntKind.signed]; omega
  have hmul : (n : Int) * (i.bytes : Int) ≤ 140737488355328 := by
    have : n * i.bytes ≤ 140737488355328 := Nat.le_trans (Nat.mul_le_mul_right _ (by omega)) h3
    have e : (n : Int) * (i.bytes : Int) = ((n * i.bytes : Nat) : Int) := by simp
    omega
  constructor
  · intro hc
    simp only [Builtin.append_, List.getElem?_toArray, List.getElem?_cons_zero, List.getElem?_cons_succ, Sem.run_bind, run_underlying P t w ((hT.at ht0).slice hk0), run_underlying P t' w hd1, Result.andThen_ok, hsize, Sem.run_pure, if_true, asInt, asIntOf, hwrap]
    rw [if_neg (by omega)]
    simp only [Sem.run_bind, run_typeInfo P e0 w hi1, Result.andThen_ok]
    rw [if_neg (by omega)]
    simp only [Sem.run_bind, Sem.run_pure, Result.andThen_ok, Int.toNat_natCast]
    rw [if_pos hc]
    simp only [Bool.not_true, Bool.false_eq_true, if_false, Sem.run_bind, happ w rfl, Result.andThen_ok]
    cases base with
    | none => simp
    | some a => simp
  · intro hc
    have hcapb : Builtin.nextslicecap (n' + n) cap * i.bytes ≤ 281474976710656 := growslice_fits hc h3
    refine ⟨(Question.appendCap (n' + n) cap e0).cut (w.tape w.drawn (.appendCap (n' + n) cap e0)), by simp [Question.cut], ?_⟩
    simp only [Builtin.append_, List.getElem?_toArray, List.getElem?_cons_zero, List.getElem?_cons_succ, Sem.run_bind, run_underlying P t w ((hT.at ht0).slice hk0), run_underlying P t' w hd1, Result.andThen_ok, hsize, Sem.run_pure, if_true, asInt, asIntOf, hwrap]
    rw [if_neg (by omega)]
    simp only [Sem.run_bind, run_typeInfo P e0 w hi1, Result.andThen_ok]
    rw [if_neg (by omega)]
    simp only [Sem.run_bind, Sem.run_pure, Result.andThen_ok, Int.toNat_natCast]
    rw [if_neg (by omega)]
    simp only [Sem.run_bind, run_typeInfo P e0 w hi1, Result.andThen_ok]
    rw [if_neg (by simp [IntKind.max, IntKind.bits, IntKind.signed]; omega)]
    simp only [Sem.run_bind, run_typeInfo P e0 w hi1, Result.andThen_ok]
    rw [if_neg (by omega)]
    simp only [Sem.run_bind, run_choose, Question.forced, Bool.false_eq_true, if_false, Result.andThen_ok, run_typeInfo P e0 _ hi1, run_askRoom, Bool.not_true]
    rw [h2 { w with drawn := w.drawn + 1 } rfl]
    simp only [Result.andThen_ok]
    rw [happ { w with drawn := w.drawn + 1 } rfl]
    simp only [Result.andThen_ok, zeroValue, Sem.run_bind, run_typeInfo P e0 _ hi1, hi4, Sem.run_pure, newRow, run_newObj, Array.toArray_toList]

theorem snd_clear {P T C φ H w} (hT : TOk P T) (g : G C φ H w) {dv : Value} {o ver i n : Nat} (hd : VR (C.env φ H w) (.h o ver i n) dv) {t ty : TypeId} {ts : List TypeId} {K : D → List AObj → Prop}
    (h : ∃ td e te, T.get t = some td ∧ td.k = .slice e ∧ T.get e = some te ∧
      (match H[o]? with
      | some (.arr v sz rows) => v = ver ∧ sz = te.size ∧ K (.tup []) (H.set o (.arr v sz (spliceL rows i (List.replicate n te.zero))))
      | _ => False)) :
    ∃ v w' φ' H' d, (Builtin.clear_ (t :: ts).toArray ty #[dv]).run P w = .ok v w' ∧ K d H' ∧ G C φ' H' w' ∧ Ext (C.env φ H w) (C.env φ' H' w') ∧ VR (C.env φ' H' w') d v := by
  obtain ⟨td, e, te, ht, hk, hte, h⟩ := h
  split at h
  · rename_i v sz rows hobj
    obtain ⟨rfl, rfl, h⟩ := h
    obtain ⟨z, hz1, hz2⟩ := (hT.at hte).run_zero (P := P) w
    have hzv := (VR.zero (hT.at hte) hz2 (C.env φ H w)).2
    have hzl : z.cells.toList.length = te.size := by rw [← hzv.length, (hT.at hte).len]
    have hrl : ∀ y ∈ List.replicate n te.zero, y.cells.length = te.size := fun y hy => by rw [(List.mem_replicate.mp hy).2]; exact (hT.at hte).len
    have hflat : VRs (C.env φ H w) (flat (List.replicate n te.zero)) (Builtin.zeroCells z.cells n).toList := by
      rw [flat_replicate, zeroCells_toList]; exact hzv.replicate _
    have hwid : (Builtin.zeroCells z.cells n).toList.length = n * te.size := by
      rw [← hflat.length, flat_length hrl]; simp
    rcases Nat.eq_zero_or_pos n with hn0 | hn0
    · subst hn0
      have hset : H.set o (.arr v te.size (spliceL rows i (List.replicate 0 te.zero))) = H := by
        have : spliceL rows i (List.replicate 0 te.zero) = rows := by simp [spliceL]
        rw [this]
        apply List.ext_getElem?
        intro k
        by_cases hk : k = o
        · subst hk
          rw [List.getElem?_set_self (List.getElem?_eq_some_iff.mp hobj).1, hobj]
        · simp [Ne.symm hk]
      rw [hset] at h
      refine ⟨.tuple #[], w, φ, H, _, ?_, h, g, .refl _, .tup .nil⟩
      rcases hd.inv_h hobj with ⟨rfl, _⟩ | ⟨b, a, cap, c, e', fz, rfl, _⟩
      · simp [Builtin.clear_, run_underlying P t w ((hT.at ht).slice hk)]
      · simp [Builtin.clear_, run_underlying P t w ((hT.at ht).slice hk)]
    · rcases hd.inv_h hobj with ⟨_, _, h0, _⟩ | ⟨b, a, cap, c, e', fz, rfl, hφ, k3, k4, k5, k6, k7⟩
      · omega
      · have hφ' : φ[o]? = some (some b) := hφ
        obtain ⟨q1, q2, c', e2, vs, ⟨fz1, hfz, q3⟩, q4, q5⟩ := g.arrOf hobj hφ'
        have k5' : w.heap[b]? = some (Obj.cells c e' fz) := k5
        rw [q3] at k5'; cases k5'
        rcases k7 with k7 | k7
        · omega
        · subst k7
          have hvl := q4.length
          rw [flat_length q2] at hvl
          have hvc : vs.length ≤ c.size := by
            rcases Nat.eq_zero_or_pos vs.length with h0 | h0
            · omega
            · have := q5 (vs.length - 1) _ (List.getElem?_eq_getElem (by omega))
              have := (Array.getElem?_eq_some_iff.mp this).1
              omega
          have hend : i * te.size + n * te.size ≤ vs.length := by
            rw [← hvl, ← Nat.add_mul]; exact Nat.mul_le_mul_right _ (by omega)
          obtain ⟨w', s1, s2, s3, s4, s5⟩ := run_storeCells P (Builtin.zeroCells z.cells n).toList w b (i * te.size) 0 c e' hfz q3 (by rw [hwid]; omega)
            (fun u hu' => VRs.ones hflat (flat_one_all fun y hy => by rw [(List.mem_replicate.mp hy).2]; exact (hT.at hte).one) u hu')
          have hrun : (Builtin.clear_ (t :: ts).toArray ty #[.slice (some ⟨b, i * te.size, none⟩) n cap]).run P w = .ok (.tuple #[]) w' := by
            cases n with
            | zero => omega
            | succ n =>
              simp only [Builtin.clear_, List.getElem?_toArray, List.getElem?_cons_zero, Sem.run_bind, run_underlying P t w ((hT.at ht).slice hk), Result.andThen_ok, hz1, s1, Sem.run_pure]
          obtain ⟨m1, m2⟩ := g.reRow (ver' := v) (c' := spliceA c (i * te.size) (Builtin.zeroCells z.cells n).toList) (rows' := spliceL rows i (List.replicate n te.zero)) hobj hφ' (.inr ⟨rfl, spliceL_length _ _ _ (by simp; omega)⟩) s2 s3 ⟨fz, hfz, q3⟩ ⟨fz, by rw [spliceA_size]; exact hfz, by simpa using s4⟩ (spliceA_size _ _ _) s5
            (fun y hy => by
              unfold spliceL at hy
              rcases List.mem_append.mp hy with hy | hy
              · rcases List.mem_append.mp hy with hy | hy
                · exact q2 y (List.mem_of_mem_take hy)
                · exact hrl y hy
              · exact q2 y (List.mem_of_mem_drop hy))
            (vs := spliceL vs (i * te.size) (Builtin.zeroCells z.cells n).toList)
            (by
              have : flat (spliceL rows i (List.replicate n te.zero)) = spliceL (flat rows) (i * te.size) (flat (List.replicate n te.zero)) := by
                unfold spliceL
                rw [flat_append, flat_append, flat_take q2, flat_length hrl, ← Nat.add_mul, flat_drop q2]
              rw [this]; exact q4.splice _ hflat)
            (fun j u hj => by
              rw [spliceA_get _ _ _ _ (by rw [hwid]; omega)]
              unfold spliceL at hj
              have hl0 : (vs.take (i * te.size)).length = i * te.size := by rw [List.length_take]; omega
              split
              · rename_i hin
                rw [List.append_assoc, List.getElem?_append_right (by omega), hl0, List.getElem?_append_left (by omega)] at hj
                exact hj
              · rename_i hin
                refine q5 j u ?_
                rcases Nat.lt_or_ge j (i * te.size) with h1 | h1
                · rw [List.append_assoc, List.getElem?_append_left (by omega), List.getElem?_take, if_pos h1] at hj
                  exact hj
                · rw [List.getElem?_append_right (by simp only [List.length_append, hl0, hwid]; omega), List.getElem?_drop] at hj
                  rw [← hj]
                  congr 1
                  simp only [List.length_append, hl0, hwid]
                  omega)
          exact ⟨_, w', _, _, _, hrun, h, m1, m2, .tup .nil⟩
  · exact h.elim

/- Maps whose keys are numbers. -/

theorem findNow_ok {E : Env} {iq q : IntKind} {n : Int} : ∀ (es : List (D × D)) (ents : List MapEntry) (i : Nat), VRs E (es.map (·.1)) (ents.map (·.key)) → VRs E (es.map (·.2)) (ents.map (·.val)) →
    (∀ x ∈ es, (match x.1 with | .int q' _ => q' = q | _ => False)) →
    match mapFind (.int q n) es with
    | some v => ∃ (j : Nat) (x : MapEntry), Instr.findNow (.int iq) (.int q n) ents i = some (some (i + j, x.val)) ∧ ents[j]? = some x ∧ VR E v x.val ∧ x.key = .int q n ∧ (es.map (·.1))[j]? = some (.int q n) ∧
        (∀ v', mapPut (.int q n) v' es = (es.set j (.int q n, v'))) ∧ mapDel (.int q n) es = es.eraseIdx j
    | none => Instr.findNow (.int iq) (.int q n) ents i = some none ∧ (∀ v', mapPut (.int q n) v' es = es ++ [(.int q n, v')]) ∧ mapDel (.int q n) es = es
  | [], ents, i, hk, hv, hq => by
    cases ents with
    | nil => simp [mapFind, Instr.findNow, mapPut, mapDel]
    | cons => simp at hk; cases hk
  | (k, v) :: es, ents, i, hk, hv, hq => by
    cases ents with
    | nil => simp at hk; cases hk
    | cons x ents =>
      simp only [List.map_cons] at hk hv
      cases hk with
      | cons hk1 hk2 =>
        cases hv with
        | cons hv1 hv2 =>
          have hq1 := hq (k, v) (List.mem_cons_self ..)
          cases k <;> simp at hq1
          rename_i q' m
          subst hq1
          have hkey : x.key = .int q' m := by cases hx : x.key <;> rw [hx] at hk1 <;> cases hk1; rfl
          by_cases hnm : n = m
          · subst hnm
            simp only [mapFind, eq1, beq_self_eq_true, if_true]
            refine ⟨0, x, ?_, rfl, hv1, hkey, rfl, fun v' => ?_, ?_⟩
            · simp [Instr.findNow, Instr.sameNow, hkey]
            · simp [mapPut, eq1]
            · simp [mapDel, eq1]
          · have hb : (n == m) = false := by simpa using hnm
            have ih := findNow_ok (iq := iq) (n := n) es ents (i + 1) hk2 hv2 (fun y hy => hq y (List.mem_cons_of_mem _ hy))
            simp only [mapFind, eq1, hb, Bool.false_eq_true, if_false]
            split at ih
            · rename_i v0 hv0
              obtain ⟨j, y, h1, h2, h3, h4, h5, h6, h7⟩ := ih
              refine ⟨j + 1, y, ?_, by simpa using h2, h3, h4, by simpa using h5, fun v' => ?_, ?_⟩
              · simp only [Instr.findNow, Instr.sameNow, hkey, if_true, hb]
                rw [h1]
                congr 3
                omega
              · simp only [mapPut, eq1, hb, Bool.false_eq_true, if_false, h6, List.set_cons_succ]
              · simp only [mapDel, eq1, hb, Bool.false_eq_true, if_false, h7, List.eraseIdx_cons_succ]
            · rename_i hv0
              obtain ⟨h1, h2, h3⟩ := ih
              refine ⟨?_, fun v' => ?_, ?_⟩
              · simp only [Instr.findNow, Instr.sameNow, hkey, if_true, hb]
                exact h1
              · simp only [mapPut, eq1, hb, Bool.false_eq_true, if_false, h2, List.cons_append]
              · simp only [mapDel, eq1, hb, Bool.false_eq_true, if_false, h3]

theorem run_checkKey {P : Program} {w : World} {t : TypeId} {k : IntKind} (h : P.underlying t = some (.int k)) (b : Bool) (v : Value) : (Instr.checkKey b 10000 t v).run P w = .ok () w := by
  have : ∀ d, (Instr.checkKey b (d + 1) t v).run P w = .ok () w := fun d => by
    simp only [Instr.checkKey, Sem.run_bind, run_underlying P t w h, Result.andThen_ok]
    cases v <;> rfl
  exact this 9999

theorem run_findKey {P : Program} {w : World} {t : TypeId} {k : IntKind} (h : P.underlying t = some (.int k)) {v : Value} {es : List MapEntry} {r : Option (Nat × Value)} (hr : Instr.findNow (.int k) v es 0 = some r) :
    (Instr.findKey t v es).run P w = .ok r w := by
  simp only [Instr.findKey, Sem.run_bind, run_underlying P t w h, Result.andThen_ok, hr, Sem.run_pure]

theorem VR.inv_map {E : Env} {o : Nat} {es : List (D × D)} {v : Value} (h : VR E (.map o) v) (ho : E.H[o]? = some (.map es)) : ∃ b, v = .map (some b) ∧ E.φ[o]? = some (some b) := by
  cases h with
  | map h1 h2 => exact ⟨_, rfl, h2⟩
  | mold r h1 => rw [ho] at h1; cases h1

theorem G.mapOf {C φ H w} (g : G C φ H w) {o b : Nat} {es : List (D × D)} (ho : H[o]? = some (.map es)) (hb : φ[o]? = some (some b)) :
    ∃ ents clock, w.heap[b]? = some (Obj.map ents clock) ∧ VRs (C.env φ H w) (es.map (·.1)) (ents.toList.map (·.key)) ∧ VRs (C.env φ H w) (es.map (·.2)) (ents.toList.map (·.val)) ∧
      (∀ x ∈ ents.toList, x.born < clock) ∧ (ents.toList.map (·.born)).Nodup := by
  obtain ⟨b', h1, _, ents, clock, h2, h3, h4, h5, h6⟩ := g.objs.cl o _ ho
  have : φ[o]? = some (some b') := h1
  rw [hb] at this
  obtain rfl : b = b' := by simpa using this
  exact ⟨ents, clock, h2, h3, h4, h5, h6.1⟩

/-- A map that is owned is turned. -/
theorem G.reMap {C φ H w w'} (g : G C φ H w) {o b : Nat} {es es' : List (D × D)} {ents ents' : Array MapEntry} {clock clock' : Nat} (ho : H[o]? = some (.map es)) (hb : φ[o]? = some (some b)) (hs : Same w w')
    (hw : w'.heap = w.heap.setIfInBounds b (Obj.map ents' clock')) (hc : w.heap[b]? = some (Obj.map ents clock)) (hk : VRs (C.env φ H w) (es'.map (·.1)) (ents'.toList.map (·.key))) (hv : VRs (C.env φ H w) (es'.map (·.2)) (ents'.toList.map (·.val)))
    (h1 : ∀ x ∈ ents'.toList, x.born < clock') (h2 : (ents'.toList.map (·.born)).Nodup) :
    G C φ (H.set o (.map es')) w' ∧ Ext (C.env φ H w) (C.env φ (H.set o (.map es')) w') := by
  have hb' : φ.set o (some b) = φ := by
    apply List.ext_getElem?
    intro k
    by_cases hk : k = o
    · subst hk
      have := (List.getElem?_eq_some_iff.mp hb).1
      rw [List.getElem?_set_self this, hb]
    · simp [Ne.symm hk]
  have hlt := (g.own o b _ ho trivial hb).1
  have key := g.turn (b' := b) (ob' := .map es') (w' := w') ho trivial hb trivial
    { old := fun v hv' => by simp only [AObj.past] at hv'
      arr := fun v s r hh => by cases hh
      map := fun es st hh => .inr ⟨es', none, rfl⟩ }
    hs (by rw [hw]; simp) (by rw [hw]; simpa using hlt) (fun k _ hk => by rw [hw, Array.getElem?_setIfInBounds, if_neg (Ne.symm hk)])
    (.inl ⟨rfl, fun c1 e1 fz hc1 => by rw [hc] at hc1; cases hc1⟩)
    (fun E' hE x1 hφ hN => ⟨b, hφ, hN, ents', clock', by subst hE; show w'.heap[b]? = _; rw [hw, Array.getElem?_setIfInBounds, if_pos rfl, if_pos hlt], VRs.mono x1 hk, VRs.mono x1 hv, h1, h2, fun bs ck e => by cases e⟩)
  rw [hb'] at key
  exact key

theorem run_getMap {P : Program} {w : World} {b : Nat} {ents : Array MapEntry} {clock : Nat} (h : w.heap[b]? = some (Obj.map ents clock)) : (getObj b).run P w = .ok (Obj.map ents clock) w := by
  simp [getObj, Sem.run, h]

theorem run_setMap {P : Program} {w : World} {b : Nat} {ents : Array MapEntry} {clock : Nat} (h : w.heap[b]? = some (Obj.map ents clock)) (ob : Obj) : (setObj b ob).run P w = .ok () { w with heap := w.heap.setIfInBounds b ob } := by
  simp [setObj, Sem.run, h]

theorem snd_lookup {P T C φ H w} (hT : TOk P T) (g : G C φ H w) {ρ : Operand → D} {a : Operand → Value} (hρ : ∀ x, VR (C.env φ H w) (ρ x) (a x)) (o : Oper) {t : TypeId} {m k : Operand} {ok : Bool}
    (ho : o.op = .lookup t m k ok) {hd K} (h : opK T hd o.op ρ H K) : Out P C φ H w (execOp a o) K := by
  rw [ho] at h
  simp only [opK] at h
  obtain ⟨⟨td, q, e, tq, iq, h1, h2, h3, h4⟩, h⟩ := h
  have hm := hρ m
  split at h
  · rename_i o' hmo
    rw [hmo] at hm
    split at h
    · rename_i es hobj
      obtain ⟨hkok, h⟩ := h
      simp only [h1, h2] at h
      split at h
      · rename_i te hte
        obtain ⟨b, hav, hφ⟩ := hm.inv_map hobj
        obtain ⟨ents, clock, p1, p2, p3, p4, p5⟩ := g.mapOf hobj hφ
        obtain ⟨kq, hk1, hk2⟩ := hkok
        have hkv := hρ k
        cases hk : ρ k <;> rw [hk] at hk1 <;> simp at hk1
        rename_i kq' n
        subst hk1
        rw [hk] at hkv h
        cases hak : a k <;> rw [hak] at hkv <;> cases hkv
        have hf := findNow_ok (iq := iq) (n := n) es ents.toList 0 p2 p3 hk2
        have hu := (hT.at h3).int h4
        have hrun : ∀ (r : Option (Nat × Value)), Instr.findNow (.int iq) (.int kq' n) ents.toList 0 = some r → ∀ (v0 : Value) (b0 : Bool), (match r with | some (_, v) => (pure (v, true) : Sem (Value × Bool)) | none => do pure (← zeroValue e, false)).run P w = .ok (v0, b0) w →
            (execOp a o).run P w = .ok (.value (if ok then .tuple #[v0, .bool b0] else v0)) w := fun r hr v0 b0 hv0 => by
          cases r with
          | none =>
            simp only at hv0
            simp only [execOp, ho, hav, hak, Instr.lookup, Sem.run_bind, run_underlying P t w ((hT.at h1).map h2), Result.andThen_ok, run_getMap p1, run_checkKey hu, run_findKey hu hr, Sem.run_pure]
            simp only [Sem.run_bind] at hv0
            cases hz : (zeroValue e).run P w with
            | ok z w1 =>
              rw [hz] at hv0
              simp only [Result.andThen_ok, Sem.run_pure] at hv0 ⊢
              cases hv0
              rfl
            | halt x w1 => rw [hz] at hv0; simp at hv0
          | some p =>
            simp only [Sem.run_pure] at hv0
            cases hv0
            simp only [execOp, ho, hav, hak, Instr.lookup, Sem.run_bind, run_underlying P t w ((hT.at h1).map h2), Result.andThen_ok, run_getMap p1, run_checkKey hu, run_findKey hu hr, Sem.run_pure]
        split at h
        · rename_i v hv
          rw [hv] at hf
          obtain ⟨j, x, f1, f2, f3, f4, f5, f6, f7⟩ := hf
          refine Out.pure g (hrun _ f1 x.val true rfl) ?_ h
          cases ok with
          | true => exact .tup (.cons f3 (.cons (.bool _) .nil))
          | false => exact f3
        · rename_i hv
          rw [hv] at hf
          obtain ⟨z, hz1, hz2⟩ := (hT.at hte).run_zero (P := P) w
          have hzv := (VR.zero (hT.at hte) hz2 (C.env φ H w)).1
          refine Out.pure g (hrun _ hf.1 z false (by simp [hz1])) ?_ h
          cases ok with
          | true => exact .tup (.cons hzv (.cons (.bool _) .nil))
          | false => exact hzv
      · exact h.elim
    · exact h.elim
  · exact h.elim

theorem set_same {α : Type} {l : List α} {j : Nat} {x : α} (h : l[j]? = some x) : l.set j x = l := by
  apply List.ext_getElem?
  intro k
  by_cases hk : j = k
  · subst hk
    rw [List.getElem?_set_self (List.getElem?_eq_some_iff.mp h).1, h]
  · rw [List.getElem?_set_ne hk]

theorem arr_modify_toList (ents : Array MapEntry) (j : Nat) (x : MapEntry) (f : MapEntry → MapEntry) (h : ents.toList[j]? = some x) : (ents.modify j f).toList = ents.toList.set j (f x) := by
  apply List.ext_getElem?
  intro k
  rw [Array.getElem?_toList, Array.getElem?_modify]
  have h' : ents[j]? = some x := by simpa using h
  by_cases hk : j = k
  · subst hk
    rw [if_pos rfl, h', List.getElem?_set_self (List.getElem?_eq_some_iff.mp h).1]
    rfl
  · rw [if_neg hk, List.getElem?_set_ne hk]
    simp

theorem snd_mapUpdate {P T C φ H w} (hT : TOk P T) (g : G C φ H w) {ρ : Operand → D} {a : Operand → Value} (hρ : ∀ x, VR (C.env φ H w) (ρ x) (a x)) (o : Oper) {t : TypeId} {m k x : Operand}
    (ho : o.op = .mapUpdate t m k x) {hd K} (h : opK T hd o.op ρ H K) : Out P C φ H w (execOp a o) K := by
  rw [ho] at h
  simp only [opK] at h
  obtain ⟨⟨td, q, e, tq, iq, h1, h2, h3, h4⟩, h⟩ := h
  have hm := hρ m
  split at h
  · rename_i o' hmo
    rw [hmo] at hm
    split at h
    · rename_i es hobj
      obtain ⟨hkok, h⟩ := h
      obtain ⟨b, hav, hφ⟩ := hm.inv_map hobj
      have hφ' : φ[o']? = some (some b) := hφ
      obtain ⟨ents, clock, p1, p2, p3, p4, p5⟩ := g.mapOf hobj hφ
      obtain ⟨kq, hk1, hk2⟩ := hkok
      have hkv := hρ k
      cases hk : ρ k <;> rw [hk] at hk1 <;> simp at hk1
      rename_i kq' n
      subst hk1
      rw [hk] at hkv h
      cases hak : a k <;> rw [hak] at hkv <;> cases hkv
      have hf := findNow_ok (iq := iq) (n := n) es ents.toList 0 p2 p3 hk2
      have hu := (hT.at h3).int h4
      have fin : ∀ (ents' : Array MapEntry) (clock' : Nat), (execOp a o).run P w = .ok .skip { w with heap := w.heap.setIfInBounds b (Obj.map ents' clock') } →
          VRs (C.env φ H w) ((mapPut (.int kq' n) (ρ x) es).map (·.1)) (ents'.toList.map (·.key)) → VRs (C.env φ H w) ((mapPut (.int kq' n) (ρ x) es).map (·.2)) (ents'.toList.map (·.val)) →
          (∀ y ∈ ents'.toList, y.born < clock') → (ents'.toList.map (·.born)).Nodup → Out P C φ H w (execOp a o) K := fun ents' clock' hr hk' hv' hb' hn' => by
        obtain ⟨m1, m2⟩ := g.reMap (w' := { w with heap := w.heap.setIfInBounds b (Obj.map ents' clock') }) hobj hφ' ⟨rfl, rfl, rfl, (by first | exact Nat.le_refl _ | exact Nat.le_succ _)⟩ rfl p1 hk' hv' hb' hn'
        exact ⟨.skip, undef, _, _, _, .tup [], hr, .inr ⟨rfl, rfl⟩, h, m1, m2, .tup .nil⟩
      split at hf
      · rename_i v hv
        obtain ⟨j, y, f1, f2, f3, f4, f5, f6, f7⟩ := hf
        rw [Nat.zero_add] at f1
        have hy : ents[j]? = some y := by simpa using f2
        refine fin (ents.modify j fun z => { z with key := .int kq' n, val := a x }) clock ?_ ?_ ?_ ?_ ?_
        · have hsb : (Instr.keyThatStays (((ents[j]?).map (·.key)).getD (.int kq' n)) (.int kq' n)).run P w = .ok (.int kq' n) w := by
            rw [hy]
            simp [Instr.keyThatStays, f4, Instr.sameBits]
          simp only [execOp, ho, hav, hak, Instr.mapUpdate, Sem.run_bind, run_underlying P t w ((hT.at h1).map h2), Result.andThen_ok, run_getMap p1, run_checkKey hu, run_findKey hu f1, hsb, run_setMap p1, Sem.run_pure]
        · rw [arr_modify_toList _ _ _ _ f2, f6, List.map_set, List.map_set]
          exact p2.set j (.int _ _)
        · rw [arr_modify_toList _ _ _ _ f2, f6, List.map_set, List.map_set]
          exact p3.set j (hρ x)
        · intro z hz
          rw [arr_modify_toList _ _ _ _ f2] at hz
          rcases List.mem_or_eq_of_mem_set hz with hz | rfl
          · exact p4 z hz
          · exact p4 y (List.mem_of_getElem? f2)
        · rw [arr_modify_toList _ _ _ _ f2, List.map_set, set_same (by rw [List.getElem?_map, f2]; rfl)]
          exact p5
      · obtain ⟨f1, f2, f3⟩ := hf
        refine fin (ents.push { key := .int kq' n, val := a x, born := clock }) (clock + 1) ?_ ?_ ?_ ?_ ?_
        · simp only [execOp, ho, hav, hak, Instr.mapUpdate, Sem.run_bind, run_underlying P t w ((hT.at h1).map h2), Result.andThen_ok, run_getMap p1, run_checkKey hu, run_findKey hu f1, run_setMap p1, Sem.run_pure]
        · rw [f2, Array.toList_push, List.map_append, List.map_append]
          exact p2.append (.cons (.int _ _) .nil)
        · rw [f2, Array.toList_push, List.map_append, List.map_append]
          exact p3.append (.cons (hρ x) .nil)
        · intro z hz
          rw [Array.toList_push] at hz
          rcases List.mem_append.mp hz with hz | hz
          · have := p4 z hz; omega
          · simp at hz; subst hz; exact Nat.lt_succ_self _
        · rw [Array.toList_push, List.map_append, List.nodup_append]
          refine ⟨p5, by simp, fun u hu' v hv e => ?_⟩
          subst e
          simp at hv
          obtain ⟨z, hz1, hz2⟩ := List.mem_map.mp hu'
          have := p4 z hz1
          omega
    · exact h.elim
  · exact h.elim

theorem run_delete {P T C φ H w} (hT : TOk P T) (g : G C φ H w) {mv kv : Value} {o : Nat} {k : D} {es : List (D × D)} (hm : VR (C.env φ H w) (.map o) mv) (hkv : VR (C.env φ H w) k kv) {t ty : TypeId} {ts : List TypeId}
    (h0 : ∃ td q e tq iq, T.get t = some td ∧ td.k = .map q e ∧ T.get q = some tq ∧ tq.k = .int iq) (hobj : H[o]? = some (.map es)) (hkok : keyOk k es) {K : D → List AObj → Prop} (h : K (.tup []) (H.set o (.map (mapDel k es)))) :
    ∃ v w' φ' H' d, (Builtin.delete_ (t :: ts).toArray ty #[mv, kv]).run P w = .ok v w' ∧ K d H' ∧ G C φ' H' w' ∧ Ext (C.env φ H w) (C.env φ' H' w') ∧ VR (C.env φ' H' w') d v := by
  obtain ⟨td, q, e, tq, iq, h1, h2, h3, h4⟩ := h0
  obtain ⟨b, rfl, hφ⟩ := hm.inv_map hobj
  have hφ' : φ[o]? = some (some b) := hφ
  obtain ⟨ents, clock, p1, p2, p3, p4, p5⟩ := g.mapOf hobj hφ
  obtain ⟨kq, hk1, hk2⟩ := hkok
  cases k <;> simp at hk1
  rename_i kq' n
  subst hk1
  cases hkv
  have hf := findNow_ok (iq := iq) (n := n) es ents.toList 0 p2 p3 hk2
  have hu := (hT.at h3).int h4
  split at hf
  · rename_i v hv
    obtain ⟨j, y, f1, f2, f3, f4, f5, f6, f7⟩ := hf
    rw [Nat.zero_add] at f1
    have hj : j < ents.size := by have := (List.getElem?_eq_some_iff.mp f2).1; simpa using this
    have he : (ents.eraseIdxIfInBounds j).toList = ents.toList.eraseIdx j := by
      rw [Array.eraseIdxIfInBounds, dif_pos hj]
      simp
    obtain ⟨m1, m2⟩ := g.reMap (w' := { w with heap := w.heap.setIfInBounds b (Obj.map (ents.eraseIdxIfInBounds j) clock) }) hobj hφ' ⟨rfl, rfl, rfl, (by first | exact Nat.le_refl _ | exact Nat.le_succ _)⟩ rfl p1 (es' := mapDel (.int kq' n) es)
      (by
        rw [he, f7]
        have : ∀ {α β : Type} (f : α → β) (l : List α), (l.eraseIdx j).map f = (l.map f).eraseIdx j := fun f l => by rw [List.eraseIdx_eq_take_drop_succ, List.eraseIdx_eq_take_drop_succ]; simp
        rw [this, this, List.eraseIdx_eq_take_drop_succ, List.eraseIdx_eq_take_drop_succ]
        exact (p2.take j).append (p2.drop (j + 1)))
      (by
        rw [he, f7]
        have : ∀ {α β : Type} (f : α → β) (l : List α), (l.eraseIdx j).map f = (l.map f).eraseIdx j := fun f l => by rw [List.eraseIdx_eq_take_drop_succ, List.eraseIdx_eq_take_drop_succ]; simp
        rw [this, this, List.eraseIdx_eq_take_drop_succ, List.eraseIdx_eq_take_drop_succ]
        exact (p3.take j).append (p3.drop (j + 1)))
      (fun z hz => by rw [he] at hz; exact p4 z (List.mem_of_mem_eraseIdx hz))
      (by
        rw [he]
        exact List.Sublist.nodup (List.Sublist.map _ (List.eraseIdx_sublist _ _)) p5)
    refine ⟨.tuple #[], _, _, _, _, ?_, h, m1, m2, .tup .nil⟩
    simp [Builtin.delete_, run_underlying P t w ((hT.at h1).map h2), run_getMap p1, run_checkKey hu, run_findKey hu f1, run_setMap p1]
  · obtain ⟨f1, f2, f3⟩ := hf
    obtain ⟨m1, m2⟩ := g.reMap (w' := { w with heap := w.heap.setIfInBounds b (Obj.map ents clock) }) hobj hφ' ⟨rfl, rfl, rfl, (by first | exact Nat.le_refl _ | exact Nat.le_succ _)⟩ rfl p1 (es' := mapDel (.int kq' n) es) (by rw [f3]; exact p2) (by rw [f3]; exact p3) p4 p5
    refine ⟨.tuple #[], _, _, _, _, ?_, h, m1, m2, .tup .nil⟩
    simp [Builtin.delete_, run_underlying P t w ((hT.at h1).map h2), run_getMap p1, run_checkKey hu, run_findKey hu f1, run_setMap p1]

theorem snd_builtin {P T C φ H w} (hT : TOk P T) (g : G C φ H w) {ρ : Operand → D} {a : Operand → Value} (hρ : ∀ x, VR (C.env φ H w) (ρ x) (a x)) (o : Oper) {c : Call} {b : Builtin}
    (ho : o.op = .call c) (hb : c.callee = .builtin b) {hd K} (h : opK T hd o.op ρ H K) : Out P C φ H w (execOp a o) K := by
  rw [ho] at h
  simp only [opK, hb] at h
  obtain ⟨callee, args, argTypes⟩ := c
  simp only at hb h
  subst hb
  obtain ⟨args⟩ := args
  obtain ⟨ats⟩ := argTypes
  simp only at h
  have hmap : ∀ l : List Operand, VRs (C.env φ H w) (l.map ρ) (l.map a) := fun l => by
    induction l with
    | nil => exact .nil
    | cons x l ih => exact .cons (hρ x) ih
  have hargs := hmap args
  have hex : ∀ (s : Sem Value), (∀ k, Go.builtin b ⟨ats⟩ o.type k ((⟨args⟩ : Array Operand).map a) = (do pure (.value (← s)) : Sem Next)) → (execOp a o).run P w = (s.run P w).andThen fun v w' => .ok (.value v) w' := fun s hs => by
    simp only [execOp, ho, resolve, Sem.run_bind, Sem.run_pure, Result.andThen_ok, invoke]
    rw [hs]
    simp
  have hexA : ((⟨args⟩ : Array Operand).map a) = ⟨args.map a⟩ := by apply Array.ext'; simp
  rw [hexA] at hex
  generalize args.map ρ = ds at h hargs
  generalize args.map a = vs at hex hargs
  unfold biK at h
  split at h
  · -- len
    cases hargs with
    | cons hx ht0 =>
      cases ht0
      refine Out.ofV (hex _ fun _ => rfl) ?_
      split at h
      · rename_i o' 
        obtain ⟨⟨td, q, e, h1, h2⟩, h⟩ := h
        split at h
        · rename_i es hobj
          obtain ⟨b', rfl, hφ⟩ := hx.inv_map hobj
          obtain ⟨ents, clock, p1, p2, p3, p4, p5⟩ := g.mapOf hobj hφ
          have hl : es.length = ents.size := by have := p2.length; simpa using this
          refine ⟨.int .i64 es.length, w, φ, H, _, ?_, h, g, .refl _, .int _ _⟩
          simp [Builtin.len_, run_underlying P _ w ((hT.at h1).map h2), run_getMap p1, goInt, hl]
        · exact h.elim
      · rename_i s
        obtain ⟨⟨td, h1, h2⟩, h⟩ := h
        cases hx
        refine ⟨.int .i64 s.size, w, φ, H, _, ?_, h, g, .refl _, .int _ _⟩
        simp [Builtin.len_, run_underlying P _ w ((hT.at h1).string h2), goInt]
      · obtain ⟨⟨td, e, h1, h2⟩, h⟩ := h
        rename_i hns
        split at h
        · rename_i n hn
          obtain ⟨ad, cap, rfl, _⟩ := lenD_ok hx hn (fun s e => hns s e)
          refine ⟨.int .i64 n, w, φ, H, _, ?_, h, g, .refl _, .int _ _⟩
          simp [Builtin.len_, run_underlying P _ w ((hT.at h1).slice h2), goInt]
        · exact h.elim
  · cases hargs with
    | cons hs ht0 =>
      cases ht0; cases hs
      obtain ⟨⟨td, e, h1, h2⟩, h⟩ := h
      refine Out.ofV (hex _ fun _ => rfl) ⟨_, w, φ, H, _, ?_, h, g, .refl _, .int _ _⟩
      simp [Builtin.cap_, run_underlying P _ w ((hT.at h1).slice h2), goInt]
  · cases hargs with
    | cons hs ht0 =>
      cases ht0 with
      | cons hx ht1 =>
        cases ht1; cases hs; cases hx
        obtain ⟨⟨td, q, h1, h2⟩, h⟩ := h
        exact Out.ofV (hex _ fun _ => rfl) (snd_appendZ hT g ((hT.at h1).int h2) h)
  · cases hargs with
    | cons hs ht0 =>
      cases ht0 with
      | cons hx ht1 =>
        cases ht1; cases hx
        obtain ⟨⟨td, q, h1, h2⟩, td2, e, te, h3, h4, h5, h⟩ := h
        exact Out.ofV (hex _ fun _ => rfl) (snd_appendZh hT g hs ((hT.at h1).int h2) h3 h4 h5 h)
  · -- append
    cases hargs with
    | cons hs ht0 =>
      cases ht0 with
      | cons hx ht1 =>
        cases ht1
        refine Out.ofV (hex _ fun _ => rfl) ?_
        split at h
        · obtain ⟨h1, h2, h⟩ := h
          exact snd_append hT g hs hx (.inl ⟨_, rfl, rfl, h1, h2⟩) h
        · obtain ⟨h1, ys, h2, h⟩ := h
          exact snd_append hT g hs hx (.inr ⟨h2, h1⟩) h
  · -- min
    cases hargs with
    | cons hs ht0 =>
      cases ht0 with
      | cons hx ht1 =>
        cases ht1; cases hs; cases hx
        obtain ⟨rfl, h⟩ := h
        refine Out.ofV (hex _ fun _ => rfl) ⟨_, w, φ, H, _, ?_, h, g, .refl _, .int _ _⟩
        simp [Builtin.min_, Builtin.min2]
  · cases hargs with
    | cons hs ht0 =>
      cases ht0 with
      | cons hx ht1 =>
        cases ht1; cases hs; cases hx
        obtain ⟨rfl, h⟩ := h
        refine Out.ofV (hex _ fun _ => rfl) ⟨_, w, φ, H, _, ?_, h, g, .refl _, .int _ _⟩
        simp [Builtin.max_, Builtin.max2]
  · cases hargs with
    | cons hs ht0 =>
      cases ht0 with
      | cons hx ht1 =>
        cases ht1
        exact Out.ofV (hex _ fun _ => rfl) (snd_copy hT g hs hx h)
  · cases hargs with
    | cons hs ht0 =>
      cases ht0
      exact Out.ofV (hex _ fun _ => rfl) (snd_clear hT g hs h)
  · cases hargs with
    | cons hs ht0 =>
      cases ht0
      refine Out.ofV (hex _ fun _ => rfl) ?_
      obtain ⟨⟨td, q, e, h1, h2⟩, h⟩ := h
      split at h
      · rename_i es hobj
        obtain ⟨b', rfl, hφ⟩ := hs.inv_map hobj
        have hφ' : φ[_]? = some (some b') := hφ
        obtain ⟨ents, clock, p1, p2, p3, p4, p5⟩ := g.mapOf hobj hφ
        obtain ⟨m1, m2⟩ := g.reMap (w' := { w with heap := w.heap.setIfInBounds b' (Obj.map #[] clock) }) hobj hφ' ⟨rfl, rfl, rfl, (by first | exact Nat.le_refl _ | exact Nat.le_succ _)⟩ rfl p1 (es' := []) .nil .nil (by simp) (by simp)
        refine ⟨.tuple #[], _, _, _, _, ?_, h, m1, m2, .tup .nil⟩
        simp [Builtin.clear_, run_underlying P _ w ((hT.at h1).map h2), run_getMap p1, run_setMap p1]
      · exact h.elim
  · cases hargs with
    | cons hs ht0 =>
      cases ht0 with
      | cons hx ht1 =>
        cases ht1
        refine Out.ofV (hex _ fun _ => rfl) ?_
        obtain ⟨h0, h⟩ := h
        split at h
        · rename_i es hobj
          exact run_delete hT g hs hx h0 hobj h.1 h.2
        · exact h.elim
  · exact h.elim

theorem eqIn_map_nil1 {P : Program} (w : World) (dep : Nat) {t q e : TypeId} (h : P.underlying t = some (.map q e)) (b : Nat) :
    (Op.equalIn (dep + 1) t (.map (some b)) (.map none)).run P w = .ok false w := by simp [Op.equalIn, run_underlying P t w h]

/-- What is owned, compared with nil. -/
theorem snd_nil {P T C φ H w} (hT : TOk P T) (g : G C φ H w) {ρ : Operand → D} {a : Operand → Value} (hρ : ∀ x, VR (C.env φ H w) (ρ x) (a x)) (o : Oper) {op : BinOp} {t u : TypeId} {x y : Operand}
    (ho : o.op = .binOp op t x y u) {K : D → List AObj → Prop} (h : nilK T H op t (ρ x) (ρ y) fun d => K d H) : Out P C φ H w (execOp a o) K := by
  obtain ⟨hop, h⟩ := h
  have hx := hρ x; have hy := hρ y
  have fin : ∀ (u v : Value), a x = u → a y = v → (∀ cs, u ≠ .agg cs) → u ≠ .nilIface → (Op.equal t u v).run P w = .ok false w → (binOp .eql t u v = do pure (.bool (← Op.equal t u v))) → (binOp .neq t u v = do pure (.bool (!(← Op.equal t u v)))) → Out P C φ H w (execOp a o) K := fun u' v' e1 e2 n1 n2 h1 h3 h4 => by
    have hg : ∀ op, op = BinOp.eql ∨ op = BinOp.neq → (eqGuard op t x y u' v').run P w = .ok () w := fun op hop => by
      cases u' <;> first | exact absurd rfl (n1 _) | exact absurd rfl n2 | (rcases hop with rfl | rfl <;> simp [eqGuard])
    rcases hop with ⟨rfl, hk⟩ | ⟨rfl, hk⟩
    · exact Out.pure g (v := .bool false) (by simp [execOp, ho, e1, e2, hg .eql (.inl rfl), h1, h3]) (.bool _) hk
    · exact Out.pure g (v := .bool true) (by simp [execOp, ho, e1, e2, hg .neq (.inr rfl), h1, h4]) (.bool _) hk
  split at h
  · rename_i ex ey
    obtain ⟨⟨sz, rows, h1⟩, td, e, h2, h3⟩ := h
    rw [ex] at hx; rw [ey] at hy
    obtain ⟨b, k1, _⟩ := hx.inv_p h1
    cases hay : a y <;> rw [hay] at hy <;> cases hy
    obtain ⟨d, e1, e2⟩ := (hT.at h2).und
    cases d <;> simp only [TK.fits, h3] at e2 <;> cases e2
    exact fin _ _ k1 hay (by simp) (by simp) (eqIn_ptr_nil w 9999 e1 _) rfl rfl
  · rename_i ex ey
    obtain ⟨⟨sz, rows, h1⟩, td, e, h2, h3⟩ := h
    rw [ex] at hx; rw [ey] at hy
    obtain ⟨b, k1, _⟩ := hy.inv_p h1
    cases hax : a x <;> rw [hax] at hx <;> cases hx
    obtain ⟨d, e1, e2⟩ := (hT.at h2).und
    cases d <;> simp only [TK.fits, h3] at e2 <;> cases e2
    exact fin _ _ hax k1 (by simp) (by simp) (eqIn_nil_ptr w 9999 e1 _) rfl rfl
  · rename_i ex ey
    obtain ⟨⟨es, h1⟩, td, q, e, h2, h3⟩ := h
    rw [ex] at hx; rw [ey] at hy
    obtain ⟨b, k1, _⟩ := hx.inv_map h1
    cases hay : a y <;> rw [hay] at hy <;> cases hy
    have e1 : P.underlying t = some (.map q e) := (hT.at h2).map h3
    exact fin _ _ k1 hay (by simp) (by simp) (eqIn_map_nil1 w 9999 e1 _) rfl rfl
  · rename_i ex ey
    obtain ⟨⟨es, h1⟩, td, q, e, h2, h3⟩ := h
    rw [ex] at hx; rw [ey] at hy
    obtain ⟨b, k1, _⟩ := hy.inv_map h1
    cases hax : a x <;> rw [hax] at hx <;> cases hx
    have e1 : P.underlying t = some (.map q e) := (hT.at h2).map h3
    exact fin _ _ hax k1 (by simp) (by simp) (eqIn_map_nil w 9999 e1 _) rfl rfl
  · exact h.elim

/-- All operations but calls of functions. -/
theorem op_sound {P T C φ H w} (hT : TOk P T) (g : G C φ H w) {hd : Hd} (hle : C.le hd.n) {ρ : Operand → D} {a : Operand → Value} (hρ : ∀ x, VR (C.env φ H w) (ρ x) (a x)) (o : Oper) {K} (h : opK T hd o.op ρ H K) :
    Out P C φ H w (execOp a o) K := by
  cases ho : o.op with
  | move x => exact snd_move g hρ o (.inl ho) h
  | assign x => exact snd_move g hρ o (.inr ho) h
  | pick c x y => exact snd_pick g hρ o ho h
  | alloc t => exact snd_alloc hT g o ho h
  | box t x => exact snd_box hT g hρ o ho h
  | build t ps => exact snd_build hT g hρ o ho h
  | buildSlice t n ps => exact snd_buildSlice hT g hρ o ho h
  | load t x => exact snd_load hT g hρ o ho h
  | store t x y => exact snd_store hT g hρ o ho h
  | nilCheck x => exact snd_nilCheck g hρ o ho h
  | binOp op t x y u =>
    rw [ho] at h
    rcases h with h | h
    · exact snd_binOp hT g hρ o ho h
    · exact snd_nil hT g hρ o ho h
  | unOp op t x => exact snd_unOp g hρ o ho h
  | convert s d x => exact snd_convert hT g hle hρ o ho h
  | makeInterface t x => exact snd_makeInterface hT g hρ o ho h
  | makeFunc f x y => exact snd_makeFunc g hρ o ho h
  | makeMap t r => exact snd_makeMap (a := a) hT g o ho h
  | makeSlice t l c => exact snd_makeSlice hT g hρ o ho h
  | slice t x l h' m => exact snd_slice hT g hρ o ho h
  | fieldAddr t x f => exact snd_fieldAddr hT g hρ o ho h
  | field t x f => exact snd_field hT g hρ o ho h
  | indexAddr t x i => exact snd_indexAddr hT g hρ o ho h
  | index t x i => exact snd_index hT g hρ o ho h
  | lookup t m k ok => exact snd_lookup hT g hρ o ho h
  | mapUpdate t m k x => exact snd_mapUpdate hT g hρ o ho h
  | extract x i => exact snd_extract g hρ o ho h
  | call c =>
    cases hc : c.callee with
    | builtin b => exact snd_builtin hT g hρ o ho hc h
    | value f => rw [ho] at h; simp [opK, hc] at h
    | invoke r m => rw [ho] at h; simp [opK, hc] at h
  | _ => rw [ho] at h; simp [opK] at h

end Go.A
