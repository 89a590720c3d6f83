/- A logic of abstract states, part 15: that the computing of operations is right. -/
import Derived.Test.YtgigpjkdfhhahaaA14
namespace Go.A
set_option linter.unusedVariables false
set_option linter.unusedSimpArgs false

section
variable {T : Tab} {cf : Cf} {bx : List Bool} {s : List D} {H : List AObj} {X : Res → Prop}

theorem parts_eq {s s' : List D} {ps : List (Nat × Operand)} (h : ∀ x ∈ ps.map (·.2), ev s' x = ev s x) : (ps.map fun p => (p.1, ev s' p.2)) = ps.map fun p => (p.1, ev s p.2) := by
  apply List.map_congr_left
  intro p hp
  rw [h p.2 (List.mem_map_of_mem hp)]

theorem args_eq {s s' : List D} {ps : List Operand} (h : ∀ x ∈ ps, ev s' x = ev s x) : ps.map (ev s') = ps.map (ev s) :=
  List.map_congr_left h

theorem opt_eq {s s' : List D} {x : Option Operand} (h : ∀ y ∈ x, ev s' y = ev s y) : x.map (ev s') = x.map (ev s) := by
  cases x with
  | none => rfl
  | some x => simp [h x rfl]

theorem opF_ok {op : Op} (h : opF T cf bx op s H X) : ∃ r, X r ∧ Good T cf op s H r := by
  cases op with
  | move x =>
    have h := evK_iff.mp h
    exact ⟨_, h, fun s' H' pl K hs hH hg => by simp only [opK]; rw [hs x (by simp [Op.operands])]; exact hg⟩
  | assign x =>
    have h := evK_iff.mp h
    exact ⟨_, h, fun s' H' pl K hs hH hg => by simp only [opK]; rw [hs x (by simp [Op.operands])]; exact hg⟩
  | pick c a b =>
    replace h := evK_iff.mp h
    split at h
    · rename_i t ht
      rcases boolF_ok h with ⟨rfl, h1⟩ | ⟨rfl, h1⟩
      · refine ⟨_, evK_iff.mp h1, fun s' H' pl K hs hH hg => ?_⟩
        simp only [opK]
        rw [hs c (by simp [Op.operands]), hs a (by simp [Op.operands]), hs b (by simp [Op.operands]), ht]
        exact ⟨fun _ => hg, fun h => absurd h (by decide)⟩
      · refine ⟨_, evK_iff.mp h1, fun s' H' pl K hs hH hg => ?_⟩
        simp only [opK]
        rw [hs c (by simp [Op.operands]), hs a (by simp [Op.operands]), hs b (by simp [Op.operands]), ht]
        exact ⟨fun h => absurd h (by decide), fun _ => hg⟩
    · exact h.elim
  | alloc t =>
    replace h := tyK_iff.mp h
    obtain ⟨td, ht, h⟩ := h
    replace h := boolK_iff.mp h
    obtain ⟨c1, h⟩ := h
    replace h := zK_iff.mp h
    exact ⟨_, h, fun s' H' pl K hs hH hg => by
      simp only [opK, ht]
      exact ⟨by simpa using c1, hg⟩⟩
  | box t x =>
    replace h := tyK_iff.mp h
    obtain ⟨td, ht, h⟩ := h
    replace h := evK_iff.mp h
    replace h := boolK_iff.mp h
    obtain ⟨c1, h⟩ := h
    replace h := boolK_iff.mp h
    obtain ⟨c2, h⟩ := h
    replace h := boolK_iff.mp h
    obtain ⟨c3, h⟩ := h
    cases hown : cf.own with
    | true =>
      simp only [hown] at h
      exact ⟨_, h, fun s' H' pl K hs hH hg => by
        simp only [opK, ht]
        rw [hs x (by simp [Op.operands])]
        simp only [hown]
        exact ⟨by simpa using c1, Nat.eq_of_beq_eq_true c2, c3, hg⟩⟩
    | false =>
      simp only [hown] at h
      replace h := listK_iff.mp h
      exact ⟨_, h, fun s' H' pl K hs hH hg => by
        simp only [opK, ht]
        rw [hs x (by simp [Op.operands])]
        simp only [hown]
        exact ⟨by simpa using c1, Nat.eq_of_beq_eq_true c2, c3, hg⟩⟩
  | build t parts =>
    replace h := tyK_iff.mp h
    obtain ⟨td, ht, h⟩ := h
    replace h := partsK_iff.mp h
    split at h
    · rename_i fs hk
      split at h
      · rename_i cs hcs
        replace h := boolK_iff.mp h
        obtain ⟨c1, h⟩ := h
        replace h := listK_iff.mp h
        refine ⟨_, h, fun s' H' pl K hs hH hg => ?_⟩
        simp only [opK, ht, hk]
        rw [parts_eq (s' := s') (s := s) fun x hx => hs x (by simpa [Op.operands] using hx), hcs]
        exact ⟨List.all_eq_true.mp c1, hg⟩
      · exact h.elim
    · rename_i n e hk
      replace h := tyK_iff.mp h
      obtain ⟨te, hte, h⟩ := h
      split at h
      · rename_i cs hcs
        replace h := listK_iff.mp h
        refine ⟨_, h, fun s' H' pl K hs hH hg => ?_⟩
        simp only [opK, ht, hk, hte]
        rw [parts_eq (s' := s') (s := s) fun x hx => hs x (by simpa [Op.operands] using hx), hcs]
        exact hg
      · exact h.elim
    · exact h.elim
  | buildSlice t len parts =>
    replace h := tyK_iff.mp h
    obtain ⟨td, ht, h⟩ := h
    replace h := partsK_iff.mp h
    split at h
    · rename_i e hk
      replace h := tyK_iff.mp h
      obtain ⟨te, hte, h⟩ := h
      replace h := boolK_iff.mp h
      obtain ⟨c1, h⟩ := h
      replace h := boolK_iff.mp h
      obtain ⟨c2, h⟩ := h
      split at h
      · rename_i rows hrows
        replace h := listK_iff.mp h
        cases hown : cf.own with
        | true =>
          simp only [hown] at h
          exact ⟨_, h, fun s' H' pl K hs hH hg => by
            simp only [opK, ht, hk, hte]
            rw [parts_eq (s' := s') (s := s) fun x hx => hs x (by simpa [Op.operands] using hx), hrows]
            simp only [hown]
            exact ⟨by simpa using c1, Nat.le_of_ble_eq_true c2, hg⟩⟩
        | false =>
          simp only [hown] at h
          exact ⟨_, h, fun s' H' pl K hs hH hg => by
            simp only [opK, ht, hk, hte]
            rw [parts_eq (s' := s') (s := s) fun x hx => hs x (by simpa [Op.operands] using hx), hrows]
            simp only [hown]
            exact ⟨by simpa using c1, Nat.le_of_ble_eq_true c2, hg⟩⟩
      · exact h.elim
    · exact h.elim
  | load t a =>
    replace h := evK_iff.mp h
    obtain ⟨d, rd, h1, h2⟩ := loadF_ok h
    refine ⟨_, h1, fun s' H' pl K hs hH hg => ?_⟩
    simp only [opK]
    rw [hs a (by simp [Op.operands])]
    exact h2 H' _ hH hg
  | store t a x =>
    replace h := evK_iff.mp (evK_iff.mp h)
    obtain ⟨o, ob, h1, h2⟩ := storeF_ok h
    refine ⟨_, h1, fun s' H' pl K hs hH hg => ?_⟩
    simp only [opK]
    rw [hs a (by simp [Op.operands]), hs x (by simp [Op.operands])]
    exact h2 H' _ (hH o (List.mem_cons_self ..)) hg
  | nilCheck x =>
    replace h := evK_iff.mp h
    split at h
    · rename_i o ver i j hx
      replace h := arrK_ok h
      obtain ⟨sz, rows, h1, h2⟩ := h
      obtain ⟨row, h3, h4⟩ := rowF_ok h2
      refine ⟨_, h4, fun s' H' pl K hs hH hg => ?_⟩
      simp only [opK]
      rw [hs x (by simp [Op.operands]), hx]
      refine ⟨?_, hg⟩
      simp only [ptrCells, (hH o (List.mem_cons_self ..)).trans h1, if_true, h3, Option.isSome]
    · rename_i cs hx
      exact ⟨_, h, fun s' H' pl K hs hH hg => by simp only [opK]; rw [hs x (by simp [Op.operands]), hx]; exact hg⟩
    · rename_i f caps hx
      exact ⟨_, h, fun s' H' pl K hs hH hg => by simp only [opK]; rw [hs x (by simp [Op.operands]), hx]; exact hg⟩
    · exact h.elim
  | binOp op t x y u =>
    replace h := evK_iff.mp (evK_iff.mp h)
    obtain ⟨r, h1, h2⟩ := pnF_ok h
    refine ⟨_, h1, fun s' H' pl K hs hH hg => ?_⟩
    simp only [opK]
    rw [hs x (by simp [Op.operands]), hs y (by simp [Op.operands])]
    exact h2 H' pl K hH hg
  | unOp op t x =>
    replace h := evK_iff.mp h
    split at h <;> first
      | exact h.elim
      | (rename_i hx
         exact ⟨_, h, fun s' H' pl K hs hH hg => by simp only [opK]; rw [hs x (by simp [Op.operands]), hx]; exact hg⟩)
  | convert src dst x =>
    replace h := tyK_iff.mp h
    obtain ⟨ts, hts, h⟩ := h
    replace h := tyK_iff.mp h
    obtain ⟨td, htd, h⟩ := h
    replace h := evK_iff.mp h
    split at h
    · rename_i q k q' n h1 h2 h3
      have fin : ∀ r, X (.val (.int k (k.wrap n)) r) → ∃ r, X r ∧ Good T cf (.convert src dst x) s H r := fun r hr => ⟨_, hr, fun s' H' pl K hs hH hg => by
        simp only [opK, hts, htd]
        rw [hs x (by simp [Op.operands]), h3]
        simp only [h1, h2]
        exact ⟨⟨_, rfl⟩, hg⟩⟩
      split at h
      · split at h
        · obtain ⟨r, hr, h⟩ := h
          rw [hr] at h
          exact fin _ h
        · exact h.elim
      · obtain ⟨r, rfl, h⟩ := h
        exact fin _ h
    · rename_i sb h1 h2 h3
      refine ⟨_, h, fun s' H' pl K hs hH hg => ?_⟩
      simp only [opK, hts, htd]
      rw [hs x (by simp [Op.operands]), h3]
      simp only [h1, h2]
      exact ⟨trivial, hg⟩
    · rename_i e sb h1 h2 h3
      replace h := tyK_iff.mp h
      obtain ⟨te, hte, h⟩ := h
      split at h
      · rename_i h4
        refine ⟨_, h, fun s' H' pl K hs hH hg => ?_⟩
        simp only [opK, hts, htd]
        rw [hs x (by simp [Op.operands]), h3]
        simp only [h1, h2]
        exact ⟨trivial, ⟨te, hte, h4⟩, hg⟩
      · exact h.elim
    · rename_i e e' o ver i m h1 h2 h3
      replace h := boolK_iff.mp h
      obtain ⟨c1, h⟩ := h
      replace h := boolK_iff.mp h
      obtain ⟨c2, h⟩ := h
      replace h := tyK_iff.mp h
      obtain ⟨te, hte, h⟩ := h
      split at h
      · rename_i h4
        replace h := arrK_ok h
        obtain ⟨sz, rows, h5, h6, h7, h8⟩ := h
        split at h8
        · rename_i how
          refine ⟨_, h8, fun s' H' pl K hs hH hg => ?_⟩
          simp only [opK, hts, htd]
          rw [hs x (by simp [Op.operands]), h3]
          refine .inr ⟨o, ver, i, m, e, te, sz, rows, rfl, Nat.eq_of_beq_eq_true c1, h1, sliceOf_ok c2, hte, h4, h6, h7, (hH o (List.mem_cons_self ..)).trans h5, ?_⟩
          simp only [how]
          exact hg
        · rename_i how
          refine ⟨_, h8, fun s' H' pl K hs hH hg => ?_⟩
          simp only [opK, hts, htd]
          rw [hs x (by simp [Op.operands]), h3]
          refine .inr ⟨o, ver, i, m, e, te, sz, rows, rfl, Nat.eq_of_beq_eq_true c1, h1, sliceOf_ok c2, hte, h4, h6, h7, (hH o (List.mem_cons_self ..)).trans h5, ?_⟩
          simp only [how]
          exact hg
      · exact h.elim
    · rename_i e xs h1 h2 h3
      replace h := tyK_iff.mp h
      obtain ⟨te, hte, h⟩ := h
      split at h
      · rename_i h4
        obtain ⟨h5, h6⟩ := h
        refine ⟨_, h6, fun s' H' pl K hs hH hg => ?_⟩
        simp only [opK, hts, htd]
        rw [hs x (by simp [Op.operands]), h3]
        exact .inl ⟨h2, e, te, h1, hte, h4, xs, rfl, h5, hg⟩
      · exact h.elim
    · rename_i e h1 h2 h3
      replace h := tyK_iff.mp h
      obtain ⟨te, hte, h⟩ := h
      split at h
      · rename_i h4
        refine ⟨_, h, fun s' H' pl K hs hH hg => ?_⟩
        simp only [opK, hts, htd]
        rw [hs x (by simp [Op.operands]), h3]
        exact .inl ⟨h2, e, te, h1, hte, h4, [], rfl, rfl, hg⟩
      · exact h.elim
    · rename_i e o ver i n h1 h2 h3
      replace h := tyK_iff.mp h
      obtain ⟨te, hte, h⟩ := h
      split at h
      · rename_i h4
        replace h := arrK_ok h
        obtain ⟨sz, rows, h5, h6, h7⟩ := h
        refine ⟨_, h7, fun s' H' pl K hs hH hg => ?_⟩
        simp only [opK, hts, htd]
        rw [hs x (by simp [Op.operands]), h3]
        exact .inl ⟨h2, e, te, h1, hte, h4, _, by simp only [rowsOf, (hH o (List.mem_cons_self ..)).trans h5, if_true], h6, hg⟩
      · exact h.elim
    · exact h.elim
  | makeFunc fn first captured =>
    simp only [opF] at h
    split at h
    · rename_i f hf
      replace h := evsK_iff.mp h
      refine ⟨_, h, fun s' H' pl K hs hH hg => ?_⟩
      simp only [opK, hf]
      rw [args_eq (s' := s') (s := s) fun x hx => hs x (by simp [Op.operands]; right; simpa using hx)]
      exact hg
    · exact h.elim
  | makeMap t r =>
    replace h := tyK_iff.mp h
    obtain ⟨td, ht, h⟩ := h
    split at h
    · rename_i q e hk
      refine ⟨_, h, fun s' H' pl K hs hH hg => ?_⟩
      simp only [opK, ht]
      exact ⟨⟨q, e, hk⟩, hg⟩
    · exact h.elim
  | makeSlice t l c =>
    replace h := tyK_iff.mp h
    obtain ⟨td, ht, h⟩ := h
    split at h
    · rename_i e hk
      replace h := tyK_iff.mp h
      obtain ⟨te, hte, h⟩ := h
      replace h := boolK_iff.mp h
      obtain ⟨c1, h⟩ := h
      replace h := evK_iff.mp (evK_iff.mp h)
      split at h
      · rename_i n m hl hc
        obtain ⟨h1, h2, h3, h4, h5⟩ := h
        replace h5 := zK_iff.mp h5
        cases hown : cf.own with
        | true =>
          simp only [hown] at h5
          refine ⟨_, h5, fun s' H' pl K hs hH hg => ?_⟩
          simp only [opK, ht, hk]
          rw [hs l (by simp [Op.operands]), hs c (by simp [Op.operands]), hl, hc]
          simp only [hte, hown]
          exact ⟨h1, by simpa using c1, h2, h3, h4, hg⟩
        | false =>
          simp only [hown] at h5
          refine ⟨_, h5, fun s' H' pl K hs hH hg => ?_⟩
          simp only [opK, ht, hk]
          rw [hs l (by simp [Op.operands]), hs c (by simp [Op.operands]), hl, hc]
          simp only [hte, hown]
          exact ⟨h1, by simpa using c1, h2, h3, h4, hg⟩
      · exact h.elim
    · exact h.elim
  | slice t x lo hi mx =>
    simp only [opF] at h
    split at h
    · replace h := optK_iff.mp (optK_iff.mp (evK_iff.mp h))
      obtain ⟨d, rd, h1, h2⟩ := sliceF_ok h
      refine ⟨_, h1, fun s' H' pl K hs hH hg => ?_⟩
      simp only [opK]
      rw [hs x (by simp [Op.operands]), opt_eq (s' := s') (s := s) fun y hy => hs y (by simp [Op.operands]; right; left; exact hy),
        opt_eq (s' := s') (s := s) fun y hy => hs y (by simp [Op.operands]; right; right; exact hy)]
      exact h2 H' _ hH hg
    · exact h.elim
  | fieldAddr t x f =>
    replace h := tyK_iff.mp h
    obtain ⟨td, ht, h⟩ := h
    replace h := fieldF_ok h
    obtain ⟨fs, off, ft, hk, hf, h⟩ := h
    replace h := tyK_iff.mp h
    obtain ⟨tf, htf, h⟩ := h
    replace h := boolK_iff.mp h
    obtain ⟨c1, h⟩ := h
    replace h := evK_iff.mp h
    split at h
    · rename_i o ver i j hx
      replace h := arrK_ok h
      obtain ⟨sz, rows, h1, h2, h3, h4⟩ := h
      refine ⟨_, h4, fun s' H' pl K hs hH hg => ?_⟩
      simp only [opK, ht, hk, hf]
      rw [hs x (by simp [Op.operands]), hx]
      exact ⟨⟨tf, htf, by simpa using c1⟩, ⟨sz, rows, (hH o (List.mem_cons_self ..)).trans h1, h2, h3⟩, hg⟩
    · rename_i cs hx
      replace h := dropK_iff.mp h
      refine ⟨_, h, fun s' H' pl K hs hH hg => ?_⟩
      simp only [opK, ht, hk, hf]
      rw [hs x (by simp [Op.operands]), hx]
      exact ⟨⟨tf, htf, by simpa using c1⟩, hg⟩
    · exact h.elim
  | field t x f =>
    replace h := tyK_iff.mp h
    obtain ⟨td, ht, h⟩ := h
    replace h := fieldF_ok h
    obtain ⟨fs, off, ft, hk, hf, h⟩ := h
    replace h := evK_iff.mp h
    split at h
    · rename_i cs hx
      obtain ⟨d, h1, h2⟩ := partF_ok h
      refine ⟨_, h1, fun s' H' pl K hs hH hg => ?_⟩
      simp only [opK, ht, hk, hf]
      rw [hs x (by simp [Op.operands]), hx]
      exact h2 _ hg
    · exact h.elim
  | indexAddr t x ix =>
    replace h := tyK_iff.mp h
    obtain ⟨td, ht, h⟩ := h
    split at h
    · rename_i e hk
      replace h := tyK_iff.mp h
      obtain ⟨te, hte, h⟩ := h
      replace h := evK_iff.mp (evK_iff.mp h)
      split at h
      · rename_i q n xs hix hx
        obtain ⟨h1, row, h2, h3, h4⟩ := h
        replace h4 := listK_iff.mp h4
        refine ⟨_, h4, fun s' H' pl K hs hH hg => ?_⟩
        simp only [opK, ht, hk, hte]
        rw [hs x (by simp [Op.operands]), hs ix (by simp [Op.operands]), hx, hix]
        exact ⟨h1, row, h2, h3, hg⟩
      · rename_i q n o ver i m hix hx
        replace h := arrK_ok h
        obtain ⟨sz, rows, h1, h2, h3, h4, h5, h6⟩ := h
        refine ⟨_, h6, fun s' H' pl K hs hH hg => ?_⟩
        simp only [opK, ht, hk, hte]
        rw [hs x (by simp [Op.operands]), hs ix (by simp [Op.operands]), hx, hix]
        simp only [(hH o (List.mem_cons_self ..)).trans h1]
        exact ⟨h2, h3, trivial, h4, h5, hg⟩
      · exact h.elim
    · rename_i len e hk
      replace h := tyK_iff.mp h
      obtain ⟨te, hte, h⟩ := h
      replace h := evK_iff.mp (evK_iff.mp h)
      split at h
      · rename_i q n cs hix hx
        obtain ⟨h1, h2, h3⟩ := h
        replace h3 := dropK_iff.mp h3
        refine ⟨_, h3, fun s' H' pl K hs hH hg => ?_⟩
        simp only [opK, ht, hk, hte]
        rw [hs x (by simp [Op.operands]), hs ix (by simp [Op.operands]), hx, hix]
        exact ⟨h1, h2, hg⟩
      · rename_i q n o ver i j hix hx
        replace h := arrK_ok h
        obtain ⟨sz, rows, h1, h2, h3, h4, h5, h6⟩ := h
        refine ⟨_, h6, fun s' H' pl K hs hH hg => ?_⟩
        simp only [opK, ht, hk, hte]
        rw [hs x (by simp [Op.operands]), hs ix (by simp [Op.operands]), hx, hix]
        exact ⟨h2, h3, ⟨sz, rows, (hH o (List.mem_cons_self ..)).trans h1, h4, h5⟩, hg⟩
      · exact h.elim
    · exact h.elim
  | index t x ix =>
    replace h := tyK_iff.mp h
    obtain ⟨td, ht, h⟩ := h
    replace h := evK_iff.mp (evK_iff.mp h)
    split at h
    · rename_i sb q n hk hx hix
      obtain ⟨h1, b, h2, h3⟩ := h
      refine ⟨_, h3, fun s' H' pl K hs hH hg => ?_⟩
      simp only [opK, ht]
      rw [hs x (by simp [Op.operands]), hs ix (by simp [Op.operands]), hx, hix]
      simp only [hk]
      exact ⟨h1, b, h2, hg⟩
    · rename_i len e cs q n hk hx hix
      replace h := tyK_iff.mp h
      obtain ⟨te, hte, h1, h2, h⟩ := h
      obtain ⟨d, h3, h4⟩ := partI_ok h
      refine ⟨_, h3, fun s' H' pl K hs hH hg => ?_⟩
      simp only [opK, ht]
      rw [hs x (by simp [Op.operands]), hs ix (by simp [Op.operands]), hx, hix]
      simp only [hk, hte]
      exact ⟨h1, h2, h4 _ hg⟩
    · exact h.elim
  | lookup t m k ok =>
    replace h := tyK_iff.mp h
    obtain ⟨td, ht, h⟩ := h
    replace h := boolK_iff.mp h
    obtain ⟨c1, h⟩ := h
    obtain ⟨q, e0, tq, iq, k1, k2, k3⟩ := intMap_ok c1
    replace h := evK_iff.mp (evK_iff.mp h)
    split at h
    · rename_i o hm
      replace h := mapK_ok h
      obtain ⟨es, h1, h2, h⟩ := h
      split at h
      · rename_i q' e hk
        replace h := tyK_iff.mp h
        obtain ⟨te, hte, h3, h4⟩ := h
        cases hf : mapFind (ev s k) es with
        | some v =>
          refine ⟨_, h3 v hf, fun s' H' pl K hs hH hg => ?_⟩
          simp only [opK]
          rw [hs m (by simp [Op.operands]), hs k (by simp [Op.operands]), hm]
          simp only [(hH o (List.mem_cons_self ..)).trans h1, ht, hk, hte, hf]
          refine ⟨⟨td, q, e0, tq, iq, rfl, k1, k2, k3⟩, h2, hg⟩
        | none =>
          refine ⟨_, h4 hf, fun s' H' pl K hs hH hg => ?_⟩
          simp only [opK]
          rw [hs m (by simp [Op.operands]), hs k (by simp [Op.operands]), hm]
          simp only [(hH o (List.mem_cons_self ..)).trans h1, ht, hk, hte, hf]
          refine ⟨⟨td, q, e0, tq, iq, rfl, k1, k2, k3⟩, h2, hg⟩
      · exact h.elim
    · exact h.elim
  | mapUpdate t m k x =>
    replace h := tyK_iff.mp h
    obtain ⟨td, ht, h⟩ := h
    replace h := boolK_iff.mp h
    obtain ⟨c1, h⟩ := h
    obtain ⟨q, e0, tq, iq, k1, k2, k3⟩ := intMap_ok c1
    replace h := evK_iff.mp (evK_iff.mp (evK_iff.mp h))
    split at h
    · rename_i o hm
      replace h := mapK_ok h
      obtain ⟨es, h1, h2, h3⟩ := h
      refine ⟨_, h3, fun s' H' pl K hs hH hg => ?_⟩
      simp only [opK]
      rw [hs m (by simp [Op.operands]), hs k (by simp [Op.operands]), hs x (by simp [Op.operands]), hm]
      simp only [(hH o (List.mem_cons_self ..)).trans h1]
      exact ⟨⟨td, q, e0, tq, iq, ht, k1, k2, k3⟩, h2, hg⟩
    · exact h.elim
  | extract x ix =>
    replace h := evK_iff.mp h
    split at h
    · rename_i vs hx
      obtain ⟨c, h1, h2⟩ := cellF_ok h
      refine ⟨_, h2, fun s' H' pl K hs hH hg => ?_⟩
      simp only [opK]
      rw [hs x (by simp [Op.operands]), hx]
      simp only [h1]
      exact hg
    · exact h.elim
  | makeInterface t x =>
    replace h := tyK_iff.mp h
    obtain ⟨td, ht, h⟩ := h
    replace h := evK_iff.mp h
    have hne : td.k ≠ .other := fun e => by simp only [e] at h
    have h' : X (.val (.ifc t (ev s x)) []) := by
      split at h
      · exact h.elim
      · exact h
    refine ⟨_, h', fun s' H' pl K hs hH hg => ?_⟩
    simp only [opK]
    rw [hs x (by simp [Op.operands])]
    exact ⟨⟨td, ht, hne⟩, hg⟩
  | call c =>
    simp only [opF] at h
    split at h
    · rename_i b hb
      replace h := evsK_iff.mp h
      obtain ⟨r, h1, h2⟩ := biF_ok h
      refine ⟨r, h1, fun s' H' pl K hs hH hg => ?_⟩
      simp only [opK, hb]
      rw [args_eq (s' := s') (s := s) fun x hx => hs x (by simp [Op.operands, Call.operands, hb]; simpa using hx)]
      exact h2 H' pl K hH hg
    · exact h.elim
  | _ => exact h.elim

end

end Go.A
