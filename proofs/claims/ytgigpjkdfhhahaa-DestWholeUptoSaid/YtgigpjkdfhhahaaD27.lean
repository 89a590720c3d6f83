import Derived.Test.YtgigpjkdfhhahaaD26
import Derived.Test.YtgigpjkdfhhahaaRows
import Derived.Deep.SlicePairs
namespace Go.Proofs.Ytgigpjkdfhhahaa
open Go.A
set_option linter.unusedVariables false
set_option linter.unusedSimpArgs false
set_option linter.unnecessarySimpa false
attribute [local irreducible] IntKind.wrap bitsI
set_option maxRecDepth 100000
set_option maxHeartbeats 4000000

theorem bulk_one {H : Type} (d : DataW H) : 1 ≤ Rows.uptoBulk d := by
  cases d with
  | lit l => cases l <;> simp [Rows.uptoBulk]
  | nil => simp [Rows.uptoBulk]
  | ptr d => simp [Rows.uptoBulk]
  | slice elems spare => simp [Rows.uptoBulk]
  | agg parts => simp [Rows.uptoBulk]
  | iface t d => simp [Rows.uptoBulk]
  | map entries => simp [Rows.uptoBulk]
  | held h => simp [Rows.uptoBulk]
theorem bulk_part {H : Type} {d : DataW H} : ∀ {l : List (DataW H)}, d ∈ l → Rows.uptoBulk d ≤ Rows.uptoBulkAll l
  | [], h => by cases h
  | x :: r, h => by
    simp only [Rows.uptoBulkAll]
    rcases List.mem_cons.1 h with e | e
    · subst e; omega
    · have := bulk_part e; omega
theorem bulk_len {H : Type} : ∀ (l : List (DataW H)), l.length ≤ Rows.uptoBulkAll l
  | [] => Nat.zero_le _
  | x :: r => by
    have h1 := bulk_one x
    have h2 := bulk_len r
    simp only [Rows.uptoBulkAll, List.length_cons]; omega
theorem flat39 {x : List T38} {i : Nat} {y : T38} (h : x[i]? = some y) : (flat (x.map r39))[i * 2 + 1]? = some (d37 y.ops_) := by
  have h2 := flat_drop (xs := x.map r39) (sz := 2) (fun z hz => by
    obtain ⟨q, _, rfl⟩ := List.mem_map.mp hz
    rfl) i
  rw [← List.getElem?_drop, h2, ← List.map_drop, drop_of_get h]
  rfl
theorem sl_form {E : Env} {xs : List D} {v : Value} (h : VR E (.sl xs) v) : ∃ a len cap, v = .slice a len cap := by
  cases h with
  | sl0 a cap => exact ⟨_, _, _, rfl⟩
  | sl => exact ⟨_, _, _, rfl⟩
/-- How many ops a stream has is no more than the bulk of what was handed. -/
theorem streams_len {H : Type} {encH : TypeId × Value → H} {W : World} {base : Nat} {spare : Nat → Bool} {held : Bool} {v : Value} {d : DataW H} {ps : List MemPlace} {x : List T38} (c : VR ((C1 W).env [] [] W) (d25 x) v)
    (k : DataW.Trod encH Try.prog W base spare held 25 v d ps) : ∀ y ∈ x, y.ops_.length ≤ Rows.uptoBulk d := by
  intro y hy
  obtain ⟨i, hi⟩ := List.getElem?_of_mem hy
  have hix := (List.getElem?_eq_some_iff.mp hi).1
  obtain ⟨fuel, hf⟩ := k
  have c' : VR ((C1 W).env [] [] W) (.sl (x.map r39)) v := c
  obtain ⟨a0, len0, cap0, rfl⟩ := sl_form c'
  rcases Deep.open_slice_pairs Try.underlying25 Try.underlying39 td39_ok.cellsOf rfl rfl td3_ok.cellsOf td37_ok.cellsOf hf with ⟨h1, _⟩ | ⟨a, len, cap, m, n, V0, V1, D0, D1, P0, P1, h1, _, _, _, hm, hx, hel⟩
  · have : (Value.slice a0 len0 cap0) = .slice none 0 0 := by simpa [Value.cells] using h1
    cases this
    have := VR.sl_len c'
    rw [List.length_map] at this
    omega
  · have : (Value.slice a0 len0 cap0) = .slice (some a) len cap := by simpa [Value.cells] using h1
    cases this
    cases hx
    have hlen := VR.sl_len c'
    rw [List.length_map] at hlen
    have him : i < m := by rw [hm]; split <;> omega
    obtain ⟨_, g1, _, g2⟩ := hel i him
    generalize hL : x.map r39 = L at c'
    cases c' with
    | sl0 =>
      have := congrArg List.length hL
      rw [List.length_map] at this
      simp at this
      rw [this] at hix
      simp at hix
    | sl q1 q2 q3 q4 q5 q6 q7 =>
      subst hL
      obtain ⟨v', r1, r2⟩ := q7.get _ _ (flat39 hi)
      obtain ⟨sp, cc, e, fz, hb, hrd⟩ := q6
      have r3 := hrd _ _ r1
      have hb' : W.heap[a.block]? = some (Obj.cells cc e fz) := hb
      have r4 : cc[a.off + (i * 2 + 1)]? = some (V1 i) := by
        obtain ⟨_, c2, e2, f2, hb2, hr2⟩ := cell_some g1
        rw [show a.add (i * 2 + 1) = { a with off := a.off + (i * 2 + 1), spot := none } from if_neg (by omega)] at hb2 hr2
        dsimp only at hb2 hr2
        rw [hb'] at hb2
        cases hb2
        exact hr2
      rw [r3] at r4
      obtain rfl := Option.some.inj r4
      obtain ⟨a1, len1, cap1, hv1⟩ := sl_form (show VR _ (.sl (y.ops_.map r91)) (V1 i) from r2)
      rw [hv1] at r2 g2
      have h5 := VR.sl_len (show VR _ (.sl (y.ops_.map r91)) (.slice a1 len1 cap1) from r2)
      rw [List.length_map] at h5
      have h6 := trod_len (P := Try.prog) (enc := encH) (W := W) (base := base) (spare := spare) (held := held) (t := 37) Try.underlying37 ⟨n, g2⟩
      have h7 : y.ops_.length ≤ Rows.uptoBulk (D1 i) := by
        rcases h6 with h6 | ⟨el, sp', h6, h8⟩
        · omega
        · have := bulk_len el
          rw [h6]
          simp only [Rows.uptoBulk]
          omega
      have h9 : Rows.uptoBulk (D1 i) ≤ Rows.uptoBulk (.agg [D0 i, D1 i]) := by
        simp only [Rows.uptoBulk, Rows.uptoBulkAll]
        omega
      have h10 := bulk_part (d := .agg [D0 i, D1 i]) (l := (List.range (x.map r39).length).map fun i => .agg [D0 i, D1 i]) (List.mem_map.mpr ⟨i, List.mem_range.mpr (by rw [List.length_map]; exact hix), rfl⟩)
      have h11 : Rows.uptoBulkAll ((List.range (x.map r39).length).map fun i => DataW.agg [D0 i, D1 i]) ≤ Rows.uptoBulk (.slice ((List.range (x.map r39).length).map fun i => .agg [D0 i, D1 i]) ((List.range (m - (x.map r39).length)).map fun j => .agg [D0 ((x.map r39).length + j), D1 ((x.map r39).length + j)])) := by
        simp only [Rows.uptoBulk]
        omega
      omega

end Go.Proofs.Ytgigpjkdfhhahaa

