import Derived.Test.YtlfbchkcgchoaaaC14
namespace Go.Proofs.Ytlfbchkcgchoaaa.C
open Go.A
set_option linter.unusedVariables false
set_option linter.unusedSimpArgs false
set_option linter.unnecessarySimpa false
attribute [local irreducible] IntKind.wrap bitsI
open B
set_option maxRecDepth 100000
set_option maxHeartbeats 4000000

theorem ok24_big {h : List Dn} (h0 : ok24 h) : bigH h ∧ h.length * 64 ≤ 140737488351232 := ⟨fun d hd => by
  have h1 : d.op_.data_.length * 8 ≤ 140737488351232 := ((h0.1 d hd).1.2.2.2).2
  omega, h0.2⟩
def metD (h : List Dn) (x : Nat) : Prop := x = 0 ∨ ∃ d ∈ h, x ∈ d.op_.data_
theorem ord_met {h : List Dn} {n : Nat} (ha : allD n h) {S : Mk} {v : List Nat} (o : Ord h n S v) : ∀ j, metD h (at0 v j) := by
  induction o with
  | nil => intro j; rw [zer_at]; exact .inl rfl
  | @snoc S0 x0 i d o hd _ _ ih =>
    intro j
    have hm := List.mem_of_getElem? hd
    have hok := (ha d hm).1
    rw [(do_at (by rw [o.len ha]; exact hok)).2 j]
    cases hv : val d.op_ j with
    | none => exact ih j
    | some y =>
      show metD h y
      unfold val at hv
      split at hv
      · cases hv
        unfold at0
        cases hg : (dat d.op_)[j - d.op_.off_.toNat]? with
        | none => exact .inl rfl
        | some z =>
          have hz := List.mem_of_getElem? hg
          unfold dat at hz
          split at hz
          · exact .inl (List.mem_replicate.mp hz).2
          · exact .inr ⟨d, hm, hz⟩
      · cases hv
theorem not_met {v : List Nat} {h : List Dn} (a b : Int) {j : Nat} (hj : ¬ metD h (at0 v j)) : (isM v a b h).1 = false := by
  unfold isM
  split
  · rfl
  · split
    · rename_i hr
      exact decide_eq_false fun ⟨S, o, _⟩ => hj (ord_met (rightC_ok hr).2 o j)
    · rfl

theorem cutNone_true (v : List Nat) (s : T22) (h : List Dn) (h0 : ok34 v) (h1 : ok23 s) (h2 : ok24 h) : Go.A.CallsIn Try.prog 7 [d34 v, d23 s, d24 h] [] fun r _ => r = .bool true := by
  obtain ⟨hbig, hl64⟩ := ok24_big h2
  have hvl : v.length * 8 ≤ 140737488351232 := h0.2
  refine Go.A.CallsIn.of_exec tab_ok mixed Try.func7 rfl rfl [] [] ?_
  repeat' ((conv => whnf); first
    | refine Exists.intro _ (And.intro (⟨(List.length_map _).symm⟩) ?_))
  all_goals (conv => whnf)
  refine W_loopG (ι := Nat) (fun i => ⟨(d34 v :: D.undef :: d24 h :: D.undef :: .pe (c23 s) :: D.undef :: D.undef :: D.undef :: D.undef :: D.undef :: D.undef :: D.undef :: D.undef :: D.undef :: D.undef :: D.undef :: d34 v :: .int .i64 (v.length : Int) :: .int .i64 (i : Int) :: D.undef :: D.undef :: D.undef :: D.undef :: D.undef :: D.undef :: D.undef :: D.undef :: D.undef :: D.undef :: D.undef :: D.undef :: D.undef :: D.undef :: D.undef :: D.undef :: D.undef :: D.undef :: D.undef :: D.undef :: D.undef :: D.undef :: D.undef :: D.undef :: D.undef :: D.undef :: D.undef :: D.undef :: D.undef :: D.undef :: D.undef :: D.undef :: D.undef :: D.undef :: D.undef :: D.undef :: D.undef :: D.undef :: D.undef :: D.undef :: D.undef :: D.undef :: D.undef :: D.undef :: D.undef :: D.undef :: D.undef :: D.undef :: D.undef :: D.undef :: D.undef :: []), []⟩) (fun i => v.length - i)
    (fun i => i ≤ v.length) 0 (Ghost.hold [0, 2, 4, 16, 17, 18] rfl) (Nat.zero_le _) ?_
  rintro i i1
  rcases Nat.lt_or_ge i v.length with hi | hi
  · have hx := at0_get hi
    obtain ⟨p, hp⟩ : ∃ p, p = at0 v i := ⟨_, rfl⟩
    rw [← hp] at hx
    refine exec_ok tab_ok mixed 1000 (bx := []) (own := []) ?_
    repeat' ((conv => whnf); first
      | refine Exists.intro _ (And.intro (map_at (by omega) hx) ?_) | refine And.intro rfl ?_ | refine And.intro (by omega) ?_ | refine Exists.intro _ (And.intro (⟨(List.length_map _).symm⟩) ?_) | refine boolF_dect (by omega) ?_)
    all_goals (conv => whnf)
    refine W_loopG (ι := Nat × Bool) (fun e => ⟨(d34 v :: D.undef :: d24 h :: D.undef :: .pe (c23 s) :: D.undef :: D.undef :: .int .i64 (i : Int) :: .int .u64 (p : Int) :: .bool e.2 :: D.undef :: D.undef :: D.undef :: D.undef :: D.undef :: D.undef :: d34 v :: .int .i64 (v.length : Int) :: .int .i64 (i : Int) :: D.undef :: D.undef :: D.undef :: D.undef :: D.undef :: D.undef :: d24 h :: .int .i64 (h.length : Int) :: .int .i64 (e.1 : Int) :: D.undef :: D.undef :: D.undef :: D.undef :: D.undef :: D.undef :: D.undef :: D.undef :: D.undef :: D.undef :: D.undef :: D.undef :: D.undef :: D.undef :: D.undef :: D.undef :: D.undef :: D.undef :: D.undef :: D.undef :: D.undef :: D.undef :: D.undef :: D.undef :: D.undef :: D.undef :: D.undef :: D.undef :: D.undef :: D.undef :: D.undef :: D.undef :: D.undef :: D.undef :: D.undef :: D.undef :: D.undef :: D.undef :: D.undef :: D.undef :: D.undef :: D.undef :: []), []⟩) (fun e => h.length - e.1)
      (fun e => e.1 ≤ h.length ∧ (e.2 = true ↔ metD (h.take e.1) p)) (0, p == 0) (Ghost.hold [0, 2, 4, 7, 8, 9, 16, 17, 18, 25, 26, 27] rfl) ⟨Nat.zero_le _, by simp [metD]⟩ ?_
    rintro ⟨k, b⟩ ⟨k1, k2⟩
    dsimp only at k1 k2 ⊢
    rcases Nat.lt_or_ge k h.length with hk | hk
    · obtain ⟨y, hy⟩ := at_lt hk
      have hyd := hbig y (List.mem_of_getElem? hy)
      refine exec_ok tab_ok mixed 1000 (bx := []) (own := []) ?_
      repeat' ((conv => whnf); first
        | refine Exists.intro _ (And.intro (map_at (by omega) hy) ?_) | refine And.intro (by decide) ?_ | refine And.intro rfl ?_ | refine And.intro (Nat.le_of_ble_eq_true rfl) ?_ | refine And.intro (by omega) ?_ | refine Exists.intro _ (And.intro (⟨(List.length_map _).symm⟩) ?_) | refine boolF_dect (by omega) ?_)
      all_goals (conv => whnf)
      refine W_loopG (ι := Nat × Bool) (fun e => ⟨(d34 v :: D.undef :: d24 h :: D.undef :: .pe (c23 s) :: D.undef :: D.undef :: .int .i64 (i : Int) :: .int .u64 (p : Int) :: .bool e.2 :: D.undef :: D.undef :: D.undef :: D.undef :: D.undef :: D.undef :: d34 v :: .int .i64 (v.length : Int) :: .int .i64 (i : Int) :: D.undef :: D.undef :: D.undef :: D.undef :: D.undef :: D.undef :: d24 h :: .int .i64 (h.length : Int) :: .int .i64 (k : Int) :: D.undef :: D.undef :: D.undef :: D.undef :: D.undef :: d34 y.op_.data_ :: .int .i64 (y.op_.data_.length : Int) :: .int .i64 (e.1 : Int) :: D.undef :: D.undef :: D.undef :: D.undef :: D.undef :: D.undef :: D.undef :: D.undef :: D.undef :: D.undef :: D.undef :: D.undef :: D.undef :: D.undef :: D.undef :: D.undef :: D.undef :: D.undef :: D.undef :: D.undef :: D.undef :: D.undef :: D.undef :: D.undef :: D.undef :: D.undef :: D.undef :: D.undef :: D.undef :: D.undef :: D.undef :: D.undef :: D.undef :: D.undef :: []), []⟩) (fun e => y.op_.data_.length - e.1)
        (fun e => e.1 ≤ y.op_.data_.length ∧ (e.2 = true ↔ metD (h.take k) p ∨ p ∈ y.op_.data_.take e.1)) (0, b) (Ghost.back [0, 2, 4, 7, 8, 9, 16, 17, 18, 25, 26, 27, 33, 34, 35] 0 rfl rfl (Nat.zero_le _) (by simp [scs, D.sc, scd24, scd34, c23, c3, d3]) (fun _ h => by cases h)) ⟨Nat.zero_le _, by rw [k2]; simp⟩ ?_
      rintro ⟨e, b'⟩ ⟨e1, e2⟩
      dsimp only at e1 e2 ⊢
      refine exec_ok tab_ok mixed 1000 (bx := []) (own := []) ?_
      rcases Nat.lt_or_ge e y.op_.data_.length with he | he
      · have hz := at0_get he
        obtain ⟨q, hq⟩ : ∃ q, q = at0 y.op_.data_ e := ⟨_, rfl⟩
        rw [← hq] at hz
        have next : ∀ b'', (b'' = true ↔ b' = true ∨ p = q) → (b'' = true ↔ metD (h.take k) p ∨ p ∈ y.op_.data_.take (e + 1)) := fun b'' hb => by
          rw [hb, e2, take_snoc hz, List.mem_append, List.mem_singleton, or_assoc]
        cases b' with
        | true =>
          repeat' ((conv => whnf); first
            | refine Exists.intro _ (And.intro (map_at (by omega) hz) ?_) | refine And.intro rfl ?_ | refine And.intro (by omega) ?_ | refine Exists.intro _ (And.intro (w64 (by omega) (by omega)) ?_) | refine boolF_dect (by omega) ?_)
          all_goals (conv => whnf)
          exact ⟨(e + 1, true), Ghost.hold [0, 2, 4, 7, 8, 9, 16, 17, 18, 25, 26, 27, 33, 34, 35] rfl, ⟨he, next _ (by simp)⟩, by dsimp only; omega⟩
        | false =>
          repeat' ((conv => whnf); first
            | refine Exists.intro _ (And.intro (map_at (by omega) hz) ?_) | refine And.intro rfl ?_ | refine And.intro (by omega) ?_ | refine Exists.intro _ (And.intro (w64 (by omega) (by omega)) ?_) | refine boolF_dect (by omega) ?_)
          all_goals (conv => whnf)
          exact ⟨(e + 1, p == q), Ghost.hold [0, 2, 4, 7, 8, 9, 16, 17, 18, 25, 26, 27, 33, 34, 35] rfl, ⟨he, next _ (by simp)⟩, by dsimp only; omega⟩
      · repeat' ((conv => whnf); first
          | refine Exists.intro _ (And.intro (w64 (by omega) (by omega)) ?_) | refine boolF_decf (by omega) ?_)
        all_goals (conv => whnf)
        exact ⟨(k + 1, b'), Ghost.hold [0, 2, 4, 7, 8, 9, 16, 17, 18, 25, 26, 27] rfl, ⟨hk, by
          dsimp only
          rw [e2, List.take_of_length_le he, take_snoc hy]
          simp only [metD, List.mem_append, List.mem_singleton]
          constructor
          · rintro ((h1 | ⟨d, hd, h2⟩) | h1)
            · exact .inl h1
            · exact .inr ⟨d, .inl hd, h2⟩
            · exact .inr ⟨y, .inr rfl, h1⟩
          · rintro (h1 | ⟨d, hd | rfl, h2⟩)
            · exact .inl (.inl h1)
            · exact .inl (.inr ⟨d, hd, h2⟩)
            · exact .inr h2⟩, by dsimp only; omega⟩
    · rw [List.take_of_length_le hk] at k2
      refine exec_ok tab_ok mixed 1000 (bx := []) (own := []) ?_
      cases b with
      | true =>
        repeat' ((conv => whnf); first
          | refine Exists.intro _ (And.intro (w64 (by omega) (by omega)) ?_) | refine boolF_decf (by omega) ?_)
        all_goals (conv => whnf)
        exact ⟨i + 1, Ghost.hold [0, 2, 4, 16, 17, 18] rfl, hi, by omega⟩
      | false =>
        by_cases h100 : 100 < i
        · repeat' ((conv => whnf); first
            | refine Exists.intro _ (And.intro (w64 (by omega) (by omega)) ?_) | refine boolF_dect (by omega) ?_ | refine boolF_decf (by omega) ?_)
          all_goals (conv => whnf)
          exact ⟨i + 1, Ghost.hold [0, 2, 4, 16, 17, 18] rfl, hi, by omega⟩
        · have h15 := f15_ok v s.from_ s.to_ h (by omega) (by omega) hbig
          have hno := not_met (v := v) (h := h) s.from_ s.to_ (j := i) (fun hm => by rw [← hp] at hm; have := k2.mpr hm; cases this)
          rw [isD, hno] at h15
          have h10 := f10_ok h (by omega)
          repeat' ((conv => whnf); first
            | refine PairK.mk (by kernel_rfl) ?_ | refine Pure.locK (h15) ?_ | refine Pure.locK (h10) ?_ | refine Pure.call (f13_ok) ?_ | refine boolF_decf (by omega) ?_)
          all_goals (conv => whnf)
          exact ⟨rfl⟩
  · refine exec_ok tab_ok mixed 1000 (bx := []) (own := []) ?_
    repeat' ((conv => whnf); first
      | refine Pure.call (f13_ok) ?_ | refine boolF_decf (by omega) ?_)
    all_goals (conv => whnf)
    exact ⟨rfl⟩

end Go.Proofs.Ytlfbchkcgchoaaa.C

