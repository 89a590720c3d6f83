import Derived.Test.YtlfbchkcgchoaaaC16
namespace Go.Proofs.Ytlfbchkcgchoaaa.C
open Go.A
set_option linter.unusedVariables false
set_option linter.unusedSimpArgs false
set_option linter.unnecessarySimpa false
attribute [local irreducible] IntKind.wrap bitsI
open B
set_option maxRecDepth 100000
set_option maxHeartbeats 4000000

theorem wider {h : List Dn} {n : Nat} {a b a' b' : Int} (ha : a' ≤ a) (hb : b ≤ b') {v : List Nat} (hc : Cut h n a b v) : Cut h n a' b' v := by
  obtain ⟨S, o, hm⟩ := hc
  refine ⟨S, o, fun i d hd => ⟨fun hS => ?_, fun hS => ?_⟩⟩
  · have := ((hm i d hd).1 hS)
    exact ⟨by omega, this.2⟩
  · have := ((hm i d hd).2 hS)
    omega

theorem cuts_len {h : List Dn} (hn : h.length ≤ 6) (n : Nat) (a b : Int) : (cutsL h n a b).length ≤ 52706752 := by
  have hs : ((rawL h n a b (2 ^ h.length)).mergeSort fun x y => !decide (cmpL y x < 0)).Pairwise leL := by
    have := List.pairwise_mergeSort (le := fun x y => !decide (cmpL y x < 0)) (fun x y z h1 h2 => by
      simp only [Bool.not_eq_true', decide_eq_false_iff_not] at h1 h2 ⊢
      exact cmpL_ntrans h2 h1) (fun x y => by
      simp only [Bool.or_eq_true, Bool.not_eq_true', decide_eq_false_iff_not]
      have := cmpL_anti x y
      omega) (rawL h n a b (2 ^ h.length))
    exact this.imp fun h1 => by simpa [leL] using h1
  obtain ⟨h1, h2⟩ := cpt_asc hs
  rw [show cutsL h n a b = cpt _ from asc_uniq (cuts_asc _ _ _ _) h1 fun x => by rw [mem_cuts, h2, List.mem_mergeSort, raw_cut]]
  have h3 := cpL_le ((rawL h n a b (2 ^ h.length)).mergeSort fun x y => !decide (cmpL y x < 0)) ((rawL h n a b (2 ^ h.length)).mergeSort fun x y => !decide (cmpL y x < 0)).length
  rw [List.length_mergeSort] at h3
  have h4 := raw_len hn n a b (2 ^ h.length)
  have h5 : 2 ^ h.length ≤ 64 := Nat.pow_le_pow_right (n := 2) (by omega) hn
  have h6 : 2 ^ h.length * 823543 ≤ 64 * 823543 := Nat.mul_le_mul_right _ h5
  show (cpL _ _).length ≤ _
  rw [List.length_mergeSort]
  omega

theorem cutWider_true (n : Nat) (s : T48) (h : List Dn) (h0 : ok5 n) (h1 : ok48 s) (h2 : ok24 h) : Go.A.CallsIn Try.prog 5 [d5 n, d48 s, d24 h] [] fun r _ => r = .bool true := by
  obtain ⟨hbig, hl64⟩ := ok24_big h2
  have hn : n < 256 := h0
  have h10 := f10_ok h (by omega)
  obtain ⟨k, hk⟩ : ∃ k : Nat, k = n % 40 + 1 := ⟨_, rfl⟩
  have hkI : ((n % 40 : Nat) : Int) + 1 = (k : Int) := by omega
  have hk40 : 1 ≤ k ∧ k ≤ 40 := by omega
  refine Go.A.CallsIn.of_execN 6 tab_ok mixed Try.func5 rfl rfl [] [] ?_
  repeat' ((conv => whnf); first
    | refine PairK.mk (by kernel_rfl) ?_ | refine And.intro (by decide) ?_ | refine Exists.intro _ (And.intro (w64 (by omega) (by omega)) ?_))
  all_goals (conv => whnf)
  rw [hkI]
  refine W_ghost (s' := (D.undef :: D.undef :: d24 h :: D.undef :: D.undef :: D.undef :: D.undef :: .p 0 1 0 0 :: .p 1 1 0 0 :: .int .i64 (k : Int) :: D.undef :: D.undef :: D.undef :: D.undef :: D.undef :: D.undef :: D.undef :: D.undef :: D.undef :: D.undef :: D.undef :: D.undef :: D.undef :: D.undef :: D.undef :: D.undef :: D.undef :: D.undef :: D.undef :: D.undef :: D.undef :: D.undef :: D.undef :: D.undef :: D.undef :: D.undef :: D.undef :: D.undef :: D.undef :: D.undef :: D.undef :: D.undef :: D.undef :: D.undef :: D.undef :: D.undef :: D.undef :: D.undef :: D.undef :: D.undef :: D.undef :: D.undef :: D.undef :: D.undef :: D.undef :: D.undef :: D.undef :: D.undef :: D.undef :: D.undef :: D.undef :: D.undef :: D.undef :: D.undef :: D.undef :: D.undef :: D.undef :: D.undef :: D.undef :: D.undef :: D.undef :: D.undef :: D.undef :: D.undef :: D.undef :: D.undef :: D.undef :: D.undef :: D.undef :: D.undef :: [])) (H' := [.arr 1 2 [d23 s.a0_], .arr 1 2 [d23 s.a1_]]) (Ghost.hold [2, 7, 8, 9] rfl) ?_
  have h9 := f9_ok (k : Int) (max s.a0_.from_ s.a1_.from_) (min s.a0_.to_ s.a1_.to_) h (by omega) hbig
  refine exec_ok tab_ok mixed 1000 (bx := [true, true]) (own := []) ?_
  by_cases hr : rightC (k : Int) h = 0
  · rw [allR, allM, if_neg (by omega), if_pos hr, Int.toNat_natCast] at h9
    dsimp only at h9
    repeat' ((conv => whnf); first
      | refine PairK.mk (by kernel_rfl) ?_ | refine And.intro (by decide) ?_ | refine And.intro (Nat.le_of_ble_eq_true rfl) ?_ | refine Exists.intro _ (And.intro (⟨(List.length_map _).symm⟩) ?_) | refine Exists.intro _ (And.intro (imin) ?_) | refine Exists.intro _ (And.intro (imax) ?_) | refine Pure.locK (h10) ?_ | refine Pure.locK (h9) ?_)
    all_goals (conv => whnf)
    obtain ⟨l, hl⟩ : ∃ l, l = cutsL h k (max s.a0_.from_ s.a1_.from_) (min s.a0_.to_ s.a1_.to_) := ⟨_, rfl⟩
    rw [← hl]
    have hll : l.length ≤ 52706752 := by rw [hl]; exact cuts_len (rightC_ok hr).1 _ _ _
    refine W_loopG (ι := Nat) (fun i => ⟨(D.undef :: D.undef :: d24 h :: D.undef :: D.undef :: D.undef :: D.undef :: .p 0 1 0 0 :: .p 1 1 0 0 :: D.undef :: D.undef :: D.undef :: D.undef :: D.undef :: D.undef :: D.undef :: D.undef :: D.undef :: D.undef :: D.undef :: D.undef :: D.undef :: D.undef :: D.undef :: D.undef :: D.undef :: D.undef :: D.undef :: D.undef :: D.undef :: D.undef :: D.undef :: D.undef :: D.undef :: D.undef :: D.undef :: D.undef :: D.undef :: D.undef :: D.undef :: D.undef :: D.undef :: D.undef :: D.undef :: D.undef :: D.undef :: D.undef :: D.undef :: D.undef :: d25 l :: .int .i64 (l.length : Int) :: .int .i64 (i : Int) :: D.undef :: D.undef :: D.undef :: D.undef :: D.undef :: D.undef :: D.undef :: D.undef :: D.undef :: D.undef :: D.undef :: D.undef :: D.undef :: D.undef :: D.undef :: D.undef :: D.undef :: D.undef :: D.undef :: D.undef :: D.undef :: D.undef :: D.undef :: D.undef :: D.undef :: D.undef :: D.undef :: D.undef :: []), [.arr 1 2 [d23 s.a0_], .arr 1 2 [d23 s.a1_]]⟩) (fun i => l.length - i) (fun i => i ≤ l.length) 0 (Ghost.hold [2, 7, 8, 49, 50, 51] rfl) (Nat.zero_le _) ?_
    rintro i i1
    refine exec_ok tab_ok mixed 1000 (bx := [true, true]) (own := []) ?_
    rcases Nat.lt_or_ge i l.length with hi | hi
    · obtain ⟨x, hx⟩ := at_lt hi
      have hcx := mem_cuts.mp (hl ▸ List.mem_of_getElem? hx)
      obtain ⟨S, hS, _⟩ := id hcx
      have hxl : x.length = k := hS.len (rightC_ok hr).2
      have h15 := f15_ok x (min s.a0_.from_ s.a1_.from_) (max s.a0_.to_ s.a1_.to_) h (by omega) (by omega) hbig
      rw [isD, isM, if_neg (by omega), hxl, if_pos hr, decide_eq_true (wider (by omega) (by omega) hcx)] at h15
      repeat' ((conv => whnf); first
        | refine PairK.mk (by kernel_rfl) ?_ | refine Exists.intro _ (And.intro (map_at (by omega) hx) ?_) | refine And.intro (by decide) ?_ | refine And.intro rfl ?_ | refine And.intro (Nat.le_of_ble_eq_true rfl) ?_ | refine And.intro (by omega) ?_ | refine Exists.intro _ (And.intro (w64 (by omega) (by omega)) ?_) | refine Exists.intro _ (And.intro (imin) ?_) | refine Exists.intro _ (And.intro (imax) ?_) | refine Pure.locK (h10) ?_ | refine Pure.locK (h15) ?_ | refine boolF_dect (by omega) ?_)
      all_goals (conv => whnf)
      exact ⟨i + 1, Ghost.hold [2, 7, 8, 49, 50, 51] rfl, hi, by omega⟩
    · repeat' ((conv => whnf); first
        | refine Pure.call (f13_ok) ?_ | refine boolF_decf (by omega) ?_)
      all_goals (conv => whnf)
      exact ⟨rfl⟩
  · rw [allR, allM, if_neg (by omega), if_neg hr] at h9
    dsimp only at h9
    repeat' ((conv => whnf); first
      | refine PairK.mk (by kernel_rfl) ?_ | refine And.intro (by decide) ?_ | refine And.intro (Nat.le_of_ble_eq_true rfl) ?_ | refine Exists.intro _ (And.intro (⟨(List.length_map _).symm⟩) ?_) | refine Exists.intro _ (And.intro (imin) ?_) | refine Exists.intro _ (And.intro (imax) ?_) | refine Pure.locK (h10) ?_ | refine Pure.locK (h9) ?_ | refine Pure.call (f13_ok) ?_ | refine boolF_not ?_ | refine boolF_decf (by assumption) ?_)
    all_goals (conv => whnf)
    exact ⟨rfl⟩

end Go.Proofs.Ytlfbchkcgchoaaa.C

