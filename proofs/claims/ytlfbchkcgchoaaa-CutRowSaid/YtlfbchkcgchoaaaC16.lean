import Derived.Test.YtlfbchkcgchoaaaC15
namespace Go.Proofs.Ytlfbchkcgchoaaa.C
open Go.A
set_option linter.unusedVariables false
set_option linter.unusedSimpArgs false
set_option linter.unnecessarySimpa false
attribute [local irreducible] IntKind.wrap bitsI
open B
set_option maxRecDepth 100000
set_option maxHeartbeats 4000000

theorem none_cut {h : List Dn} {n : Nat} (ha : allD n h) {v : List Nat} : Cut h n 0 (-1) v ↔ v = zer n := by
  constructor
  · rintro ⟨S, o, hm⟩
    cases o with
    | nil => rfl
    | @snoc S0 x0 i d o hd _ _ =>
      have h1 := ((hm i d hd).1 ((Mk.with_at _ _ _).mpr (.inl rfl))).1
      have h2 := (ha d (List.mem_of_getElem? hd)).2.1
      omega
  · rintro rfl
    exact ⟨emp, .nil, fun i d hd => ⟨fun h => absurd h (emp_at i), fun _ h => by omega⟩⟩
theorem none_cuts {h : List Dn} {n : Nat} (ha : allD n h) : cutsL h n 0 (-1) = [zer n] := asc_uniq (cuts_asc _ _ _ _) (by simp) fun x => by rw [mem_cuts, none_cut ha]; simp

theorem cutNothing_true (n : Nat) (h : List Dn) (h0 : ok5 n) (h1 : ok24 h) : Go.A.CallsIn Try.prog 8 [d5 n, d24 h] [] fun r _ => r = .bool true := by
  obtain ⟨hbig, hl64⟩ := ok24_big h1
  have hn : n < 256 := h0
  have h10 := f10_ok h (by omega)
  obtain ⟨k, hk⟩ : ∃ k : Nat, k = n % 40 + 1 := ⟨_, rfl⟩
  have hkI : ((n % 40 : Nat) : Int) + 1 = (k : Int) := by omega
  have hk40 : 1 ≤ k ∧ k ≤ 40 := by omega
  have h9 := f9_ok (k : Int) 0 (-1) h (by omega) hbig
  have h19 := f19_ok (k : Int) h (by omega) hbig
  refine Go.A.CallsIn.of_execN 4 tab_ok mixed Try.func8 rfl rfl [] [] ?_
  repeat' ((conv => whnf); first
    | refine And.intro (by decide) ?_ | refine Exists.intro _ (And.intro (w64 (by omega) (by omega)) ?_))
  all_goals (conv => whnf)
  rw [hkI]
  refine exec_ok tab_ok mixed 1000 (bx := []) (own := []) ?_
  by_cases hr : rightC (k : Int) h = 0
  · rw [allR, allM, if_neg (by omega), if_pos hr, Int.toNat_natCast, none_cuts (rightC_ok hr).2] at h9
    have h15 := f15_ok (zer k) 0 (-1) h (by rw [zer_len]; omega) (by omega) hbig
    rw [isD, isM, if_neg (by rw [zer_len]; omega), zer_len, if_pos hr, decide_eq_true ((none_cut (rightC_ok hr).2).mpr rfl)] at h15
    have h12 := f12_ok (zer k) (zer k) (by rw [zer_len]; omega) (by rw [zer_len]; omega)
    rw [decide_eq_true (rfl : zer k = zer k)] at h12
    have hz : List.replicate k (D.int .u64 0) = (zer k).map r53 := by rw [zer, List.map_replicate]; rfl
    have hzl : (zer k).length = k := zer_len k
    repeat' ((conv => whnf); first
      | refine PairK.mk (by kernel_rfl) ?_ | refine And.intro (show ((8 : Nat) : Int) * (k : Int) ≤ 281474976710656 by omega) ?_ | refine Pure.seeL h15 [(0, .arr 1 1 ((zer k).map r53))] (fact1 (by rw [← hz]; rfl)) (fun n => .cons (.h List.mem_cons_self (.all (scr53 _ _)) (all_take hzl.symm)) (.cons (.same trivial) (.cons (.same trivial) (.cons (.same (scd24 _ _)) .nil)))) ⟨trivial, trivial, trivial⟩ ⟨trivial, trivial, trivial⟩ ?_
      | refine Pure.seeL h12 [(1, .arr 1 1 ((zer k).map r53))] (fact1 (by rw [← hz]; rfl)) (fun n => .cons (.same (scd34 _ _)) (.cons (.h List.mem_cons_self (.all (scr53 _ _)) (all_take hzl.symm)) .nil)) trivial trivial ?_ | refine And.intro (by decide) ?_ | refine And.intro rfl ?_ | refine And.intro (by omega) ?_ | refine Exists.intro _ (And.intro (Eq.refl (α := Option D) _) ?_) | refine Exists.intro _ (And.intro (⟨(List.length_map _).symm⟩) ?_) | refine Pure.call (h10) ?_ | refine Pure.locK (h10) ?_ | refine Pure.call (h9) ?_ | refine Pure.locK (f13_ok) ?_)
    all_goals (conv => whnf)
    exact ⟨rfl⟩
  · rw [allR, allM, if_neg (by omega), if_neg hr] at h9
    repeat' ((conv => whnf); first
      | refine boolF_t (beq_self_eq_true _) ?_ | refine Exists.intro _ (And.intro (⟨(List.length_map _).symm⟩) ?_) | refine Pure.call (h10) ?_ | refine Pure.call (h9) ?_ | refine Pure.call (h19) ?_ | refine Pure.call (f13_ok) ?_ | refine boolF_not ?_ | refine boolF_decf (by assumption) ?_)
    all_goals (conv => whnf)
    exact ⟨rfl⟩

end Go.Proofs.Ytlfbchkcgchoaaa.C

