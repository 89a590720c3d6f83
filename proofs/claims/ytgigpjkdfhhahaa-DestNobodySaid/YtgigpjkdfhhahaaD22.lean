import Derived.Test.YtgigpjkdfhhahaaD21
namespace Go.Proofs.Ytgigpjkdfhhahaa
open Go.A
set_option linter.unusedVariables false
set_option linter.unusedSimpArgs false
set_option linter.unnecessarySimpa false
attribute [local irreducible] IntKind.wrap bitsI
open B L M
set_option maxRecDepth 100000
set_option maxHeartbeats 4000000

def zN : D := .pe [.int .i64 0, .int .i64 0, .int .i64 0, .int .i64 0, .int .i64 0, .nils, .nils, .nils]
theorem dead_zN : Dead zN := ⟨⟨trivial, trivial, trivial, trivial, trivial, trivial, trivial, trivial, trivial⟩, by
  refine Pure.of ⟨⟨trivial, trivial, trivial, trivial, trivial, trivial, trivial, trivial, trivial⟩, trivial⟩ trivial ?_
  refine Go.A.CallsIn.of_exec tab_ok mixed Try.func34 rfl rfl [] [] ?_
  (conv => whnf)
  exact ⟨rfl⟩⟩
def deads : List D := [.pnil, zN]
theorem destNobody_true (a : T61) (h0 : ok62 a) : Go.A.CallsIn Try.prog 7 [d62 a] [] fun r _ => r = .bool true := by
  refine Go.A.CallsIn.of_exec tab_ok mixed Try.func7 rfl rfl [] [] ?_
  repeat' ((conv => whnf); first
    | refine Exists.intro _ (And.intro (⟨lenl_2⟩) ?_))
  all_goals (conv => whnf)
  refine W_loopG (ι := Nat) (fun i => ⟨(D.undef :: .pe (c62 a) :: D.undef :: D.undef :: D.undef :: D.undef :: D.undef :: D.undef :: D.undef :: D.undef :: D.undef :: D.undef :: D.undef :: D.undef :: D.undef :: D.undef :: D.undef :: D.undef :: .sl deads :: .int .i64 2 :: .int .i64 (i : Int) :: D.undef :: D.undef :: D.undef :: D.undef :: D.undef :: D.undef :: D.undef :: D.undef :: D.undef :: D.undef :: D.undef :: D.undef :: D.undef :: D.undef :: D.undef :: D.undef :: D.undef :: D.undef :: D.undef :: D.undef :: D.undef :: D.undef :: D.undef :: D.undef :: D.undef :: D.undef :: D.undef :: D.undef :: D.undef :: D.undef :: D.undef :: D.undef :: D.undef :: D.undef :: D.undef :: D.undef :: D.undef :: D.undef :: D.undef :: D.undef :: D.undef :: D.undef :: D.undef :: D.undef :: D.undef :: D.undef :: D.undef :: D.undef :: D.undef :: D.undef :: D.undef :: D.undef :: D.undef :: D.undef :: D.undef :: D.undef :: D.undef :: D.undef :: D.undef :: D.undef :: D.undef :: D.undef :: D.undef :: D.undef :: D.undef :: D.undef :: D.undef :: D.undef :: D.undef :: D.undef :: D.undef :: D.undef :: D.undef :: D.undef :: D.undef :: D.undef :: D.undef :: D.undef :: D.undef :: D.undef :: D.undef :: D.undef :: D.undef :: D.undef :: D.undef :: D.undef :: D.undef :: D.undef :: D.undef :: D.undef :: D.undef :: D.undef :: D.undef :: D.undef :: D.undef :: D.undef :: D.undef :: D.undef :: D.undef :: D.undef :: D.undef :: D.undef :: D.undef :: D.undef :: D.undef :: D.undef :: D.undef :: D.undef :: D.undef :: D.undef :: D.undef :: D.undef :: D.undef :: D.undef :: D.undef :: D.undef :: D.undef :: D.undef :: D.undef :: D.undef :: D.undef :: D.undef :: D.undef :: D.undef :: D.undef :: D.undef :: D.undef :: D.undef :: D.undef :: D.undef :: D.undef :: D.undef :: D.undef :: D.undef :: D.undef :: D.undef :: D.undef :: D.undef :: D.undef :: D.undef :: D.undef :: D.undef :: D.undef :: D.undef :: D.undef :: D.undef :: D.undef :: D.undef :: D.undef :: []), []⟩) (fun i => 2 - i) (fun i => i ≤ 2) 0 (Ghost.hold [1, 18, 19, 20] rfl) (Nat.zero_le _) ?_
  rintro i h1
  rcases Nat.lt_or_ge i 2 with h | h
  · refine exec_ok tab_ok mixed 1000 (bx := []) (own := []) ?_
    have h12 := f12_ok a.m_
    rcases (by omega : i = 0 ∨ i = 1) with rfl | rfl
    · have hdd := dead_nil
      have h16 := f16_dead hdd a.node_ a.i_ a.r_
      have h11 := f11_dead hdd a.i_ a.m_
      repeat' ((conv => whnf); first
        | refine PairK.mk (by kernel_rfl) ?_ | refine And.intro (by decide) ?_ | refine Exists.intro _ (And.intro (Eq.refl (α := Option D) _) ?_) | refine Exists.intro _ (And.intro (w64 (by omega) (by omega)) ?_) | refine Pure.call (f19_dead hdd _ _ _) ?_ | refine Pure.call (f26_dead hdd _) ?_ | refine Pure.call (f27_dead hdd) ?_ | refine Pure.locK (h16) ?_ | refine Pure.locK (f28_dead hdd _) ?_ | refine Pure.locK (h12) ?_ | refine Pure.locK (h11) ?_ | refine Pure.locK (f14_dead hdd) ?_ | refine Pure.locK (f23_dead hdd) ?_ | refine Pure.locK (f24_dead hdd _) ?_ | refine Pure.locK (f18_dead hdd) ?_
        | refine Pure.locK (f15_dead hdd) ?_ | refine Pure.locK (f25_dead hdd _) ?_)
      all_goals (conv => whnf)
      exact ⟨1, Ghost.hold [1, 18, 19, 20] rfl, by decide, by omega⟩
    · have hdd := dead_zN
      have h16 := f16_dead hdd a.node_ a.i_ a.r_
      have h11 := f11_dead hdd a.i_ a.m_
      repeat' ((conv => whnf); first
        | refine PairK.mk (by kernel_rfl) ?_ | refine And.intro (by decide) ?_ | refine Exists.intro _ (And.intro (Eq.refl (α := Option D) _) ?_) | refine Exists.intro _ (And.intro (w64 (by omega) (by omega)) ?_) | refine Pure.call (f19_dead hdd _ _ _) ?_ | refine Pure.call (f26_dead hdd _) ?_ | refine Pure.call (f27_dead hdd) ?_ | refine Pure.locK (h16) ?_ | refine Pure.locK (f28_dead hdd _) ?_ | refine Pure.locK (h12) ?_ | refine Pure.locK (h11) ?_ | refine Pure.locK (f14_dead hdd) ?_ | refine Pure.locK (f23_dead hdd) ?_ | refine Pure.locK (f24_dead hdd _) ?_ | refine Pure.locK (f18_dead hdd) ?_
        | refine Pure.locK (f15_dead hdd) ?_ | refine Pure.locK (f25_dead hdd _) ?_)
      all_goals (conv => whnf)
      exact ⟨2, Ghost.hold [1, 18, 19, 20] rfl, by decide, by omega⟩
  · obtain rfl : i = 2 := by omega
    refine exec_ok tab_ok mixed 16 (bx := []) (own := []) ?_
    (conv => whnf)
    refine (f10_own 4 ⟨by decide, by decide⟩).mono ?_
    rintro r H' ⟨dv, ov, vs, rfl, rfl⟩
    repeat' ((conv => whnf); first
      | refine And.intro rfl ?_)
    all_goals (conv => whnf)
    refine OwnedR.call f29_own (fun w => ?_)
    (conv => whnf)
    refine Turns1.call (f12_two w) 18 rfl (fun _ => ?_)
    repeat' ((conv => whnf); first
      | refine And.intro (by decide) ?_)
    all_goals (conv => whnf)
    refine (f11_two dv ov w vs _).mono ?_
    rintro r Z ⟨vs2, rfl, hN, hZ1, hZ2⟩
    (conv => whnf)
    refine W_seq ?_
    refine W_region ?_
    show W Try.prog 0 (.ops _ _ (List.range' 0 2 ++ List.range' 2 3) :: _) _ _
    refine W_opsG tab_ok (own := []) (bx := bxD ++ [false, true]) (ι := Nat) (fun x => ⟨(D.undef :: D.undef :: D.undef :: D.undef :: D.undef :: D.undef :: D.undef :: D.undef :: D.undef :: .p 0 dv 0 0 :: D.undef :: D.undef :: D.undef :: D.undef :: D.undef :: D.undef :: D.undef :: D.undef :: D.undef :: D.undef :: D.undef :: D.undef :: D.undef :: D.undef :: D.undef :: D.undef :: D.undef :: D.undef :: D.undef :: D.undef :: D.undef :: D.undef :: D.undef :: D.undef :: D.undef :: D.undef :: D.undef :: D.undef :: D.undef :: D.undef :: D.undef :: D.undef :: D.undef :: D.undef :: D.undef :: D.undef :: D.undef :: D.undef :: D.undef :: D.undef :: D.undef :: D.undef :: D.undef :: D.undef :: D.undef :: D.undef :: D.undef :: D.undef :: D.undef :: D.undef :: D.undef :: D.undef :: D.undef :: D.undef :: D.undef :: D.undef :: D.undef :: D.undef :: D.undef :: D.undef :: D.undef :: D.undef :: D.undef :: D.undef :: D.undef :: D.undef :: D.undef :: D.undef :: D.undef :: D.undef :: D.undef :: D.undef :: D.undef :: D.undef :: D.undef :: D.undef :: D.undef :: D.undef :: D.undef :: D.undef :: D.undef :: D.undef :: D.undef :: D.undef :: D.undef :: D.undef :: D.undef :: D.undef :: D.undef :: D.undef :: D.undef :: D.undef :: D.undef :: D.undef :: D.undef :: D.undef :: D.undef :: D.undef :: D.undef :: D.undef :: D.undef :: D.undef :: D.undef :: D.undef :: D.undef :: D.undef :: D.undef :: D.undef :: D.undef :: D.undef :: D.undef :: D.undef :: D.undef :: D.undef :: D.undef :: D.undef :: D.undef :: D.undef :: D.undef :: D.undef :: D.undef :: D.undef :: D.undef :: .h 18 w 0 2 :: D.undef :: D.undef :: D.undef :: D.undef :: D.undef :: D.undef :: D.undef :: D.undef :: D.undef :: D.undef :: D.undef :: D.undef :: D.undef :: D.undef :: D.undef :: D.undef :: D.undef :: D.undef :: D.undef :: D.undef :: D.undef :: D.undef :: D.undef :: D.undef :: D.undef :: D.undef :: D.undef :: D.undef :: D.undef :: D.undef :: D.undef :: D.undef :: D.undef :: D.undef :: D.undef :: D.undef :: []), HD dv x (ad0 [] vs2) ++ [oTwo w]⟩) (fun _ => True) 0 2 (by decide) ?_ ?_
    · repeat' ((conv => whnf); first
        | refine objK_of hZ2 ?_ | refine And.intro (by decide) ?_ | refine And.intro (Nat.le_of_ble_eq_true rfl) ?_)
      all_goals (conv => whnf)
      obtain ⟨ov', g⟩ := nearC_pick (F := [oTwo w]) (s := (D.undef :: D.undef :: D.undef :: D.undef :: D.undef :: D.undef :: D.undef :: D.undef :: D.undef :: .p 0 dv 0 0 :: D.undef :: D.undef :: D.undef :: D.undef :: D.undef :: D.undef :: D.undef :: D.undef :: D.undef :: D.undef :: D.undef :: D.undef :: D.undef :: D.undef :: D.undef :: D.undef :: D.undef :: D.undef :: D.undef :: D.undef :: D.undef :: D.undef :: D.undef :: D.undef :: D.undef :: D.undef :: D.undef :: D.undef :: D.undef :: D.undef :: D.undef :: D.undef :: D.undef :: D.undef :: D.undef :: D.undef :: D.undef :: D.undef :: D.undef :: D.undef :: D.undef :: D.undef :: D.undef :: D.undef :: D.undef :: D.undef :: D.undef :: D.undef :: D.undef :: D.undef :: D.undef :: D.undef :: D.undef :: D.undef :: D.undef :: D.undef :: D.undef :: D.undef :: D.undef :: D.undef :: D.undef :: D.undef :: D.undef :: D.undef :: D.undef :: D.undef :: D.undef :: D.undef :: D.undef :: D.undef :: D.undef :: D.undef :: D.undef :: D.undef :: D.undef :: D.undef :: D.undef :: D.undef :: D.undef :: D.undef :: D.undef :: D.undef :: D.undef :: D.undef :: D.undef :: D.undef :: D.undef :: D.undef :: D.undef :: D.undef :: D.undef :: D.undef :: D.undef :: D.undef :: D.undef :: D.undef :: D.undef :: D.undef :: D.undef :: D.undef :: D.undef :: D.undef :: D.undef :: D.undef :: D.undef :: D.undef :: D.undef :: D.undef :: D.undef :: D.undef :: D.undef :: D.undef :: D.undef :: D.undef :: D.undef :: D.undef :: D.undef :: D.undef :: D.undef :: D.undef :: D.undef :: D.undef :: D.undef :: .h 18 w 0 2 :: D.undef :: D.undef :: D.undef :: D.undef :: D.undef :: D.undef :: D.undef :: D.undef :: D.undef :: D.undef :: D.undef :: D.undef :: D.undef :: D.undef :: D.undef :: D.undef :: D.undef :: D.undef :: D.undef :: D.undef :: D.undef :: D.undef :: D.undef :: D.undef :: D.undef :: D.undef :: D.undef :: D.undef :: D.undef :: D.undef :: D.undef :: D.undef :: D.undef :: D.undef :: D.undef :: D.undef :: [])) (hN.mono (Nat.le_succ 1)) rfl (fun i hi => by
        have : i = 0 := by simpa using hi
        subst this
        exact hZ1) (fun ob hob => by simp only [List.mem_singleton] at hob; subst hob; exact scr51 _ _) (fun k => rfl) (by simp [scs, D.sc])
      exact ⟨ov', (Ghost.hold [9, 133] rfl).trans g, trivial⟩
    · rintro ov _
      obtain ⟨l1, i1⟩ := lands_at dv ov (inv_ad0 [] vs2) (j := 0) (by decide) (id := 1) (off := 1) rfl (by decide) lt00 lt01 lt02 rfl
      obtain ⟨l2, i2⟩ := lands_at dv ov (d := ad1 vs2) i1 (j := 1) (by decide) (id := 1) (off := 2) rfl (by decide) lt10 lt11 lt12 rfl
      refine W_opsR tab_ok (own := []) (bx := bxD ++ [false]) (X := fun s H bx => exec Try.prog tab 0 [] 1000 _ s H bx _) 2 3 (by decide) (fun s H bx h => exec_ok tab_ok mixed 1000 h) ?_
      repeat' ((conv => whnf); first
        | refine And.intro (by decide) ?_ | refine And.intro rfl ?_ | refine Exists.intro _ (And.intro (Eq.refl (α := Option D) _) ?_))
      all_goals (conv => whnf)
      refine TurnD.call l1 [_] trivial ?_
      (conv => whnf)
      refine TurnD.call l2 [_] trivial ?_
      (conv => whnf)
      refine turnV.call (f14_at dv ov i2) [_] trivial trivial (fun ov3 => ?_)
      have e2 := pub_two vs2
      have i3 := inv_publishD i2
      rw [show setB (ad1 vs2) 1 (lb3 1 [0, 0, 5, 0]) = ad2 vs2 from rfl, e2] at i3 ⊢
      (conv => whnf)
      refine lookN.call (f19_at dv ov3 (d := ad3 vs2) i3 (x := ⟨1, [0, 5, 5, 0]⟩) List.mem_cons_self (fun y hy _ => by simpa [ad3] using hy) 0 4 (p := ([0, 5, 5, 0], 0)) rfl) [_] (fun w1 => ?_)
      repeat' ((conv => whnf); first
        | refine And.intro (by decide) ?_ | refine And.intro rfl ?_ | refine Exists.intro _ (And.intro (Eq.refl (α := Option D) _) ?_))
      all_goals (conv => whnf)
      refine lookN.call (f19_at dv ov3 (d := ad3 vs2) i3 (x := ⟨1, [0, 5, 5, 0]⟩) List.mem_cons_self (fun y hy _ => by simpa [ad3] using hy) 1 1 (p := ([5], 0)) rfl) [_, _] (fun w2 => ?_)
      (conv => whnf)
      have h22 := f22_ok [5] [5] (by decide) (by decide)
      rw [decide_eq_true rfl] at h22
      refine Pure.seeK h22 [(20, .arr w2 1 ([5].map r56))] (fact1 rfl) (.cons (.h mem0 (.all (scr56 _ _)) (all_take rfl)) (.cons (.same (scr56 0 [5])) .nil)) trivial trivial ?_
      repeat' ((conv => whnf); first
        | refine Pure.call (f9_ok) ?_)
      all_goals (conv => whnf)
      exact ⟨rfl⟩

end Go.Proofs.Ytgigpjkdfhhahaa

