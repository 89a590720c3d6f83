import Derived.Test.YtbefmodpgecfgaaE4
import Derived.Test.YtbefmodpgecfgaaD8
namespace Go.Proofs.Ytbefmodpgecfgaa
open Go.A
set_option linter.unusedVariables false
set_option linter.unusedSimpArgs false
set_option linter.unnecessarySimpa false
attribute [local irreducible] IntKind.wrap bitsI
set_option maxRecDepth 100000
set_option maxHeartbeats 4000000

theorem osc7 (v : Rv) (s : Dk) (g : Ca) : ∀ ob ∈ [oP s, oM s, oS 0 1 s, rPl v s.plate, rCa v g, rCd s 0, rS v 3 4 5 s], ob.sc 7 := fun ob hob => by
  simp only [List.mem_cons, List.not_mem_nil, or_false] at hob
  rcases hob with rfl | rfl | rfl | rfl | rfl | rfl | rfl
  · exact osc_le (scP0 s)
  · exact osc_le (scM0 s)
  · exact ⟨⟨show 0 < 7 by decide, show 1 < 7 by decide, trivial, trivial, trivial, trivial⟩, trivial⟩
  · exact osc_le (scPl v _)
  · exact osc_le (scCa v _)
  · exact osc_le (scCd s 0)
  · exact ⟨⟨show 3 < 7 by decide, show 4 < 7 by decide, show 5 < 7 by decide, trivial, trivial, trivial⟩, trivial⟩
def oPR (v : Rv) (s : Dk) (g : Ca) : List AObj := [oP s, oM s, oS 0 1 s, rPl v s.plate, rCa v g, rCd s 0, rS v 3 4 5 s]

theorem diskPlays_true (sec : Int) (script : List Act) (h0 : ok3 sec) (h1 : ok22 script) : CallsIn Try.prog 3 [d3 sec, d22 script] [] fun r _ => r = .bool true := by
  have hsl : script.length ≤ 140737488351232 := by have := h1.2; simp [td36] at this; omega
  by_cases hb : sec < 1 ∨ 256 < sec
  · have h9 : Go.A.Pure Try.prog 9 [d3 sec] (.tup [.pnil, .int .i64 1]) := f9_bad sec hb
    have h10 : Go.A.Pure Try.prog 10 [d3 sec] (.tup [.agg [.nils, .nils, .nils, .bool false, .int .i64 0], .int .i64 1]) := r10_bad sec hb
    refine CallsIn.of_exec tab_ok mixed Try.func3 rfl rfl [] [] ?_
    repeat' ((conv => whnf); first
      | refine And.intro (by decide) ?_ | refine Pure.call (h9) ?_ | refine Pure.call (h10) ?_ | refine Pure.call (f11_ok) ?_)
    all_goals (conv => whnf)
    exact ⟨rfl⟩
  obtain ⟨n, hn⟩ := Int.eq_ofNat_of_zero_le (show 0 ≤ sec by omega)
  subst hn
  have hn : 1 ≤ n ∧ n ≤ 256 := by omega
  refine CallsIn.of_exec tab_ok mixed Try.func3 rfl rfl [] [] ?_
  (conv => whnf)
  refine newC hn _ ?_
  (conv => whnf)
  refine newR hn _ (fun v => ?_)
  repeat' ((conv => whnf); first
    | refine And.intro (by decide) ?_ | refine Exists.intro _ (And.intro (⟨(List.length_map _).symm⟩) ?_) | refine Pure.call (f11_ok) ?_)
  all_goals (conv => whnf)
  refine W_loopG (ι := Nat × Dk × Ca) (fun j => ⟨(d3 (n : Int) :: D.undef :: D.undef :: D.undef :: D.undef :: .p 2 0 0 0 :: D.undef :: .p 6 0 0 0 :: D.undef :: D.undef :: D.undef :: D.undef :: D.undef :: D.undef :: D.undef :: D.undef :: D.undef :: D.undef :: D.undef :: D.undef :: D.undef :: D.undef :: D.undef :: D.undef :: D.undef :: D.undef :: D.undef :: D.undef :: D.undef :: D.undef :: D.undef :: D.undef :: D.undef :: D.undef :: D.undef :: D.undef :: D.undef :: D.undef :: D.undef :: D.undef :: D.undef :: D.undef :: d22 script :: .int .i64 (script.length : Int) :: .int .i64 (j.1 : Int) :: D.undef :: D.undef :: D.undef :: D.undef :: D.undef :: D.undef :: D.undef :: D.undef :: D.undef :: D.undef :: D.undef :: D.undef :: D.undef :: D.undef :: D.undef :: D.undef :: D.undef :: D.undef :: D.undef :: D.undef :: D.undef :: D.undef :: D.undef :: D.undef :: D.undef :: D.undef :: D.undef :: D.undef :: D.undef :: D.undef :: D.undef :: D.undef :: D.undef :: D.undef :: D.undef :: D.undef :: D.undef :: D.undef :: D.undef :: D.undef :: D.undef :: D.undef :: D.undef :: D.undef :: D.undef :: D.undef :: D.undef :: D.undef :: D.undef :: D.undef :: D.undef :: D.undef :: D.undef :: D.undef :: D.undef :: D.undef :: D.undef :: D.undef :: D.undef :: D.undef :: D.undef :: D.undef :: D.undef :: D.undef :: D.undef :: D.undef :: D.undef :: D.undef :: D.undef :: D.undef :: D.undef :: D.undef :: D.undef :: D.undef :: D.undef :: D.undef :: D.undef :: D.undef :: D.undef :: D.undef :: D.undef :: D.undef :: D.undef :: D.undef :: D.undef :: D.undef :: D.undef :: D.undef :: D.undef :: D.undef :: D.undef :: D.undef :: D.undef :: D.undef :: D.undef :: D.undef :: D.undef :: []), oPR v j.2.1 j.2.2⟩) (fun j => script.length - j.1)
    (fun j => j.1 ≤ script.length ∧ OkR j.2.1 j.2.2) (0, newK n, List.replicate n none) (Ghost.hold [0, 5, 7, 42, 43, 44] rfl) ⟨Nat.zero_le _, newR_ok hn⟩ ?_
  rintro ⟨j, s, g⟩ ⟨j1, hs⟩
  dsimp only at j1 hs ⊢
  rcases Nat.lt_or_ge j script.length with gl | gl
  case inr =>
    refine exec_ok tab_ok mixed 1000 (bx := [false, false, true, false, false, false, true]) (own := []) ?_
    repeat' ((conv => whnf); first
      | refine boolF_decf (by omega) ?_)
    all_goals (conv => whnf)
    exact ⟨rfl⟩
  obtain ⟨a, ha⟩ := at_lt gl
  have hao := okA (h1.1 a (List.mem_of_getElem? ha))
  refine exec_ok tab_ok mixed 12 (bx := [false, false, true, false, false, false, true]) (own := []) ?_
  repeat' ((conv => whnf); first
    | refine Exists.intro _ (And.intro (map_at (by omega) ha) ?_) | refine And.intro (by decide) ?_ | refine And.intro rfl ?_ | refine And.intro (by omega) ?_ | refine boolF_dect (by omega) ?_)
  all_goals (conv => whnf)
  refine W_midG (ι := Dk × Ca) (fun j' => ⟨(d3 (n : Int) :: D.undef :: D.undef :: D.undef :: D.undef :: .p 2 0 0 0 :: D.undef :: .p 6 0 0 0 :: D.undef :: D.undef :: D.undef :: .bool true :: D.undef :: D.undef :: D.undef :: D.undef :: D.undef :: D.undef :: D.undef :: D.undef :: D.undef :: D.undef :: D.undef :: D.undef :: D.undef :: D.undef :: D.undef :: D.undef :: D.undef :: D.undef :: D.undef :: D.undef :: D.undef :: D.undef :: D.undef :: D.undef :: D.undef :: D.undef :: D.undef :: D.undef :: D.undef :: D.undef :: d22 script :: .int .i64 (script.length : Int) :: .int .i64 (j : Int) :: D.undef :: D.undef :: D.undef :: D.undef :: D.undef :: D.undef :: D.undef :: D.undef :: D.undef :: D.undef :: D.undef :: D.undef :: D.undef :: D.undef :: D.undef :: D.undef :: D.undef :: D.undef :: D.undef :: D.undef :: D.undef :: D.undef :: D.undef :: D.undef :: D.undef :: D.undef :: D.undef :: D.undef :: D.undef :: D.undef :: D.undef :: D.undef :: D.undef :: D.undef :: D.undef :: D.undef :: D.undef :: D.undef :: D.undef :: D.undef :: D.undef :: D.undef :: D.undef :: D.undef :: D.undef :: D.undef :: D.undef :: D.undef :: D.undef :: D.undef :: D.undef :: D.undef :: D.undef :: D.undef :: D.undef :: D.undef :: D.undef :: D.undef :: D.undef :: D.undef :: D.undef :: D.undef :: D.undef :: D.undef :: D.undef :: D.undef :: D.undef :: D.undef :: D.undef :: D.undef :: D.undef :: D.undef :: D.undef :: D.undef :: D.undef :: D.undef :: D.undef :: D.undef :: D.undef :: D.undef :: D.undef :: D.undef :: D.undef :: D.undef :: D.undef :: D.undef :: D.undef :: D.undef :: D.undef :: D.undef :: D.undef :: D.undef :: D.undef :: D.undef :: D.undef :: D.undef :: D.undef :: []), oPR v j'.1 j'.2⟩) (fun j' => OkR j'.1 j'.2) ?_ ?_
  · refine exec_ok tab_ok mixed 1000 (bx := [false, false, true, false, false, false, true, true]) (own := []) ?_
    by_cases k0 : a.kind_ % 7 = 0
    · repeat' ((conv => whnf); first
        | refine And.intro (by decide) ?_ | refine And.intro (Nat.le_of_ble_eq_true rfl) ?_ | refine boolF_dect (by assumption) ?_)
      all_goals (conv => whnf)
      refine TurnsK.locK (f12_ok s a.i_ a.data_ hs.k hao.data) 2 0 1 (by decide) ⟨trivial, scr5 _ _, trivial⟩ trivial rfl rfl rfl ?_
      repeat' ((conv => whnf); first
        | refine And.intro (by decide) ?_ | refine And.intro (Nat.le_of_ble_eq_true rfl) ?_)
      all_goals (conv => whnf)
      refine TurnsR.locK (r13_ok v s g a.i_ a.data_ hs hao.data) 6 3 4 5 (by decide) ⟨trivial, scr5 _ _, trivial⟩ trivial rfl rfl rfl rfl ?_
      repeat' ((conv => whnf); first
        | refine PairK.mk (by kernel_rfl) ?_)
      all_goals (conv => whnf)
      exact ⟨((writeM s a.i_ a.data_).2, wG s g a.i_ a.data_), Ghost.back [0, 5, 7, 11, 42, 43, 44] 7 (by simp only [beq_self_eq_true]; rfl) rfl (Nat.zero_le _) (by simp [scs, D.sc, scd22, d3]) (osc7 _ _ _), okR_write hs _ _⟩
    by_cases k1 : a.kind_ % 7 = 1
    · repeat' ((conv => whnf); first
        | refine And.intro (by decide) ?_ | refine And.intro (Nat.le_of_ble_eq_true rfl) ?_ | refine boolF_dect (by assumption) ?_ | refine boolF_decf (by assumption) ?_)
      all_goals (conv => whnf)
      refine TurnsK.call (f14_ok s a.i_ hs.k) 2 0 1 (by decide) ⟨trivial, trivial⟩ ⟨scr5 _ _, trivial, trivial⟩ rfl rfl rfl ?_
      repeat' ((conv => whnf); first
        | refine And.intro (by decide) ?_ | refine And.intro (Nat.le_of_ble_eq_true rfl) ?_)
      all_goals (conv => whnf)
      refine TurnsR.call (r15_ok v s g a.i_ hs) 6 3 4 5 (by decide) ⟨trivial, trivial⟩ ⟨scr5 _ _, trivial, trivial⟩ rfl rfl rfl rfl ?_
      have h16 := f16_same (readM s a.i_).1
      repeat' ((conv => whnf); first
        | refine Pure.call (h16) ?_)
      all_goals (conv => whnf)
      exact ⟨(s, g), Ghost.back [0, 5, 7, 11, 42, 43, 44] 7 (by simp only [beq_self_eq_true]; rfl) rfl (Nat.zero_le _) (by simp [scs, D.sc, scd22, d3]) (osc7 _ _ _), hs⟩
    by_cases k2 : a.kind_ % 7 = 2
    · repeat' ((conv => whnf); first
        | refine And.intro (by decide) ?_ | refine And.intro (Nat.le_of_ble_eq_true rfl) ?_ | refine boolF_dect (by assumption) ?_ | refine boolF_decf (by assumption) ?_)
      all_goals (conv => whnf)
      refine TurnsK.call (f17_ok s hs.k) 2 0 1 (by decide) trivial trivial rfl rfl rfl ?_
      (conv => whnf)
      refine TurnsR.call (r18_ok v s g hs) 6 3 4 5 (by decide) trivial trivial rfl rfl rfl rfl ?_
      (conv => whnf)
      exact ⟨((flushM s).2, g), Ghost.back [0, 5, 7, 11, 42, 43, 44] 7 (by simp only [beq_self_eq_true]; rfl) rfl (Nat.zero_le _) (by simp [scs, D.sc, scd22, d3]) (osc7 _ _ _), okR_flush hs⟩
    by_cases k3 : a.kind_ % 7 = 3
    · repeat' ((conv => whnf); first
        | refine And.intro (by decide) ?_ | refine And.intro (Nat.le_of_ble_eq_true rfl) ?_ | refine boolF_dect (by assumption) ?_ | refine boolF_decf (by assumption) ?_)
      all_goals (conv => whnf)
      refine TurnsK.call (f19_ok s a.i_) 2 0 1 (by decide) ⟨trivial, trivial⟩ trivial rfl rfl rfl ?_
      repeat' ((conv => whnf); first
        | refine And.intro (by decide) ?_ | refine And.intro (Nat.le_of_ble_eq_true rfl) ?_)
      all_goals (conv => whnf)
      refine TurnsR.call (r20_ok v s g a.i_) 6 3 4 5 (by decide) ⟨trivial, trivial⟩ trivial rfl rfl rfl rfl ?_
      (conv => whnf)
      exact ⟨(armM s a.i_, g), Ghost.back [0, 5, 7, 11, 42, 43, 44] 7 (by simp only [beq_self_eq_true]; rfl) rfl (Nat.zero_le _) (by simp [scs, D.sc, scd22, d3]) (osc7 _ _ _), okR_arm hs hao.i⟩
    by_cases k4 : a.kind_ % 7 = 4
    · repeat' ((conv => whnf); first
        | refine And.intro (by decide) ?_ | refine And.intro (Nat.le_of_ble_eq_true rfl) ?_ | refine boolF_dect (by assumption) ?_ | refine boolF_decf (by assumption) ?_)
      all_goals (conv => whnf)
      refine TurnsK.call (f21_ok s) 2 0 1 (by decide) trivial trivial rfl rfl rfl ?_
      (conv => whnf)
      refine TurnsR.call (r22_ok v s g) 6 3 4 5 (by decide) trivial trivial rfl rfl rfl rfl ?_
      (conv => whnf)
      exact ⟨(cutM s, g), Ghost.back [0, 5, 7, 11, 42, 43, 44] 7 (by simp only [beq_self_eq_true]; rfl) rfl (Nat.zero_le _) (by simp [scs, D.sc, scd22, d3]) (osc7 _ _ _), okR_cut hs⟩
    by_cases k5 : a.kind_ % 7 = 5
    · repeat' ((conv => whnf); first
        | refine And.intro (by decide) ?_ | refine And.intro (Nat.le_of_ble_eq_true rfl) ?_ | refine boolF_dect (by assumption) ?_ | refine boolF_decf (by assumption) ?_)
      all_goals (conv => whnf)
      refine TurnsK.locK (f23_ok s a.keep_ hs.k hao.keep) 2 0 1 (by decide) ⟨scd28 _ _, trivial⟩ trivial rfl rfl rfl ?_
      repeat' ((conv => whnf); first
        | refine And.intro (by decide) ?_ | refine And.intro (Nat.le_of_ble_eq_true rfl) ?_)
      all_goals (conv => whnf)
      refine TurnsR.locK (r24_ok v s g a.keep_ hs hao.keep) 6 3 4 5 (by decide) ⟨scd28 _ _, trivial⟩ trivial rfl rfl rfl rfl ?_
      repeat' ((conv => whnf); first
        | refine PairK.mk (by kernel_rfl) ?_)
      all_goals (conv => whnf)
      exact ⟨((startM s a.keep_).2, g), Ghost.back [0, 5, 7, 11, 42, 43, 44] 7 (by simp only [beq_self_eq_true]; rfl) rfl (Nat.zero_le _) (by simp [scs, D.sc, scd22, d3]) (osc7 _ _ _), okR_start hs _⟩
    repeat' ((conv => whnf); first
      | refine And.intro (by decide) ?_ | refine And.intro (Nat.le_of_ble_eq_true rfl) ?_ | refine boolF_decf (by assumption) ?_)
    all_goals (conv => whnf)
    exact ⟨(s, g), Ghost.back [0, 5, 7, 11, 42, 43, 44] 7 (by simp only [beq_self_eq_true]; rfl) rfl (Nat.zero_le _) (by simp [scs, D.sc, scd22, d3]) (osc7 _ _ _), hs⟩
  · rintro ⟨T, G'⟩ hT
    dsimp only at hT ⊢
    have hne : ((!T.off) != (!T.off)) = false := by simp
    have hTn := hT.k.n
    refine exec_ok tab_ok mixed 1000 (bx := [false, false, true, false, false, false, true]) (own := []) ?_
    (conv => whnf)
    refine TurnsK.locK (f25_ok T) 2 0 1 (by decide) trivial trivial rfl rfl rfl ?_
    repeat' ((conv => whnf); first
      | refine And.intro (by decide) ?_ | refine And.intro (Nat.le_of_ble_eq_true rfl) ?_ | refine boolF_t (beq_self_eq_true _) ?_ | refine boolF_not ?_)
    all_goals (conv => whnf)
    refine TurnsK.locK (f26_ok T) 2 0 1 (by decide) trivial trivial rfl rfl rfl ?_
    (conv => whnf)
    refine TurnsR.locK (r27_ok v T G' hT) 6 3 4 5 (by decide) trivial trivial rfl rfl rfl rfl ?_
    repeat' ((conv => whnf); first
      | refine boolF_t (beq_self_eq_true _) ?_ | refine boolF_not ?_)
    all_goals (conv => whnf)
    refine TurnsK.locK (f28_ok T) 2 0 1 (by decide) trivial trivial rfl rfl rfl ?_
    repeat' ((conv => whnf); first
      | refine PairK.mk (by kernel_rfl) ?_ | refine And.intro (by decide) ?_ | refine And.intro rfl ?_ | refine And.intro (Nat.le_of_ble_eq_true rfl) ?_ | refine boolF_t (beq_self_eq_true _) ?_ | refine Exists.intro _ (And.intro (w64 (by omega) (by omega)) ?_) | refine boolF_not ?_)
    all_goals (conv => whnf)
    exact ⟨(j + 1, T, G'), Ghost.back [0, 5, 7, 42, 43, 44] 7 rfl rfl (Nat.zero_le _) (by simp [scs, D.sc, scd22, d3]) (osc7 _ _ _), ⟨gl, hT⟩, by dsimp only; omega⟩

end Go.Proofs.Ytbefmodpgecfgaa

