import Derived.Test.YtgigpjkdfhhahaaD23
namespace Go.Proofs.Ytgigpjkdfhhahaa
open Go.A
set_option linter.unusedVariables false
set_option linter.unusedSimpArgs false
set_option linter.unnecessarySimpa false
attribute [local irreducible] IntKind.wrap bitsI
open B L M
set_option maxRecDepth 100000
set_option maxHeartbeats 4000000

theorem does_out (d : Dst) (a : T61) (vs : List Nat) : (doesD d a vs).1.out = if (doesD d a vs).2 = 0 ∧ a.kind_ % 8 = 4 then d.out ++ [⟨d.id, partsD d d.mp⟩] else if (doesD d a vs).2 = 0 ∧ a.kind_ % 8 = 6 then delO a.i_ d.out else d.out := by
  unfold doesD
  split
  · rename_i h; rw [h, if_neg (by omega), if_neg (by omega)]; unfold takeD; split; rfl; split; rfl; split; rfl; rfl
  · rename_i h; rw [h, if_neg (by omega), if_neg (by omega)]; unfold syncD; split <;> rfl
  · rename_i h; rw [h, if_neg (by omega), if_neg (by omega)]; rfl
  · rename_i h; rw [h, if_neg (by omega), if_neg (by omega)]; unfold annD; split; rfl; split; rfl; split; rfl; split; rfl; rfl
  · rename_i h; rw [h]; unfold publishD
    split
    · rw [if_neg (by simp), if_neg (by simp)]
    split
    · exact (if_pos ⟨rfl, rfl⟩).symm
    · rw [if_neg (by simp), if_neg (by simp)]
  · rename_i h; rw [h, if_neg (by omega), if_neg (by omega)]; unfold cancelD; split; rfl; rfl
  · rename_i h; rw [h, if_neg (by omega)]; unfold deleteD
    split
    · rename_i g
      rw [if_neg (fun e => g e.1)]
    · exact (if_pos ⟨rfl, rfl⟩).symm
  · rename_i h0 h1 h2 h3 h4 h5 h6
    rw [if_neg (fun g => h4 g.2), if_neg (fun g => h6 g.2)]
def oL (w : Nat) (l : List Out) : AObj := .arr w 2 (l.map rO)
theorem scoL (k w : Nat) (l : List Out) : (oL w l).sc k := scrO k l
theorem read_full {v : List Nat} {n : Int} (h : v.length = n.toNat) (hn : 1 ≤ n ∧ n ≤ 1024) : readM v 0 n = (v, 0) := by
  rw [readM, if_neg (by omega), if_pos ⟨Int.le_refl _, by omega, by omega, by omega⟩, Int.toNat_zero, List.drop_zero, List.take_of_length_le (by omega)]
theorem out_uniq {d : Dst} (hd : InvD d) {x : Out} (hx : x ∈ d.out) : ∀ y ∈ d.out, y.id = x.id → y = x := fun y hy e => by
  obtain ⟨i, hi⟩ := List.getElem?_of_mem hx
  obtain ⟨j, hj⟩ := List.getElem?_of_mem hy
  rcases Nat.lt_trichotomy i j with g | g | g
  · exact absurd e.symm (nd_ne hd.nd hi hj g)
  · subst g; rw [hi] at hj; exact (Option.some.inj hj).symm
  · exact absurd e (nd_ne hd.nd hj hi g)

/-- The same, what is kept told anew: a destination is found again, behind what is let go; what else is kept (F) lies at fl. -/
theorem pickHD2 {k t dv ov : Nat} {d : Dst} {H F : List AObj} {fl : List Nat} (h0 : H[0]? = some (oDt k t dv ov d)) (h1 : H[t]? = some (oO ov d.out)) (hb : ∀ j, j < 16 → H[k + j]? = some (oj d.bs j)) (hf : fl.map (fun o => H[o]?) = F.map some) (hF : ∀ ob ∈ F, ob.sc 0)
    (hn : (pickM k t fl).Nodup) {s s' : List D} (hs : s = renL (fun i => (pickM k t fl).getD i 0) s') (hsc : scs (18 + fl.length) s') : Ghost 0 s H s' (HD dv ov d ++ F) := by
  have hfl : fl.length = F.length := by have := congrArg List.length hf; simpa using this
  have hml : (pickM k t fl).length = 18 + fl.length := by simp only [pickM, List.length_cons, List.length_append, List.length_map, List.length_range]; omega
  have hlen : (pickM k t fl).length = (HD dv ov d ++ F).length := by rw [hml, List.length_append, hfl]; rfl
  refine Ghost.pick (pickM k t fl) hn hlen (fun i o ob' g1 g2 => ?_) hs (by rw [hml]; exact hsc) (fun ob hob => ?_)
  · match i, g1, g2 with
    | 0, g1, g2 =>
      obtain rfl : 0 = o := Option.some.inj g1
      obtain rfl := Option.some.inj (g2.symm.trans (rfl : (HD dv ov d ++ F)[0]? = some (oDt 2 1 dv ov d)))
      have e := ren_oDt (ρ := fun i => (pickM k t fl).getD i 0) (k := 2) (k' := k) (t := 1) (t' := t) (fun j hj => pickM_at k t fl hj) rfl dv ov d
      show H[0]? = some (renO _ (oDt 2 1 dv ov d))
      rw [e]
      exact h0
    | 1, g1, g2 =>
      obtain rfl : t = o := Option.some.inj g1
      obtain rfl := Option.some.inj (g2.symm.trans (rfl : (HD dv ov d ++ F)[1]? = some (oO ov d.out)))
      rw [renO_sc0 _ (show (oO ov d.out).sc 0 from scrO 0 _)]
      exact h1
    | j + 2, g1, g2 =>
      rw [pickM, List.getElem?_cons_succ, List.getElem?_cons_succ] at g1
      rw [hd_range, List.cons_append, List.cons_append, List.getElem?_cons_succ, List.getElem?_cons_succ] at g2
      rcases Nat.lt_or_ge j 16 with hj | hj
      · rw [List.getElem?_append_left (by simpa using hj), List.getElem?_map, List.getElem?_range hj] at g1 g2
        obtain rfl := Option.some.inj g1
        obtain rfl := Option.some.inj g2
        rw [renO_sc0 _ (show (oj d.bs j).sc 0 from ⟨scB _ _, trivial⟩)]
        exact hb j hj
      · rw [List.getElem?_append_right (by simpa using hj)] at g1 g2
        simp only [List.length_map, List.length_range] at g1 g2
        have h3 := congrArg (fun l => l[j - 16]?) hf
        simp only [List.getElem?_map, g1, g2, Option.map_some] at h3
        rw [Option.some.inj h3, renO_sc0 _ (hF ob' (List.mem_of_getElem? g2))]
  · rw [hml]
    rcases List.mem_append.mp hob with h | h
    · exact scHDn (by omega) _ _ _ ob h
    · exact osc_le (hF ob h)
theorem sc21 (dv ov : Nat) (d : Dst) {A B C : AObj} (ha : A.sc 21) (hb : B.sc 21) (hc : C.sc 21) : ∀ x ∈ HD dv ov d ++ [A, B, C], x.sc 21 := fun x hx => by
  rcases List.mem_append.mp hx with h | h
  · exact scHDn (by decide) _ _ _ x h
  · simp only [List.mem_cons, List.not_mem_nil, or_false] at h
    rcases h with rfl | rfl | rfl
    · exact ha
    · exact hb
    · exact hc
theorem destStays_true (n0 : Int) (script : List T61) (h0 : ok3 n0) (h1 : ok59 script) : Go.A.CallsIn Try.prog 4 [d3 n0, d59 script] [] fun r _ => r = .bool true := by
  have hm1 : 0 ≤ n0 % 64 := Int.emod_nonneg _ (by decide)
  have hm2 : n0 % 64 < 64 := Int.emod_lt_of_pos _ (by decide)
  have hnp : newP (n0 % 64 + 1) := ⟨by omega, by omega⟩
  have hsl : script.length ≤ 140737488351232 := by have := h1.2; simp [td62] at this; omega
  refine Go.A.CallsIn.of_exec tab_ok mixed Try.func4 rfl rfl [] [] ?_
  repeat' ((conv => whnf); first
    | refine Exists.intro (n0 % 64) (And.intro (and63 _) ?_) | refine Exists.intro _ (And.intro (w64 (by omega) (by omega)) ?_))
  all_goals (conv => whnf)
  refine (f10_own (n0 % 64 + 1) hnp).mono ?_
  rintro r H' ⟨dv, ov, vs, rfl, rfl⟩
  obtain ⟨n, hn⟩ : ∃ n, n = n0 % 64 + 1 := ⟨_, rfl⟩
  rw [← hn] at hnp ⊢
  repeat' ((conv => whnf); first
    | refine And.intro rfl ?_ | refine Exists.intro _ (And.intro (⟨(List.length_map _).symm⟩) ?_) | refine Pure.call (f9_ok) ?_)
  all_goals (conv => whnf)
  refine W_loopG (ι := Nat × Nat × Nat × Dst) (fun x => ⟨(.int .i64 n :: D.undef :: D.undef :: D.undef :: D.undef :: .p 0 dv 0 0 :: D.undef :: .h 18 x.2.2.1 0 x.2.2.2.out.length :: D.undef :: D.undef :: D.undef :: D.undef :: D.undef :: D.undef :: D.undef :: D.undef :: D.undef :: D.undef :: D.undef :: D.undef :: D.undef :: D.undef :: D.undef :: D.undef :: D.undef :: D.undef :: D.undef :: D.undef :: D.undef :: D.undef :: D.undef :: D.undef :: D.undef :: D.undef :: D.undef :: D.undef :: D.undef :: D.undef :: D.undef :: d59 script :: .int .i64 (script.length : Int) :: .int .i64 (x.1 : Int) :: D.undef :: D.undef :: D.undef :: D.undef :: D.undef :: D.undef :: D.undef :: D.undef :: D.undef :: D.undef :: D.undef :: D.undef :: D.undef :: D.undef :: D.undef :: D.undef :: D.undef :: D.undef :: D.undef :: D.undef :: D.undef :: D.undef :: D.undef :: D.undef :: D.undef :: D.undef :: D.undef :: D.undef :: D.undef :: D.undef :: D.undef :: D.undef :: D.undef :: D.undef :: D.undef :: D.undef :: D.undef :: D.undef :: D.undef :: D.undef :: D.undef :: D.undef :: D.undef :: D.undef :: D.undef :: D.undef :: D.undef :: D.undef :: D.undef :: D.undef :: D.undef :: D.undef :: D.undef :: D.undef :: D.undef :: D.undef :: D.undef :: D.undef :: D.undef :: D.undef :: D.undef :: D.undef :: D.undef :: D.undef :: D.undef :: D.undef :: D.undef :: D.undef :: D.undef :: D.undef :: D.undef :: D.undef :: D.undef :: D.undef :: D.undef :: D.undef :: D.undef :: D.undef :: D.undef :: D.undef :: D.undef :: D.undef :: D.undef :: D.undef :: D.undef :: D.undef :: D.undef :: []), HD dv x.2.1 x.2.2.2 ++ [oL x.2.2.1 x.2.2.2.out]⟩) (fun x => script.length - x.1)
    (fun x => x.1 ≤ script.length ∧ InvD x.2.2.2 ∧ x.2.2.2.n = n) (0, ov, 0, newDst n (bsOf 0 n vs)) ((Ghost.hold [0, 5, 7, 39, 40, 41] rfl).trans (Ghost.mat (t := 7) (sz := 2) rfl)) ⟨Nat.zero_le _, inv_newD hnp vs, rfl⟩ ?_
  rintro ⟨i, ov, lw, d⟩ ⟨i1, hd, hdn⟩
  dsimp only at i1 hd hdn ⊢
  rcases Nat.lt_or_ge i script.length with h | h
  · obtain ⟨a, ha⟩ := at_lt h
    have hok := h1.1 a (List.mem_of_getElem? ha)
    have hk8 : Int.tmod (a.kind_ : Int) 8 = ((a.kind_ % 8 : Nat) : Int) := rfl
    have h15 := f15_at dv ov d
    rw [if_pos (show 0 < d.n from hd.n.1)] at h15
    refine exec_ok tab_ok mixed 14 (bx := bxD ++ [false]) (own := []) ?_
    repeat' ((conv => whnf); first
      | refine Exists.intro _ (And.intro (map_at (by omega) ha) ?_) | refine And.intro (by decide) ?_ | refine And.intro rfl ?_ | refine And.intro (by omega) ?_ | refine boolF_dect (by omega) ?_)
    all_goals (conv => whnf)
    refine look.call h15 [_, _] trivial ?_
    repeat' ((conv => whnf); first
      | refine And.intro (by decide) ?_)
    all_goals (conv => whnf)
    refine does_call hd hok [_, _] (fun vs2 Z hN hZ => ?_)
    (conv => whnf)
    have hn2 := does_n d a vs2
    have hd2 := inv_does hd a vs2
    have hou := does_out d a vs2
    rw [hdn] at hn2
    obtain ⟨T, hT⟩ : ∃ T, T = doesD d a vs2 := ⟨_, rfl⟩
    rw [← hT] at hN hn2 hd2 hou ⊢
    obtain ⟨ov2, g⟩ := nearC_pick (F := [oL lw d.out, .arr 0 14 [d62 a]]) (s := (.int .i64 n :: D.undef :: D.undef :: D.undef :: D.undef :: .p 0 dv 0 0 :: D.undef :: .h 18 lw 0 d.out.length :: D.undef :: .p 19 0 0 0 :: .int .i64 d.id :: .int .i64 T.2 :: D.undef :: D.undef :: D.undef :: D.undef :: D.undef :: D.undef :: D.undef :: D.undef :: D.undef :: D.undef :: D.undef :: D.undef :: D.undef :: D.undef :: D.undef :: D.undef :: D.undef :: D.undef :: D.undef :: D.undef :: D.undef :: D.undef :: D.undef :: D.undef :: D.undef :: D.undef :: D.undef :: d59 script :: .int .i64 (script.length : Int) :: .int .i64 (i : Int) :: D.undef :: D.undef :: D.undef :: D.undef :: D.undef :: D.undef :: D.undef :: D.undef :: D.undef :: D.undef :: D.undef :: D.undef :: D.undef :: D.undef :: D.undef :: D.undef :: D.undef :: D.undef :: D.undef :: D.undef :: D.undef :: D.undef :: D.undef :: D.undef :: D.undef :: D.undef :: D.undef :: D.undef :: D.undef :: D.undef :: D.undef :: D.undef :: D.undef :: D.undef :: D.undef :: D.undef :: D.undef :: D.undef :: D.undef :: D.undef :: D.undef :: D.undef :: D.undef :: D.undef :: D.undef :: D.undef :: D.undef :: D.undef :: D.undef :: D.undef :: D.undef :: D.undef :: D.undef :: D.undef :: D.undef :: D.undef :: D.undef :: D.undef :: D.undef :: D.undef :: D.undef :: D.undef :: D.undef :: D.undef :: D.undef :: D.undef :: D.undef :: D.undef :: D.undef :: D.undef :: D.undef :: D.undef :: D.undef :: D.undef :: D.undef :: D.undef :: D.undef :: D.undef :: D.undef :: D.undef :: D.undef :: D.undef :: D.undef :: D.undef :: D.undef :: D.undef :: D.undef :: [])) hN rfl hZ (two_mem (scoL _ _ _) ⟨sc62 _ a, trivial⟩) (fun k => by simp only [renL, ren59, ren]; rfl) (by simp [scs, D.sc, scd59])
    refine W_ghost ((Ghost.hold [0, 5, 7, 9, 10, 11, 39, 40, 41] rfl).trans g) ?_
    have hd2n := hd2.n
    have hdo := hd.out
    refine W_midG (ι := Nat) (fun lw' => ⟨(.int .i64 n :: D.undef :: D.undef :: D.undef :: D.undef :: .p 0 dv 0 0 :: D.undef :: .h 18 lw' 0 T.1.out.length :: D.undef :: D.undef :: D.undef :: D.undef :: D.undef :: D.undef :: D.undef :: D.undef :: D.undef :: D.undef :: D.undef :: D.undef :: D.undef :: D.undef :: D.undef :: D.undef :: D.undef :: D.undef :: D.undef :: D.undef :: D.undef :: D.undef :: D.undef :: D.undef :: D.undef :: D.undef :: D.undef :: D.undef :: D.undef :: D.undef :: D.undef :: d59 script :: .int .i64 (script.length : Int) :: .int .i64 (i : Int) :: D.undef :: D.undef :: D.undef :: D.undef :: D.undef :: D.undef :: D.undef :: D.undef :: D.undef :: D.undef :: D.undef :: D.undef :: D.undef :: D.undef :: D.undef :: D.undef :: D.undef :: D.undef :: D.undef :: D.undef :: D.undef :: D.undef :: D.undef :: D.undef :: D.undef :: D.undef :: D.undef :: D.undef :: D.undef :: D.undef :: D.undef :: D.undef :: D.undef :: D.undef :: D.undef :: D.undef :: D.undef :: D.undef :: D.undef :: D.undef :: D.undef :: D.undef :: D.undef :: D.undef :: D.undef :: D.undef :: D.undef :: D.undef :: D.undef :: D.undef :: D.undef :: D.undef :: D.undef :: D.undef :: D.undef :: D.undef :: D.undef :: D.undef :: D.undef :: D.undef :: D.undef :: D.undef :: D.undef :: D.undef :: D.undef :: D.undef :: D.undef :: D.undef :: D.undef :: D.undef :: D.undef :: D.undef :: D.undef :: D.undef :: D.undef :: D.undef :: D.undef :: D.undef :: D.undef :: D.undef :: D.undef :: D.undef :: D.undef :: D.undef :: D.undef :: D.undef :: D.undef :: []), HD dv ov2 T.1 ++ [oL lw' T.1.out]⟩) (fun _ => True) ?_ ?_
    · by_cases he : T.2 = 0
      case neg =>
        rw [if_neg (fun g => he g.1), if_neg (fun g => he g.1)] at hou
        refine exec_ok tab_ok mixed 1000 (bx := bxD ++ [false, true]) (own := []) ?_
        repeat' ((conv => whnf); first
          | refine And.intro (by decide) ?_ | refine And.intro (Nat.le_of_ble_eq_true rfl) ?_ | refine boolF_decf (by assumption) ?_ | refine boolF_decf (by omega) ?_ | refine boolF_dec (fun _ => ?_) (fun _ => ?_))
        all_goals (conv => whnf)
        all_goals
          rw [hou]
          exact ⟨lw, Ghost.back [0, 5, 7, 39, 40, 41] 19 rfl rfl (Nat.zero_le _) (by simp [scs, D.sc, scd59]) (scHDs (by decide) _ _ _ (scoL _ _ _)), trivial⟩
      by_cases hk4 : a.kind_ % 8 = 4
      · rw [if_pos ⟨he, hk4⟩] at hou
        obtain ⟨V, hV⟩ : ∃ V, V = partsD d d.mp := ⟨_, rfl⟩
        rw [← hV] at hou
        have hmem : (⟨d.id, V⟩ : Out) ∈ T.1.out := by rw [hou]; exact List.mem_append_right _ List.mem_cons_self
        have hvl := hd2.outv _ hmem
        rw [hn2] at hvl hd2n
        have hrd := f19_at dv ov2 hd2 hmem (out_uniq hd2 hmem) 0 n (read_full hvl hd2n)
        refine exec_ok tab_ok mixed 1000 (bx := bxD ++ [false, true]) (own := []) ?_
        repeat' ((conv => whnf); first
          | refine And.intro (by decide) ?_ | refine And.intro (Nat.le_of_ble_eq_true rfl) ?_ | refine boolF_dect (by assumption) ?_)
        all_goals (conv => whnf)
        refine lookN.call hrd [_, _] (fun w => ?_)
        repeat' ((conv => whnf); first
          | refine And.intro (by decide) ?_ | refine And.intro rfl ?_ | refine And.intro (by omega) ?_ | refine And.intro (by simpa only [List.length_map, List.length_append, List.length_cons, List.length_nil] using rfl) ?_ | refine And.intro (okRows_one rfl rfl) ?_ | refine Exists.intro _ (And.intro (⟨len_one⟩) ?_) | refine Exists.intro _ (And.intro (⟨Eq.refl (α := List D) _⟩) ?_))
        all_goals (conv => whnf)
        refine ⟨lw + 1, ((Ghost.hold [0, 5, 7, 39, 40, 41] rfl).trans (Ghost.fz [(20, .arr w 1 (V.map r56))] [(18, .arr (lw + 1) 2 (d.out.map rO ++ [rO ⟨d.id, V⟩]))] (fun x hx => ?_) (by simp) Fzs.all (fun x hx => ?_) (by simp))).trans (Ghost.back [0, 5, 7, 39, 40, 41] 19 ?_ ?_ (Nat.zero_le _) ?_ ?_), trivial⟩
        · simp only [List.mem_singleton] at hx; subst hx
          exact ⟨Nat.zero_le _, rfl, _, _, _, rfl⟩
        · simp only [List.mem_singleton] at hx; subst hx
          refine ⟨by simp, lw + 1, 2, _, _, rfl, rfl, Fzl.snoc ?_⟩
          exact .cons .refl (.cons (.h mem0 .all (all_take rfl)) .nil)
        · dsimp only
          rw [hou, List.length_append, List.length_singleton]
          rfl
        · dsimp only
          rw [show oL (lw + 1) T.1.out = .arr (lw + 1) 2 (d.out.map rO ++ [rO ⟨d.id, V⟩]) by rw [oL, hou, List.map_append]; rfl]
          rfl
        · simp [scs, D.sc, scd59]
        · exact scHDs (by decide) _ _ _ (scoL _ _ _)
      by_cases hk6 : a.kind_ % 8 = 6
      case neg =>
        rw [if_neg (fun g => hk4 g.2), if_neg (fun g => hk6 g.2)] at hou
        refine exec_ok tab_ok mixed 1000 (bx := bxD ++ [false, true]) (own := []) ?_
        repeat' ((conv => whnf); first
          | refine And.intro (by decide) ?_ | refine And.intro (Nat.le_of_ble_eq_true rfl) ?_ | refine boolF_decf (by assumption) ?_)
        all_goals (conv => whnf)
        all_goals
          rw [hou]
          exact ⟨lw, Ghost.back [0, 5, 7, 39, 40, 41] 19 rfl rfl (Nat.zero_le _) (by simp [scs, D.sc, scd59]) (scHDs (by decide) _ _ _ (scoL _ _ _)), trivial⟩
      rw [if_neg (fun g => hk4 g.2), if_pos ⟨he, hk6⟩] at hou
      refine exec_ok tab_ok mixed 1000 (bx := bxD ++ [false, true]) (own := []) ?_
      repeat' ((conv => whnf); first
        | refine And.intro (by decide) ?_ | refine And.intro rfl ?_ | refine And.intro (Nat.le_of_ble_eq_true rfl) ?_ | refine boolF_dect (by assumption) ?_ | refine boolF_decf (by assumption) ?_)
      all_goals (conv => whnf)
      refine W_loopG (ι := Nat × Nat) (fun x => ⟨(.int .i64 n :: D.undef :: D.undef :: D.undef :: D.undef :: .p 0 dv 0 0 :: D.undef :: D.undef :: D.undef :: .p 19 0 0 0 :: D.undef :: D.undef :: D.undef :: D.undef :: .h 20 x.2 0 (delO a.i_ (d.out.take x.1)).length :: D.undef :: D.undef :: D.undef :: D.undef :: D.undef :: D.undef :: D.undef :: D.undef :: D.undef :: D.undef :: D.undef :: D.undef :: D.undef :: D.undef :: D.undef :: D.undef :: D.undef :: D.undef :: D.undef :: D.undef :: D.undef :: D.undef :: D.undef :: D.undef :: d59 script :: .int .i64 (script.length : Int) :: .int .i64 (i : Int) :: D.undef :: D.undef :: D.undef :: D.undef :: D.undef :: D.undef :: D.undef :: D.undef :: D.undef :: D.undef :: D.undef :: D.undef :: D.undef :: D.undef :: D.undef :: D.undef :: D.undef :: D.undef :: D.undef :: D.undef :: D.undef :: D.undef :: D.undef :: D.undef :: D.undef :: D.undef :: D.undef :: D.undef :: D.undef :: D.undef :: D.undef :: D.undef :: D.undef :: D.undef :: D.undef :: D.undef :: D.undef :: D.undef :: D.undef :: .h 18 lw 0 d.out.length :: .int .i64 (d.out.length : Int) :: .int .i64 (x.1 : Int) :: D.undef :: D.undef :: D.undef :: D.undef :: D.undef :: D.undef :: D.undef :: D.undef :: D.undef :: D.undef :: D.undef :: D.undef :: D.undef :: D.undef :: D.undef :: D.undef :: D.undef :: D.undef :: D.undef :: D.undef :: D.undef :: D.undef :: D.undef :: D.undef :: D.undef :: D.undef :: D.undef :: D.undef :: D.undef :: D.undef :: D.undef :: D.undef :: D.undef :: D.undef :: D.undef :: D.undef :: D.undef :: D.undef :: D.undef :: D.undef :: D.undef :: D.undef :: D.undef :: D.undef :: D.undef :: []), HD dv ov2 T.1 ++ [oL lw d.out, .arr 0 14 [d62 a], oL x.2 (delO a.i_ (d.out.take x.1))]⟩) (fun x => d.out.length - x.1)
        (fun x => x.1 ≤ d.out.length) (0, 0) ((Ghost.hold [0, 5, 9, 14, 39, 40, 41, 81, 82, 83] rfl).trans (Ghost.mat (t := 14) (sz := 2) rfl)) (Nat.zero_le _) ?_
      rintro ⟨j, kw⟩ j1
      dsimp only at j1 ⊢
      have hdl := (List.filter_sublist (p := fun x : Out => decide (x.id ≠ a.i_)) (l := d.out.take j)).length_le
      rw [List.length_take] at hdl
      have hdl' : (delO a.i_ (d.out.take j)).length ≤ 32 := by unfold delO; omega
      refine exec_ok tab_ok mixed 1000 (bx := bxD ++ [false, true, false]) (own := []) ?_
      rcases Nat.lt_or_ge j d.out.length with hj | hj
      · obtain ⟨x, hx⟩ := at_lt hj
        have hsn := delO_snoc (id := a.i_) hx
        obtain ⟨A, hA⟩ : ∃ A, A = delO a.i_ (d.out.take j) := ⟨_, rfl⟩
        rw [← hA] at hsn hdl' ⊢
        by_cases hxi : x.id = a.i_
        · rw [if_pos hxi] at hsn
          repeat' ((conv => whnf); first
            | refine Exists.intro _ (And.intro (map_at (by omega) hx) ?_) | refine And.intro (by rw [List.length_map]; omega) ?_ | refine And.intro (by decide) ?_ | refine And.intro rfl ?_ | refine And.intro (Nat.le_of_ble_eq_true rfl) ?_ | refine And.intro (by omega) ?_ | refine Exists.intro _ (And.intro (w64 (by omega) (by omega)) ?_) | refine boolF_not ?_ | refine boolF_dect (by assumption) ?_ | refine boolF_dect (by omega) ?_)
          all_goals (conv => whnf)
          refine ⟨(j + 1, kw), Ghost.back [0, 5, 9, 14, 39, 40, 41, 81, 82, 83] 21 ?_ ?_ (Nat.zero_le _) (by simp [scs, D.sc, scd59]) ?_, hj, by dsimp only; omega⟩
          · dsimp only
            rw [hsn]
            rfl
          · dsimp only
            rw [hsn]
            rfl
          · exact sc21 _ _ _ (scoL _ _ _) ⟨sc62 _ a, trivial⟩ (scoL _ _ _)
        · rw [if_neg hxi] at hsn
          repeat' ((conv => whnf); first
            | refine Exists.intro _ (And.intro (map_at (by omega) hx) ?_) | refine And.intro (by rw [List.length_map]; omega) ?_ | refine And.intro (by decide) ?_ | refine And.intro rfl ?_ | refine And.intro (Nat.le_of_ble_eq_true rfl) ?_ | refine And.intro (by omega) ?_ | refine And.intro (by simpa only [List.length_map, List.length_append, List.length_cons, List.length_nil] using rfl) ?_ | refine And.intro (okRows_one rfl rfl) ?_ | refine Exists.intro _ (And.intro (⟨len_one⟩) ?_) | refine Exists.intro _ (And.intro (⟨map_snoc⟩) ?_) | refine Exists.intro _ (And.intro (w64 (by omega) (by omega)) ?_)
            | refine boolF_not ?_ | refine boolF_decf (by assumption) ?_ | refine boolF_dect (by omega) ?_)
          all_goals (conv => whnf)
          refine ⟨(j + 1, kw + 1), Ghost.back [0, 5, 9, 14, 39, 40, 41, 81, 82, 83] 21 ?_ ?_ (Nat.zero_le _) (by simp [scs, D.sc, scd59]) ?_, hj, by dsimp only; omega⟩
          · dsimp only
            rw [hsn, List.length_append, List.length_singleton]
            rfl
          · dsimp only
            rw [show oL (kw + 1) (delO a.i_ (d.out.take (j + 1))) = .arr (kw + 1) 2 ((A ++ [x]).map rO) by rw [oL, hsn]]
            rfl
          · exact sc21 _ _ _ (scoL _ _ _) ⟨sc62 _ a, trivial⟩ (scoL _ _ _)
      · rw [List.take_of_length_le hj, ← hou]
        repeat' ((conv => whnf); first
          | refine boolF_decf (by omega) ?_)
        all_goals (conv => whnf)
        exact ⟨kw, (Ghost.hold [0, 5, 7, 39, 40, 41] rfl).trans (by
          have g2 := pickHD2 (k := 2) (t := 1) (dv := dv) (ov := ov2) (d := T.1) (H := HD dv ov2 T.1 ++ [oL lw d.out, .arr 0 14 [d62 a], oL kw T.1.out]) (F := [oL kw T.1.out]) (fl := [20]) rfl rfl (fun j hj => hd_atF dv ov2 T.1 _ hj) rfl (fun ob hob => by simp only [List.mem_singleton] at hob; subst hob; exact scoL _ _ _) (by decide)
            (s := (.int .i64 n :: D.undef :: D.undef :: D.undef :: D.undef :: .p 0 dv 0 0 :: D.undef :: .h 20 kw 0 T.1.out.length :: D.undef :: D.undef :: D.undef :: D.undef :: D.undef :: D.undef :: D.undef :: D.undef :: D.undef :: D.undef :: D.undef :: D.undef :: D.undef :: D.undef :: D.undef :: D.undef :: D.undef :: D.undef :: D.undef :: D.undef :: D.undef :: D.undef :: D.undef :: D.undef :: D.undef :: D.undef :: D.undef :: D.undef :: D.undef :: D.undef :: D.undef :: d59 script :: .int .i64 (script.length : Int) :: .int .i64 (i : Int) :: D.undef :: D.undef :: D.undef :: D.undef :: D.undef :: D.undef :: D.undef :: D.undef :: D.undef :: D.undef :: D.undef :: D.undef :: D.undef :: D.undef :: D.undef :: D.undef :: D.undef :: D.undef :: D.undef :: D.undef :: D.undef :: D.undef :: D.undef :: D.undef :: D.undef :: D.undef :: D.undef :: D.undef :: D.undef :: D.undef :: D.undef :: D.undef :: D.undef :: D.undef :: D.undef :: D.undef :: D.undef :: D.undef :: D.undef :: D.undef :: D.undef :: D.undef :: D.undef :: D.undef :: D.undef :: D.undef :: D.undef :: D.undef :: D.undef :: D.undef :: D.undef :: D.undef :: D.undef :: D.undef :: D.undef :: D.undef :: D.undef :: D.undef :: D.undef :: D.undef :: D.undef :: D.undef :: D.undef :: D.undef :: D.undef :: D.undef :: D.undef :: D.undef :: D.undef :: D.undef :: D.undef :: D.undef :: D.undef :: D.undef :: D.undef :: D.undef :: D.undef :: D.undef :: D.undef :: D.undef :: D.undef :: D.undef :: D.undef :: D.undef :: D.undef :: D.undef :: D.undef :: [])) (s' := (.int .i64 n :: D.undef :: D.undef :: D.undef :: D.undef :: .p 0 dv 0 0 :: D.undef :: .h 18 kw 0 T.1.out.length :: D.undef :: D.undef :: D.undef :: D.undef :: D.undef :: D.undef :: D.undef :: D.undef :: D.undef :: D.undef :: D.undef :: D.undef :: D.undef :: D.undef :: D.undef :: D.undef :: D.undef :: D.undef :: D.undef :: D.undef :: D.undef :: D.undef :: D.undef :: D.undef :: D.undef :: D.undef :: D.undef :: D.undef :: D.undef :: D.undef :: D.undef :: d59 script :: .int .i64 (script.length : Int) :: .int .i64 (i : Int) :: D.undef :: D.undef :: D.undef :: D.undef :: D.undef :: D.undef :: D.undef :: D.undef :: D.undef :: D.undef :: D.undef :: D.undef :: D.undef :: D.undef :: D.undef :: D.undef :: D.undef :: D.undef :: D.undef :: D.undef :: D.undef :: D.undef :: D.undef :: D.undef :: D.undef :: D.undef :: D.undef :: D.undef :: D.undef :: D.undef :: D.undef :: D.undef :: D.undef :: D.undef :: D.undef :: D.undef :: D.undef :: D.undef :: D.undef :: D.undef :: D.undef :: D.undef :: D.undef :: D.undef :: D.undef :: D.undef :: D.undef :: D.undef :: D.undef :: D.undef :: D.undef :: D.undef :: D.undef :: D.undef :: D.undef :: D.undef :: D.undef :: D.undef :: D.undef :: D.undef :: D.undef :: D.undef :: D.undef :: D.undef :: D.undef :: D.undef :: D.undef :: D.undef :: D.undef :: D.undef :: D.undef :: D.undef :: D.undef :: D.undef :: D.undef :: D.undef :: D.undef :: D.undef :: D.undef :: D.undef :: D.undef :: D.undef :: D.undef :: D.undef :: D.undef :: D.undef :: D.undef :: [])) (by simp only [renL, ren59, ren]; rfl) (by simp [scs, D.sc, scd59])
          exact g2), trivial⟩
    · rintro lw' _
      have hdo2 := hd2.out
      refine exec_ok tab_ok mixed 1000 (bx := bxD ++ [false]) (own := []) ?_
      (conv => whnf)
      refine lookN.call (f18_at dv ov2 hd2) [_] (fun w => ?_)
      repeat' ((conv => whnf); first
        | refine And.intro rfl ?_ | refine boolF_t (beq_self_eq_true _) ?_ | refine boolF_not ?_)
      all_goals (conv => whnf)
      refine W_loopG (ι := Nat) (fun q => ⟨(.int .i64 n :: D.undef :: D.undef :: D.undef :: D.undef :: .p 0 dv 0 0 :: D.undef :: .h 18 lw' 0 T.1.out.length :: D.undef :: D.undef :: D.undef :: D.undef :: D.undef :: D.undef :: D.undef :: D.undef :: D.undef :: D.undef :: D.undef :: D.undef :: D.undef :: D.undef :: D.undef :: D.undef :: D.undef :: D.undef :: D.undef :: D.undef :: D.undef :: D.undef :: D.undef :: D.undef :: D.undef :: D.undef :: D.undef :: D.undef :: D.undef :: D.undef :: D.undef :: d59 script :: .int .i64 (script.length : Int) :: .int .i64 (i : Int) :: D.undef :: D.undef :: D.undef :: D.undef :: D.undef :: D.undef :: D.undef :: D.undef :: D.undef :: D.undef :: D.undef :: D.undef :: D.undef :: D.undef :: D.undef :: D.undef :: D.undef :: D.undef :: D.undef :: D.undef :: D.undef :: D.undef :: D.undef :: D.undef :: D.undef :: D.undef :: D.undef :: D.undef :: D.undef :: D.undef :: D.undef :: D.undef :: D.undef :: D.undef :: D.undef :: D.undef :: D.undef :: D.undef :: D.undef :: D.undef :: D.undef :: D.undef :: D.undef :: D.undef :: D.undef :: D.undef :: D.undef :: D.undef :: D.undef :: D.undef :: D.undef :: D.undef :: D.undef :: D.undef :: D.undef :: D.undef :: D.undef :: D.undef :: D.undef :: D.undef :: D.undef :: D.undef :: .h 18 lw' 0 T.1.out.length :: .int .i64 (T.1.out.length : Int) :: .int .i64 (q : Int) :: D.undef :: D.undef :: D.undef :: D.undef :: D.undef :: D.undef :: D.undef :: D.undef :: D.undef :: D.undef :: D.undef :: D.undef :: D.undef :: D.undef :: D.undef :: D.undef :: D.undef :: D.undef :: D.undef :: D.undef :: D.undef :: D.undef :: []), HD dv ov2 T.1 ++ [oL lw' T.1.out]⟩) (fun q => T.1.out.length - q)
        (fun q => q ≤ T.1.out.length) 0 (Ghost.back [0, 5, 7, 39, 40, 41, 104, 105, 106] 19 rfl rfl (Nat.zero_le _) (by simp [scs, D.sc, scd59]) (scHDs (by decide) _ _ _ (scoL _ _ _))) (Nat.zero_le _) ?_
      rintro q q1
      refine exec_ok tab_ok mixed 1000 (bx := bxD ++ [false]) (own := []) ?_
      rcases Nat.lt_or_ge q T.1.out.length with hq | hq
      · obtain ⟨x, hx⟩ := at_lt hq
        have hmem := List.mem_of_getElem? hx
        have hvl := hd2.outv x hmem
        rw [hn2] at hvl hd2n
        have hrd := f19_at dv ov2 hd2 hmem (out_uniq hd2 hmem) 0 n (read_full hvl hd2n)
        have h22 := f22_ok x.v x.v (by omega) (by omega)
        rw [decide_eq_true rfl] at h22
        repeat' ((conv => whnf); first
          | refine Exists.intro _ (And.intro (map_at (by omega) hx) ?_) | refine And.intro (by rw [List.length_map]; omega) ?_ | refine And.intro (by decide) ?_ | refine And.intro rfl ?_ | refine And.intro (Nat.le_of_ble_eq_true rfl) ?_ | refine And.intro (by omega) ?_ | refine boolF_dect (by omega) ?_)
        all_goals (conv => whnf)
        refine lookN.call hrd [_, _] (fun w2 => ?_)
        repeat' ((conv => whnf); first
          | refine And.intro (by decide) ?_ | refine And.intro (Nat.le_of_ble_eq_true rfl) ?_)
        all_goals (conv => whnf)
        refine Pure.seeK h22 [(20, .arr w2 1 (x.v.map r56))] (fact1 rfl) (.cons (.h mem0 (.all (scr56 _ _)) (all_take rfl)) (.cons (.same (scd35 0 x.v)) .nil)) trivial trivial ?_
        repeat' ((conv => whnf); first
          | refine Exists.intro _ (And.intro (w64 (by omega) (by omega)) ?_))
        all_goals (conv => whnf)
        exact ⟨q + 1, Ghost.back [0, 5, 7, 39, 40, 41, 104, 105, 106] 19 rfl rfl (Nat.zero_le _) (by simp [scs, D.sc, scd59]) (scHDs (by decide) _ _ _ (scoL _ _ _)), hq, by omega⟩
      · repeat' ((conv => whnf); first
          | refine Exists.intro _ (And.intro (w64 (by omega) (by omega)) ?_) | refine boolF_decf (by omega) ?_)
        all_goals (conv => whnf)
        exact ⟨(i + 1, ov2, lw', T.1), Ghost.hold [0, 5, 7, 39, 40, 41] rfl, ⟨h, hd2, hn2⟩, by dsimp only; omega⟩
  · refine exec_ok tab_ok mixed 1000 (bx := bxD ++ [false]) (own := []) ?_
    repeat' ((conv => whnf); first
      | refine boolF_decf (by omega) ?_)
    all_goals (conv => whnf)
    exact ⟨rfl⟩

end Go.Proofs.Ytgigpjkdfhhahaa

