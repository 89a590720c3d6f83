import Derived.Test.YtbefmodpgecfgaaD5
namespace Go.Proofs.Ytbefmodpgecfgaa
open Go.A
set_option linter.unusedVariables false
set_option linter.unusedSimpArgs false
set_option linter.unnecessarySimpa false
attribute [local irreducible] IntKind.wrap bitsI
set_option maxRecDepth 100000
set_option maxHeartbeats 4000000

/-- How many of the first sectors are in the cache. -/
def cntC (s : Dk) : Nat → Nat
  | 0 => 0
  | i + 1 => cntC s i + (if (findC i s.cache).isSome then 1 else 0)
theorem cntC_le (s : Dk) : ∀ i, cntC s i ≤ i
  | 0 => Nat.le_refl _
  | i + 1 => by
    have := cntC_le s i
    rw [cntC]
    split <;> omega
def keptB (s : Dk) (keep : List Bool) (j : Nat) : Bool := (findC j s.cache).isSome && keep.getD (cntC s j) false
def plS (s : Dk) (keep : List Bool) (i : Nat) : List (List Nat) := (List.range s.plate.length).map fun j => if j < i ∧ keptB s keep j = true then lookM s j else s.plate.getD j []
theorem plS_len (s : Dk) (keep : List Bool) (i : Nat) : (plS s keep i).length = s.plate.length := by simp [plS]
theorem plS_zero (s : Dk) (keep : List Bool) : plS s keep 0 = s.plate := by
  apply List.ext_getElem?
  intro k
  simp only [plS, List.getElem?_map]
  rcases Nat.lt_or_ge k s.plate.length with h | h
  · rw [List.getElem?_range h, List.getElem?_eq_getElem h]
    simp [List.getD_eq_getElem?_getD, h]
  · rw [List.getElem?_eq_none (by simpa using h), List.getElem?_eq_none h]; rfl
theorem plS_sec {s : Dk} (hs : OkK s) {keep : List Bool} {i : Nat} : ∀ x ∈ plS s keep i, x.length = 64 := fun x hx => by
  obtain ⟨k, hk, rfl⟩ := List.mem_map.mp hx
  have hk' : k < s.plate.length := by simpa using hk
  split
  · exact lookM_len hs hk'
  · rw [List.getD_eq_getElem?_getD, List.getElem?_eq_getElem hk']
    exact hs.plate _ (List.getElem_mem hk')
theorem plS_not {s : Dk} {keep : List Bool} {i : Nat} (h : keptB s keep i = false) : plS s keep (i + 1) = plS s keep i := by
  apply List.map_congr_left
  intro k _
  by_cases e : k = i
  · subst e
    rw [if_neg (by simp [h]), if_neg (by simp)]
  · by_cases h2 : k < i ∧ keptB s keep k = true
    · rw [if_pos h2, if_pos ⟨by omega, h2.2⟩]
    · rw [if_neg h2, if_neg (fun h3 => h2 ⟨by omega, h3.2⟩)]
theorem plS_put {s : Dk} {keep : List Bool} {i : Nat} {x : List Nat} (hi : i < s.plate.length) (h : keptB s keep i = true) (hx : findC i s.cache = some x) : ((plS s keep i).map sD).set i (sD x) = (plS s keep (i + 1)).map sD := by
  rw [← List.map_set]
  congr 1
  apply List.ext_getElem?
  intro k
  have hlook : lookM s i = x := by rw [lookM, hx]; rfl
  by_cases e : i = k
  · subst e
    rw [List.getElem?_set_self (by rw [plS_len]; exact hi)]
    simp only [plS, List.getElem?_map, List.getElem?_range hi, Option.map_some]
    rw [if_pos ⟨Nat.lt_succ_self _, h⟩, hlook]
  · rw [List.getElem?_set_ne e]
    simp only [plS, List.getElem?_map]
    rcases Nat.lt_or_ge k s.plate.length with hk | hk
    · rw [List.getElem?_range hk]
      simp only [Option.map_some]
      congr 1
      by_cases h2 : k < i ∧ keptB s keep k = true
      · rw [if_pos h2, if_pos ⟨by omega, h2.2⟩]
      · rw [if_neg h2, if_neg (fun h3 => h2 ⟨by omega, h3.2⟩)]
    · rw [List.getElem?_eq_none (by simpa using hk)]; rfl
def startM (s : Dk) (keep : List Bool) : Int × Dk := if s.off = false then (11, s) else (0, ⟨plS s keep s.plate.length, [], false, false, s.fuse⟩)

theorem scd28 (k : Nat) (l : List Bool) : (d28 l).sc k := by
  show scs k (l.map r4)
  rw [scs_map]; intro x _; trivial
theorem sc3 (P : List (List Nat)) (s : Dk) : ∀ ob ∈ [oS 1 2 s, .arr 0 64 (P.map sD), oM s], ob.sc 3 := fun ob hob => by
  simp only [List.mem_cons, List.not_mem_nil, or_false] at hob
  rcases hob with rfl | rfl | rfl
  · exact oscK s _ List.mem_cons_self
  · show scs 3 (List.map sD _)
    rw [scs_map]; intro x _; exact scsD _ _
  · intro e he
    obtain ⟨p, _, rfl⟩ := List.mem_map.mp he
    exact ⟨trivial, scsD _ _⟩

theorem f23_ok (s : Dk) (keep : List Bool) (hs : OkK s) (hk : keep.length ≤ 140737488351232) : TurnsK 23 [d28 keep] s (.int .i64 (startM s keep).1) (startM s keep).2 := by
  refine TurnsK.of ⟨scd28 _ _, trivial⟩ ?_
  rw [startM]
  have hn := hs.n
  refine CallsIn.of_exec tab_ok mixed Try.func23 rfl rfl [] [true, false, false] ?_
  (conv => whnf)
  refine TurnsK.call (f31_ok s) 0 1 2 (by decide) trivial trivial rfl rfl rfl ?_
  rcases bool_cases s.off with ho | ho
  case inr =>
    rw [if_pos ho]
    repeat' ((conv => whnf); first
      | refine And.intro (by decide) ?_ | refine And.intro (Nat.le_of_ble_eq_true rfl) ?_ | refine boolF_not ?_ | refine boolF_f (by assumption) ?_)
    all_goals (conv => whnf)
    exact ⟨⟨_, _, Ghost.refl _ _ _, rfl, rfl⟩⟩
  rw [if_neg (by simp [ho])]
  repeat' ((conv => whnf); first
    | refine And.intro (by decide) ?_ | refine And.intro (Nat.le_of_ble_eq_true rfl) ?_ | refine boolF_not ?_ | refine boolF_t (by assumption) ?_)
  all_goals (conv => whnf)
  refine W_loopG (ι := Nat) (fun i => ⟨(.p 0 0 0 0 :: d28 keep :: D.undef :: D.undef :: D.undef :: .int .i64 (cntC s i : Int) :: D.undef :: D.undef :: D.undef :: D.undef :: D.undef :: D.undef :: D.undef :: D.undef :: D.undef :: D.undef :: D.undef :: D.undef :: D.undef :: D.undef :: D.undef :: D.undef :: D.undef :: .int .i64 (s.plate.length : Int) :: .int .i64 (i : Int) :: D.undef :: D.undef :: D.undef :: D.undef :: D.undef :: D.undef :: D.undef :: D.undef :: D.undef :: D.undef :: D.undef :: D.undef :: D.undef :: D.undef :: D.undef :: D.undef :: D.undef :: D.undef :: D.undef :: D.undef :: D.undef :: D.undef :: D.undef :: D.undef :: D.undef :: D.undef :: D.undef :: D.undef :: D.undef :: D.undef :: D.undef :: D.undef :: D.undef :: D.undef :: D.undef :: D.undef :: D.undef :: D.undef :: D.undef :: D.undef :: D.undef :: D.undef :: D.undef :: []), [oS 1 2 s, .arr 0 64 ((plS s keep i).map sD), oM s]⟩) (fun i => s.plate.length - i) (fun i => i ≤ s.plate.length) 0 (Ghost.hold [0, 1, 5, 23, 24] (by rw [plS_zero]; rfl)) (Nat.zero_le _) ?_
  intro i i1
  have hc := cntC_le s i
  refine exec_ok tab_ok mixed 1000 (bx := [true, false, false]) (own := []) ?_
  rcases Nat.lt_or_ge i s.plate.length with g | g
  · have hfm := find_map i s.cache
    cases hf : findC i s.cache with
    | none =>
      rw [hf] at hfm
      have hkn : keptB s keep i = false := by rw [keptB, hf]; rfl
      have hcn : cntC s (i + 1) = cntC s i := by rw [cntC, hf]; rfl
      repeat' ((conv => whnf); first
        | refine And.intro (keyOkC _ _) ?_ | refine look_none hfm ?_ | refine And.intro (by decide) ?_ | refine And.intro (Nat.le_of_ble_eq_true rfl) ?_ | refine Exists.intro _ (And.intro (w64 (by omega) (by omega)) ?_) | refine boolF_dect (by omega) ?_)
      all_goals (conv => whnf)
      refine ⟨i + 1, Ghost.back [0, 1, 5, 23, 24] 3 (by rw [hcn]; rfl) (by rw [plS_not hkn]; rfl) (Nat.le_refl _) (by simp [scs, D.sc, scd28]) (sc3 _ _), g, by omega⟩
    | some x =>
      rw [hf] at hfm
      have hx := (hs.cache _ (findC_mem hf)).2
      dsimp only at hx
      have hcn : cntC s (i + 1) = cntC s i + 1 := by rw [cntC, hf]; rfl
      obtain ⟨row, hrow⟩ := at_lt (l := plS s keep i) (i := i) (by rw [plS_len]; exact g)
      have hrl := plS_sec hs row (List.mem_of_getElem? hrow)
      by_cases hk1 : cntC s i < keep.length
      · obtain ⟨b, hb⟩ := at_lt hk1
        have hkb : keptB s keep i = b := by rw [keptB, hf, List.getD_eq_getElem?_getD, hb]; rfl
        cases b with
        | true =>
          repeat' ((conv => whnf); first
            | refine PairK.mk (by kernel_rfl) ?_ | refine And.intro (keyOkC _ _) ?_ | refine look_some hfm ?_ | refine boolK_of (sec_beq hx) ?_ | refine boolK_of (sec_all x) ?_ | refine listK_of (sec_splice hx rfl) ?_ | refine listK_of (sec_splice hx (show (row.map r5).length = 64 by rw [List.length_map]; exact hrl)) ?_ | refine mkRowK_sec hx ?_ | refine Exists.intro _ (And.intro (map_at (by omega) hb) ?_) | refine Exists.intro _ (And.intro (map_at (by omega) hrow) ?_) | refine sec_take hx ?_ | refine And.intro (by rw [List.length_map, plS_len]; omega) ?_ | refine And.intro (by decide) ?_
            | refine And.intro (Nat.le_of_ble_eq_true rfl) ?_ | refine And.intro (by omega) ?_ | refine Exists.intro _ (And.intro (⟨(List.length_map _).symm⟩) ?_) | refine Exists.intro _ (And.intro (w64 (by omega) (by omega)) ?_) | refine boolF_dect (by omega) ?_)
          all_goals (conv => whnf)
          exact ⟨i + 1, Ghost.back [0, 1, 5, 23, 24] 3 (by rw [hcn]; rfl) (by
            rw [← plS_put g hkb hf, List.take_succ_cons, List.take_succ_cons, List.take_succ_cons, Nat.zero_add]; rfl) (Nat.le_refl _) (by simp [scs, D.sc, scd28]) (sc3 _ _), g, by omega⟩
        | false =>
          repeat' ((conv => whnf); first
            | refine And.intro (keyOkC _ _) ?_ | refine look_some hfm ?_ | refine boolK_of (sec_beq hx) ?_ | refine boolK_of (sec_all x) ?_ | refine listK_of (sec_splice hx rfl) ?_ | refine mkRowK_sec hx ?_ | refine Exists.intro _ (And.intro (map_at (by omega) hb) ?_) | refine And.intro (by decide) ?_ | refine And.intro (Nat.le_of_ble_eq_true rfl) ?_ | refine And.intro (by omega) ?_ | refine Exists.intro _ (And.intro (⟨(List.length_map _).symm⟩) ?_) | refine Exists.intro _ (And.intro (w64 (by omega) (by omega)) ?_) | refine boolF_dect (by omega) ?_)
          all_goals (conv => whnf)
          exact ⟨i + 1, Ghost.back [0, 1, 5, 23, 24] 3 (by rw [hcn]; rfl) (by rw [plS_not hkb]; rfl) (Nat.le_refl _) (by simp [scs, D.sc, scd28]) (sc3 _ _), g, by omega⟩
      · have hkb : keptB s keep i = false := by rw [keptB, hf, List.getD_eq_getElem?_getD, List.getElem?_eq_none (by omega)]; rfl
        repeat' ((conv => whnf); first
          | refine And.intro (keyOkC _ _) ?_ | refine look_some hfm ?_ | refine boolK_of (sec_beq hx) ?_ | refine boolK_of (sec_all x) ?_ | refine listK_of (sec_splice hx rfl) ?_ | refine mkRowK_sec hx ?_ | refine And.intro (by decide) ?_ | refine And.intro (Nat.le_of_ble_eq_true rfl) ?_ | refine Exists.intro _ (And.intro (⟨(List.length_map _).symm⟩) ?_) | refine Exists.intro _ (And.intro (w64 (by omega) (by omega)) ?_) | refine boolF_dect (by omega) ?_ | refine boolF_decf (by omega) ?_)
        all_goals (conv => whnf)
        exact ⟨i + 1, Ghost.back [0, 1, 5, 23, 24] 3 (by rw [hcn]; rfl) (by rw [plS_not hkb]; rfl) (Nat.le_refl _) (by simp [scs, D.sc, scd28]) (sc3 _ _), g, by omega⟩
  · obtain rfl : i = s.plate.length := by omega
    repeat' ((conv => whnf); first
      | refine And.intro (by decide) ?_ | refine And.intro (Nat.le_of_ble_eq_true rfl) ?_ | refine boolF_decf (by omega) ?_)
    all_goals (conv => whnf)
    refine ⟨⟨_, _, Ghost.refl _ _ _, rfl, ?_⟩⟩
    show [AObj.arr 0 5 [.agg [.h 1 0 0 s.plate.length, .map 2, .bool false, .bool false, .int .i64 s.fuse]], .arr 0 64 ((plS s keep s.plate.length).map sD), .map []] = oK ⟨plS s keep s.plate.length, [], false, false, s.fuse⟩
    simp only [oK, oS, rowK, oP, oM, plS_len]
    rfl

end Go.Proofs.Ytbefmodpgecfgaa

