import Derived.Test.YtbefmodpgecfgaaD4
namespace Go.Proofs.Ytbefmodpgecfgaa
open Go.A
set_option linter.unusedVariables false
set_option linter.unusedSimpArgs false
set_option linter.unnecessarySimpa false
attribute [local irreducible] IntKind.wrap bitsI
set_option maxRecDepth 100000
set_option maxHeartbeats 4000000

/-- The plates, where of the cache what stands at these places is laid. -/
def metB (s : Dk) (d : List Nat) (k : Nat) : Bool := d.any fun i => match s.cache[i]? with | some p => p.1 == k | none => false
def plD (s : Dk) (d : List Nat) : List (List Nat) := (List.range s.plate.length).map fun k => if metB s d k then lookM s k else s.plate.getD k []
theorem plD_len (s : Dk) (d : List Nat) : (plD s d).length = s.plate.length := by simp [plD]
theorem plD_nil (s : Dk) : plD s [] = s.plate := by
  apply List.ext_getElem?
  intro k
  simp only [plD, List.getElem?_map]
  rcases Nat.lt_or_ge k s.plate.length with h | h
  · rw [List.getElem?_range h, List.getElem?_eq_getElem h]
    simp [metB, List.getD_eq_getElem?_getD, h]
  · rw [List.getElem?_eq_none (by simpa using h), List.getElem?_eq_none h]; rfl
theorem find_key {i : Nat} {p : Nat × List Nat} : ∀ {l : List (Nat × List Nat)}, (l.map (·.1)).Nodup → l[i]? = some p → findC p.1 l = some p.2
  | [], _, h => by simp at h
  | y :: r, hn, h => by
    rw [findC]
    simp only [List.map_cons, List.nodup_cons] at hn
    cases i with
    | zero => simp at h; subst h; rw [if_pos rfl]
    | succ i =>
      simp at h
      have hm : p.1 ∈ r.map (·.1) := List.mem_map_of_mem (List.mem_of_getElem? h)
      rw [if_neg (fun e : y.1 = p.1 => hn.1 (by rw [e]; exact hm))]
      exact find_key hn.2 h
theorem plD_step {s : Dk} (hs : OkK s) {d : List Nat} {i : Nat} {p : Nat × List Nat} (h : s.cache[i]? = some p) : ((plD s d).map sD).set p.1 (sD p.2) = (plD s (d ++ [i])).map sD := by
  rw [← List.map_set]
  congr 1
  apply List.ext_getElem?
  intro k
  have hf := find_key hs.keys h
  have hlook : lookM s p.1 = p.2 := by rw [lookM, hf]; rfl
  have hm : metB s (d ++ [i]) k = (metB s d k || p.1 == k) := by simp [metB, h]
  by_cases e : p.1 = k
  · subst e
    have hlt := (hs.cache _ (List.mem_of_getElem? h)).1
    rw [List.getElem?_set_self (by rw [plD_len]; exact hlt)]
    simp only [plD, List.getElem?_map, List.getElem?_range hlt, Option.map_some, hm]
    simp [hlook]
  · rw [List.getElem?_set_ne e]
    simp only [plD, List.getElem?_map]
    rcases Nat.lt_or_ge k s.plate.length with hk | hk
    · rw [List.getElem?_range hk]
      simp only [Option.map_some, hm]
      simp [e]
    · rw [List.getElem?_eq_none (by simpa using hk)]; rfl
def allM (s : Dk) : List (List Nat) := (List.range s.plate.length).map (lookM s)
theorem plD_all {s : Dk} (hs : OkK s) {d : List Nat} (h : ∀ i, i < s.cache.length → i ∈ d) : plD s d = allM s := by
  apply List.map_congr_left
  intro k hk
  by_cases e : metB s d k
  · rw [if_pos e]
  · rw [if_neg e]
    cases hf : findC k s.cache with
    | none =>
      rw [lookM, hf]; rfl
    | some x =>
      obtain ⟨i, hi⟩ := List.getElem?_of_mem (findC_mem hf)
      have := (List.getElem?_eq_some_iff.mp hi).1
      exfalso
      apply e
      simp only [metB, List.any_eq_true]
      exact ⟨i, h i this, by rw [hi]; simp⟩
theorem plD_sec {s : Dk} (hs : OkK s) {d : List Nat} : ∀ x ∈ plD s d, x.length = 64 := fun x hx => by
  obtain ⟨k, hk, rfl⟩ := List.mem_map.mp hx
  have hk' : k < s.plate.length := by simpa using hk
  split
  · exact lookM_len hs hk'
  · rw [List.getD_eq_getElem?_getD, List.getElem?_eq_getElem hk']
    exact hs.plate _ (List.getElem_mem hk')

def flushM (s : Dk) : Int × Dk := if (stepM s).1 = false then (8, (stepM s).2) else (0, { (stepM s).2 with plate := allM (stepM s).2, cache := [] })

theorem f17_ok (s : Dk) (hs : OkK s) : TurnsK 17 [] s (.int .i64 (flushM s).1) (flushM s).2 := by
  refine TurnsK.of trivial ?_
  rw [flushM]
  have h33 := f33_ok s hs
  have hs' := stepM_ok hs
  obtain ⟨B, hB⟩ : ∃ B, B = stepM s := ⟨_, rfl⟩
  rw [← hB] at h33 hs' ⊢
  refine CallsIn.of_execN 14 tab_ok mixed Try.func17 rfl rfl [] [true, false, false] ?_
  (conv => whnf)
  refine TurnsK.call (f31_ok s) 0 1 2 (by decide) trivial trivial rfl rfl rfl ?_
  (conv => whnf)
  refine TurnsK.call h33 0 1 2 (by decide) trivial trivial rfl rfl rfl ?_
  rcases bool_cases B.1 with hb1 | hb1
  case inr =>
    rw [if_pos hb1]
    repeat' ((conv => whnf); first
      | refine boolF_not ?_ | refine boolF_f (by assumption) ?_)
    all_goals (conv => whnf)
    exact ⟨⟨_, _, Ghost.refl _ _ _, rfl, rfl⟩⟩
  rw [if_neg (by simp [hb1])]
  repeat' ((conv => whnf); first
    | refine boolF_not ?_ | refine boolF_t (by assumption) ?_)
  all_goals (conv => whnf)
  refine W_region ?_
  refine runS_pre tab_ok (own := []) (bx := [true, false, false]) (j := 4) (i := 0) (X := fun s' H' bx' => s' = s' ∧ W Try.prog 3 _ ⟨s', H'⟩ _) (fun s H bx h => h.2) (pre := List.take 4 _) (post := List.drop 4 _) (List.take_append_drop 4 _).symm rfl rfl ?_
  repeat' ((conv => whnf); first
    | refine And.intro (by decide) ?_ | refine And.intro rfl ?_ | refine And.intro (Nat.le_of_ble_eq_true rfl) ?_)
  all_goals (conv => whnf)
  refine W_stamps (om := 2) rfl (fun bs ck hbs => ?_)
  have hkeys := hs'.keys
  refine W_mapRange tab_ok (j5 := 4) (n' := 3) (es := B.2.cache.map eD) (bs := bs) (ck := ck) (om := 2) (tm := 16) rfl rfl rfl rfl rfl rfl rfl rfl rfl rfl rfl rfl rfl rfl rfl rfl rfl rfl
    (fun v d => ⟨(.p 0 0 0 0 :: D.undef :: D.undef :: D.undef :: D.undef :: D.undef :: D.undef :: D.undef :: D.undef :: D.undef :: D.undef :: D.undef :: D.undef :: D.undef :: D.undef :: D.undef :: .map 2 :: .raw v :: D.undef :: D.undef :: D.undef :: D.undef :: D.undef :: D.undef :: D.undef :: D.undef :: D.undef :: D.undef :: D.undef :: D.undef :: D.undef :: D.undef :: D.undef :: D.undef :: []), [oS 1 2 B.2, .arr 0 64 ((plD B.2 d).map sD), .mapx (B.2.cache.map eD) (some (bs, ck))]⟩) (fun v => Ghost.hold [0, 16, 17] (by rw [plD_nil]; rfl)) (fun v d => rfl) (fun v d => rfl) (fun v d => rfl) (fun v d => rfl) (fun v d => ⟨show 18 < 34 by decide, show 19 < 34 by decide⟩) (by decide) ?_ ?_
  · intro v d i kd vd hi hid hd
    rw [List.getElem?_map] at hi
    cases hp : B.2.cache[i]? with
    | none => rw [hp] at hi; cases hi
    | some p =>
    rw [hp] at hi
    cases hi
    obtain ⟨hp1, hp2⟩ := hs'.cache p (List.mem_of_getElem? hp)
    obtain ⟨row, hrow⟩ := at_lt (l := plD B.2 d) (i := p.1) (by rw [plD_len]; exact hp1)
    have hrl := plD_sec hs' row (List.mem_of_getElem? hrow)
    refine runS_ok tab_ok (own := []) (bx := [true, false, false]) (i := 1) (X := fun s' H' bx' => exec Try.prog tab 3 [] 1000 _ s' H' bx' _) (fun s H bx h => exec_ok tab_ok mixed 1000 h) rfl rfl ?_
    repeat' ((conv => whnf); first
      | refine PairK.mk (by kernel_rfl) ?_ | refine boolK_of (sec_beq hp2) ?_ | refine boolK_of (sec_all p.2) ?_ | refine listK_of (sec_splice hp2 rfl) ?_ | refine listK_of (sec_splice hp2 (show (row.map r5).length = 64 by rw [List.length_map]; exact hrl)) ?_ | refine mkRowK_sec hp2 ?_ | refine Exists.intro _ (And.intro (map_at (by omega) hrow) ?_) | refine sec_take hp2 ?_ | refine And.intro (by rw [List.length_map, plD_len]; omega) ?_ | refine And.intro (by decide) ?_ | refine And.intro rfl ?_ | refine And.intro (Nat.le_of_ble_eq_true rfl) ?_ | refine And.intro (by omega) ?_)
    all_goals (conv => whnf)
    refine Ghost.back [0, 16, 17] 3 rfl (by
      rw [← plD_step hs' hp, List.take_succ_cons, List.take_succ_cons, List.take_succ_cons, Nat.zero_add]; rfl) (Nat.le_refl _) ?_ (fun ob hob => ?_)
    · exact ⟨show 0 < 3 by decide, trivial, trivial, trivial, trivial, trivial, trivial, trivial, trivial, trivial, trivial, trivial, trivial, trivial, trivial, trivial, show 2 < 3 by decide, trivial, trivial, trivial, trivial, trivial, trivial, trivial, trivial, trivial, trivial, trivial, trivial, trivial, trivial, trivial, trivial, trivial, trivial⟩
    · simp only [List.mem_cons, List.not_mem_nil, or_false] at hob
      rcases hob with rfl | rfl | rfl
      · exact oscK B.2 _ List.mem_cons_self
      · show scs 3 (List.map sD _)
        rw [scs_map]; intro x _; exact scsD _ _
      · intro e he
        obtain ⟨p, _, rfl⟩ := List.mem_map.mp he
        exact ⟨trivial, scsD _ _⟩
  · intro v d hall hd
    rw [plD_all hs' (fun i hi => hall i (by rw [List.length_map]; exact hi))]
    refine W_ghost (Ghost.unstamp (om := 2) (es := B.2.cache.map eD) rfl) ?_
    refine exec_ok tab_ok mixed 1000 (bx := [true, false, false]) (own := []) ?_
    repeat' ((conv => whnf); first
      | refine And.intro (by decide) ?_ | refine And.intro (Nat.le_of_ble_eq_true rfl) ?_)
    all_goals (conv => whnf)
    refine ⟨⟨_, _, Ghost.refl _ _ _, rfl, ?_⟩⟩
    show [oS 1 2 B.2, .arr 0 64 ((allM B.2).map sD), .map []] = oK { B.2 with plate := allM B.2, cache := [] }
    simp only [oK, oS, rowK, oP, oM, allM, List.length_map, List.length_range]
    rfl

end Go.Proofs.Ytbefmodpgecfgaa

