import Derived.Test.YtbefmodpgecfgaaD3
namespace Go.Proofs.Ytbefmodpgecfgaa
open Go.A
set_option linter.unusedVariables false
set_option linter.unusedSimpArgs false
set_option linter.unnecessarySimpa false
attribute [local irreducible] IntKind.wrap bitsI
set_option maxRecDepth 100000
set_option maxHeartbeats 4000000

theorem f35_ok (l : List Nat) (hlen : l.length ≤ 64) : Owned Try.prog 35 [d34 l] 1 (l.map r5) := by
  refine Owned.of ⟨scr5 _ _, trivial⟩ (scr5 _ _) ?_
  refine CallsIn.of_exec tab_ok mixed Try.func35 rfl rfl [5] [] ?_
  cases l with
  | nil =>
    repeat' ((conv => whnf); first
      | refine And.intro (okRows_map (fun _ _ => ⟨rfl, rfl⟩)) ?_ | refine And.intro (by decide) ?_ | refine Exists.intro _ (And.intro (⟨len_more⟩) ?_) | refine Exists.intro _ (And.intro (⟨Eq.refl (α := List D) _⟩) ?_) | refine Both.mk ?_ ?_)
    all_goals (conv => whnf)
    · exact ⟨0, Ghost.mat (t := 0) rfl⟩
    · exact ⟨1, Ghost.refl _ _ _⟩
  | cons x l =>
    have hl1 : (x :: l).length ≤ 64 := hlen
    repeat' ((conv => whnf); first
      | refine And.intro (okRows_map (fun _ _ => ⟨rfl, rfl⟩)) ?_ | refine And.intro (by decide) ?_ | refine And.intro (List.cons_ne_nil _ _) ?_ | refine And.intro (by omega) ?_ | refine Exists.intro _ (And.intro (⟨len_more⟩) ?_) | refine Exists.intro _ (And.intro (⟨Eq.refl (α := List D) _⟩) ?_))
    all_goals (conv => whnf)
    refine ⟨1, Ghost.hold [0] ?_⟩
    rw [Nat.zero_add (x :: l).length, List.length_map]
    rfl

def lookM (s : Dk) (i : Nat) : List Nat := (findC i s.cache).getD (s.plate.getD i [])
def readM (s : Dk) (i : Int) : List Nat × Int := if ¬ (0 ≤ i ∧ i < s.plate.length) then ([], 1) else if s.off then ([], 8) else (lookM s i.toNat, 0)
theorem findC_mem {i : Nat} {x : List Nat} : ∀ {l : List (Nat × List Nat)}, findC i l = some x → (i, x) ∈ l
  | [], h => by cases h
  | y :: r, h => by
    rw [findC] at h
    split at h
    · rename_i e
      cases h; subst e
      exact List.mem_cons_self
    · exact List.mem_cons_of_mem _ (findC_mem h)
theorem lookM_len {s : Dk} (hs : OkK s) {i : Nat} (hi : i < s.plate.length) : (lookM s i).length = 64 := by
  rw [lookM]
  cases h : findC i s.cache with
  | none =>
    rw [Option.getD_none, List.getD_eq_getElem?_getD, List.getElem?_eq_getElem hi]
    exact hs.plate _ (List.getElem_mem hi)
  | some x => exact (hs.cache _ (findC_mem h)).2

theorem mkRowK_sec {x : List Nat} (h : x.length = 64) {X : D → Prop} (hx : X (sD x)) : mkRowK (x.map r5) X := by
  match x, h with
  | _ :: _ :: _, _ => exact hx
theorem sec_beq {x : List Nat} (h : x.length = 64) : Nat.beq (sD x).cells.length 64 = true := by
  show Nat.beq (x.map r5).length 64 = true
  rw [List.length_map, h]; rfl
theorem sec_all (x : List Nat) : (sD x).cells.all D.one = true := by
  show (x.map r5).all D.one = true
  rw [List.all_eq_true]
  intro y hy
  obtain ⟨z, _, rfl⟩ := List.mem_map.mp hy; rfl
theorem sec_splice {x : List Nat} (h : x.length = 64) {l : List D} (hl : l.length = 64) : spliceL l 0 (sD x).cells = x.map r5 := by
  show spliceL l 0 (x.map r5) = _
  exact splice_full (by rw [List.length_map, h, hl])
theorem sec_take {x : List Nat} (h : x.length = 64) {X : List D → Prop} (hx : X (x.map r5)) : takeK 64 (sD x).cells X := takeK_len (by show (x.map r5).length = 64; rw [List.length_map, h]) hx

theorem f14_ok (s : Dk) (i : Int) (hs : OkK s) : TurnsK 14 [.int .i64 i] s (.tup [d34 (readM s i).1, .int .i64 (readM s i).2]) s := by
  refine TurnsK.of ⟨trivial, trivial⟩ ?_
  rw [readM]
  refine CallsIn.of_execN 22 tab_ok mixed Try.func14 rfl rfl [] [true, false, false] ?_
  (conv => whnf)
  refine TurnsK.call (f31_ok s) 0 1 2 (by decide) trivial trivial rfl rfl rfl ?_
  (conv => whnf)
  refine TurnsK.call (f32_ok s i) 0 1 2 (by decide) ⟨trivial, trivial⟩ trivial rfl rfl rfl ?_
  by_cases h1 : 0 ≤ i ∧ i < s.plate.length
  case neg =>
    rw [if_pos h1]
    repeat' ((conv => whnf); first
      | refine boolF_not ?_ | refine boolF_decf (by assumption) ?_)
    all_goals (conv => whnf)
    exact ⟨⟨_, _, Ghost.wk (.cons (.tup (.cons .nils (.cons .refl .nil))) .nil), rfl, rfl⟩⟩
  rw [if_neg (fun h => h h1)]
  repeat' ((conv => whnf); first
    | refine And.intro (by decide) ?_ | refine And.intro (Nat.le_of_ble_eq_true rfl) ?_ | refine boolF_not ?_ | refine boolF_dect (by assumption) ?_)
  all_goals (conv => whnf)
  rcases bool_cases s.off with ho | ho
  · rw [if_pos ho]
    repeat' ((conv => whnf); first
      | refine boolF_t (by assumption) ?_)
    all_goals (conv => whnf)
    exact ⟨⟨_, _, Ghost.wk (.cons (.tup (.cons .nils (.cons .refl .nil))) .nil), rfl, rfl⟩⟩
  rw [if_neg (by simp [ho])]
  obtain ⟨m, rfl⟩ := Int.eq_ofNat_of_zero_le h1.1
  have hm : m < s.plate.length := by omega
  obtain ⟨pl, hpl⟩ := at_lt hm
  have hpl2 := hs.plate pl (List.mem_of_getElem? hpl)
  have hfm := find_map m s.cache
  cases hf : findC m s.cache with
  | some x =>
    have hx := (hs.cache _ (findC_mem hf)).2
    have hlook : lookM s m = x := by rw [lookM, hf]; rfl
    dsimp only at hx
    rw [hf] at hfm
    repeat' ((conv => whnf); first
      | refine And.intro (keyOkC _ _) ?_ | refine look_some hfm ?_ | refine boolK_of (sec_beq hx) ?_ | refine boolK_of (sec_all x) ?_ | refine listK_of (sec_splice hx rfl) ?_ | refine mkRowK_sec hx ?_ | refine And.intro (by decide) ?_ | refine And.intro (Nat.le_of_ble_eq_true rfl) ?_ | refine boolF_f (by assumption) ?_)
    all_goals (conv => whnf)
    refine W_ghost (Ghost.regroup 6 (i' := 0) (j' := 0) (sz' := 1) (rows' := x.map r5) (rows := [sD x]) rfl rfl (by rw [flat_sD, flat_r5]) (by decide) (fun y hy => ?_) rfl (by rw [List.length_map]; omega) (by decide)) ?_
    · obtain ⟨z, _, rfl⟩ := List.mem_map.mp hy; rfl
    refine exec_ok tab_ok mixed 1000 (bx := [true, false, false, false]) (own := []) ?_
    repeat' ((conv => whnf); first
      | refine And.intro (by rw [List.length_map]; omega) ?_ | refine And.intro (by decide) ?_)
    all_goals (conv => whnf)
    refine Owned.seeN (f35_ok x (by omega)) 64 (by rw [List.length_map]; exact hx) [(3, .arr 1 1 (x.map r5))] (fact1 rfl) (.cons (.h mem0 (.all (scr5 _ _)) (all_take hx.symm)) .nil) (bares_map fun x => trivial) (fun ver => ?_)
    (conv => whnf)
    rw [Int.toNat_natCast, hlook]
    exact ⟨⟨_, _, (Ghost.fz [(4, .arr ver 1 (x.map r5))] [] (fun y hy => by simp only [List.mem_singleton] at hy; subst hy; exact ⟨show 3 ≤ 4 by decide, rfl, _, _, _, rfl⟩) (by simp)
      (.cons (.tup (.cons (.h mem0 .all (all_take hx.symm)) (.cons .refl .nil))) .nil) (fun y hy => by simp at hy) (by simp)).trans (Ghost.back [0] 3 rfl rfl (Nat.le_refl _) ⟨⟨scr5 _ _, trivial, trivial⟩, trivial⟩ (oscK s)), rfl, rfl⟩⟩
  | none =>
    have hlook : lookM s m = pl := by rw [lookM, hf, Option.getD_none, List.getD_eq_getElem?_getD, hpl]; rfl
    rw [hf] at hfm
    repeat' ((conv => whnf); first
      | refine And.intro (keyOkC _ _) ?_ | refine look_none hfm ?_ | refine boolK_of (sec_beq hpl2) ?_ | refine boolK_of (sec_all pl) ?_ | refine listK_of (sec_splice hpl2 rfl) ?_ | refine mkRowK_sec hpl2 ?_ | refine Exists.intro _ (And.intro (map_at (by omega) hpl) ?_) | refine sec_take hpl2 ?_ | refine And.intro (by decide) ?_ | refine And.intro (Nat.le_of_ble_eq_true rfl) ?_ | refine And.intro (by omega) ?_ | refine And.intro (by simp only [List.length_map, List.length_append, List.length_cons, List.length_nil]; omega) ?_ | refine boolF_f (by assumption) ?_)
    all_goals (conv => whnf)
    refine W_ghost (Ghost.regroup 6 (i' := 0) (j' := 0) (sz' := 1) (rows' := pl.map r5) (rows := [sD pl]) rfl rfl (by rw [flat_sD, flat_r5]) (by decide) (fun y hy => ?_) rfl (by rw [List.length_map]; omega) (by decide)) ?_
    · obtain ⟨z, _, rfl⟩ := List.mem_map.mp hy; rfl
    refine exec_ok tab_ok mixed 1000 (bx := [true, false, false, false]) (own := []) ?_
    repeat' ((conv => whnf); first
      | refine And.intro (by rw [List.length_map]; omega) ?_ | refine And.intro (by decide) ?_)
    all_goals (conv => whnf)
    refine Owned.seeN (f35_ok pl (by omega)) 64 (by rw [List.length_map]; exact hpl2) [(3, .arr 1 1 (pl.map r5))] (fact1 rfl) (.cons (.h mem0 (.all (scr5 _ _)) (all_take hpl2.symm)) .nil) (bares_map fun x => trivial) (fun ver => ?_)
    (conv => whnf)
    rw [Int.toNat_natCast, hlook]
    exact ⟨⟨_, _, (Ghost.fz [(4, .arr ver 1 (pl.map r5))] [] (fun y hy => by simp only [List.mem_singleton] at hy; subst hy; exact ⟨show 3 ≤ 4 by decide, rfl, _, _, _, rfl⟩) (by simp)
      (.cons (.tup (.cons (.h mem0 .all (all_take hpl2.symm)) (.cons .refl .nil))) .nil) (fun y hy => by simp at hy) (by simp)).trans (Ghost.back [0] 3 rfl rfl (Nat.le_refl _) ⟨⟨scr5 _ _, trivial, trivial⟩, trivial⟩ (oscK s)), rfl, rfl⟩⟩

end Go.Proofs.Ytbefmodpgecfgaa

