import Derived.Test.YtbefmodpgecfgaaD1
namespace Go.Proofs.Ytbefmodpgecfgaa
open Go.A
set_option linter.unusedVariables false
set_option linter.unusedSimpArgs false
set_option linter.unnecessarySimpa false
attribute [local irreducible] IntKind.wrap bitsI
set_option maxRecDepth 100000
set_option maxHeartbeats 4000000

theorem scP0 (s : Dk) : (oP s).sc 0 := by
  show scs 0 (s.plate.map sD)
  rw [scs_map]; intro x _; exact scsD _ _
theorem scM0 (s : Dk) : (oM s).sc 0 := fun e he => by
  obtain ⟨p, _, rfl⟩ := List.mem_map.mp he
  exact ⟨trivial, scsD _ _⟩
theorem ren3 (a b c k : Nat) (s : Dk) : (oK s).map (renO (ixOf [a, b, c] k)) = [oS b c s, oP s, oM s] := by
  show [renO _ (oS 1 2 s), renO _ (oP s), renO _ (oM s)] = _
  rw [renO_sc0 _ (scP0 s), renO_sc0 _ (scM0 s)]
  rfl
theorem arg3 {xs : List D} (hx : scs 0 xs) (a b c k : Nat) : renL (ixOf [a, b, c] k) (.p 0 0 0 0 :: xs) = .p a 0 0 0 :: xs := by
  show _ :: renL _ xs = _
  rw [renL_sc0 _ _ hx]; rfl
theorem has3 {a b c : Nat} {s : Dk} {H : List AObj} (ha : H[a]? = some (oS b c s)) (hb : H[b]? = some (oP s)) (hc : H[c]? = some (oM s)) (k : Nat) : [a, b, c].map (fun o => H[o]?) = (oK s).map fun ob => some (renO (ixOf [a, b, c] k) ob) := by
  have := congrArg (List.map some) (ren3 a b c k s)
  rw [List.map_map] at this
  refine Eq.trans ?_ this.symm
  simp [ha, hb, hc]
theorem TurnsK.call {f : FuncId} {xs : List D} {s s' : Dk} {r : D} (h : TurnsK f xs s r s') (a b c : Nat) (hn : [a, b, c].Nodup) (hx : scs 0 xs) (hr : r.sc 0) {H : List AObj} (ha : H[a]? = some (oS b c s)) (hb : H[b]? = some (oP s)) (hc : H[c]? = some (oM s)) {K : D → List AObj → Prop}
    (hk : setK H a (oS b c s') fun H => setK H b (oP s') fun H => setK H c (oM s') fun H => K r H) : CallsIn Try.prog f (.p a 0 0 0 :: xs) H K :=
  TurnsM.call h [a, b, c] hn rfl (arg3 hx a b c) (fun k => ren_sc0 _ _ hr) (has3 ha hb hc) (fun k => ren3 a b c k s') hk
theorem TurnsK.locK {f : FuncId} {xs : List D} {s s' : Dk} {r : D} (h : TurnsK f xs s r s') (a b c : Nat) (hn : [a, b, c].Nodup) (hx : scs 0 xs) (hr : r.sc 0) {H : List AObj} (ha : H[a]? = some (oS b c s)) (hb : H[b]? = some (oP s)) (hc : H[c]? = some (oM s))
    {bx : List Bool} {X : D → List Nat → List (Nat × AObj) → List AObj → List Bool → Prop}
    (hk : setK H a (oS b c s') fun H => setK H b (oP s') fun H => setK H c (oM s') fun H => X r [a, b, c] [(a, oS b c s'), (b, oP s'), (c, oM s')] H bx) : LocK Try.prog f (.p a 0 0 0 :: xs) H bx X :=
  TurnsM.locK h [a, b, c] hn rfl (arg3 hx a b c) (fun k => ren_sc0 _ _ hr) (has3 ha hb hc) (fun k => ren3 a b c k s') hk

def armM (s : Dk) (n : Int) : Dk := { s with armed := decide (0 ≤ n), fuse := max n 0 }
theorem f19_ok (s : Dk) (n : Int) : TurnsK 19 [.int .i64 n] s (.tup []) (armM s n) := by
  refine TurnsK.of ⟨trivial, trivial⟩ ?_
  refine CallsIn.of_exec tab_ok mixed Try.func19 rfl rfl [] [true, false, false] ?_
  (conv => whnf)
  refine TurnsK.call (f31_ok s) 0 1 2 (by decide) trivial trivial rfl rfl rfl ?_
  repeat' ((conv => whnf); first
    | refine And.intro (by decide) ?_ | refine And.intro (Nat.le_of_ble_eq_true rfl) ?_ | refine Exists.intro _ (And.intro (imax) ?_))
  all_goals (conv => whnf)
  exact ⟨⟨_, _, Ghost.refl _ _ _, rfl, rfl⟩⟩

def cutM (s : Dk) : Dk := { s with off := true }
theorem f21_ok (s : Dk) : TurnsK 21 [] s (.tup []) (cutM s) := by
  refine TurnsK.of trivial ?_
  refine CallsIn.of_exec tab_ok mixed Try.func21 rfl rfl [] [true, false, false] ?_
  (conv => whnf)
  refine TurnsK.call (f31_ok s) 0 1 2 (by decide) trivial trivial rfl rfl rfl ?_
  repeat' ((conv => whnf); first
    | refine And.intro (by decide) ?_ | refine And.intro (Nat.le_of_ble_eq_true rfl) ?_)
  all_goals (conv => whnf)
  exact ⟨⟨_, _, Ghost.refl _ _ _, rfl, rfl⟩⟩

theorem f25_ok (s : Dk) : TurnsK 25 [] s (.bool (!s.off)) s := by
  refine TurnsK.of trivial ?_
  refine CallsIn.of_exec tab_ok mixed Try.func25 rfl rfl [] [true, false, false] ?_
  (conv => whnf)
  refine TurnsK.call (f31_ok s) 0 1 2 (by decide) trivial trivial rfl rfl rfl ?_
  repeat' ((conv => whnf); first
    | refine And.intro (by decide) ?_ | refine And.intro (Nat.le_of_ble_eq_true rfl) ?_)
  all_goals (conv => whnf)
  exact ⟨⟨_, _, Ghost.refl _ _ _, rfl, rfl⟩⟩

theorem f26_ok (s : Dk) : TurnsK 26 [] s (.int .i64 (s.cache.length : Int)) s := by
  refine TurnsK.of trivial ?_
  refine CallsIn.of_exec tab_ok mixed Try.func26 rfl rfl [] [true, false, false] ?_
  (conv => whnf)
  refine TurnsK.call (f31_ok s) 0 1 2 (by decide) trivial trivial rfl rfl rfl ?_
  repeat' ((conv => whnf); first
    | refine And.intro (by decide) ?_ | refine And.intro (Nat.le_of_ble_eq_true rfl) ?_)
  all_goals (conv => whnf)
  exact ⟨⟨_, _, Ghost.refl _ _ _, by rw [List.length_map], rfl⟩⟩

theorem f28_ok (s : Dk) : TurnsK 28 [] s (.int .i64 (s.plate.length : Int)) s := by
  refine TurnsK.of trivial ?_
  refine CallsIn.of_exec tab_ok mixed Try.func28 rfl rfl [] [true, false, false] ?_
  (conv => whnf)
  refine TurnsK.call (f31_ok s) 0 1 2 (by decide) trivial trivial rfl rfl rfl ?_
  repeat' ((conv => whnf); first
    | refine And.intro (by decide) ?_ | refine And.intro (Nat.le_of_ble_eq_true rfl) ?_)
  all_goals (conv => whnf)
  exact ⟨⟨_, _, Ghost.refl _ _ _, rfl, rfl⟩⟩

end Go.Proofs.Ytbefmodpgecfgaa

