/- The row of the law DestStays. PRINTED by wip/gen/law.py. -/
import Derived.Test.YtgigpjkdfhhahaaRows
import Derived.Test.YtgigpjkdfhhahaaD24
import Derived.WalkKit
import Derived.ProofKit
import Derived.OpenShut
import Derived.ShutString
import Derived.ChangeOld
import Derived.Below
import Derived.SizedLaws
import Derived.Carry
import Derived.ChangeMaps5
import Derived.KernelRfl
namespace Go.Proofs.Ytgigpjkdfhhahaa.destStays
open Go.ChangeShapes Go.WideShapes Go.ChangeAt Go.RowKit Go.A
set_option linter.unusedVariables false
theorem own : ownKnob Try.prog.godebug = none := by kernel_rfl
theorem laidOut : laidOutB Try.prog = true := by kernel_rfl
set_option maxRecDepth 100000 in
theorem lifted (os : Os) (started : os.Started) (H : Type) (enc : TypeId × Value → H) :
    ReturnsInHanded {} Try.checked os 4 .any (Rows.destStaysSpec.pre6 enc Try.prog Try.f4 Rows.destStaysRow.domain false) (Rows.destStaysSpec.post enc Try.prog Try.f4 false true false false) := by
  refine returnsInHanded_of_change_sized (C := Try.checked) own started (by kernel_rfl) Try.func4
    (ChangeSpec.witness6 (enc := enc) (C := Try.checked) false ⟨#[], #[.int .i64 0, .slice none 0 0], []⟩ 8 (by kernel_rfl) (by kernel_rfl) (by kernel_rfl) (by kernel_rfl)) ?_
  intro W base args ds gs before hval0 hW hcnd hsz0 _
  have hsz : (DataW.weightsEach Try.prog (Try.f4.params.toList ++ Rows.destStaysSpec.plain.varTypes Try.prog) (ds ++ gs)).all (· ≤ reachBytes) = true := hsz0
  have hval : ∀ (j : Nat) t v, Try.f4.params[j]? = some t → args[j]? = some v → Value.okWide Try.prog W .any base t v := hval0
  have hW' := hW
  obtain ⟨p, q, hA0, hV, rfl, hfz, hnd⟩ := hW
  have hA : DataW.TrodAll enc Try.prog W 0 (fun _ => true) true Try.f4.params.toList args.toList ds p := hA0
  rw [Try.params4] at hA hval hsz
  obtain ⟨v0, vs0, d0, ds0, p0, q0, hargs, rfl, rfl, h0, r0⟩ := trodAll_cons hA
  obtain ⟨v1, vs1, d1, ds1, p1, q1, rfl, rfl, rfl, h1, r1⟩ := trodAll_cons r0
  obtain ⟨rfl, rfl, rfl⟩ := trodAll_nil r1
  obtain rfl : args = #[v0, v1] := by cases args; simp_all
  obtain ⟨rfl, rfl⟩ := trodVars_none hV
  have k0 := h0
  have lt0 : ∀ x ∈ p0, x.block < W.heap.size := by obtain ⟨m, hm⟩ := k0; exact DataW.trod_lt m _ _ _ hm
  obtain ⟨x0, ok0, z0⟩ := IsA.arg is3 h0 hsz (j := 0) rfl rfl
  have c0 : VR ((C1 W).env [] [] W) (d3 x0) v0 := by
    obtain ⟨m, rfl⟩ := okWide_int Try.underlying3 (hval 0 3 v0 rfl rfl)
    exact arg1 z0 rfl
  have k1 := h1
  have lt1 : ∀ x ∈ p1, x.block < W.heap.size := by obtain ⟨m, hm⟩ := k1; exact DataW.trod_lt m _ _ _ hm
  obtain ⟨x1, ok1, z1⟩ := IsA.arg is59 h1 hsz (j := 1) rfl rfl
  have c1 : VR ((C1 W).env [] [] W) (d59 x1) v1 := by
    obtain ⟨a, len, cap, rfl⟩ := okWide_slice Try.underlying59 (hval 1 59 v1 rfl rfl)
    exact arg1 z1 rfl
  clear hA0 hval0 hsz0 hsz
  refine (law_calls (f := 4) (ds := [d3 x0, d59 x1]) (args := #[v0, v1]) (.cons c0 (.cons c1 .nil)) (destStays_true x0 x1 ok0 ok1)).mono fun e W' ⟨he, bel⟩ => ?_
  subst he
  exact ⟨_, rfl, _, _, _, [], _, [], hW', trodAll_mk1 (shut_bool Try.underlying4 _), (trodAll_cons_mk (Below.trod laidOut (by kernel_rfl) (of_decide_eq_true (by kernel_rfl)) k0 bel lt0) (trodAll_cons_mk (Below.trod laidOut (by kernel_rfl) (of_decide_eq_true (by kernel_rfl)) k1 bel lt1) trodAll_mk0)), rfl, bel.frame _, fun h => by cases h⟩
theorem over : Rows.destStaysRow.holds Try.pinned (OpenSpec.ofChange Rows.destStaysSpec) :=
  OpenClaim.holds_of_wide 4 Try.f4 rfl rfl rfl rfl rfl rfl rfl ⟨rfl, rfl, rfl, rfl, rfl⟩ rfl rfl rfl rfl rfl (by kernel_rfl) Try.func4 (by kernel_rfl)
    (of_decide_eq_true (by kernel_rfl)) (by unfold Func.isWrapper; first | (rw [if_pos (by decide +kernel)]; kernel_rfl) | (rw [if_neg (by decide +kernel)]; exact ⟨rfl, rfl⟩))
    (fun os started H enc _ => lifted os started H enc)
theorem proved : Rows.DestStaysSaid := over
end Go.Proofs.Ytgigpjkdfhhahaa.destStays
namespace Go.Proofs.Ytgigpjkdfhhahaa
/-- The row, under a short name, for the claim. -/
theorem destStays_holds : Rows.DestStaysSaid := destStays.proved
end Go.Proofs.Ytgigpjkdfhhahaa

