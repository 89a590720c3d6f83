/- The row of the law DestOnce. PRINTED by wip/gen/law.py. -/
import Derived.Test.YtgigpjkdfhhahaaRows
import Derived.Test.YtgigpjkdfhhahaaD23
import Derived.WalkKit
import Derived.ProofKit
import Derived.OpenShut
import Derived.ShutString
import Derived.ChangeOld
import Derived.Below
import Derived.SizedLaws
import Derived.Carry
import Derived.ChangeMaps5
import Derived.KernelRfl
namespace Go.Proofs.Ytgigpjkdfhhahaa.destOnce
open Go.ChangeShapes Go.WideShapes Go.ChangeAt Go.RowKit Go.A
set_option linter.unusedVariables false
theorem own : ownKnob Try.prog.godebug = none := by kernel_rfl
theorem laidOut : laidOutB Try.prog = true := by kernel_rfl
set_option maxRecDepth 100000 in
theorem lifted (os : Os) (started : os.Started) (H : Type) (enc : TypeId × Value → H) :
    ReturnsInHanded {} Try.checked os 5 .any (Rows.destOnceSpec.pre6 enc Try.prog Try.f5 Rows.destOnceRow.domain false) (Rows.destOnceSpec.post enc Try.prog Try.f5 false true false false) := by
  refine returnsInHanded_of_change_sized (C := Try.checked) own started (by kernel_rfl) Try.func5
    (ChangeSpec.witness6 (enc := enc) (C := Try.checked) false ⟨#[], #[.int .i64 0, .slice none 0 0, .agg #[.int .i64 0, .int .i64 0, .slice none 0 0]], []⟩ 8 (by kernel_rfl) (by kernel_rfl) (by kernel_rfl) (by kernel_rfl)) ?_
  intro W base args ds gs before hval0 hW hcnd hsz0 _
  have hsz : (DataW.weightsEach Try.prog (Try.f5.params.toList ++ Rows.destOnceSpec.plain.varTypes Try.prog) (ds ++ gs)).all (· ≤ reachBytes) = true := hsz0
  have hval : ∀ (j : Nat) t v, Try.f5.params[j]? = some t → args[j]? = some v → Value.okWide Try.prog W .any base t v := hval0
  have hW' := hW
  obtain ⟨p, q, hA0, hV, rfl, hfz, hnd⟩ := hW
  have hA : DataW.TrodAll enc Try.prog W 0 (fun _ => true) true Try.f5.params.toList args.toList ds p := hA0
  rw [Try.params5] at hA hval hsz
  obtain ⟨v0, vs0, d0, ds0, p0, q0, hargs, rfl, rfl, h0, r0⟩ := trodAll_cons hA
  obtain ⟨v1, vs1, d1, ds1, p1, q1, rfl, rfl, rfl, h1, r1⟩ := trodAll_cons r0
  obtain ⟨v2, vs2, d2, ds2, p2, q2, rfl, rfl, rfl, h2, r2⟩ := trodAll_cons r1
  obtain ⟨rfl, rfl, rfl⟩ := trodAll_nil r2
  obtain rfl : args = #[v0, v1, v2] := by cases args; simp_all
  obtain ⟨rfl, rfl⟩ := trodVars_none hV
  have k0 := h0
  have lt0 : ∀ x ∈ p0, x.block < W.heap.size := by obtain ⟨m, hm⟩ := k0; exact DataW.trod_lt m _ _ _ hm
  obtain ⟨x0, ok0, z0⟩ := IsA.arg is3 h0 hsz (j := 0) rfl rfl
  have c0 : VR ((C1 W).env [] [] W) (d3 x0) v0 := by
    obtain ⟨m, rfl⟩ := okWide_int Try.underlying3 (hval 0 3 v0 rfl rfl)
    exact arg1 z0 rfl
  have k1 := h1
  have lt1 : ∀ x ∈ p1, x.block < W.heap.size := by obtain ⟨m, hm⟩ := k1; exact DataW.trod_lt m _ _ _ hm
  obtain ⟨x1, ok1, z1⟩ := IsA.arg is59 h1 hsz (j := 1) rfl rfl
  have c1 : VR ((C1 W).env [] [] W) (d59 x1) v1 := by
    obtain ⟨a, len, cap, rfl⟩ := okWide_slice Try.underlying59 (hval 1 59 v1 rfl rfl)
    exact arg1 z1 rfl
  have k2 := h2
  have lt2 : ∀ x ∈ p2, x.block < W.heap.size := by obtain ⟨m, hm⟩ := k2; exact DataW.trod_lt m _ _ _ hm
  obtain ⟨x2, ok2, z2⟩ := IsA.arg is24 h2 hsz (j := 2) rfl rfl
  have c2 : VR ((C1 W).env [] [] W) (d24 x2) v2 := by
    obtain ⟨cs, rfl, _⟩ := okWide_struct Try.underlying24 (hval 2 24 v2 rfl rfl)
    exact .agg z2
  clear hA0 hval0 hsz0 hsz
  refine (law_calls (f := 5) (ds := [d3 x0, d59 x1, d24 x2]) (args := #[v0, v1, v2]) (.cons c0 (.cons c1 (.cons c2 .nil))) (destOnce_true x0 x1 x2 ok0 ok1 ok2)).mono fun e W' ⟨he, bel⟩ => ?_
  subst he
  exact ⟨_, rfl, _, _, _, [], _, [], hW', trodAll_mk1 (shut_bool Try.underlying4 _), (trodAll_cons_mk (Below.trod laidOut (by kernel_rfl) (of_decide_eq_true (by kernel_rfl)) k0 bel lt0) (trodAll_cons_mk (Below.trod laidOut (by kernel_rfl) (of_decide_eq_true (by kernel_rfl)) k1 bel lt1) (trodAll_cons_mk (Below.trod laidOut (by kernel_rfl) (of_decide_eq_true (by kernel_rfl)) k2 bel lt2) trodAll_mk0))), rfl, bel.frame _, fun h => by cases h⟩
theorem over : Rows.destOnceRow.holds Try.pinned (OpenSpec.ofChange Rows.destOnceSpec) :=
  OpenClaim.holds_of_wide 5 Try.f5 rfl rfl rfl rfl rfl rfl rfl ⟨rfl, rfl, rfl, rfl, rfl⟩ rfl rfl rfl rfl rfl (by kernel_rfl) Try.func5 (by kernel_rfl)
    (of_decide_eq_true (by kernel_rfl)) (by unfold Func.isWrapper; first | (rw [if_pos (by decide +kernel)]; kernel_rfl) | (rw [if_neg (by decide +kernel)]; exact ⟨rfl, rfl⟩))
    (fun os started H enc _ => lifted os started H enc)
theorem proved : Rows.DestOnceSaid := over
end Go.Proofs.Ytgigpjkdfhhahaa.destOnce
namespace Go.Proofs.Ytgigpjkdfhhahaa
/-- The row, under a short name, for the claim. -/
theorem destOnce_holds : Rows.DestOnceSaid := destOnce.proved
end Go.Proofs.Ytgigpjkdfhhahaa

