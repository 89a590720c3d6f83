import Derived.Test.YtbefmodpgecfgaaD7
namespace Go.Proofs.Ytbefmodpgecfgaa
open Go.A
set_option linter.unusedVariables false
set_option linter.unusedSimpArgs false
set_option linter.unnecessarySimpa false
attribute [local irreducible] IntKind.wrap bitsI
set_option maxRecDepth 100000
set_option maxHeartbeats 4000000

def al0 : Dk := newK 2
def al1 : Dk := ⟨[zer 64, zer 64], [(0, pad [97])], false, false, 0⟩
def al2 : Dk := ⟨[pad [97], zer 64], [], false, false, 0⟩
def al3 : Dk := ⟨[pad [97], zer 64], [(0, pad [98])], false, false, 0⟩
def al4 : Dk := ⟨[pad [97], zer 64], [(0, pad [98])], true, false, 0⟩
theorem al0_ok : OkK al0 := newK_ok (by decide)
theorem ale1 : writeM al0 0 [97] = (0, al1) := by rfl
theorem ale2 : flushM al1 = (0, al2) := by rfl
theorem ale3 : writeM al2 0 [98] = (0, al3) := by rfl
theorem ale4 : startM al4 [] = (0, al2) := by rfl
theorem ale5 : readM al2 0 = (pad [97], 0) := by rfl
theorem al1_ok : OkK al1 := ⟨by decide, by decide, by decide, by decide, by decide⟩
theorem al2_ok : OkK al2 := ⟨by decide, by decide, by decide, by decide, by decide⟩
theorem al4_ok : OkK al4 := ⟨by decide, by decide, by decide, by decide, by decide⟩

theorem f11_ok : Pure Try.prog 11 [] (.bool true) := by
  refine Pure.of trivial trivial ?_
  have h1 := f12_ok al0 0 [97] al0_ok (by decide)
  rw [ale1] at h1
  have h2 := f17_ok al1 al1_ok
  rw [ale2] at h2
  have h3 := f12_ok al2 0 [98] al2_ok (by decide)
  rw [ale3] at h3
  have h4 := f23_ok al4 [] al4_ok (by decide)
  rw [ale4] at h4
  have h5 := f14_ok al2 0 al2_ok
  rw [ale5] at h5
  refine CallsIn.of_exec tab_ok mixed Try.func11 rfl rfl [17, 29] [] ?_
  (conv => whnf)
  refine newC (n := 2) (by decide) _ ?_
  repeat' ((conv => whnf); first
    | refine And.intro (by decide) ?_)
  all_goals (conv => whnf)
  refine TurnsK.call h1 2 0 1 (by decide) ⟨trivial, scr5 _ _, trivial⟩ trivial rfl rfl rfl ?_
  (conv => whnf)
  refine TurnsK.call h2 2 0 1 (by decide) trivial trivial rfl rfl rfl ?_
  repeat' ((conv => whnf); first
    | refine And.intro (by decide) ?_)
  all_goals (conv => whnf)
  refine TurnsK.call h3 2 0 1 (by decide) ⟨trivial, scr5 _ _, trivial⟩ trivial rfl rfl rfl ?_
  (conv => whnf)
  refine TurnsK.call (f21_ok al3) 2 0 1 (by decide) trivial trivial rfl rfl rfl ?_
  (conv => whnf)
  refine TurnsK.call (f25_ok al4) 2 0 1 (by decide) trivial trivial rfl rfl rfl ?_
  (conv => whnf)
  refine TurnsK.call (f26_ok al4) 2 0 1 (by decide) trivial trivial rfl rfl rfl ?_
  (conv => whnf)
  refine CallsIn.wk (args' := [.p 2 0 0 0, d28 []]) ?_ (.cons .refl (.cons .nils .nil))
  refine TurnsK.call h4 2 0 1 (by decide) ⟨scd28 _ _, trivial⟩ trivial rfl rfl rfl ?_
  (conv => whnf)
  refine TurnsK.call h5 2 0 1 (by decide) ⟨trivial, trivial⟩ ⟨scr5 _ _, trivial, trivial⟩ rfl rfl rfl ?_
  repeat' ((conv => whnf); first
    | refine And.intro (by decide) ?_ | refine Exists.intro _ (And.intro (Eq.refl (α := Option D) _) ?_) | refine Exists.intro _ (And.intro (⟨(List.length_map _).symm⟩) ?_))
  all_goals (conv => whnf)
  refine TurnsK.call (f28_ok al2) 2 0 1 (by decide) trivial trivial rfl rfl rfl ?_
  (conv => whnf)

  exact ⟨rfl⟩

end Go.Proofs.Ytbefmodpgecfgaa

