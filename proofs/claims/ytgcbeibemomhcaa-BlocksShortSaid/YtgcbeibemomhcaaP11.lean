import Derived.Test.YtgcbeibemomhcaaP9
namespace Go.Proofs.Ytgcbeibemomhcaa
open Go.A
set_option linter.unusedVariables false
set_option linter.unusedSimpArgs false
set_option linter.unnecessarySimpa false
attribute [local irreducible] IntKind.wrap bitsI
set_option maxRecDepth 100000
set_option maxHeartbeats 4000000

theorem blocksShort_true (n : Int) (ops : List Op) (p : T37) (h0 : ok3 n) (h1 : ok23 ops) (h2 : ok37 p) : CallsIn Try.prog 6 [d3 n, d23 ops, d37 p] [] fun r _ => r = .bool true := by
  have hn := lenO h1
  have hb := bigO h1
  have ha := lenW h2.1
  have hc := lenW h2.2
  have k1 := squash_props n ops
  have k2 := diff_props p.a0_ p.a1_
  refine CallsIn.of_exec tab_ok mixed Try.func6 rfl rfl [] [] ?_
  repeat' ((conv => whnf); first
    | refine PairK.mk (by kernel_rfl) ?_ | refine And.intro (by decide) ?_ | refine boolF_t (beq_self_eq_true _) ?_ | refine Pure.call ((f11_own n ops hn hb).pure) ?_ | refine Pure.call (f15_ok n ops hn hb) ?_ | refine Pure.call ((f16_own _ _ ha hc).pure) ?_ | refine Pure.call (f17_ok _ _ ha hc) ?_ | refine Pure.call (f13_ok _ _ k1.1 k1.1 k1.2 k1.2) ?_ | refine Pure.call (f13_ok _ _ k2.1 k2.1 k2.2 k2.2) ?_ | refine Pure.call (f10_ok) ?_ | refine boolF_dect rfl ?_)
  all_goals (conv => whnf)
  exact ⟨rfl⟩

end Go.Proofs.Ytgcbeibemomhcaa

