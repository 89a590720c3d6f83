import Derived.Test.YtgcllbcpdcfkmaaM18
namespace Go.Proofs.Ytgcllbcpdcfkmaa
open Go.A
set_option linter.unusedVariables false
set_option linter.unusedSimpArgs false
set_option linter.unnecessarySimpa false
attribute [local irreducible] IntKind.wrap bitsI
set_option maxRecDepth 100000
set_option maxHeartbeats 4000000

theorem chgM_ok {a b : T24} (ha : ok25 a) (hb : ok25 b) : ok23 (chgM a b).1 ∧ ok3 (chgM a b).2 := by
  unfold chgM
  split
  · rename_i h
    obtain ⟨ra, rb, hn⟩ := h
    have h1 := ra.2.2.1
    have h2 := ra.2.2.2.1
    refine ⟨⟨chg_ok a b a.n_ h2 (fun j g1 g2 => node_ok hb rb g1 (by omega)) _ (by omega), ?_⟩, by simp [ok3]⟩
    have := (chg_last a b a.n_.toNat).2.2
    simp only [td59]; omega
  · exact ⟨by simp [ok23], by simp [ok3]⟩


theorem smapChanged_true (a b : T24) (ha : ok25 a) (hb : ok25 b) : CallsIn Try.prog 4 [d25 a, d25 b] [] fun r _ => r = .bool true := by
  have hc := (chgM_ok ha hb).1
  refine CallsIn.of_exec tab_ok mixed Try.func4 rfl rfl [] [] ?_
  repeat' ((conv => whnf); first
    | refine PairK.mk (by kernel_rfl) ?_ | refine And.intro (by decide) ?_ | refine And.intro rfl ?_ | refine And.intro (List.cons_ne_nil _ _) ?_ | refine And.intro (Nat.le_of_ble_eq_true rfl) ?_ | refine And.intro (by omega) ?_ | refine And.intro (by simp only [List.length_map, List.length_append, List.length_cons, List.length_nil]; omega) ?_ | refine And.intro (by simpa only [List.length_map, List.length_append, List.length_cons, List.length_nil] using rfl) ?_ | refine And.intro (Eq.symm (List.length_map _)) ?_ | refine And.intro (all_map (fun _ => rfl)) ?_
    | refine And.intro (cells_map (fun _ => rfl)) ?_ | refine And.intro (rows_map (fun _ => rfl) (fun _ => rfl)) ?_ | refine And.intro (okRows_one rfl rfl) ?_ | refine And.intro (okRows_all rfl) ?_ | refine boolF_t (beq_self_eq_true _) ?_ | refine Exists.intro _ (And.intro (map_get (by assumption)) ?_) | refine Exists.intro _ (And.intro (Eq.refl (α := Option D) _) ?_) | refine Exists.intro _ (And.intro (⟨(List.length_map _).symm⟩) ?_) | refine Exists.intro _ (And.intro (⟨len_one⟩) ?_) | refine Exists.intro _ (And.intro (⟨len_two⟩) ?_) | refine Exists.intro _ (And.intro (⟨len_three⟩) ?_)
    | refine Exists.intro _ (And.intro (⟨len_four⟩) ?_) | refine Exists.intro _ (And.intro (⟨lenl_1⟩) ?_) | refine Exists.intro _ (And.intro (⟨lenl_2⟩) ?_) | refine Exists.intro _ (And.intro (⟨lenl_3⟩) ?_) | refine Exists.intro _ (And.intro (⟨lenl_4⟩) ?_) | refine Exists.intro _ (And.intro (⟨len_more⟩) ?_) | refine Exists.intro _ (And.intro (⟨map_slice⟩) ?_) | refine Exists.intro _ (And.intro (⟨List.map_take⟩) ?_) | refine Exists.intro _ (And.intro (⟨List.map_drop⟩) ?_) | refine Exists.intro _ (And.intro (⟨map_full'⟩) ?_) | refine Exists.intro _ (And.intro (⟨map_full⟩) ?_)
    | refine Exists.intro _ (And.intro (⟨map_snoc⟩) ?_) | refine Exists.intro _ (And.intro (⟨List.map_append⟩) ?_) | refine Exists.intro _ (And.intro (⟨Eq.refl (α := List D) _⟩) ?_) | refine Exists.intro _ (And.intro (⟨Eq.refl (α := Int) _⟩) (And.intro (by omega) ?_)) | refine Exists.intro (0) (And.intro (⟨rfl⟩) (And.intro (Nat.zero_le _) ?_)) | refine Exists.intro _ (And.intro (⟨nc1⟩) (And.intro (by omega) ?_)) | refine Exists.intro _ (Exists.intro _ (And.intro (⟨Eq.refl (α := Int) _⟩) (And.intro (⟨Eq.refl (α := Int) _⟩) (And.intro (by omega) (And.intro (by omega) ?_)))))
    | refine Exists.intro _ (Exists.intro _ (And.intro (⟨Eq.refl (α := Nat) _⟩) (And.intro (⟨Eq.refl (α := Nat) _⟩) ?_))) | refine Exists.intro _ (And.intro (⟨Eq.refl (α := Nat) _⟩) ?_) | refine Exists.intro _ (And.intro (w64 (by omega) (by omega)) ?_) | refine Exists.intro _ (And.intro (imin) ?_) | refine Exists.intro _ (And.intro (imax) ?_) | refine Pure.call (f15_ok _) ?_ | refine Pure.locK (f15_ok _) ?_ | refine Pure.call (f19_ok _ _ ha hb) ?_ | refine Pure.locK (f19_ok _ _ ha hb) ?_ | refine Pure.call (f20_ok _ _ ha hb) ?_ | refine Pure.locK (f20_ok _ _ ha hb) ?_
    | refine Pure.call (f21_ok _ _ hc hc) ?_ | refine Pure.locK (f21_ok _ _ hc hc) ?_ | refine Pure.call (f18_ok) ?_ | refine Pure.locK (f18_ok) ?_ | refine boolF_not ?_ | refine boolF_dect rfl ?_ | refine boolF_dect (by assumption) ?_ | refine boolF_decf (by assumption) ?_ | refine boolF_dect (by omega) ?_ | refine boolF_decf (by omega) ?_ | refine boolF_beqt (by omega) ?_ | refine boolF_beqf (by omega) ?_ | refine boolF_bnet (by omega) ?_ | refine boolF_bnef (by omega) ?_ | refine boolF_t (by assumption) ?_ | refine boolF_f (by assumption) ?_ | refine boolF_dec (fun _ => ?_) (fun _ => ?_)
    | refine boolF_beq (fun _ => ?_) (fun _ => ?_) | refine boolF_bne (fun _ => ?_) (fun _ => ?_) | refine boolF_leq (fun _ => ?_) (fun _ => ?_) | refine Both.mk ?_ ?_)
  all_goals (conv => whnf)
  exact ⟨rfl⟩

end Go.Proofs.Ytgcllbcpdcfkmaa

