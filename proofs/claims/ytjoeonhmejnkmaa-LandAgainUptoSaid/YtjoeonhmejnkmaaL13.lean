import Derived.Test.YtjoeonhmejnkmaaL12
namespace Go.Proofs.Ytjoeonhmejnkmaa
open Go.A
set_option linter.unusedVariables false
set_option linter.unusedSimpArgs false
set_option linter.unnecessarySimpa false
attribute [local irreducible] IntKind.wrap bitsI
open B
set_option maxRecDepth 100000
set_option maxHeartbeats 4000000

def newB (s v n : Int) : Bt := ⟨cm0, 0, zer n.toNat, true, s, v, cm0⟩
def newD (o ver : Nat) : D := .tup [.p o ver 0 0, .int .i64 0]
def newOk (s v n : Int) : Prop := 0 ≤ s ∧ 0 ≤ v ∧ 0 ≤ n ∧ n ≤ 1024
instance (s v n : Int) : Decidable (newOk s v n) := inferInstanceAs (Decidable (_ ∧ _ ∧ _ ∧ _))

theorem newEnd {w v0 : Nat} {rows0 : List D} {row : D} (b : Bt) (hz : Fzs [(0, .arr v0 1 rows0)] row.cells (cB b)) :
    ∃ ver, Ghost 0 [.tup [.p 1 w 0 0, .int .i64 0]] [.arr v0 1 rows0, .arr w 13 [row]] [newD 0 ver] [.arr ver 13 [.agg (cB b)]] := by
  refine ⟨w, (Ghost.fz [(0, .arr v0 1 rows0)] [(1, oB w b)] (fun x hx => ?_) (by simp) Fzs.all (fun x hx => ?_) (by simp)).trans (Ghost.pick [1] (by simp) rfl (fun i o ob' h1 h2 => ?_) rfl ⟨⟨Nat.zero_lt_one, trivial, trivial⟩, trivial⟩ (fun ob hob => ?_))⟩
  · simp only [List.mem_singleton] at hx; subst hx
    exact ⟨Nat.zero_le _, rfl, _, _, _, rfl⟩
  · simp only [List.mem_singleton] at hx; subst hx
    exact ⟨by simp, w, 13, [row], [.agg (cB b)], rfl, rfl, .cons hz .nil⟩
  · cases i with
    | zero =>
      simp at h1 h2; subst h1 h2
      rw [renO_sc0 _ (by exact ⟨scB _ _, trivial⟩)]; rfl
    | succ i => simp at h1
  · simp only [List.mem_singleton] at hob; subst hob
    exact ⟨scB _ _, trivial⟩

theorem f8_own (s v n : Int) (h : newOk s v n) : OwnedR Try.prog 8 [.int .i64 s, .int .i64 v, .int .i64 n] newD 13 [.agg (cB (newB s v n))] := by
  refine OwnedR.of ⟨trivial, trivial, trivial, trivial⟩ ⟨scB _ _, trivial⟩ (fun _ _ => rfl) ?_
  obtain ⟨h1, h2, h3, h4⟩ := h
  obtain ⟨m, rfl⟩ := Int.eq_ofNat_of_zero_le h3
  refine CallsIn.of_exec tab_ok mixed Try.func8 rfl rfl [28] [] ?_
  repeat' ((conv => whnf); first
    | refine And.intro (show ((8 : Nat) : Int) * (m : Int) ≤ 281474976710656 by omega) ?_ | refine And.intro rfl ?_ | refine And.intro (by omega) ?_ | refine boolF_decf (by omega) ?_)
  all_goals (conv => whnf)
  exact ⟨newEnd _ (by
    have e : List.replicate m (D.int .u64 0) = (zer m).map r63 := by rw [zer, List.map_replicate]; rfl
    repeat (first | exact Fzs.nil | refine Fzs.cons .refl ?_ | refine Fzs.cons .nils ?_ | refine Fzs.cons (show Fz [(0, .arr 0 1 (List.replicate m (D.int .u64 0)))] (.h 0 0 0 m) (.sl ((zer m).map r63)) from .h mem0 .all (by rw [e]; exact all_take (by simp [zer]))) ?_))⟩

theorem f8_bad (s v n : Int) (h : ¬ newOk s v n) : Pure Try.prog 8 [.int .i64 s, .int .i64 v, .int .i64 n] (.tup [.pnil, .int .i64 1]) := by
  refine Pure.of ⟨trivial, trivial, trivial, trivial⟩ ⟨trivial, trivial, trivial⟩ ?_
  refine CallsIn.of_exec tab_ok mixed Try.func8 rfl rfl [] [] ?_
  simp only [newOk] at h
  repeat' ((conv => whnf); first
    | refine boolF_dect (by omega) ?_ | refine boolF_dec (fun _ => ?_) (fun _ => ?_))
  all_goals (conv => whnf)
  all_goals (first | exact ⟨rfl⟩ | (exfalso; omega))

end Go.Proofs.Ytjoeonhmejnkmaa

