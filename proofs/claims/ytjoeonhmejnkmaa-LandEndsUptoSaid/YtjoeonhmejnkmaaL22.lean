import Derived.Test.YtjoeonhmejnkmaaL21
namespace Go.Proofs.Ytjoeonhmejnkmaa
open Go.A
set_option linter.unusedVariables false
set_option linter.unusedSimpArgs false
set_option linter.unnecessarySimpa false
attribute [local irreducible] IntKind.wrap bitsI
open B
set_option maxRecDepth 100000

def hd1 : Rec := ⟨1, 0, 1, 0, 0, 0, 30, []⟩
def hd2 : Rec := ⟨1, 0, 2, 1, 0, 0, 30, []⟩
/-- So far taken, or nothing. -/
def Pt (h : Rec) (ops : List Op) (v0 : List Nat) (c : Cm) : Prop := c = cm0 ∨ ∃ j, j ≤ ops.length ∧ c = partC h ops v0 (j + 1)
/-- What was there, or all of it. -/
structure Wh (ops : List Op) (was : List Nat) (b : Bt) : Prop where
  made : b.made = true
  shard : b.shard = 0
  version : b.version = 0
  c : (b.there = 1 ∧ b.all = was ∧ Pt hd2 ops was b.now ∧ Pt hd2 ops was b.sure) ∨ (b.there = 2 ∧ b.all = applyL was ops ∧ b.now = cm0 ∧ b.sure = cm0)

theorem wh_take {ops : List Op} {was : List Nat} (s : Stream 30 hd2 ops) (hw : was.length = 30) {b : Bt} (h : Wh ops was b) {i : Nat} {r : Rec} (hr : (strmL hd2 ops)[i]? = some r) : Wh ops was (takeM b (i : Int) r).1 := by
  by_cases e : (takeM b (i : Int) r).2 = 0
  case neg =>
    rw [take_bad e]; exact h
  rcases h.c with ⟨c1, c2, c3, c4⟩ | ⟨c1, c2, c3, c4⟩
  · rcases c3 with c3 | ⟨j, hj, c3⟩
    · have h0 : b.now.snap = 0 := by rw [c3]; rfl
      have hi : i = 0 := Classical.byContradiction fun g => refuses h0 (.inl (by omega)) e
      subst hi
      rw [recAt0] at hr
      cases hr
      have := take_first s (b := b) h.made (by rw [c2]; exact hw) c3 (by rw [h.shard]; rfl) (by rw [h.version]; rfl) (by rw [c1]; decide) (.inr (by rw [c1]; rfl))
      rw [show ((0 : Nat) : Int) = 0 from rfl, this]
      exact ⟨h.made, h.shard, h.version, .inl ⟨c1, c2, .inr ⟨0, Nat.zero_le _, by rw [c2]; rfl⟩, c4⟩⟩
    · have h0 : b.now.snap ≠ 0 := by rw [c3]; exact s.snap
      have hc : b.now.count = ((j + 1 : Nat) : Int) := by rw [c3]; rfl
      have hi : i = j + 1 := Classical.byContradiction fun g => (take_not (b := b) (i := (i : Int)) (r := r) h.made (s.may r (List.mem_of_getElem? hr)) (by omega) (.inr ⟨h0, by omega⟩)).2.1 e
      subst hi
      rcases Nat.lt_or_ge j ops.length with g | g
      · obtain ⟨o, ho⟩ := at_lt g
        rw [recAti _ ho] at hr
        cases hr
        rw [take_mid s hw ho h.made c3]
        exact ⟨h.made, h.shard, h.version, .inl ⟨c1, c2, .inr ⟨j + 1, g, rfl⟩, c4⟩⟩
      · obtain rfl : j = ops.length := by omega
        rw [recAtn] at hr
        cases hr
        rw [take_tail s h.made c3]
        exact ⟨h.made, h.shard, h.version, .inr ⟨rfl, rfl, rfl, rfl⟩⟩
  · have h0 : b.now.snap = 0 := by rw [c3]; rfl
    have hi : i = 0 := Classical.byContradiction fun g => refuses h0 (.inl (by omega)) e
    subst hi
    rw [recAt0] at hr
    cases hr
    exact absurd e (refuses h0 (.inr (by rw [c1]; rfl)))
theorem wh_sync {ops : List Op} {was : List Nat} {b : Bt} (h : Wh ops was b) : Wh ops was (syncB b) := by
  rw [syncB, if_pos h.made]
  refine ⟨h.made, h.shard, h.version, ?_⟩
  rcases h.c with ⟨c1, c2, c3, c4⟩ | ⟨c1, c2, c3, c4⟩
  · exact .inl ⟨c1, c2, c3, c3⟩
  · exact .inr ⟨c1, c2, c3, c3⟩
theorem wh_crash {ops : List Op} {was : List Nat} {b : Bt} (h : Wh ops was b) : Wh ops was (crashB b) := by
  rw [crashB, if_pos h.made]
  refine ⟨h.made, h.shard, h.version, ?_⟩
  rcases h.c with ⟨c1, c2, c3, c4⟩ | ⟨c1, c2, c3, c4⟩
  · exact .inl ⟨c1, c2, c4, c4⟩
  · exact .inr ⟨c1, c2, c4, c4⟩
theorem zerD (m : Nat) : List.replicate m (D.int .u64 0) = (zer m).map r63 := by rw [zer, List.map_replicate]; rfl
theorem applyM_ok {v : List Nat} {ops : List Op} (h1 : v.length ≤ 1024) (h2 : allOk v.length ops) : applyM v ops = (applyL v ops, 0) := by rw [applyM, if_neg (by omega), if_pos h2]

end Go.Proofs.Ytjoeonhmejnkmaa

