import Derived.Test.YtjoeonhmejnkmaaL16
namespace Go.Proofs.Ytjoeonhmejnkmaa
open Go.A
set_option linter.unusedVariables false
set_option linter.unusedSimpArgs false
set_option linter.unnecessarySimpa false
attribute [local irreducible] IntKind.wrap bitsI
open B
set_option maxRecDepth 100000

/-- A stream that fits. -/
structure Stream (n : Nat) (h : Rec) (ops : List Op) : Prop where
  k : h.kind_ = 1
  len : h.len_ = (n : Int)
  n1 : n ≤ 1024
  snap : h.snap_ ≠ 0
  may : allMay (strmL h ops)
  fit : fits h.len_ 0 (ops.map recOf)

theorem build_ok {h : Rec} {ops : List Op} {n : Nat} (hl : h.len_ = (n : Int)) (hn : n ≤ 1024) (hs : h.snap_ ≠ 0) (h0 : (buildM h ops).2 = 0) : (buildM h ops).1 = strmL h ops ∧ Stream n h ops := by
  unfold buildM at h0 ⊢
  split at h0
  · cases h0
  · rename_i g1
    rw [if_neg g1]
    split at h0
    · rename_i g2
      rw [if_pos g2]
      refine ⟨rfl, ?_⟩
      unfold checkM at g2
      split at g2
      · cases g2
      · rename_i g3
        split at g2
        · cases g2
        · split at g2
          · rename_i g4 g5
            exact ⟨by omega, hl, hn, hs, Classical.byContradiction g3, g5⟩
          · cases g2
    · rename_i g2
      exact absurd h0 g2

theorem Stream.mayAt {n h ops} (s : Stream n h ops) {o : Op} (ho : o ∈ ops) : mayR (recOf o) :=
  s.may _ (List.mem_cons_of_mem _ (List.mem_append_left _ (List.mem_map_of_mem ho)))
theorem opOf_rec {o : Op} (h : mayR (recOf o)) : opOf (recOf o) = o ∧ ((recOf o).kind_ = 2 ∧ o = ⟨1, o.off_, 0, o.data_⟩ ∨ (recOf o).kind_ = 3 ∧ o = ⟨2, o.off_, o.len_, []⟩) := by
  have hk := h.2
  obtain ⟨k, off, len, data⟩ := o
  simp only [kindOk, recOf, kd] at hk
  by_cases h1 : k = 1
  · subst h1
    rw [if_pos rfl] at hk
    have hlen : len = 0 := by omega
    subst hlen
    refine ⟨?_, .inl ⟨rfl, rfl⟩⟩
    rfl
  · rw [if_neg h1] at hk
    by_cases h2 : k = 2
    · subst h2
      rw [if_pos rfl] at hk
      have hd : data.length = 0 := by omega
      obtain rfl := List.length_eq_zero_iff.mp hd
      refine ⟨?_, .inr ⟨rfl, rfl⟩⟩
      rfl
    · rw [if_neg h2] at hk
      omega

def bhF (b : Int) (l : List Op) : Int := match l.getLast? with | none => b | some o => endOf o
theorem bhF_cons (b : Int) (o : Op) (l : List Op) : bhF b (o :: l) = bhF (endOf o) l := by
  cases l with
  | nil => rfl
  | cons x l => simp [bhF, List.getLast?_cons]
theorem bhF_snoc (b : Int) (o : Op) (l : List Op) : bhF b (l ++ [o]) = endOf o := by simp [bhF]
theorem fits_at {n : Int} : ∀ {ops : List Op} {b : Int}, (∀ o ∈ ops, opOf (recOf o) = o) → fits n b (ops.map recOf) → ∀ (k : Nat) (o : Op), ops[k]? = some o → okOp n o ∧ bhF b (ops.take k) ≤ o.off_
  | [], _, _, _, k, o, hk => by simp at hk
  | x :: ops, b, he, hf, k, o, hk => by
    simp only [List.map_cons, fits] at hf
    rw [he x List.mem_cons_self] at hf
    cases k with
    | zero => simp at hk; subst hk; exact ⟨hf.1, hf.2.1⟩
    | succ k =>
      have := fits_at (fun o ho => he o (List.mem_cons_of_mem _ ho)) hf.2.2 k o (by simpa using hk)
      rw [List.take_succ_cons, bhF_cons]
      exact this

theorem Stream.at {n h ops} (s : Stream n h ops) {k : Nat} {o : Op} (hk : ops[k]? = some o) : okOp n o ∧ bhF 0 (ops.take k) ≤ o.off_ := by
  have := fits_at (fun o ho => (opOf_rec (s.mayAt ho)).1) s.fit k o hk
  rw [s.len] at this
  exact this
theorem Stream.allOk {n h ops} (s : Stream n h ops) : B.allOk n ops := fun o ho => by
  obtain ⟨k, hk⟩ := List.getElem?_of_mem ho
  exact (s.at hk).1
theorem Stream.app {n h ops} (s : Stream n h ops) {v0 : List Nat} (hv : v0.length = n) (k : Nat) : (applyL v0 (ops.take k)).length = n := by
  rw [← hv]
  exact (apply_at (fun o ho => by rw [hv]; exact s.allOk o (List.mem_of_mem_take ho))).1

/-- So far taken. -/
def partC (h : Rec) (ops : List Op) (v0 : List Nat) (j : Nat) : Cm := ⟨h.snap_, (j : Int), bhF 0 (ops.take (j - 1)), applyL v0 (ops.take (j - 1))⟩
theorem recAt0 (h : Rec) (ops : List Op) : (strmL h ops)[0]? = some h := rfl
theorem recAti (h : Rec) {ops : List Op} {j : Nat} {o : Op} (hj : ops[j]? = some o) : (strmL h ops)[j + 1]? = some (recOf o) := by
  rw [strmL, List.getElem?_cons_succ, List.getElem?_append_left (by rw [List.length_map]; exact (List.getElem?_eq_some_iff.mp hj).1), List.getElem?_map, hj]; rfl
theorem recAtn (h : Rec) (ops : List Op) : (strmL h ops)[ops.length + 1]? = some (tailR ops.length) := by
  rw [strmL, List.getElem?_cons_succ]; simp
theorem strm_len (h : Rec) (ops : List Op) : (strmL h ops).length = ops.length + 2 := by simp [strmL]

theorem take_first {n h ops} (s : Stream n h ops) {b : Bt} (hm : b.made = true) (hall : b.all.length = n) (hnow : b.now = cm0) (hsh : h.shard_ = b.shard) (hmap : h.map_ = b.version) (hth : h.snap_ ≠ b.there) (hba : h.base_ = 0 ∨ h.base_ = b.there) :
    takeM b 0 h = (⟨partC h ops (if h.base_ = 0 then zer b.all.length else b.all) 1, b.there, b.all, b.made, b.shard, b.version, b.sure⟩, 0) := by
  have hmay := s.may h List.mem_cons_self
  rw [takeM, if_neg (by simp [hm]), if_neg (by simp [hmay]), if_pos (by rw [hnow]; rfl)]
  have h3 := s.snap
  have h4 := s.k
  have h5 := s.len
  rw [beginM, if_neg (by decide), if_neg (by simp [h4]), if_neg (by omega), if_neg (by simp [hmap]), if_neg (by omega), if_neg (by omega)]
  rfl
theorem take_mid {n h ops} (s : Stream n h ops) {b : Bt} {v0 : List Nat} (hv : v0.length = n) {j : Nat} {o : Op} (ho : ops[j]? = some o) (hm : b.made = true) (hnow : b.now = partC h ops v0 (j + 1)) :
    takeM b ((j + 1 : Nat) : Int) (recOf o) = (⟨partC h ops v0 (j + 2), b.there, b.all, b.made, b.shard, b.version, b.sure⟩, 0) := by
  have hmem := List.mem_of_getElem? ho
  have hmay := s.mayAt hmem
  obtain ⟨hok, hbh⟩ := s.at ho
  have hlen := s.app hv j
  have hts : ops.take (j + 1) = ops.take j ++ [o] := by rw [List.take_add_one, ho]; rfl
  have hdone : doneM b o = (⟨partC h ops v0 (j + 2), b.there, b.all, b.made, b.shard, b.version, b.sure⟩, 0) := by
    have hnv : b.now.v = applyL v0 (ops.take j) := by rw [hnow]; rfl
    have ha : applyM b.now.v [o] = (doO (applyL v0 (ops.take j)) o, 0) := by
      rw [hnv]
      exact applyM_at (by rw [hlen]; exact s.n1) (by rw [hlen]; exact hok)
    have hb : ¬ o.off_ < b.now.behind := by rw [hnow]; exact Int.not_lt.mpr hbh
    rw [doneM, ha, if_neg (by rintro (g | g); exact g rfl; exact hb g), hnow]
    simp only [partC, Nat.add_sub_cancel, show j + 2 - 1 = j + 1 from rfl]
    rw [hts, bhF_snoc, applyL, applyL, List.foldl_append]
    rfl
  have hsn : b.now.snap ≠ 0 := by rw [hnow]; exact s.snap
  have hct : b.now.count = ((j + 1 : Nat) : Int) := by rw [hnow]; rfl
  rw [takeM, if_neg (by simp [hm]), if_neg (by rintro (g | g); omega; exact g hmay), if_neg hsn, if_neg (by omega), if_neg (by omega)]
  obtain ⟨_, ⟨k2, e⟩ | ⟨k3, e⟩⟩ := opOf_rec hmay
  · rw [if_pos k2]
    have : (⟨1, (recOf o).off_, 0, (recOf o).data_⟩ : Op) = o := e.symm
    rw [this, hdone]
  · rw [if_neg (by omega), if_pos k3]
    have : (⟨2, (recOf o).off_, (recOf o).len_, []⟩ : Op) = o := e.symm
    rw [this, hdone]
theorem take_tail {n h ops} (s : Stream n h ops) {b : Bt} {v0 : List Nat} (hm : b.made = true) (hnow : b.now = partC h ops v0 (ops.length + 1)) :
    takeM b ((ops.length + 1 : Nat) : Int) (tailR ops.length) = (⟨cm0, h.snap_, applyL v0 ops, b.made, b.shard, b.version, cm0⟩, 0) := by
  have hmay : mayR (tailR ops.length) := s.may _ (List.mem_cons_of_mem _ (List.mem_append_right _ List.mem_cons_self))
  have hsn : b.now.snap ≠ 0 := by rw [hnow]; exact s.snap
  have hct : b.now.count = ((ops.length + 1 : Nat) : Int) := by rw [hnow]; rfl
  rw [takeM, if_neg (by simp [hm]), if_neg (by rintro (g | g); omega; exact g hmay), if_neg hsn, if_neg (by omega), if_neg (by omega), if_neg (by show ¬ (4 : Int) = 2; decide), if_neg (by show ¬ (4 : Int) = 3; decide),
    if_pos ⟨rfl, by rw [hct]; show (ops.length : Int) = _; omega⟩]
  rw [landB, dropB, if_pos hm, hnow]
  simp [partC]
theorem take_not {b : Bt} {i : Int} {r : Rec} (hm : b.made = true) (hr : mayR r) (hi : 0 ≤ i) (h : b.now.snap = 0 ∧ i ≠ 0 ∨ b.now.snap ≠ 0 ∧ i ≠ b.now.count) : (takeM b i r).1 = b ∧ (takeM b i r).2 ≠ 0 ∧ (i < b.now.count → b.now.snap ≠ 0 → (takeM b i r).2 = 10) := by
  rw [takeM, if_neg (by simp [hm]), if_neg (by rintro (g | g); omega; exact g hr)]
  rcases h with ⟨h1, h2⟩ | ⟨h1, h2⟩
  · rw [if_pos h1, beginM, if_pos h2]
    exact ⟨rfl, show (15 : Int) ≠ 0 by decide, fun _ g => absurd h1 g⟩
  · rw [if_neg h1]
    split
    · exact ⟨rfl, show (10 : Int) ≠ 0 by decide, fun _ _ => rfl⟩
    · rw [if_pos (by omega)]
      exact ⟨rfl, show (15 : Int) ≠ 0 by decide, fun g => by omega⟩

end Go.Proofs.Ytjoeonhmejnkmaa

