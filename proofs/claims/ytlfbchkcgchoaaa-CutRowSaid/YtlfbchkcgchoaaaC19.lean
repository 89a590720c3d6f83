import Derived.Test.YtlfbchkcgchoaaaC18
namespace Go.Proofs.Ytlfbchkcgchoaaa.C
open Go.A
set_option linter.unusedVariables false
set_option linter.unusedSimpArgs false
set_option linter.unnecessarySimpa false
attribute [local irreducible] IntKind.wrap bitsI
open B
set_option maxRecDepth 100000
set_option maxHeartbeats 4000000

/- Requests one behind the other. -/
def mkD (i : Nat) (o : T38) : Dn := ⟨o, 10 * (i : Int), 10 * (i : Int) + 5⟩
def row (ops : List T38) : List Dn := ops.mapIdx mkD
theorem rowLen (ops : List T38) : (row ops).length = ops.length := List.length_mapIdx
theorem row_get (ops : List T38) (i : Nat) : (row ops)[i]? = (ops[i]?).map (mkD i) := List.getElem?_mapIdx
theorem row_snoc {ops : List T38} {i : Nat} {o : T38} (h : ops[i]? = some o) : row (ops.take (i + 1)) = row (ops.take i) ++ [mkD i o] := by
  have hl := (List.getElem?_eq_some_iff.mp h).1
  rw [take_snoc h, row, List.mapIdx_concat, List.length_take, Nat.min_eq_left (by omega)]
  rfl
def bk (ops : List T38) : List Dn := (row ops).reverse
theorem bk_len (ops : List T38) : (bk ops).length = ops.length := by rw [bk, List.length_reverse, rowLen]
theorem bk_get {ops : List T38} {p : Nat} (hp : p < ops.length) : (bk ops)[p]? = (ops[ops.length - 1 - p]?).map (mkD (ops.length - 1 - p)) := by
  rw [bk, List.getElem?_reverse (by rw [rowLen]; exact hp), rowLen, row_get]
theorem bk_at {ops : List T38} {p : Nat} {d : Dn} (h : (bk ops)[p]? = some d) : p < ops.length ∧ ∃ o, ops[ops.length - 1 - p]? = some o ∧ d = mkD (ops.length - 1 - p) o := by
  have hp : p < ops.length := by rw [← bk_len]; exact (List.getElem?_eq_some_iff.mp h).1
  rw [bk_get hp] at h
  obtain ⟨o, h1, h2⟩ := Option.map_eq_some_iff.mp h
  exact ⟨hp, o, h1, h2.symm⟩
theorem mkD_ahead (i j : Nat) (a b : T38) : aheadD (mkD i a) (mkD j b) ↔ i < j := by
  unfold aheadD mkD; dsimp only; omega
def firstM (n i : Nat) : Mk := fun p => decide (p < n ∧ n - 1 - p < i)
theorem firstM_at (n i p : Nat) : firstM n i p = true ↔ p < n ∧ n - 1 - p < i := by simp [firstM]
def vR (k : Nat) (ops : List T38) (i : Nat) : List Nat := applyL (zer k) (ops.take i)
theorem vR_snoc {k : Nat} {ops : List T38} {i : Nat} {o : T38} (h : ops[i]? = some o) : vR k ops (i + 1) = doO (vR k ops i) o := applyL_snoc h
theorem firstM_snoc {n i : Nat} (hi : i < n) : firstM n (i + 1) = (firstM n i).with (n - 1 - i) := Mk.ext fun p => by
  rw [Mk.with_at, firstM_at, firstM_at]; omega
theorem row_ord {k : Nat} {ops : List T38} : ∀ {i : Nat}, i ≤ ops.length → Ord (bk ops) k (firstM ops.length i) (vR k ops i)
  | 0, _ => by
    have e : firstM ops.length 0 = emp := Mk.ext fun p => by rw [firstM_at]; simp [emp]
    rw [e]; exact .nil
  | i + 1, hi => by
    obtain ⟨o, ho⟩ := at_lt (l := ops) (i := i) (by omega)
    rw [vR_snoc ho, firstM_snoc (by omega)]
    have hd : (bk ops)[ops.length - 1 - i]? = some (mkD i o) := by
      rw [bk_get (by omega), show ops.length - 1 - (ops.length - 1 - i) = i by omega, ho]; rfl
    refine Ord.snoc (d := mkD i o) (row_ord (by omega)) hd ?_ fun q e he hae => ?_
    · have : ¬ firstM ops.length i (ops.length - 1 - i) = true := by rw [firstM_at]; omega
      simpa using this
    · obtain ⟨hq, o', _, rfl⟩ := bk_at he
      rw [mkD_ahead] at hae
      rw [firstM_at]; omega
theorem ord_row {k : Nat} {ops : List T38} {S : Mk} {v : List Nat} (o : Ord (bk ops) k S v) : ∃ i, i ≤ ops.length ∧ S = firstM ops.length i ∧ v = vR k ops i := by
  induction o with
  | nil => exact ⟨0, Nat.zero_le _, Mk.ext fun p => by rw [firstM_at]; simp [emp], rfl⟩
  | @snoc S0 x0 p d o hd hn hc ih =>
    obtain ⟨i, hi, rfl, rfl⟩ := ih
    obtain ⟨hp, o1, ho1, rfl⟩ := bk_at hd
    have h1 : ¬ (p < ops.length ∧ ops.length - 1 - p < i) := by
      rw [← firstM_at, hn]; simp
    have h2 : ops.length - 1 - p ≤ i := Nat.le_of_not_lt fun hlt => by
      obtain ⟨o2, ho2⟩ := at_lt (l := ops) (i := i) (by omega)
      have hg : (bk ops)[ops.length - 1 - i]? = some (mkD i o2) := by
        rw [bk_get (by omega), show ops.length - 1 - (ops.length - 1 - i) = i by omega, ho2]; rfl
      have := hc _ _ hg ((mkD_ahead _ _ _ _).mpr hlt)
      rw [firstM_at] at this; omega
    have e : ops.length - 1 - p = i := by omega
    rw [e] at ho1 ⊢
    refine ⟨i + 1, by omega, ?_, (vR_snoc ho1).symm⟩
    rw [firstM_snoc (by omega), show ops.length - 1 - i = p by omega]
theorem row_cut {k : Nat} {ops : List T38} {i : Nat} (hi : i ≤ ops.length) {a b : Int} (h1 : i < ops.length → a ≤ 10 * (i : Int) + 5) (h2 : 0 < i → 10 * ((i : Int) - 1) ≤ b) : Cut (bk ops) k a b (vR k ops i) := by
  refine ⟨_, row_ord hi, fun p d hd => ?_⟩
  obtain ⟨hp, o, _, rfl⟩ := bk_at hd
  refine ⟨fun hS => ⟨?_, fun q e he hae => ?_⟩, fun hS hc => ?_⟩
  · rw [firstM_at] at hS
    show 10 * ((ops.length - 1 - p : Nat) : Int) ≤ b
    have := h2 (by omega)
    omega
  · obtain ⟨hq, o2, _, rfl⟩ := bk_at he
    rw [mkD_ahead] at hae
    rw [firstM_at] at hS ⊢
    omega
  · have hS' : ¬ firstM ops.length i p = true := by rw [hS]; simp
    rw [firstM_at] at hS'
    have h3 : 10 * ((ops.length - 1 - p : Nat) : Int) + 5 < a := hc.2
    have := h1 (by omega)
    omega
theorem len_sub : ∀ {l m : List (List Nat)}, l.Nodup → (∀ x ∈ l, x ∈ m) → l.length ≤ m.length
  | [], _, _, _ => Nat.zero_le _
  | x :: l, m, hn, h => by
    obtain ⟨h1, h2⟩ := List.nodup_cons.mp hn
    have hx := h x List.mem_cons_self
    have := len_sub (l := l) (m := m.erase x) h2 fun y hy => (List.mem_erase_of_ne fun e => h1 (by rw [← e]; exact hy)).mpr (h y (List.mem_cons_of_mem _ hy))
    rw [List.length_erase_of_mem hx] at this
    have := List.length_pos_of_mem hx
    rw [List.length_cons]; omega
theorem row_few {k : Nat} {ops : List T38} {a b : Int} : (cutsL (bk ops) k a b).length ≤ ops.length + 1 := by
  have h1 : (cutsL (bk ops) k a b).Nodup := (cuts_asc _ _ _ _).imp fun h e => by
    subst e
    have h' : cmpL _ _ < 0 := h
    rw [cmpL_self] at h'; omega
  have := len_sub (m := (List.range (ops.length + 1)).map (vR k ops)) h1 fun x hx => by
    obtain ⟨S, o, _⟩ := mem_cuts.mp hx
    obtain ⟨i, hi, _, rfl⟩ := ord_row o
    exact List.mem_map.mpr ⟨i, List.mem_range.mpr (by omega), rfl⟩
  rw [List.length_map, List.length_range] at this
  exact this
theorem bk_all {k : Nat} {ops : List T38} (h : allOk k ops) : allD k (bk ops) := fun d hd => by
  obtain ⟨p, hp⟩ := List.getElem?_of_mem hd
  obtain ⟨_, o, ho, rfl⟩ := bk_at hp
  refine ⟨h o (List.mem_of_getElem? ho), ?_, .inl ?_⟩ <;> unfold mkD <;> dsimp only <;> omega

end Go.Proofs.Ytlfbchkcgchoaaa.C

