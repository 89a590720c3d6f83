import Derived.Test.YtgigpjkdfhhahaaD19
namespace Go.Proofs.Ytgigpjkdfhhahaa
open Go.A
set_option linter.unusedVariables false
set_option linter.unusedSimpArgs false
set_option linter.unnecessarySimpa false
attribute [local irreducible] IntKind.wrap bitsI
open B L M
set_option maxRecDepth 100000
set_option maxHeartbeats 4000000

theorem andI (j : Nat) (hj : j ≤ 8) (x : Int) : bitsI .and .i64 x ((2 ^ j - 1 : Nat) : Int) = x % ((2 ^ j : Nat) : Int) := by
  have e1 : (BitVec.ofInt 64 x &&& BitVec.ofInt 64 ((2 ^ j - 1 : Nat) : Int)).toNat = (x % ((2 ^ j : Nat) : Int)).toNat := by
    have h2 : (2 ^ j : Nat) ≤ 256 := Nat.pow_le_pow_right (by decide) hj
    have hpos : 0 < (2 ^ j : Nat) := Nat.pos_of_ne_zero (by simp)
    rw [BitVec.toNat_and, BitVec.toNat_ofInt, BitVec.toNat_ofInt]
    have e2 : (((2 ^ j - 1 : Nat) : Int) % ((2 ^ 64 : Nat) : Int)).toNat = 2 ^ j - 1 := by
      rw [Int.emod_eq_of_lt (by omega) (by omega)]; simp
    rw [e2, Nat.and_two_pow_sub_one_eq_mod]
    have h3 : (0 : Int) ≤ x % ((2 ^ 64 : Nat) : Int) := Int.emod_nonneg _ (by decide)
    have h4 : ((2 ^ j : Nat) : Int) ∣ ((2 ^ 64 : Nat) : Int) := by
      refine Int.natCast_dvd_natCast.mpr (Nat.pow_dvd_pow 2 (by omega))
    have h5 : x % ((2 ^ 64 : Nat) : Int) % ((2 ^ j : Nat) : Int) = x % ((2 ^ j : Nat) : Int) := Int.emod_emod_of_dvd _ h4
    rw [← h5]
    obtain ⟨y, hy⟩ := Int.eq_ofNat_of_zero_le h3
    rw [hy, Int.toNat_natCast]
    rw [← Int.natCast_emod, Int.toNat_natCast]
  have h6 : (0 : Int) ≤ x % ((2 ^ j : Nat) : Int) := Int.emod_nonneg _ (by have : 0 < (2 ^ j : Nat) := Nat.pos_of_ne_zero (by simp); omega)
  have h7 : x % ((2 ^ j : Nat) : Int) < ((2 ^ j : Nat) : Int) := Int.emod_lt_of_pos _ (by have : 0 < (2 ^ j : Nat) := Nat.pos_of_ne_zero (by simp); omega)
  have h8 : (2 ^ j : Nat) ≤ 256 := Nat.pow_le_pow_right (by decide) hj
  delta bitsI
  show IntKind.i64.wrap ((BitVec.ofInt IntKind.i64.bits x &&& BitVec.ofInt IntKind.i64.bits _).toNat : Int) = _
  have e3 : IntKind.i64.bits = 64 := rfl
  rw [e3, e1, ← w64 (by omega) (by omega)]
  omega
theorem and63 (x : Int) : x % 64 = bitsI .and .i64 x 63 := (andI 6 (by decide) x).symm

theorem setB_self (d : Dst) (j : Nat) : setB d j (d.bs j).2 = d := by
  obtain ⟨n, v, id, mv, mn, mp, bs, out⟩ := d
  unfold setB
  congr 1
  funext i
  unfold upd
  split
  · rename_i h; rw [h]
  · rfl
theorem takeD_bad {d : Dst} {i k : Int} {r : T43} (h : (takeD d i k r).2 ≠ 0) : (takeD d i k r).1 = d := by
  unfold takeD at h ⊢
  split
  · rfl
  rename_i g1
  rw [if_neg g1] at h
  split
  · rfl
  rename_i g2
  rw [if_neg g2] at h
  split
  · rfl
  rename_i g3
  rw [if_neg g3] at h
  dsimp only at h ⊢
  rw [take_bad h, setB_self]
theorem takeD_ok {d : Dst} (hd : InvD d) {i : Int} {r : T43} (hk : r.kind_ = 1) (h : (takeD d i 0 r).2 = 0) :
    r.snap_ = d.id ∧ r.map_ = d.version ∧ (r.base_ = 0 ∨ r.base_ = thereD d i) ∧ r.shard_ = i ∧ r.len_ = d.n ∧ (takeD d i 0 r).1.id = d.id ∧ (takeD d i 0 r).1.n = d.n := by
  unfold takeD at h ⊢
  split at h
  · cases h
  rename_i g1
  rw [if_neg g1]
  split at h
  · cases h
  rename_i g2
  rw [if_neg g2]
  split at h
  · cases h
  rename_i g3
  rw [if_neg g3]
  have hn : isNode i := Classical.byContradiction g1
  obtain ⟨j, e1, e2, e3⟩ := isNode_nat hn
  have hb := hd.b j e2
  rw [thereD, if_pos hn]
  rw [e3] at h ⊢
  dsimp only at h ⊢
  have h0 : (d.bs j).2.now.snap = 0 := Classical.byContradiction fun g => by
    have hc : 0 < (d.bs j).2.now.count := by
      rcases hb.now with e | e
      · rw [e] at g; exact absurd rfl g
      · have := e.2.1; omega
    unfold takeM at h
    split at h
    · cases h
    split at h
    · cases h
    first | (cases h; done) | (rw [if_neg g, if_pos hc] at h; cases h)
  rw [take0_ok h h0] at h
  obtain ⟨q1, q2, q3, q4, q5, q6, q7⟩ := begin_ok h
  rw [hb.shard] at q2
  rw [hb.version] at q4
  rw [hb.all] at q3
  have hn1 := hd.n
  refine ⟨Classical.byContradiction fun g => g3 ⟨hk, g⟩, q4, ?_, by rw [q2, e1], by omega, rfl, rfl⟩
  by_cases hb0 : r.base_ = 0
  · exact .inl hb0
  · exact .inr (by omega)
theorem does_n (d : Dst) (a : T61) (vs : List Nat) : (doesD d a vs).1.n = d.n := by
  unfold doesD
  split
  · unfold takeD; split; rfl; split; rfl; split; rfl; rfl
  · unfold syncD; split <;> rfl
  · rfl
  · unfold annD; split; rfl; split; rfl; split; rfl; split; rfl; rfl
  · unfold publishD; split; rfl; split; rfl; rfl
  · unfold cancelD; split; rfl; rfl
  · unfold deleteD; split; rfl; rfl
  · rfl
theorem does_ver (d : Dst) (a : T61) (vs : List Nat) : (doesD d a vs).1.version = if (doesD d a vs).2 = 0 ∧ a.kind_ % 8 = 3 then a.m_.version_ else d.version := by
  unfold doesD
  split
  · rename_i h; rw [h, if_neg (by omega)]; unfold takeD; split; rfl; split; rfl; split; rfl; rfl
  · rename_i h; rw [h, if_neg (by omega)]; unfold syncD; split <;> rfl
  · rename_i h; rw [h, if_neg (by omega)]; rfl
  · rename_i h; rw [h]; unfold annD
    split
    · rw [if_neg (by simp)]
    split
    · rw [if_neg (by simp)]
    split
    · rw [if_neg (by simp)]
    split
    · rw [if_neg (by simp)]
    exact (if_pos ⟨rfl, rfl⟩).symm
  · rename_i h; rw [h, if_neg (by omega)]; unfold publishD; split; rfl; split; rfl; rfl
  · rename_i h; rw [h, if_neg (by omega)]; unfold cancelD; split; rfl; rfl
  · rename_i h; rw [h, if_neg (by omega)]; unfold deleteD; split; rfl; rfl
  · rename_i h0 h1 h2 h3 h4 h5 h6
    rw [if_neg (fun g => h3 g.2)]
theorem NearC.mono {c c' dv : Nat} {d : Dst} {H : List AObj} (h : NearC c dv d H) (hc : c' ≤ c) : NearC c' dv d H := by
  obtain ⟨k, ov, h1, h2⟩ := h
  exact ⟨k, ov, by omega, h2⟩

def hB (r : T43) : AObj := .arr 0 8 [.agg (c44 r)]
theorem scc44 (k : Nat) (r : T43) : scs k (c44 r) := scd44 k r
theorem schB (k : Nat) (r : T43) : (hB r).sc k := ⟨scc44 k r, trivial⟩

theorem scd59 (k : Nat) (l : List T61) : (d59 l).sc k := scs_map.mpr fun x _ => sc62 k x
theorem ren59 (ρ : Nat → Nat) (l : List T61) : ren ρ (d59 l) = d59 l := ren_sc0 ρ _ (scd59 0 l)
theorem destRefused_true (how : T70) (script : List T61) (head : T43) (h0 : ok70 how) (h1 : ok59 script) (h2 : ok44 head) : Go.A.CallsIn Try.prog 6 [d70 how, d59 script, d44 head] [] fun r _ => r = .bool true := by
  have hm1 : 0 ≤ how.a0_ % 64 := Int.emod_nonneg _ (by decide)
  have hm2 : how.a0_ % 64 < 64 := Int.emod_lt_of_pos _ (by decide)
  have hnp : newP (how.a0_ % 64 + 1) := ⟨by omega, by omega⟩
  have hsl : script.length ≤ 140737488351232 := by have := h1.2; simp [td62] at this; omega
  have hhd : head.data_.length ≤ 140737488351232 := by have := h2.2.2.2.2.2.2.2.2; simp [td56] at this; omega
  refine Go.A.CallsIn.of_execN 7 tab_ok mixed Try.func6 rfl rfl [5] [] ?_
  repeat' ((conv => whnf); first
    | refine PairK.mk (by kernel_rfl) ?_ | refine Exists.intro (how.a0_ % 64) (And.intro (and63 _) ?_) | refine And.intro (by decide) ?_ | refine Exists.intro _ (And.intro (w64 (by omega) (by omega)) ?_))
  all_goals (conv => whnf)
  refine new_at hnp [_] (fun dv ov vs => ?_)
  (conv => whnf)
  obtain ⟨n, hn⟩ : ∃ n, n = how.a0_ % 64 + 1 := ⟨_, rfl⟩
  rw [← hn] at hnp ⊢
  refine W_ghost ((Ghost.hold [1, 5, 7, 8, 9, 10] rfl).trans (new_pick (F := [hB head]) (fun ob hob => by simp only [List.mem_singleton] at hob; subst hob; exact schB _ _) (s' := (D.undef :: d59 script :: D.undef :: D.undef :: D.undef :: .p 18 0 0 0 :: D.undef :: .int .i64 n :: .int .i64 how.a1_ :: .p 0 dv 0 0 :: .int .i64 0 :: D.undef :: D.undef :: D.undef :: D.undef :: D.undef :: D.undef :: D.undef :: D.undef :: D.undef :: D.undef :: D.undef :: D.undef :: D.undef :: D.undef :: D.undef :: D.undef :: D.undef :: D.undef :: D.undef :: D.undef :: D.undef :: D.undef :: D.undef :: D.undef :: D.undef :: D.undef :: D.undef :: D.undef :: D.undef :: D.undef :: D.undef :: D.undef :: D.undef :: D.undef :: D.undef :: D.undef :: D.undef :: D.undef :: D.undef :: D.undef :: D.undef :: D.undef :: D.undef :: D.undef :: D.undef :: D.undef :: D.undef :: D.undef :: D.undef :: D.undef :: D.undef :: D.undef :: D.undef :: D.undef :: D.undef :: D.undef :: D.undef :: D.undef :: D.undef :: D.undef :: D.undef :: D.undef :: D.undef :: D.undef :: D.undef :: D.undef :: D.undef :: D.undef :: D.undef :: D.undef :: D.undef :: D.undef :: D.undef :: D.undef :: D.undef :: D.undef :: D.undef :: D.undef :: D.undef :: D.undef :: D.undef :: D.undef :: D.undef :: D.undef :: D.undef :: D.undef :: D.undef :: D.undef :: D.undef :: D.undef :: D.undef :: D.undef :: D.undef :: D.undef :: D.undef :: D.undef :: D.undef :: D.undef :: D.undef :: D.undef :: D.undef :: D.undef :: D.undef :: D.undef :: D.undef :: D.undef :: D.undef :: D.undef :: D.undef :: D.undef :: D.undef :: D.undef :: D.undef :: D.undef :: D.undef :: D.undef :: D.undef :: D.undef :: D.undef :: D.undef :: D.undef :: [])) (by simp only [renL, ren59, ren]; rfl) (by simp [scs, D.sc, scd59]))) ?_
  refine exec_ok tab_ok mixed 1000 (bx := bxD ++ [true]) (own := []) ?_
  repeat' ((conv => whnf); first
    | refine And.intro rfl ?_ | refine Exists.intro _ (And.intro (⟨(List.length_map _).symm⟩) ?_) | refine Pure.call (f9_ok) ?_)
  all_goals (conv => whnf)
  have sB : ∀ k, (hB head).sc k := fun k => schB k head
  refine W_loopG (ι := Nat × Nat × Dst) (fun x => ⟨(D.undef :: D.undef :: D.undef :: D.undef :: D.undef :: .p 18 0 0 0 :: D.undef :: .int .i64 n :: .int .i64 how.a1_ :: .p 0 dv 0 0 :: D.undef :: .int .i64 x.2.2.version :: D.undef :: D.undef :: D.undef :: D.undef :: D.undef :: D.undef :: D.undef :: D.undef :: D.undef :: D.undef :: D.undef :: D.undef :: D.undef :: D.undef :: D.undef :: D.undef :: D.undef :: D.undef :: D.undef :: D.undef :: D.undef :: D.undef :: D.undef :: D.undef :: D.undef :: D.undef :: D.undef :: D.undef :: D.undef :: d59 script :: .int .i64 (script.length : Int) :: .int .i64 (x.1 : Int) :: D.undef :: D.undef :: D.undef :: D.undef :: D.undef :: D.undef :: D.undef :: D.undef :: D.undef :: D.undef :: D.undef :: D.undef :: D.undef :: D.undef :: D.undef :: D.undef :: D.undef :: D.undef :: D.undef :: D.undef :: D.undef :: D.undef :: D.undef :: D.undef :: D.undef :: D.undef :: D.undef :: D.undef :: D.undef :: D.undef :: D.undef :: D.undef :: D.undef :: D.undef :: D.undef :: D.undef :: D.undef :: D.undef :: D.undef :: D.undef :: D.undef :: D.undef :: D.undef :: D.undef :: D.undef :: D.undef :: D.undef :: D.undef :: D.undef :: D.undef :: D.undef :: D.undef :: D.undef :: D.undef :: D.undef :: D.undef :: D.undef :: D.undef :: D.undef :: D.undef :: D.undef :: D.undef :: D.undef :: D.undef :: D.undef :: D.undef :: D.undef :: D.undef :: D.undef :: D.undef :: D.undef :: D.undef :: D.undef :: D.undef :: D.undef :: D.undef :: D.undef :: D.undef :: D.undef :: D.undef :: D.undef :: D.undef :: D.undef :: D.undef :: D.undef :: D.undef :: D.undef :: D.undef :: []), HD dv x.2.1 x.2.2 ++ [hB head]⟩) (fun x => script.length - x.1)
    (fun x => x.1 ≤ script.length ∧ InvD x.2.2 ∧ x.2.2.n = n) (0, ov, newDst n (bsOf 0 n vs)) (Ghost.hold [5, 7, 8, 9, 11, 41, 42, 43] rfl) ⟨Nat.zero_le _, inv_newD hnp vs, rfl⟩ ?_
  rintro ⟨i, ov, d⟩ ⟨i1, hd, hdn⟩
  dsimp only at i1 hd hdn ⊢
  refine exec_ok tab_ok mixed 1000 (bx := bxD ++ [true]) (own := []) ?_
  rcases Nat.lt_or_ge i script.length with h | h
  · obtain ⟨a, ha⟩ := at_lt h
    have hok := h1.1 a (List.mem_of_getElem? ha)
    have hk8 : Int.tmod (a.kind_ : Int) 8 = ((a.kind_ % 8 : Nat) : Int) := rfl
    repeat' ((conv => whnf); first
      | refine Exists.intro _ (And.intro (map_at (by omega) ha) ?_) | refine And.intro (by decide) ?_ | refine And.intro rfl ?_ | refine And.intro (by omega) ?_ | refine boolF_dect (by omega) ?_)
    all_goals (conv => whnf)
    refine does_call hd hok [_, _] (fun vs2 Z hN hZ => ?_)
    have hv2 := does_ver d a vs2
    have hn2 := does_n d a vs2
    have hd2 := inv_does hd a vs2
    obtain ⟨T, hT⟩ : ∃ T, T = doesD d a vs2 := ⟨_, rfl⟩
    rw [← hT] at hN hv2 hn2 hd2 ⊢
    have hN1 : NearC 1 dv T.1 Z := hN.mono (Nat.le_succ 1)
    have hZ1 : ∀ i, i < 1 → Z[18 + i]? = [hB head][i]? := fun i hi => by
      have : i = 0 := by omega
      subst this
      exact hZ 0 (Nat.zero_lt_succ _)
    have fin : ∀ v s, v = T.1.version → s = (D.undef :: D.undef :: D.undef :: D.undef :: D.undef :: .p 18 0 0 0 :: D.undef :: .int .i64 n :: .int .i64 how.a1_ :: .p 0 dv 0 0 :: D.undef :: .int .i64 v :: D.undef :: D.undef :: D.undef :: D.undef :: D.undef :: D.undef :: D.undef :: D.undef :: D.undef :: D.undef :: D.undef :: D.undef :: D.undef :: D.undef :: D.undef :: D.undef :: D.undef :: D.undef :: D.undef :: D.undef :: D.undef :: D.undef :: D.undef :: D.undef :: D.undef :: D.undef :: D.undef :: D.undef :: D.undef :: d59 script :: .int .i64 (script.length : Int) :: .int .i64 ((i + 1 : Nat) : Int) :: D.undef :: D.undef :: D.undef :: D.undef :: D.undef :: D.undef :: D.undef :: D.undef :: D.undef :: D.undef :: D.undef :: D.undef :: D.undef :: D.undef :: D.undef :: D.undef :: D.undef :: D.undef :: D.undef :: D.undef :: D.undef :: D.undef :: D.undef :: D.undef :: D.undef :: D.undef :: D.undef :: D.undef :: D.undef :: D.undef :: D.undef :: D.undef :: D.undef :: D.undef :: D.undef :: D.undef :: D.undef :: D.undef :: D.undef :: D.undef :: D.undef :: D.undef :: D.undef :: D.undef :: D.undef :: D.undef :: D.undef :: D.undef :: D.undef :: D.undef :: D.undef :: D.undef :: D.undef :: D.undef :: D.undef :: D.undef :: D.undef :: D.undef :: D.undef :: D.undef :: D.undef :: D.undef :: D.undef :: D.undef :: D.undef :: D.undef :: D.undef :: D.undef :: D.undef :: D.undef :: D.undef :: D.undef :: D.undef :: D.undef :: D.undef :: D.undef :: D.undef :: D.undef :: D.undef :: D.undef :: D.undef :: D.undef :: D.undef :: D.undef :: D.undef :: D.undef :: D.undef :: D.undef :: []) → ∃ ov', Ghost 0 s Z ((D.undef :: D.undef :: D.undef :: D.undef :: D.undef :: .p 18 0 0 0 :: D.undef :: .int .i64 n :: .int .i64 how.a1_ :: .p 0 dv 0 0 :: D.undef :: .int .i64 T.1.version :: D.undef :: D.undef :: D.undef :: D.undef :: D.undef :: D.undef :: D.undef :: D.undef :: D.undef :: D.undef :: D.undef :: D.undef :: D.undef :: D.undef :: D.undef :: D.undef :: D.undef :: D.undef :: D.undef :: D.undef :: D.undef :: D.undef :: D.undef :: D.undef :: D.undef :: D.undef :: D.undef :: D.undef :: D.undef :: d59 script :: .int .i64 (script.length : Int) :: .int .i64 ((i + 1 : Nat) : Int) :: D.undef :: D.undef :: D.undef :: D.undef :: D.undef :: D.undef :: D.undef :: D.undef :: D.undef :: D.undef :: D.undef :: D.undef :: D.undef :: D.undef :: D.undef :: D.undef :: D.undef :: D.undef :: D.undef :: D.undef :: D.undef :: D.undef :: D.undef :: D.undef :: D.undef :: D.undef :: D.undef :: D.undef :: D.undef :: D.undef :: D.undef :: D.undef :: D.undef :: D.undef :: D.undef :: D.undef :: D.undef :: D.undef :: D.undef :: D.undef :: D.undef :: D.undef :: D.undef :: D.undef :: D.undef :: D.undef :: D.undef :: D.undef :: D.undef :: D.undef :: D.undef :: D.undef :: D.undef :: D.undef :: D.undef :: D.undef :: D.undef :: D.undef :: D.undef :: D.undef :: D.undef :: D.undef :: D.undef :: D.undef :: D.undef :: D.undef :: D.undef :: D.undef :: D.undef :: D.undef :: D.undef :: D.undef :: D.undef :: D.undef :: D.undef :: D.undef :: D.undef :: D.undef :: D.undef :: D.undef :: D.undef :: D.undef :: D.undef :: D.undef :: D.undef :: D.undef :: D.undef :: D.undef :: [])) (HD dv ov' T.1 ++ [hB head]) := fun v s hv hs => by
      subst hv hs
      exact nearC_pick (F := [hB head]) hN1 rfl hZ1 (fun ob hob => by simp only [List.mem_singleton] at hob; subst hob; exact sB _) (fun k => by simp only [renL, ren59, ren]; rfl) (by simp [scs, D.sc, scd59])
    by_cases he : T.2 = 0
    · by_cases hk : a.kind_ % 8 = 3
      · rw [if_pos ⟨he, hk⟩] at hv2
        repeat' ((conv => whnf); first
          | refine objK_of (hZ 1 (Nat.lt_succ_self 1)) ?_ | refine And.intro (by decide) ?_ | refine And.intro (Nat.le_of_ble_eq_true rfl) ?_ | refine Exists.intro _ (And.intro (w64 (by omega) (by omega)) ?_) | refine boolF_dect (by assumption) ?_)
        all_goals (conv => whnf)
        obtain ⟨ov', g⟩ := fin _ _ hv2.symm rfl
        exact ⟨(i + 1, ov', T.1), (Ghost.hold [5, 7, 8, 9, 11, 41, 42, 43] rfl).trans g, ⟨h, hd2, by dsimp only; rw [hn2, hdn]⟩, by dsimp only; omega⟩
      · rw [if_neg (fun g => hk g.2)] at hv2
        repeat' ((conv => whnf); first
          | refine objK_of (hZ 1 (Nat.lt_succ_self 1)) ?_ | refine And.intro (by decide) ?_ | refine And.intro (Nat.le_of_ble_eq_true rfl) ?_ | refine Exists.intro _ (And.intro (w64 (by omega) (by omega)) ?_) | refine boolF_dect (by assumption) ?_ | refine boolF_decf (by assumption) ?_)
        all_goals (conv => whnf)
        obtain ⟨ov', g⟩ := fin _ _ hv2.symm rfl
        exact ⟨(i + 1, ov', T.1), (Ghost.hold [5, 7, 8, 9, 11, 41, 42, 43] rfl).trans g, ⟨h, hd2, by dsimp only; rw [hn2, hdn]⟩, by dsimp only; omega⟩
    · rw [if_neg (fun g => he g.1)] at hv2
      repeat' ((conv => whnf); first
        | refine Exists.intro _ (And.intro (w64 (by omega) (by omega)) ?_) | refine boolF_decf (by assumption) ?_)
      all_goals (conv => whnf)
      obtain ⟨ov', g⟩ := fin _ _ hv2.symm rfl
      exact ⟨(i + 1, ov', T.1), (Ghost.hold [5, 7, 8, 9, 11, 41, 42, 43] rfl).trans g, ⟨h, hd2, by dsimp only; rw [hn2, hdn]⟩, by dsimp only; omega⟩
  · repeat' ((conv => whnf); first
      | refine And.intro (by decide) ?_ | refine And.intro (Nat.le_of_ble_eq_true rfl) ?_ | refine boolF_decf (by omega) ?_)
    all_goals (conv => whnf)
    refine look.call (f25_at dv ov hd how.a1_) [_] trivial ?_
    (conv => whnf)
    refine look.call (f26_at dv ov hd how.a1_) [_] ⟨trivial, trivial, trivial⟩ ?_
    repeat' ((conv => whnf); first
      | refine And.intro (by decide) ?_)
    all_goals (conv => whnf)
    have h16 := f16_at dv ov hd how.a1_ 0 ⟨1, head.shard_, head.snap_, head.base_, head.map_, head.off_, head.len_, head.data_⟩ hhd
    have hbad := takeD_bad (d := d) (i := how.a1_) (k := 0) (r := ⟨1, head.shard_, head.snap_, head.base_, head.map_, head.off_, head.len_, head.data_⟩)
    have hgood := takeD_ok hd (i := how.a1_) (r := ⟨1, head.shard_, head.snap_, head.base_, head.map_, head.off_, head.len_, head.data_⟩) rfl
    obtain ⟨T, hT⟩ : ∃ T, T = takeD d how.a1_ 0 ⟨1, head.shard_, head.snap_, head.base_, head.map_, head.off_, head.len_, head.data_⟩ := ⟨_, rfl⟩
    rw [← hT] at h16 hbad hgood
    refine TurnD.call h16 [_] trivial ?_
    obtain ⟨c, hc⟩ : ∃ c, c = comingD d how.a1_ := ⟨_, rfl⟩
    obtain ⟨th, hth⟩ : ∃ th, th = thereD d how.a1_ := ⟨_, rfl⟩
    have h25 := f25_at dv ov hd how.a1_
    have h26 := f26_at dv ov hd how.a1_
    rw [← hth] at h25 hgood
    rw [← hc] at h26
    rw [← hc, ← hth]
    by_cases he : T.2 = 0
    · obtain ⟨g1, g2, g3, g4, g5, g6, g7⟩ := hgood he
      dsimp only at g1 g2 g3 g4 g5
      have h15 := f15_at dv ov T.1
      rw [if_pos (show 0 < T.1.n by rw [g7]; exact hd.n.1), g6] at h15
      rw [hdn] at g5
      by_cases hb0 : head.base_ = 0
      · repeat' ((conv => whnf); first
          | refine PairK.mk (by kernel_rfl) ?_ | refine look.loc h15 [_] trivial ?_ | refine And.intro (by decide) ?_ | refine And.intro (Nat.le_of_ble_eq_true rfl) ?_ | refine boolF_not ?_ | refine boolF_dect (by assumption) ?_)
        all_goals (conv => whnf)
        all_goals exact ⟨by rw [g5, beq_self_eq_true]⟩
      · have hb1 : head.base_ = th := by omega
        repeat' ((conv => whnf); first
          | refine PairK.mk (by kernel_rfl) ?_ | refine look.loc h15 [_] trivial ?_ | refine And.intro (by decide) ?_ | refine And.intro (Nat.le_of_ble_eq_true rfl) ?_ | refine boolF_not ?_ | refine boolF_dect (by assumption) ?_ | refine boolF_decf (by assumption) ?_)
        all_goals (conv => whnf)
        all_goals exact ⟨by rw [g5, beq_self_eq_true]⟩
    · rw [hbad he]
      repeat' ((conv => whnf); first
        | refine boolF_not ?_ | refine boolF_decf (by assumption) ?_)
      all_goals (conv => whnf)
      refine look.call h26 [_] ⟨trivial, trivial, trivial⟩ ?_
      repeat' ((conv => whnf); first
        | refine boolF_t (beq_self_eq_true _) ?_)
      all_goals (conv => whnf)
      refine look.call h25 [_] trivial ?_
      (conv => whnf)
      exact ⟨by rw [beq_self_eq_true]⟩

end Go.Proofs.Ytgigpjkdfhhahaa

