import Derived.Test.YtbefmodpgecfgaaD9
namespace Go.Proofs.Ytbefmodpgecfgaa
open Go.A
set_option linter.unusedVariables false
set_option linter.unusedSimpArgs false
set_option linter.unnecessarySimpa false
attribute [local irreducible] IntKind.wrap bitsI
set_option maxRecDepth 100000
set_option maxHeartbeats 4000000

/- from D10 -/
theorem andI (j : Nat) (hj : j ≤ 8) (x : Int) : bitsI .and .i64 x ((2 ^ j - 1 : Nat) : Int) = x % ((2 ^ j : Nat) : Int) := by
  have e1 : (BitVec.ofInt 64 x &&& BitVec.ofInt 64 ((2 ^ j - 1 : Nat) : Int)).toNat = (x % ((2 ^ j : Nat) : Int)).toNat := by
    have h2 : (2 ^ j : Nat) ≤ 256 := Nat.pow_le_pow_right (by decide) hj
    have hpos : 0 < (2 ^ j : Nat) := Nat.pos_of_ne_zero (by simp)
    rw [BitVec.toNat_and, BitVec.toNat_ofInt, BitVec.toNat_ofInt]
    have e2 : (((2 ^ j - 1 : Nat) : Int) % ((2 ^ 64 : Nat) : Int)).toNat = 2 ^ j - 1 := by
      rw [Int.emod_eq_of_lt (by omega) (by omega)]; simp
    rw [e2, Nat.and_two_pow_sub_one_eq_mod]
    have h3 : (0 : Int) ≤ x % ((2 ^ 64 : Nat) : Int) := Int.emod_nonneg _ (by decide)
    have h4 : ((2 ^ j : Nat) : Int) ∣ ((2 ^ 64 : Nat) : Int) := by
      refine Int.natCast_dvd_natCast.mpr (Nat.pow_dvd_pow 2 (by omega))
    have h5 : x % ((2 ^ 64 : Nat) : Int) % ((2 ^ j : Nat) : Int) = x % ((2 ^ j : Nat) : Int) := Int.emod_emod_of_dvd _ h4
    rw [← h5]
    obtain ⟨y, hy⟩ := Int.eq_ofNat_of_zero_le h3
    rw [hy, Int.toNat_natCast]
    rw [← Int.natCast_emod, Int.toNat_natCast]
  have h6 : (0 : Int) ≤ x % ((2 ^ j : Nat) : Int) := Int.emod_nonneg _ (by have : 0 < (2 ^ j : Nat) := Nat.pos_of_ne_zero (by simp); omega)
  have h7 : x % ((2 ^ j : Nat) : Int) < ((2 ^ j : Nat) : Int) := Int.emod_lt_of_pos _ (by have : 0 < (2 ^ j : Nat) := Nat.pos_of_ne_zero (by simp); omega)
  have h8 : (2 ^ j : Nat) ≤ 256 := Nat.pow_le_pow_right (by decide) hj
  delta bitsI
  show IntKind.i64.wrap ((BitVec.ofInt IntKind.i64.bits x &&& BitVec.ofInt IntKind.i64.bits _).toNat : Int) = _
  have e3 : IntKind.i64.bits = 64 := rfl
  rw [e3, e1, ← w64 (by omega) (by omega)]
  omega
theorem and3 (i : Nat) : ((i % 4 : Nat) : Int) = bitsI .and .i64 (i : Int) 3 := (andI 2 (by decide) i).symm ▸ (by simp)
theorem and15 (x : Int) : x % 16 = bitsI .and .i64 x 15 := (andI 4 (by decide) x).symm

def FuseI (st i : Nat) (s : Dk) : Prop := OkK s ∧ s.plate.length = 4 ∧ s.armed = true ∧ (i ≤ st → s.off = false ∧ s.fuse = ((st - i : Nat) : Int)) ∧ (st < i → s.off = true)
theorem fuse_step {st i : Nat} {s : Dk} (h : FuseI st i s) : FuseI st (i + 1) (stepM s).2 ∧ (stepM s).1 = decide (i < st) := by
  obtain ⟨h1, h2, h3, h4, h5⟩ := h
  have hok := stepM_ok h1
  rcases Nat.lt_or_ge st i with g | g
  · have ho := h5 g
    have e : stepM s = (false, s) := by rw [stepM, if_pos ho]
    rw [e] at hok ⊢
    exact ⟨⟨hok, h2, h3, fun g2 => by omega, fun _ => ho⟩, by rw [decide_eq_false (by omega)]⟩
  · obtain ⟨ho, hf⟩ := h4 g
    by_cases g2 : i < st
    · have e : stepM s = (true, { s with fuse := s.fuse - 1 }) := by rw [stepM, if_neg (by simp [ho]), if_pos h3, if_neg (by omega)]
      rw [e] at hok ⊢
      exact ⟨⟨hok, h2, h3, fun g3 => ⟨ho, by dsimp only; omega⟩, fun g3 => by omega⟩, by rw [decide_eq_true g2]⟩
    · have e : stepM s = (false, { s with off := true }) := by rw [stepM, if_neg (by simp [ho]), if_pos h3, if_pos (by omega)]
      rw [e] at hok ⊢
      exact ⟨⟨hok, h2, h3, fun g3 => by omega, fun _ => rfl⟩, by rw [decide_eq_false g2]⟩
theorem fuse_flush {st i : Nat} {s : Dk} (h : FuseI st i s) : FuseI st (i + 1) (flushM s).2 ∧ (flushM s).1 = if i < st then 0 else 8 := by
  have hok := flushM_ok h.1
  obtain ⟨⟨k1, k2, k3, k4, k5⟩, hb⟩ := fuse_step h
  rw [flushM] at hok ⊢
  by_cases g : i < st
  · rw [decide_eq_true g] at hb
    rw [if_neg (by simp [hb])] at hok ⊢
    rw [if_pos g]
    exact ⟨⟨hok, by dsimp only; rw [allM_len]; exact k2, k3, k4, k5⟩, rfl⟩
  · rw [decide_eq_false g] at hb
    rw [if_pos hb, if_neg g]
    exact ⟨⟨k1, k2, k3, k4, k5⟩, rfl⟩
theorem fuse_write {st i : Nat} {s : Dk} (h : FuseI st i s) (j : Nat) (hj : j < 4) (b : Nat) : FuseI st (i + 1) (writeM s (j : Int) [b]).2 ∧ (writeM s (j : Int) [b]).1 = if i < st then 0 else 8 := by
  have hok := writeM_ok h.1 (j : Int) [b]
  obtain ⟨⟨k1, k2, k3, k4, k5⟩, hb⟩ := fuse_step h
  have hpl := h.2.1
  rw [writeM, if_neg (by rintro (g | g); exact g ⟨by omega, by omega⟩; simp at g)] at hok ⊢
  by_cases g : i < st
  · rw [decide_eq_true g] at hb
    rw [if_neg (by simp [hb])] at hok ⊢
    rw [if_pos g]
    exact ⟨⟨hok, k2, k3, k4, k5⟩, rfl⟩
  · rw [decide_eq_false g] at hb
    rw [if_pos hb, if_neg g]
    exact ⟨⟨k1, k2, k3, k4, k5⟩, rfl⟩
theorem fuse_off {st i : Nat} {s : Dk} (h : FuseI st (i + 1) s) : (!s.off) = decide (i < st) := by
  by_cases g : i < st
  · rw [(h.2.2.2.1 (by omega)).1, decide_eq_true g]; rfl
  · rw [h.2.2.2.2 (by omega), decide_eq_false g]; rfl
theorem osc3' (s : Dk) : ∀ ob ∈ [oP s, oM s, oS 0 1 s], ob.sc 3 := fun ob hob => by
  simp only [List.mem_cons, List.not_mem_nil, or_false] at hob
  rcases hob with rfl | rfl | rfl
  · exact osc_le (scP0 s)
  · exact osc_le (scM0 s)
  · exact ⟨⟨show 0 < 3 by decide, show 1 < 3 by decide, trivial, trivial, trivial, trivial⟩, trivial⟩

/- from D11 -/
theorem stepM_same (s : Dk) : (stepM s).2.plate = s.plate ∧ (stepM s).2.cache = s.cache := by
  unfold stepM; split
  · exact ⟨rfl, rfl⟩
  · split
    · split <;> exact ⟨rfl, rfl⟩
    · exact ⟨rfl, rfl⟩
theorem stepM_no {s : Dk} (h : (stepM s).1 = false) : cutM (stepM s).2 = cutM s ∧ (stepM s).2.cache = s.cache := by
  refine ⟨?_, (stepM_same s).2⟩
  unfold stepM at h ⊢; split at h
  · rename_i g; rw [if_pos g]
  · rename_i g
    rw [if_neg g]
    split at h
    · rename_i g2
      rw [if_pos g2]
      split at h
      · rename_i g3
        rw [if_pos g3]; rfl
      · cases h
    · cases h
/-- What is refused turns nothing but the power. -/
theorem does_no {s : Dk} {a : Act} (h : (doesM s a).1 = false) : cutM (doesM s a).2 = cutM s ∧ (doesM s a).2.cache = s.cache := by
  unfold doesM at h ⊢
  split at h
  · rename_i g
    rw [if_pos g]
    dsimp only at h ⊢
    unfold writeM at h ⊢
    split at h
    · rename_i g2; rw [if_pos g2]; exact ⟨rfl, rfl⟩
    · rename_i g2
      rw [if_neg g2]
      split at h
      · rename_i g3; rw [if_pos g3]; exact stepM_no g3
      · cases h
  rename_i g0; rw [if_neg g0]
  split at h
  · rename_i g; rw [if_pos g]; exact ⟨rfl, rfl⟩
  rename_i g1; rw [if_neg g1]
  split at h
  · rename_i g
    rw [if_pos g]
    dsimp only at h ⊢
    unfold flushM at h ⊢
    split at h
    · rename_i g3; rw [if_pos g3]; exact stepM_no g3
    · cases h
  rename_i g2; rw [if_neg g2]
  split at h
  · cases h
  rename_i g3; rw [if_neg g3]
  split at h
  · cases h
  rename_i g4; rw [if_neg g4]
  split at h
  · rename_i g
    rw [if_pos g]
    dsimp only at h ⊢
    unfold startM at h ⊢
    split at h
    · rename_i g3; rw [if_pos g3]; exact ⟨rfl, rfl⟩
    · cases h
  · cases h
theorem does_len (s : Dk) (a : Act) : (doesM s a).2.plate.length = s.plate.length := by
  unfold doesM
  split
  · dsimp only
    unfold writeM
    split
    · rfl
    split
    · rw [(stepM_same s).1]
    · dsimp only; rw [(stepM_same s).1]
  split
  · rfl
  split
  · dsimp only
    unfold flushM
    split
    · rw [(stepM_same s).1]
    · dsimp only; rw [allM_len, (stepM_same s).1]
  split
  · rfl
  split
  · rfl
  split
  · dsimp only
    unfold startM
    split
    · rfl
    · dsimp only; rw [plS_len]
  · rfl
theorem readM_on {s : Dk} (h : s.off = false) {i : Nat} (hi : i < s.plate.length) : readM s (i : Int) = (lookM s i, 0) := by
  rw [readM, if_neg (fun g => g ⟨by omega, by omega⟩), if_neg (by simp [h]), Int.toNat_natCast]
theorem f14_on {s : Dk} (hs : OkK s) (h : s.off = false) {i : Nat} (hi : i < s.plate.length) : TurnsK 14 [.int .i64 (i : Int)] s (.tup [d34 (lookM s i), .int .i64 0]) s := by
  have := f14_ok s (i : Int) hs
  rw [readM_on h hi] at this
  exact this
theorem f16_same (a : List Nat) : Pure Try.prog 16 [d34 a, d34 a] (.bool true) := by
  refine Pure.of ⟨scr5 _ _, scr5 _ _, trivial⟩ trivial ?_
  refine CallsIn.of_exec tab_ok mixed Try.func16 rfl rfl [] [] ?_
  repeat' ((conv => whnf); first
    | refine And.intro (all_map (fun _ => rfl)) ?_)
  all_goals (conv => whnf)
  exact ⟨congrArg D.bool (beq_self_eq_true _)⟩
/-- So many sectors. -/
theorem secs (x : Int) : ∃ N : Nat, x % 16 + 1 = (N : Int) ∧ 1 ≤ N ∧ N ≤ 16 := by
  obtain ⟨N, h⟩ := Int.eq_ofNat_of_zero_le (show 0 ≤ x % 16 + 1 by omega)
  exact ⟨N, h, by omega, by omega⟩
theorem newX {x : Int} {n : Nat} (hx : x = (n : Int)) (h : 1 ≤ n ∧ n ≤ 16) (H : List AObj) {K : D → List AObj → Prop} (hk : K (.tup [.p (H.length + 2) 0 0 0, .int .i64 0]) (H ++ [oP (newK n), oM (newK n), oS H.length (H.length + 1) (newK n)])) : CallsIn Try.prog 9 [.int .i64 x] H K := by
  subst hx; exact newC ⟨h.1, by omega⟩ H hk
theorem scd22 (k : Nat) (l : List Act) : (d22 l).sc k := by
  show scs k (l.map r36)
  rw [scs_map]; intro x _; exact ⟨trivial, trivial, scr5 _ _, scd28 _ _, trivial⟩
theorem scc36 (k : Nat) (a : Act) : scs k (c36 a) := ⟨trivial, trivial, scr5 _ _, scd28 _ _, trivial⟩
theorem osc6 (s : Dk) : ∀ ob ∈ [oP s, oM s, oS 0 1 s, oP s, oM s, oS 3 4 s], ob.sc 6 := fun ob hob => by
  simp only [List.mem_cons, List.not_mem_nil, or_false] at hob
  rcases hob with rfl | rfl | rfl | rfl | rfl | rfl
  · exact osc_le (scP0 s)
  · exact osc_le (scM0 s)
  · exact ⟨⟨show 0 < 6 by decide, show 1 < 6 by decide, trivial, trivial, trivial, trivial⟩, trivial⟩
  · exact osc_le (scP0 s)
  · exact osc_le (scM0 s)
  · exact ⟨⟨show 3 < 6 by decide, show 4 < 6 by decide, trivial, trivial, trivial, trivial⟩, trivial⟩

/- from D12 -/
theorem stepM_fail {s : Dk} (h : (stepM s).1 = false) : (stepM s).2.off = true := by
  unfold stepM at h ⊢; split at h
  · rename_i g; rw [if_pos g]; exact g
  · rename_i g
    rw [if_neg g]
    split at h
    · rename_i g2
      rw [if_pos g2]
      split at h
      · rename_i g3; rw [if_pos g3]
      · cases h
    · cases h
theorem stepM_done {s : Dk} (h : (stepM s).1 = true) : (stepM s).2.off = false := by
  unfold stepM at h ⊢; split at h
  · cases h
  · rename_i g
    rw [if_neg g]
    have g' : s.off = false := by simpa using g
    split at h
    · rename_i g2
      rw [if_pos g2]
      split at h
      · cases h
      · rename_i g3; rw [if_neg g3]; exact g'
    · rename_i g2; rw [if_neg g2]; exact g'
theorem write_cases {s : Dk} {m : Nat} {b : List Nat} (hm : m < s.plate.length) (hb : b.length ≤ 64) :
    ((writeM s (m : Int) b).1 = 8 ∧ (writeM s (m : Int) b).2.off = true) ∨ ((writeM s (m : Int) b).1 = 0 ∧ (writeM s (m : Int) b).2.off = false ∧ lookM (writeM s (m : Int) b).2 m = pad b ∧ (writeM s (m : Int) b).2.plate.length = s.plate.length) := by
  rw [writeM, if_neg (by rintro (g | g); exact g ⟨by omega, by omega⟩; omega)]
  rcases bool_cases (stepM s).1 with h | h
  · right
    rw [if_neg (by simp [h])]
    refine ⟨rfl, stepM_done h, ?_, by dsimp only; rw [(stepM_same s).1]⟩
    rw [lookM, Int.toNat_natCast, find_put, if_pos rfl]; rfl
  · left
    rw [if_pos h]
    exact ⟨rfl, stepM_fail h⟩
theorem flush_cases {s : Dk} : ((flushM s).1 = 8 ∧ (flushM s).2.off = true) ∨ ((flushM s).1 = 0 ∧ (flushM s).2.off = false ∧ (flushM s).2.cache = [] ∧ (flushM s).2.plate.length = s.plate.length ∧ ∀ m, m < s.plate.length → lookM (flushM s).2 m = lookM s m) := by
  rw [flushM]
  obtain ⟨hp, hc⟩ := stepM_same s
  rcases bool_cases (stepM s).1 with h | h
  · right
    rw [if_neg (by simp [h])]
    refine ⟨rfl, stepM_done h, rfl, by dsimp only; rw [allM_len, hp], fun m hm => ?_⟩
    have e : lookM (stepM s).2 m = lookM s m := by rw [lookM, lookM, hp, hc]
    rw [← e, lookM]
    show ((none : Option (List Nat))).getD ((allM (stepM s).2).getD m []) = _
    rw [Option.getD_none, List.getD_eq_getElem?_getD, allM, List.getElem?_map, List.getElem?_range (by rw [hp]; exact hm)]
    rfl
  · left
    rw [if_pos h]
    exact ⟨rfl, stepM_fail h⟩
theorem strEq (b : List Nat) : ((⟨(((pad b).map r5).map Go.A.byteOf).toArray⟩ : ByteArray).toList == (strO (pad b)).toList) = true := beq_self_eq_true _

/- from D13 -/
def strR (x : List Nat) : D := .str (strO x)
theorem at_eq {α : Type} {l : List α} {i j : Nat} {x : α} (e : j = i) (h : l[i]? = some x) : l[j]? = some x := e ▸ h
theorem mix_len {α : Type} {a b : List α} (h : a.length = b.length) {i : Nat} (hi : i ≤ a.length) : (a.take i ++ b.drop i).length = a.length := by
  rw [List.length_append, List.length_take, List.length_drop]; omega
theorem mix_at {α : Type} {a b : List α} (h : a.length = b.length) {i : Nat} (hi : i < a.length) : (a.take i ++ b.drop i)[i]? = b[i]? := by
  rw [List.getElem?_append_right (by rw [List.length_take]; omega), List.length_take, List.getElem?_drop]
  congr 1
  omega
theorem mix_set {α : Type} {a b : List α} (h : a.length = b.length) {i : Nat} {x : α} (hx : a[i]? = some x) : (a.take i ++ b.drop i).set i x = a.take (i + 1) ++ b.drop (i + 1) := by
  have hi := (List.getElem?_eq_some_iff.mp hx).1
  rw [List.set_append_right _ _ (by rw [List.length_take]; omega), List.length_take, List.take_add_one, hx, show i - min i a.length = 0 by omega, List.drop_eq_getElem_cons (show i < b.length by omega), List.set_cons_zero]
  simp

theorem all_eq {s t : Dk} (h : s.plate.length = t.plate.length) (h2 : ∀ k, k < s.plate.length → lookM s k = lookM t k) : allM s = allM t := by
  rw [allM, allM, h]
  apply List.map_congr_left
  intro k hk
  exact h2 k (by rw [h]; simpa using hk)
theorem look_same {s t : Dk} (h1 : s.plate = t.plate) (h2 : s.cache = t.cache) : allM s = allM t := all_eq (by rw [h1]) (fun k _ => by rw [lookM, lookM, h1, h2])
theorem all_at {s : Dk} {k : Nat} (h : k < s.plate.length) : (allM s)[k]? = some (lookM s k) := by rw [allM, List.getElem?_map, List.getElem?_range h]; rfl
theorem all_empty {s : Dk} (h : s.cache = []) : allM s = s.plate := by
  apply List.ext_getElem?
  intro k
  rcases Nat.lt_or_ge k s.plate.length with g | g
  · rw [all_at g, lookM, h, List.getElem?_eq_getElem g]
    show some (s.plate.getD k []) = _
    rw [List.getD_eq_getElem?_getD, List.getElem?_eq_getElem g]; rfl
  · rw [List.getElem?_eq_none (by rw [allM_len]; exact g), List.getElem?_eq_none g]
theorem w0 {s : Dk} {i : Int} {b : List Nat} (h : (writeM s i b).1 = 0) : (0 ≤ i ∧ i < s.plate.length) ∧ b.length ≤ 64 ∧ (writeM s i b).2.plate = s.plate ∧ allM (writeM s i b).2 = (allM s).set i.toNat (pad b) := by
  obtain ⟨hp, hc⟩ := stepM_same s
  unfold writeM at h ⊢
  split at h
  · cases h
  rename_i g1
  rw [if_neg g1]
  split at h
  · cases h
  rename_i g2
  rw [if_neg g2]
  have g3 : 0 ≤ i ∧ i < s.plate.length := Classical.byContradiction fun h => g1 (.inl h)
  refine ⟨g3, Classical.byContradiction fun h => g1 (.inr (by omega)), hp, ?_⟩
  apply List.ext_getElem?
  intro k
  rcases Nat.lt_or_ge k s.plate.length with g | g
  · rw [all_at (by dsimp only; rw [hp]; exact g), lookM, find_put]
    by_cases e : i.toNat = k
    · rw [if_pos e, ← e, List.getElem?_set_self (by rw [allM_len]; omega)]; rfl
    · rw [if_neg e, List.getElem?_set_ne e, all_at g, lookM, hc]
      dsimp only
      rw [hp]
  · rw [List.getElem?_eq_none (by rw [allM_len]; dsimp only; rw [hp]; exact g), List.getElem?_eq_none (by rw [List.length_set, allM_len]; exact g)]
theorem fl0 {s : Dk} (h : (flushM s).1 = 0) : (flushM s).2.plate = allM s ∧ allM (flushM s).2 = allM s := by
  have hc : (flushM s).2.cache = [] ∧ (flushM s).2.plate = allM s := by
    unfold flushM at h ⊢
    split at h
    · cases h
    rename_i g; rw [if_neg g]
    exact ⟨rfl, look_same (stepM_same s).1 (stepM_same s).2⟩
  exact ⟨hc.2, by rw [all_empty hc.1, hc.2]⟩
theorem st0 {s : Dk} {keep : List Bool} (h : (startM s keep).1 = 0) : (startM s keep).2.off = false ∧ allM (startM s keep).2 = (startM s keep).2.plate ∧ (startM s keep).2.plate.length = s.plate.length ∧
    ∀ k, k < s.plate.length → lookM (startM s keep).2 k = s.plate.getD k [] ∨ lookM (startM s keep).2 k = lookM s k := by
  unfold startM at h ⊢
  split at h
  · cases h
  rename_i g; rw [if_neg g]
  refine ⟨rfl, all_empty rfl, plS_len _ _ _, fun k hk => ?_⟩
  rw [lookM]
  show ((none : Option (List Nat)).getD ((plS s keep s.plate.length).getD k [])) = _ ∨ _
  rw [Option.getD_none, List.getD_eq_getElem?_getD, plS, List.getElem?_map, List.getElem?_range hk]
  simp only [Option.map_some, Option.getD_some]
  split
  · exact .inr rfl
  · exact .inl rfl
/-- Calls that answer an error, and those that look, turn no sector. -/
theorem does_sec {s : Dk} {a : Act} (h : (doesM s a).1 = false ∨ (a.kind_ % 7 ≠ 0 ∧ a.kind_ % 7 ≠ 2 ∧ a.kind_ % 7 ≠ 5)) : (doesM s a).2.plate = s.plate ∧ allM (doesM s a).2 = allM s := by
  have key : (doesM s a).2.plate = s.plate ∧ (doesM s a).2.cache = s.cache := by
    rcases h with h | ⟨h0, h2, h5⟩
    · obtain ⟨h1, h2⟩ := does_no h
      exact ⟨by show (cutM (doesM s a).2).plate = (cutM s).plate; rw [h1], h2⟩
    · unfold doesM
      simp only [h0, h2, h5, if_false]
      repeat' split
      all_goals exact ⟨rfl, rfl⟩
  exact ⟨key.1, look_same key.1 key.2⟩
theorem does0 {s : Dk} {a : Act} (h : a.kind_ % 7 = 0) : doesM s a = ((writeM s a.i_ a.data_).1 == 0, (writeM s a.i_ a.data_).2) := by rw [doesM, if_pos h]
theorem does2 {s : Dk} {a : Act} (h : a.kind_ % 7 = 2) : doesM s a = ((flushM s).1 == 0, (flushM s).2) := by rw [doesM, if_neg (by omega), if_neg (by omega), if_pos h]
theorem does5 {s : Dk} {a : Act} (h : a.kind_ % 7 = 5) : doesM s a = ((startM s a.keep_).1 == 0, (startM s a.keep_).2) := by
  rw [doesM, if_neg (by omega), if_neg (by omega), if_neg (by omega), if_neg (by omega), if_neg (by omega), if_pos h]
theorem all_on {s : Dk} {k : Nat} (hk : k < s.plate.length) : (allM s).map strR = (allM s).map strR ∧ ((allM s).map strR)[k]? = some (strR (lookM s k)) := ⟨rfl, by rw [List.getElem?_map, all_at hk]; rfl⟩

end Go.Proofs.Ytbefmodpgecfgaa

