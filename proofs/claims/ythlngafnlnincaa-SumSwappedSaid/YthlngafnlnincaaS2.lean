import Derived.Test.YthlngafnlnincaaS1
namespace Go.Proofs.Ythlngafnlnincaa
open Go.A
set_option linter.unusedVariables false
set_option linter.unusedSimpArgs false
set_option linter.unnecessarySimpa false
attribute [local irreducible] IntKind.wrap bitsI
set_option maxRecDepth 100000

def rawS (p : Nat × Nat) (x : Nat) : Nat × Nat := (p.1 + x, p.2 + (p.1 + x))

theorem raw_bound : ∀ (l : List Nat) (p : Nat × Nat), (∀ x ∈ l, x < 256) → (l.foldl rawS p).1 ≤ p.1 + 255 * l.length ∧ 2 * (l.foldl rawS p).2 ≤ 2 * p.2 + 2 * (l.length * p.1) + 255 * (l.length * (l.length + 1))
  | [], p, _ => by simp
  | x :: l, p, h => by
    obtain ⟨h1, h2⟩ := raw_bound l (rawS p x) fun y hy => h y (List.mem_cons_of_mem _ hy)
    have hx : x < 256 := h x (List.mem_cons_self ..)
    simp only [List.foldl_cons, List.length_cons]
    simp only [rawS] at h1 h2
    refine ⟨by simp only [rawS]; omega, ?_⟩
    have e1 : l.length * (p.1 + x) = l.length * p.1 + l.length * x := Nat.mul_add _ _ _
    have e2 : l.length * x ≤ l.length * 255 := Nat.mul_le_mul_left _ (by omega)
    have e3 : (l.length + 1) * p.1 = l.length * p.1 + p.1 := by rw [Nat.add_mul, Nat.one_mul]
    have e4 : (l.length + 1) * (l.length + 1 + 1) = l.length * (l.length + 1) + (l.length + 1) * 2 := by
      rw [show l.length + 1 + 1 = l.length + 2 from rfl, Nat.mul_add, Nat.mul_comm l.length (l.length + 1)]
    rw [e1] at h2
    rw [e3, e4]
    simp only [rawS]
    omega

theorem raw_mod : ∀ (l : List Nat) (p q : Nat × Nat), p.1 % 65521 = q.1 % 65521 → p.2 % 65521 = q.2 % 65521 → (l.foldl rawS p).1 % 65521 = (l.foldl stepS q).1 % 65521 ∧ (l.foldl rawS p).2 % 65521 = (l.foldl stepS q).2 % 65521
  | [], p, q, h1, h2 => ⟨h1, h2⟩
  | x :: l, p, q, h1, h2 => by
    simp only [List.foldl_cons]
    refine raw_mod l _ _ ?_ ?_
    · simp only [rawS, stepS]; omega
    · simp only [rawS, stepS]; omega

/-- A chunk of bytes, in whole numbers. -/
theorem raw_chunk (l : List Nat) (p : Nat × Nat) (hp : p.1 < 65521 ∧ p.2 < 65521) (hl : l.length ≤ 5552) (hb : ∀ x ∈ l, x < 256) :
    (l.foldl rawS p).1 < 4294967296 ∧ (l.foldl rawS p).2 < 4294967296 ∧ ((l.foldl rawS p).1 % 65521, (l.foldl rawS p).2 % 65521) = l.foldl stepS p := by
  obtain ⟨h1, h2⟩ := raw_bound l p hb
  obtain ⟨h3, h4⟩ := raw_mod l p p rfl rfl
  have h5 := foldS_lt l p hp
  have e1 : l.length * p.1 ≤ 5552 * 65520 := Nat.mul_le_mul hl (by omega)
  have e2 : l.length * (l.length + 1) ≤ 5552 * 5553 := Nat.mul_le_mul hl (by omega)
  refine ⟨by omega, by omega, ?_⟩
  rw [h3, h4, Nat.mod_eq_of_lt h5.1, Nat.mod_eq_of_lt h5.2]

theorem raw_take {l : List Nat} {p : Nat × Nat} {i x : Nat} (h : l[i]? = some x) : (l.take (i + 1)).foldl rawS p = rawS ((l.take i).foldl rawS p) x := by
  obtain ⟨h1, h2⟩ := List.getElem?_eq_some_iff.mp h
  subst h2
  rw [List.take_succ_eq_append_getElem h1, List.foldl_append]
  rfl

theorem and_mask (s : Nat) : s &&& 65535 = s % 65536 := Nat.and_two_pow_sub_one_eq_mod s 16

theorem shl_or (a b : Nat) (h : b < 65536) : a * 65536 ||| b = a * 65536 + b := by
  have := Nat.shiftLeft_add_eq_or_of_lt (i := 16) (b := b) h a
  rw [Nat.shiftLeft_eq] at this
  exact this.symm

theorem f12_ok (s : Nat) (b : List Nat) (hs : ok23 s) (hb : okB b) : Pure Try.prog 12 [d23 s, d24 b] (d23 (moreS s b)) := by
  have hlen : b.length ≤ 140737488355328 := hb.2
  refine Pure.of ⟨trivial, (by simp [d24, D.sc, scs_map, r5, d5]), trivial⟩ trivial ?_
  refine CallsIn.of_exec tab_ok mixed Try.func12 rfl rfl [] [] ?_
  simp only [ok23] at hs
  repeat (conv => whnf
          first
            | refine PairK.mk (by kernel_rfl) ?_
            | refine And.intro (by decide) ?_
            | refine And.intro rfl ?_
            | refine And.intro (List.cons_ne_nil _ _) ?_
            | refine And.intro (Nat.le_of_ble_eq_true rfl) ?_
            | refine And.intro (by omega) ?_
            | refine And.intro (by simp only [List.length_map, List.length_append, List.length_cons, List.length_nil]; omega) ?_
            | refine And.intro (by simpa only [List.length_map, List.length_append, List.length_cons, List.length_nil] using rfl) ?_
            | refine And.intro (Eq.symm (List.length_map _)) ?_
            | refine And.intro (all_map (fun _ => rfl)) ?_
            | refine And.intro (cells_map (fun _ => rfl)) ?_
            | refine And.intro (rows_map (fun _ => rfl) (fun _ => rfl)) ?_
            | refine And.intro (okRows_one rfl rfl) ?_
            | refine And.intro (okRows_all rfl) ?_
            | refine boolF_t (beq_self_eq_true _) ?_
            | refine Exists.intro _ (And.intro (map_get (by assumption)) ?_)
            | refine Exists.intro _ (And.intro (Eq.refl (α := Option D) _) ?_)
            | refine Exists.intro _ (And.intro (⟨(List.length_map _).symm⟩) ?_)
            | refine Exists.intro _ (And.intro (⟨len_one⟩) ?_)
            | refine Exists.intro _ (And.intro (⟨len_two⟩) ?_)
            | refine Exists.intro _ (And.intro (⟨len_three⟩) ?_)
            | refine Exists.intro _ (And.intro (⟨len_four⟩) ?_)
            | refine Exists.intro _ (And.intro (⟨lenl_1⟩) ?_)
            | refine Exists.intro _ (And.intro (⟨lenl_2⟩) ?_)
            | refine Exists.intro _ (And.intro (⟨lenl_3⟩) ?_)
            | refine Exists.intro _ (And.intro (⟨lenl_4⟩) ?_)
            | refine Exists.intro _ (And.intro (⟨len_more⟩) ?_)
            | refine Exists.intro _ (And.intro (⟨map_slice⟩) ?_)
            | refine Exists.intro _ (And.intro (⟨List.map_take⟩) ?_)
            | refine Exists.intro _ (And.intro (⟨List.map_drop⟩) ?_)
            | refine Exists.intro _ (And.intro (⟨map_full'⟩) ?_)
            | refine Exists.intro _ (And.intro (⟨map_full⟩) ?_)
            | refine Exists.intro _ (And.intro (⟨map_snoc⟩) ?_)
            | refine Exists.intro _ (And.intro (⟨List.map_append⟩) ?_)
            | refine Exists.intro _ (And.intro (⟨Eq.refl (α := List D) _⟩) ?_)
            | refine Exists.intro _ (And.intro (⟨Eq.refl (α := Int) _⟩) (And.intro (by omega) ?_))
            | refine Exists.intro (0) (And.intro (⟨rfl⟩) (And.intro (Nat.zero_le _) ?_))
            | refine Exists.intro _ (And.intro (⟨nc1⟩) (And.intro (by omega) ?_))
            | refine Exists.intro _ (Exists.intro _ (And.intro (⟨Eq.refl (α := Int) _⟩) (And.intro (⟨Eq.refl (α := Int) _⟩) (And.intro (by omega) (And.intro (by omega) ?_)))))
            | refine Exists.intro _ (Exists.intro _ (And.intro (⟨Eq.refl (α := Nat) _⟩) (And.intro (⟨Eq.refl (α := Nat) _⟩) ?_)))
            | refine Exists.intro _ (And.intro (⟨Eq.refl (α := Nat) _⟩) ?_)
            | refine Exists.intro _ (And.intro (u32and (by omega) (by omega)) ?_)
            | refine Exists.intro _ (And.intro (u32or (by omega) (by omega)) ?_)
            | refine Exists.intro _ (And.intro (u32xor (by omega) (by omega)) ?_)
            | refine Exists.intro _ (And.intro (u8xor (by omega) (by omega)) ?_)
            | refine Exists.intro _ (And.intro (u64and (by omega) (by omega)) ?_)
            | refine Exists.intro _ (And.intro (u64or (by omega) (by omega)) ?_)
            | refine Exists.intro _ (And.intro (u64xor (by omega) (by omega)) ?_)
            | refine Exists.intro _ (And.intro (w64 (by omega) (by omega)) ?_)
            | refine Exists.intro _ (And.intro (u32add (by omega)) ?_)
            | refine Exists.intro _ (And.intro (u64add (by omega)) ?_)
            | refine Exists.intro _ (And.intro (u8w (by omega)) ?_)
            | refine Exists.intro _ (And.intro (u32w (by omega)) ?_)
            | refine Exists.intro _ (And.intro (u64w (by omega)) ?_)
            | refine Exists.intro _ (And.intro (u8m) ?_)
            | refine Exists.intro _ (And.intro (u64i (by omega) (by omega)) ?_)
            | refine Exists.intro _ (And.intro (min_int) ?_)
            | refine Exists.intro _ (And.intro (max_int) ?_)
            | refine Exists.intro _ (And.intro (imin) ?_)
            | refine Exists.intro _ (And.intro (imax) ?_))
  conv => whnf
  rw [and_mask]
  refine W_loop (ι := Nat) [1, 5, 6] (fun i => ⟨(D.undef :: d24 (b.drop i) :: D.undef :: D.undef :: D.undef :: d23 (sumS s (b.take i)).1 :: d23 (sumS s (b.take i)).2 :: D.undef :: D.undef :: D.undef :: D.undef :: D.undef :: D.undef :: D.undef :: D.undef :: D.undef :: D.undef :: D.undef :: D.undef :: D.undef :: D.undef :: D.undef :: D.undef :: D.undef :: D.undef :: D.undef :: D.undef :: D.undef :: D.undef :: D.undef :: D.undef :: D.undef :: D.undef :: D.undef :: D.undef :: D.undef :: D.undef :: D.undef :: D.undef :: D.undef :: D.undef :: D.undef :: D.undef :: D.undef :: D.undef :: D.undef :: D.undef :: D.undef :: D.undef :: []), []⟩) (fun i => b.length - i) (fun i => i ≤ b.length) 0 rfl (Nat.zero_le _) ?_
  intro i hi
  have hlt := sumS_lt s (b.take i)
  refine exec_ok tab_ok mixed 1000 (bx := []) (own := []) ?_
  repeat (conv => whnf
          first
            | refine PairK.mk (by kernel_rfl) ?_
            | refine And.intro (by decide) ?_
            | refine And.intro rfl ?_
            | refine And.intro (List.cons_ne_nil _ _) ?_
            | refine And.intro (Nat.le_of_ble_eq_true rfl) ?_
            | refine And.intro (by omega) ?_
            | refine And.intro (by simp only [List.length_map, List.length_append, List.length_cons, List.length_nil]; omega) ?_
            | refine And.intro (by simpa only [List.length_map, List.length_append, List.length_cons, List.length_nil] using rfl) ?_
            | refine And.intro (Eq.symm (List.length_map _)) ?_
            | refine And.intro (all_map (fun _ => rfl)) ?_
            | refine And.intro (cells_map (fun _ => rfl)) ?_
            | refine And.intro (rows_map (fun _ => rfl) (fun _ => rfl)) ?_
            | refine And.intro (okRows_one rfl rfl) ?_
            | refine And.intro (okRows_all rfl) ?_
            | refine boolF_t (beq_self_eq_true _) ?_
            | refine Exists.intro _ (And.intro (map_get (by assumption)) ?_)
            | refine Exists.intro _ (And.intro (Eq.refl (α := Option D) _) ?_)
            | refine Exists.intro _ (And.intro (⟨(List.length_map _).symm⟩) ?_)
            | refine Exists.intro _ (And.intro (⟨len_one⟩) ?_)
            | refine Exists.intro _ (And.intro (⟨len_two⟩) ?_)
            | refine Exists.intro _ (And.intro (⟨len_three⟩) ?_)
            | refine Exists.intro _ (And.intro (⟨len_four⟩) ?_)
            | refine Exists.intro _ (And.intro (⟨lenl_1⟩) ?_)
            | refine Exists.intro _ (And.intro (⟨lenl_2⟩) ?_)
            | refine Exists.intro _ (And.intro (⟨lenl_3⟩) ?_)
            | refine Exists.intro _ (And.intro (⟨lenl_4⟩) ?_)
            | refine Exists.intro _ (And.intro (⟨len_more⟩) ?_)
            | refine Exists.intro _ (And.intro (⟨map_slice⟩) ?_)
            | refine Exists.intro _ (And.intro (⟨List.map_take⟩) ?_)
            | refine Exists.intro _ (And.intro (⟨List.map_drop⟩) ?_)
            | refine Exists.intro _ (And.intro (⟨map_full'⟩) ?_)
            | refine Exists.intro _ (And.intro (⟨map_full⟩) ?_)
            | refine Exists.intro _ (And.intro (⟨map_snoc⟩) ?_)
            | refine Exists.intro _ (And.intro (⟨List.map_append⟩) ?_)
            | refine Exists.intro _ (And.intro (⟨Eq.refl (α := List D) _⟩) ?_)
            | refine Exists.intro _ (And.intro (⟨Eq.refl (α := Int) _⟩) (And.intro (by omega) ?_))
            | refine Exists.intro (0) (And.intro (⟨rfl⟩) (And.intro (Nat.zero_le _) ?_))
            | refine Exists.intro _ (And.intro (⟨nc1⟩) (And.intro (by omega) ?_))
            | refine Exists.intro _ (Exists.intro _ (And.intro (⟨Eq.refl (α := Int) _⟩) (And.intro (⟨Eq.refl (α := Int) _⟩) (And.intro (by omega) (And.intro (by omega) ?_)))))
            | refine Exists.intro _ (Exists.intro _ (And.intro (⟨Eq.refl (α := Nat) _⟩) (And.intro (⟨Eq.refl (α := Nat) _⟩) ?_)))
            | refine Exists.intro _ (And.intro (⟨Eq.refl (α := Nat) _⟩) ?_)
            | refine Exists.intro _ (And.intro (u32and (by omega) (by omega)) ?_)
            | refine Exists.intro _ (And.intro (u32or (by omega) (by omega)) ?_)
            | refine Exists.intro _ (And.intro (u32xor (by omega) (by omega)) ?_)
            | refine Exists.intro _ (And.intro (u8xor (by omega) (by omega)) ?_)
            | refine Exists.intro _ (And.intro (u64and (by omega) (by omega)) ?_)
            | refine Exists.intro _ (And.intro (u64or (by omega) (by omega)) ?_)
            | refine Exists.intro _ (And.intro (u64xor (by omega) (by omega)) ?_)
            | refine Exists.intro _ (And.intro (w64 (by omega) (by omega)) ?_)
            | refine Exists.intro _ (And.intro (u32add (by omega)) ?_)
            | refine Exists.intro _ (And.intro (u64add (by omega)) ?_)
            | refine Exists.intro _ (And.intro (u8w (by omega)) ?_)
            | refine Exists.intro _ (And.intro (u32w (by omega)) ?_)
            | refine Exists.intro _ (And.intro (u64w (by omega)) ?_)
            | refine Exists.intro _ (And.intro (u8m) ?_)
            | refine Exists.intro _ (And.intro (u64i (by omega) (by omega)) ?_)
            | refine Exists.intro _ (And.intro (min_int) ?_)
            | refine Exists.intro _ (And.intro (max_int) ?_)
            | refine Exists.intro _ (And.intro (imin) ?_)
            | refine Exists.intro _ (And.intro (imax) ?_))
  conv => whnf
  refine boolF_split (fun h => ?_) (fun h => ?_)
  · have h : i < b.length := by simp at h; omega
    repeat (conv => whnf
            first
              | refine PairK.mk (by kernel_rfl) ?_
              | refine And.intro (by decide) ?_
              | refine And.intro rfl ?_
              | refine And.intro (List.cons_ne_nil _ _) ?_
              | refine And.intro (Nat.le_of_ble_eq_true rfl) ?_
              | refine And.intro (by omega) ?_
              | refine And.intro (by simp only [List.length_map, List.length_append, List.length_cons, List.length_nil]; omega) ?_
              | refine And.intro (by simpa only [List.length_map, List.length_append, List.length_cons, List.length_nil] using rfl) ?_
              | refine And.intro (Eq.symm (List.length_map _)) ?_
              | refine And.intro (all_map (fun _ => rfl)) ?_
              | refine And.intro (cells_map (fun _ => rfl)) ?_
              | refine And.intro (rows_map (fun _ => rfl) (fun _ => rfl)) ?_
              | refine And.intro (okRows_one rfl rfl) ?_
              | refine And.intro (okRows_all rfl) ?_
              | refine boolF_t (beq_self_eq_true _) ?_
              | refine Exists.intro _ (And.intro (map_get (by assumption)) ?_)
              | refine Exists.intro _ (And.intro (Eq.refl (α := Option D) _) ?_)
              | refine Exists.intro _ (And.intro (⟨(List.length_map _).symm⟩) ?_)
              | refine Exists.intro _ (And.intro (⟨len_one⟩) ?_)
              | refine Exists.intro _ (And.intro (⟨len_two⟩) ?_)
              | refine Exists.intro _ (And.intro (⟨len_three⟩) ?_)
              | refine Exists.intro _ (And.intro (⟨len_four⟩) ?_)
              | refine Exists.intro _ (And.intro (⟨lenl_1⟩) ?_)
              | refine Exists.intro _ (And.intro (⟨lenl_2⟩) ?_)
              | refine Exists.intro _ (And.intro (⟨lenl_3⟩) ?_)
              | refine Exists.intro _ (And.intro (⟨lenl_4⟩) ?_)
              | refine Exists.intro _ (And.intro (⟨len_more⟩) ?_)
              | refine Exists.intro _ (And.intro (⟨map_slice⟩) ?_)
              | refine Exists.intro _ (And.intro (⟨List.map_take⟩) ?_)
              | refine Exists.intro _ (And.intro (⟨List.map_drop⟩) ?_)
              | refine Exists.intro _ (And.intro (⟨map_full'⟩) ?_)
              | refine Exists.intro _ (And.intro (⟨map_full⟩) ?_)
              | refine Exists.intro _ (And.intro (⟨map_snoc⟩) ?_)
              | refine Exists.intro _ (And.intro (⟨List.map_append⟩) ?_)
              | refine Exists.intro _ (And.intro (⟨Eq.refl (α := List D) _⟩) ?_)
              | refine Exists.intro _ (And.intro (⟨Eq.refl (α := Int) _⟩) (And.intro (by omega) ?_))
              | refine Exists.intro (0) (And.intro (⟨rfl⟩) (And.intro (Nat.zero_le _) ?_))
              | refine Exists.intro _ (And.intro (⟨nc1⟩) (And.intro (by omega) ?_))
              | refine Exists.intro _ (Exists.intro _ (And.intro (⟨Eq.refl (α := Int) _⟩) (And.intro (⟨Eq.refl (α := Int) _⟩) (And.intro (by omega) (And.intro (by omega) ?_)))))
              | refine Exists.intro _ (Exists.intro _ (And.intro (⟨Eq.refl (α := Nat) _⟩) (And.intro (⟨Eq.refl (α := Nat) _⟩) ?_)))
              | refine Exists.intro _ (And.intro (⟨Eq.refl (α := Nat) _⟩) ?_)
              | refine Exists.intro _ (And.intro (u32and (by omega) (by omega)) ?_)
              | refine Exists.intro _ (And.intro (u32or (by omega) (by omega)) ?_)
              | refine Exists.intro _ (And.intro (u32xor (by omega) (by omega)) ?_)
              | refine Exists.intro _ (And.intro (u8xor (by omega) (by omega)) ?_)
              | refine Exists.intro _ (And.intro (u64and (by omega) (by omega)) ?_)
              | refine Exists.intro _ (And.intro (u64or (by omega) (by omega)) ?_)
              | refine Exists.intro _ (And.intro (u64xor (by omega) (by omega)) ?_)
              | refine Exists.intro _ (And.intro (w64 (by omega) (by omega)) ?_)
              | refine Exists.intro _ (And.intro (u32add (by omega)) ?_)
              | refine Exists.intro _ (And.intro (u64add (by omega)) ?_)
              | refine Exists.intro _ (And.intro (u8w (by omega)) ?_)
              | refine Exists.intro _ (And.intro (u32w (by omega)) ?_)
              | refine Exists.intro _ (And.intro (u64w (by omega)) ?_)
              | refine Exists.intro _ (And.intro (u8m) ?_)
              | refine Exists.intro _ (And.intro (u64i (by omega) (by omega)) ?_)
              | refine Exists.intro _ (And.intro (min_int) ?_)
              | refine Exists.intro _ (And.intro (max_int) ?_)
              | refine Exists.intro _ (And.intro (imin) ?_)
              | refine Exists.intro _ (And.intro (imax) ?_))
    conv => whnf
    obtain ⟨n, hn⟩ : ∃ n, n = min (b.drop i).length 5552 := ⟨_, rfl⟩
    rw [← hn]
    obtain ⟨l, hl⟩ : ∃ l, l = (b.drop i).take n := ⟨_, rfl⟩
    rw [← hl]
    have hdl : (b.drop i).length = b.length - i := List.length_drop
    have hll : l.length = n := by rw [hl, List.length_take]; omega
    have hl8 : ∀ x ∈ l, x < 256 := fun x hx => hb.1 x (List.mem_of_mem_drop (List.mem_of_mem_take (hl ▸ hx)))
    obtain ⟨p, hp⟩ : ∃ p, p = sumS s (b.take i) := ⟨_, rfl⟩
    rw [← hp] at hlt ⊢
    have hbd : ∀ j, ((l.take j).foldl rawS p).1 < 4294967296 ∧ ((l.take j).foldl rawS p).2 < 4294967296 ∧ (((l.take j).foldl rawS p).1 % 65521, ((l.take j).foldl rawS p).2 % 65521) = (l.take j).foldl stepS p := fun j =>
      raw_chunk (l.take j) p hlt (by rw [List.length_take]; omega) fun x hx => hl8 x (List.mem_of_mem_take hx)
    refine W_loop (ι := Nat) [1, 5, 6, 7, 24, 25, 26] (fun j => ⟨(D.undef :: d24 (b.drop i) :: D.undef :: D.undef :: D.undef :: d23 ((l.take j).foldl rawS p).1 :: d23 ((l.take j).foldl rawS p).2 :: .int .i64 (n : Int) :: D.undef :: D.undef :: D.undef :: D.undef :: D.undef :: D.undef :: D.undef :: D.undef :: D.undef :: D.undef :: D.undef :: D.undef :: D.undef :: D.undef :: D.undef :: D.undef :: .sl (l.map r5) :: .int .i64 (l.length : Int) :: .int .i64 (j : Int) :: D.undef :: D.undef :: D.undef :: D.undef :: D.undef :: D.undef :: D.undef :: D.undef :: D.undef :: D.undef :: D.undef :: D.undef :: D.undef :: D.undef :: D.undef :: D.undef :: D.undef :: D.undef :: D.undef :: D.undef :: D.undef :: D.undef :: []), []⟩) (fun j => l.length - j) (fun j => j ≤ l.length) 0 rfl (Nat.zero_le _) ?_
    intro j hj
    refine exec_ok tab_ok mixed 1000 (bx := []) (own := []) ?_
    repeat (conv => whnf
            first
              | refine PairK.mk (by kernel_rfl) ?_
              | refine And.intro (by decide) ?_
              | refine And.intro rfl ?_
              | refine And.intro (List.cons_ne_nil _ _) ?_
              | refine And.intro (Nat.le_of_ble_eq_true rfl) ?_
              | refine And.intro (by omega) ?_
              | refine And.intro (by simp only [List.length_map, List.length_append, List.length_cons, List.length_nil]; omega) ?_
              | refine And.intro (by simpa only [List.length_map, List.length_append, List.length_cons, List.length_nil] using rfl) ?_
              | refine And.intro (Eq.symm (List.length_map _)) ?_
              | refine And.intro (all_map (fun _ => rfl)) ?_
              | refine And.intro (cells_map (fun _ => rfl)) ?_
              | refine And.intro (rows_map (fun _ => rfl) (fun _ => rfl)) ?_
              | refine And.intro (okRows_one rfl rfl) ?_
              | refine And.intro (okRows_all rfl) ?_
              | refine boolF_t (beq_self_eq_true _) ?_
              | refine Exists.intro _ (And.intro (map_get (by assumption)) ?_)
              | refine Exists.intro _ (And.intro (Eq.refl (α := Option D) _) ?_)
              | refine Exists.intro _ (And.intro (⟨(List.length_map _).symm⟩) ?_)
              | refine Exists.intro _ (And.intro (⟨len_one⟩) ?_)
              | refine Exists.intro _ (And.intro (⟨len_two⟩) ?_)
              | refine Exists.intro _ (And.intro (⟨len_three⟩) ?_)
              | refine Exists.intro _ (And.intro (⟨len_four⟩) ?_)
              | refine Exists.intro _ (And.intro (⟨lenl_1⟩) ?_)
              | refine Exists.intro _ (And.intro (⟨lenl_2⟩) ?_)
              | refine Exists.intro _ (And.intro (⟨lenl_3⟩) ?_)
              | refine Exists.intro _ (And.intro (⟨lenl_4⟩) ?_)
              | refine Exists.intro _ (And.intro (⟨len_more⟩) ?_)
              | refine Exists.intro _ (And.intro (⟨map_slice⟩) ?_)
              | refine Exists.intro _ (And.intro (⟨List.map_take⟩) ?_)
              | refine Exists.intro _ (And.intro (⟨List.map_drop⟩) ?_)
              | refine Exists.intro _ (And.intro (⟨map_full'⟩) ?_)
              | refine Exists.intro _ (And.intro (⟨map_full⟩) ?_)
              | refine Exists.intro _ (And.intro (⟨map_snoc⟩) ?_)
              | refine Exists.intro _ (And.intro (⟨List.map_append⟩) ?_)
              | refine Exists.intro _ (And.intro (⟨Eq.refl (α := List D) _⟩) ?_)
              | refine Exists.intro _ (And.intro (⟨Eq.refl (α := Int) _⟩) (And.intro (by omega) ?_))
              | refine Exists.intro (0) (And.intro (⟨rfl⟩) (And.intro (Nat.zero_le _) ?_))
              | refine Exists.intro _ (And.intro (⟨nc1⟩) (And.intro (by omega) ?_))
              | refine Exists.intro _ (Exists.intro _ (And.intro (⟨Eq.refl (α := Int) _⟩) (And.intro (⟨Eq.refl (α := Int) _⟩) (And.intro (by omega) (And.intro (by omega) ?_)))))
              | refine Exists.intro _ (Exists.intro _ (And.intro (⟨Eq.refl (α := Nat) _⟩) (And.intro (⟨Eq.refl (α := Nat) _⟩) ?_)))
              | refine Exists.intro _ (And.intro (⟨Eq.refl (α := Nat) _⟩) ?_)
              | refine Exists.intro _ (And.intro (u32and (by omega) (by omega)) ?_)
              | refine Exists.intro _ (And.intro (u32or (by omega) (by omega)) ?_)
              | refine Exists.intro _ (And.intro (u32xor (by omega) (by omega)) ?_)
              | refine Exists.intro _ (And.intro (u8xor (by omega) (by omega)) ?_)
              | refine Exists.intro _ (And.intro (u64and (by omega) (by omega)) ?_)
              | refine Exists.intro _ (And.intro (u64or (by omega) (by omega)) ?_)
              | refine Exists.intro _ (And.intro (u64xor (by omega) (by omega)) ?_)
              | refine Exists.intro _ (And.intro (w64 (by omega) (by omega)) ?_)
              | refine Exists.intro _ (And.intro (u32add (by omega)) ?_)
              | refine Exists.intro _ (And.intro (u64add (by omega)) ?_)
              | refine Exists.intro _ (And.intro (u8w (by omega)) ?_)
              | refine Exists.intro _ (And.intro (u32w (by omega)) ?_)
              | refine Exists.intro _ (And.intro (u64w (by omega)) ?_)
              | refine Exists.intro _ (And.intro (u8m) ?_)
              | refine Exists.intro _ (And.intro (u64i (by omega) (by omega)) ?_)
              | refine Exists.intro _ (And.intro (min_int) ?_)
              | refine Exists.intro _ (And.intro (max_int) ?_)
              | refine Exists.intro _ (And.intro (imin) ?_)
              | refine Exists.intro _ (And.intro (imax) ?_))
    conv => whnf
    refine boolF_split (fun h => ?_) (fun h => ?_)
    · have h : j < l.length := by simpa using h
      obtain ⟨x, hx⟩ := at_lt h
      have hx8 : x < 256 := hl8 x (List.mem_of_getElem? hx)
      have hb1 := (hbd (j + 1)).1
      have hb2 := (hbd (j + 1)).2.1
      rw [raw_take hx] at hb1 hb2
      simp only [rawS] at hb1 hb2
      repeat (conv => whnf
              first
                | refine PairK.mk (by kernel_rfl) ?_
                | refine And.intro (by decide) ?_
                | refine And.intro rfl ?_
                | refine And.intro (List.cons_ne_nil _ _) ?_
                | refine And.intro (Nat.le_of_ble_eq_true rfl) ?_
                | refine And.intro (by omega) ?_
                | refine And.intro (by simp only [List.length_map, List.length_append, List.length_cons, List.length_nil]; omega) ?_
                | refine And.intro (by simpa only [List.length_map, List.length_append, List.length_cons, List.length_nil] using rfl) ?_
                | refine And.intro (Eq.symm (List.length_map _)) ?_
                | refine And.intro (all_map (fun _ => rfl)) ?_
                | refine And.intro (cells_map (fun _ => rfl)) ?_
                | refine And.intro (rows_map (fun _ => rfl) (fun _ => rfl)) ?_
                | refine And.intro (okRows_one rfl rfl) ?_
                | refine And.intro (okRows_all rfl) ?_
                | refine boolF_t (beq_self_eq_true _) ?_
                | refine Exists.intro _ (And.intro (map_get (by assumption)) ?_)
                | refine Exists.intro _ (And.intro (Eq.refl (α := Option D) _) ?_)
                | refine Exists.intro _ (And.intro (⟨(List.length_map _).symm⟩) ?_)
                | refine Exists.intro _ (And.intro (⟨len_one⟩) ?_)
                | refine Exists.intro _ (And.intro (⟨len_two⟩) ?_)
                | refine Exists.intro _ (And.intro (⟨len_three⟩) ?_)
                | refine Exists.intro _ (And.intro (⟨len_four⟩) ?_)
                | refine Exists.intro _ (And.intro (⟨lenl_1⟩) ?_)
                | refine Exists.intro _ (And.intro (⟨lenl_2⟩) ?_)
                | refine Exists.intro _ (And.intro (⟨lenl_3⟩) ?_)
                | refine Exists.intro _ (And.intro (⟨lenl_4⟩) ?_)
                | refine Exists.intro _ (And.intro (⟨len_more⟩) ?_)
                | refine Exists.intro _ (And.intro (⟨map_slice⟩) ?_)
                | refine Exists.intro _ (And.intro (⟨List.map_take⟩) ?_)
                | refine Exists.intro _ (And.intro (⟨List.map_drop⟩) ?_)
                | refine Exists.intro _ (And.intro (⟨map_full'⟩) ?_)
                | refine Exists.intro _ (And.intro (⟨map_full⟩) ?_)
                | refine Exists.intro _ (And.intro (⟨map_snoc⟩) ?_)
                | refine Exists.intro _ (And.intro (⟨List.map_append⟩) ?_)
                | refine Exists.intro _ (And.intro (⟨Eq.refl (α := List D) _⟩) ?_)
                | refine Exists.intro _ (And.intro (⟨Eq.refl (α := Int) _⟩) (And.intro (by omega) ?_))
                | refine Exists.intro (0) (And.intro (⟨rfl⟩) (And.intro (Nat.zero_le _) ?_))
                | refine Exists.intro _ (And.intro (⟨nc1⟩) (And.intro (by omega) ?_))
                | refine Exists.intro _ (Exists.intro _ (And.intro (⟨Eq.refl (α := Int) _⟩) (And.intro (⟨Eq.refl (α := Int) _⟩) (And.intro (by omega) (And.intro (by omega) ?_)))))
                | refine Exists.intro _ (Exists.intro _ (And.intro (⟨Eq.refl (α := Nat) _⟩) (And.intro (⟨Eq.refl (α := Nat) _⟩) ?_)))
                | refine Exists.intro _ (And.intro (⟨Eq.refl (α := Nat) _⟩) ?_)
                | refine Exists.intro _ (And.intro (u32and (by omega) (by omega)) ?_)
                | refine Exists.intro _ (And.intro (u32or (by omega) (by omega)) ?_)
                | refine Exists.intro _ (And.intro (u32xor (by omega) (by omega)) ?_)
                | refine Exists.intro _ (And.intro (u8xor (by omega) (by omega)) ?_)
                | refine Exists.intro _ (And.intro (u64and (by omega) (by omega)) ?_)
                | refine Exists.intro _ (And.intro (u64or (by omega) (by omega)) ?_)
                | refine Exists.intro _ (And.intro (u64xor (by omega) (by omega)) ?_)
                | refine Exists.intro _ (And.intro (w64 (by omega) (by omega)) ?_)
                | refine Exists.intro _ (And.intro (u32add (by omega)) ?_)
                | refine Exists.intro _ (And.intro (u64add (by omega)) ?_)
                | refine Exists.intro _ (And.intro (u8w (by omega)) ?_)
                | refine Exists.intro _ (And.intro (u32w (by omega)) ?_)
                | refine Exists.intro _ (And.intro (u64w (by omega)) ?_)
                | refine Exists.intro _ (And.intro (u8m) ?_)
                | refine Exists.intro _ (And.intro (u64i (by omega) (by omega)) ?_)
                | refine Exists.intro _ (And.intro (min_int) ?_)
                | refine Exists.intro _ (And.intro (max_int) ?_)
                | refine Exists.intro _ (And.intro (imin) ?_)
                | refine Exists.intro _ (And.intro (imax) ?_))
      conv => whnf
      refine ⟨j + 1, ?_, by omega, by omega⟩
      rw [raw_take hx]
      refine st_eq ?_ rfl
      repeat (first | exact rfl | refine cons_eq rfl ?_ | (refine cons_eq (by rfl) ?_))
    · have h : l.length ≤ j := by simpa using h
      have e : l.take j = l := List.take_of_length_le h
      have hb1 := hbd j
      rw [e] at hb1
      rw [e]
      repeat (conv => whnf
              first
                | refine PairK.mk (by kernel_rfl) ?_
                | refine And.intro (by decide) ?_
                | refine And.intro rfl ?_
                | refine And.intro (List.cons_ne_nil _ _) ?_
                | refine And.intro (Nat.le_of_ble_eq_true rfl) ?_
                | refine And.intro (by omega) ?_
                | refine And.intro (by simp only [List.length_map, List.length_append, List.length_cons, List.length_nil]; omega) ?_
                | refine And.intro (by simpa only [List.length_map, List.length_append, List.length_cons, List.length_nil] using rfl) ?_
                | refine And.intro (Eq.symm (List.length_map _)) ?_
                | refine And.intro (all_map (fun _ => rfl)) ?_
                | refine And.intro (cells_map (fun _ => rfl)) ?_
                | refine And.intro (rows_map (fun _ => rfl) (fun _ => rfl)) ?_
                | refine And.intro (okRows_one rfl rfl) ?_
                | refine And.intro (okRows_all rfl) ?_
                | refine boolF_t (beq_self_eq_true _) ?_
                | refine Exists.intro _ (And.intro (map_get (by assumption)) ?_)
                | refine Exists.intro _ (And.intro (Eq.refl (α := Option D) _) ?_)
                | refine Exists.intro _ (And.intro (⟨(List.length_map _).symm⟩) ?_)
                | refine Exists.intro _ (And.intro (⟨len_one⟩) ?_)
                | refine Exists.intro _ (And.intro (⟨len_two⟩) ?_)
                | refine Exists.intro _ (And.intro (⟨len_three⟩) ?_)
                | refine Exists.intro _ (And.intro (⟨len_four⟩) ?_)
                | refine Exists.intro _ (And.intro (⟨lenl_1⟩) ?_)
                | refine Exists.intro _ (And.intro (⟨lenl_2⟩) ?_)
                | refine Exists.intro _ (And.intro (⟨lenl_3⟩) ?_)
                | refine Exists.intro _ (And.intro (⟨lenl_4⟩) ?_)
                | refine Exists.intro _ (And.intro (⟨len_more⟩) ?_)
                | refine Exists.intro _ (And.intro (⟨map_slice⟩) ?_)
                | refine Exists.intro _ (And.intro (⟨List.map_take⟩) ?_)
                | refine Exists.intro _ (And.intro (⟨List.map_drop⟩) ?_)
                | refine Exists.intro _ (And.intro (⟨map_full'⟩) ?_)
                | refine Exists.intro _ (And.intro (⟨map_full⟩) ?_)
                | refine Exists.intro _ (And.intro (⟨map_snoc⟩) ?_)
                | refine Exists.intro _ (And.intro (⟨List.map_append⟩) ?_)
                | refine Exists.intro _ (And.intro (⟨Eq.refl (α := List D) _⟩) ?_)
                | refine Exists.intro _ (And.intro (⟨Eq.refl (α := Int) _⟩) (And.intro (by omega) ?_))
                | refine Exists.intro (0) (And.intro (⟨rfl⟩) (And.intro (Nat.zero_le _) ?_))
                | refine Exists.intro _ (And.intro (⟨nc1⟩) (And.intro (by omega) ?_))
                | refine Exists.intro _ (Exists.intro _ (And.intro (⟨Eq.refl (α := Int) _⟩) (And.intro (⟨Eq.refl (α := Int) _⟩) (And.intro (by omega) (And.intro (by omega) ?_)))))
                | refine Exists.intro _ (Exists.intro _ (And.intro (⟨Eq.refl (α := Nat) _⟩) (And.intro (⟨Eq.refl (α := Nat) _⟩) ?_)))
                | refine Exists.intro _ (And.intro (⟨Eq.refl (α := Nat) _⟩) ?_)
                | refine Exists.intro _ (And.intro (u32and (by omega) (by omega)) ?_)
                | refine Exists.intro _ (And.intro (u32or (by omega) (by omega)) ?_)
                | refine Exists.intro _ (And.intro (u32xor (by omega) (by omega)) ?_)
                | refine Exists.intro _ (And.intro (u8xor (by omega) (by omega)) ?_)
                | refine Exists.intro _ (And.intro (u64and (by omega) (by omega)) ?_)
                | refine Exists.intro _ (And.intro (u64or (by omega) (by omega)) ?_)
                | refine Exists.intro _ (And.intro (u64xor (by omega) (by omega)) ?_)
                | refine Exists.intro _ (And.intro (w64 (by omega) (by omega)) ?_)
                | refine Exists.intro _ (And.intro (u32add (by omega)) ?_)
                | refine Exists.intro _ (And.intro (u64add (by omega)) ?_)
                | refine Exists.intro _ (And.intro (u8w (by omega)) ?_)
                | refine Exists.intro _ (And.intro (u32w (by omega)) ?_)
                | refine Exists.intro _ (And.intro (u64w (by omega)) ?_)
                | refine Exists.intro _ (And.intro (u8m) ?_)
                | refine Exists.intro _ (And.intro (u64i (by omega) (by omega)) ?_)
                | refine Exists.intro _ (And.intro (min_int) ?_)
                | refine Exists.intro _ (And.intro (max_int) ?_)
                | refine Exists.intro _ (And.intro (imin) ?_)
                | refine Exists.intro _ (And.intro (imax) ?_))
      conv => whnf
      refine ⟨i + n, ?_, by omega, by omega⟩
      have e2 : sumS s (b.take (i + n)) = l.foldl stepS p := by
        rw [List.take_add, sumS, List.foldl_append, ← hl, hp]; rfl
      rw [e2, ← hb1.2.2]
      rw [show b.drop (i + n) = (b.drop i).drop n from (List.drop_drop).symm]
      refine st_eq ?_ rfl
      repeat (first | exact rfl | refine cons_eq rfl ?_ | (refine cons_eq (by rfl) ?_))
  · have h : b.length ≤ i := by simp at h; omega
    have e : b.take i = b := List.take_of_length_le h
    rw [e] at hlt
    rw [e]
    repeat (conv => whnf
            first
              | refine PairK.mk (by kernel_rfl) ?_
              | refine And.intro (by decide) ?_
              | refine And.intro rfl ?_
              | refine And.intro (List.cons_ne_nil _ _) ?_
              | refine And.intro (Nat.le_of_ble_eq_true rfl) ?_
              | refine And.intro (by omega) ?_
              | refine And.intro (by simp only [List.length_map, List.length_append, List.length_cons, List.length_nil]; omega) ?_
              | refine And.intro (by simpa only [List.length_map, List.length_append, List.length_cons, List.length_nil] using rfl) ?_
              | refine And.intro (Eq.symm (List.length_map _)) ?_
              | refine And.intro (all_map (fun _ => rfl)) ?_
              | refine And.intro (cells_map (fun _ => rfl)) ?_
              | refine And.intro (rows_map (fun _ => rfl) (fun _ => rfl)) ?_
              | refine And.intro (okRows_one rfl rfl) ?_
              | refine And.intro (okRows_all rfl) ?_
              | refine boolF_t (beq_self_eq_true _) ?_
              | refine Exists.intro _ (And.intro (map_get (by assumption)) ?_)
              | refine Exists.intro _ (And.intro (Eq.refl (α := Option D) _) ?_)
              | refine Exists.intro _ (And.intro (⟨(List.length_map _).symm⟩) ?_)
              | refine Exists.intro _ (And.intro (⟨len_one⟩) ?_)
              | refine Exists.intro _ (And.intro (⟨len_two⟩) ?_)
              | refine Exists.intro _ (And.intro (⟨len_three⟩) ?_)
              | refine Exists.intro _ (And.intro (⟨len_four⟩) ?_)
              | refine Exists.intro _ (And.intro (⟨lenl_1⟩) ?_)
              | refine Exists.intro _ (And.intro (⟨lenl_2⟩) ?_)
              | refine Exists.intro _ (And.intro (⟨lenl_3⟩) ?_)
              | refine Exists.intro _ (And.intro (⟨lenl_4⟩) ?_)
              | refine Exists.intro _ (And.intro (⟨len_more⟩) ?_)
              | refine Exists.intro _ (And.intro (⟨map_slice⟩) ?_)
              | refine Exists.intro _ (And.intro (⟨List.map_take⟩) ?_)
              | refine Exists.intro _ (And.intro (⟨List.map_drop⟩) ?_)
              | refine Exists.intro _ (And.intro (⟨map_full'⟩) ?_)
              | refine Exists.intro _ (And.intro (⟨map_full⟩) ?_)
              | refine Exists.intro _ (And.intro (⟨map_snoc⟩) ?_)
              | refine Exists.intro _ (And.intro (⟨List.map_append⟩) ?_)
              | refine Exists.intro _ (And.intro (⟨Eq.refl (α := List D) _⟩) ?_)
              | refine Exists.intro _ (And.intro (⟨Eq.refl (α := Int) _⟩) (And.intro (by omega) ?_))
              | refine Exists.intro (0) (And.intro (⟨rfl⟩) (And.intro (Nat.zero_le _) ?_))
              | refine Exists.intro _ (And.intro (⟨nc1⟩) (And.intro (by omega) ?_))
              | refine Exists.intro _ (Exists.intro _ (And.intro (⟨Eq.refl (α := Int) _⟩) (And.intro (⟨Eq.refl (α := Int) _⟩) (And.intro (by omega) (And.intro (by omega) ?_)))))
              | refine Exists.intro _ (Exists.intro _ (And.intro (⟨Eq.refl (α := Nat) _⟩) (And.intro (⟨Eq.refl (α := Nat) _⟩) ?_)))
              | refine Exists.intro _ (And.intro (⟨Eq.refl (α := Nat) _⟩) ?_)
              | refine Exists.intro _ (And.intro (u32and (by omega) (by omega)) ?_)
              | refine Exists.intro _ (And.intro (u32or (by omega) (by omega)) ?_)
              | refine Exists.intro _ (And.intro (u32xor (by omega) (by omega)) ?_)
              | refine Exists.intro _ (And.intro (u8xor (by omega) (by omega)) ?_)
              | refine Exists.intro _ (And.intro (u64and (by omega) (by omega)) ?_)
              | refine Exists.intro _ (And.intro (u64or (by omega) (by omega)) ?_)
              | refine Exists.intro _ (And.intro (u64xor (by omega) (by omega)) ?_)
              | refine Exists.intro _ (And.intro (w64 (by omega) (by omega)) ?_)
              | refine Exists.intro _ (And.intro (u32add (by omega)) ?_)
              | refine Exists.intro _ (And.intro (u64add (by omega)) ?_)
              | refine Exists.intro _ (And.intro (u8w (by omega)) ?_)
              | refine Exists.intro _ (And.intro (u32w (by omega)) ?_)
              | refine Exists.intro _ (And.intro (u64w (by omega)) ?_)
              | refine Exists.intro _ (And.intro (u8m) ?_)
              | refine Exists.intro _ (And.intro (u64i (by omega) (by omega)) ?_)
              | refine Exists.intro _ (And.intro (min_int) ?_)
              | refine Exists.intro _ (And.intro (max_int) ?_)
              | refine Exists.intro _ (And.intro (imin) ?_)
              | refine Exists.intro _ (And.intro (imax) ?_))
    conv => whnf
    rw [shl_or _ _ (by omega)]
    exact ⟨rfl⟩

end Go.Proofs.Ythlngafnlnincaa

