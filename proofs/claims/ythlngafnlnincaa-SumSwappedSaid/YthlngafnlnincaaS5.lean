import Derived.Test.YthlngafnlnincaaS4
namespace Go.Proofs.Ythlngafnlnincaa
open Go.A
set_option linter.unusedVariables false
set_option linter.unusedSimpArgs false
set_option linter.unnecessarySimpa false
attribute [local irreducible] IntKind.wrap bitsI
set_option maxRecDepth 100000
set_option maxHeartbeats 0

theorem ofS_one (b : List Nat) : ofS [b] = moreS 1 b := rfl

theorem sumS_pair (s : Nat) (b : List Nat) : sum0 (moreS s b) = sumS s b := by
  have := sumS_lt s b
  simp only [sum0, moreS]
  refine Prod.ext ?_ ?_
  · show ((sumS s b).2 * 65536 + (sumS s b).1) % 65536 % 65521 = (sumS s b).1
    omega
  · show ((sumS s b).2 * 65536 + (sumS s b).1) / 65536 % 65521 = (sumS s b).2
    omega

theorem moreS_append (s : Nat) (a b : List Nat) : moreS (moreS s a) b = moreS s (a ++ b) := by
  have e : sumS (moreS s a) b = sumS s (a ++ b) := by
    rw [sumS, sumS_pair, sumS, sumS, List.foldl_append]
  simp only [moreS] at e ⊢
  rw [e]

theorem cuts_eq (x : List Nat) (k : Nat) : ofS [x.take k, [], x.drop k] = ofS [x] := by
  show moreS (moreS (moreS 1 (x.take k)) []) (x.drop k) = moreS 1 x
  rw [moreS_append, moreS_append, List.nil_append, List.take_append_drop]

theorem cut_more (x : List Nat) (k : Nat) : moreS (ofS [x.take k]) (x.drop k) = ofS [x] := by
  show moreS (moreS 1 (x.take k)) (x.drop k) = moreS 1 x
  rw [moreS_append, List.take_append_drop]

theorem ok24_take {x : List Nat} (h : okB x) (k : Nat) : okB (x.take k) :=
  ⟨fun y hy => h.1 y (List.mem_of_mem_take hy), by have := h.2; simp at this ⊢; omega⟩
theorem ok24_drop {x : List Nat} (h : okB x) (k : Nat) : okB (x.drop k) :=
  ⟨fun y hy => h.1 y (List.mem_of_mem_drop hy), by have := h.2; simp at this ⊢; omega⟩
theorem ok22_one {x : List Nat} (h : okB x) : okBs [x] := ⟨by simpa using h, by simp [td24]⟩
theorem ok22_three {x y z : List Nat} (h1 : okB x) (h2 : okB y) (h3 : okB z) : okBs [x, y, z] := ⟨by simp [h1, h2, h3], by simp [td24]⟩

theorem wk3 {a b : D} (ha : Wks a.cells a.cells) : Wks [D.sl [a, .nils, b]] [D.sl [a, .sl [], b]] := .cons (.sl (.cons Wks.refl (.cons (.cons .nils .nil) (.cons Wks.refl .nil)))) .nil

theorem sumCuts_true (x0 : List Nat) (x1 : Int) (h0 : ok24 x0) (h1 : ok3 x1) : CallsIn Try.prog 4 [d24 x0, d3 x1] [] fun r _ => r = .bool true := by
  replace h0 := ok24.b h0
  have hlen : x0.length ≤ 140737488355328 := h0.2
  refine CallsIn.of_exec tab_ok mixed Try.func4 rfl rfl [] [] ?_
  repeat (conv => whnf
          first
            | refine PairK.mk (by kernel_rfl) ?_
            | refine And.intro (by decide) ?_
            | refine And.intro rfl ?_
            | refine And.intro (List.cons_ne_nil _ _) ?_
            | refine And.intro (Nat.le_of_ble_eq_true rfl) ?_
            | refine And.intro (by omega) ?_
            | refine And.intro (by simp only [List.length_map, List.length_append, List.length_cons, List.length_nil]; omega) ?_
            | refine And.intro (by simpa only [List.length_map, List.length_append, List.length_cons, List.length_nil] using rfl) ?_
            | refine And.intro (Eq.symm (List.length_map _)) ?_
            | refine And.intro (all_map (fun _ => rfl)) ?_
            | refine And.intro (cells_map (fun _ => rfl)) ?_
            | refine And.intro (rows_map (fun _ => rfl) (fun _ => rfl)) ?_
            | refine And.intro (okRows_one rfl rfl) ?_
            | refine And.intro (okRows_all rfl) ?_
            | refine boolF_t (beq_self_eq_true _) ?_
            | refine Exists.intro _ (And.intro (map_get (by assumption)) ?_)
            | refine Exists.intro _ (And.intro (Eq.refl (α := Option D) _) ?_)
            | refine Exists.intro _ (And.intro (⟨(List.length_map _).symm⟩) ?_)
            | refine Exists.intro _ (And.intro (⟨len_one⟩) ?_)
            | refine Exists.intro _ (And.intro (⟨len_two⟩) ?_)
            | refine Exists.intro _ (And.intro (⟨len_three⟩) ?_)
            | refine Exists.intro _ (And.intro (⟨len_four⟩) ?_)
            | refine Exists.intro _ (And.intro (⟨lenl_1⟩) ?_)
            | refine Exists.intro _ (And.intro (⟨lenl_2⟩) ?_)
            | refine Exists.intro _ (And.intro (⟨lenl_3⟩) ?_)
            | refine Exists.intro _ (And.intro (⟨lenl_4⟩) ?_)
            | refine Exists.intro _ (And.intro (⟨len_more⟩) ?_)
            | refine Exists.intro _ (And.intro (⟨map_slice⟩) ?_)
            | refine Exists.intro _ (And.intro (⟨List.map_take⟩) ?_)
            | refine Exists.intro _ (And.intro (⟨List.map_drop⟩) ?_)
            | refine Exists.intro _ (And.intro (⟨map_full'⟩) ?_)
            | refine Exists.intro _ (And.intro (⟨map_full⟩) ?_)
            | refine Exists.intro _ (And.intro (⟨map_snoc⟩) ?_)
            | refine Exists.intro _ (And.intro (⟨List.map_append⟩) ?_)
            | refine Exists.intro _ (And.intro (⟨Eq.refl (α := List D) _⟩) ?_)
            | refine Exists.intro _ (And.intro (⟨Eq.refl (α := Int) _⟩) (And.intro (by omega) ?_))
            | refine Exists.intro (0) (And.intro (⟨rfl⟩) (And.intro (Nat.zero_le _) ?_))
            | refine Exists.intro _ (And.intro (⟨nc1⟩) (And.intro (by omega) ?_))
            | refine Exists.intro _ (Exists.intro _ (And.intro (⟨Eq.refl (α := Int) _⟩) (And.intro (⟨Eq.refl (α := Int) _⟩) (And.intro (by omega) (And.intro (by omega) ?_)))))
            | refine Exists.intro _ (Exists.intro _ (And.intro (⟨Eq.refl (α := Nat) _⟩) (And.intro (⟨Eq.refl (α := Nat) _⟩) ?_)))
            | refine Exists.intro _ (And.intro (⟨Eq.refl (α := Nat) _⟩) ?_)
            | refine Exists.intro _ (And.intro (u32and (by omega) (by omega)) ?_)
            | refine Exists.intro _ (And.intro (u32or (by omega) (by omega)) ?_)
            | refine Exists.intro _ (And.intro (u32xor (by omega) (by omega)) ?_)
            | refine Exists.intro _ (And.intro (u8xor (by omega) (by omega)) ?_)
            | refine Exists.intro _ (And.intro (u64and (by omega) (by omega)) ?_)
            | refine Exists.intro _ (And.intro (u64or (by omega) (by omega)) ?_)
            | refine Exists.intro _ (And.intro (u64xor (by omega) (by omega)) ?_)
            | refine Exists.intro _ (And.intro (w64 (by omega) (by omega)) ?_)
            | refine Exists.intro _ (And.intro (u32add (by omega)) ?_)
            | refine Exists.intro _ (And.intro (u64add (by omega)) ?_)
            | refine Exists.intro _ (And.intro (u8w (by omega)) ?_)
            | refine Exists.intro _ (And.intro (u32w (by omega)) ?_)
            | refine Exists.intro _ (And.intro (u64w (by omega)) ?_)
            | refine Exists.intro _ (And.intro (u8m) ?_)
            | refine Exists.intro _ (And.intro (u64i (by omega) (by omega)) ?_)
            | refine Exists.intro _ (And.intro (min_int) ?_)
            | refine Exists.intro _ (And.intro (max_int) ?_)
            | refine Exists.intro _ (And.intro (imin) ?_)
            | refine Exists.intro _ (And.intro (imax) ?_))
  conv => whnf
  refine boolF_split (fun h => ?_) (fun h => ?_)
  · have h : 0 < x0.length := by simpa using h
    have m1 := Int.tmod_lt_of_pos x1 (b := (x0.length : Int)) (by omega)
    have m2 : -(x0.length : Int) < x1.tmod x0.length := by
      have := Int.lt_tmod_of_pos x1 (b := (x0.length : Int)) (by omega)
      exact this
    repeat (conv => whnf
            first
              | refine PairK.mk (by kernel_rfl) ?_
              | refine And.intro (by decide) ?_
              | refine And.intro rfl ?_
              | refine And.intro (List.cons_ne_nil _ _) ?_
              | refine And.intro (Nat.le_of_ble_eq_true rfl) ?_
              | refine And.intro (by omega) ?_
              | refine And.intro (by simp only [List.length_map, List.length_append, List.length_cons, List.length_nil]; omega) ?_
              | refine And.intro (by simpa only [List.length_map, List.length_append, List.length_cons, List.length_nil] using rfl) ?_
              | refine And.intro (Eq.symm (List.length_map _)) ?_
              | refine And.intro (all_map (fun _ => rfl)) ?_
              | refine And.intro (cells_map (fun _ => rfl)) ?_
              | refine And.intro (rows_map (fun _ => rfl) (fun _ => rfl)) ?_
              | refine And.intro (okRows_one rfl rfl) ?_
              | refine And.intro (okRows_all rfl) ?_
              | refine boolF_t (beq_self_eq_true _) ?_
              | refine Exists.intro _ (And.intro (map_get (by assumption)) ?_)
              | refine Exists.intro _ (And.intro (Eq.refl (α := Option D) _) ?_)
              | refine Exists.intro _ (And.intro (⟨(List.length_map _).symm⟩) ?_)
              | refine Exists.intro _ (And.intro (⟨len_one⟩) ?_)
              | refine Exists.intro _ (And.intro (⟨len_two⟩) ?_)
              | refine Exists.intro _ (And.intro (⟨len_three⟩) ?_)
              | refine Exists.intro _ (And.intro (⟨len_four⟩) ?_)
              | refine Exists.intro _ (And.intro (⟨lenl_1⟩) ?_)
              | refine Exists.intro _ (And.intro (⟨lenl_2⟩) ?_)
              | refine Exists.intro _ (And.intro (⟨lenl_3⟩) ?_)
              | refine Exists.intro _ (And.intro (⟨lenl_4⟩) ?_)
              | refine Exists.intro _ (And.intro (⟨len_more⟩) ?_)
              | refine Exists.intro _ (And.intro (⟨map_slice⟩) ?_)
              | refine Exists.intro _ (And.intro (⟨List.map_take⟩) ?_)
              | refine Exists.intro _ (And.intro (⟨List.map_drop⟩) ?_)
              | refine Exists.intro _ (And.intro (⟨map_full'⟩) ?_)
              | refine Exists.intro _ (And.intro (⟨map_full⟩) ?_)
              | refine Exists.intro _ (And.intro (⟨map_snoc⟩) ?_)
              | refine Exists.intro _ (And.intro (⟨List.map_append⟩) ?_)
              | refine Exists.intro _ (And.intro (⟨Eq.refl (α := List D) _⟩) ?_)
              | refine Exists.intro _ (And.intro (⟨Eq.refl (α := Int) _⟩) (And.intro (by omega) ?_))
              | refine Exists.intro (0) (And.intro (⟨rfl⟩) (And.intro (Nat.zero_le _) ?_))
              | refine Exists.intro _ (And.intro (⟨nc1⟩) (And.intro (by omega) ?_))
              | refine Exists.intro _ (Exists.intro _ (And.intro (⟨Eq.refl (α := Int) _⟩) (And.intro (⟨Eq.refl (α := Int) _⟩) (And.intro (by omega) (And.intro (by omega) ?_)))))
              | refine Exists.intro _ (Exists.intro _ (And.intro (⟨Eq.refl (α := Nat) _⟩) (And.intro (⟨Eq.refl (α := Nat) _⟩) ?_)))
              | refine Exists.intro _ (And.intro (⟨Eq.refl (α := Nat) _⟩) ?_)
              | refine Exists.intro _ (And.intro (u32and (by omega) (by omega)) ?_)
              | refine Exists.intro _ (And.intro (u32or (by omega) (by omega)) ?_)
              | refine Exists.intro _ (And.intro (u32xor (by omega) (by omega)) ?_)
              | refine Exists.intro _ (And.intro (u8xor (by omega) (by omega)) ?_)
              | refine Exists.intro _ (And.intro (u64and (by omega) (by omega)) ?_)
              | refine Exists.intro _ (And.intro (u64or (by omega) (by omega)) ?_)
              | refine Exists.intro _ (And.intro (u64xor (by omega) (by omega)) ?_)
              | refine Exists.intro _ (And.intro (w64 (by omega) (by omega)) ?_)
              | refine Exists.intro _ (And.intro (u32add (by omega)) ?_)
              | refine Exists.intro _ (And.intro (u64add (by omega)) ?_)
              | refine Exists.intro _ (And.intro (u8w (by omega)) ?_)
              | refine Exists.intro _ (And.intro (u32w (by omega)) ?_)
              | refine Exists.intro _ (And.intro (u64w (by omega)) ?_)
              | refine Exists.intro _ (And.intro (u8m) ?_)
              | refine Exists.intro _ (And.intro (u64i (by omega) (by omega)) ?_)
              | refine Exists.intro _ (And.intro (min_int) ?_)
              | refine Exists.intro _ (And.intro (max_int) ?_)
              | refine Exists.intro _ (And.intro (imin) ?_)
              | refine Exists.intro _ (And.intro (imax) ?_))
    conv => whnf
    generalize hz : Int.tmod _ (x0.length : Int) = z
    obtain ⟨k, rfl⟩ : ∃ k : Nat, z = (k : Int) := Int.eq_ofNat_of_zero_le (by rw [← hz]; exact Int.tmod_nonneg _ (by omega))
    have hk : k ≤ x0.length := by have := Int.tmod_lt_of_pos (x1.tmod ↑x0.length + ↑x0.length) (b := (x0.length : Int)) (by omega); omega
    refine Pure.locK (f10_ok [x0] (ok22_one h0)) ?_
    repeat (conv => whnf
            first
              | refine PairK.mk (by kernel_rfl) ?_
              | refine And.intro (by decide) ?_
              | refine And.intro rfl ?_
              | refine And.intro (List.cons_ne_nil _ _) ?_
              | refine And.intro (Nat.le_of_ble_eq_true rfl) ?_
              | refine And.intro (by omega) ?_
              | refine And.intro (by simp only [List.length_map, List.length_append, List.length_cons, List.length_nil]; omega) ?_
              | refine And.intro (by simpa only [List.length_map, List.length_append, List.length_cons, List.length_nil] using rfl) ?_
              | refine And.intro (Eq.symm (List.length_map _)) ?_
              | refine And.intro (all_map (fun _ => rfl)) ?_
              | refine And.intro (cells_map (fun _ => rfl)) ?_
              | refine And.intro (rows_map (fun _ => rfl) (fun _ => rfl)) ?_
              | refine And.intro (okRows_one rfl rfl) ?_
              | refine And.intro (okRows_all rfl) ?_
              | refine boolF_t (beq_self_eq_true _) ?_
              | refine Exists.intro _ (And.intro (map_get (by assumption)) ?_)
              | refine Exists.intro _ (And.intro (Eq.refl (α := Option D) _) ?_)
              | refine Exists.intro _ (And.intro (⟨(List.length_map _).symm⟩) ?_)
              | refine Exists.intro _ (And.intro (⟨len_one⟩) ?_)
              | refine Exists.intro _ (And.intro (⟨len_two⟩) ?_)
              | refine Exists.intro _ (And.intro (⟨len_three⟩) ?_)
              | refine Exists.intro _ (And.intro (⟨len_four⟩) ?_)
              | refine Exists.intro _ (And.intro (⟨lenl_1⟩) ?_)
              | refine Exists.intro _ (And.intro (⟨lenl_2⟩) ?_)
              | refine Exists.intro _ (And.intro (⟨lenl_3⟩) ?_)
              | refine Exists.intro _ (And.intro (⟨lenl_4⟩) ?_)
              | refine Exists.intro _ (And.intro (⟨len_more⟩) ?_)
              | refine Exists.intro _ (And.intro (⟨map_slice⟩) ?_)
              | refine Exists.intro _ (And.intro (⟨List.map_take⟩) ?_)
              | refine Exists.intro _ (And.intro (⟨List.map_drop⟩) ?_)
              | refine Exists.intro _ (And.intro (⟨map_full'⟩) ?_)
              | refine Exists.intro _ (And.intro (⟨map_full⟩) ?_)
              | refine Exists.intro _ (And.intro (⟨map_snoc⟩) ?_)
              | refine Exists.intro _ (And.intro (⟨List.map_append⟩) ?_)
              | refine Exists.intro _ (And.intro (⟨Eq.refl (α := List D) _⟩) ?_)
              | refine Exists.intro _ (And.intro (⟨Eq.refl (α := Int) _⟩) (And.intro (by omega) ?_))
              | refine Exists.intro (0) (And.intro (⟨rfl⟩) (And.intro (Nat.zero_le _) ?_))
              | refine Exists.intro _ (And.intro (⟨nc1⟩) (And.intro (by omega) ?_))
              | refine Exists.intro _ (Exists.intro _ (And.intro (⟨Eq.refl (α := Int) _⟩) (And.intro (⟨Eq.refl (α := Int) _⟩) (And.intro (by omega) (And.intro (by omega) ?_)))))
              | refine Exists.intro _ (Exists.intro _ (And.intro (⟨Eq.refl (α := Nat) _⟩) (And.intro (⟨Eq.refl (α := Nat) _⟩) ?_)))
              | refine Exists.intro _ (And.intro (⟨Eq.refl (α := Nat) _⟩) ?_)
              | refine Exists.intro _ (And.intro (u32and (by omega) (by omega)) ?_)
              | refine Exists.intro _ (And.intro (u32or (by omega) (by omega)) ?_)
              | refine Exists.intro _ (And.intro (u32xor (by omega) (by omega)) ?_)
              | refine Exists.intro _ (And.intro (u8xor (by omega) (by omega)) ?_)
              | refine Exists.intro _ (And.intro (u64and (by omega) (by omega)) ?_)
              | refine Exists.intro _ (And.intro (u64or (by omega) (by omega)) ?_)
              | refine Exists.intro _ (And.intro (u64xor (by omega) (by omega)) ?_)
              | refine Exists.intro _ (And.intro (w64 (by omega) (by omega)) ?_)
              | refine Exists.intro _ (And.intro (u32add (by omega)) ?_)
              | refine Exists.intro _ (And.intro (u64add (by omega)) ?_)
              | refine Exists.intro _ (And.intro (u8w (by omega)) ?_)
              | refine Exists.intro _ (And.intro (u32w (by omega)) ?_)
              | refine Exists.intro _ (And.intro (u64w (by omega)) ?_)
              | refine Exists.intro _ (And.intro (u8m) ?_)
              | refine Exists.intro _ (And.intro (u64i (by omega) (by omega)) ?_)
              | refine Exists.intro _ (And.intro (min_int) ?_)
              | refine Exists.intro _ (And.intro (max_int) ?_)
              | refine Exists.intro _ (And.intro (imin) ?_)
              | refine Exists.intro _ (And.intro (imax) ?_))
    conv => whnf
    refine Pure.locK ((f10_ok [x0.take k, [], x0.drop k] (ok22_three (ok24_take h0 k) (by simp [okB]) (ok24_drop h0 k))).wk (wk3 Wks.refl)) ?_
    rw [cuts_eq]
    repeat (conv => whnf
            first
              | refine PairK.mk (by kernel_rfl) ?_
              | refine And.intro (by decide) ?_
              | refine And.intro rfl ?_
              | refine And.intro (List.cons_ne_nil _ _) ?_
              | refine And.intro (Nat.le_of_ble_eq_true rfl) ?_
              | refine And.intro (by omega) ?_
              | refine And.intro (by simp only [List.length_map, List.length_append, List.length_cons, List.length_nil]; omega) ?_
              | refine And.intro (by simpa only [List.length_map, List.length_append, List.length_cons, List.length_nil] using rfl) ?_
              | refine And.intro (Eq.symm (List.length_map _)) ?_
              | refine And.intro (all_map (fun _ => rfl)) ?_
              | refine And.intro (cells_map (fun _ => rfl)) ?_
              | refine And.intro (rows_map (fun _ => rfl) (fun _ => rfl)) ?_
              | refine And.intro (okRows_one rfl rfl) ?_
              | refine And.intro (okRows_all rfl) ?_
              | refine boolF_t (beq_self_eq_true _) ?_
              | refine Exists.intro _ (And.intro (map_get (by assumption)) ?_)
              | refine Exists.intro _ (And.intro (Eq.refl (α := Option D) _) ?_)
              | refine Exists.intro _ (And.intro (⟨(List.length_map _).symm⟩) ?_)
              | refine Exists.intro _ (And.intro (⟨len_one⟩) ?_)
              | refine Exists.intro _ (And.intro (⟨len_two⟩) ?_)
              | refine Exists.intro _ (And.intro (⟨len_three⟩) ?_)
              | refine Exists.intro _ (And.intro (⟨len_four⟩) ?_)
              | refine Exists.intro _ (And.intro (⟨lenl_1⟩) ?_)
              | refine Exists.intro _ (And.intro (⟨lenl_2⟩) ?_)
              | refine Exists.intro _ (And.intro (⟨lenl_3⟩) ?_)
              | refine Exists.intro _ (And.intro (⟨lenl_4⟩) ?_)
              | refine Exists.intro _ (And.intro (⟨len_more⟩) ?_)
              | refine Exists.intro _ (And.intro (⟨map_slice⟩) ?_)
              | refine Exists.intro _ (And.intro (⟨List.map_take⟩) ?_)
              | refine Exists.intro _ (And.intro (⟨List.map_drop⟩) ?_)
              | refine Exists.intro _ (And.intro (⟨map_full'⟩) ?_)
              | refine Exists.intro _ (And.intro (⟨map_full⟩) ?_)
              | refine Exists.intro _ (And.intro (⟨map_snoc⟩) ?_)
              | refine Exists.intro _ (And.intro (⟨List.map_append⟩) ?_)
              | refine Exists.intro _ (And.intro (⟨Eq.refl (α := List D) _⟩) ?_)
              | refine Exists.intro _ (And.intro (⟨Eq.refl (α := Int) _⟩) (And.intro (by omega) ?_))
              | refine Exists.intro (0) (And.intro (⟨rfl⟩) (And.intro (Nat.zero_le _) ?_))
              | refine Exists.intro _ (And.intro (⟨nc1⟩) (And.intro (by omega) ?_))
              | refine Exists.intro _ (Exists.intro _ (And.intro (⟨Eq.refl (α := Int) _⟩) (And.intro (⟨Eq.refl (α := Int) _⟩) (And.intro (by omega) (And.intro (by omega) ?_)))))
              | refine Exists.intro _ (Exists.intro _ (And.intro (⟨Eq.refl (α := Nat) _⟩) (And.intro (⟨Eq.refl (α := Nat) _⟩) ?_)))
              | refine Exists.intro _ (And.intro (⟨Eq.refl (α := Nat) _⟩) ?_)
              | refine Exists.intro _ (And.intro (u32and (by omega) (by omega)) ?_)
              | refine Exists.intro _ (And.intro (u32or (by omega) (by omega)) ?_)
              | refine Exists.intro _ (And.intro (u32xor (by omega) (by omega)) ?_)
              | refine Exists.intro _ (And.intro (u8xor (by omega) (by omega)) ?_)
              | refine Exists.intro _ (And.intro (u64and (by omega) (by omega)) ?_)
              | refine Exists.intro _ (And.intro (u64or (by omega) (by omega)) ?_)
              | refine Exists.intro _ (And.intro (u64xor (by omega) (by omega)) ?_)
              | refine Exists.intro _ (And.intro (w64 (by omega) (by omega)) ?_)
              | refine Exists.intro _ (And.intro (u32add (by omega)) ?_)
              | refine Exists.intro _ (And.intro (u64add (by omega)) ?_)
              | refine Exists.intro _ (And.intro (u8w (by omega)) ?_)
              | refine Exists.intro _ (And.intro (u32w (by omega)) ?_)
              | refine Exists.intro _ (And.intro (u64w (by omega)) ?_)
              | refine Exists.intro _ (And.intro (u8m) ?_)
              | refine Exists.intro _ (And.intro (u64i (by omega) (by omega)) ?_)
              | refine Exists.intro _ (And.intro (min_int) ?_)
              | refine Exists.intro _ (And.intro (max_int) ?_)
              | refine Exists.intro _ (And.intro (imin) ?_)
              | refine Exists.intro _ (And.intro (imax) ?_))
    conv => whnf
    refine Pure.locK (f10_ok [x0] (ok22_one h0)) ?_
    repeat (conv => whnf
            first
              | refine PairK.mk (by kernel_rfl) ?_
              | refine And.intro (by decide) ?_
              | refine And.intro rfl ?_
              | refine And.intro (List.cons_ne_nil _ _) ?_
              | refine And.intro (Nat.le_of_ble_eq_true rfl) ?_
              | refine And.intro (by omega) ?_
              | refine And.intro (by simp only [List.length_map, List.length_append, List.length_cons, List.length_nil]; omega) ?_
              | refine And.intro (by simpa only [List.length_map, List.length_append, List.length_cons, List.length_nil] using rfl) ?_
              | refine And.intro (Eq.symm (List.length_map _)) ?_
              | refine And.intro (all_map (fun _ => rfl)) ?_
              | refine And.intro (cells_map (fun _ => rfl)) ?_
              | refine And.intro (rows_map (fun _ => rfl) (fun _ => rfl)) ?_
              | refine And.intro (okRows_one rfl rfl) ?_
              | refine And.intro (okRows_all rfl) ?_
              | refine boolF_t (beq_self_eq_true _) ?_
              | refine Exists.intro _ (And.intro (map_get (by assumption)) ?_)
              | refine Exists.intro _ (And.intro (Eq.refl (α := Option D) _) ?_)
              | refine Exists.intro _ (And.intro (⟨(List.length_map _).symm⟩) ?_)
              | refine Exists.intro _ (And.intro (⟨len_one⟩) ?_)
              | refine Exists.intro _ (And.intro (⟨len_two⟩) ?_)
              | refine Exists.intro _ (And.intro (⟨len_three⟩) ?_)
              | refine Exists.intro _ (And.intro (⟨len_four⟩) ?_)
              | refine Exists.intro _ (And.intro (⟨lenl_1⟩) ?_)
              | refine Exists.intro _ (And.intro (⟨lenl_2⟩) ?_)
              | refine Exists.intro _ (And.intro (⟨lenl_3⟩) ?_)
              | refine Exists.intro _ (And.intro (⟨lenl_4⟩) ?_)
              | refine Exists.intro _ (And.intro (⟨len_more⟩) ?_)
              | refine Exists.intro _ (And.intro (⟨map_slice⟩) ?_)
              | refine Exists.intro _ (And.intro (⟨List.map_take⟩) ?_)
              | refine Exists.intro _ (And.intro (⟨List.map_drop⟩) ?_)
              | refine Exists.intro _ (And.intro (⟨map_full'⟩) ?_)
              | refine Exists.intro _ (And.intro (⟨map_full⟩) ?_)
              | refine Exists.intro _ (And.intro (⟨map_snoc⟩) ?_)
              | refine Exists.intro _ (And.intro (⟨List.map_append⟩) ?_)
              | refine Exists.intro _ (And.intro (⟨Eq.refl (α := List D) _⟩) ?_)
              | refine Exists.intro _ (And.intro (⟨Eq.refl (α := Int) _⟩) (And.intro (by omega) ?_))
              | refine Exists.intro (0) (And.intro (⟨rfl⟩) (And.intro (Nat.zero_le _) ?_))
              | refine Exists.intro _ (And.intro (⟨nc1⟩) (And.intro (by omega) ?_))
              | refine Exists.intro _ (Exists.intro _ (And.intro (⟨Eq.refl (α := Int) _⟩) (And.intro (⟨Eq.refl (α := Int) _⟩) (And.intro (by omega) (And.intro (by omega) ?_)))))
              | refine Exists.intro _ (Exists.intro _ (And.intro (⟨Eq.refl (α := Nat) _⟩) (And.intro (⟨Eq.refl (α := Nat) _⟩) ?_)))
              | refine Exists.intro _ (And.intro (⟨Eq.refl (α := Nat) _⟩) ?_)
              | refine Exists.intro _ (And.intro (u32and (by omega) (by omega)) ?_)
              | refine Exists.intro _ (And.intro (u32or (by omega) (by omega)) ?_)
              | refine Exists.intro _ (And.intro (u32xor (by omega) (by omega)) ?_)
              | refine Exists.intro _ (And.intro (u8xor (by omega) (by omega)) ?_)
              | refine Exists.intro _ (And.intro (u64and (by omega) (by omega)) ?_)
              | refine Exists.intro _ (And.intro (u64or (by omega) (by omega)) ?_)
              | refine Exists.intro _ (And.intro (u64xor (by omega) (by omega)) ?_)
              | refine Exists.intro _ (And.intro (w64 (by omega) (by omega)) ?_)
              | refine Exists.intro _ (And.intro (u32add (by omega)) ?_)
              | refine Exists.intro _ (And.intro (u64add (by omega)) ?_)
              | refine Exists.intro _ (And.intro (u8w (by omega)) ?_)
              | refine Exists.intro _ (And.intro (u32w (by omega)) ?_)
              | refine Exists.intro _ (And.intro (u64w (by omega)) ?_)
              | refine Exists.intro _ (And.intro (u8m) ?_)
              | refine Exists.intro _ (And.intro (u64i (by omega) (by omega)) ?_)
              | refine Exists.intro _ (And.intro (min_int) ?_)
              | refine Exists.intro _ (And.intro (max_int) ?_)
              | refine Exists.intro _ (And.intro (imin) ?_)
              | refine Exists.intro _ (And.intro (imax) ?_))
    conv => whnf
    refine Pure.locK (f10_ok [x0.take k] (ok22_one (ok24_take h0 k))) ?_
    repeat (conv => whnf
            first
              | refine PairK.mk (by kernel_rfl) ?_
              | refine And.intro (by decide) ?_
              | refine And.intro rfl ?_
              | refine And.intro (List.cons_ne_nil _ _) ?_
              | refine And.intro (Nat.le_of_ble_eq_true rfl) ?_
              | refine And.intro (by omega) ?_
              | refine And.intro (by simp only [List.length_map, List.length_append, List.length_cons, List.length_nil]; omega) ?_
              | refine And.intro (by simpa only [List.length_map, List.length_append, List.length_cons, List.length_nil] using rfl) ?_
              | refine And.intro (Eq.symm (List.length_map _)) ?_
              | refine And.intro (all_map (fun _ => rfl)) ?_
              | refine And.intro (cells_map (fun _ => rfl)) ?_
              | refine And.intro (rows_map (fun _ => rfl) (fun _ => rfl)) ?_
              | refine And.intro (okRows_one rfl rfl) ?_
              | refine And.intro (okRows_all rfl) ?_
              | refine boolF_t (beq_self_eq_true _) ?_
              | refine Exists.intro _ (And.intro (map_get (by assumption)) ?_)
              | refine Exists.intro _ (And.intro (Eq.refl (α := Option D) _) ?_)
              | refine Exists.intro _ (And.intro (⟨(List.length_map _).symm⟩) ?_)
              | refine Exists.intro _ (And.intro (⟨len_one⟩) ?_)
              | refine Exists.intro _ (And.intro (⟨len_two⟩) ?_)
              | refine Exists.intro _ (And.intro (⟨len_three⟩) ?_)
              | refine Exists.intro _ (And.intro (⟨len_four⟩) ?_)
              | refine Exists.intro _ (And.intro (⟨lenl_1⟩) ?_)
              | refine Exists.intro _ (And.intro (⟨lenl_2⟩) ?_)
              | refine Exists.intro _ (And.intro (⟨lenl_3⟩) ?_)
              | refine Exists.intro _ (And.intro (⟨lenl_4⟩) ?_)
              | refine Exists.intro _ (And.intro (⟨len_more⟩) ?_)
              | refine Exists.intro _ (And.intro (⟨map_slice⟩) ?_)
              | refine Exists.intro _ (And.intro (⟨List.map_take⟩) ?_)
              | refine Exists.intro _ (And.intro (⟨List.map_drop⟩) ?_)
              | refine Exists.intro _ (And.intro (⟨map_full'⟩) ?_)
              | refine Exists.intro _ (And.intro (⟨map_full⟩) ?_)
              | refine Exists.intro _ (And.intro (⟨map_snoc⟩) ?_)
              | refine Exists.intro _ (And.intro (⟨List.map_append⟩) ?_)
              | refine Exists.intro _ (And.intro (⟨Eq.refl (α := List D) _⟩) ?_)
              | refine Exists.intro _ (And.intro (⟨Eq.refl (α := Int) _⟩) (And.intro (by omega) ?_))
              | refine Exists.intro (0) (And.intro (⟨rfl⟩) (And.intro (Nat.zero_le _) ?_))
              | refine Exists.intro _ (And.intro (⟨nc1⟩) (And.intro (by omega) ?_))
              | refine Exists.intro _ (Exists.intro _ (And.intro (⟨Eq.refl (α := Int) _⟩) (And.intro (⟨Eq.refl (α := Int) _⟩) (And.intro (by omega) (And.intro (by omega) ?_)))))
              | refine Exists.intro _ (Exists.intro _ (And.intro (⟨Eq.refl (α := Nat) _⟩) (And.intro (⟨Eq.refl (α := Nat) _⟩) ?_)))
              | refine Exists.intro _ (And.intro (⟨Eq.refl (α := Nat) _⟩) ?_)
              | refine Exists.intro _ (And.intro (u32and (by omega) (by omega)) ?_)
              | refine Exists.intro _ (And.intro (u32or (by omega) (by omega)) ?_)
              | refine Exists.intro _ (And.intro (u32xor (by omega) (by omega)) ?_)
              | refine Exists.intro _ (And.intro (u8xor (by omega) (by omega)) ?_)
              | refine Exists.intro _ (And.intro (u64and (by omega) (by omega)) ?_)
              | refine Exists.intro _ (And.intro (u64or (by omega) (by omega)) ?_)
              | refine Exists.intro _ (And.intro (u64xor (by omega) (by omega)) ?_)
              | refine Exists.intro _ (And.intro (w64 (by omega) (by omega)) ?_)
              | refine Exists.intro _ (And.intro (u32add (by omega)) ?_)
              | refine Exists.intro _ (And.intro (u64add (by omega)) ?_)
              | refine Exists.intro _ (And.intro (u8w (by omega)) ?_)
              | refine Exists.intro _ (And.intro (u32w (by omega)) ?_)
              | refine Exists.intro _ (And.intro (u64w (by omega)) ?_)
              | refine Exists.intro _ (And.intro (u8m) ?_)
              | refine Exists.intro _ (And.intro (u64i (by omega) (by omega)) ?_)
              | refine Exists.intro _ (And.intro (min_int) ?_)
              | refine Exists.intro _ (And.intro (max_int) ?_)
              | refine Exists.intro _ (And.intro (imin) ?_)
              | refine Exists.intro _ (And.intro (imax) ?_))
    conv => whnf
    refine Pure.locK (f12_ok _ _ (ofS_lt _) (ok24_drop h0 k)) ?_
    rw [cut_more]
    repeat (conv => whnf
            first
              | refine PairK.mk (by kernel_rfl) ?_
              | refine And.intro (by decide) ?_
              | refine And.intro rfl ?_
              | refine And.intro (List.cons_ne_nil _ _) ?_
              | refine And.intro (Nat.le_of_ble_eq_true rfl) ?_
              | refine And.intro (by omega) ?_
              | refine And.intro (by simp only [List.length_map, List.length_append, List.length_cons, List.length_nil]; omega) ?_
              | refine And.intro (by simpa only [List.length_map, List.length_append, List.length_cons, List.length_nil] using rfl) ?_
              | refine And.intro (Eq.symm (List.length_map _)) ?_
              | refine And.intro (all_map (fun _ => rfl)) ?_
              | refine And.intro (cells_map (fun _ => rfl)) ?_
              | refine And.intro (rows_map (fun _ => rfl) (fun _ => rfl)) ?_
              | refine And.intro (okRows_one rfl rfl) ?_
              | refine And.intro (okRows_all rfl) ?_
              | refine boolF_t (beq_self_eq_true _) ?_
              | refine Exists.intro _ (And.intro (map_get (by assumption)) ?_)
              | refine Exists.intro _ (And.intro (Eq.refl (α := Option D) _) ?_)
              | refine Exists.intro _ (And.intro (⟨(List.length_map _).symm⟩) ?_)
              | refine Exists.intro _ (And.intro (⟨len_one⟩) ?_)
              | refine Exists.intro _ (And.intro (⟨len_two⟩) ?_)
              | refine Exists.intro _ (And.intro (⟨len_three⟩) ?_)
              | refine Exists.intro _ (And.intro (⟨len_four⟩) ?_)
              | refine Exists.intro _ (And.intro (⟨lenl_1⟩) ?_)
              | refine Exists.intro _ (And.intro (⟨lenl_2⟩) ?_)
              | refine Exists.intro _ (And.intro (⟨lenl_3⟩) ?_)
              | refine Exists.intro _ (And.intro (⟨lenl_4⟩) ?_)
              | refine Exists.intro _ (And.intro (⟨len_more⟩) ?_)
              | refine Exists.intro _ (And.intro (⟨map_slice⟩) ?_)
              | refine Exists.intro _ (And.intro (⟨List.map_take⟩) ?_)
              | refine Exists.intro _ (And.intro (⟨List.map_drop⟩) ?_)
              | refine Exists.intro _ (And.intro (⟨map_full'⟩) ?_)
              | refine Exists.intro _ (And.intro (⟨map_full⟩) ?_)
              | refine Exists.intro _ (And.intro (⟨map_snoc⟩) ?_)
              | refine Exists.intro _ (And.intro (⟨List.map_append⟩) ?_)
              | refine Exists.intro _ (And.intro (⟨Eq.refl (α := List D) _⟩) ?_)
              | refine Exists.intro _ (And.intro (⟨Eq.refl (α := Int) _⟩) (And.intro (by omega) ?_))
              | refine Exists.intro (0) (And.intro (⟨rfl⟩) (And.intro (Nat.zero_le _) ?_))
              | refine Exists.intro _ (And.intro (⟨nc1⟩) (And.intro (by omega) ?_))
              | refine Exists.intro _ (Exists.intro _ (And.intro (⟨Eq.refl (α := Int) _⟩) (And.intro (⟨Eq.refl (α := Int) _⟩) (And.intro (by omega) (And.intro (by omega) ?_)))))
              | refine Exists.intro _ (Exists.intro _ (And.intro (⟨Eq.refl (α := Nat) _⟩) (And.intro (⟨Eq.refl (α := Nat) _⟩) ?_)))
              | refine Exists.intro _ (And.intro (⟨Eq.refl (α := Nat) _⟩) ?_)
              | refine Exists.intro _ (And.intro (u32and (by omega) (by omega)) ?_)
              | refine Exists.intro _ (And.intro (u32or (by omega) (by omega)) ?_)
              | refine Exists.intro _ (And.intro (u32xor (by omega) (by omega)) ?_)
              | refine Exists.intro _ (And.intro (u8xor (by omega) (by omega)) ?_)
              | refine Exists.intro _ (And.intro (u64and (by omega) (by omega)) ?_)
              | refine Exists.intro _ (And.intro (u64or (by omega) (by omega)) ?_)
              | refine Exists.intro _ (And.intro (u64xor (by omega) (by omega)) ?_)
              | refine Exists.intro _ (And.intro (w64 (by omega) (by omega)) ?_)
              | refine Exists.intro _ (And.intro (u32add (by omega)) ?_)
              | refine Exists.intro _ (And.intro (u64add (by omega)) ?_)
              | refine Exists.intro _ (And.intro (u8w (by omega)) ?_)
              | refine Exists.intro _ (And.intro (u32w (by omega)) ?_)
              | refine Exists.intro _ (And.intro (u64w (by omega)) ?_)
              | refine Exists.intro _ (And.intro (u8m) ?_)
              | refine Exists.intro _ (And.intro (u64i (by omega) (by omega)) ?_)
              | refine Exists.intro _ (And.intro (min_int) ?_)
              | refine Exists.intro _ (And.intro (max_int) ?_)
              | refine Exists.intro _ (And.intro (imin) ?_)
              | refine Exists.intro _ (And.intro (imax) ?_))
    conv => whnf
    refine Pure.locK f14_ok ?_
    repeat (conv => whnf
            first
              | refine PairK.mk (by kernel_rfl) ?_
              | refine And.intro (by decide) ?_
              | refine And.intro rfl ?_
              | refine And.intro (List.cons_ne_nil _ _) ?_
              | refine And.intro (Nat.le_of_ble_eq_true rfl) ?_
              | refine And.intro (by omega) ?_
              | refine And.intro (by simp only [List.length_map, List.length_append, List.length_cons, List.length_nil]; omega) ?_
              | refine And.intro (by simpa only [List.length_map, List.length_append, List.length_cons, List.length_nil] using rfl) ?_
              | refine And.intro (Eq.symm (List.length_map _)) ?_
              | refine And.intro (all_map (fun _ => rfl)) ?_
              | refine And.intro (cells_map (fun _ => rfl)) ?_
              | refine And.intro (rows_map (fun _ => rfl) (fun _ => rfl)) ?_
              | refine And.intro (okRows_one rfl rfl) ?_
              | refine And.intro (okRows_all rfl) ?_
              | refine boolF_t (beq_self_eq_true _) ?_
              | refine Exists.intro _ (And.intro (map_get (by assumption)) ?_)
              | refine Exists.intro _ (And.intro (Eq.refl (α := Option D) _) ?_)
              | refine Exists.intro _ (And.intro (⟨(List.length_map _).symm⟩) ?_)
              | refine Exists.intro _ (And.intro (⟨len_one⟩) ?_)
              | refine Exists.intro _ (And.intro (⟨len_two⟩) ?_)
              | refine Exists.intro _ (And.intro (⟨len_three⟩) ?_)
              | refine Exists.intro _ (And.intro (⟨len_four⟩) ?_)
              | refine Exists.intro _ (And.intro (⟨lenl_1⟩) ?_)
              | refine Exists.intro _ (And.intro (⟨lenl_2⟩) ?_)
              | refine Exists.intro _ (And.intro (⟨lenl_3⟩) ?_)
              | refine Exists.intro _ (And.intro (⟨lenl_4⟩) ?_)
              | refine Exists.intro _ (And.intro (⟨len_more⟩) ?_)
              | refine Exists.intro _ (And.intro (⟨map_slice⟩) ?_)
              | refine Exists.intro _ (And.intro (⟨List.map_take⟩) ?_)
              | refine Exists.intro _ (And.intro (⟨List.map_drop⟩) ?_)
              | refine Exists.intro _ (And.intro (⟨map_full'⟩) ?_)
              | refine Exists.intro _ (And.intro (⟨map_full⟩) ?_)
              | refine Exists.intro _ (And.intro (⟨map_snoc⟩) ?_)
              | refine Exists.intro _ (And.intro (⟨List.map_append⟩) ?_)
              | refine Exists.intro _ (And.intro (⟨Eq.refl (α := List D) _⟩) ?_)
              | refine Exists.intro _ (And.intro (⟨Eq.refl (α := Int) _⟩) (And.intro (by omega) ?_))
              | refine Exists.intro (0) (And.intro (⟨rfl⟩) (And.intro (Nat.zero_le _) ?_))
              | refine Exists.intro _ (And.intro (⟨nc1⟩) (And.intro (by omega) ?_))
              | refine Exists.intro _ (Exists.intro _ (And.intro (⟨Eq.refl (α := Int) _⟩) (And.intro (⟨Eq.refl (α := Int) _⟩) (And.intro (by omega) (And.intro (by omega) ?_)))))
              | refine Exists.intro _ (Exists.intro _ (And.intro (⟨Eq.refl (α := Nat) _⟩) (And.intro (⟨Eq.refl (α := Nat) _⟩) ?_)))
              | refine Exists.intro _ (And.intro (⟨Eq.refl (α := Nat) _⟩) ?_)
              | refine Exists.intro _ (And.intro (u32and (by omega) (by omega)) ?_)
              | refine Exists.intro _ (And.intro (u32or (by omega) (by omega)) ?_)
              | refine Exists.intro _ (And.intro (u32xor (by omega) (by omega)) ?_)
              | refine Exists.intro _ (And.intro (u8xor (by omega) (by omega)) ?_)
              | refine Exists.intro _ (And.intro (u64and (by omega) (by omega)) ?_)
              | refine Exists.intro _ (And.intro (u64or (by omega) (by omega)) ?_)
              | refine Exists.intro _ (And.intro (u64xor (by omega) (by omega)) ?_)
              | refine Exists.intro _ (And.intro (w64 (by omega) (by omega)) ?_)
              | refine Exists.intro _ (And.intro (u32add (by omega)) ?_)
              | refine Exists.intro _ (And.intro (u64add (by omega)) ?_)
              | refine Exists.intro _ (And.intro (u8w (by omega)) ?_)
              | refine Exists.intro _ (And.intro (u32w (by omega)) ?_)
              | refine Exists.intro _ (And.intro (u64w (by omega)) ?_)
              | refine Exists.intro _ (And.intro (u8m) ?_)
              | refine Exists.intro _ (And.intro (u64i (by omega) (by omega)) ?_)
              | refine Exists.intro _ (And.intro (min_int) ?_)
              | refine Exists.intro _ (And.intro (max_int) ?_)
              | refine Exists.intro _ (And.intro (imin) ?_)
              | refine Exists.intro _ (And.intro (imax) ?_))
    conv => whnf
    exact ⟨rfl⟩
  · have h : x0 = [] := by simpa using h
    subst h
    conv => whnf
    refine Pure.locK (f10_ok [[]] (ok22_one h0)) ?_
    repeat (conv => whnf
            first
              | refine PairK.mk (by kernel_rfl) ?_
              | refine And.intro (by decide) ?_
              | refine And.intro rfl ?_
              | refine And.intro (List.cons_ne_nil _ _) ?_
              | refine And.intro (Nat.le_of_ble_eq_true rfl) ?_
              | refine And.intro (by omega) ?_
              | refine And.intro (by simp only [List.length_map, List.length_append, List.length_cons, List.length_nil]; omega) ?_
              | refine And.intro (by simpa only [List.length_map, List.length_append, List.length_cons, List.length_nil] using rfl) ?_
              | refine And.intro (Eq.symm (List.length_map _)) ?_
              | refine And.intro (all_map (fun _ => rfl)) ?_
              | refine And.intro (cells_map (fun _ => rfl)) ?_
              | refine And.intro (rows_map (fun _ => rfl) (fun _ => rfl)) ?_
              | refine And.intro (okRows_one rfl rfl) ?_
              | refine And.intro (okRows_all rfl) ?_
              | refine boolF_t (beq_self_eq_true _) ?_
              | refine Exists.intro _ (And.intro (map_get (by assumption)) ?_)
              | refine Exists.intro _ (And.intro (Eq.refl (α := Option D) _) ?_)
              | refine Exists.intro _ (And.intro (⟨(List.length_map _).symm⟩) ?_)
              | refine Exists.intro _ (And.intro (⟨len_one⟩) ?_)
              | refine Exists.intro _ (And.intro (⟨len_two⟩) ?_)
              | refine Exists.intro _ (And.intro (⟨len_three⟩) ?_)
              | refine Exists.intro _ (And.intro (⟨len_four⟩) ?_)
              | refine Exists.intro _ (And.intro (⟨lenl_1⟩) ?_)
              | refine Exists.intro _ (And.intro (⟨lenl_2⟩) ?_)
              | refine Exists.intro _ (And.intro (⟨lenl_3⟩) ?_)
              | refine Exists.intro _ (And.intro (⟨lenl_4⟩) ?_)
              | refine Exists.intro _ (And.intro (⟨len_more⟩) ?_)
              | refine Exists.intro _ (And.intro (⟨map_slice⟩) ?_)
              | refine Exists.intro _ (And.intro (⟨List.map_take⟩) ?_)
              | refine Exists.intro _ (And.intro (⟨List.map_drop⟩) ?_)
              | refine Exists.intro _ (And.intro (⟨map_full'⟩) ?_)
              | refine Exists.intro _ (And.intro (⟨map_full⟩) ?_)
              | refine Exists.intro _ (And.intro (⟨map_snoc⟩) ?_)
              | refine Exists.intro _ (And.intro (⟨List.map_append⟩) ?_)
              | refine Exists.intro _ (And.intro (⟨Eq.refl (α := List D) _⟩) ?_)
              | refine Exists.intro _ (And.intro (⟨Eq.refl (α := Int) _⟩) (And.intro (by omega) ?_))
              | refine Exists.intro (0) (And.intro (⟨rfl⟩) (And.intro (Nat.zero_le _) ?_))
              | refine Exists.intro _ (And.intro (⟨nc1⟩) (And.intro (by omega) ?_))
              | refine Exists.intro _ (Exists.intro _ (And.intro (⟨Eq.refl (α := Int) _⟩) (And.intro (⟨Eq.refl (α := Int) _⟩) (And.intro (by omega) (And.intro (by omega) ?_)))))
              | refine Exists.intro _ (Exists.intro _ (And.intro (⟨Eq.refl (α := Nat) _⟩) (And.intro (⟨Eq.refl (α := Nat) _⟩) ?_)))
              | refine Exists.intro _ (And.intro (⟨Eq.refl (α := Nat) _⟩) ?_)
              | refine Exists.intro _ (And.intro (u32and (by omega) (by omega)) ?_)
              | refine Exists.intro _ (And.intro (u32or (by omega) (by omega)) ?_)
              | refine Exists.intro _ (And.intro (u32xor (by omega) (by omega)) ?_)
              | refine Exists.intro _ (And.intro (u8xor (by omega) (by omega)) ?_)
              | refine Exists.intro _ (And.intro (u64and (by omega) (by omega)) ?_)
              | refine Exists.intro _ (And.intro (u64or (by omega) (by omega)) ?_)
              | refine Exists.intro _ (And.intro (u64xor (by omega) (by omega)) ?_)
              | refine Exists.intro _ (And.intro (w64 (by omega) (by omega)) ?_)
              | refine Exists.intro _ (And.intro (u32add (by omega)) ?_)
              | refine Exists.intro _ (And.intro (u64add (by omega)) ?_)
              | refine Exists.intro _ (And.intro (u8w (by omega)) ?_)
              | refine Exists.intro _ (And.intro (u32w (by omega)) ?_)
              | refine Exists.intro _ (And.intro (u64w (by omega)) ?_)
              | refine Exists.intro _ (And.intro (u8m) ?_)
              | refine Exists.intro _ (And.intro (u64i (by omega) (by omega)) ?_)
              | refine Exists.intro _ (And.intro (min_int) ?_)
              | refine Exists.intro _ (And.intro (max_int) ?_)
              | refine Exists.intro _ (And.intro (imin) ?_)
              | refine Exists.intro _ (And.intro (imax) ?_))
    conv => whnf
    refine Pure.locK ((f10_ok [List.take 0 [], [], List.drop 0 []] (ok22_three h0 h0 h0)).wk (wk3 Wks.refl)) ?_
    repeat (conv => whnf
            first
              | refine PairK.mk (by kernel_rfl) ?_
              | refine And.intro (by decide) ?_
              | refine And.intro rfl ?_
              | refine And.intro (List.cons_ne_nil _ _) ?_
              | refine And.intro (Nat.le_of_ble_eq_true rfl) ?_
              | refine And.intro (by omega) ?_
              | refine And.intro (by simp only [List.length_map, List.length_append, List.length_cons, List.length_nil]; omega) ?_
              | refine And.intro (by simpa only [List.length_map, List.length_append, List.length_cons, List.length_nil] using rfl) ?_
              | refine And.intro (Eq.symm (List.length_map _)) ?_
              | refine And.intro (all_map (fun _ => rfl)) ?_
              | refine And.intro (cells_map (fun _ => rfl)) ?_
              | refine And.intro (rows_map (fun _ => rfl) (fun _ => rfl)) ?_
              | refine And.intro (okRows_one rfl rfl) ?_
              | refine And.intro (okRows_all rfl) ?_
              | refine boolF_t (beq_self_eq_true _) ?_
              | refine Exists.intro _ (And.intro (map_get (by assumption)) ?_)
              | refine Exists.intro _ (And.intro (Eq.refl (α := Option D) _) ?_)
              | refine Exists.intro _ (And.intro (⟨(List.length_map _).symm⟩) ?_)
              | refine Exists.intro _ (And.intro (⟨len_one⟩) ?_)
              | refine Exists.intro _ (And.intro (⟨len_two⟩) ?_)
              | refine Exists.intro _ (And.intro (⟨len_three⟩) ?_)
              | refine Exists.intro _ (And.intro (⟨len_four⟩) ?_)
              | refine Exists.intro _ (And.intro (⟨lenl_1⟩) ?_)
              | refine Exists.intro _ (And.intro (⟨lenl_2⟩) ?_)
              | refine Exists.intro _ (And.intro (⟨lenl_3⟩) ?_)
              | refine Exists.intro _ (And.intro (⟨lenl_4⟩) ?_)
              | refine Exists.intro _ (And.intro (⟨len_more⟩) ?_)
              | refine Exists.intro _ (And.intro (⟨map_slice⟩) ?_)
              | refine Exists.intro _ (And.intro (⟨List.map_take⟩) ?_)
              | refine Exists.intro _ (And.intro (⟨List.map_drop⟩) ?_)
              | refine Exists.intro _ (And.intro (⟨map_full'⟩) ?_)
              | refine Exists.intro _ (And.intro (⟨map_full⟩) ?_)
              | refine Exists.intro _ (And.intro (⟨map_snoc⟩) ?_)
              | refine Exists.intro _ (And.intro (⟨List.map_append⟩) ?_)
              | refine Exists.intro _ (And.intro (⟨Eq.refl (α := List D) _⟩) ?_)
              | refine Exists.intro _ (And.intro (⟨Eq.refl (α := Int) _⟩) (And.intro (by omega) ?_))
              | refine Exists.intro (0) (And.intro (⟨rfl⟩) (And.intro (Nat.zero_le _) ?_))
              | refine Exists.intro _ (And.intro (⟨nc1⟩) (And.intro (by omega) ?_))
              | refine Exists.intro _ (Exists.intro _ (And.intro (⟨Eq.refl (α := Int) _⟩) (And.intro (⟨Eq.refl (α := Int) _⟩) (And.intro (by omega) (And.intro (by omega) ?_)))))
              | refine Exists.intro _ (Exists.intro _ (And.intro (⟨Eq.refl (α := Nat) _⟩) (And.intro (⟨Eq.refl (α := Nat) _⟩) ?_)))
              | refine Exists.intro _ (And.intro (⟨Eq.refl (α := Nat) _⟩) ?_)
              | refine Exists.intro _ (And.intro (u32and (by omega) (by omega)) ?_)
              | refine Exists.intro _ (And.intro (u32or (by omega) (by omega)) ?_)
              | refine Exists.intro _ (And.intro (u32xor (by omega) (by omega)) ?_)
              | refine Exists.intro _ (And.intro (u8xor (by omega) (by omega)) ?_)
              | refine Exists.intro _ (And.intro (u64and (by omega) (by omega)) ?_)
              | refine Exists.intro _ (And.intro (u64or (by omega) (by omega)) ?_)
              | refine Exists.intro _ (And.intro (u64xor (by omega) (by omega)) ?_)
              | refine Exists.intro _ (And.intro (w64 (by omega) (by omega)) ?_)
              | refine Exists.intro _ (And.intro (u32add (by omega)) ?_)
              | refine Exists.intro _ (And.intro (u64add (by omega)) ?_)
              | refine Exists.intro _ (And.intro (u8w (by omega)) ?_)
              | refine Exists.intro _ (And.intro (u32w (by omega)) ?_)
              | refine Exists.intro _ (And.intro (u64w (by omega)) ?_)
              | refine Exists.intro _ (And.intro (u8m) ?_)
              | refine Exists.intro _ (And.intro (u64i (by omega) (by omega)) ?_)
              | refine Exists.intro _ (And.intro (min_int) ?_)
              | refine Exists.intro _ (And.intro (max_int) ?_)
              | refine Exists.intro _ (And.intro (imin) ?_)
              | refine Exists.intro _ (And.intro (imax) ?_))
    conv => whnf
    refine Pure.locK (f10_ok [[]] (ok22_one h0)) ?_
    repeat (conv => whnf
            first
              | refine PairK.mk (by kernel_rfl) ?_
              | refine And.intro (by decide) ?_
              | refine And.intro rfl ?_
              | refine And.intro (List.cons_ne_nil _ _) ?_
              | refine And.intro (Nat.le_of_ble_eq_true rfl) ?_
              | refine And.intro (by omega) ?_
              | refine And.intro (by simp only [List.length_map, List.length_append, List.length_cons, List.length_nil]; omega) ?_
              | refine And.intro (by simpa only [List.length_map, List.length_append, List.length_cons, List.length_nil] using rfl) ?_
              | refine And.intro (Eq.symm (List.length_map _)) ?_
              | refine And.intro (all_map (fun _ => rfl)) ?_
              | refine And.intro (cells_map (fun _ => rfl)) ?_
              | refine And.intro (rows_map (fun _ => rfl) (fun _ => rfl)) ?_
              | refine And.intro (okRows_one rfl rfl) ?_
              | refine And.intro (okRows_all rfl) ?_
              | refine boolF_t (beq_self_eq_true _) ?_
              | refine Exists.intro _ (And.intro (map_get (by assumption)) ?_)
              | refine Exists.intro _ (And.intro (Eq.refl (α := Option D) _) ?_)
              | refine Exists.intro _ (And.intro (⟨(List.length_map _).symm⟩) ?_)
              | refine Exists.intro _ (And.intro (⟨len_one⟩) ?_)
              | refine Exists.intro _ (And.intro (⟨len_two⟩) ?_)
              | refine Exists.intro _ (And.intro (⟨len_three⟩) ?_)
              | refine Exists.intro _ (And.intro (⟨len_four⟩) ?_)
              | refine Exists.intro _ (And.intro (⟨lenl_1⟩) ?_)
              | refine Exists.intro _ (And.intro (⟨lenl_2⟩) ?_)
              | refine Exists.intro _ (And.intro (⟨lenl_3⟩) ?_)
              | refine Exists.intro _ (And.intro (⟨lenl_4⟩) ?_)
              | refine Exists.intro _ (And.intro (⟨len_more⟩) ?_)
              | refine Exists.intro _ (And.intro (⟨map_slice⟩) ?_)
              | refine Exists.intro _ (And.intro (⟨List.map_take⟩) ?_)
              | refine Exists.intro _ (And.intro (⟨List.map_drop⟩) ?_)
              | refine Exists.intro _ (And.intro (⟨map_full'⟩) ?_)
              | refine Exists.intro _ (And.intro (⟨map_full⟩) ?_)
              | refine Exists.intro _ (And.intro (⟨map_snoc⟩) ?_)
              | refine Exists.intro _ (And.intro (⟨List.map_append⟩) ?_)
              | refine Exists.intro _ (And.intro (⟨Eq.refl (α := List D) _⟩) ?_)
              | refine Exists.intro _ (And.intro (⟨Eq.refl (α := Int) _⟩) (And.intro (by omega) ?_))
              | refine Exists.intro (0) (And.intro (⟨rfl⟩) (And.intro (Nat.zero_le _) ?_))
              | refine Exists.intro _ (And.intro (⟨nc1⟩) (And.intro (by omega) ?_))
              | refine Exists.intro _ (Exists.intro _ (And.intro (⟨Eq.refl (α := Int) _⟩) (And.intro (⟨Eq.refl (α := Int) _⟩) (And.intro (by omega) (And.intro (by omega) ?_)))))
              | refine Exists.intro _ (Exists.intro _ (And.intro (⟨Eq.refl (α := Nat) _⟩) (And.intro (⟨Eq.refl (α := Nat) _⟩) ?_)))
              | refine Exists.intro _ (And.intro (⟨Eq.refl (α := Nat) _⟩) ?_)
              | refine Exists.intro _ (And.intro (u32and (by omega) (by omega)) ?_)
              | refine Exists.intro _ (And.intro (u32or (by omega) (by omega)) ?_)
              | refine Exists.intro _ (And.intro (u32xor (by omega) (by omega)) ?_)
              | refine Exists.intro _ (And.intro (u8xor (by omega) (by omega)) ?_)
              | refine Exists.intro _ (And.intro (u64and (by omega) (by omega)) ?_)
              | refine Exists.intro _ (And.intro (u64or (by omega) (by omega)) ?_)
              | refine Exists.intro _ (And.intro (u64xor (by omega) (by omega)) ?_)
              | refine Exists.intro _ (And.intro (w64 (by omega) (by omega)) ?_)
              | refine Exists.intro _ (And.intro (u32add (by omega)) ?_)
              | refine Exists.intro _ (And.intro (u64add (by omega)) ?_)
              | refine Exists.intro _ (And.intro (u8w (by omega)) ?_)
              | refine Exists.intro _ (And.intro (u32w (by omega)) ?_)
              | refine Exists.intro _ (And.intro (u64w (by omega)) ?_)
              | refine Exists.intro _ (And.intro (u8m) ?_)
              | refine Exists.intro _ (And.intro (u64i (by omega) (by omega)) ?_)
              | refine Exists.intro _ (And.intro (min_int) ?_)
              | refine Exists.intro _ (And.intro (max_int) ?_)
              | refine Exists.intro _ (And.intro (imin) ?_)
              | refine Exists.intro _ (And.intro (imax) ?_))
    conv => whnf
    refine Pure.locK (f10_ok [List.take 0 []] (ok22_one h0)) ?_
    repeat (conv => whnf
            first
              | refine PairK.mk (by kernel_rfl) ?_
              | refine And.intro (by decide) ?_
              | refine And.intro rfl ?_
              | refine And.intro (List.cons_ne_nil _ _) ?_
              | refine And.intro (Nat.le_of_ble_eq_true rfl) ?_
              | refine And.intro (by omega) ?_
              | refine And.intro (by simp only [List.length_map, List.length_append, List.length_cons, List.length_nil]; omega) ?_
              | refine And.intro (by simpa only [List.length_map, List.length_append, List.length_cons, List.length_nil] using rfl) ?_
              | refine And.intro (Eq.symm (List.length_map _)) ?_
              | refine And.intro (all_map (fun _ => rfl)) ?_
              | refine And.intro (cells_map (fun _ => rfl)) ?_
              | refine And.intro (rows_map (fun _ => rfl) (fun _ => rfl)) ?_
              | refine And.intro (okRows_one rfl rfl) ?_
              | refine And.intro (okRows_all rfl) ?_
              | refine boolF_t (beq_self_eq_true _) ?_
              | refine Exists.intro _ (And.intro (map_get (by assumption)) ?_)
              | refine Exists.intro _ (And.intro (Eq.refl (α := Option D) _) ?_)
              | refine Exists.intro _ (And.intro (⟨(List.length_map _).symm⟩) ?_)
              | refine Exists.intro _ (And.intro (⟨len_one⟩) ?_)
              | refine Exists.intro _ (And.intro (⟨len_two⟩) ?_)
              | refine Exists.intro _ (And.intro (⟨len_three⟩) ?_)
              | refine Exists.intro _ (And.intro (⟨len_four⟩) ?_)
              | refine Exists.intro _ (And.intro (⟨lenl_1⟩) ?_)
              | refine Exists.intro _ (And.intro (⟨lenl_2⟩) ?_)
              | refine Exists.intro _ (And.intro (⟨lenl_3⟩) ?_)
              | refine Exists.intro _ (And.intro (⟨lenl_4⟩) ?_)
              | refine Exists.intro _ (And.intro (⟨len_more⟩) ?_)
              | refine Exists.intro _ (And.intro (⟨map_slice⟩) ?_)
              | refine Exists.intro _ (And.intro (⟨List.map_take⟩) ?_)
              | refine Exists.intro _ (And.intro (⟨List.map_drop⟩) ?_)
              | refine Exists.intro _ (And.intro (⟨map_full'⟩) ?_)
              | refine Exists.intro _ (And.intro (⟨map_full⟩) ?_)
              | refine Exists.intro _ (And.intro (⟨map_snoc⟩) ?_)
              | refine Exists.intro _ (And.intro (⟨List.map_append⟩) ?_)
              | refine Exists.intro _ (And.intro (⟨Eq.refl (α := List D) _⟩) ?_)
              | refine Exists.intro _ (And.intro (⟨Eq.refl (α := Int) _⟩) (And.intro (by omega) ?_))
              | refine Exists.intro (0) (And.intro (⟨rfl⟩) (And.intro (Nat.zero_le _) ?_))
              | refine Exists.intro _ (And.intro (⟨nc1⟩) (And.intro (by omega) ?_))
              | refine Exists.intro _ (Exists.intro _ (And.intro (⟨Eq.refl (α := Int) _⟩) (And.intro (⟨Eq.refl (α := Int) _⟩) (And.intro (by omega) (And.intro (by omega) ?_)))))
              | refine Exists.intro _ (Exists.intro _ (And.intro (⟨Eq.refl (α := Nat) _⟩) (And.intro (⟨Eq.refl (α := Nat) _⟩) ?_)))
              | refine Exists.intro _ (And.intro (⟨Eq.refl (α := Nat) _⟩) ?_)
              | refine Exists.intro _ (And.intro (u32and (by omega) (by omega)) ?_)
              | refine Exists.intro _ (And.intro (u32or (by omega) (by omega)) ?_)
              | refine Exists.intro _ (And.intro (u32xor (by omega) (by omega)) ?_)
              | refine Exists.intro _ (And.intro (u8xor (by omega) (by omega)) ?_)
              | refine Exists.intro _ (And.intro (u64and (by omega) (by omega)) ?_)
              | refine Exists.intro _ (And.intro (u64or (by omega) (by omega)) ?_)
              | refine Exists.intro _ (And.intro (u64xor (by omega) (by omega)) ?_)
              | refine Exists.intro _ (And.intro (w64 (by omega) (by omega)) ?_)
              | refine Exists.intro _ (And.intro (u32add (by omega)) ?_)
              | refine Exists.intro _ (And.intro (u64add (by omega)) ?_)
              | refine Exists.intro _ (And.intro (u8w (by omega)) ?_)
              | refine Exists.intro _ (And.intro (u32w (by omega)) ?_)
              | refine Exists.intro _ (And.intro (u64w (by omega)) ?_)
              | refine Exists.intro _ (And.intro (u8m) ?_)
              | refine Exists.intro _ (And.intro (u64i (by omega) (by omega)) ?_)
              | refine Exists.intro _ (And.intro (min_int) ?_)
              | refine Exists.intro _ (And.intro (max_int) ?_)
              | refine Exists.intro _ (And.intro (imin) ?_)
              | refine Exists.intro _ (And.intro (imax) ?_))
    conv => whnf
    refine Pure.locK (f12_ok _ _ (ofS_lt _) (ok24_drop h0 0)) ?_
    rw [cut_more]
    repeat (conv => whnf
            first
              | refine PairK.mk (by kernel_rfl) ?_
              | refine And.intro (by decide) ?_
              | refine And.intro rfl ?_
              | refine And.intro (List.cons_ne_nil _ _) ?_
              | refine And.intro (Nat.le_of_ble_eq_true rfl) ?_
              | refine And.intro (by omega) ?_
              | refine And.intro (by simp only [List.length_map, List.length_append, List.length_cons, List.length_nil]; omega) ?_
              | refine And.intro (by simpa only [List.length_map, List.length_append, List.length_cons, List.length_nil] using rfl) ?_
              | refine And.intro (Eq.symm (List.length_map _)) ?_
              | refine And.intro (all_map (fun _ => rfl)) ?_
              | refine And.intro (cells_map (fun _ => rfl)) ?_
              | refine And.intro (rows_map (fun _ => rfl) (fun _ => rfl)) ?_
              | refine And.intro (okRows_one rfl rfl) ?_
              | refine And.intro (okRows_all rfl) ?_
              | refine boolF_t (beq_self_eq_true _) ?_
              | refine Exists.intro _ (And.intro (map_get (by assumption)) ?_)
              | refine Exists.intro _ (And.intro (Eq.refl (α := Option D) _) ?_)
              | refine Exists.intro _ (And.intro (⟨(List.length_map _).symm⟩) ?_)
              | refine Exists.intro _ (And.intro (⟨len_one⟩) ?_)
              | refine Exists.intro _ (And.intro (⟨len_two⟩) ?_)
              | refine Exists.intro _ (And.intro (⟨len_three⟩) ?_)
              | refine Exists.intro _ (And.intro (⟨len_four⟩) ?_)
              | refine Exists.intro _ (And.intro (⟨lenl_1⟩) ?_)
              | refine Exists.intro _ (And.intro (⟨lenl_2⟩) ?_)
              | refine Exists.intro _ (And.intro (⟨lenl_3⟩) ?_)
              | refine Exists.intro _ (And.intro (⟨lenl_4⟩) ?_)
              | refine Exists.intro _ (And.intro (⟨len_more⟩) ?_)
              | refine Exists.intro _ (And.intro (⟨map_slice⟩) ?_)
              | refine Exists.intro _ (And.intro (⟨List.map_take⟩) ?_)
              | refine Exists.intro _ (And.intro (⟨List.map_drop⟩) ?_)
              | refine Exists.intro _ (And.intro (⟨map_full'⟩) ?_)
              | refine Exists.intro _ (And.intro (⟨map_full⟩) ?_)
              | refine Exists.intro _ (And.intro (⟨map_snoc⟩) ?_)
              | refine Exists.intro _ (And.intro (⟨List.map_append⟩) ?_)
              | refine Exists.intro _ (And.intro (⟨Eq.refl (α := List D) _⟩) ?_)
              | refine Exists.intro _ (And.intro (⟨Eq.refl (α := Int) _⟩) (And.intro (by omega) ?_))
              | refine Exists.intro (0) (And.intro (⟨rfl⟩) (And.intro (Nat.zero_le _) ?_))
              | refine Exists.intro _ (And.intro (⟨nc1⟩) (And.intro (by omega) ?_))
              | refine Exists.intro _ (Exists.intro _ (And.intro (⟨Eq.refl (α := Int) _⟩) (And.intro (⟨Eq.refl (α := Int) _⟩) (And.intro (by omega) (And.intro (by omega) ?_)))))
              | refine Exists.intro _ (Exists.intro _ (And.intro (⟨Eq.refl (α := Nat) _⟩) (And.intro (⟨Eq.refl (α := Nat) _⟩) ?_)))
              | refine Exists.intro _ (And.intro (⟨Eq.refl (α := Nat) _⟩) ?_)
              | refine Exists.intro _ (And.intro (u32and (by omega) (by omega)) ?_)
              | refine Exists.intro _ (And.intro (u32or (by omega) (by omega)) ?_)
              | refine Exists.intro _ (And.intro (u32xor (by omega) (by omega)) ?_)
              | refine Exists.intro _ (And.intro (u8xor (by omega) (by omega)) ?_)
              | refine Exists.intro _ (And.intro (u64and (by omega) (by omega)) ?_)
              | refine Exists.intro _ (And.intro (u64or (by omega) (by omega)) ?_)
              | refine Exists.intro _ (And.intro (u64xor (by omega) (by omega)) ?_)
              | refine Exists.intro _ (And.intro (w64 (by omega) (by omega)) ?_)
              | refine Exists.intro _ (And.intro (u32add (by omega)) ?_)
              | refine Exists.intro _ (And.intro (u64add (by omega)) ?_)
              | refine Exists.intro _ (And.intro (u8w (by omega)) ?_)
              | refine Exists.intro _ (And.intro (u32w (by omega)) ?_)
              | refine Exists.intro _ (And.intro (u64w (by omega)) ?_)
              | refine Exists.intro _ (And.intro (u8m) ?_)
              | refine Exists.intro _ (And.intro (u64i (by omega) (by omega)) ?_)
              | refine Exists.intro _ (And.intro (min_int) ?_)
              | refine Exists.intro _ (And.intro (max_int) ?_)
              | refine Exists.intro _ (And.intro (imin) ?_)
              | refine Exists.intro _ (And.intro (imax) ?_))
    conv => whnf
    refine Pure.locK f14_ok ?_
    repeat (conv => whnf
            first
              | refine PairK.mk (by kernel_rfl) ?_
              | refine And.intro (by decide) ?_
              | refine And.intro rfl ?_
              | refine And.intro (List.cons_ne_nil _ _) ?_
              | refine And.intro (Nat.le_of_ble_eq_true rfl) ?_
              | refine And.intro (by omega) ?_
              | refine And.intro (by simp only [List.length_map, List.length_append, List.length_cons, List.length_nil]; omega) ?_
              | refine And.intro (by simpa only [List.length_map, List.length_append, List.length_cons, List.length_nil] using rfl) ?_
              | refine And.intro (Eq.symm (List.length_map _)) ?_
              | refine And.intro (all_map (fun _ => rfl)) ?_
              | refine And.intro (cells_map (fun _ => rfl)) ?_
              | refine And.intro (rows_map (fun _ => rfl) (fun _ => rfl)) ?_
              | refine And.intro (okRows_one rfl rfl) ?_
              | refine And.intro (okRows_all rfl) ?_
              | refine boolF_t (beq_self_eq_true _) ?_
              | refine Exists.intro _ (And.intro (map_get (by assumption)) ?_)
              | refine Exists.intro _ (And.intro (Eq.refl (α := Option D) _) ?_)
              | refine Exists.intro _ (And.intro (⟨(List.length_map _).symm⟩) ?_)
              | refine Exists.intro _ (And.intro (⟨len_one⟩) ?_)
              | refine Exists.intro _ (And.intro (⟨len_two⟩) ?_)
              | refine Exists.intro _ (And.intro (⟨len_three⟩) ?_)
              | refine Exists.intro _ (And.intro (⟨len_four⟩) ?_)
              | refine Exists.intro _ (And.intro (⟨lenl_1⟩) ?_)
              | refine Exists.intro _ (And.intro (⟨lenl_2⟩) ?_)
              | refine Exists.intro _ (And.intro (⟨lenl_3⟩) ?_)
              | refine Exists.intro _ (And.intro (⟨lenl_4⟩) ?_)
              | refine Exists.intro _ (And.intro (⟨len_more⟩) ?_)
              | refine Exists.intro _ (And.intro (⟨map_slice⟩) ?_)
              | refine Exists.intro _ (And.intro (⟨List.map_take⟩) ?_)
              | refine Exists.intro _ (And.intro (⟨List.map_drop⟩) ?_)
              | refine Exists.intro _ (And.intro (⟨map_full'⟩) ?_)
              | refine Exists.intro _ (And.intro (⟨map_full⟩) ?_)
              | refine Exists.intro _ (And.intro (⟨map_snoc⟩) ?_)
              | refine Exists.intro _ (And.intro (⟨List.map_append⟩) ?_)
              | refine Exists.intro _ (And.intro (⟨Eq.refl (α := List D) _⟩) ?_)
              | refine Exists.intro _ (And.intro (⟨Eq.refl (α := Int) _⟩) (And.intro (by omega) ?_))
              | refine Exists.intro (0) (And.intro (⟨rfl⟩) (And.intro (Nat.zero_le _) ?_))
              | refine Exists.intro _ (And.intro (⟨nc1⟩) (And.intro (by omega) ?_))
              | refine Exists.intro _ (Exists.intro _ (And.intro (⟨Eq.refl (α := Int) _⟩) (And.intro (⟨Eq.refl (α := Int) _⟩) (And.intro (by omega) (And.intro (by omega) ?_)))))
              | refine Exists.intro _ (Exists.intro _ (And.intro (⟨Eq.refl (α := Nat) _⟩) (And.intro (⟨Eq.refl (α := Nat) _⟩) ?_)))
              | refine Exists.intro _ (And.intro (⟨Eq.refl (α := Nat) _⟩) ?_)
              | refine Exists.intro _ (And.intro (u32and (by omega) (by omega)) ?_)
              | refine Exists.intro _ (And.intro (u32or (by omega) (by omega)) ?_)
              | refine Exists.intro _ (And.intro (u32xor (by omega) (by omega)) ?_)
              | refine Exists.intro _ (And.intro (u8xor (by omega) (by omega)) ?_)
              | refine Exists.intro _ (And.intro (u64and (by omega) (by omega)) ?_)
              | refine Exists.intro _ (And.intro (u64or (by omega) (by omega)) ?_)
              | refine Exists.intro _ (And.intro (u64xor (by omega) (by omega)) ?_)
              | refine Exists.intro _ (And.intro (w64 (by omega) (by omega)) ?_)
              | refine Exists.intro _ (And.intro (u32add (by omega)) ?_)
              | refine Exists.intro _ (And.intro (u64add (by omega)) ?_)
              | refine Exists.intro _ (And.intro (u8w (by omega)) ?_)
              | refine Exists.intro _ (And.intro (u32w (by omega)) ?_)
              | refine Exists.intro _ (And.intro (u64w (by omega)) ?_)
              | refine Exists.intro _ (And.intro (u8m) ?_)
              | refine Exists.intro _ (And.intro (u64i (by omega) (by omega)) ?_)
              | refine Exists.intro _ (And.intro (min_int) ?_)
              | refine Exists.intro _ (And.intro (max_int) ?_)
              | refine Exists.intro _ (And.intro (imin) ?_)
              | refine Exists.intro _ (And.intro (imax) ?_))
    conv => whnf
    exact ⟨rfl⟩

end Go.Proofs.Ythlngafnlnincaa

