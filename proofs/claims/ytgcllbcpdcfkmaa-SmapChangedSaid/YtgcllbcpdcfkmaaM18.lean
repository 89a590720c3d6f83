import Derived.Test.YtgcllbcpdcfkmaaM17
namespace Go.Proofs.Ytgcllbcpdcfkmaa
open Go.A
set_option linter.unusedVariables false
set_option linter.unusedSimpArgs false
set_option linter.unnecessarySimpa false
attribute [local irreducible] IntKind.wrap bitsI
set_option maxRecDepth 100000
set_option maxHeartbeats 8000000

theorem chain_at {l : List T58} {i : Nat} {x : T58} {n : Int} (he : endsAt 0 l = some n) (hx : l[i]? = some x) :
    endsAt 0 (l.take i) = some x.from_ ∧ x.from_ < x.to_ ∧ endsAt 0 (l.take (i + 1)) = some x.to_ ∧ x.to_ ≤ n ∧ 0 ≤ x.from_ := by
  have hl := split_list hx
  rw [hl, List.append_assoc, endsAt_append] at he
  cases h1 : endsAt 0 (l.take i) with
  | none => rw [h1] at he; cases he
  | some c =>
    rw [h1, Option.bind_some] at he
    have he : endsAt c (x :: l.drop (i + 1)) = some n := he
    rw [endsAt] at he
    split at he
    · rename_i hc
      have e1 := endsAt_le he
      have e2 := endsAt_le h1
      refine ⟨by rw [hc.1], by omega, ?_, e1, by omega⟩
      rw [take_snoc hx, endsAt_append, h1, Option.bind_some, endsAt, if_pos hc, endsAt]
    · cases he

def InvC (a b : T24) (i k p : Nat) : Prop := i ≤ a.pieces_.length ∧ k ≤ b.pieces_.length ∧ ∃ pa pb : Int, endsAt 0 (a.pieces_.take i) = some pa ∧ endsAt 0 (b.pieces_.take k) = some pb ∧ max pa pb = (p : Int) ∧
  (∀ x, a.pieces_[i]? = some x → (p : Int) < x.to_) ∧ (∀ y, b.pieces_[k]? = some y → (p : Int) < y.to_)


theorem f19_ok (a b : T24) (ha : ok25 a) (hb : ok25 b) : Pure Try.prog 19 [d25 a, d25 b] (.tup [d23 (chgM a b).1, d3 (chgM a b).2]) := by
  refine Pure.ofT ⟨sc25 _ _, sc25 _ _, trivial⟩ ⟨sc23 _ _, trivial, trivial⟩ ?_
  refine CallsIn.of_exec tab_ok mixed Try.func19 rfl rfl [] [] ?_
  by_cases hr : rightP a ∧ rightP b ∧ a.n_ = b.n_
  · obtain ⟨ra, rb, hn⟩ := hr
    have hn1 := ra.2.2.1
    have hn2 := ra.2.2.2.1
    have ea := ra.2.2.2.2.2
    have eb := rb.2.2.2.2.2
    have la := ra.2.2.2.2.1
    have lb := rb.2.2.2.2.1
    repeat' ((conv => whnf); first
      | refine PairK.mk (by kernel_rfl) ?_ | refine Exists.intro _ (And.intro (map_at (by omega) hl) ?_) | refine Exists.intro _ (And.intro (map_at (by omega) hx) ?_) | refine Exists.intro _ (And.intro (map_at (by omega) hy) ?_) | refine Exists.intro ((p : Int)) (And.intro (hpmax) ?_) | refine Exists.intro ((q : Int)) (And.intro (hqmin) ?_) | refine And.intro (by decide) ?_ | refine And.intro rfl ?_ | refine And.intro (List.cons_ne_nil _ _) ?_ | refine And.intro (Nat.le_of_ble_eq_true rfl) ?_ | refine And.intro (by omega) ?_
      | refine And.intro (by simp only [List.length_map, List.length_append, List.length_cons, List.length_nil]; omega) ?_ | refine And.intro (by simpa only [List.length_map, List.length_append, List.length_cons, List.length_nil] using rfl) ?_ | refine And.intro (Eq.symm (List.length_map _)) ?_ | refine And.intro (all_map (fun _ => rfl)) ?_ | refine And.intro (cells_map (fun _ => rfl)) ?_ | refine And.intro (rows_map (fun _ => rfl) (fun _ => rfl)) ?_ | refine And.intro (okRows_one rfl rfl) ?_ | refine And.intro (okRows_all rfl) ?_ | refine boolF_t (beq_self_eq_true _) ?_
      | refine Exists.intro _ (And.intro (map_get (by assumption)) ?_) | refine Exists.intro _ (And.intro (Eq.refl (α := Option D) _) ?_) | refine Exists.intro _ (And.intro (⟨(List.length_map _).symm⟩) ?_) | refine Exists.intro _ (And.intro (⟨len_one⟩) ?_) | refine Exists.intro _ (And.intro (⟨len_two⟩) ?_) | refine Exists.intro _ (And.intro (⟨len_three⟩) ?_) | refine Exists.intro _ (And.intro (⟨len_four⟩) ?_) | refine Exists.intro _ (And.intro (⟨lenl_1⟩) ?_) | refine Exists.intro _ (And.intro (⟨lenl_2⟩) ?_) | refine Exists.intro _ (And.intro (⟨lenl_3⟩) ?_)
      | refine Exists.intro _ (And.intro (⟨lenl_4⟩) ?_) | refine Exists.intro _ (And.intro (⟨len_more⟩) ?_) | refine Exists.intro _ (And.intro (⟨map_slice⟩) ?_) | refine Exists.intro _ (And.intro (⟨List.map_take⟩) ?_) | refine Exists.intro _ (And.intro (⟨List.map_drop⟩) ?_) | refine Exists.intro _ (And.intro (⟨map_full'⟩) ?_) | refine Exists.intro _ (And.intro (⟨map_full⟩) ?_) | refine Exists.intro _ (And.intro (⟨map_snoc⟩) ?_) | refine Exists.intro _ (And.intro (⟨List.map_append⟩) ?_) | refine Exists.intro _ (And.intro (⟨Eq.refl (α := List D) _⟩) ?_)
      | refine Exists.intro _ (And.intro (⟨Eq.refl (α := Int) _⟩) (And.intro (by omega) ?_)) | refine Exists.intro (0) (And.intro (⟨rfl⟩) (And.intro (Nat.zero_le _) ?_)) | refine Exists.intro _ (And.intro (⟨nc1⟩) (And.intro (by omega) ?_)) | refine Exists.intro _ (Exists.intro _ (And.intro (⟨Eq.refl (α := Int) _⟩) (And.intro (⟨Eq.refl (α := Int) _⟩) (And.intro (by omega) (And.intro (by omega) ?_))))) | refine Exists.intro _ (Exists.intro _ (And.intro (⟨Eq.refl (α := Nat) _⟩) (And.intro (⟨Eq.refl (α := Nat) _⟩) ?_))) | refine Exists.intro _ (And.intro (⟨Eq.refl (α := Nat) _⟩) ?_)
      | refine Exists.intro _ (And.intro (w64 (by omega) (by omega)) ?_) | refine Exists.intro _ (And.intro (imin) ?_) | refine Exists.intro _ (And.intro (imax) ?_) | refine Pure.call (f14_ok _ ha) ?_ | refine Pure.locK (f14_ok _ ha) ?_ | refine Pure.call (f14_ok _ hb) ?_ | refine Pure.locK (f14_ok _ hb) ?_ | refine boolF_not ?_ | refine boolF_dect rfl ?_ | refine boolF_dect (by assumption) ?_ | refine boolF_decf (by assumption) ?_ | refine boolF_dect (by omega) ?_ | refine boolF_decf (by omega) ?_ | refine boolF_beqt (by omega) ?_ | refine boolF_beqf (by omega) ?_ | refine boolF_bnet (by omega) ?_
      | refine boolF_bnef (by omega) ?_ | refine boolF_t (by assumption) ?_ | refine boolF_f (by assumption) ?_ | refine boolF_dec (fun _ => ?_) (fun _ => ?_) | refine boolF_beq (fun _ => ?_) (fun _ => ?_) | refine boolF_bne (fun _ => ?_) (fun _ => ?_) | refine boolF_leq (fun _ => ?_) (fun _ => ?_) | refine Both.mk ?_ ?_)
    all_goals (conv => whnf)
    refine W_loopG (ι := Nat × Nat × Nat × Nat) (fun i => ⟨(D.undef :: D.undef :: .pe (c25 a) :: .pe (c25 b) :: D.undef :: D.undef :: .h 0 i.2.2.2 0 (chg a b i.2.2.1).length :: .int .i64 (i.1:Int) :: .int .i64 (i.2.1:Int) :: D.undef :: D.undef :: D.undef :: D.undef :: D.undef :: D.undef :: D.undef :: D.undef :: D.undef :: D.undef :: D.undef :: D.undef :: D.undef :: D.undef :: D.undef :: D.undef :: D.undef :: D.undef :: D.undef :: D.undef :: D.undef :: D.undef :: D.undef :: D.undef :: D.undef :: D.undef :: D.undef :: D.undef :: D.undef :: D.undef :: D.undef :: D.undef :: D.undef :: D.undef :: D.undef :: D.undef :: D.undef :: D.undef :: D.undef :: D.undef :: D.undef :: D.undef :: D.undef :: D.undef :: D.undef :: D.undef :: D.undef :: D.undef :: D.undef :: D.undef :: D.undef :: D.undef :: D.undef :: D.undef :: D.undef :: D.undef :: D.undef :: D.undef :: D.undef :: D.undef :: D.undef :: D.undef :: D.undef :: D.undef :: D.undef :: D.undef :: D.undef :: D.undef :: D.undef :: D.undef :: D.undef :: D.undef :: D.undef :: D.undef :: D.undef :: D.undef :: D.undef :: D.undef :: D.undef :: D.undef :: D.undef :: D.undef :: D.undef :: D.undef :: D.undef :: D.undef :: D.undef :: D.undef :: D.undef :: D.undef :: D.undef :: D.undef :: D.undef :: D.undef :: D.undef :: D.undef :: D.undef :: D.undef :: D.undef :: D.undef :: D.undef :: D.undef :: D.undef :: D.undef :: D.undef :: D.undef :: D.undef :: D.undef :: D.undef :: D.undef :: D.undef :: D.undef :: D.undef :: D.undef :: D.undef :: D.undef :: D.undef :: D.undef :: []), [.arr i.2.2.2 3 ((chg a b i.2.2.1).map r59)]⟩) (fun i => (a.pieces_.length - i.1) + (b.pieces_.length - i.2.1))
      (fun i => InvC a b i.1 i.2.1 i.2.2.1) (0, 0, 0, 0) ((Ghost.hold [2, 3, 6, 7, 8] rfl).trans (Ghost.mat (t := 6) (sz := 3) rfl)) ?_ ?_
    · refine ⟨Nat.zero_le _, Nat.zero_le _, 0, 0, rfl, rfl, rfl, fun x hx => ?_, fun y hy => ?_⟩
      · have := chain_at ea hx
        show ((0 : Nat) : Int) < x.to_
        omega
      · have := chain_at eb hy
        show ((0 : Nat) : Int) < y.to_
        omega
    rintro ⟨i, k, p, ver⟩ hI
    dsimp only at hI ⊢
    refine exec_ok tab_ok mixed 1000 (bx := [false]) (own := []) ?_
    obtain ⟨i1, i2, pa, pb, i3, i4, i5, i6, i7⟩ := hI
    have hpn : (p : Int) ≤ a.n_ := by
      have q1 : pa ≤ a.n_ := by
        have h := ea
        rw [← List.take_append_drop i a.pieces_, endsAt_append, i3, Option.bind_some] at h
        exact endsAt_le h
      have q2 : pb ≤ b.n_ := by
        have h := eb
        rw [← List.take_append_drop k b.pieces_, endsAt_append, i4, Option.bind_some] at h
        exact endsAt_le h
      omega
    by_cases hend : i < a.pieces_.length ∧ k < b.pieces_.length
    · obtain ⟨h1, h2⟩ := hend
      obtain ⟨x, hx⟩ := at_lt h1
      obtain ⟨y, hy⟩ := at_lt h2
      obtain ⟨x1, x2, x3, x4, x5⟩ := chain_at ea hx
      obtain ⟨y1, y2, y3, y4, y5⟩ := chain_at eb hy
      have j6 := i6 x hx
      have j7 := i7 y hy
      have hpa : pa = x.from_ := by rw [x1] at i3; exact (Option.some.inj i3).symm
      have hpb : pb = y.from_ := by rw [y1] at i4; exact (Option.some.inj i4).symm
      have hpmax : (p : Int) = if y.from_ > x.from_ then y.from_ else x.from_ := by split <;> omega
      obtain ⟨q, hq⟩ : ∃ q : Nat, (q : Int) = min x.to_ y.to_ := ⟨(min x.to_ y.to_).toNat, by omega⟩
      have hqmin : (q : Int) = if y.to_ < x.to_ then y.to_ else x.to_ := by split <;> omega
      obtain ⟨d, hd⟩ : ∃ d, q = p + (d + 1) := ⟨q - p - 1, by omega⟩
      have hc := chg_seg (a := a) (b := b) (p := p) (u := x.node_) (v := y.node_) (k := d) fun j g1 g2 => ⟨nodeL_at (n := a.n_) x1 hx (by omega) (by omega) (by omega), nodeL_at (n := b.n_) y1 hy (by omega) (by omega) (by omega)⟩
      rw [← hd] at hc
      have hinv : ∀ i' k' : Nat, (i' = i + 1 ∧ x.to_ = (q : Int) ∨ i' = i ∧ x.to_ ≠ (q : Int)) → (k' = k + 1 ∧ y.to_ = (q : Int) ∨ k' = k ∧ y.to_ ≠ (q : Int)) → InvC a b i' k' q ∧ (a.pieces_.length - i') + (b.pieces_.length - k') < (a.pieces_.length - i) + (b.pieces_.length - k) := fun i' k' hi hk => by
        have hA : ∃ pa' : Int, endsAt 0 (a.pieces_.take i') = some pa' ∧ pa' ≤ (q : Int) ∧ (x.to_ = (q : Int) → pa' = (q : Int)) ∧ ∀ z, a.pieces_[i']? = some z → (q : Int) < z.to_ := by
          rcases hi with ⟨rfl, h⟩ | ⟨rfl, h⟩
          · refine ⟨x.to_, x3, by omega, fun _ => h, fun z hz => ?_⟩
            have g := chain_at ea hz
            rw [x3] at g
            have := Option.some.inj g.1
            omega
          · refine ⟨x.from_, x1, by omega, fun h' => absurd h' h, fun z hz => ?_⟩
            rw [hx] at hz; obtain rfl := Option.some.inj hz; omega
        have hB : ∃ pb' : Int, endsAt 0 (b.pieces_.take k') = some pb' ∧ pb' ≤ (q : Int) ∧ (y.to_ = (q : Int) → pb' = (q : Int)) ∧ ∀ z, b.pieces_[k']? = some z → (q : Int) < z.to_ := by
          rcases hk with ⟨rfl, h⟩ | ⟨rfl, h⟩
          · refine ⟨y.to_, y3, by omega, fun _ => h, fun z hz => ?_⟩
            have g := chain_at eb hz
            rw [y3] at g
            have := Option.some.inj g.1
            omega
          · refine ⟨y.from_, y1, by omega, fun h' => absurd h' h, fun z hz => ?_⟩
            rw [hy] at hz; obtain rfl := Option.some.inj hz; omega
        obtain ⟨pa', a1, a2, a3, a4⟩ := hA
        obtain ⟨pb', b1, b2, b3, b4⟩ := hB
        refine ⟨⟨by omega, by omega, pa', pb', a1, b1, ?_, a4, b4⟩, by omega⟩
        rcases Int.le_total x.to_ y.to_ with g | g
        · have := a3 (by omega); omega
        · have := b3 (by omega); omega
      have hlen3 := (chg_last a b p).2.2
      have hI2 : x.node_ ≠ y.node_ → chg a b q = addS (chg a b p) (p : Int) (q : Int) y.node_ := fun h => by rw [hc, if_pos h]
      by_cases huv : x.node_ = y.node_
      · rw [if_neg (by simpa using huv)] at hc
        repeat' ((conv => whnf); first
          | refine PairK.mk (by kernel_rfl) ?_ | refine Exists.intro _ (And.intro (map_at (by omega) hl) ?_) | refine Exists.intro _ (And.intro (map_at (by omega) hx) ?_) | refine Exists.intro _ (And.intro (map_at (by omega) hy) ?_) | refine Exists.intro ((p : Int)) (And.intro (hpmax) ?_) | refine Exists.intro ((q : Int)) (And.intro (hqmin) ?_) | refine And.intro (by decide) ?_ | refine And.intro rfl ?_ | refine And.intro (List.cons_ne_nil _ _) ?_ | refine And.intro (Nat.le_of_ble_eq_true rfl) ?_ | refine And.intro (by omega) ?_
          | refine And.intro (by simp only [List.length_map, List.length_append, List.length_cons, List.length_nil]; omega) ?_ | refine And.intro (by simpa only [List.length_map, List.length_append, List.length_cons, List.length_nil] using rfl) ?_ | refine And.intro (Eq.symm (List.length_map _)) ?_ | refine And.intro (all_map (fun _ => rfl)) ?_ | refine And.intro (cells_map (fun _ => rfl)) ?_ | refine And.intro (rows_map (fun _ => rfl) (fun _ => rfl)) ?_ | refine And.intro (okRows_one rfl rfl) ?_ | refine And.intro (okRows_all rfl) ?_ | refine boolF_t (beq_self_eq_true _) ?_
          | refine Exists.intro _ (And.intro (map_get (by assumption)) ?_) | refine Exists.intro _ (And.intro (Eq.refl (α := Option D) _) ?_) | refine Exists.intro _ (And.intro (⟨(List.length_map _).symm⟩) ?_) | refine Exists.intro _ (And.intro (⟨len_one⟩) ?_) | refine Exists.intro _ (And.intro (⟨len_two⟩) ?_) | refine Exists.intro _ (And.intro (⟨len_three⟩) ?_) | refine Exists.intro _ (And.intro (⟨len_four⟩) ?_) | refine Exists.intro _ (And.intro (⟨lenl_1⟩) ?_) | refine Exists.intro _ (And.intro (⟨lenl_2⟩) ?_) | refine Exists.intro _ (And.intro (⟨lenl_3⟩) ?_)
          | refine Exists.intro _ (And.intro (⟨lenl_4⟩) ?_) | refine Exists.intro _ (And.intro (⟨len_more⟩) ?_) | refine Exists.intro _ (And.intro (⟨map_slice⟩) ?_) | refine Exists.intro _ (And.intro (⟨List.map_take⟩) ?_) | refine Exists.intro _ (And.intro (⟨List.map_drop⟩) ?_) | refine Exists.intro _ (And.intro (⟨map_full'⟩) ?_) | refine Exists.intro _ (And.intro (⟨map_full⟩) ?_) | refine Exists.intro _ (And.intro (⟨map_snoc⟩) ?_) | refine Exists.intro _ (And.intro (⟨List.map_append⟩) ?_) | refine Exists.intro _ (And.intro (⟨Eq.refl (α := List D) _⟩) ?_)
          | refine Exists.intro _ (And.intro (⟨Eq.refl (α := Int) _⟩) (And.intro (by omega) ?_)) | refine Exists.intro (0) (And.intro (⟨rfl⟩) (And.intro (Nat.zero_le _) ?_)) | refine Exists.intro _ (And.intro (⟨nc1⟩) (And.intro (by omega) ?_)) | refine Exists.intro _ (Exists.intro _ (And.intro (⟨Eq.refl (α := Int) _⟩) (And.intro (⟨Eq.refl (α := Int) _⟩) (And.intro (by omega) (And.intro (by omega) ?_))))) | refine Exists.intro _ (Exists.intro _ (And.intro (⟨Eq.refl (α := Nat) _⟩) (And.intro (⟨Eq.refl (α := Nat) _⟩) ?_))) | refine Exists.intro _ (And.intro (⟨Eq.refl (α := Nat) _⟩) ?_)
          | refine Exists.intro _ (And.intro (w64 (by omega) (by omega)) ?_) | refine Exists.intro _ (And.intro (imin) ?_) | refine Exists.intro _ (And.intro (imax) ?_) | refine Pure.call (f14_ok _ ha) ?_ | refine Pure.locK (f14_ok _ ha) ?_ | refine Pure.call (f14_ok _ hb) ?_ | refine Pure.locK (f14_ok _ hb) ?_ | refine boolF_not ?_ | refine boolF_dect rfl ?_ | refine boolF_dect (by assumption) ?_ | refine boolF_decf (by assumption) ?_ | refine boolF_dect (by omega) ?_ | refine boolF_decf (by omega) ?_ | refine boolF_beqt (by omega) ?_ | refine boolF_beqf (by omega) ?_ | refine boolF_bnet (by omega) ?_
          | refine boolF_bnef (by omega) ?_ | refine boolF_t (by assumption) ?_ | refine boolF_f (by assumption) ?_ | refine boolF_dec (fun _ => ?_) (fun _ => ?_) | refine boolF_beq (fun _ => ?_) (fun _ => ?_) | refine boolF_bne (fun _ => ?_) (fun _ => ?_) | refine boolF_leq (fun _ => ?_) (fun _ => ?_) | refine Both.mk ?_ ?_)
        all_goals (conv => whnf)
        all_goals first
          | exact ⟨(i + 1, k + 1, q, ver), Ghost.back [2, 3, 6, 7, 8] 1 (by dsimp only; rw [hc]; rfl) (by dsimp only; rw [hc]; rfl) (Nat.zero_le _) (by simp [scs, D.sc, c25, d3, sc23]) (by simp [AObj.sc, scr59]), (hinv (i + 1) (k + 1) (by omega) (by omega)).1, (hinv (i + 1) (k + 1) (by omega) (by omega)).2⟩
          | exact ⟨(i + 1, k, q, ver), Ghost.back [2, 3, 6, 7, 8] 1 (by dsimp only; rw [hc]; rfl) (by dsimp only; rw [hc]; rfl) (Nat.zero_le _) (by simp [scs, D.sc, c25, d3, sc23]) (by simp [AObj.sc, scr59]), (hinv (i + 1) (k) (by omega) (by omega)).1, (hinv (i + 1) (k) (by omega) (by omega)).2⟩
          | exact ⟨(i, k + 1, q, ver), Ghost.back [2, 3, 6, 7, 8] 1 (by dsimp only; rw [hc]; rfl) (by dsimp only; rw [hc]; rfl) (Nat.zero_le _) (by simp [scs, D.sc, c25, d3, sc23]) (by simp [AObj.sc, scr59]), (hinv (i) (k + 1) (by omega) (by omega)).1, (hinv (i) (k + 1) (by omega) (by omega)).2⟩
      · rw [if_pos huv] at hc
        have happ : (∀ l, (chg a b p)[(chg a b p).length - 1]? = some l → ¬ (l.to_ = (p : Int) ∧ l.node_ = y.node_)) → chg a b q = chg a b p ++ [⟨(p : Int), (q : Int), y.node_⟩] := fun hh => by
          rw [hc]
          unfold addS
          split
          · rename_i l hl
            rw [if_neg (hh l hl)]
          · rfl
        rcases Nat.eq_zero_or_pos (chg a b p).length with hz | hz
        · have happ := happ fun l hl => by have := (List.getElem?_eq_some_iff.mp hl).1; omega
          repeat' ((conv => whnf); first
            | refine PairK.mk (by kernel_rfl) ?_ | refine Exists.intro _ (And.intro (map_at (by omega) hl) ?_) | refine Exists.intro _ (And.intro (map_at (by omega) hx) ?_) | refine Exists.intro _ (And.intro (map_at (by omega) hy) ?_) | refine Exists.intro ((p : Int)) (And.intro (hpmax) ?_) | refine Exists.intro ((q : Int)) (And.intro (hqmin) ?_) | refine And.intro (by decide) ?_ | refine And.intro rfl ?_ | refine And.intro (List.cons_ne_nil _ _) ?_ | refine And.intro (Nat.le_of_ble_eq_true rfl) ?_ | refine And.intro (by omega) ?_
            | refine And.intro (by simp only [List.length_map, List.length_append, List.length_cons, List.length_nil]; omega) ?_ | refine And.intro (by simpa only [List.length_map, List.length_append, List.length_cons, List.length_nil] using rfl) ?_ | refine And.intro (Eq.symm (List.length_map _)) ?_ | refine And.intro (all_map (fun _ => rfl)) ?_ | refine And.intro (cells_map (fun _ => rfl)) ?_ | refine And.intro (rows_map (fun _ => rfl) (fun _ => rfl)) ?_ | refine And.intro (okRows_one rfl rfl) ?_ | refine And.intro (okRows_all rfl) ?_ | refine boolF_t (beq_self_eq_true _) ?_
            | refine Exists.intro _ (And.intro (map_get (by assumption)) ?_) | refine Exists.intro _ (And.intro (Eq.refl (α := Option D) _) ?_) | refine Exists.intro _ (And.intro (⟨(List.length_map _).symm⟩) ?_) | refine Exists.intro _ (And.intro (⟨len_one⟩) ?_) | refine Exists.intro _ (And.intro (⟨len_two⟩) ?_) | refine Exists.intro _ (And.intro (⟨len_three⟩) ?_) | refine Exists.intro _ (And.intro (⟨len_four⟩) ?_) | refine Exists.intro _ (And.intro (⟨lenl_1⟩) ?_) | refine Exists.intro _ (And.intro (⟨lenl_2⟩) ?_) | refine Exists.intro _ (And.intro (⟨lenl_3⟩) ?_)
            | refine Exists.intro _ (And.intro (⟨lenl_4⟩) ?_) | refine Exists.intro _ (And.intro (⟨len_more⟩) ?_) | refine Exists.intro _ (And.intro (⟨map_slice⟩) ?_) | refine Exists.intro _ (And.intro (⟨List.map_take⟩) ?_) | refine Exists.intro _ (And.intro (⟨List.map_drop⟩) ?_) | refine Exists.intro _ (And.intro (⟨map_full'⟩) ?_) | refine Exists.intro _ (And.intro (⟨map_full⟩) ?_) | refine Exists.intro _ (And.intro (⟨map_snoc⟩) ?_) | refine Exists.intro _ (And.intro (⟨List.map_append⟩) ?_) | refine Exists.intro _ (And.intro (⟨Eq.refl (α := List D) _⟩) ?_)
            | refine Exists.intro _ (And.intro (⟨Eq.refl (α := Int) _⟩) (And.intro (by omega) ?_)) | refine Exists.intro (0) (And.intro (⟨rfl⟩) (And.intro (Nat.zero_le _) ?_)) | refine Exists.intro _ (And.intro (⟨nc1⟩) (And.intro (by omega) ?_)) | refine Exists.intro _ (Exists.intro _ (And.intro (⟨Eq.refl (α := Int) _⟩) (And.intro (⟨Eq.refl (α := Int) _⟩) (And.intro (by omega) (And.intro (by omega) ?_))))) | refine Exists.intro _ (Exists.intro _ (And.intro (⟨Eq.refl (α := Nat) _⟩) (And.intro (⟨Eq.refl (α := Nat) _⟩) ?_))) | refine Exists.intro _ (And.intro (⟨Eq.refl (α := Nat) _⟩) ?_)
            | refine Exists.intro _ (And.intro (w64 (by omega) (by omega)) ?_) | refine Exists.intro _ (And.intro (imin) ?_) | refine Exists.intro _ (And.intro (imax) ?_) | refine Pure.call (f14_ok _ ha) ?_ | refine Pure.locK (f14_ok _ ha) ?_ | refine Pure.call (f14_ok _ hb) ?_ | refine Pure.locK (f14_ok _ hb) ?_ | refine boolF_not ?_ | refine boolF_dect rfl ?_ | refine boolF_dect (by assumption) ?_ | refine boolF_decf (by assumption) ?_ | refine boolF_dect (by omega) ?_ | refine boolF_decf (by omega) ?_ | refine boolF_beqt (by omega) ?_ | refine boolF_beqf (by omega) ?_ | refine boolF_bnet (by omega) ?_
            | refine boolF_bnef (by omega) ?_ | refine boolF_t (by assumption) ?_ | refine boolF_f (by assumption) ?_ | refine boolF_dec (fun _ => ?_) (fun _ => ?_) | refine boolF_beq (fun _ => ?_) (fun _ => ?_) | refine boolF_bne (fun _ => ?_) (fun _ => ?_) | refine boolF_leq (fun _ => ?_) (fun _ => ?_) | refine Both.mk ?_ ?_)
          all_goals (conv => whnf)
          all_goals first
            | exact ⟨(i + 1, k + 1, q, ver + 1), Ghost.back [2, 3, 6, 7, 8] 1 (by dsimp only; rw [happ, List.length_append]; rfl) (by dsimp only; rw [happ, List.map_append]; rfl) (Nat.zero_le _) (by simp [scs, D.sc, c25, d3, sc23]) (by simp [AObj.sc, scr59]), (hinv (i + 1) (k + 1) (by omega) (by omega)).1, (hinv (i + 1) (k + 1) (by omega) (by omega)).2⟩
            | exact ⟨(i + 1, k, q, ver + 1), Ghost.back [2, 3, 6, 7, 8] 1 (by dsimp only; rw [happ, List.length_append]; rfl) (by dsimp only; rw [happ, List.map_append]; rfl) (Nat.zero_le _) (by simp [scs, D.sc, c25, d3, sc23]) (by simp [AObj.sc, scr59]), (hinv (i + 1) (k) (by omega) (by omega)).1, (hinv (i + 1) (k) (by omega) (by omega)).2⟩
            | exact ⟨(i, k + 1, q, ver + 1), Ghost.back [2, 3, 6, 7, 8] 1 (by dsimp only; rw [happ, List.length_append]; rfl) (by dsimp only; rw [happ, List.map_append]; rfl) (Nat.zero_le _) (by simp [scs, D.sc, c25, d3, sc23]) (by simp [AObj.sc, scr59]), (hinv (i) (k + 1) (by omega) (by omega)).1, (hinv (i) (k + 1) (by omega) (by omega)).2⟩
        · obtain ⟨l, hl⟩ := at_lt (l := chg a b p) (i := (chg a b p).length - 1) (by omega)
          by_cases hto : l.to_ = (p : Int)
          · by_cases hnode : l.node_ = y.node_
            · have hset : chg a b q = (chg a b p).set ((chg a b p).length - 1) ⟨l.from_, (q : Int), l.node_⟩ := by
                rw [hc, addS, hl]; dsimp only; rw [if_pos ⟨hto, hnode⟩]
              have hrow : ∀ (bb : Bool) (d : D), setRow bb ((chg a b p).map r59) (0 + (((chg a b p).length : Int) - 1).toNat) d = ((chg a b p).map r59).set ((chg a b p).length - 1) d := fun bb d => by
                rw [setRow_eq]; congr 1; omega
              have hmap : ((chg a b p).map r59).set ((chg a b p).length - 1) (.agg [d3 l.from_, .int .i64 (q : Int), d3 l.node_]) = (chg a b q).map r59 := by
                rw [hset, List.map_set]; rfl
              repeat' ((conv => whnf); first
                | refine PairK.mk (by kernel_rfl) ?_ | refine Exists.intro _ (And.intro (map_at (by omega) hl) ?_) | refine Exists.intro _ (And.intro (map_at (by omega) hx) ?_) | refine Exists.intro _ (And.intro (map_at (by omega) hy) ?_) | refine Exists.intro ((p : Int)) (And.intro (hpmax) ?_) | refine Exists.intro ((q : Int)) (And.intro (hqmin) ?_) | refine And.intro (by decide) ?_ | refine And.intro rfl ?_ | refine And.intro (List.cons_ne_nil _ _) ?_ | refine And.intro (Nat.le_of_ble_eq_true rfl) ?_ | refine And.intro (by omega) ?_
                | refine And.intro (by simp only [List.length_map, List.length_append, List.length_cons, List.length_nil]; omega) ?_ | refine And.intro (by simpa only [List.length_map, List.length_append, List.length_cons, List.length_nil] using rfl) ?_ | refine And.intro (Eq.symm (List.length_map _)) ?_ | refine And.intro (all_map (fun _ => rfl)) ?_ | refine And.intro (cells_map (fun _ => rfl)) ?_ | refine And.intro (rows_map (fun _ => rfl) (fun _ => rfl)) ?_ | refine And.intro (okRows_one rfl rfl) ?_ | refine And.intro (okRows_all rfl) ?_ | refine boolF_t (beq_self_eq_true _) ?_
                | refine Exists.intro _ (And.intro (map_get (by assumption)) ?_) | refine Exists.intro _ (And.intro (Eq.refl (α := Option D) _) ?_) | refine Exists.intro _ (And.intro (⟨(List.length_map _).symm⟩) ?_) | refine Exists.intro _ (And.intro (⟨len_one⟩) ?_) | refine Exists.intro _ (And.intro (⟨len_two⟩) ?_) | refine Exists.intro _ (And.intro (⟨len_three⟩) ?_) | refine Exists.intro _ (And.intro (⟨len_four⟩) ?_) | refine Exists.intro _ (And.intro (⟨lenl_1⟩) ?_) | refine Exists.intro _ (And.intro (⟨lenl_2⟩) ?_) | refine Exists.intro _ (And.intro (⟨lenl_3⟩) ?_)
                | refine Exists.intro _ (And.intro (⟨lenl_4⟩) ?_) | refine Exists.intro _ (And.intro (⟨len_more⟩) ?_) | refine Exists.intro _ (And.intro (⟨map_slice⟩) ?_) | refine Exists.intro _ (And.intro (⟨List.map_take⟩) ?_) | refine Exists.intro _ (And.intro (⟨List.map_drop⟩) ?_) | refine Exists.intro _ (And.intro (⟨map_full'⟩) ?_) | refine Exists.intro _ (And.intro (⟨map_full⟩) ?_) | refine Exists.intro _ (And.intro (⟨map_snoc⟩) ?_) | refine Exists.intro _ (And.intro (⟨List.map_append⟩) ?_) | refine Exists.intro _ (And.intro (⟨Eq.refl (α := List D) _⟩) ?_)
                | refine Exists.intro _ (And.intro (⟨Eq.refl (α := Int) _⟩) (And.intro (by omega) ?_)) | refine Exists.intro (0) (And.intro (⟨rfl⟩) (And.intro (Nat.zero_le _) ?_)) | refine Exists.intro _ (And.intro (⟨nc1⟩) (And.intro (by omega) ?_)) | refine Exists.intro _ (Exists.intro _ (And.intro (⟨Eq.refl (α := Int) _⟩) (And.intro (⟨Eq.refl (α := Int) _⟩) (And.intro (by omega) (And.intro (by omega) ?_))))) | refine Exists.intro _ (Exists.intro _ (And.intro (⟨Eq.refl (α := Nat) _⟩) (And.intro (⟨Eq.refl (α := Nat) _⟩) ?_))) | refine Exists.intro _ (And.intro (⟨Eq.refl (α := Nat) _⟩) ?_)
                | refine Exists.intro _ (And.intro (w64 (by omega) (by omega)) ?_) | refine Exists.intro _ (And.intro (imin) ?_) | refine Exists.intro _ (And.intro (imax) ?_) | refine Pure.call (f14_ok _ ha) ?_ | refine Pure.locK (f14_ok _ ha) ?_ | refine Pure.call (f14_ok _ hb) ?_ | refine Pure.locK (f14_ok _ hb) ?_ | refine boolF_not ?_ | refine boolF_dect rfl ?_ | refine boolF_dect (by assumption) ?_ | refine boolF_decf (by assumption) ?_ | refine boolF_dect (by omega) ?_ | refine boolF_decf (by omega) ?_ | refine boolF_beqt (by omega) ?_ | refine boolF_beqf (by omega) ?_ | refine boolF_bnet (by omega) ?_
                | refine boolF_bnef (by omega) ?_ | refine boolF_t (by assumption) ?_ | refine boolF_f (by assumption) ?_ | refine boolF_dec (fun _ => ?_) (fun _ => ?_) | refine boolF_beq (fun _ => ?_) (fun _ => ?_) | refine boolF_bne (fun _ => ?_) (fun _ => ?_) | refine boolF_leq (fun _ => ?_) (fun _ => ?_) | refine Both.mk ?_ ?_)
              all_goals (conv => whnf)
              all_goals first
                | exact ⟨(i + 1, k + 1, q, ver), Ghost.back [2, 3, 6, 7, 8] 1 (by dsimp only; rw [hset, List.length_set]; rfl) (by dsimp only; rw [← hmap, ← hrow false]; rfl) (Nat.zero_le _) (by simp [scs, D.sc, c25, d3, sc23]) (by simp [AObj.sc, scr59]), (hinv (i + 1) (k + 1) (by omega) (by omega)).1, (hinv (i + 1) (k + 1) (by omega) (by omega)).2⟩
                | exact ⟨(i + 1, k, q, ver), Ghost.back [2, 3, 6, 7, 8] 1 (by dsimp only; rw [hset, List.length_set]; rfl) (by dsimp only; rw [← hmap, ← hrow false]; rfl) (Nat.zero_le _) (by simp [scs, D.sc, c25, d3, sc23]) (by simp [AObj.sc, scr59]), (hinv (i + 1) (k) (by omega) (by omega)).1, (hinv (i + 1) (k) (by omega) (by omega)).2⟩
                | exact ⟨(i, k + 1, q, ver), Ghost.back [2, 3, 6, 7, 8] 1 (by dsimp only; rw [hset, List.length_set]; rfl) (by dsimp only; rw [← hmap, ← hrow false]; rfl) (Nat.zero_le _) (by simp [scs, D.sc, c25, d3, sc23]) (by simp [AObj.sc, scr59]), (hinv (i) (k + 1) (by omega) (by omega)).1, (hinv (i) (k + 1) (by omega) (by omega)).2⟩
            · have happ := happ fun l' hl' => by rw [hl] at hl'; obtain rfl := Option.some.inj hl'; exact fun h => hnode h.2
              repeat' ((conv => whnf); first
                | refine PairK.mk (by kernel_rfl) ?_ | refine Exists.intro _ (And.intro (map_at (by omega) hl) ?_) | refine Exists.intro _ (And.intro (map_at (by omega) hx) ?_) | refine Exists.intro _ (And.intro (map_at (by omega) hy) ?_) | refine Exists.intro ((p : Int)) (And.intro (hpmax) ?_) | refine Exists.intro ((q : Int)) (And.intro (hqmin) ?_) | refine And.intro (by decide) ?_ | refine And.intro rfl ?_ | refine And.intro (List.cons_ne_nil _ _) ?_ | refine And.intro (Nat.le_of_ble_eq_true rfl) ?_ | refine And.intro (by omega) ?_
                | refine And.intro (by simp only [List.length_map, List.length_append, List.length_cons, List.length_nil]; omega) ?_ | refine And.intro (by simpa only [List.length_map, List.length_append, List.length_cons, List.length_nil] using rfl) ?_ | refine And.intro (Eq.symm (List.length_map _)) ?_ | refine And.intro (all_map (fun _ => rfl)) ?_ | refine And.intro (cells_map (fun _ => rfl)) ?_ | refine And.intro (rows_map (fun _ => rfl) (fun _ => rfl)) ?_ | refine And.intro (okRows_one rfl rfl) ?_ | refine And.intro (okRows_all rfl) ?_ | refine boolF_t (beq_self_eq_true _) ?_
                | refine Exists.intro _ (And.intro (map_get (by assumption)) ?_) | refine Exists.intro _ (And.intro (Eq.refl (α := Option D) _) ?_) | refine Exists.intro _ (And.intro (⟨(List.length_map _).symm⟩) ?_) | refine Exists.intro _ (And.intro (⟨len_one⟩) ?_) | refine Exists.intro _ (And.intro (⟨len_two⟩) ?_) | refine Exists.intro _ (And.intro (⟨len_three⟩) ?_) | refine Exists.intro _ (And.intro (⟨len_four⟩) ?_) | refine Exists.intro _ (And.intro (⟨lenl_1⟩) ?_) | refine Exists.intro _ (And.intro (⟨lenl_2⟩) ?_) | refine Exists.intro _ (And.intro (⟨lenl_3⟩) ?_)
                | refine Exists.intro _ (And.intro (⟨lenl_4⟩) ?_) | refine Exists.intro _ (And.intro (⟨len_more⟩) ?_) | refine Exists.intro _ (And.intro (⟨map_slice⟩) ?_) | refine Exists.intro _ (And.intro (⟨List.map_take⟩) ?_) | refine Exists.intro _ (And.intro (⟨List.map_drop⟩) ?_) | refine Exists.intro _ (And.intro (⟨map_full'⟩) ?_) | refine Exists.intro _ (And.intro (⟨map_full⟩) ?_) | refine Exists.intro _ (And.intro (⟨map_snoc⟩) ?_) | refine Exists.intro _ (And.intro (⟨List.map_append⟩) ?_) | refine Exists.intro _ (And.intro (⟨Eq.refl (α := List D) _⟩) ?_)
                | refine Exists.intro _ (And.intro (⟨Eq.refl (α := Int) _⟩) (And.intro (by omega) ?_)) | refine Exists.intro (0) (And.intro (⟨rfl⟩) (And.intro (Nat.zero_le _) ?_)) | refine Exists.intro _ (And.intro (⟨nc1⟩) (And.intro (by omega) ?_)) | refine Exists.intro _ (Exists.intro _ (And.intro (⟨Eq.refl (α := Int) _⟩) (And.intro (⟨Eq.refl (α := Int) _⟩) (And.intro (by omega) (And.intro (by omega) ?_))))) | refine Exists.intro _ (Exists.intro _ (And.intro (⟨Eq.refl (α := Nat) _⟩) (And.intro (⟨Eq.refl (α := Nat) _⟩) ?_))) | refine Exists.intro _ (And.intro (⟨Eq.refl (α := Nat) _⟩) ?_)
                | refine Exists.intro _ (And.intro (w64 (by omega) (by omega)) ?_) | refine Exists.intro _ (And.intro (imin) ?_) | refine Exists.intro _ (And.intro (imax) ?_) | refine Pure.call (f14_ok _ ha) ?_ | refine Pure.locK (f14_ok _ ha) ?_ | refine Pure.call (f14_ok _ hb) ?_ | refine Pure.locK (f14_ok _ hb) ?_ | refine boolF_not ?_ | refine boolF_dect rfl ?_ | refine boolF_dect (by assumption) ?_ | refine boolF_decf (by assumption) ?_ | refine boolF_dect (by omega) ?_ | refine boolF_decf (by omega) ?_ | refine boolF_beqt (by omega) ?_ | refine boolF_beqf (by omega) ?_ | refine boolF_bnet (by omega) ?_
                | refine boolF_bnef (by omega) ?_ | refine boolF_t (by assumption) ?_ | refine boolF_f (by assumption) ?_ | refine boolF_dec (fun _ => ?_) (fun _ => ?_) | refine boolF_beq (fun _ => ?_) (fun _ => ?_) | refine boolF_bne (fun _ => ?_) (fun _ => ?_) | refine boolF_leq (fun _ => ?_) (fun _ => ?_) | refine Both.mk ?_ ?_)
              all_goals (conv => whnf)
              all_goals first
                | exact ⟨(i + 1, k + 1, q, ver + 1), Ghost.back [2, 3, 6, 7, 8] 1 (by dsimp only; rw [happ, List.length_append]; rfl) (by dsimp only; rw [happ, List.map_append]; rfl) (Nat.zero_le _) (by simp [scs, D.sc, c25, d3, sc23]) (by simp [AObj.sc, scr59]), (hinv (i + 1) (k + 1) (by omega) (by omega)).1, (hinv (i + 1) (k + 1) (by omega) (by omega)).2⟩
                | exact ⟨(i + 1, k, q, ver + 1), Ghost.back [2, 3, 6, 7, 8] 1 (by dsimp only; rw [happ, List.length_append]; rfl) (by dsimp only; rw [happ, List.map_append]; rfl) (Nat.zero_le _) (by simp [scs, D.sc, c25, d3, sc23]) (by simp [AObj.sc, scr59]), (hinv (i + 1) (k) (by omega) (by omega)).1, (hinv (i + 1) (k) (by omega) (by omega)).2⟩
                | exact ⟨(i, k + 1, q, ver + 1), Ghost.back [2, 3, 6, 7, 8] 1 (by dsimp only; rw [happ, List.length_append]; rfl) (by dsimp only; rw [happ, List.map_append]; rfl) (Nat.zero_le _) (by simp [scs, D.sc, c25, d3, sc23]) (by simp [AObj.sc, scr59]), (hinv (i) (k + 1) (by omega) (by omega)).1, (hinv (i) (k + 1) (by omega) (by omega)).2⟩
          · have happ := happ fun l' hl' => by rw [hl] at hl'; obtain rfl := Option.some.inj hl'; exact fun h => hto h.1
            repeat' ((conv => whnf); first
              | refine PairK.mk (by kernel_rfl) ?_ | refine Exists.intro _ (And.intro (map_at (by omega) hl) ?_) | refine Exists.intro _ (And.intro (map_at (by omega) hx) ?_) | refine Exists.intro _ (And.intro (map_at (by omega) hy) ?_) | refine Exists.intro ((p : Int)) (And.intro (hpmax) ?_) | refine Exists.intro ((q : Int)) (And.intro (hqmin) ?_) | refine And.intro (by decide) ?_ | refine And.intro rfl ?_ | refine And.intro (List.cons_ne_nil _ _) ?_ | refine And.intro (Nat.le_of_ble_eq_true rfl) ?_ | refine And.intro (by omega) ?_
              | refine And.intro (by simp only [List.length_map, List.length_append, List.length_cons, List.length_nil]; omega) ?_ | refine And.intro (by simpa only [List.length_map, List.length_append, List.length_cons, List.length_nil] using rfl) ?_ | refine And.intro (Eq.symm (List.length_map _)) ?_ | refine And.intro (all_map (fun _ => rfl)) ?_ | refine And.intro (cells_map (fun _ => rfl)) ?_ | refine And.intro (rows_map (fun _ => rfl) (fun _ => rfl)) ?_ | refine And.intro (okRows_one rfl rfl) ?_ | refine And.intro (okRows_all rfl) ?_ | refine boolF_t (beq_self_eq_true _) ?_
              | refine Exists.intro _ (And.intro (map_get (by assumption)) ?_) | refine Exists.intro _ (And.intro (Eq.refl (α := Option D) _) ?_) | refine Exists.intro _ (And.intro (⟨(List.length_map _).symm⟩) ?_) | refine Exists.intro _ (And.intro (⟨len_one⟩) ?_) | refine Exists.intro _ (And.intro (⟨len_two⟩) ?_) | refine Exists.intro _ (And.intro (⟨len_three⟩) ?_) | refine Exists.intro _ (And.intro (⟨len_four⟩) ?_) | refine Exists.intro _ (And.intro (⟨lenl_1⟩) ?_) | refine Exists.intro _ (And.intro (⟨lenl_2⟩) ?_) | refine Exists.intro _ (And.intro (⟨lenl_3⟩) ?_)
              | refine Exists.intro _ (And.intro (⟨lenl_4⟩) ?_) | refine Exists.intro _ (And.intro (⟨len_more⟩) ?_) | refine Exists.intro _ (And.intro (⟨map_slice⟩) ?_) | refine Exists.intro _ (And.intro (⟨List.map_take⟩) ?_) | refine Exists.intro _ (And.intro (⟨List.map_drop⟩) ?_) | refine Exists.intro _ (And.intro (⟨map_full'⟩) ?_) | refine Exists.intro _ (And.intro (⟨map_full⟩) ?_) | refine Exists.intro _ (And.intro (⟨map_snoc⟩) ?_) | refine Exists.intro _ (And.intro (⟨List.map_append⟩) ?_) | refine Exists.intro _ (And.intro (⟨Eq.refl (α := List D) _⟩) ?_)
              | refine Exists.intro _ (And.intro (⟨Eq.refl (α := Int) _⟩) (And.intro (by omega) ?_)) | refine Exists.intro (0) (And.intro (⟨rfl⟩) (And.intro (Nat.zero_le _) ?_)) | refine Exists.intro _ (And.intro (⟨nc1⟩) (And.intro (by omega) ?_)) | refine Exists.intro _ (Exists.intro _ (And.intro (⟨Eq.refl (α := Int) _⟩) (And.intro (⟨Eq.refl (α := Int) _⟩) (And.intro (by omega) (And.intro (by omega) ?_))))) | refine Exists.intro _ (Exists.intro _ (And.intro (⟨Eq.refl (α := Nat) _⟩) (And.intro (⟨Eq.refl (α := Nat) _⟩) ?_))) | refine Exists.intro _ (And.intro (⟨Eq.refl (α := Nat) _⟩) ?_)
              | refine Exists.intro _ (And.intro (w64 (by omega) (by omega)) ?_) | refine Exists.intro _ (And.intro (imin) ?_) | refine Exists.intro _ (And.intro (imax) ?_) | refine Pure.call (f14_ok _ ha) ?_ | refine Pure.locK (f14_ok _ ha) ?_ | refine Pure.call (f14_ok _ hb) ?_ | refine Pure.locK (f14_ok _ hb) ?_ | refine boolF_not ?_ | refine boolF_dect rfl ?_ | refine boolF_dect (by assumption) ?_ | refine boolF_decf (by assumption) ?_ | refine boolF_dect (by omega) ?_ | refine boolF_decf (by omega) ?_ | refine boolF_beqt (by omega) ?_ | refine boolF_beqf (by omega) ?_ | refine boolF_bnet (by omega) ?_
              | refine boolF_bnef (by omega) ?_ | refine boolF_t (by assumption) ?_ | refine boolF_f (by assumption) ?_ | refine boolF_dec (fun _ => ?_) (fun _ => ?_) | refine boolF_beq (fun _ => ?_) (fun _ => ?_) | refine boolF_bne (fun _ => ?_) (fun _ => ?_) | refine boolF_leq (fun _ => ?_) (fun _ => ?_) | refine Both.mk ?_ ?_)
            all_goals (conv => whnf)
            all_goals first
              | exact ⟨(i + 1, k + 1, q, ver + 1), Ghost.back [2, 3, 6, 7, 8] 1 (by dsimp only; rw [happ, List.length_append]; rfl) (by dsimp only; rw [happ, List.map_append]; rfl) (Nat.zero_le _) (by simp [scs, D.sc, c25, d3, sc23]) (by simp [AObj.sc, scr59]), (hinv (i + 1) (k + 1) (by omega) (by omega)).1, (hinv (i + 1) (k + 1) (by omega) (by omega)).2⟩
              | exact ⟨(i + 1, k, q, ver + 1), Ghost.back [2, 3, 6, 7, 8] 1 (by dsimp only; rw [happ, List.length_append]; rfl) (by dsimp only; rw [happ, List.map_append]; rfl) (Nat.zero_le _) (by simp [scs, D.sc, c25, d3, sc23]) (by simp [AObj.sc, scr59]), (hinv (i + 1) (k) (by omega) (by omega)).1, (hinv (i + 1) (k) (by omega) (by omega)).2⟩
              | exact ⟨(i, k + 1, q, ver + 1), Ghost.back [2, 3, 6, 7, 8] 1 (by dsimp only; rw [happ, List.length_append]; rfl) (by dsimp only; rw [happ, List.map_append]; rfl) (Nat.zero_le _) (by simp [scs, D.sc, c25, d3, sc23]) (by simp [AObj.sc, scr59]), (hinv (i) (k + 1) (by omega) (by omega)).1, (hinv (i) (k + 1) (by omega) (by omega)).2⟩
    · have e : chgM a b = (chg a b p, 0) := by
        rw [chgM, if_pos ⟨ra, rb, hn⟩]
        have : (p : Int) = a.n_ := by
          rcases Nat.lt_or_ge i a.pieces_.length with g | g
          · have g2 : b.pieces_.length ≤ k := by omega
            rw [List.take_of_length_le g2, eb] at i4
            have := Option.some.inj i4
            omega
          · rw [List.take_of_length_le g, ea] at i3
            have := Option.some.inj i3
            omega
        rw [show a.n_.toNat = p by omega]
      rw [e]
      repeat' ((conv => whnf); first
        | refine PairK.mk (by kernel_rfl) ?_ | refine Exists.intro _ (And.intro (map_at (by omega) hl) ?_) | refine Exists.intro _ (And.intro (map_at (by omega) hx) ?_) | refine Exists.intro _ (And.intro (map_at (by omega) hy) ?_) | refine Exists.intro ((p : Int)) (And.intro (hpmax) ?_) | refine Exists.intro ((q : Int)) (And.intro (hqmin) ?_) | refine And.intro (by decide) ?_ | refine And.intro rfl ?_ | refine And.intro (List.cons_ne_nil _ _) ?_ | refine And.intro (Nat.le_of_ble_eq_true rfl) ?_ | refine And.intro (by omega) ?_
        | refine And.intro (by simp only [List.length_map, List.length_append, List.length_cons, List.length_nil]; omega) ?_ | refine And.intro (by simpa only [List.length_map, List.length_append, List.length_cons, List.length_nil] using rfl) ?_ | refine And.intro (Eq.symm (List.length_map _)) ?_ | refine And.intro (all_map (fun _ => rfl)) ?_ | refine And.intro (cells_map (fun _ => rfl)) ?_ | refine And.intro (rows_map (fun _ => rfl) (fun _ => rfl)) ?_ | refine And.intro (okRows_one rfl rfl) ?_ | refine And.intro (okRows_all rfl) ?_ | refine boolF_t (beq_self_eq_true _) ?_
        | refine Exists.intro _ (And.intro (map_get (by assumption)) ?_) | refine Exists.intro _ (And.intro (Eq.refl (α := Option D) _) ?_) | refine Exists.intro _ (And.intro (⟨(List.length_map _).symm⟩) ?_) | refine Exists.intro _ (And.intro (⟨len_one⟩) ?_) | refine Exists.intro _ (And.intro (⟨len_two⟩) ?_) | refine Exists.intro _ (And.intro (⟨len_three⟩) ?_) | refine Exists.intro _ (And.intro (⟨len_four⟩) ?_) | refine Exists.intro _ (And.intro (⟨lenl_1⟩) ?_) | refine Exists.intro _ (And.intro (⟨lenl_2⟩) ?_) | refine Exists.intro _ (And.intro (⟨lenl_3⟩) ?_)
        | refine Exists.intro _ (And.intro (⟨lenl_4⟩) ?_) | refine Exists.intro _ (And.intro (⟨len_more⟩) ?_) | refine Exists.intro _ (And.intro (⟨map_slice⟩) ?_) | refine Exists.intro _ (And.intro (⟨List.map_take⟩) ?_) | refine Exists.intro _ (And.intro (⟨List.map_drop⟩) ?_) | refine Exists.intro _ (And.intro (⟨map_full'⟩) ?_) | refine Exists.intro _ (And.intro (⟨map_full⟩) ?_) | refine Exists.intro _ (And.intro (⟨map_snoc⟩) ?_) | refine Exists.intro _ (And.intro (⟨List.map_append⟩) ?_) | refine Exists.intro _ (And.intro (⟨Eq.refl (α := List D) _⟩) ?_)
        | refine Exists.intro _ (And.intro (⟨Eq.refl (α := Int) _⟩) (And.intro (by omega) ?_)) | refine Exists.intro (0) (And.intro (⟨rfl⟩) (And.intro (Nat.zero_le _) ?_)) | refine Exists.intro _ (And.intro (⟨nc1⟩) (And.intro (by omega) ?_)) | refine Exists.intro _ (Exists.intro _ (And.intro (⟨Eq.refl (α := Int) _⟩) (And.intro (⟨Eq.refl (α := Int) _⟩) (And.intro (by omega) (And.intro (by omega) ?_))))) | refine Exists.intro _ (Exists.intro _ (And.intro (⟨Eq.refl (α := Nat) _⟩) (And.intro (⟨Eq.refl (α := Nat) _⟩) ?_))) | refine Exists.intro _ (And.intro (⟨Eq.refl (α := Nat) _⟩) ?_)
        | refine Exists.intro _ (And.intro (w64 (by omega) (by omega)) ?_) | refine Exists.intro _ (And.intro (imin) ?_) | refine Exists.intro _ (And.intro (imax) ?_) | refine Pure.call (f14_ok _ ha) ?_ | refine Pure.locK (f14_ok _ ha) ?_ | refine Pure.call (f14_ok _ hb) ?_ | refine Pure.locK (f14_ok _ hb) ?_ | refine boolF_not ?_ | refine boolF_dect rfl ?_ | refine boolF_dect (by assumption) ?_ | refine boolF_decf (by assumption) ?_ | refine boolF_dect (by omega) ?_ | refine boolF_decf (by omega) ?_ | refine boolF_beqt (by omega) ?_ | refine boolF_beqf (by omega) ?_ | refine boolF_bnet (by omega) ?_
        | refine boolF_bnef (by omega) ?_ | refine boolF_t (by assumption) ?_ | refine boolF_f (by assumption) ?_ | refine boolF_dec (fun _ => ?_) (fun _ => ?_) | refine boolF_beq (fun _ => ?_) (fun _ => ?_) | refine boolF_bne (fun _ => ?_) (fun _ => ?_) | refine boolF_leq (fun _ => ?_) (fun _ => ?_) | refine Both.mk ?_ ?_)
      all_goals (conv => whnf)
      all_goals exact ⟨Told.frz 0 rfl (.tup (.cons (.h (all_take rfl)) (.cons (.refl _) .nil)))⟩
  · have e : chgM a b = ([], 1) := by rw [chgM, if_neg hr]
    rw [e]
    repeat' ((conv => whnf); first
      | refine PairK.mk (by kernel_rfl) ?_ | refine Exists.intro _ (And.intro (map_at (by omega) hl) ?_) | refine Exists.intro _ (And.intro (map_at (by omega) hx) ?_) | refine Exists.intro _ (And.intro (map_at (by omega) hy) ?_) | refine Exists.intro ((p : Int)) (And.intro (hpmax) ?_) | refine Exists.intro ((q : Int)) (And.intro (hqmin) ?_) | refine And.intro (by decide) ?_ | refine And.intro rfl ?_ | refine And.intro (List.cons_ne_nil _ _) ?_ | refine And.intro (Nat.le_of_ble_eq_true rfl) ?_ | refine And.intro (by omega) ?_
      | refine And.intro (by simp only [List.length_map, List.length_append, List.length_cons, List.length_nil]; omega) ?_ | refine And.intro (by simpa only [List.length_map, List.length_append, List.length_cons, List.length_nil] using rfl) ?_ | refine And.intro (Eq.symm (List.length_map _)) ?_ | refine And.intro (all_map (fun _ => rfl)) ?_ | refine And.intro (cells_map (fun _ => rfl)) ?_ | refine And.intro (rows_map (fun _ => rfl) (fun _ => rfl)) ?_ | refine And.intro (okRows_one rfl rfl) ?_ | refine And.intro (okRows_all rfl) ?_ | refine boolF_t (beq_self_eq_true _) ?_
      | refine Exists.intro _ (And.intro (map_get (by assumption)) ?_) | refine Exists.intro _ (And.intro (Eq.refl (α := Option D) _) ?_) | refine Exists.intro _ (And.intro (⟨(List.length_map _).symm⟩) ?_) | refine Exists.intro _ (And.intro (⟨len_one⟩) ?_) | refine Exists.intro _ (And.intro (⟨len_two⟩) ?_) | refine Exists.intro _ (And.intro (⟨len_three⟩) ?_) | refine Exists.intro _ (And.intro (⟨len_four⟩) ?_) | refine Exists.intro _ (And.intro (⟨lenl_1⟩) ?_) | refine Exists.intro _ (And.intro (⟨lenl_2⟩) ?_) | refine Exists.intro _ (And.intro (⟨lenl_3⟩) ?_)
      | refine Exists.intro _ (And.intro (⟨lenl_4⟩) ?_) | refine Exists.intro _ (And.intro (⟨len_more⟩) ?_) | refine Exists.intro _ (And.intro (⟨map_slice⟩) ?_) | refine Exists.intro _ (And.intro (⟨List.map_take⟩) ?_) | refine Exists.intro _ (And.intro (⟨List.map_drop⟩) ?_) | refine Exists.intro _ (And.intro (⟨map_full'⟩) ?_) | refine Exists.intro _ (And.intro (⟨map_full⟩) ?_) | refine Exists.intro _ (And.intro (⟨map_snoc⟩) ?_) | refine Exists.intro _ (And.intro (⟨List.map_append⟩) ?_) | refine Exists.intro _ (And.intro (⟨Eq.refl (α := List D) _⟩) ?_)
      | refine Exists.intro _ (And.intro (⟨Eq.refl (α := Int) _⟩) (And.intro (by omega) ?_)) | refine Exists.intro (0) (And.intro (⟨rfl⟩) (And.intro (Nat.zero_le _) ?_)) | refine Exists.intro _ (And.intro (⟨nc1⟩) (And.intro (by omega) ?_)) | refine Exists.intro _ (Exists.intro _ (And.intro (⟨Eq.refl (α := Int) _⟩) (And.intro (⟨Eq.refl (α := Int) _⟩) (And.intro (by omega) (And.intro (by omega) ?_))))) | refine Exists.intro _ (Exists.intro _ (And.intro (⟨Eq.refl (α := Nat) _⟩) (And.intro (⟨Eq.refl (α := Nat) _⟩) ?_))) | refine Exists.intro _ (And.intro (⟨Eq.refl (α := Nat) _⟩) ?_)
      | refine Exists.intro _ (And.intro (w64 (by omega) (by omega)) ?_) | refine Exists.intro _ (And.intro (imin) ?_) | refine Exists.intro _ (And.intro (imax) ?_) | refine Pure.call (f14_ok _ ha) ?_ | refine Pure.locK (f14_ok _ ha) ?_ | refine Pure.call (f14_ok _ hb) ?_ | refine Pure.locK (f14_ok _ hb) ?_ | refine boolF_not ?_ | refine boolF_dect rfl ?_ | refine boolF_dect (by assumption) ?_ | refine boolF_decf (by assumption) ?_ | refine boolF_dect (by omega) ?_ | refine boolF_decf (by omega) ?_ | refine boolF_beqt (by omega) ?_ | refine boolF_beqf (by omega) ?_ | refine boolF_bnet (by omega) ?_
      | refine boolF_bnef (by omega) ?_ | refine boolF_t (by assumption) ?_ | refine boolF_f (by assumption) ?_ | refine boolF_dec (fun _ => ?_) (fun _ => ?_) | refine boolF_beq (fun _ => ?_) (fun _ => ?_) | refine boolF_bne (fun _ => ?_) (fun _ => ?_) | refine boolF_leq (fun _ => ?_) (fun _ => ?_) | refine Both.mk ?_ ?_)
    all_goals (conv => whnf)
    all_goals first
      | exact ⟨Told.wk wk_cerr⟩
      | (exfalso; exact hr ⟨by assumption, by assumption, by omega⟩)

end Go.Proofs.Ytgcllbcpdcfkmaa

