import Derived.Test.YtjoeonhmejnkmaaL4
-- merged
namespace Go.Proofs.Ytjoeonhmejnkmaa
open Go.A
set_option linter.unusedVariables false
set_option linter.unusedSimpArgs false
set_option linter.unnecessarySimpa false
attribute [local irreducible] IntKind.wrap bitsI
open B
set_option maxRecDepth 100000
set_option maxHeartbeats 4000000

abbrev Op := B.Op
def opOf (r : Rec) : Op := if r.kind_ = 2 then ⟨1, r.off_, 0, r.data_⟩ else ⟨2, r.off_, r.len_, []⟩
theorem f40_ok (r : Rec) : Pure Try.prog 40 [d26 r] (d69 (opOf r)) := by
  refine Pure.ofT ⟨scd26 _ _, trivial⟩ (scd69 _ _) ?_
  refine CallsIn.of_exec tab_ok mixed Try.func40 rfl rfl [] [] ?_
  by_cases h : r.kind_ = 2
  · rw [opOf, if_pos h]
    repeat' ((conv => whnf); first
      | refine And.intro (by decide) ?_ | refine Exists.intro _ (And.intro (Eq.refl (α := Option D) _) ?_) | refine boolF_dect (by assumption) ?_)
    all_goals (conv => whnf)
    exact ⟨Told.refl⟩
  · rw [opOf, if_neg h]
    repeat' ((conv => whnf); first
      | refine And.intro (by decide) ?_ | refine Exists.intro _ (And.intro (Eq.refl (α := Option D) _) ?_) | refine boolF_decf (by assumption) ?_)
    all_goals (conv => whnf)
    exact ⟨Told.wk (.agg (.cons .refl (.cons .refl (.cons .refl (.cons .nils .nil)))))⟩

/-- The list of a stream's records. -/
structure Strm (L : List Rec) (h : Rec) (ms : List Rec) (t : Rec) : Prop where
  eq : L = h :: (ms ++ [t])
  k0 : h.kind_ = 1
  kt : t.kind_ = 4
theorem Strm.len {L h ms t} (s : Strm L h ms t) : L.length = ms.length + 2 := by rw [s.eq]; simp
theorem Strm.at0 {L h ms t} (s : Strm L h ms t) : L[0]? = some h := by rw [s.eq]; rfl
theorem Strm.atn {L h ms t} (s : Strm L h ms t) : L[ms.length + 1]? = some t := by rw [s.eq, List.getElem?_cons_succ]; simp
theorem Strm.ati {L h ms t} (s : Strm L h ms t) {i : Nat} {m : Rec} (hm : ms[i]? = some m) : L[i + 1]? = some m := by
  rw [s.eq, List.getElem?_cons_succ, List.getElem?_append_left (List.getElem?_eq_some_iff.mp hm).1, hm]

theorem f39_ok {L h ms t} (s : Strm L h ms t) (hL : L.length ≤ 140737488351232) (hk : ∀ m ∈ ms, m.kind_ ≠ 1 ∧ m.kind_ ≠ 4) : Pure Try.prog 39 [d43 L] (.bool true) := by
  have hl := s.len
  have h0 := s.at0
  have hn := s.atn
  have k0 := s.k0
  have kt := s.kt
  refine Pure.of ⟨scd43 _ _, trivial⟩ trivial ?_
  refine CallsIn.of_exec tab_ok mixed Try.func39 rfl rfl [] [] ?_
  repeat' ((conv => whnf); first
    | refine Exists.intro _ (And.intro (map_at (by omega) h0) ?_) | refine Exists.intro _ (And.intro (map_at (by omega) hn) ?_) | refine And.intro (by decide) ?_ | refine And.intro rfl ?_ | refine And.intro (by omega) ?_ | refine Exists.intro _ (And.intro (⟨(List.length_map _).symm⟩) ?_) | refine Exists.intro _ (And.intro (w64 (by omega) (by omega)) ?_) | refine boolF_not ?_ | refine boolF_dect (by assumption) ?_ | refine boolF_decf (by omega) ?_)
  all_goals (conv => whnf)
  refine W_loopG (ι := Nat) (fun i => ⟨(d43 L :: D.undef :: D.undef :: .int .i64 (L.length : Int) :: .int .i64 ((i + 1 : Nat) : Int) :: D.undef :: D.undef :: D.undef :: D.undef :: D.undef :: D.undef :: D.undef :: D.undef :: D.undef :: D.undef :: D.undef :: D.undef :: D.undef :: D.undef :: D.undef :: D.undef :: D.undef :: D.undef :: D.undef :: D.undef :: D.undef :: D.undef :: D.undef :: D.undef :: D.undef :: D.undef :: D.undef :: D.undef :: D.undef :: D.undef :: D.undef :: D.undef :: D.undef :: D.undef :: D.undef :: D.undef :: D.undef :: D.undef :: D.undef :: D.undef :: []), []⟩) (fun i => ms.length - i)
    (fun i => i ≤ ms.length) 0 (Ghost.hold [0, 3, 4] rfl) (Nat.zero_le _) ?_
  rintro i h1
  refine exec_ok tab_ok mixed 1000 (bx := []) (own := []) ?_
  rcases Nat.lt_or_ge i ms.length with h | h
  · obtain ⟨x, hx0⟩ := at_lt h
    have hx := s.ati hx0
    have hxk := hk x (List.mem_of_getElem? hx0)
    repeat' ((conv => whnf); first
      | refine Exists.intro _ (And.intro (map_at (by omega) hx) ?_) | refine And.intro rfl ?_ | refine And.intro (by omega) ?_ | refine Exists.intro _ (And.intro (w64 (by omega) (by omega)) ?_) | refine boolF_dect (by omega) ?_ | refine boolF_decf (by omega) ?_)
    all_goals (conv => whnf)
    exact ⟨i + 1, Ghost.hold [0, 3, 4] rfl, h, by omega⟩
  · repeat' ((conv => whnf); first
      | refine Exists.intro _ (And.intro (w64 (by omega) (by omega)) ?_) | refine boolF_decf (by omega) ?_)
    all_goals (conv => whnf)
    exact ⟨rfl⟩

end Go.Proofs.Ytjoeonhmejnkmaa


namespace Go.Proofs.Ytjoeonhmejnkmaa
open Go.A
set_option linter.unusedVariables false
set_option linter.unusedSimpArgs false
set_option linter.unnecessarySimpa false
attribute [local irreducible] IntKind.wrap bitsI
open B
set_option maxRecDepth 100000
set_option maxHeartbeats 4000000

def endOf (o : Op) : Int := (rng o).1 + (rng o).2
def fits (n : Int) : Int → List Rec → Prop
  | _, [] => True
  | b, m :: ms => okOp n (opOf m) ∧ b ≤ (opOf m).off_ ∧ fits n (endOf (opOf m)) ms
def fitsDec (n : Int) : ∀ (b : Int) (ms : List Rec), Decidable (fits n b ms)
  | _, [] => isTrue trivial
  | b, m :: ms => @instDecidableAnd _ _ _ (@instDecidableAnd _ _ _ (fitsDec n (endOf (opOf m)) ms))
instance (n b : Int) (ms : List Rec) : Decidable (fits n b ms) := fitsDec n b ms
def allMay (L : List Rec) : Prop := ∀ r ∈ L, mayR r
instance (L : List Rec) : Decidable (allMay L) := inferInstanceAs (Decidable (∀ r ∈ L, mayR r))
def bigR (L : List Rec) : Prop := ∀ r ∈ L, r.data_.length ≤ 140737488351232
def checkM (L : List Rec) (h : Rec) (ms : List Rec) : Int := if ¬ allMay L then 1 else if 1024 < h.len_ then 6 else if fits h.len_ 0 ms then 0 else 5
theorem may_take {L : List Rec} {i : Nat} {x : Rec} (h : L[i]? = some x) (hx : mayR x) (ht : ∀ r ∈ L.take i, mayR r) : ∀ r ∈ L.take (i + 1), mayR r := by
  rw [List.take_add_one, h]
  intro y hy
  rcases List.mem_append.mp hy with hy | hy
  · exact ht y hy
  · simp at hy; subst hy; exact hx
theorem opOf_big {r : Rec} (h : r.data_.length ≤ 140737488351232) : (opOf r).data_.length ≤ 140737488351232 := by
  rw [opOf]; split
  · exact h
  · exact Nat.zero_le _

theorem f27_ok {L h ms t} (s : Strm L h ms t) (hL : L.length ≤ 140737488351232) (hb : bigR L) (hk : ∀ m ∈ ms, m.kind_ ≠ 1 ∧ m.kind_ ≠ 4) (ht : t.len_ = (ms.length : Int)) : Pure Try.prog 27 [d43 L] (.int .i64 (checkM L h ms)) := by
  have hl := s.len
  have h0 := s.at0
  have hn := s.atn
  refine Pure.of ⟨scd43 _ _, trivial⟩ trivial ?_
  refine CallsIn.of_exec tab_ok mixed Try.func27 rfl rfl [] [] ?_
  (conv => whnf)
  refine W_loopG (ι := Nat) (fun i => ⟨(d43 L :: D.undef :: D.undef :: .int .i64 (i : Int) :: D.undef :: D.undef :: D.undef :: D.undef :: D.undef :: D.undef :: D.undef :: D.undef :: D.undef :: D.undef :: D.undef :: D.undef :: D.undef :: D.undef :: D.undef :: D.undef :: D.undef :: D.undef :: D.undef :: D.undef :: D.undef :: D.undef :: D.undef :: D.undef :: D.undef :: D.undef :: D.undef :: D.undef :: D.undef :: D.undef :: D.undef :: D.undef :: D.undef :: D.undef :: D.undef :: D.undef :: D.undef :: D.undef :: D.undef :: D.undef :: D.undef :: D.undef :: D.undef :: D.undef :: D.undef :: D.undef :: D.undef :: D.undef :: D.undef :: D.undef :: D.undef :: D.undef :: D.undef :: D.undef :: D.undef :: D.undef :: D.undef :: D.undef :: D.undef :: D.undef :: D.undef :: D.undef :: D.undef :: D.undef :: D.undef :: D.undef :: D.undef :: D.undef :: []), []⟩) (fun i => L.length - i)
    (fun i => i ≤ L.length ∧ ∀ r ∈ L.take i, mayR r) 0 (Ghost.hold [0, 3] rfl) ⟨Nat.zero_le _, fun r hr => by simp at hr⟩ ?_
  rintro i ⟨h1, h2⟩
  refine exec_ok tab_ok mixed 1000 (bx := []) (own := []) ?_
  rcases Nat.lt_or_ge i L.length with g | g
  · obtain ⟨x, hx⟩ := at_lt g
    have hxd := hb x (List.mem_of_getElem? hx)
    by_cases hm : mayR x
    · repeat' ((conv => whnf); first
        | refine Exists.intro _ (And.intro (map_at (by omega) hx) ?_) | refine And.intro rfl ?_ | refine And.intro (by omega) ?_ | refine Exists.intro _ (And.intro (⟨(List.length_map _).symm⟩) ?_) | refine Exists.intro _ (And.intro (w64 (by omega) (by omega)) ?_) | refine Pure.call (f26_ok _ hxd) ?_ | refine boolF_not ?_ | refine boolF_dect (by assumption) ?_ | refine boolF_dect (by omega) ?_)
      all_goals (conv => whnf)
      exact ⟨i + 1, Ghost.hold [0, 3] rfl, ⟨g, may_take hx hm h2⟩, by omega⟩
    · repeat' ((conv => whnf); first
        | refine Exists.intro _ (And.intro (map_at (by omega) hx) ?_) | refine And.intro rfl ?_ | refine And.intro (by omega) ?_ | refine Exists.intro _ (And.intro (⟨(List.length_map _).symm⟩) ?_) | refine Pure.call (f26_ok _ hxd) ?_ | refine boolF_not ?_ | refine boolF_decf (by assumption) ?_ | refine boolF_dect (by omega) ?_)
      all_goals (conv => whnf)
      have : ¬ allMay L := fun q => hm (q x (List.mem_of_getElem? hx))
      exact ⟨by rw [checkM, if_pos this]⟩
  · have ha : allMay L := fun r hr => h2 r (by rw [List.take_of_length_le g]; exact hr)
    have hc : checkM L h ms = if 1024 < h.len_ then 6 else if fits h.len_ 0 ms then 0 else 5 := by rw [checkM, if_neg (by simp [ha])]
    clear h2
    by_cases hbig : 1024 < h.len_
    · rw [if_pos hbig] at hc
      repeat' ((conv => whnf); first
        | refine Exists.intro _ (And.intro (map_at (by omega) h0) ?_) | refine And.intro (by decide) ?_ | refine And.intro rfl ?_ | refine Exists.intro _ (And.intro (⟨(List.length_map _).symm⟩) ?_) | refine Pure.call (f39_ok s hL hk) ?_ | refine boolF_dect (by assumption) ?_ | refine boolF_decf (by omega) ?_)
      all_goals (conv => whnf)
      exact ⟨by rw [hc]⟩
    · rw [if_neg hbig] at hc
      repeat' ((conv => whnf); first
        | refine Exists.intro _ (And.intro (map_at (by omega) h0) ?_) | refine And.intro (by decide) ?_ | refine And.intro rfl ?_ | refine Exists.intro _ (And.intro (⟨(List.length_map _).symm⟩) ?_) | refine Pure.call (f39_ok s hL hk) ?_ | refine boolF_decf (by assumption) ?_ | refine boolF_decf (by omega) ?_)
      all_goals (conv => whnf)
      refine W_loopG (ι := Nat × Int) (fun i => ⟨(d43 L :: D.undef :: D.undef :: D.undef :: .int .i64 i.2 :: .int .i64 ((i.1 + 1 : Nat) : Int) :: D.undef :: D.undef :: D.undef :: D.undef :: D.undef :: D.undef :: D.undef :: D.undef :: D.undef :: D.undef :: D.undef :: D.undef :: D.undef :: D.undef :: D.undef :: D.undef :: D.undef :: D.undef :: D.undef :: D.undef :: D.undef :: D.undef :: D.undef :: D.undef :: D.undef :: D.undef :: D.undef :: D.undef :: D.undef :: D.undef :: D.undef :: D.undef :: D.undef :: D.undef :: D.undef :: D.undef :: D.undef :: D.undef :: D.undef :: D.undef :: D.undef :: D.undef :: D.undef :: D.undef :: D.undef :: D.undef :: D.undef :: D.undef :: D.undef :: D.undef :: D.undef :: D.undef :: D.undef :: D.undef :: D.undef :: D.undef :: D.undef :: D.undef :: D.undef :: D.undef :: D.undef :: D.undef :: D.undef :: D.undef :: D.undef :: D.undef :: []), []⟩) (fun i => ms.length - i.1)
        (fun i => i.1 ≤ ms.length ∧ 0 ≤ i.2 ∧ i.2 ≤ 1024 ∧ (fits h.len_ i.2 (ms.drop i.1) ↔ fits h.len_ 0 ms)) (0, 0) (Ghost.hold [0, 4, 5] rfl) ⟨Nat.zero_le _, by decide, by decide, Iff.rfl⟩ ?_
      rintro ⟨j, b⟩ ⟨i1, i2, i3, i4⟩
      dsimp only at i1 i2 i3 i4 ⊢
      refine exec_ok tab_ok mixed 1000 (bx := []) (own := []) ?_
      rcases Nat.lt_or_ge j ms.length with q | q
      · obtain ⟨x, hx0⟩ := at_lt q
        have hx := s.ati hx0
        have hxd := hb x (List.mem_of_getElem? hx)
        have hxo := opOf_big hxd
        rw [drop_of_get hx0, fits] at i4
        by_cases ho : okOp h.len_ (opOf x)
        · have hd := dat_len ho
          by_cases hlt : (opOf x).off_ < b
          · repeat' ((conv => whnf); first
              | refine PairK.mk (by kernel_rfl) ?_ | refine Exists.intro _ (And.intro (map_at (by omega) h0) ?_) | refine Exists.intro _ (And.intro (map_at (by omega) hx) ?_) | refine And.intro (by decide) ?_ | refine And.intro rfl ?_ | refine And.intro (by omega) ?_ | refine Exists.intro _ (And.intro (⟨(List.length_map _).symm⟩) ?_) | refine Exists.intro _ (And.intro (w64 (by omega) (by omega)) ?_) | refine Pure.call (f40_ok _) ?_ | refine Pure.call (f41_ok _ hxo) ?_ | refine Pure.locK (f29_ok _ _ hxo) ?_ | refine boolF_not ?_ | refine boolF_dect (by assumption) ?_ | refine boolF_dect (by omega) ?_)
            all_goals (conv => whnf)
            have hnf : ¬ fits h.len_ 0 ms := fun hf => by have := (i4.mpr hf).2.1; omega
            exact ⟨by rw [hc, if_neg hnf]⟩
          · repeat' ((conv => whnf); first
              | refine PairK.mk (by kernel_rfl) ?_ | refine Exists.intro _ (And.intro (map_at (by omega) h0) ?_) | refine Exists.intro _ (And.intro (map_at (by omega) hx) ?_) | refine And.intro (by decide) ?_ | refine And.intro rfl ?_ | refine And.intro (by omega) ?_ | refine Exists.intro _ (And.intro (⟨(List.length_map _).symm⟩) ?_) | refine Exists.intro _ (And.intro (w64 (by omega) (by omega)) ?_) | refine Pure.call (f40_ok _) ?_ | refine Pure.call (f41_ok _ hxo) ?_ | refine Pure.locK (f29_ok _ _ hxo) ?_ | refine boolF_not ?_ | refine boolF_dect (by assumption) ?_ | refine boolF_dect (by omega) ?_
              | refine boolF_decf (by omega) ?_)
            all_goals (conv => whnf)
            refine ⟨(j + 1, endOf (opOf x)), Ghost.back [0, 4, 5] 0 rfl rfl (Nat.zero_le _) (by simp [scs, D.sc, scd43]) (fun ob hob => by cases hob), ⟨q, ?_, ?_, ?_⟩, by dsimp only; omega⟩
            · simp only [endOf]; have := ho.2.2.1; omega
            · simp only [endOf]; have := ho.2.1; omega
            · rw [← i4]; exact ⟨fun hf => ⟨ho, by omega, hf⟩, fun hf => hf.2.2⟩
        · repeat' ((conv => whnf); first
            | refine PairK.mk (by kernel_rfl) ?_ | refine Exists.intro _ (And.intro (map_at (by omega) h0) ?_) | refine Exists.intro _ (And.intro (map_at (by omega) hx) ?_) | refine And.intro (by decide) ?_ | refine And.intro rfl ?_ | refine And.intro (by omega) ?_ | refine Exists.intro _ (And.intro (⟨(List.length_map _).symm⟩) ?_) | refine Exists.intro _ (And.intro (w64 (by omega) (by omega)) ?_) | refine Pure.call (f40_ok _) ?_ | refine Pure.call (f41_ok _ hxo) ?_ | refine Pure.locK (f29_ok _ _ hxo) ?_ | refine boolF_not ?_ | refine boolF_decf (by assumption) ?_ | refine boolF_dect (by omega) ?_)
          all_goals (conv => whnf)
          have hnf : ¬ fits h.len_ 0 ms := fun hf => ho (i4.mpr hf).1
          exact ⟨by rw [hc, if_neg hnf]⟩
      · repeat' ((conv => whnf); first
          | refine Exists.intro _ (And.intro (map_at (by omega) hn) ?_) | refine And.intro rfl ?_ | refine And.intro (by omega) ?_ | refine Exists.intro _ (And.intro (⟨(List.length_map _).symm⟩) ?_) | refine Exists.intro _ (And.intro (w64 (by omega) (by omega)) ?_) | refine boolF_not ?_ | refine boolF_dect (by omega) ?_ | refine boolF_decf (by omega) ?_)
        all_goals (conv => whnf)
        rw [List.drop_of_length_le q] at i4
        exact ⟨by rw [hc, if_pos (i4.mp trivial)]⟩

end Go.Proofs.Ytjoeonhmejnkmaa


namespace Go.Proofs.Ytjoeonhmejnkmaa
open Go.A
set_option linter.unusedVariables false
set_option linter.unusedSimpArgs false
set_option linter.unnecessarySimpa false
attribute [local irreducible] IntKind.wrap bitsI
open B
set_option maxRecDepth 100000
set_option maxHeartbeats 4000000

def kd (o : Op) : Int := if o.kind_ = 1 then 2 else if o.kind_ = 2 then 3 else 0
def recOf (o : Op) : Rec := ⟨kd o, 0, 0, 0, 0, o.off_, o.len_, o.data_⟩
def tailR (n : Nat) : Rec := ⟨4, 0, 0, 0, 0, 0, (n : Int), []⟩
def strmL (h : Rec) (ops : List Op) : List Rec := h :: (ops.map recOf ++ [tailR ops.length])
def buildM (h : Rec) (ops : List Op) : List Rec × Int :=
  if h.kind_ ≠ 1 ∨ ¬ mayR h then ([], 1) else if checkM (strmL h ops) h (ops.map recOf) = 0 then (strmL h ops, 0) else ([], checkM (strmL h ops) h (ops.map recOf))

def sofar (h : Rec) (ops : List Op) (i : Nat) : List Rec := h :: (ops.take i).map recOf
theorem sofar_len (h : Rec) (ops : List Op) (i : Nat) (hi : i ≤ ops.length) : (sofar h ops i).length = i + 1 := by simp [sofar]; omega
theorem sofar_snoc (h : Rec) {ops : List Op} {i : Nat} {x : Op} (hx : ops[i]? = some x) : sofar h ops (i + 1) = sofar h ops i ++ [recOf x] := by
  simp [sofar, List.take_add_one, hx]

def ownB (p : List Rec × Int) (o ver : Nat) : D := .tup [.h o ver 0 p.1.length, .int .i64 p.2]
def OwnB (f : FuncId) (args : List D) (p : List Rec × Int) : Prop := OwnedR Try.prog f args (ownB p) 8 (p.1.map r26)
theorem ownB_res (p : List Rec × Int) : ∀ (ρ : Nat → Nat) ver, ren ρ (ownB p 0 ver) = ownB p (ρ 0) ver := fun _ _ => rfl
theorem ownB_err (e : Int) (H : List AObj) : ∃ ver, Ghost 0 [.tup [.nils, .int .i64 e]] H [ownB ([], e) 0 ver] [.arr ver 8 (([] : List Rec).map r26)] := by
  refine ⟨0, (Ghost.matD (sz := 8) (s' := [.tup [.h H.length 0 0 0, .int .i64 e]]) (.cons (.tup (.cons .nil (.cons .refl .nil))) .nil)).trans ?_⟩
  refine Ghost.pick [H.length] (by simp) rfl (fun i o ob' h1 h2 => ?_) rfl ⟨⟨Nat.zero_lt_one, trivial, trivial⟩, trivial⟩ (fun ob hob => by simp at hob; subst hob; trivial)
  cases i with
  | zero => simp at h1 h2; subst h1 h2; simp [renO, renL]
  | succ i => simp at h1
theorem ownB_ok (e : Int) (l : List Rec) (k w n : Nat) (H : List AObj) (hn : n = l.length) (hk : H[k]? = some (.arr w 8 (l.map r26))) : ∃ ver, Ghost 0 [.tup [.h k w 0 n, .int .i64 e]] H [ownB (l, e) 0 ver] [.arr ver 8 (l.map r26)] := by
  subst hn
  refine ⟨w, Ghost.pick [k] (by simp) rfl (fun i o ob' h1 h2 => ?_) rfl ⟨⟨Nat.zero_lt_one, trivial, trivial⟩, trivial⟩ (fun ob hob => by simp at hob; subst hob; exact scr26 _ _)⟩
  cases i with
  | zero => simp at h1 h2; subst h1 h2; simp only [renO]; rw [renL_sc0 _ _ (scr26 _ _)]; exact hk
  | succ i => simp at h1
theorem OwnB.pure {f : FuncId} {args : List D} {p : List Rec × Int} (h : OwnB f args p) : Pure Try.prog f args (.tup [d43 p.1, .int .i64 p.2]) :=
  OwnedR.pure h ⟨scd43 _ _, trivial, trivial⟩ (fun ver => .tup (.cons (.h (all_take rfl)) (.cons (.refl _) .nil)))

theorem f16_own (h : Rec) (ops : List Op) (hd : h.data_.length ≤ 140737488351232) (hn : ops.length ≤ 1048576) (ho : bigD ops) : OwnB 16 [d26 h, d42 ops] (buildM h ops) := by
  refine OwnedR.of ⟨scd26 _ _, scd42 _ _, trivial⟩ (scr26 _ _) (ownB_res _) ?_
  refine CallsIn.of_exec tab_ok mixed Try.func16 rfl rfl [19] [] ?_
  by_cases k1 : h.kind_ = 1
  case neg =>
    rw [buildM, if_pos (.inl k1)]
    repeat' ((conv => whnf); first
      | refine boolF_not ?_ | refine boolF_decf (by assumption) ?_)
    all_goals (conv => whnf)
    exact ⟨ownB_err 1 _⟩
  by_cases k2 : mayR h
  case neg =>
    rw [buildM, if_pos (.inr k2)]
    repeat' ((conv => whnf); first
      | refine Pure.call (f26_ok _ hd) ?_ | refine boolF_not ?_ | refine boolF_dect (by assumption) ?_ | refine boolF_decf (by assumption) ?_)
    all_goals (conv => whnf)
    exact ⟨ownB_err 1 _⟩
  · rw [buildM, if_neg (by simp [k1, k2])]
    repeat' ((conv => whnf); first
      | refine Pure.call (f26_ok _ hd) ?_ | refine boolF_not ?_ | refine boolF_dect (by assumption) ?_)
    all_goals (conv => whnf)
    refine W_loopG (ι := Nat × Nat) (fun i => ⟨(D.undef :: d42 ops :: D.undef :: D.undef :: D.undef :: D.undef :: .h 0 i.2 0 (sofar h ops i.1).length :: .int .i64 (i.1 : Int) :: D.undef :: D.undef :: D.undef :: D.undef :: D.undef :: D.undef :: D.undef :: D.undef :: D.undef :: D.undef :: D.undef :: D.undef :: D.undef :: D.undef :: D.undef :: D.undef :: D.undef :: D.undef :: D.undef :: D.undef :: D.undef :: D.undef :: D.undef :: D.undef :: D.undef :: D.undef :: D.undef :: D.undef :: D.undef :: D.undef :: D.undef :: D.undef :: D.undef :: D.undef :: D.undef :: D.undef :: D.undef :: D.undef :: D.undef :: D.undef :: D.undef :: D.undef :: D.undef :: D.undef :: D.undef :: D.undef :: D.undef :: D.undef :: D.undef :: D.undef :: D.undef :: D.undef :: D.undef :: D.undef :: D.undef :: D.undef :: D.undef :: D.undef :: D.undef :: D.undef :: D.undef :: D.undef :: D.undef :: D.undef :: D.undef :: D.undef :: D.undef :: D.undef :: D.undef :: D.undef :: D.undef :: []), [.arr i.2 8 ((sofar h ops i.1).map r26)]⟩) (fun i => ops.length - i.1)
      (fun i => i.1 ≤ ops.length) (0, 0) (Ghost.hold [1, 6, 7] rfl) (Nat.zero_le _) ?_
    rintro ⟨i, ver⟩ i1
    dsimp only at i1 ⊢
    have hsl := sofar_len h ops i i1
    rcases Nat.lt_or_ge i ops.length with g | g
    · obtain ⟨x, hx⟩ := at_lt g
      refine exec_ok tab_ok mixed 1000 (bx := [false]) (own := []) ?_
      by_cases q1 : x.kind_ = 1
      · repeat' ((conv => whnf); first
          | refine PairK.mk (by kernel_rfl) ?_ | refine Exists.intro _ (And.intro (map_at (by omega) hx) ?_) | refine And.intro (by rw [List.length_map]; done) ?_ | refine And.intro (by decide) ?_ | refine And.intro rfl ?_ | refine And.intro (by omega) ?_ | refine And.intro (okRows_one rfl rfl) ?_ | refine Exists.intro _ (And.intro (⟨(List.length_map _).symm⟩) ?_) | refine Exists.intro _ (And.intro (⟨len_one⟩) ?_) | refine Exists.intro _ (And.intro (⟨Eq.refl (α := List D) _⟩) ?_) | refine Exists.intro _ (And.intro (w64 (by omega) (by omega)) ?_) | refine boolF_not ?_
          | refine boolF_dect (by assumption) ?_ | refine boolF_dect (by omega) ?_)
        all_goals (conv => whnf)
        refine ⟨(i + 1, ver + 1), Ghost.back [1, 6, 7] 1 ?_ ?_ (Nat.zero_le _) (by simp [scs, D.sc, scd42]) (by simp only [List.mem_singleton]; intro ob hob; subst hob; exact scr26 _ _), g, by dsimp only; omega⟩
        · dsimp only; rw [sofar_snoc h hx, List.length_append]; rfl
        · dsimp only; simp [sofar_snoc h hx, r26, c26, recOf, kd, q1, d3]
      · by_cases q2 : x.kind_ = 2
        · repeat' ((conv => whnf); first
            | refine PairK.mk (by kernel_rfl) ?_ | refine Exists.intro _ (And.intro (map_at (by omega) hx) ?_) | refine And.intro (by rw [List.length_map]; done) ?_ | refine And.intro (by decide) ?_ | refine And.intro rfl ?_ | refine And.intro (by omega) ?_ | refine And.intro (okRows_one rfl rfl) ?_ | refine Exists.intro _ (And.intro (⟨(List.length_map _).symm⟩) ?_) | refine Exists.intro _ (And.intro (⟨len_one⟩) ?_) | refine Exists.intro _ (And.intro (⟨Eq.refl (α := List D) _⟩) ?_) | refine Exists.intro _ (And.intro (w64 (by omega) (by omega)) ?_) | refine boolF_not ?_
            | refine boolF_dect (by assumption) ?_ | refine boolF_decf (by assumption) ?_ | refine boolF_dect (by omega) ?_)
          all_goals (conv => whnf)
          refine ⟨(i + 1, ver + 1), Ghost.back [1, 6, 7] 1 ?_ ?_ (Nat.zero_le _) (by simp [scs, D.sc, scd42]) (by simp only [List.mem_singleton]; intro ob hob; subst hob; exact scr26 _ _), g, by dsimp only; omega⟩
          · dsimp only; rw [sofar_snoc h hx, List.length_append]; rfl
          · dsimp only; simp [sofar_snoc h hx, r26, c26, recOf, kd, q1, q2, d3]
        · repeat' ((conv => whnf); first
            | refine Exists.intro _ (And.intro (map_at (by omega) hx) ?_) | refine And.intro rfl ?_ | refine And.intro (by omega) ?_ | refine Exists.intro _ (And.intro (⟨(List.length_map _).symm⟩) ?_) | refine boolF_dect (by omega) ?_)
          all_goals (conv => whnf)
          refine Exists.intro (IntKind.i64.wrap (x.kind_ + 1)) (And.intro rfl ?_)
          generalize IntKind.i64.wrap (x.kind_ + 1) = z
          repeat' ((conv => whnf); first
            | refine PairK.mk (by kernel_rfl) ?_ | refine Exists.intro _ (And.intro (map_at (by omega) hx) ?_) | refine And.intro (by rw [List.length_map]; done) ?_ | refine And.intro (by decide) ?_ | refine And.intro rfl ?_ | refine And.intro (Nat.le_of_ble_eq_true rfl) ?_ | refine And.intro (by omega) ?_ | refine And.intro (okRows_one rfl rfl) ?_ | refine Exists.intro _ (And.intro (⟨len_one⟩) ?_) | refine Exists.intro _ (And.intro (⟨Eq.refl (α := List D) _⟩) ?_) | refine Exists.intro _ (And.intro (w64 (by omega) (by omega)) ?_) | refine boolF_not ?_ | refine boolF_decf (by assumption) ?_)
          all_goals (conv => whnf)
          refine ⟨(i + 1, ver + 1), Ghost.back [1, 6, 7] 1 ?_ ?_ (Nat.zero_le _) (by simp [scs, D.sc, scd42]) (by simp only [List.mem_singleton]; intro ob hob; subst hob; exact scr26 _ _), g, by dsimp only; omega⟩
          · dsimp only; rw [sofar_snoc h hx, List.length_append]; rfl
          · dsimp only; simp [sofar_snoc h hx, r26, c26, recOf, kd, q1, q2, d3]
    · have hsf : sofar h ops i = h :: ops.map recOf := by rw [sofar, List.take_of_length_le g]
      have hst : strmL h ops = sofar h ops i ++ [tailR ops.length] := by rw [hsf]; rfl
      have hS : Strm (strmL h ops) h (ops.map recOf) (tailR ops.length) := ⟨rfl, k1, rfl⟩
      have hSl : (strmL h ops).length = ops.length + 2 := by rw [hS.len, List.length_map]
      have hbig : bigR (strmL h ops) := fun r hr => by
        rcases List.mem_cons.mp hr with rfl | hr
        · exact hd
        · rcases List.mem_append.mp hr with hr | hr
          · obtain ⟨o, ho', rfl⟩ := List.mem_map.mp hr
            exact ho o ho'
          · simp only [List.mem_singleton] at hr; subst hr; exact Nat.zero_le _
      have hkind : ∀ m ∈ ops.map recOf, m.kind_ ≠ 1 ∧ m.kind_ ≠ 4 := fun m hm => by
        obtain ⟨o, _, rfl⟩ := List.mem_map.mp hm
        show kd o ≠ 1 ∧ kd o ≠ 4
        rw [kd]
        split
        · decide
        · split <;> decide
      have hchk := f27_ok hS (by omega) hbig hkind (by rw [List.length_map]; rfl)
      refine exec_ok tab_ok mixed 8 (bx := [false]) (own := []) ?_
      repeat' ((conv => whnf); first
        | refine And.intro (by rw [List.length_map]; done) ?_ | refine And.intro (by decide) ?_ | refine And.intro rfl ?_ | refine And.intro (by omega) ?_ | refine And.intro (okRows_one rfl rfl) ?_ | refine Exists.intro _ (And.intro (⟨(List.length_map _).symm⟩) ?_) | refine Exists.intro _ (And.intro (⟨len_one⟩) ?_) | refine Exists.intro _ (And.intro (⟨Eq.refl (α := List D) _⟩) ?_) | refine boolF_decf (by omega) ?_)
      all_goals (conv => whnf)
      refine W_ghost (s' := (D.undef :: D.undef :: D.undef :: D.undef :: D.undef :: D.undef :: .h 0 (ver + 1) 0 (strmL h ops).length :: D.undef :: D.undef :: D.undef :: D.undef :: D.undef :: D.undef :: D.undef :: D.undef :: D.undef :: D.undef :: D.undef :: D.undef :: D.undef :: D.undef :: D.undef :: D.undef :: D.undef :: D.undef :: D.undef :: D.undef :: D.undef :: D.undef :: D.undef :: D.undef :: D.undef :: D.undef :: D.undef :: D.undef :: D.undef :: D.undef :: D.undef :: D.undef :: D.undef :: D.undef :: D.undef :: D.undef :: D.undef :: D.undef :: D.undef :: D.undef :: D.undef :: D.undef :: D.undef :: D.undef :: D.undef :: D.undef :: D.undef :: D.undef :: D.undef :: D.undef :: D.undef :: D.undef :: D.undef :: D.undef :: D.undef :: D.undef :: D.undef :: D.undef :: D.undef :: D.undef :: D.undef :: D.undef :: D.undef :: D.undef :: D.undef :: D.undef :: D.undef :: D.undef :: D.undef :: D.undef :: D.undef :: D.undef :: [])) (H' := [.arr (ver + 1) 8 ((strmL h ops).map r26)]) ((Ghost.re (o := 0) (rows' := (strmL h ops).map r26) rfl ?_).trans (Ghost.hold [6] ?_)) ?_
      · rw [hst, List.map_append]
        exact Fzl.snoc (.cons .refl (.cons .refl (.cons .refl (.cons .refl (.cons .refl (.cons .refl (.cons .refl (.cons .nils .nil))))))))
      · rw [hst, List.length_append]; rfl
      refine exec_ok tab_ok mixed 1000 (bx := [false]) (own := []) ?_
      (conv => whnf)
      refine Pure.seeK hchk [(0, .arr (ver + 1) 8 ((strmL h ops).map r26))] (fact1 rfl) (.cons (.h List.mem_cons_self (.all (scr26 _ _)) (all_take rfl)) .nil) trivial trivial ?_
      generalize hL : strmL h ops = L at hchk hSl ⊢
      generalize hE : checkM L h (ops.map recOf) = e at hchk ⊢
      by_cases he : e = 0
      · rw [if_pos he]
        repeat' ((conv => whnf); first
          | refine boolF_not ?_ | refine boolF_dect (by assumption) ?_)
        all_goals (conv => whnf)
        exact ⟨ownB_ok 0 _ 0 _ _ _ rfl rfl⟩
      · rw [if_neg he]
        repeat' ((conv => whnf); first
          | refine boolF_not ?_ | refine boolF_decf (by assumption) ?_)
        all_goals (conv => whnf)
        exact ⟨ownB_err e _⟩

end Go.Proofs.Ytjoeonhmejnkmaa

