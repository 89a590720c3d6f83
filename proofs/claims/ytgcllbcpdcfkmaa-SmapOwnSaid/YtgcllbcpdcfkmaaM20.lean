import Derived.Test.YtgcllbcpdcfkmaaM11
import Derived.Test.YtgcllbcpdcfkmaaA31
namespace Go.Proofs.Ytgcllbcpdcfkmaa
open Go.A
set_option linter.unusedVariables false
set_option linter.unusedSimpArgs false
set_option linter.unnecessarySimpa false
attribute [local irreducible] IntKind.wrap bitsI
set_option maxRecDepth 100000
set_option maxHeartbeats 4000000

/-- A map and an error, answered with the pieces owned. -/
def ownR (p : T24 × Int) (o ver : Nat) : D := .tup [.agg [d3 p.1.version_, d3 p.1.n_, .h o ver 0 p.1.pieces_.length], d3 p.2]
def OwnM (f : FuncId) (args : List D) (p : T24 × Int) : Prop := OwnedR Try.prog f args (ownR p) 3 (p.1.pieces_.map r59)

theorem ownR_res (p : T24 × Int) : ∀ (ρ : Nat → Nat) ver, ren ρ (ownR p 0 ver) = ownR p (ρ 0) ver := fun _ _ => rfl
theorem ownR_rn (p : T24 × Int) : ∀ k ver o, Rn k ver o (p.1.pieces_.map r59).length (ownR p k ver) (ownR p o 1) := fun k ver o => by
  rw [List.length_map]
  exact .tup (.cons (.agg (.cons (.refl trivial) (.cons (.refl trivial) (.cons .h .nil)))) (.cons (.refl trivial) .nil))

theorem own_err (e : Int) (H : List AObj) : ∃ ver, Ghost 0 [.tup [.agg [.int .i64 0, .int .i64 0, .nils], .int .i64 e]] H [ownR (⟨0, 0, []⟩, e) 0 ver] [.arr ver 3 (([] : List T58).map r59)] := by
  refine ⟨0, (Ghost.matD (sz := 3) (s' := [.tup [.agg [.int .i64 0, .int .i64 0, .h H.length 0 0 0], .int .i64 e]]) (.cons (.tup (.cons (.agg (.cons .refl (.cons .refl (.cons .nil .nil)))) (.cons .refl .nil))) .nil)).trans ?_⟩
  refine Ghost.pick [H.length] (by simp) rfl (fun i o ob' h1 h2 => ?_) rfl ⟨⟨⟨trivial, trivial, Nat.zero_lt_one, trivial⟩, trivial, trivial⟩, trivial⟩ (fun ob hob => by simp at hob; subst hob; trivial)
  cases i with
  | zero => simp at h1 h2; subst h1 h2; simp [renO, renL]
  | succ i => simp at h1

theorem own_ok (v n e : Int) (l : List T58) (k w : Nat) (H : List AObj) (hk : H[k]? = some (.arr w 3 (l.map r59))) : ∃ ver, Ghost 0 [.tup [.agg [d3 v, d3 n, .h k w 0 l.length], d3 e]] H [ownR (⟨v, n, l⟩, e) 0 ver] [.arr ver 3 (l.map r59)] := by
  refine ⟨w, Ghost.pick [k] (by simp) rfl (fun i o ob' h1 h2 => ?_) rfl ⟨⟨⟨trivial, trivial, Nat.zero_lt_one, trivial⟩, trivial, trivial⟩, trivial⟩ (fun ob hob => by simp at hob; subst hob; exact scr59 _ _)⟩
  cases i with
  | zero => simp at h1 h2; subst h1 h2; simp only [renO]; rw [renL_sc0 _ _ (scr59 _ _)]; exact hk
  | succ i => simp at h1

theorem f36_own (m : T24) (a b : Nat) (l : List T58) (hm : ok25 m) (hv : m.version_ ≤ 1099511627776) (hmp : m.pieces_.length ≤ 16) (ha : a ≤ m.pieces_.length) (hb : b ≤ m.pieces_.length) (hl : l.length ≤ 16) :
    OwnM 36 [d25 m, .int .i64 (a : Int), .int .i64 (b : Int), d23 l] (nextM m (m.pieces_.take a ++ l ++ m.pieces_.drop b)) := by
  have hv0 := hm.1
  simp only [ok3] at hv0
  refine OwnedR.of ⟨sc25 _ _, trivial, trivial, sc23 _ _, trivial⟩ (scr59 _ _) (ownR_res _) ?_
  refine CallsIn.of_exec tab_ok mixed Try.func36 rfl rfl [] [] ?_
  repeat' ((conv => whnf); first
    | refine PairK.mk (by kernel_rfl) ?_ | refine And.intro (by decide) ?_ | refine And.intro rfl ?_ | refine And.intro (List.cons_ne_nil _ _) ?_ | refine And.intro (Nat.le_of_ble_eq_true rfl) ?_ | refine And.intro (by omega) ?_ | refine And.intro (by simp only [List.length_map, List.length_append, List.length_cons, List.length_nil]; omega) ?_ | refine And.intro (by simpa only [List.length_map, List.length_append, List.length_cons, List.length_nil] using rfl) ?_ | refine And.intro (Eq.symm (List.length_map _)) ?_ | refine And.intro (all_map (fun _ => rfl)) ?_
    | refine And.intro (cells_map (fun _ => rfl)) ?_ | refine And.intro (rows_map (fun _ => rfl) (fun _ => rfl)) ?_ | refine And.intro (okRows_one rfl rfl) ?_ | refine And.intro (okRows_all rfl) ?_ | refine boolF_t (beq_self_eq_true _) ?_ | refine Exists.intro _ (And.intro (map_get (by assumption)) ?_) | refine Exists.intro _ (And.intro (Eq.refl (α := Option D) _) ?_) | refine Exists.intro _ (And.intro (⟨(List.length_map _).symm⟩) ?_) | refine Exists.intro _ (And.intro (⟨len_one⟩) ?_) | refine Exists.intro _ (And.intro (⟨len_two⟩) ?_) | refine Exists.intro _ (And.intro (⟨len_three⟩) ?_)
    | refine Exists.intro _ (And.intro (⟨len_four⟩) ?_) | refine Exists.intro _ (And.intro (⟨lenl_1⟩) ?_) | refine Exists.intro _ (And.intro (⟨lenl_2⟩) ?_) | refine Exists.intro _ (And.intro (⟨lenl_3⟩) ?_) | refine Exists.intro _ (And.intro (⟨lenl_4⟩) ?_) | refine Exists.intro _ (And.intro (⟨len_more⟩) ?_) | refine Exists.intro _ (And.intro (⟨map_slice⟩) ?_) | refine Exists.intro _ (And.intro (⟨List.map_take⟩) ?_) | refine Exists.intro _ (And.intro (⟨List.map_drop⟩) ?_) | refine Exists.intro _ (And.intro (⟨map_full'⟩) ?_) | refine Exists.intro _ (And.intro (⟨map_full⟩) ?_)
    | refine Exists.intro _ (And.intro (⟨map_snoc⟩) ?_) | refine Exists.intro _ (And.intro (⟨List.map_append⟩) ?_) | refine Exists.intro _ (And.intro (⟨Eq.refl (α := List D) _⟩) ?_) | refine Exists.intro _ (And.intro (⟨Eq.refl (α := Int) _⟩) (And.intro (by omega) ?_)) | refine Exists.intro (0) (And.intro (⟨rfl⟩) (And.intro (Nat.zero_le _) ?_)) | refine Exists.intro _ (And.intro (⟨nc1⟩) (And.intro (by omega) ?_)) | refine Exists.intro _ (Exists.intro _ (And.intro (⟨Eq.refl (α := Int) _⟩) (And.intro (⟨Eq.refl (α := Int) _⟩) (And.intro (by omega) (And.intro (by omega) ?_)))))
    | refine Exists.intro _ (Exists.intro _ (And.intro (⟨Eq.refl (α := Nat) _⟩) (And.intro (⟨Eq.refl (α := Nat) _⟩) ?_))) | refine Exists.intro _ (And.intro (⟨Eq.refl (α := Nat) _⟩) ?_) | refine Exists.intro _ (And.intro (w64 (by omega) (by omega)) ?_) | refine Exists.intro _ (And.intro (imin) ?_) | refine Exists.intro _ (And.intro (imax) ?_) | refine boolF_not ?_ | refine boolF_dect rfl ?_ | refine boolF_dect (by assumption) ?_ | refine boolF_decf (by assumption) ?_ | refine boolF_dect (by omega) ?_ | refine boolF_decf (by omega) ?_ | refine boolF_beqt (by omega) ?_
    | refine boolF_beqf (by omega) ?_ | refine boolF_bnet (by omega) ?_ | refine boolF_bnef (by omega) ?_ | refine boolF_t (by assumption) ?_ | refine boolF_f (by assumption) ?_ | refine boolF_dec (fun _ => ?_) (fun _ => ?_) | refine boolF_beq (fun _ => ?_) (fun _ => ?_) | refine boolF_bne (fun _ => ?_) (fun _ => ?_) | refine boolF_leq (fun _ => ?_) (fun _ => ?_) | refine Both.mk ?_ ?_)
  all_goals (conv => whnf)
  · rw [next_far (by omega)]; exact ⟨own_err 6 _⟩
  · rw [next_near (by omega)]
    refine Owned.locK (f41_ok [m.pieces_.take a, l, m.pieces_.drop b] (by simp) (by simp; omega)) ?_
    repeat' ((conv => whnf); first
      | refine PairK.mk (by kernel_rfl) ?_ | refine And.intro (by decide) ?_ | refine And.intro rfl ?_ | refine And.intro (List.cons_ne_nil _ _) ?_ | refine And.intro (Nat.le_of_ble_eq_true rfl) ?_ | refine And.intro (by omega) ?_ | refine And.intro (by simp only [List.length_map, List.length_append, List.length_cons, List.length_nil]; omega) ?_ | refine And.intro (by simpa only [List.length_map, List.length_append, List.length_cons, List.length_nil] using rfl) ?_ | refine And.intro (Eq.symm (List.length_map _)) ?_ | refine And.intro (all_map (fun _ => rfl)) ?_
      | refine And.intro (cells_map (fun _ => rfl)) ?_ | refine And.intro (rows_map (fun _ => rfl) (fun _ => rfl)) ?_ | refine And.intro (okRows_one rfl rfl) ?_ | refine And.intro (okRows_all rfl) ?_ | refine boolF_t (beq_self_eq_true _) ?_ | refine Exists.intro _ (And.intro (map_get (by assumption)) ?_) | refine Exists.intro _ (And.intro (Eq.refl (α := Option D) _) ?_) | refine Exists.intro _ (And.intro (⟨(List.length_map _).symm⟩) ?_) | refine Exists.intro _ (And.intro (⟨len_one⟩) ?_) | refine Exists.intro _ (And.intro (⟨len_two⟩) ?_) | refine Exists.intro _ (And.intro (⟨len_three⟩) ?_)
      | refine Exists.intro _ (And.intro (⟨len_four⟩) ?_) | refine Exists.intro _ (And.intro (⟨lenl_1⟩) ?_) | refine Exists.intro _ (And.intro (⟨lenl_2⟩) ?_) | refine Exists.intro _ (And.intro (⟨lenl_3⟩) ?_) | refine Exists.intro _ (And.intro (⟨lenl_4⟩) ?_) | refine Exists.intro _ (And.intro (⟨len_more⟩) ?_) | refine Exists.intro _ (And.intro (⟨map_slice⟩) ?_) | refine Exists.intro _ (And.intro (⟨List.map_take⟩) ?_) | refine Exists.intro _ (And.intro (⟨List.map_drop⟩) ?_) | refine Exists.intro _ (And.intro (⟨map_full'⟩) ?_) | refine Exists.intro _ (And.intro (⟨map_full⟩) ?_)
      | refine Exists.intro _ (And.intro (⟨map_snoc⟩) ?_) | refine Exists.intro _ (And.intro (⟨List.map_append⟩) ?_) | refine Exists.intro _ (And.intro (⟨Eq.refl (α := List D) _⟩) ?_) | refine Exists.intro _ (And.intro (⟨Eq.refl (α := Int) _⟩) (And.intro (by omega) ?_)) | refine Exists.intro (0) (And.intro (⟨rfl⟩) (And.intro (Nat.zero_le _) ?_)) | refine Exists.intro _ (And.intro (⟨nc1⟩) (And.intro (by omega) ?_)) | refine Exists.intro _ (Exists.intro _ (And.intro (⟨Eq.refl (α := Int) _⟩) (And.intro (⟨Eq.refl (α := Int) _⟩) (And.intro (by omega) (And.intro (by omega) ?_)))))
      | refine Exists.intro _ (Exists.intro _ (And.intro (⟨Eq.refl (α := Nat) _⟩) (And.intro (⟨Eq.refl (α := Nat) _⟩) ?_))) | refine Exists.intro _ (And.intro (⟨Eq.refl (α := Nat) _⟩) ?_) | refine Exists.intro _ (And.intro (w64 (by omega) (by omega)) ?_) | refine Exists.intro _ (And.intro (imin) ?_) | refine Exists.intro _ (And.intro (imax) ?_) | refine boolF_not ?_ | refine boolF_dect rfl ?_ | refine boolF_dect (by assumption) ?_ | refine boolF_decf (by assumption) ?_ | refine boolF_dect (by omega) ?_ | refine boolF_decf (by omega) ?_ | refine boolF_beqt (by omega) ?_
      | refine boolF_beqf (by omega) ?_ | refine boolF_bnet (by omega) ?_ | refine boolF_bnef (by omega) ?_ | refine boolF_t (by assumption) ?_ | refine boolF_f (by assumption) ?_ | refine boolF_dec (fun _ => ?_) (fun _ => ?_) | refine boolF_beq (fun _ => ?_) (fun _ => ?_) | refine boolF_bne (fun _ => ?_) (fun _ => ?_) | refine boolF_leq (fun _ => ?_) (fun _ => ?_) | refine Both.mk ?_ ?_)
    all_goals (conv => whnf)
    have e : [m.pieces_.take a, l, m.pieces_.drop b].flatten = m.pieces_.take a ++ l ++ m.pieces_.drop b := by simp
    rw [e, List.length_map]
    exact ⟨own_ok (m.version_ + 1) m.n_ 0 (m.pieces_.take a ++ l ++ m.pieces_.drop b) 1 1 _ (by rfl)⟩

end Go.Proofs.Ytgcllbcpdcfkmaa

