import Derived.Test.YtbefmodpgecfgaaD6
namespace Go.Proofs.Ytbefmodpgecfgaa
open Go.A
set_option linter.unusedVariables false
set_option linter.unusedSimpArgs false
set_option linter.unnecessarySimpa false
attribute [local irreducible] IntKind.wrap bitsI
set_option maxRecDepth 100000
set_option maxHeartbeats 4000000

def newK (n : Nat) : Dk := ⟨List.replicate n (zer 64), [], false, false, 0⟩
theorem newK_ok {n : Nat} (h : 1 ≤ n ∧ n ≤ 256) : OkK (newK n) := ⟨by simpa [newK] using h, fun x hx => by
  have := List.eq_of_mem_replicate hx
  subst this; rfl, fun x hx => by simp [newK] at hx, by simp [newK], show (0:Int) ≤ 0 ∧ (0:Int) ≤ 9223372036854775807 by decide⟩
theorem zer64 : (sD (zer 64)) = td63.zero := rfl
theorem f9_own (n : Nat) (h : 1 ≤ n ∧ n ≤ 256) : CallsIn Try.prog 9 [.int .i64 (n : Int)] [] fun r H => r = .tup [.p 2 0 0 0, .int .i64 0] ∧ H = [oP (newK n), oM (newK n), oS 0 1 (newK n)] := by
  obtain ⟨h1, h2⟩ := h
  refine CallsIn.of_exec tab_ok mixed Try.func9 rfl rfl [14] [] ?_
  repeat' ((conv => whnf); first
    | refine And.intro (show ((64 : Nat) : Int) * (n : Int) ≤ 281474976710656 by omega) ?_ | refine And.intro rfl ?_ | refine And.intro (by omega) ?_ | refine boolF_decf (by omega) ?_)
  all_goals (conv => whnf)
  refine ⟨⟨rfl, ?_⟩⟩
  simp only [oP, oM, oS, rowK, newK, List.map_replicate, zer64, List.length_replicate]
  rfl
theorem f9_bad (n : Int) (h : n < 1 ∨ 256 < n) : Pure Try.prog 9 [.int .i64 n] (.tup [.pnil, .int .i64 1]) := by
  refine Pure.of ⟨trivial, trivial⟩ ⟨trivial, trivial, trivial⟩ ?_
  refine CallsIn.of_exec tab_ok mixed Try.func9 rfl rfl [] [] ?_
  repeat' ((conv => whnf); first
    | refine boolF_dect (by omega) ?_ | refine boolF_dec (fun _ => ?_) (fun _ => ?_))
  all_goals (conv => whnf)
  all_goals (first | exact ⟨rfl⟩ | (exfalso; omega))
/-- A new disk, behind what is owned. -/
theorem newC {n : Nat} (h : 1 ≤ n ∧ n ≤ 256) (H : List AObj) {K : D → List AObj → Prop} (hk : K (.tup [.p (H.length + 2) 0 0 0, .int .i64 0]) (H ++ [oP (newK n), oM (newK n), oS H.length (H.length + 1) (newK n)])) : CallsIn Try.prog 9 [.int .i64 (n : Int)] H K :=
  CallsIn.mono (CallsIn.fresh (args := [.int .i64 (n : Int)]) ⟨trivial, trivial⟩ (f9_own n h) H) fun r' H' ⟨r0, H0, ⟨e1, e2⟩, e3, e4⟩ => by
    subst e1 e2 e3 e4
    have e : [oP (newK n), oM (newK n), oS 0 1 (newK n)].map (renO fun i => H.length + i) = [oP (newK n), oM (newK n), oS H.length (H.length + 1) (newK n)] := by
      show [renO _ (oP _), renO _ (oM _), renO _ (oS 0 1 _)] = _
      rw [renO_sc0 _ (scP0 _), renO_sc0 _ (scM0 _)]
      rfl
    rw [e]
    exact hk

theorem f12_nil (i : Int) (b : List Nat) : Pure Try.prog 12 [.pnil, .int .i64 i, d34 b] (.int .i64 2) := by
  refine Pure.of ⟨trivial, trivial, scr5 _ _, trivial⟩ trivial ?_
  refine CallsIn.of_exec tab_ok mixed Try.func12 rfl rfl [] [] ?_
  repeat' ((conv => whnf); first
    | refine Pure.call (f31_nil) ?_)
  all_goals (conv => whnf)
  exact ⟨rfl⟩

/-- Full. -/
def strO (l : List Nat) : ByteArray := strOf (l.map r5)
theorem okRows_rep {n sz : Nat} {z : D} (h : z.cells.length = sz) (h2 : z.cells.all D.one = true) : okRows sz (List.replicate n z) := fun y hy => by
  obtain rfl := List.eq_of_mem_replicate hy
  exact ⟨h, h2⟩
theorem pad_app (b : List Nat) : (pad b).map r5 = b.map r5 ++ List.replicate (64 - b.length) (D.int .u8 0) := by
  rw [pad, List.map_append, zer, List.map_replicate]; rfl
theorem u8_r5 (l : List Nat) : (l.map r5).all isU8 = true := by
  rw [List.all_eq_true]
  intro y hy
  obtain ⟨z, _, rfl⟩ := List.mem_map.mp hy; rfl
theorem take64 {l : List Nat} (h : l.length = 64) : ((l.map r5).drop 0).take 64 = l.map r5 := by
  rw [List.drop_zero, List.take_of_length_le (by rw [List.length_map]; omega)]
theorem pad_u8 (b : List Nat) (hb : b.length ≤ 64) : ((((pad b).map r5).drop 0).take 64).all isU8 = true := by rw [take64 (pad_len hb)]; exact u8_r5 _
theorem len64 {n : Nat} (h : n ≤ 64) : ((64 - n : Nat) : Int) = IntKind.i64.wrap (64 - (n : Int)) := by
  simp [IntKind.wrap, IntKind.bits, IntKind.signed]; omega
theorem f29_ok (b : List Nat) (hb : b.length ≤ 64) : Pure Try.prog 29 [d34 b] (.str (strO (pad b))) := by
  refine Pure.of ⟨scr5 _ _, trivial⟩ trivial ?_
  refine CallsIn.of_exec tab_ok mixed Try.func29 rfl rfl [] [] ?_
  repeat' ((conv => whnf); first
    | refine Exists.intro ((64 - b.length : Nat) : Int) (And.intro (len64 hb) ?_) | refine And.intro (okRows_map (fun _ _ => ⟨rfl, rfl⟩)) ?_ | refine And.intro (okRows_rep rfl rfl) ?_ | refine And.intro (List.length_map _).symm ?_ | refine Exists.intro 64 (And.intro (IsE.mk (show 64 = b.length + (List.replicate (64 - b.length) (D.int .u8 0)).length by rw [List.length_replicate]; omega)) ?_) | refine Exists.intro ((pad b).map r5) (And.intro (IsE.mk (pad_app b)) ?_) | refine And.intro (pad_u8 b hb) ?_ | refine And.intro (by decide) ?_ | refine And.intro (by omega) ?_
    | refine Exists.intro _ (And.intro (⟨(List.length_map _).symm⟩) ?_))
  all_goals (conv => whnf)
  exact ⟨congrArg D.str (by rw [take64 (pad_len hb)]; rfl)⟩
theorem f16_ok (a b : List Nat) (ha : ∀ x ∈ a, x < 256) (hb : ∀ x ∈ b, x < 256) : Pure Try.prog 16 [d34 a, d34 b] (.bool (decide (a = b))) := by
  refine Pure.of ⟨scr5 _ _, scr5 _ _, trivial⟩ trivial ?_
  refine CallsIn.of_exec tab_ok mixed Try.func16 rfl rfl [] [] ?_
  repeat' ((conv => whnf); first
    | refine And.intro (all_map (fun _ => rfl)) ?_)
  all_goals (conv => whnf)
  exact ⟨congrArg D.bool (by
    rw [Bool.eq_iff_iff, beq_iff_eq, decide_eq_true_eq]
    exact strOf_eq ha hb)⟩

end Go.Proofs.Ytbefmodpgecfgaa

