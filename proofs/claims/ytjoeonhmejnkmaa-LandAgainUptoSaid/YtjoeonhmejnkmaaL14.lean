import Derived.Test.YtjoeonhmejnkmaaL13
namespace Go.Proofs.Ytjoeonhmejnkmaa
open Go.A
set_option linter.unusedVariables false
set_option linter.unusedSimpArgs false
set_option linter.unnecessarySimpa false
attribute [local irreducible] IntKind.wrap bitsI
open B
set_option maxRecDepth 100000
set_option maxHeartbeats 4000000

def sm0 : Rec := ⟨1, 0, 1, 0, 0, 0, 4, []⟩
def sm1 : Rec := ⟨2, 0, 0, 0, 0, 2, 0, [5]⟩
def sm2 : Rec := ⟨4, 0, 0, 0, 0, 0, 1, []⟩
def smL : List Rec := [sm0, sm1, sm2]
theorem f20_ok : Pure Try.prog 20 [] (d43 smL) := by
  refine Pure.ofT trivial (scd43 _ _) ?_
  refine CallsIn.of_exec tab_ok mixed Try.func20 rfl rfl [] [] ?_
  (conv => whnf)
  refine ⟨Told.wk (.sl (.cons ?_ (.cons ?_ (.cons ?_ .nil))))⟩
  all_goals repeat (first | exact Wks.nil | refine Wks.cons .refl ?_ | refine Wks.cons .nils ?_)

def sb0 : Bt := newB 0 0 4
def sb1 : Bt := ⟨⟨1, 1, 0, [0, 0, 0, 0]⟩, 0, [0, 0, 0, 0], true, 0, 0, cm0⟩
def sb2 : Bt := ⟨⟨1, 2, 3, [0, 0, 5, 0]⟩, 0, [0, 0, 0, 0], true, 0, 0, cm0⟩
def sb3 : Bt := ⟨cm0, 1, [0, 0, 5, 0], true, 0, 0, cm0⟩
theorem st0 : takeM sb0 0 sm0 = (sb1, 0) := by rfl
theorem st1 : takeM sb1 1 sm1 = (sb2, 0) := by rfl
theorem st2 : takeM sb2 2 sm2 = (sb3, 0) := by rfl

def sbs (i : Nat) : Bt := if i = 0 then sb0 else if i = 1 then sb1 else if i = 2 then sb2 else sb3
theorem st_at {i : Nat} (h : i < 3) : ∃ r, smL[i]? = some r ∧ takeM (sbs i) (i : Int) r = (sbs (i + 1), 0) ∧ OkB (sbs i) ∧ r.data_.length ≤ 140737488351232 := by
  match i, h with
  | 0, _ => exact ⟨sm0, rfl, st0, ⟨by decide, by decide, by decide, by decide⟩, by decide⟩
  | 1, _ => exact ⟨sm1, rfl, st1, ⟨by decide, by decide, by decide, by decide⟩, by decide⟩
  | 2, _ => exact ⟨sm2, rfl, st2, ⟨by decide, by decide, by decide, by decide⟩, by decide⟩
theorem rd3 : readB sb3 2 1 = ([5], 0) := by rfl

theorem seeBo (o n : Nat) (ver : Nat) (b : Bt) {F : List (Nat × AObj)} (hF : (o, oB ver b) ∈ F) : Sees 0 (fun i => n + i) F (.p o ver 0 0) (.pe (cB b)) := .p hF (.all ⟨scB _ _, trivial⟩) rfl rfl
theorem readC {b : Bt} {ver o : Nat} {H : List AObj} {off n : Int} {p : List Nat × Int} (ho : H[o]? = some (oB ver b)) (hv : b.all.length ≤ 140737488351232) (hp : readB b off n = p) {K : D → List AObj → Prop}
    (hk : ∀ w, lenK H 0 fun o' => snocK H (.arr w 1 (p.1.map r63)) fun H' => K (ownW p o' w) H') : CallsIn Try.prog 12 [.p o ver 0 0, .int .i64 off, .int .i64 n] H K := by
  subst hp
  exact OwnedR.seeK (f12_own b off n hv) [(o, oB ver b)] (fact1 ho) (.cons (seeBo o _ ver b List.mem_cons_self) (.cons (.same trivial) (.cons (.same trivial) .nil))) (bares_map fun x => trivial) (fun v => ⟨trivial, trivial, trivial⟩) hk
theorem comingC {b : Bt} {ver o : Nat} {H : List AObj} (ho : H[o]? = some (oB ver b)) (hm : b.made = true) {K : D → List AObj → Prop}
    (hk : K (.tup [.int .i64 b.now.snap, .int .i64 b.now.count]) H) : CallsIn Try.prog 10 [.p o ver 0 0] H K :=
  Pure.seeK (f10_ok b) [(o, oB ver b)] (fact1 ho) (.cons (seeBo o _ ver b List.mem_cons_self) .nil) ⟨trivial, trivial, trivial⟩ ⟨trivial, trivial, trivial⟩ (by rw [if_pos hm, if_pos hm]; exact hk)
theorem snapC {b : Bt} {ver o : Nat} {H : List AObj} (ho : H[o]? = some (oB ver b)) (hm : b.made = true) {K : D → List AObj → Prop}
    (hk : K (.int .i64 b.there) H) : CallsIn Try.prog 11 [.p o ver 0 0] H K :=
  Pure.seeK (f11_ok b) [(o, oB ver b)] (fact1 ho) (.cons (seeBo o _ ver b List.mem_cons_self) .nil) trivial trivial (by rw [if_pos hm]; exact hk)
theorem snapL {b : Bt} {ver o : Nat} {H : List AObj} (ho : H[o]? = some (oB ver b)) (hm : b.made = true) {bx : List Bool} {X : D → List Nat → List (Nat × AObj) → List AObj → List Bool → Prop}
    (hx : X (.int .i64 b.there) [o] [] H bx) : LocK Try.prog 11 [.p o ver 0 0] H bx X :=
  Pure.seeL (f11_ok b) [(o, oB ver b)] (fact1 ho) (fun n => .cons (seeBo o n ver b List.mem_cons_self) .nil) trivial trivial (by rw [if_pos hm]; exact hx)

theorem f9_ok : Pure Try.prog 9 [] (.bool true) := by
  refine Pure.of trivial trivial ?_
  refine CallsIn.of_exec tab_ok mixed Try.func9 rfl rfl [] [] ?_
  (conv => whnf)
  refine OwnedR.call (f8_own 0 0 4 (by decide)) (fun ver => ?_)
  repeat' ((conv => whnf); first
    | refine And.intro rfl ?_ | refine Exists.intro _ (And.intro (⟨(List.length_map _).symm⟩) ?_) | refine Pure.call (f20_ok) ?_)
  all_goals (conv => whnf)
  refine W_loopG (ι := Nat) (fun i => ⟨(D.undef :: .p 0 ver 0 0 :: D.undef :: D.undef :: D.undef :: D.undef :: D.undef :: D.undef :: D.undef :: D.undef :: D.undef :: D.undef :: D.undef :: D.undef :: D.undef :: D.undef :: D.undef :: d43 smL :: .int .i64 3 :: .int .i64 (i : Int) :: D.undef :: D.undef :: D.undef :: D.undef :: D.undef :: D.undef :: D.undef :: D.undef :: D.undef :: D.undef :: D.undef :: D.undef :: D.undef :: D.undef :: D.undef :: D.undef :: D.undef :: D.undef :: D.undef :: D.undef :: D.undef :: D.undef :: D.undef :: D.undef :: D.undef :: D.undef :: D.undef :: D.undef :: D.undef :: D.undef :: D.undef :: D.undef :: D.undef :: []), [oB ver (sbs i)]⟩) (fun i => 3 - i) (fun i => i ≤ 3) 0 (Ghost.hold [1, 17, 18, 19] rfl) (Nat.zero_le _) ?_
  rintro i h1
  refine exec_ok tab_ok mixed 1000 (bx := [true]) (own := []) ?_
  rcases Nat.lt_or_ge i 3 with h | h
  · obtain ⟨r, hr, h2, h3, h4⟩ := st_at h
    repeat' ((conv => whnf); first
      | refine Exists.intro _ (And.intro (map_at (by omega) hr) ?_) | refine And.intro (by decide) ?_ | refine And.intro rfl ?_ | refine And.intro (by omega) ?_ | refine boolF_dect (by omega) ?_)
    all_goals (conv => whnf)
    refine Turns1.call (f13_at (sbs i) (i : Int) r ver h3 h4) 0 rfl (fun _ => ?_)
    rw [h2]
    repeat' ((conv => whnf); first
      | refine Exists.intro _ (And.intro (w64 (by omega) (by omega)) ?_))
    all_goals (conv => whnf)
    refine ⟨i + 1, Ghost.back [1, 17, 18, 19] 1 rfl rfl (Nat.zero_le _) (by simp [scs, D.sc, scd43]) (fun ob hob => ?_), h, by omega⟩
    simp only [List.mem_singleton] at hob; subst hob
    exact ⟨scB _ _, trivial⟩
  · obtain rfl : i = 3 := by omega
    (conv => whnf)
    refine readC (o := 0) (b := sbs 3) (p := ([5], 0)) rfl (by decide) rd3 (fun w => ?_)
    repeat' ((conv => whnf); first
      | refine And.intro (by decide) ?_ | refine And.intro rfl ?_ | refine Exists.intro _ (And.intro (Eq.refl (α := Option D) _) ?_))
    all_goals (conv => whnf)
    refine snapC (o := 0) (b := sbs 3) rfl rfl ?_
    (conv => whnf)
    exact ⟨rfl⟩

end Go.Proofs.Ytjoeonhmejnkmaa

