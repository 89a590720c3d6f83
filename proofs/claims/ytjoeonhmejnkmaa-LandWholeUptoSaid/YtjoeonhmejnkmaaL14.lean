import Derived.Test.YtjoeonhmejnkmaaL11
-- merged
namespace Go.Proofs.Ytjoeonhmejnkmaa
open Go.A
set_option linter.unusedVariables false
set_option linter.unusedSimpArgs false
set_option linter.unnecessarySimpa false
attribute [local irreducible] IntKind.wrap bitsI
open B
set_option maxRecDepth 100000
set_option maxHeartbeats 4000000

def landB (b : Bt) : Bt := dropB ⟨b.now, b.now.snap, b.now.v, b.made, b.shard, b.version, b.sure⟩
def takeM (b : Bt) (i : Int) (r : Rec) : Bt × Int :=
  if b.made = false then (b, 2) else if i < 0 ∨ ¬ mayR r then (b, 1) else if b.now.snap = 0 then beginM b i r
  else if i < b.now.count then (b, 10) else if b.now.count < i then (b, 15)
  else if r.kind_ = 2 then doneM b ⟨1, r.off_, 0, r.data_⟩ else if r.kind_ = 3 then doneM b ⟨2, r.off_, r.len_, []⟩
  else if r.kind_ = 4 ∧ r.len_ = b.now.count - 1 then (landB b, 0) else (b, 5)

structure OkB (b : Bt) : Prop where
  all : b.all.length ≤ 1024
  v : b.now.v.length ≤ 1024
  c : 0 ≤ b.now.count ∧ b.now.count ≤ 1000000

theorem stayB (ver : Nat) (b : Bt) (e : Int) : ∃ r'' H'', Ghost 1 [D.int .i64 e] [oB ver b] [r''] H'' ∧ r'' = D.int .i64 e ∧ H'' = [oB ver b] := ⟨_, _, Ghost.refl _ _ _, rfl, rfl⟩

theorem f13_at (b : Bt) (i : Int) (r : Rec) (ver : Nat) (hb : OkB b) (hd : r.data_.length ≤ 140737488351232) :
    Turns1 Try.prog 13 (fun k => [.p k ver 0 0, .int .i64 i, d26 r]) (oB ver b) (fun _ _ => .int .i64 (takeM b i r).2) (fun _ => oB ver (takeM b i r).1) := by
  refine turnB ⟨trivial, scd26 _ _, trivial⟩ trivial ?_
  have h21 := f21_ok b
  rw [takeM]
  refine CallsIn.of_exec tab_ok mixed Try.func13 rfl rfl [] [true] ?_
  (conv => whnf)
  refine Pure.seeK h21 [(0, oB ver b)] (fact1 rfl) (.cons (seeB _ ver b List.mem_cons_self) .nil) trivial trivial ?_
  rcases bool_cases b.made with hm | hm
  case inr =>
    rw [if_pos hm]
    repeat' ((conv => whnf); first
      | refine boolF_not ?_ | refine boolF_f (by assumption) ?_)
    all_goals (conv => whnf)
    exact ⟨stayB _ _ _⟩
  rw [if_neg (by simp [hm])]
  by_cases h1 : i < 0
  · rw [if_pos (.inl h1)]
    repeat' ((conv => whnf); first
      | refine boolF_not ?_ | refine boolF_dect (by assumption) ?_ | refine boolF_t (by assumption) ?_)
    all_goals (conv => whnf)
    exact ⟨stayB _ _ _⟩
  by_cases h2 : mayR r
  case neg =>
    rw [if_pos (.inr h2)]
    repeat' ((conv => whnf); first
      | refine Pure.call (f23_ok r hd) ?_ | refine boolF_not ?_ | refine boolF_decf (by assumption) ?_ | refine boolF_t (by assumption) ?_)
    all_goals (conv => whnf)
    exact ⟨stayB _ _ _⟩
  rw [if_neg (by simp only [h2, h1, not_true_eq_false, or_self, not_false_eq_true])]
  by_cases h3 : b.now.snap = 0
  · rw [if_pos h3]
    repeat' ((conv => whnf); first
      | refine And.intro (by decide) ?_ | refine And.intro rfl ?_ | refine And.intro (Nat.le_of_ble_eq_true rfl) ?_ | refine Pure.call (f23_ok r hd) ?_ | refine boolF_not ?_ | refine boolF_dect (by assumption) ?_ | refine boolF_decf (by assumption) ?_ | refine boolF_t (by assumption) ?_)
    all_goals (conv => whnf)
    refine Turns1.call (f24_at b i r ver hb.all) 0 rfl (fun _ => ?_)
    (conv => whnf)
    exact ⟨stayB _ _ _⟩
  rw [if_neg h3]
  by_cases h4 : i < b.now.count
  · rw [if_pos h4]
    repeat' ((conv => whnf); first
      | refine And.intro (by decide) ?_ | refine And.intro rfl ?_ | refine And.intro (Nat.le_of_ble_eq_true rfl) ?_ | refine Pure.call (f23_ok r hd) ?_ | refine boolF_not ?_ | refine boolF_dect (by assumption) ?_ | refine boolF_decf (by assumption) ?_ | refine boolF_t (by assumption) ?_)
    all_goals (conv => whnf)
    exact ⟨stayB _ _ _⟩
  rw [if_neg h4]
  by_cases h5 : b.now.count < i
  · rw [if_pos h5]
    repeat' ((conv => whnf); first
      | refine And.intro (by decide) ?_ | refine And.intro rfl ?_ | refine And.intro (Nat.le_of_ble_eq_true rfl) ?_ | refine Pure.call (f23_ok r hd) ?_ | refine boolF_not ?_ | refine boolF_dect (by assumption) ?_ | refine boolF_decf (by assumption) ?_ | refine boolF_t (by assumption) ?_)
    all_goals (conv => whnf)
    exact ⟨stayB _ _ _⟩
  rw [if_neg h5]
  by_cases h6 : r.kind_ = 2
  · rw [if_pos h6]
    repeat' ((conv => whnf); first
      | refine And.intro (by decide) ?_ | refine And.intro rfl ?_ | refine And.intro (Nat.le_of_ble_eq_true rfl) ?_ | refine Pure.call (f23_ok r hd) ?_ | refine boolF_not ?_ | refine boolF_dect (by assumption) ?_ | refine boolF_decf (by assumption) ?_ | refine boolF_t (by assumption) ?_)
    all_goals (conv => whnf)
    refine Turns1.call (f25_at b ⟨1, r.off_, 0, r.data_⟩ ver (by have := hb.v; omega) hd hb.c) 0 rfl (fun _ => ?_)
    (conv => whnf)
    exact ⟨stayB _ _ _⟩
  rw [if_neg h6]
  by_cases h7 : r.kind_ = 3
  · rw [if_pos h7]
    repeat' ((conv => whnf); first
      | refine And.intro (by decide) ?_ | refine And.intro rfl ?_ | refine And.intro (Nat.le_of_ble_eq_true rfl) ?_ | refine Pure.call (f23_ok r hd) ?_ | refine boolF_not ?_ | refine boolF_dect (by assumption) ?_ | refine boolF_decf (by assumption) ?_ | refine boolF_t (by assumption) ?_)
    all_goals (conv => whnf)
    refine CallsIn.wk (args' := [.p 0 ver 0 0, d69 ⟨2, r.off_, r.len_, []⟩]) ?_ (.cons .refl (.cons (.agg (.cons .refl (.cons .refl (.cons .refl (.cons .nils .nil))))) .nil))
    refine Turns1.call (f25_at b ⟨2, r.off_, r.len_, []⟩ ver (by have := hb.v; omega) (Nat.zero_le _) hb.c) 0 rfl (fun _ => ?_)
    (conv => whnf)
    exact ⟨stayB _ _ _⟩
  rw [if_neg h7]
  by_cases h8 : r.kind_ = 4
  case neg =>
    rw [if_neg (fun h => h8 h.1)]
    repeat' ((conv => whnf); first
      | refine And.intro (by decide) ?_ | refine And.intro rfl ?_ | refine And.intro (Nat.le_of_ble_eq_true rfl) ?_ | refine Pure.call (f23_ok r hd) ?_ | refine boolF_not ?_ | refine boolF_dect (by assumption) ?_ | refine boolF_decf (by assumption) ?_ | refine boolF_t (by assumption) ?_)
    all_goals (conv => whnf)
    exact ⟨stayB _ _ _⟩
  by_cases h9 : r.len_ = b.now.count - 1
  · rw [if_pos ⟨h8, h9⟩]
    have hc := hb.c
    repeat' ((conv => whnf); first
      | refine PairK.mk (by kernel_rfl) ?_ | refine And.intro (by decide) ?_ | refine And.intro rfl ?_ | refine And.intro (Nat.le_of_ble_eq_true rfl) ?_ | refine Exists.intro _ (And.intro (w64 (by omega) (by omega)) ?_) | refine Pure.call (f23_ok r hd) ?_ | refine boolF_not ?_ | refine boolF_dect (by assumption) ?_ | refine boolF_decf (by assumption) ?_ | refine boolF_t (by assumption) ?_)
    all_goals (conv => whnf)
    refine Turns1.call (f15_at ⟨b.now, b.now.snap, b.now.v, b.made, b.shard, b.version, b.sure⟩ ver) 0 rfl (fun _ => ?_)
    (conv => whnf)
    exact ⟨stayB _ _ _⟩
  · rw [if_neg (fun h => h9 h.2)]
    have hc := hb.c
    repeat' ((conv => whnf); first
      | refine PairK.mk (by kernel_rfl) ?_ | refine And.intro (by decide) ?_ | refine And.intro rfl ?_ | refine And.intro (Nat.le_of_ble_eq_true rfl) ?_ | refine Exists.intro _ (And.intro (w64 (by omega) (by omega)) ?_) | refine Pure.call (f23_ok r hd) ?_ | refine boolF_not ?_ | refine boolF_dect (by assumption) ?_ | refine boolF_decf (by assumption) ?_ | refine boolF_t (by assumption) ?_)
    all_goals (conv => whnf)
    exact ⟨stayB _ _ _⟩

theorem f13_nil (i : Int) (r : Rec) : Pure Try.prog 13 [.pnil, .int .i64 i, d26 r] (.int .i64 2) := by
  refine Pure.of ⟨trivial, trivial, scd26 _ _, trivial⟩ trivial ?_
  refine CallsIn.of_exec tab_ok mixed Try.func13 rfl rfl [] [] ?_
  repeat' ((conv => whnf); first
    | refine Pure.call (f21_nil) ?_)
  all_goals (conv => whnf)
  exact ⟨rfl⟩

end Go.Proofs.Ytjoeonhmejnkmaa


namespace Go.Proofs.Ytjoeonhmejnkmaa
open Go.A
set_option linter.unusedVariables false
set_option linter.unusedSimpArgs false
set_option linter.unnecessarySimpa false
attribute [local irreducible] IntKind.wrap bitsI
open B
set_option maxRecDepth 100000
set_option maxHeartbeats 4000000

def newB (s v n : Int) : Bt := ⟨cm0, 0, zer n.toNat, true, s, v, cm0⟩
def newD (o ver : Nat) : D := .tup [.p o ver 0 0, .int .i64 0]
def newOk (s v n : Int) : Prop := 0 ≤ s ∧ 0 ≤ v ∧ 0 ≤ n ∧ n ≤ 1024
instance (s v n : Int) : Decidable (newOk s v n) := inferInstanceAs (Decidable (_ ∧ _ ∧ _ ∧ _))

theorem newEnd {w v0 : Nat} {rows0 : List D} {row : D} (b : Bt) (hz : Fzs [(0, .arr v0 1 rows0)] row.cells (cB b)) :
    ∃ ver, Ghost 0 [.tup [.p 1 w 0 0, .int .i64 0]] [.arr v0 1 rows0, .arr w 13 [row]] [newD 0 ver] [.arr ver 13 [.agg (cB b)]] := by
  refine ⟨w, (Ghost.fz [(0, .arr v0 1 rows0)] [(1, oB w b)] (fun x hx => ?_) (by simp) Fzs.all (fun x hx => ?_) (by simp)).trans (Ghost.pick [1] (by simp) rfl (fun i o ob' h1 h2 => ?_) rfl ⟨⟨Nat.zero_lt_one, trivial, trivial⟩, trivial⟩ (fun ob hob => ?_))⟩
  · simp only [List.mem_singleton] at hx; subst hx
    exact ⟨Nat.zero_le _, rfl, _, _, _, rfl⟩
  · simp only [List.mem_singleton] at hx; subst hx
    exact ⟨by simp, w, 13, [row], [.agg (cB b)], rfl, rfl, .cons hz .nil⟩
  · cases i with
    | zero =>
      simp at h1 h2; subst h1 h2
      rw [renO_sc0 _ (by exact ⟨scB _ _, trivial⟩)]; rfl
    | succ i => simp at h1
  · simp only [List.mem_singleton] at hob; subst hob
    exact ⟨scB _ _, trivial⟩

theorem f8_own (s v n : Int) (h : newOk s v n) : OwnedR Try.prog 8 [.int .i64 s, .int .i64 v, .int .i64 n] newD 13 [.agg (cB (newB s v n))] := by
  refine OwnedR.of ⟨trivial, trivial, trivial, trivial⟩ ⟨scB _ _, trivial⟩ (fun _ _ => rfl) ?_
  obtain ⟨h1, h2, h3, h4⟩ := h
  obtain ⟨m, rfl⟩ := Int.eq_ofNat_of_zero_le h3
  refine CallsIn.of_exec tab_ok mixed Try.func8 rfl rfl [28] [] ?_
  repeat' ((conv => whnf); first
    | refine And.intro (show ((8 : Nat) : Int) * (m : Int) ≤ 281474976710656 by omega) ?_ | refine And.intro rfl ?_ | refine And.intro (by omega) ?_ | refine boolF_decf (by omega) ?_)
  all_goals (conv => whnf)
  exact ⟨newEnd _ (by
    have e : List.replicate m (D.int .u64 0) = (zer m).map r63 := by rw [zer, List.map_replicate]; rfl
    repeat (first | exact Fzs.nil | refine Fzs.cons .refl ?_ | refine Fzs.cons .nils ?_ | refine Fzs.cons (show Fz [(0, .arr 0 1 (List.replicate m (D.int .u64 0)))] (.h 0 0 0 m) (.sl ((zer m).map r63)) from .h mem0 .all (by rw [e]; exact all_take (by simp [zer]))) ?_))⟩

theorem f8_bad (s v n : Int) (h : ¬ newOk s v n) : Pure Try.prog 8 [.int .i64 s, .int .i64 v, .int .i64 n] (.tup [.pnil, .int .i64 1]) := by
  refine Pure.of ⟨trivial, trivial, trivial, trivial⟩ ⟨trivial, trivial, trivial⟩ ?_
  refine CallsIn.of_exec tab_ok mixed Try.func8 rfl rfl [] [] ?_
  simp only [newOk] at h
  repeat' ((conv => whnf); first
    | refine boolF_dect (by omega) ?_ | refine boolF_dec (fun _ => ?_) (fun _ => ?_))
  all_goals (conv => whnf)
  all_goals (first | exact ⟨rfl⟩ | (exfalso; omega))

end Go.Proofs.Ytjoeonhmejnkmaa


namespace Go.Proofs.Ytjoeonhmejnkmaa
open Go.A
set_option linter.unusedVariables false
set_option linter.unusedSimpArgs false
set_option linter.unnecessarySimpa false
attribute [local irreducible] IntKind.wrap bitsI
open B
set_option maxRecDepth 100000
set_option maxHeartbeats 4000000

def sm0 : Rec := ⟨1, 0, 1, 0, 0, 0, 4, []⟩
def sm1 : Rec := ⟨2, 0, 0, 0, 0, 2, 0, [5]⟩
def sm2 : Rec := ⟨4, 0, 0, 0, 0, 0, 1, []⟩
def smL : List Rec := [sm0, sm1, sm2]
theorem f20_ok : Pure Try.prog 20 [] (d43 smL) := by
  refine Pure.ofT trivial (scd43 _ _) ?_
  refine CallsIn.of_exec tab_ok mixed Try.func20 rfl rfl [] [] ?_
  (conv => whnf)
  refine ⟨Told.wk (.sl (.cons ?_ (.cons ?_ (.cons ?_ .nil))))⟩
  all_goals repeat (first | exact Wks.nil | refine Wks.cons .refl ?_ | refine Wks.cons .nils ?_)

def sb0 : Bt := newB 0 0 4
def sb1 : Bt := ⟨⟨1, 1, 0, [0, 0, 0, 0]⟩, 0, [0, 0, 0, 0], true, 0, 0, cm0⟩
def sb2 : Bt := ⟨⟨1, 2, 3, [0, 0, 5, 0]⟩, 0, [0, 0, 0, 0], true, 0, 0, cm0⟩
def sb3 : Bt := ⟨cm0, 1, [0, 0, 5, 0], true, 0, 0, cm0⟩
theorem st0 : takeM sb0 0 sm0 = (sb1, 0) := by rfl
theorem st1 : takeM sb1 1 sm1 = (sb2, 0) := by rfl
theorem st2 : takeM sb2 2 sm2 = (sb3, 0) := by rfl

def sbs (i : Nat) : Bt := if i = 0 then sb0 else if i = 1 then sb1 else if i = 2 then sb2 else sb3
theorem st_at {i : Nat} (h : i < 3) : ∃ r, smL[i]? = some r ∧ takeM (sbs i) (i : Int) r = (sbs (i + 1), 0) ∧ OkB (sbs i) ∧ r.data_.length ≤ 140737488351232 := by
  match i, h with
  | 0, _ => exact ⟨sm0, rfl, st0, ⟨by decide, by decide, by decide, by decide⟩, by decide⟩
  | 1, _ => exact ⟨sm1, rfl, st1, ⟨by decide, by decide, by decide, by decide⟩, by decide⟩
  | 2, _ => exact ⟨sm2, rfl, st2, ⟨by decide, by decide, by decide, by decide⟩, by decide⟩
theorem rd3 : readB sb3 2 1 = ([5], 0) := by rfl

theorem seeBo (o n : Nat) (ver : Nat) (b : Bt) {F : List (Nat × AObj)} (hF : (o, oB ver b) ∈ F) : Sees 0 (fun i => n + i) F (.p o ver 0 0) (.pe (cB b)) := .p hF (.all ⟨scB _ _, trivial⟩) rfl rfl
theorem readC {b : Bt} {ver o : Nat} {H : List AObj} {off n : Int} {p : List Nat × Int} (ho : H[o]? = some (oB ver b)) (hv : b.all.length ≤ 140737488351232) (hp : readB b off n = p) {K : D → List AObj → Prop}
    (hk : ∀ w, lenK H 0 fun o' => snocK H (.arr w 1 (p.1.map r63)) fun H' => K (ownW p o' w) H') : CallsIn Try.prog 12 [.p o ver 0 0, .int .i64 off, .int .i64 n] H K := by
  subst hp
  exact OwnedR.seeK (f12_own b off n hv) [(o, oB ver b)] (fact1 ho) (.cons (seeBo o _ ver b List.mem_cons_self) (.cons (.same trivial) (.cons (.same trivial) .nil))) (bares_map fun x => trivial) (fun v => ⟨trivial, trivial, trivial⟩) hk
theorem comingC {b : Bt} {ver o : Nat} {H : List AObj} (ho : H[o]? = some (oB ver b)) (hm : b.made = true) {K : D → List AObj → Prop}
    (hk : K (.tup [.int .i64 b.now.snap, .int .i64 b.now.count]) H) : CallsIn Try.prog 10 [.p o ver 0 0] H K :=
  Pure.seeK (f10_ok b) [(o, oB ver b)] (fact1 ho) (.cons (seeBo o _ ver b List.mem_cons_self) .nil) ⟨trivial, trivial, trivial⟩ ⟨trivial, trivial, trivial⟩ (by rw [if_pos hm, if_pos hm]; exact hk)
theorem snapC {b : Bt} {ver o : Nat} {H : List AObj} (ho : H[o]? = some (oB ver b)) (hm : b.made = true) {K : D → List AObj → Prop}
    (hk : K (.int .i64 b.there) H) : CallsIn Try.prog 11 [.p o ver 0 0] H K :=
  Pure.seeK (f11_ok b) [(o, oB ver b)] (fact1 ho) (.cons (seeBo o _ ver b List.mem_cons_self) .nil) trivial trivial (by rw [if_pos hm]; exact hk)
theorem snapL {b : Bt} {ver o : Nat} {H : List AObj} (ho : H[o]? = some (oB ver b)) (hm : b.made = true) {bx : List Bool} {X : D → List Nat → List (Nat × AObj) → List AObj → List Bool → Prop}
    (hx : X (.int .i64 b.there) [o] [] H bx) : LocK Try.prog 11 [.p o ver 0 0] H bx X :=
  Pure.seeL (f11_ok b) [(o, oB ver b)] (fact1 ho) (fun n => .cons (seeBo o n ver b List.mem_cons_self) .nil) trivial trivial (by rw [if_pos hm]; exact hx)

theorem f9_ok : Pure Try.prog 9 [] (.bool true) := by
  refine Pure.of trivial trivial ?_
  refine CallsIn.of_exec tab_ok mixed Try.func9 rfl rfl [] [] ?_
  (conv => whnf)
  refine OwnedR.call (f8_own 0 0 4 (by decide)) (fun ver => ?_)
  repeat' ((conv => whnf); first
    | refine And.intro rfl ?_ | refine Exists.intro _ (And.intro (⟨(List.length_map _).symm⟩) ?_) | refine Pure.call (f20_ok) ?_)
  all_goals (conv => whnf)
  refine W_loopG (ι := Nat) (fun i => ⟨(D.undef :: .p 0 ver 0 0 :: D.undef :: D.undef :: D.undef :: D.undef :: D.undef :: D.undef :: D.undef :: D.undef :: D.undef :: D.undef :: D.undef :: D.undef :: D.undef :: D.undef :: D.undef :: d43 smL :: .int .i64 3 :: .int .i64 (i : Int) :: D.undef :: D.undef :: D.undef :: D.undef :: D.undef :: D.undef :: D.undef :: D.undef :: D.undef :: D.undef :: D.undef :: D.undef :: D.undef :: D.undef :: D.undef :: D.undef :: D.undef :: D.undef :: D.undef :: D.undef :: D.undef :: D.undef :: D.undef :: D.undef :: D.undef :: D.undef :: D.undef :: D.undef :: D.undef :: D.undef :: D.undef :: D.undef :: D.undef :: []), [oB ver (sbs i)]⟩) (fun i => 3 - i) (fun i => i ≤ 3) 0 (Ghost.hold [1, 17, 18, 19] rfl) (Nat.zero_le _) ?_
  rintro i h1
  refine exec_ok tab_ok mixed 1000 (bx := [true]) (own := []) ?_
  rcases Nat.lt_or_ge i 3 with h | h
  · obtain ⟨r, hr, h2, h3, h4⟩ := st_at h
    repeat' ((conv => whnf); first
      | refine Exists.intro _ (And.intro (map_at (by omega) hr) ?_) | refine And.intro (by decide) ?_ | refine And.intro rfl ?_ | refine And.intro (by omega) ?_ | refine boolF_dect (by omega) ?_)
    all_goals (conv => whnf)
    refine Turns1.call (f13_at (sbs i) (i : Int) r ver h3 h4) 0 rfl (fun _ => ?_)
    rw [h2]
    repeat' ((conv => whnf); first
      | refine Exists.intro _ (And.intro (w64 (by omega) (by omega)) ?_))
    all_goals (conv => whnf)
    refine ⟨i + 1, Ghost.back [1, 17, 18, 19] 1 rfl rfl (Nat.zero_le _) (by simp [scs, D.sc, scd43]) (fun ob hob => ?_), h, by omega⟩
    simp only [List.mem_singleton] at hob; subst hob
    exact ⟨scB _ _, trivial⟩
  · obtain rfl : i = 3 := by omega
    (conv => whnf)
    refine readC (o := 0) (b := sbs 3) (p := ([5], 0)) rfl (by decide) rd3 (fun w => ?_)
    repeat' ((conv => whnf); first
      | refine And.intro (by decide) ?_ | refine And.intro rfl ?_ | refine Exists.intro _ (And.intro (Eq.refl (α := Option D) _) ?_))
    all_goals (conv => whnf)
    refine snapC (o := 0) (b := sbs 3) rfl rfl ?_
    (conv => whnf)
    exact ⟨rfl⟩

end Go.Proofs.Ytjoeonhmejnkmaa

