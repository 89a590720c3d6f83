import Derived.Test.YtlfbchkcgchoaaaC8
import Derived.Test.YtlfbchkcgchoaaaY1
namespace Go.Proofs.Ytlfbchkcgchoaaa.C
open Go.A
set_option linter.unusedVariables false
set_option linter.unusedSimpArgs false
set_option linter.unnecessarySimpa false
attribute [local irreducible] IntKind.wrap bitsI
open B
set_option maxRecDepth 100000
set_option maxHeartbeats 4000000

/- How lists are ordered. -/
theorem cmpN_anti (a b : Nat) : cmpN b a = - cmpN a b := by
  unfold cmpN; split <;> split <;> omega
theorem cmpL_anti : ∀ a b : List Nat, cmpL b a = - cmpL a b
  | [], [] => rfl
  | [], _ :: _ => rfl
  | _ :: _, [] => rfl
  | a :: s, b :: t => by
    simp only [cmpL]
    by_cases h : a = b
    · rw [if_pos h, if_pos h.symm]; exact cmpL_anti s t
    · rw [if_neg h, if_neg (Ne.symm h)]; exact cmpN_anti a b
theorem cmpL_zero : ∀ a b : List Nat, cmpL a b = 0 ↔ a = b
  | [], [] => by simp [cmpL]
  | [], _ :: _ => by simp [cmpL]
  | _ :: _, [] => by simp [cmpL]
  | a :: s, b :: t => by
    simp only [cmpL]
    by_cases h : a = b
    · rw [if_pos h, cmpL_zero s t]; simp [h]
    · rw [if_neg h]
      have : ¬ cmpN a b = 0 := by unfold cmpN; split <;> (try split) <;> omega
      simp [h, this]
theorem cmpN_lt {a b : Nat} : cmpN a b < 0 ↔ a < b := by
  unfold cmpN; split <;> (try split) <;> omega
theorem cmpL_trans : ∀ a b c : List Nat, cmpL a b < 0 → cmpL b c < 0 → cmpL a c < 0
  | [], [], _, h, _ => by simp [cmpL] at h
  | _ :: _, [], _, h, _ => by simp [cmpL] at h
  | _, _ :: _, [], _, h => by simp [cmpL] at h
  | [], _ :: _, _ :: _, _, _ => by simp [cmpL]
  | a :: s, b :: t, c :: u, h1, h2 => by
    simp only [cmpL] at h1 h2 ⊢
    by_cases e1 : a = b
    · rw [if_pos e1] at h1
      by_cases e2 : b = c
      · rw [if_pos e2] at h2; rw [if_pos (e1.trans e2)]; exact cmpL_trans s t u h1 h2
      · rw [if_neg e2] at h2; rw [if_neg (by rw [e1]; exact e2), e1]; exact h2
    · rw [if_neg e1, cmpN_lt] at h1
      by_cases e2 : b = c
      · rw [if_neg (by rw [← e2]; exact e1), ← e2, cmpN_lt]; exact h1
      · rw [if_neg e2, cmpN_lt] at h2
        rw [if_neg (by omega), cmpN_lt]; omega
theorem cmpL_self (a : List Nat) : cmpL a a = 0 := (cmpL_zero a a).mpr rfl
theorem cmpL_ntrans {a b c : List Nat} (h1 : ¬ cmpL a b < 0) (h2 : ¬ cmpL b c < 0) : ¬ cmpL a c < 0 := by
  intro h
  have a1 := cmpL_anti a b
  have a2 := cmpL_anti b c
  by_cases e1 : cmpL a b = 0
  · rw [(cmpL_zero a b).mp e1] at h; exact h2 h
  · by_cases e2 : cmpL b c = 0
    · rw [← (cmpL_zero b c).mp e2] at h; exact h1 h
    · have h3 := cmpL_trans c b a (by omega) (by omega)
      have a3 := cmpL_anti a c
      omega
theorem cmpL_total {a b : List Nat} (h1 : ¬ cmpL a b < 0) (h2 : ¬ cmpL b a < 0) : a = b := (cmpL_zero a b).mp (by have := cmpL_anti a b; omega)

/- What a call that turns nothing does to the world. -/
theorem noOwn {φ : List (Option Nat)} {H : List AObj} {b : Nat} : ¬ owns φ (H.map fun _ => AObj.gone) b := fun ⟨o, ob, _, h2, h3⟩ => by
  rw [List.getElem?_map] at h2
  cases hh : H[o]? with
  | none => rw [hh] at h2; cases h2
  | some x => rw [hh] at h2; cases h2; exact h3
theorem gone_at {H : List AObj} {o : Nat} {ob : AObj} (h : (H.map fun _ => AObj.gone)[o]? = some ob) : ob = .gone := by
  rw [List.getElem?_map] at h
  cases hh : H[o]? with
  | none => rw [hh] at h; cases h
  | some x => rw [hh] at h; cases h; rfl
theorem at_gone {H : List AObj} {o : Nat} {ob : AObj} (h : H[o]? = some ob) : (H.map fun _ => AObj.gone)[o]? = some .gone := by
  rw [List.getElem?_map, h]; rfl

theorem pure_calls {f : FuncId} {args : List D} {r : D} (hp : Pure Try.prog f args r) {C : Ctx} {φ : List (Option Nat)} {H : List AObj} {w W : World} (g : G C φ H w) {b : Nat} (hb : C.N φ H b) (hsz : w.heap.size ≤ W.heap.size)
    (hheap : ∀ k, k < w.heap.size → k ≠ b → W.heap[k]? = w.heap[k]?) {cargs : Array Value} (hv : VRs (C.env φ H w) args cargs.toList) :
    Calls Try.prog f cargs W fun e w' => ∃ E v, e = .returned v ∧ VR E r v ∧ ∃ q os', w' = Go.Sort.grow (W.drewN q) os' := by
  let Hg := H.map fun _ => AObj.gone
  let C0 : Ctx := ⟨C.N φ H, φ, Hg, W, none, W.heap.size⟩
  have hN : ∀ k, C0.N φ Hg k → C.N φ H k := fun k h => by
    rcases h with ⟨_, h⟩ | ⟨_, h⟩
    · exact h
    · exact (noOwn h).elim
  have g0 : G C0 φ Hg W := {
    objs := { len := by show φ.length = (H.map _).length; rw [List.length_map]; exact g.objs.len
              cl := fun o ob h => by rw [gone_at h]; trivial
              inj := fun o o' b ob ob' h1 h2 _ _ _ _ => by rw [gone_at h1] at h2; exact h2.elim }
    size := Nat.le_refl _
    same := fun _ _ _ => rfl
    own := fun o b ob h1 h2 _ => by rw [gone_at h1] at h2; exact h2.elim
    world := .refl W
    n0 := fun b h => (noOwn h).elim
    hlen := Nat.le_refl _
    ext := { imm := fun k h1 h2 hc => ⟨fun h => h1 (hN k h), h2, rfl⟩
             old := fun o ob ver h1 h2 => ⟨ob, h1, h2⟩
             arr := fun o ver sz rows h => by have := gone_at (H := H) h; cases this
             map := fun o es st h => by have := gone_at (H := H) h; cases this } }
  have x : Ext (C.env φ H w) (C0.env φ Hg W) := {
    imm := fun k h1 h2 hc => ⟨fun h => h1 (hN k h), Nat.lt_of_lt_of_le h2 hsz, hheap k h2 fun e => h1 (e ▸ hb)⟩
    old := fun o ob ver h1 h2 => ⟨.gone, at_gone h1, trivial⟩
    arr := fun o ver sz rows h => .inl ⟨.gone, at_gone h, trivial⟩
    map := fun o es st h => .inl (at_gone h) }
  refine ((hp Hg).run C0 g0 (VRs.mono x hv)).mono ?_
  rintro e w' ⟨r', v, H', φ', rfl, ⟨rfl, rfl⟩, g', _, hr⟩
  refine ⟨_, v, rfl, hr, w'.drawn - W.drawn, w'.heap.extract W.heap.size w'.heap.size, ?_⟩
  have h1 := g'.world
  have h2 : ∀ k, k < W.heap.size → w'.heap[k]? = W.heap[k]? := fun k hk => g'.same k hk noOwn
  have h3 : W.heap.size ≤ w'.heap.size := g'.size
  have hh : w'.heap = W.heap ++ w'.heap.extract W.heap.size w'.heap.size := by
    apply Array.ext_getElem?
    intro k
    rw [Array.getElem?_append]
    split
    · rename_i hk; exact h2 k hk
    · rename_i hk
      rw [Array.getElem?_extract]
      by_cases hk2 : k < w'.heap.size
      · rw [if_pos (by omega)]; congr 1; omega
      · rw [if_neg (by omega), Array.getElem?_eq_none (by omega)]
  have e1 : w'.os = W.os := h1.os
  have e2 : w'.tape = W.tape := h1.tape
  have e3 : w'.output = W.output := h1.output
  have e4 : W.drawn ≤ w'.drawn := h1.drawn
  have e5 : W.drawn + (w'.drawn - W.drawn) = w'.drawn := by omega
  cases w' with
  | mk heap tape drawn os output =>
    unfold Go.Sort.grow
    simp only [World.drewN] at e1 e2 e3 e5 hh ⊢
    rw [e5, e1, e2, e3]
    congr 1

/- The sort's contract. -/
theorem vrs_list {E : Env} {X : Type} {f : X → D} : ∀ {l : List X} {vs : List Value}, VRs E (l.map f) vs → vs.length = l.length ∧ ∀ (i : Nat) (x : X) (v : Value), l[i]? = some x → vs[i]? = some v → VR E (f x) v
  | [], [], .nil => ⟨rfl, fun i x v h => by simp at h⟩
  | x :: l, _, .cons (v := v) hh t => by
    obtain ⟨h1, h2⟩ := vrs_list t
    refine ⟨by simp [h1], fun i y u hy hu => ?_⟩
    cases i with
    | zero => simp at hy hu; subst hy hu; exact hh
    | succ i => exact h2 i y u (by simpa using hy) (by simpa using hu)
theorem vrs_of {E : Env} {X : Type} {f : X → D} : ∀ {l : List (X × Value)}, (∀ p ∈ l, VR E (f p.1) p.2) → VRs E ((l.map Prod.fst).map f) (l.map Prod.snd)
  | [], _ => .nil
  | p :: l, h => .cons (h p List.mem_cons_self) (vrs_of fun q hq => h q (List.mem_cons_of_mem _ hq))
theorem flat_r34 (l : List (List Nat)) : flat (l.map r34) = l.map r34 := by
  induction l with
  | nil => rfl
  | cons x l ih => show (r34 x).cells ++ flat (l.map r34) = _; rw [ih]; rfl

/-- A value and what it says. -/
def Ent (E : Env) : Type := { p : Value × List Nat // p.2.length ≤ 140737488351232 ∧ VR E (d34 p.2) p.1 }
instance (E : Env) : Inhabited (Ent E) := ⟨⟨(.slice none 0 0, []), by simp, .sl0 none 0⟩⟩
def Ent.enc {E : Env} (x : Ent E) : Value := x.1.1
def Ent.lst {E : Env} (x : Ent E) : List Nat := x.1.2
def Ent.cf {E : Env} (x y : Ent E) : Int := cmpL x.lst y.lst
def Ent.of {E : Env} (v : Value) (l : List Nat) (h1 : l.length ≤ 140737488351232) (h2 : VR E (d34 l) v) : Ent E := ⟨(v, l), h1, h2⟩
theorem ent_list {E : Env} : ∀ {l : List (List Nat)} {vs : List Value}, (∀ x ∈ l, x.length ≤ 140737488351232) → VRs E (l.map r34) vs → ∃ ds : List (Ent E), ds.map Ent.enc = vs ∧ ds.map Ent.lst = l
  | [], [], _, .nil => ⟨[], rfl, rfl⟩
  | x :: l, _, hl, .cons (v := v) hh t => by
    obtain ⟨ds, h1, h2⟩ := ent_list (fun y hy => hl y (List.mem_cons_of_mem _ hy)) t
    exact ⟨Ent.of v x (hl x List.mem_cons_self) hh :: ds, by rw [List.map_cons, h1]; rfl, by rw [List.map_cons, h2]; rfl⟩
theorem ent_one {E : Env} : OneCell (Ent.enc (E := E)) := fun x => by
  have key : ∀ (d : D) (v : Value) (xs : List D), d = .sl xs → VR E d v → v.oneCell' = true := fun d v xs e h => by
    cases h <;> first
      | rfl
      | cases e
  exact key _ _ _ rfl x.2.2
theorem ent_swo {E : Env} : Go.Sort.SWO (ltOf (Ent.cf (E := E))) where
  irrefl x := by simp [ltOf, Ent.cf, cmpL_self]
  trans x y z h1 h2 := by
    exact decide_eq_true (cmpL_trans _ _ _ (of_decide_eq_true h1) (of_decide_eq_true h2))
  ntrans x y z h1 h2 := by
    exact decide_eq_false (cmpL_ntrans (of_decide_eq_false h1) (of_decide_eq_false h2))

theorem putRow_heap {α : Type} [Inhabited α] (enc : α → Value) (w : World) (b : Nat) (d : Array α) (os : Array Obj) (n : Nat) {k : Nat} (hk : k < w.heap.size) :
    (sortWorld enc w b 0 n d os).heap[k]? = if k = b then (w.heap[b]?).map (Go.Sort.onCells (Go.Sort.putCells enc 0 d)) else w.heap[k]? := by
  unfold sortWorld Go.Sort.grow
  show ((Go.Sort.putRow enc (Go.Sort.ahead w n) b 0 d).heap ++ os)[k]? = _
  rw [Array.getElem?_append, if_pos (by rw [Go.Sort.size_putRow]; exact hk)]
  show (w.heap.modify b _)[k]? = _
  rw [Array.getElem?_modify]
  by_cases h : b = k
  · subst h; rw [if_pos rfl]
  · rw [if_neg h, if_neg (Ne.symm h)]

theorem sort_ok (rows : List (List Nat)) (hr : ∀ x ∈ rows, x.length ≤ 140737488351232) (hrl : rows.length < 4611686018427387904) {H : List AObj} (o ver : Nat) (ho : H[o]? = some (.arr ver 1 (rows.map r34))) :
    Go.A.CallsIn Try.prog 24 [.h o ver 0 rows.length, .fn 25 []] H fun r H' => r = .tup [] ∧ ∃ rows' : List (List Nat), rows'.Perm rows ∧ rows'.Pairwise (fun a b => ¬ cmpL b a < 0) ∧ H' = H.set o (.arr ver 1 (rows'.map r34)) := by
  refine Go.A.CallsIn.mk' ⟨_, Try.func24, by decide, rfl⟩ fun C φ w cargs g hv => ?_
  obtain ⟨v1, v2, hc, h1, h2⟩ : ∃ v1 v2, cargs = #[v1, v2] ∧ VR (C.env φ H w) (.h o ver 0 rows.length) v1 ∧ VR (C.env φ H w) (.fn 25 []) v2 := by
    obtain ⟨l⟩ := cargs
    cases hv with
    | cons h1 t => cases t with
      | cons h2 t => cases t with
        | nil => exact ⟨_, _, rfl, h1, h2⟩
  obtain rfl : v2 = .func (.func 25) #[] #[] := by
    cases h2 with
    | fn h => rename_i a; obtain ⟨l⟩ := a; cases h; rfl
  subst hc
  have hset : rows = [] → H.set o (.arr ver 1 (rows.map r34)) = H := fun _ => by
    refine List.ext_getElem? fun i => ?_
    by_cases hi : o = i
    · subst hi; rw [List.getElem?_set_self (List.getElem?_eq_some_iff.mp ho).1, ho]
    · rw [List.getElem?_set_ne hi]
  have none : rows = [] → ∀ p cap, Calls Try.prog 24 #[.slice p 0 cap, .func (.func 25) #[] #[]] w fun e w' => ∃ r v H' φ', e = .returned v ∧ (r = .tup [] ∧ ∃ rows' : List (List Nat), rows'.Perm rows ∧ rows'.Pairwise (fun a b => ¬ cmpL b a < 0) ∧ H' = H.set o (.arr ver 1 (rows'.map r34))) ∧ G C φ' H' w' ∧ Ext (C.env φ H w) (C.env φ' H' w') ∧ VR (C.env φ' H' w') r v := fun he p cap => by
    have hcon := AnyF.slices_SortFunc_none (P := Try.prog) (ρ := sortK_ren) { sortK with } p cap (.func (.func 25) #[] #[]) w
    refine Go.Calls.mono (show Calls Try.prog 24 _ w _ from hcon) ?_
    rintro e w' ⟨rfl, rfl⟩
    exact ⟨.tup [], _, H, φ, rfl, ⟨rfl, rows, .refl _, by rw [he]; exact .nil, (hset he).symm⟩, g, .refl _, .tup .nil⟩
  obtain ⟨m, hm⟩ : ∃ m, m = rows.length := ⟨_, rfl⟩
  rw [← hm] at h1
  generalize hd : D.h o ver 0 m = d at h1
  cases h1 with
  | hold a len cap hH hp =>
    cases hd
    have hH' : H[o]? = some _ := hH
    rw [ho] at hH'; cases hH'
    exact (Nat.lt_irrefl _ hp).elim
  | hnil hH _ =>
    cases hd
    have hH' : H[o]? = some _ := hH
    rw [ho] at hH'
    have : rows = [] := by
      have := congrArg (fun x => match x with | some (AObj.arr _ _ l) => l.length | _ => 0) hH'
      simpa using this
    exact none this _ _
  | @h o' ver' i' n' sz b cap rows0 a c e fz hH hφ hin hcap hc hcs ha =>
    cases hd
    have hH' : H[o]? = some _ := hH
    rw [ho] at hH'
    obtain ⟨rfl, rfl⟩ : sz = 1 ∧ rows0 = rows.map r34 := by cases hH'; exact ⟨rfl, rfl⟩
    by_cases he : rows = []
    · have hl : rows.length = 0 := by rw [he]; rfl
      rw [hl] at hm
      subst hm
      exact none he _ _
    · have hl : 0 < rows.length := List.length_pos_iff.mpr he
      obtain rfl : a = ⟨b, 0, Option.none⟩ := by
        rcases ha with h | h
        · omega
        · rw [h]
      have g0 := g
      have hφ' : φ[o]? = some (some b) := hφ
      obtain ⟨_, _, c1, e1, vs, ⟨fz1, hfz, hc1⟩, hvs, hcell⟩ := g.arrOf ho hφ'
      have hbN : C.N φ H b := g.nOf ho trivial hφ'
      have hbs : b < w.heap.size := (g.own o b _ ho trivial hφ').1
      rw [flat_r34] at hvs
      obtain ⟨ds, hd1, hd2⟩ := ent_list (E := C.env φ H w) hr hvs
      have hdl : ds.length = rows.length := by rw [← hd2, List.length_map]
      have hds : ds.toArray.size = m := by simp [hdl, hm]
      have hcv : ∀ (j : Nat) x, ds[j]? = some x → c1[j]? = some x.enc := fun j x hx => hcell j _ (by rw [← hd1, List.getElem?_map, hx]; rfl)
      have hH0 : Go.Sort.Holds Ent.enc w b 0 ds.toArray := fun j hj => by
        have hj' : j < ds.length := by simpa using hj
        have hx : ds[j]? = some ds[j] := List.getElem?_eq_getElem hj'
        have hx2 : (ds.toArray)[j]! = ds[j] := by simp [hj']
        have hjc : j < c1.size := (Array.getElem?_eq_some_iff.mp (hcv j _ hx)).1
        rw [Nat.zero_add, hx2]
        constructor
        · unfold World.cell?
          rw [hc1]
          exact hcv j _ hx
        · unfold World.frozen?
          rw [hc1]
          rcases hfz with h | h
          · obtain ⟨lo, hi⟩ := fz1
            dsimp only at h ⊢
            simp; omega
          · obtain ⟨lo, hi⟩ := fz1
            dsimp only at h ⊢
            simp; omega
      have hcmp : CmpLays1 Try.prog 25 #[] (Ent.enc (E := C.env φ H w)) Ent.cf b 0 ds.toArray.size w := fun k os dk hs x y => by
        have hp := f25_ok x.lst y.lst x.2.1 y.2.1
        have hq := pure_calls hp g hbN (W := sortWorld Ent.enc w b 0 k dk os) (by simp [sortWorld, Go.Sort.grow]) (fun j hj hjb => by rw [putRow_heap _ _ _ _ _ _ hj, if_neg hjb]) (cargs := #[x.enc, y.enc]) (.cons x.2.2 (.cons y.2.2 .nil))
        refine Go.Calls.mono hq ?_
        rintro e w' ⟨E, v, rfl, hv, hw⟩
        cases hv
        exact ⟨rfl, hw⟩
      have eg : ∀ args w, (callFunc 25 args).run Try.prog w = .ok (.enter 25 args) w := enters_of Try.func25 (by decide) rfl
      have hcon := Any.slices_SortFunc (P := Try.prog) (ρ := sortK_ren) sortK (Ent.enc (E := C.env φ H w)) ent_one Ent.cf ent_swo 25 #[] b 0 cap ds.toArray w eg hcmp hH0 hbs (by rw [hds, hm]; exact hrl)
      rw [hds] at hcon
      refine Go.Calls.mono (show Calls Try.prog 24 _ w _ from hcon) ?_
      rintro e' w' ⟨rfl, d', q, os, ⟨hp1, _, hp3⟩, hsort, rfl⟩
      have hd'm : d'.size = m := hp1.trans hds
      have hperm : d'.toList.Perm ds := by
        have e1 : d'.extract 0 m = d' := by rw [← hd'm]; exact Array.extract_size
        have e2 : ds.toArray.extract 0 m = ds.toArray := by rw [← hds]; exact Array.extract_size
        rw [e1, e2] at hp3
        exact hp3
      have hrl' : (d'.toList.map Ent.lst).length = rows.length := by rw [List.length_map, Array.length_toList, hd'm, hm]
      have hvs' : VRs (C.env φ H w) ((d'.toList.map Ent.lst).map r34) (d'.toList.map Ent.enc) := by
        have := vrs_of (E := C.env φ H w) (f := r34) (l := d'.toList.map fun x => (x.lst, x.enc)) (fun p hp => by
          obtain ⟨x, _, rfl⟩ := List.mem_map.mp hp
          exact x.2.2)
        simp only [List.map_map] at this ⊢
        exact this
      have hsz1 : c1.size ≥ m := by
        rcases Nat.lt_or_ge (m - 1) c1.size with h | h
        · omega
        · have hj : m - 1 < ds.length := by omega
          have := (Array.getElem?_eq_some_iff.mp (hcv (m - 1) _ (List.getElem?_eq_getElem hj))).1
          omega
      have hheap : ∀ k, k < w.heap.size → (sortWorld (Ent.enc (E := C.env φ H w)) w b 0 q d' os).heap[k]? = if k = b then some (Obj.cells (Go.Sort.putCells Ent.enc 0 d' c1) e1 fz1) else w.heap[k]? := fun k hk => by
        rw [putRow_heap _ _ _ _ _ _ hk, hc1]; rfl
      have hget : ∀ (j : Nat) v, (d'.toList.map Ent.enc)[j]? = some v → (Go.Sort.putCells Ent.enc 0 d' c1)[j]? = some v := fun j v hj => by
        rw [List.getElem?_map] at hj
        obtain ⟨x, hx, rfl⟩ := Option.map_eq_some_iff.mp hj
        have hjl : j < d'.size := by have := (List.getElem?_eq_some_iff.mp hx).1; simpa using this
        have hx' : d'[j]! = x := by
          rw [getElem!_pos d' j hjl]
          rw [Array.getElem?_toList, Array.getElem?_eq_getElem hjl] at hx
          exact Option.some.inj hx
        unfold Go.Sort.putCells
        rw [Array.getElem?_mapIdx, Array.getElem?_eq_getElem (show j < c1.size by omega), Option.map_some, if_pos (by omega), Nat.sub_zero, hx']
      have hturn := g.turn (w' := sortWorld (Ent.enc (E := C.env φ H w)) w b 0 q d' os) (b' := b) (ob' := .arr ver 1 ((d'.toList.map Ent.lst).map r34)) ho trivial hφ' trivial
        ⟨fun v h => h, fun v s r he => .inr ⟨_, by cases he; rfl, by cases he; rw [List.length_map, hrl', List.length_map]⟩, fun es st h => by cases h⟩
        ⟨rfl, rfl, rfl, Nat.le_add_right _ _⟩ (by simp [sortWorld, Go.Sort.grow]) (by simp [sortWorld, Go.Sort.grow]; omega)
        (fun k hk hkb => by rw [hheap k hk, if_neg hkb])
        (.inl ⟨rfl, fun c e fz hc => by
          rw [hc1] at hc; cases hc
          exact ⟨_, _, _, (hheap b hbs).trans (if_pos rfl), by simp [Go.Sort.putCells]⟩⟩)
        (fun E' hE x hφ2 hN => .inr ⟨b, hφ2, hN, Nat.one_pos, fun y hy => by
            obtain ⟨z, _, rfl⟩ := List.mem_map.mp hy; rfl, Go.Sort.putCells Ent.enc 0 d' c1, e1, d'.toList.map Ent.enc,
            ⟨fz1, by
              have : (Go.Sort.putCells (Ent.enc (E := C.env φ H w)) 0 d' c1).size = c1.size := by simp [Go.Sort.putCells]
              rw [this]; exact hfz, by rw [hE]; exact (hheap b hbs).trans (if_pos rfl)⟩, by rw [flat_r34]; exact VRs.mono x hvs', hget⟩)
      refine ⟨.tup [], _, _, _, rfl, ⟨rfl, d'.toList.map Ent.lst, ?_, ?_, rfl⟩, hturn.1, hturn.2, .tup .nil⟩
      · have := hperm.map Ent.lst
        rw [hd2] at this
        exact this
      · rw [List.pairwise_map, List.pairwise_iff_getElem]
        intro i j hi hj hij hlt
        have hi' : i < d'.size := by simpa using hi
        have hj' : j < d'.size := by simpa using hj
        have h1 := hsort i j (Nat.zero_le _) hij (by omega)
        rw [getElem!_pos d' i hi', getElem!_pos d' j hj'] at h1
        exact (of_decide_eq_false h1) (by simpa [Ent.cf] using hlt)
  | _ => cases hd

end Go.Proofs.Ytlfbchkcgchoaaa.C

