/- A logic of abstract states, part 33: calls at what is owned elsewhere, in short forms. -/
import Derived.Test.YtgigpjkdfhhahaaA32
namespace Go.A
set_option linter.unusedVariables false
set_option linter.unusedSimpArgs false

/-- A call that was shown with what it owns alone, where that is owned under the numbers m. -/
theorem CallsIn.at {P : Program} {f : FuncId} {args0 : List D} {Hl : List AObj} {R : D → List AObj → Prop} (h : CallsIn P f args0 Hl R) (m : List Nat) {H : List AObj} {args : List D} (hm : m.length = Hl.length) (hn : m.Nodup)
    (ha : args = renL (ixOf m H.length) args0) (hH : m.map (fun o => H[o]?) = Hl.map (fun ob => some (renO (ixOf m H.length) ob))) (hsa : scs Hl.length args0) (hso : ∀ ob ∈ Hl, ob.sc Hl.length)
    {K : D → List AObj → Prop} (hk : ∀ r0 H0, R r0 H0 → Hl.length ≤ H0.length → K (ren (ixOf m H.length) r0) (place m H (H0.map (renO (ixOf m H.length))))) : CallsIn P f args H K := by
  subst ha
  refine (h.lift m hm hn (fun i o ob h1 h2 => ?_) hsa hso).mono ?_
  · have := congrArg (fun l => l[i]?) hH
    simp only [List.getElem?_map, h1, h2, Option.map_some, Option.some.injEq] at this
    exact this
  · rintro r H' ⟨r0, H0, h1, h2, rfl, rfl⟩
    exact hk r0 H0 h1 h2

/-- A call that turns one owned thing, and what it answers (v: a version that is not told). -/
structure Turns1 (P : Program) (f : FuncId) (a : Nat → List D) (ob : AObj) (r : Nat → Nat → D) (ob' : Nat → AObj) : Prop where
  arg : ∀ ρ : Nat → Nat, renL ρ (a 0) = a (ρ 0)
  res : ∀ (ρ : Nat → Nat) v, ren ρ (r 0 v) = r (ρ 0) v
  asc : scs 1 (a 0)
  osc : ob.sc 0
  ores : ∀ (ρ : Nat → Nat) v, renO ρ (ob' v) = ob' v
  calls : CallsIn P f (a 0) [ob] fun r' H' => ∃ v, r' = r 0 v ∧ H' = [ob' v]

theorem osc_le {k : Nat} : ∀ {ob : AObj}, ob.sc 0 → ob.sc k
  | .arr _ _ rows, h => scs_le k rows h
  | .mapx es _, h => fun e he => ⟨sc_le k _ (h e he).1, sc_le k _ (h e he).2⟩
  | .gone, _ => trivial
theorem renO_sc0 (ρ : Nat → Nat) : ∀ {ob : AObj}, ob.sc 0 → renO ρ ob = ob
  | .arr _ _ rows, h => by rw [renO, renL_sc0 ρ rows h]
  | .mapx es _, h => by
    rw [renO]
    congr 1
    conv => rhs; rw [← List.map_id es]
    refine List.map_congr_left fun e he => ?_
    rw [ren_sc0 ρ _ (h e he).1, ren_sc0 ρ _ (h e he).2]; rfl
  | .gone, _ => rfl

theorem Turns1.call {P : Program} {f : FuncId} {a : Nat → List D} {ob : AObj} {r : Nat → Nat → D} {ob' : Nat → AObj} (h : Turns1 P f a ob r ob') (o : Nat) {H : List AObj} (ho : H[o]? = some ob) {K : D → List AObj → Prop}
    (hk : ∀ v, setK H o (ob' v) fun H' => K (r o v) H') : CallsIn P f (a o) H K := by
  have hx : ixOf [o] H.length 0 = o := rfl
  refine h.calls.at [o] (H := H) rfl (by simp) (by rw [h.arg, hx]) (by simp [ho, renO_sc0 _ h.osc]) h.asc (fun ob1 h1 => by
    simp only [List.mem_singleton] at h1; subst h1; exact osc_le h.osc) ?_
  rintro r0 H0 ⟨v, rfl, rfl⟩ _
  have := setK_iff.mp (hk v)
  rw [h.res, hx]
  simpa [place, upds, h.ores] using this

/-- The same as Owned.call, .locK, .seeK, .seeL, with the length told otherwise. -/
theorem Owned.callN {P : Program} {f : FuncId} {args : List D} {sz : Nat} {rows : List D} (h : Owned P f args sz rows) (m : Nat) (hm : rows.length = m) {H : List AObj} {K : D → List AObj → Prop}
    (hk : ∀ ver, lenK H 0 fun o => snocK H (.arr ver sz rows) fun H' => K (.h o ver 0 m) H') : CallsIn P f args H K := by subst hm; exact h.call hk
theorem Owned.locN {P : Program} {f : FuncId} {args : List D} {sz : Nat} {rows : List D} (h : Owned P f args sz rows) (m : Nat) (hm : rows.length = m) {H : List AObj} {bx : List Bool} {X : D → List Nat → List (Nat × AObj) → List AObj → List Bool → Prop}
    (hx : lenK H 0 fun o => snocK H (.arr 1 sz rows) fun H' => bxK bx o false fun bx => X (.h o 1 0 m) [o] [(o, .arr 1 sz rows)] H' bx) : LocK P f args H bx X := by subst hm; exact h.locK hx
theorem Owned.seeN {P : Program} {f : FuncId} {args args' : List D} {sz : Nat} {rows : List D} (h : Owned P f args' sz rows) (m : Nat) (hm : rows.length = m) (F : List (Nat × AObj)) {H : List AObj} (hF : ∀ x ∈ F, H[x.1]? = some x.2) (hs : Seess 0 (fun i => H.length + i) F args args') (hb : bares rows) {K : D → List AObj → Prop}
    (hk : ∀ ver, lenK H 0 fun o => snocK H (.arr ver sz rows) fun H' => K (.h o ver 0 m) H') : CallsIn P f args H K := by subst hm; exact h.seeK F hF hs hb hk
theorem Owned.seeLN {P : Program} {f : FuncId} {args args' : List D} {sz : Nat} {rows : List D} (h : Owned P f args' sz rows) (m : Nat) (hm : rows.length = m) (F : List (Nat × AObj)) {H : List AObj} {bx : List Bool} (hF : ∀ x ∈ F, H[x.1]? = some x.2) (hs : ∀ n : Nat, Seess 0 (fun i => n + i) F args args') (hb : bares rows)
    {X : D → List Nat → List (Nat × AObj) → List AObj → List Bool → Prop} (hx : lenK H 0 fun o => snocK H (.arr 1 sz rows) fun H' => bxK bx o false fun bx => X (.h o 1 0 m) (o :: F.map Prod.fst) [(o, .arr 1 sz rows)] H' bx) : LocK P f args H bx X := by subst hm; exact h.seeL F hF hs hb hx

/-- A call that answers a fresh owned slice within its answer, of what is owned. -/
theorem OwnedR.see {P : Program} {f : FuncId} {args args' : List D} {r : Nat → Nat → D} {sz : Nat} {rows : List D} (h : OwnedR P f args' r sz rows) (F : List (Nat × AObj)) {H : List AObj} (hF : ∀ x ∈ F, H[x.1]? = some x.2) (hs : Seess 0 (fun i => H.length + i) F args args') (hb : bares rows) (hbr : ∀ ver, (r 0 ver).bare) :
    CallsIn P f args H fun r' H' => ∃ ver, r' = r H.length ver ∧ H' = H ++ [.arr ver sz rows] := by
  have h1 := CallsIn.see h.calls (fun r0 H0 ⟨ver, e1, e2⟩ => by subst e1 e2; exact ⟨hbr ver, fun ob hob => by simp only [List.mem_singleton] at hob; subst hob; exact hb⟩) [] F (H := H) rfl .nil (fun i o ob hi => by simp at hi) (fun ob hob => by cases hob) (fun x hx => ⟨by simp, hF x hx⟩) (by rw [ixOf_nil]; exact hs)
  refine h1.mono ?_
  rintro r' H' ⟨r0, H0, ⟨ver, rfl, rfl⟩, _, rfl, rfl⟩
  refine ⟨ver, by rw [ixOf_nil, h.res]; rfl, ?_⟩
  simp only [place, List.zip_nil_left, upds, List.length_nil, List.drop_zero, List.map_cons, List.map_nil, renO, renL_sc0 _ _ h.row]
theorem OwnedR.seeK {P : Program} {f : FuncId} {args args' : List D} {r : Nat → Nat → D} {sz : Nat} {rows : List D} (h : OwnedR P f args' r sz rows) (F : List (Nat × AObj)) {H : List AObj} (hF : ∀ x ∈ F, H[x.1]? = some x.2) (hs : Seess 0 (fun i => H.length + i) F args args') (hb : bares rows) (hbr : ∀ ver, (r 0 ver).bare) {K : D → List AObj → Prop}
    (hk : ∀ ver, lenK H 0 fun o => snocK H (.arr ver sz rows) fun H' => K (r o ver) H') : CallsIn P f args H K := (h.see F hF hs hb hbr).mono fun r' H' ⟨ver, e1, e2⟩ => by
  subst e1 e2
  have := snocK_iff.mp (lenK_iff.mp (hk ver))
  rw [Nat.zero_add] at this
  exact this

/-- A fresh owned slice, wherever. -/
theorem Owned.freshN {P : Program} {f : FuncId} {args : List D} {sz : Nat} {rows : List D} (h : Owned P f args sz rows) (m : Nat) (hm : rows.length = m) (H : List AObj) {K : D → List AObj → Prop} (hk : ∀ ver, K (.h H.length ver 0 m) (H ++ [.arr ver sz rows])) : CallsIn P f args H K := by
  subst hm
  refine (h.calls.fresh h.arg H).mono ?_
  rintro r H' ⟨r0, H0, ⟨ver, rfl, rfl⟩, rfl, rfl⟩
  have := hk ver
  simpa [ren, renO, renL_sc0 _ _ h.row] using this
/-- What stands where. -/
theorem objK_of {H : List AObj} {o : Nat} {ob : AObj} {X : AObj → Prop} (h : H[o]? = some ob) (hx : X ob) : objK H o X := objK_iff.mpr ⟨ob, h, hx⟩

theorem Wks.set : ∀ {s : List D} {t : Nat} {d d' : D}, s[t]? = some d → Wk d d' → Wks s (s.set t d')
  | [], _, _, _, h, _ => by simp at h
  | x :: s, 0, d, d', h, hw => by simp at h; subst h; exact .cons hw Wks.refl
  | x :: s, t + 1, d, d', h, hw => .cons .refl (Wks.set (by simpa using h) hw)
/-- A slot told otherwise. -/
theorem Ghost.wkAt (t : Nat) {n : Nat} {s : List D} {H : List AObj} {d d' : D} (hs : s[t]? = some d) (hw : Wk d d') : Ghost n s H (s.set t d') H := Ghost.wk (Wks.set hs hw)

end Go.A
