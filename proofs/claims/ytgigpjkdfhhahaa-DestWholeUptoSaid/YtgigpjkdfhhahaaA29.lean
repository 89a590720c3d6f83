/- A logic of abstract states, part 29: calls that are handed one owned thing, and turn nothing. -/
import Derived.Test.YtgigpjkdfhhahaaA28
namespace Go.A
set_option linter.unusedVariables false
set_option linter.unusedSimpArgs false

/-- A call that is handed what is owned, and turns nothing (o is the number of what is owned). -/
structure PureH (P : Program) (f : FuncId) (a : Nat → List D) (ver sz : Nat) (rows : List D) (r : Nat → D) : Prop where
  arg : ∀ ρ : Nat → Nat, renL ρ (a 0) = a (ρ 0)
  res : ∀ ρ : Nat → Nat, ren ρ (r 0) = r (ρ 0)
  asc : scs 1 (a 0)
  row : scs 0 rows
  calls : CallsIn P f (a 0) [.arr ver sz rows] fun r' H' => r' = r 0 ∧ H' = [.arr ver sz rows]

mutual
theorem sc_le (k : Nat) : ∀ (d : D), d.sc 0 → d.sc k
  | .undef, _ => trivial
  | .int _ _, _ => trivial
  | .bool _, _ => trivial
  | .str _, _ => trivial
  | .agg cs, h => scs_le k cs h
  | .tup cs, h => scs_le k cs h
  | .sl cs, h => scs_le k cs h
  | .nils, _ => trivial
  | .h o ver i n, h => by simp [D.sc] at h
  | .p o ver i j, h => by simp [D.sc] at h
  | .pe cs, h => scs_le k cs h
  | .pnil, _ => trivial
  | .map o, h => by simp [D.sc] at h
  | .mnil, _ => trivial
  | .fn _ cs, h => scs_le k cs h
  | .fnil, _ => trivial
  | .ifc _ v, h => sc_le k v h
  | .inil, _ => trivial
  | .raw v, _ => trivial
theorem scs_le (k : Nat) : ∀ (l : List D), scs 0 l → scs k l
  | [], _ => trivial
  | d :: ds, h => ⟨sc_le k d h.1, scs_le k ds h.2⟩
end

theorem PureH.at {P : Program} {f : FuncId} {a : Nat → List D} {ver sz : Nat} {rows : List D} {r : Nat → D} (h : PureH P f a ver sz rows r) {o : Nat} {H : List AObj} (ho : H[o]? = some (.arr ver sz rows)) :
    CallsIn P f (a o) H fun r' H' => r' = r o ∧ H' = H := by
  have hx : ixOf [o] H.length 0 = o := rfl
  have h1 := h.calls.lift (H := H) [o] rfl (by simp) (fun i o' ob h1 h2 => by
    cases i with
    | zero =>
      simp only [List.getElem?_cons_zero, Option.some.injEq] at h1 h2
      subst h1 h2
      rw [ho]
      simp only [renO, renL_sc0 _ _ h.row]
    | succ i => simp at h1) h.asc (fun ob hob => by
      simp only [List.mem_singleton] at hob
      subst hob
      exact scs_le _ _ h.row)
  rw [h.arg, hx] at h1
  refine h1.mono ?_
  rintro r' H' ⟨r0, H0, ⟨rfl, rfl⟩, _, rfl, rfl⟩
  refine ⟨by rw [h.res, hx], ?_⟩
  simp only [place, List.map_cons, List.map_nil, List.zip_cons_cons, List.zip_nil_right, upds, renO, renL_sc0 _ _ h.row, List.length_singleton, List.drop_succ_cons, List.drop_nil, List.append_nil]
  exact set_selfL ho

theorem PureH.call {P : Program} {f : FuncId} {a : Nat → List D} {ver sz : Nat} {rows : List D} {r : Nat → D} (h : PureH P f a ver sz rows r) (o : Nat) {H : List AObj} (ho : H[o]? = some (.arr ver sz rows)) {K : D → List AObj → Prop} (hk : K (r o) H) :
    CallsIn P f (a o) H K := (h.at ho).mono fun r' H' ⟨e1, e2⟩ => by subst e1 e2; exact hk

theorem PureH.locK {P : Program} {f : FuncId} {a : Nat → List D} {ver sz : Nat} {rows : List D} {r : Nat → D} (h : PureH P f a ver sz rows r) (o : Nat) {H : List AObj} {bx : List Bool} (ho : H[o]? = some (.arr ver sz rows))
    {X : D → List Nat → List (Nat × AObj) → List AObj → List Bool → Prop} (hx : X (r o) [o] [] H bx) : LocK P f (a o) H bx X :=
  ⟨.inl ⟨r o, [o], [], ⟨fun o ho => by simp [dom] at ho, fun o' ho' => by simp at ho'; subst ho'; exact (List.getElem?_eq_some_iff.mp ho).1,
    fun H' hH => (h.at ((hH o (by simp)).trans ho)).mono fun r' H'' ⟨e1, e2⟩ => ⟨e1, e2⟩⟩, hx⟩⟩

theorem PureH.of {P : Program} {f : FuncId} {a : Nat → List D} {ver sz : Nat} {rows : List D} {r : Nat → D} (arg : ∀ ρ : Nat → Nat, renL ρ (a 0) = a (ρ 0)) (res : ∀ ρ : Nat → Nat, ren ρ (r 0) = r (ρ 0))
    (asc : scs 1 (a 0)) (row : scs 0 rows) (calls : CallsIn P f (a 0) [.arr ver sz rows] fun r' H' => Ghost 1 [r'] H' [r 0] [.arr ver sz rows]) : PureH P f a ver sz rows r :=
  ⟨arg, res, asc, row, CallsIn.ghost (calls.mono fun r' H' h => ⟨_, _, h, rfl, rfl⟩)⟩

theorem nc1 {i : Nat} : (i : Int) + 1 = ((i + 1 : Nat) : Int) := rfl

theorem map_at {α β : Type} {f : α → β} {l : List α} {j i : Nat} {x : α} (e : j = i) (h : l[i]? = some x) : (l.map f)[j]? = some (f x) := by subst e; exact map_get h

/-- The same, so far alone. -/
theorem CallsIn.of_execN (fuel : Nat) {P : Program} {T : Tab} (hT : TOk P T) (hm : P.follows .mixedOrders = true) {f : FuncId} {fn : Func} {c : Code} {args : List D} {H : List AObj} {R : D → List AObj → Prop}
    (hf : P.funcs[f]? = some fn) (hb : fn.body = some c) (hn : (fn.name == "runtime.NumGoroutine") = false) (own : List Nat) (bx : List Bool)
    (h : padK args fn.ntmps fun s => lenK H 0 fun n => exec P T n own fuel [.code c] s H bx (retX T fn.results.toList R)) : CallsIn P f args H R := by
  replace h := lenK_iff.mp (padK_iff.mp h)
  rw [Nat.zero_add] at h
  exact CallsIn.of_body hT hf hb hn (fun e s hq => retX_ok hq) (exec_ok hT hm _ h)

/-- A slot's slice of what is owned, told as what does not change. -/
theorem Ghost.frzAt {n o ver sz i m t : Nat} {rows xs : List D} {s : List D} {H : List AObj} (hno : n ≤ o) (ho : H[o]? = some (.arr ver sz rows)) (hs : s[t]? = some (.h o ver i m)) (hx : xs = (rows.drop i).take m) :
    Ghost n s H (s.set t (.sl xs)) (H.set o .gone) := Ghost.freeze hno ho (Frzs.set hs (.h hx))

end Go.A
