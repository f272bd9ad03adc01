/- PA3: the frame's state, and what it stands for. -/
import Derived.Test.YtmacfbboiippoaaPA2
namespace Go.PA

inductive Blk where
  | row (s : Nat) (xs : List A)
  | froz (s : Nat) (xs : List A)
  | var (a : A)

structure St where
  sl : Nat → Option A
  bk : Nat → Option Blk
  ids : Nat → Bool
  ep : Nat

def BkR (e : Env) (d : Nat) : Blk → List Nat → Prop
  | .row s xs, F => 0 < s ∧ (∀ x ∈ xs, x.sz = s) ∧
      ((e.loc d = some none ∧ xs = [] ∧ F = []) ∨
       ∃ g cs ty c us Fx, e.loc d = some (some g) ∧ xs.length ≤ c ∧ c ≤ maxLen ∧ e.w.heap[g]? = some (.cells cs ty (0, 0)) ∧ cs.size = c * s ∧
         VRs xs e.shut us Fx ∧ cs.toList.take us.length = us ∧ F = g :: Fx)
  | .froz s xs, F => F = [] ∧ 0 < s ∧ (∀ x ∈ xs, x.sz = s) ∧
      ((e.loc d = some none ∧ xs = []) ∨
       ∃ g cs ty us, e.loc d = some (some g) ∧ e.S g ∧ e.w.heap[g]? = some (.cells cs ty (0, 0)) ∧ (∃ c, xs.length ≤ c ∧ cs.size = c * s) ∧
         VRs xs e.shut us [] ∧ cs.toList.take us.length = us)
  | .var a, F => ∃ g cs ty Fx, e.loc d = some (some g) ∧ e.w.heap[g]? = some (.cells cs ty (0, 0)) ∧ VR a e cs.toList Fx ∧ F = g :: Fx

/-- What a call begins with. -/
structure Ctx where
  w0 : World
  F0 : List Nat
  S0 : Nat → Prop
  B : Nat → Prop
  n : Nat

def envOf (c : Ctx) (st : St) (w : World) (loc : Nat → Option (Option Nat)) (S : Nat → Prop) : Env := ⟨w, loc, st.ids, S, c.B⟩

/-- What of the world stays: all but the call's own. -/
structure Fram (c : Ctx) (w : World) (S : Nat → Prop) : Prop where
  heap : ∀ g, g < c.w0.heap.size → g ∉ c.F0 → w.heap[g]? = c.w0.heap[g]?
  size : c.w0.heap.size ≤ w.heap.size
  os : w.os = c.w0.os
  tape : w.tape = c.w0.tape
  output : w.output = c.w0.output
  sub : ∀ g, c.S0 g → S g
  new : ∀ g, S g → c.S0 g ∨ g ∈ c.F0 ∨ c.w0.heap.size ≤ g
  bd : ∀ g, S g ∨ c.B g → g < w.heap.size
  shp : ∀ g, g < c.w0.heap.size → (w.shape? g).map (·.2) = (c.w0.shape? g).map (·.2)
  fro : ∀ a, w.frozen? a = c.w0.frozen? a

structure RelW (c : Ctx) (st : St) (a : Act) (w : World) (loc : Nat → Option (Option Nat)) (S : Nat → Prop) (Fm : Nat → List Nat) : Prop where
  slots : ∀ t x, st.sl t = some x → TV x (envOf c st w loc S) (a.tmps.getD t undef)
  size : a.tmps.size = c.n
  defers : a.defers = []
  bks : ∀ d b, st.bk d = some b → BkR (envOf c st w loc S) d b (Fm d)
  dead : ∀ d, st.bk d = none → Fm d = [] ∧ loc d = none
  known : ∀ d, st.bk d ≠ none → st.ids d = true
  nodup : ∀ d, (Fm d).Nodup
  disj : ∀ d d', d ≠ d' → ∀ g, g ∈ Fm d → g ∉ Fm d'
  own : ∀ d g, g ∈ Fm d → ¬ S g ∧ ¬ c.B g ∧ g < w.heap.size ∧ (g ∈ c.F0 ∨ c.w0.heap.size ≤ g)
  fram : Fram c w S

def Rel (c : Ctx) (st : St) (a : Act) (w : World) : Prop := ∃ loc S Fm, RelW c st a w loc S Fm

def upd {α : Type} (f : Nat → Option α) (t : Nat) (a : Option α) : Nat → Option α := fun u => if u = t then a else f u

theorem upd_app {α : Type} (f : Nat → Option α) (t : Nat) (a : Option α) (u : Nat) : upd f t a u = if u = t then a else f u := rfl

def St.put (st : St) (t : Option Nat) (x : Option A) : St :=
  match t with
  | none => st
  | some t => { st with sl := upd st.sl t x }

theorem getD_setIfInBounds (xs : Array Value) (t u : Nat) (v d : Value) :
    (xs.setIfInBounds t v).getD u d = if u = t ∧ t < xs.size then v else xs.getD u d := by
  simp only [Array.getD_eq_getD_getElem?, Array.getElem?_setIfInBounds]
  by_cases h : t = u
  · subst h
    by_cases h2 : t < xs.size <;> simp [h2]
  · simp only [h, if_false]
    rw [if_neg (fun hh => h hh.1.symm)]

/-- A slot is written: nothing else turns. -/
theorem RelW.put {c : Ctx} {st : St} {a : Act} {w : World} {loc S Fm} (R : RelW c st a w loc S Fm) (t : Option Nat) (x : Option A) (y : Value)
    (ht : ∀ d, t = some d → d < c.n) (hx : ∀ z, x = some z → TV z (envOf c st w loc S) y) : RelW c (st.put t x) (a.put t y) w loc S Fm := by
  cases t with
  | none => exact R
  | some t =>
    have he : envOf c (st.put (some t) x) w loc S = envOf c st w loc S := rfl
    refine ⟨fun u z hu => ?_, ?_, R.defers, R.bks, R.dead, R.known, R.nodup, R.disj, R.own, R.fram⟩
    · rw [he]
      simp only [Act.put, getD_setIfInBounds]
      simp only [St.put, upd] at hu
      by_cases h : u = t
      · subst h
        have hsz : u < a.tmps.size := by rw [R.size]; exact ht u rfl
        simp only [if_true] at hu
        simp only [hsz, and_self, if_true]
        exact hx z hu
      · rw [if_neg h] at hu
        rw [if_neg (fun hh => h hh.1)]
        exact R.slots u z hu
    · simp [Act.put, R.size]

end Go.PA
