/- What comes in as a beginning; the law of RatchetBegins. -/
import Derived.Test.YtopigdkgjobdiaaR26
import Derived.Test.YtopigdkgjobdiaaPAe
namespace Go.PA
open Go.Proofs
set_option linter.unusedVariables false

def KTC : TC := .arr 32 (.int .u8)
def TCf : TC := .struct [.int .i64, .int .i64, .int .i64]
def TBg : TC := .struct [KTC, KTC, KTC, .struct [KTC, KTC], KTC, TCf, TCf]
section
variable {H : Type} {d : DataW H} {a : A}
theorem DA.key_inv (h : DA KTC d a) : ∃ k, a = keyT k ∧ KeyOk k := by
  obtain ⟨ds, xs, rfl, rfl, h1, h2⟩ := DA.arr_inv h
  obtain ⟨l, rfl, _, h3, h4⟩ := DAl.map (f := fun k : Nat => .v (.int .u8 k)) (m := fun _ => 1) (good := fun k => k < 256) (fun d a h => h.byte_inv) h1
  exact ⟨l, rfl, by omega, h3⟩
theorem DA.cfg_inv (h : DA TCf d a) : ∃ c, a = cfgT c := by
  obtain ⟨es, ys, rfl, rfl, g⟩ := DA.struct_inv h
  obtain ⟨c0, es, b0, ys, rfl, rfl, g0, g⟩ := g.cons_inv
  obtain ⟨c1, es, b1, ys, rfl, rfl, g1, g⟩ := g.cons_inv
  obtain ⟨c2, es, b2, ys, rfl, rfl, g2, g⟩ := g.cons_inv
  obtain ⟨rfl, rfl⟩ := g.nil_inv
  obtain ⟨v, rfl, rfl, _⟩ := g0.int_inv
  obtain ⟨sk, rfl, rfl, _⟩ := g1.int_inv
  obtain ⟨st, rfl, rfl, _⟩ := g2.int_inv
  exact ⟨⟨v, sk, st⟩, rfl⟩
end
theorem begins_law {H : Type} (ds : List (DataW H)) (xs : List A) (h : DAs [TBg] ds xs) (hk : dBulks ds ≤ 1048576) : ∃ back, FS Try.prog 4 xs (.ret [.v (.bool true)] back) := by
  obtain ⟨d0, ds, a0, xs, rfl, rfl, h0, h⟩ := h.cons_inv
  obtain ⟨rfl, rfl⟩ := h.nil_inv
  clear h
  obtain ⟨ds, xs, rfl, rfl, hs⟩ := DA.struct_inv h0
  clear h0
  have h := hs
  clear hs
  obtain ⟨d0, ds, a0, xs, rfl, rfl, h0, h⟩ := h.cons_inv
  obtain ⟨d1, ds, a1, xs, rfl, rfl, h1, h⟩ := h.cons_inv
  obtain ⟨d2, ds, a2, xs, rfl, rfl, h2, h⟩ := h.cons_inv
  obtain ⟨d3, ds, a3, xs, rfl, rfl, h3, h⟩ := h.cons_inv
  obtain ⟨d4, ds, a4, xs, rfl, rfl, h4, h⟩ := h.cons_inv
  obtain ⟨d5, ds, a5, xs, rfl, rfl, h5, h⟩ := h.cons_inv
  obtain ⟨d6, ds, a6, xs, rfl, rfl, h6, h⟩ := h.cons_inv
  obtain ⟨rfl, rfl⟩ := h.nil_inv
  obtain ⟨es, ys, rfl, rfl, g⟩ := DA.struct_inv h3
  obtain ⟨c0, es, b0, ys, rfl, rfl, g0, g⟩ := g.cons_inv
  obtain ⟨c1, es, b1, ys, rfl, rfl, g1, g⟩ := g.cons_inv
  obtain ⟨rfl, rfl⟩ := g.nil_inv
  obtain ⟨r, rfl, o4⟩ := g0.key_inv
  obtain ⟨u, rfl, o5⟩ := g1.key_inv
  obtain ⟨sh, rfl, o1⟩ := h0.key_inv
  obtain ⟨hA, rfl, o2⟩ := h1.key_inv
  obtain ⟨hB, rfl, o3⟩ := h2.key_inv
  obtain ⟨pe, rfl, o6⟩ := h4.key_inv
  obtain ⟨ca, rfl⟩ := h5.cfg_inv
  obtain ⟨cb, rfl⟩ := h6.cfg_inv
  exact ⟨_, begins_FS ca cb sh hA hB r u pe o1 o2 o3 o4 o5 o6⟩
end Go.PA
