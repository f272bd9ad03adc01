/- What comes in as a state; the law of RatchetChecks. -/
import Derived.Test.YtopigdkgjobdiaaR22
import Derived.Test.YtopigdkgjobdiaaPAe
namespace Go.PA
open Go.Proofs Go.Fe
set_option linter.unusedVariables false

def KTC : TC := .arr 32 (.int .u8)
def TSp : TC := .struct [KTC, .int .u32, KTC]
def TSt : TC := .struct [.struct [.int .i64, .int .i64, .int .i64], KTC, .struct [KTC, KTC], KTC, .bool, .bool, .bool, KTC, KTC, KTC, .int .u32, .int .u32, .bool, KTC, KTC, KTC, .int .u32, .bool, .slice TSp]
section
variable {H : Type} {d : DataW H} {a : A}
theorem DA.key_inv (h : DA KTC d a) : ∃ k, a = keyT k ∧ KeyOk k := by
  obtain ⟨ds, xs, rfl, rfl, h1, h2⟩ := DA.arr_inv h
  obtain ⟨l, rfl, _, h3, h4⟩ := DAl.map (f := fun k : Nat => .v (.int .u8 k)) (m := fun _ => 1) (good := fun k => k < 256) (fun d a h => h.byte_inv) h1
  exact ⟨l, rfl, by omega, h3⟩
theorem DA.u32_inv (h : DA (.int .u32) d a) : ∃ n : Nat, a = u32T n ∧ n < 4294967296 := by
  obtain ⟨n, rfl, h1, _⟩ := h.nat_inv (k := .u32) rfl
  have : IntKind.max .u32 = 4294967295 := rfl
  exact ⟨n, rfl, by omega⟩
theorem DA.sp_inv (h : DA TSp d a) : ∃ x : Sp, a = spT x ∧ 1 ≤ dBulk d ∧ SpOk x := by
  obtain ⟨ds, xs, rfl, rfl, hs⟩ := DA.struct_inv h
  clear h
  have h := hs
  clear hs
  obtain ⟨d0, ds, a0, xs, rfl, rfl, h0, h⟩ := h.cons_inv
  obtain ⟨d1, ds, a1, xs, rfl, rfl, h1, h⟩ := h.cons_inv
  obtain ⟨d2, ds, a2, xs, rfl, rfl, h2, h⟩ := h.cons_inv
  obtain ⟨rfl, rfl⟩ := h.nil_inv
  obtain ⟨k, rfl, ok⟩ := h0.key_inv
  obtain ⟨n, rfl, on⟩ := h1.u32_inv
  obtain ⟨m, rfl, om⟩ := h2.key_inv
  exact ⟨⟨k, n, m⟩, rfl, by simp only [dBulk]; omega, ok, on, om⟩
theorem DA.sps_inv (h : DA (.slice TSp) d a) : ∃ l : List Sp, a = .sl true (l.map spT) ∧ l.length + 1 ≤ dBulk d ∧ ∀ x ∈ l, SpOk x := by
  obtain ⟨l, h1, h2, h3⟩ := DA.slice_map (f := spT) (m := fun _ => 1) (good := SpOk) (fun d a h => h.sp_inv) h
  rw [sum_ones] at h2
  exact ⟨l, h1, h2, h3⟩
theorem DA.st_inv (h : DA TSt d a) : ∃ s : StS, a = stT s (.sl true (s.spares.map spT)) ∧ s.spares.length + 1 ≤ dBulk d ∧ StOk s := by
  obtain ⟨ds, xs, rfl, rfl, hs⟩ := DA.struct_inv h
  clear h
  have h := hs
  clear hs
  obtain ⟨d0, ds, a0, xs, rfl, rfl, h0, h⟩ := h.cons_inv
  obtain ⟨d1, ds, a1, xs, rfl, rfl, h1, h⟩ := h.cons_inv
  obtain ⟨d2, ds, a2, xs, rfl, rfl, h2, h⟩ := h.cons_inv
  obtain ⟨d3, ds, a3, xs, rfl, rfl, h3, h⟩ := h.cons_inv
  obtain ⟨d4, ds, a4, xs, rfl, rfl, h4, h⟩ := h.cons_inv
  obtain ⟨d5, ds, a5, xs, rfl, rfl, h5, h⟩ := h.cons_inv
  obtain ⟨d6, ds, a6, xs, rfl, rfl, h6, h⟩ := h.cons_inv
  obtain ⟨d7, ds, a7, xs, rfl, rfl, h7, h⟩ := h.cons_inv
  obtain ⟨d8, ds, a8, xs, rfl, rfl, h8, h⟩ := h.cons_inv
  obtain ⟨d9, ds, a9, xs, rfl, rfl, h9, h⟩ := h.cons_inv
  obtain ⟨d10, ds, a10, xs, rfl, rfl, h10, h⟩ := h.cons_inv
  obtain ⟨d11, ds, a11, xs, rfl, rfl, h11, h⟩ := h.cons_inv
  obtain ⟨d12, ds, a12, xs, rfl, rfl, h12, h⟩ := h.cons_inv
  obtain ⟨d13, ds, a13, xs, rfl, rfl, h13, h⟩ := h.cons_inv
  obtain ⟨d14, ds, a14, xs, rfl, rfl, h14, h⟩ := h.cons_inv
  obtain ⟨d15, ds, a15, xs, rfl, rfl, h15, h⟩ := h.cons_inv
  obtain ⟨d16, ds, a16, xs, rfl, rfl, h16, h⟩ := h.cons_inv
  obtain ⟨d17, ds, a17, xs, rfl, rfl, h17, h⟩ := h.cons_inv
  obtain ⟨d18, ds, a18, xs, rfl, rfl, h18, h⟩ := h.cons_inv
  obtain ⟨rfl, rfl⟩ := h.nil_inv
  obtain ⟨es, ys, rfl, rfl, g⟩ := DA.struct_inv h0
  obtain ⟨c0, es, b0, ys, rfl, rfl, g0, g⟩ := g.cons_inv
  obtain ⟨c1, es, b1, ys, rfl, rfl, g1, g⟩ := g.cons_inv
  obtain ⟨c2, es, b2, ys, rfl, rfl, g2, g⟩ := g.cons_inv
  obtain ⟨rfl, rfl⟩ := g.nil_inv
  obtain ⟨v, rfl, rfl, _⟩ := g0.int_inv
  obtain ⟨sk, rfl, rfl, _⟩ := g1.int_inv
  obtain ⟨st, rfl, rfl, _⟩ := g2.int_inv
  obtain ⟨es, ys, rfl, rfl, g⟩ := DA.struct_inv h2
  obtain ⟨c0, es, b0, ys, rfl, rfl, g0, g⟩ := g.cons_inv
  obtain ⟨c1, es, b1, ys, rfl, rfl, g1, g⟩ := g.cons_inv
  obtain ⟨rfl, rfl⟩ := g.nil_inv
  obtain ⟨ownR, rfl, o1⟩ := g0.key_inv
  obtain ⟨ownU, rfl, o2⟩ := g1.key_inv
  obtain ⟨root, rfl, o3⟩ := h1.key_inv
  obtain ⟨peer, rfl, o4⟩ := h3.key_inv
  obtain ⟨hasOwn, rfl, rfl⟩ := h4.bool_inv
  obtain ⟨hasPeer, rfl, rfl⟩ := h5.bool_inv
  obtain ⟨turn, rfl, rfl⟩ := h6.bool_inv
  obtain ⟨send, rfl, o5⟩ := h7.key_inv
  obtain ⟨sendHeader, rfl, o6⟩ := h8.key_inv
  obtain ⟨nextSend, rfl, o7⟩ := h9.key_inv
  obtain ⟨sendN, rfl, o8⟩ := h10.u32_inv
  obtain ⟨prev, rfl, o9⟩ := h11.u32_inv
  obtain ⟨hasSend, rfl, rfl⟩ := h12.bool_inv
  obtain ⟨recv, rfl, o10⟩ := h13.key_inv
  obtain ⟨recvHeader, rfl, o11⟩ := h14.key_inv
  obtain ⟨nextRecv, rfl, o12⟩ := h15.key_inv
  obtain ⟨recvN, rfl, o13⟩ := h16.u32_inv
  obtain ⟨hasRecv, rfl, rfl⟩ := h17.bool_inv
  obtain ⟨l, rfl, o14, o15⟩ := h18.sps_inv
  refine ⟨⟨⟨v, sk, st⟩, root, ownR, ownU, peer, hasOwn, hasPeer, turn, send, sendHeader, nextSend, sendN, prev, hasSend, recv, recvHeader, nextRecv, recvN, hasRecv, l⟩, rfl, ?_, ?_⟩
  · simp only [dBulk, dBulks]
    omega
  · exact ⟨o3, o1, o2, o4, o5, o6, o7, o8, o9, o10, o11, o12, o13, o15⟩
end
theorem checks_law {H : Type} (ds : List (DataW H)) (xs : List A) (h : DAs [TSt] ds xs) (hk : dBulks ds ≤ 1048576) : ∃ back, FS Try.prog 3 xs (.ret [.v (.bool true)] back) := by
  obtain ⟨d0, ds, a0, xs, rfl, rfl, h0, h⟩ := h.cons_inv
  obtain ⟨rfl, rfl⟩ := h.nil_inv
  obtain ⟨s, rfl, hb, ok⟩ := h0.st_inv
  simp only [dBulks] at hk
  exact ⟨_, checks_FS s ok (by omega)⟩
end Go.PA
