/- The row of WireNumbers. -/
import Derived.Test.YtmacfbboiippoaaW6
import Derived.Test.YtmacfbboiippoaaRows
import Derived.WalkKit
import Derived.ProofKit
import Derived.OpenShut
import Derived.ShutString
import Derived.ChangeOld
import Derived.JoinedCond
import Derived.Below
namespace Go.PA
open Go.ChangeShapes Go.RowKit

/-- What is there when a law is called: nothing of it turns. -/
def baseEnv (W : World) : Env := cEnv W (fun g => g < W.heap.size) (fun _ => False)

theorem calls_law {P : Program} {f : FuncId} {args : List A} {back : List (Option A)} {vs : List Value} {W : World} (h : FS P f args (.ret [.v (.bool true)] back)) (hv : VVs args (baseEnv W) vs []) :
    Calls P f vs.toArray W fun e W' => e = .returned (.bool true) ∧ Below W.heap.size W W' := by
  refine (h W (fun g => g < W.heap.size) (fun _ => False) vs [] hv List.nodup_nil (fun g hg => by simp at hg) (fun g hg => hg.resolve_right id)).mono fun e W' ⟨S', F', hf, _, _, hm⟩ => ?_
  cases e with
  | returned v =>
    obtain ⟨Fr, Fb, _, hr, _⟩ := hm
    refine ⟨?_, hf.os, hf.tape, hf.output, hf.size, fun k hk => hf.heap k hk (by simp)⟩
    simp only [resRel] at hr
    rw [VV_mk rfl] at hr
    simp only [VR] at hr
    have h2 := hr.2.1
    simp only [List.cons.injEq, and_true] at h2
    rw [h2]
  | panicked ch => exact hm.elim
  | outgrown => exact hm.elim

theorem VRs_bytes (e : Env) : ∀ (l : List Int), (∀ n ∈ l, 0 ≤ n) → VRs (bA (l.map Int.toNat)) e (l.map fun n => .int .u8 n) []
  | [], _ => by simp [bA, VRs]
  | n :: l, h => by
    have h0 : ((n.toNat : Nat) : Int) = n := by have := h n (by simp); omega
    have := VRs_bytes e l (fun m hm => h m (by simp [hm]))
    simp only [bA, List.map_cons] at this ⊢
    refine VRs_cons (us := [.int .u8 n]) (F := []) (G := []) ?_ this
    simp only [VR, h0]
    exact ⟨rfl, trivial, trivial⟩

/-- A slice of bytes that came in. -/
theorem bytes_arg {H : Type} {enc : TypeId × Value → H} {P : Program} {W : World} {base : Nat} {sp : Nat → Bool} {hd : Bool} {t e : TypeId} {a : Option Addr} {len cap : Nat} {d : DataW H} {ps : List MemPlace}
    (ht : P.underlying t = some (.slice e)) (he : P.underlying e = some (.int .u8)) (hc : P.cellsOf e = 1) (h : DataW.Trod enc P W base sp hd t (.slice a len cap) d ps) :
    ∃ b : List Nat, b.length = len ∧ (∀ k ∈ b, k < 256) ∧ VV (.sl true (bA b)) (baseEnv W) (.slice a len cap) [] ∧ ((d = .nil ∧ b = []) ∨ ∃ rest, d = .slice (lits .u8 (b.map fun (k : Nat) => (k : Int))) rest) := by
  obtain ⟨fuel, hf⟩ := h
  rcases open_ints ht he hc hf with ⟨hcs, hx⟩ | ⟨x, l, c, zs, hcs, _, hl, hm, hz, hx, hcell, hwz⟩
  · simp [Value.cells] at hcs
    obtain ⟨rfl, rfl, rfl⟩ := hcs
    injection hx with hx1 hx2
    refine ⟨[], rfl, by simp, ?_, .inl ⟨hx1, rfl⟩⟩
    rw [VV_mk rfl]
    simp only [VR]
    exact ⟨trivial, none, 0, [], rfl, by simp [bA], ⟨0, by simp [bA]⟩, by simp [bA, VRs], by simp [bA]⟩
  · simp [Value.cells] at hcs
    obtain ⟨rfl, rfl, rfl⟩ := hcs
    injection hx with hx1 hx2
    have hw : ∀ n ∈ zs, 0 ≤ n ∧ n ≤ 255 := fun n hn => by simpa [Lit.wf, IntKind.min, IntKind.max, IntKind.signed, IntKind.bits] using hwz n hn
    have hlz : len ≤ zs.length := by rw [hz]; split <;> omega
    have hmap : ((zs.take len).map Int.toNat).map (fun (k : Nat) => (k : Int)) = zs.take len := by
      rw [List.map_map]
      conv => rhs; rw [← List.map_id (zs.take len)]
      refine List.map_congr_left fun n hn => ?_
      have := hw n (List.mem_of_mem_take hn)
      simp
      omega
    have hblk : x.block < W.heap.size ∨ zs.length = 0 := by
      rcases Nat.eq_zero_or_pos zs.length with h0 | h0
      · exact .inr h0
      · refine .inl ?_
        have h1 := hcell 0 h0
        refine Nat.lt_of_not_le fun hle => ?_
        have h2 : W.heap[x.block]? = none := Array.getElem?_eq_none hle
        have h3 : (x.add 0).block = x.block := by unfold Addr.add; split <;> rfl
        unfold World.cell? at h1
        simp [h3, h2] at h1
    refine ⟨(zs.take len).map Int.toNat, by simp; omega, fun k hk => ?_, ?_, .inr ⟨lits .u8 (zs.drop len), ?_⟩⟩
    · obtain ⟨n, hn, rfl⟩ := List.mem_map.1 hk
      have := hw n (List.mem_of_mem_take hn)
      omega
    · rw [VV_mk rfl]
      simp only [VR]
      have hlen : (bA ((zs.take len).map Int.toNat)).length = len := by rw [bA_length]; simp; omega
      refine ⟨trivial, some x, cap, (zs.take len).map fun n => .int .u8 n, by rw [hlen], by rw [hlen]; exact hl, ⟨1, fun y hy => bA_sz hy⟩, ?_, fun hne => ⟨x, rfl, .inl ?_, fun j u hu => ?_⟩⟩
      · exact VRs_bytes _ _ fun n hn => (hw n (List.mem_of_mem_take hn)).1
      · refine hblk.resolve_right fun h0 => hne ?_
        have : zs = [] := List.eq_nil_of_length_eq_zero h0
        simp [this, bA]
      · have hj : j < len := by
          have := (List.getElem?_eq_some_iff.1 hu).1
          simp at this
          omega
        have hc2 := hcell j (by omega)
        rw [List.getElem?_map, List.getElem?_take_of_lt hj, List.getElem?_eq_getElem (by omega)] at hu
        simp only [Option.map_some, Option.some.injEq] at hu
        subst hu
        show W.cell? (x.add j) = _
        simpa [List.getD_eq_getElem?_getD, show j < zs.length by omega] using hc2
    · rw [hmap]
      exact hx1
end Go.PA

namespace Go.Proofs.Ytmacfbboiippoaa.wireNumbers
open Go.ChangeShapes Go.WideShapes Go.ChangeAt Go.RowKit Go.PA
set_option linter.unusedVariables false

theorem own : ownKnob Try.prog.godebug = none := by kernel_rfl
theorem laidOut : laidOutB Try.prog = true := by kernel_rfl

theorem bulk_len {H : Type} (k : IntKind) : ∀ (l : List Int), Rows.uptoBulkAll (lits (H := H) k l) = l.length
  | [] => rfl
  | n :: l => by
    have := bulk_len (H := H) k l
    simp only [lits, List.map_cons, Rows.uptoBulkAll, Rows.uptoBulk, List.length_cons] at this ⊢
    rw [this]
    omega

theorem contract (H : Type) (enc : TypeId × Value → H) (W : World) (base : Nat) (args : Array Value) (ds gs : List (DataW H)) (before : List MemPlace)
    (hval : ∀ (j : Nat) t v, Try.f3.params[j]? = some t → args[j]? = some v → Value.okWide Try.prog W .any base t v)
    (hW : DataW.Whole enc Try.prog Try.f3.params.toList Rows.wireNumbersSpec.vars false W args.toList ds gs before) (hk : Rows.uptoSmall H (ds ++ gs) = true) :
    Calls Try.prog 3 args W fun e W' => ∃ v, e = .returned v ∧ Rows.wireNumbersSpec.post enc Try.prog Try.f3 false true false false W args v W' := by
  have hW' := hW
  obtain ⟨p, q, hA0, hV, rfl, hfz, hnd⟩ := hW
  have hA : DataW.TrodAll enc Try.prog W 0 (fun _ => true) true Try.f3.params.toList args.toList ds p := hA0
  rw [Try.params3] at hA hval
  obtain ⟨v0, vs0, d0, ds0, p0, q0, hargs, rfl, rfl, h0, r0⟩ := trodAll_cons hA
  obtain ⟨v1, vs1, d1, ds1, p1, q1, rfl, rfl, rfl, h1, r1⟩ := trodAll_cons r0
  obtain ⟨rfl, rfl, rfl⟩ := trodAll_nil r1
  obtain rfl : args = #[v0, v1] := by cases args; simp_all
  obtain ⟨rfl, rfl⟩ := trodVars_none hV
  obtain ⟨a0, len0, cap0, rfl⟩ := okWide_slice Try.underlying22 (hval 0 22 v0 rfl rfl)
  have k0 := h0
  have lt0 : ∀ x ∈ p0, x.block < W.heap.size := by obtain ⟨m, hm⟩ := k0; exact DataW.trod_lt m _ _ _ hm
  obtain ⟨b, hbl, hb8, hbv, hbd⟩ := bytes_arg Try.underlying22 Try.underlying5 (by kernel_rfl) h0
  obtain ⟨n1, rfl, rfl, rfl, w1⟩ := open_int Try.underlying23 (hval 1 23 v1 rfl rfl) h1
  clear hA0
  simp only [List.append_nil] at hW' hk
  have hx : 0 ≤ n1 ∧ n1 ≤ 18446744073709551615 := by simpa [Lit.wf, IntKind.min, IntKind.max, IntKind.signed, IntKind.bits] using w1
  have hlen : b.length < 2 ^ 38 := by
    have h : Rows.uptoBulkAll (d0 :: [DataW.lit (H := H) (.int .u64 n1)]) ≤ 1048576 := of_decide_eq_true hk
    rcases hbd with ⟨_, rfl⟩ | ⟨rest, rfl⟩
    · simp
    · simp only [Rows.uptoBulkAll, Rows.uptoBulk, bulk_len, List.length_map] at h
      omega
  have hn : ((n1.toNat : Nat) : Int) = n1 := by omega
  have hfs := numbers_FS b n1.toNat (by omega) hlen
  rw [hn] at hfs
  have hvv : VVs [.sl true (bA b), .v (.int .u64 n1)] (baseEnv W) [.slice a0 len0 cap0, .int .u64 n1] [] := by
    simp only [VVs]
    refine ⟨_, _, [], [], rfl, rfl, hbv, _, _, [], [], rfl, rfl, .inr ⟨rfl, ?_⟩, rfl, rfl⟩
    simp only [VR]
    exact ⟨rfl, trivial, trivial⟩
  refine (calls_law hfs hvv).mono fun e W' ⟨he, bel⟩ => ?_
  subst he
  exact ⟨_, rfl, _, _, _, [], _, [], hW', trodAll_mk1 (shut_bool Try.underlying4 _), (trodAll_cons_mk (Below.trod laidOut (by kernel_rfl) (of_decide_eq_true (by kernel_rfl)) k0 bel lt0) (trodAll_cons_mk (shut_int Try.underlying23 w1) trodAll_mk0)), rfl, bel.frame _, fun h => by cases h⟩

set_option maxRecDepth 100000 in
theorem lifted (os : Os) (started : os.Started) (H : Type) (enc : TypeId × Value → H) (F : Stop.Interp) :
    ReturnsInHanded {} Try.checked os 3 .any ((Rows.OpenSpec.upto Rows.wireNumbersSpec).pre6 enc Try.prog Try.f3 Rows.wireNumbersUptoRow.domain false) (((Rows.OpenSpec.upto Rows.wireNumbersSpec).at F).post enc Try.prog Try.f3 false true false false) := by
  refine returnsInHanded_of_cond (C := Try.checked) (s := Rows.OpenSpec.upto Rows.wireNumbersSpec) (k := Rows.uptoSmall) rfl own started (by kernel_rfl) Try.func3
    (OpenSpec.witness (enc := enc) (C := Try.checked) (s := Rows.OpenSpec.upto Rows.wireNumbersSpec) (k := Rows.uptoSmall) rfl false ⟨#[], #[.slice none 0 0, .int .u64 0], []⟩ 8 (by kernel_rfl) (by kernel_rfl) (by kernel_rfl)
      (x := ([.nil, .lit (.int .u64 0)], [], [])) (by kernel_rfl) rfl (by kernel_rfl)) ?_
  intro W base args ds gs before hval hW _ hk _
  exact contract H enc W base args ds gs before hval hW hk

theorem proved : Rows.WireNumbersUptoSaid :=
  OpenClaim.holds_of_cond 3 Try.f3 rfl rfl rfl rfl rfl rfl rfl ⟨rfl, rfl, rfl, rfl, rfl⟩ rfl rfl rfl rfl rfl (by kernel_rfl) Try.func3 (by kernel_rfl)
    (of_decide_eq_true (by kernel_rfl)) (by unfold Func.isWrapper; first | (rw [if_pos (by decide +kernel)]; kernel_rfl) | (rw [if_neg (by decide +kernel)]; exact ⟨rfl, rfl⟩))
    (fun os started H enc _ F => lifted os started H enc F)
#print axioms proved
end Go.Proofs.Ytmacfbboiippoaa.wireNumbers
