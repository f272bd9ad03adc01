/- The law WireThrough answers true whatever comes in, where what comes in is of bulk at most 1048576; the arguments stay. -/
import Derived.Test.YtmacfbboiippoaaW34
import Derived.Test.YtmacfbboiippoaaPAe
import Derived.Test.YtmacfbboiippoaaRows
namespace Go.Proofs.Ytmacfbboiippoaa.wireThrough
open Go.ChangeShapes Go.WideShapes Go.ChangeAt Go.RowKit Go.PA
set_option linter.unusedVariables false

mutual
theorem bulk_le {H : Type} : ∀ d : DataW H, dBulk d ≤ Rows.uptoBulk d
  | .lit (.string b) => by simp [dBulk, Rows.uptoBulk]
  | .lit (.bool _) | .lit (.int _ _) | .lit (.float _ _) | .lit .nil => by simp [dBulk, Rows.uptoBulk]
  | .nil => by simp [dBulk, Rows.uptoBulk]
  | .ptr d => by have := bulk_le d; simp only [dBulk, Rows.uptoBulk]; omega
  | .slice es sp => by have := bulks_le es; simp only [dBulk, Rows.uptoBulk]; omega
  | .agg ps => by have := bulks_le ps; simp only [dBulk, Rows.uptoBulk]; omega
  | .iface _ d => by simp [dBulk]
  | .map es => by simp [dBulk]
  | .held _ => by simp [dBulk]
theorem bulks_le {H : Type} : ∀ ds : List (DataW H), dBulks ds ≤ Rows.uptoBulkAll ds
  | [] => by simp [dBulks]
  | d :: r => by have := bulk_le d; have := bulks_le r; simp only [dBulks, Rows.uptoBulkAll]; omega
end

theorem own : ownKnob Try.prog.godebug = none := by kernel_rfl
theorem laidOut : laidOutB Try.prog = true := by kernel_rfl

theorem contract (H : Type) (enc : TypeId × Value → H) (W : World) (base : Nat) (args : Array Value) (ds gs : List (DataW H)) (before : List MemPlace)
    (hval : ∀ (j : Nat) t v, Try.f10.params[j]? = some t → args[j]? = some v → Value.okWide Try.prog W .any base t v)
    (hW : DataW.Whole enc Try.prog Try.f10.params.toList Rows.wireThroughSpec.vars false W args.toList ds gs before) (hk : Rows.uptoSmall H (ds ++ gs) = true) :
    Calls Try.prog 10 args W fun e W' => ∃ v, e = .returned v ∧ Rows.wireThroughSpec.post enc Try.prog Try.f10 false true false false W args v W' := by
  have hW' := hW
  obtain ⟨p, q, hA, hV, rfl, hfz, hnd⟩ := hW
  obtain ⟨rfl, rfl⟩ := trodVars_none hV
  simp only [List.append_nil] at hW' hk
  have hk2 : dBulks ds ≤ 1048576 := Nat.le_trans (bulks_le ds) (of_decide_eq_true hk)
  have hA1 := hA
  rw [Try.params10] at hA1
  obtain ⟨v0, vs0, d0, ds0, p0, q0, e0, rfl, rfl, h0, r0⟩ := trodAll_cons hA1
  obtain ⟨v1, vs1, d1, ds1, p1, q1, rfl, rfl, rfl, h1, r1⟩ := trodAll_cons r0
  obtain ⟨v2, vs2, d2, ds2, p2, q2, rfl, rfl, rfl, h2, r2⟩ := trodAll_cons r1
  obtain ⟨rfl, rfl, rfl⟩ := trodAll_nil r2
  refine (law_calls (cs := [.slice (.int .u8), .int .i64, .int .u8]) laidOut (by kernel_rfl) (by kernel_rfl) (fun j t v ht hv => hval j t v (by simpa using ht) hv) hA fun xs h => through_law _ _ h hk2).mono fun e W' ⟨he, bel, hT⟩ => ?_
  subst he
  exact ⟨_, rfl, _, _, _, [], _, [], hW', trodAll_mk1 (shut_bool Try.underlying4 _), hT, rfl, bel.frame _, fun h => by cases h⟩

set_option maxRecDepth 100000 in
theorem lifted (os : Os) (started : os.Started) (H : Type) (enc : TypeId × Value → H) (F : Stop.Interp) :
    ReturnsInHanded {} Try.checked os 10 .any ((Rows.OpenSpec.upto Rows.wireThroughSpec).pre6 enc Try.prog Try.f10 Rows.wireThroughUptoRow.domain false) (((Rows.OpenSpec.upto Rows.wireThroughSpec).at F).post enc Try.prog Try.f10 false true false false) := by
  refine returnsInHanded_of_cond (C := Try.checked) (s := Rows.OpenSpec.upto Rows.wireThroughSpec) (k := Rows.uptoSmall) rfl own started (by kernel_rfl) Try.func10
    (OpenSpec.witness (enc := enc) (C := Try.checked) (s := Rows.OpenSpec.upto Rows.wireThroughSpec) (k := Rows.uptoSmall) rfl false ⟨#[], #[.slice none 0 0, .int .i64 0, .int .u8 0], []⟩ 8 (by kernel_rfl) (by kernel_rfl) (by kernel_rfl)
      (x := ([.nil, .lit (.int .i64 0), .lit (.int .u8 0)], [], [])) (by kernel_rfl) rfl (by kernel_rfl)) ?_
  intro W base args ds gs before hval hW _ hk _
  exact contract H enc W base args ds gs before hval hW hk

theorem proved : Rows.WireThroughUptoSaid :=
  OpenClaim.holds_of_cond 10 Try.f10 rfl rfl rfl rfl rfl rfl rfl ⟨rfl, rfl, rfl, rfl, rfl⟩ rfl rfl rfl rfl rfl (by kernel_rfl) Try.func10 (by kernel_rfl)
    (of_decide_eq_true (by kernel_rfl)) (by unfold Func.isWrapper; first | (rw [if_pos (by decide +kernel)]; kernel_rfl) | (rw [if_neg (by decide +kernel)]; exact ⟨rfl, rfl⟩))
    (fun os started H enc _ F => lifted os started H enc F)
#print axioms proved
end Go.Proofs.Ytmacfbboiippoaa.wireThrough
