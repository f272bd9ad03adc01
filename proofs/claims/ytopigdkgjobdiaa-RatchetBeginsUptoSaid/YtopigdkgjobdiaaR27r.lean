/- The law RatchetBegins answers true whatever comes in, where what comes in is of bulk at most 1048576; the arguments stay. -/
import Derived.Test.YtopigdkgjobdiaaR27
import Derived.Test.YtopigdkgjobdiaaPAe
import Derived.Test.YtopigdkgjobdiaaRows
namespace Go.Proofs.Ytopigdkgjobdiaa.ratchetBegins
open Go.ChangeShapes Go.WideShapes Go.ChangeAt Go.RowKit Go.PA
set_option linter.unusedVariables false

mutual
theorem bulk_le {H : Type} : ∀ d : DataW H, dBulk d ≤ Rows.uptoBulk d
  | .lit (.string b) => by simp [dBulk, Rows.uptoBulk]
  | .lit (.bool _) | .lit (.int _ _) | .lit (.float _ _) | .lit .nil => by simp [dBulk, Rows.uptoBulk]
  | .nil => by simp [dBulk, Rows.uptoBulk]
  | .ptr d => by have := bulk_le d; simp only [dBulk, Rows.uptoBulk]; omega
  | .slice es sp => by have := bulks_le es; simp only [dBulk, Rows.uptoBulk]; omega
  | .agg ps => by have := bulks_le ps; simp only [dBulk, Rows.uptoBulk]; omega
  | .iface _ d => by simp [dBulk]
  | .map es => by simp [dBulk]
  | .held _ => by simp [dBulk]
theorem bulks_le {H : Type} : ∀ ds : List (DataW H), dBulks ds ≤ Rows.uptoBulkAll ds
  | [] => by simp [dBulks]
  | d :: r => by have := bulk_le d; have := bulks_le r; simp only [dBulks, Rows.uptoBulkAll]; omega
end

theorem own : ownKnob Try.prog.godebug = none := by kernel_rfl
theorem laidOut : laidOutB Try.prog = true := by kernel_rfl

set_option maxRecDepth 100000 in
theorem contract (H : Type) (enc : TypeId × Value → H) (W : World) (base : Nat) (args : Array Value) (ds gs : List (DataW H)) (before : List MemPlace)
    (hval : ∀ (j : Nat) t v, Try.f4.params[j]? = some t → args[j]? = some v → Value.okWide Try.prog W .any base t v)
    (hW : DataW.Whole enc Try.prog Try.f4.params.toList Rows.ratchetBeginsSpec.vars false W args.toList ds gs before) (hk : Rows.uptoSmall H (ds ++ gs) = true) :
    Calls Try.prog 4 args W fun e W' => ∃ v, e = .returned v ∧ Rows.ratchetBeginsSpec.post enc Try.prog Try.f4 false true false false W args v W' := by
  have hW' := hW
  obtain ⟨p, q, hA, hV, rfl, hfz, hnd⟩ := hW
  obtain ⟨rfl, rfl⟩ := trodVars_none hV
  simp only [List.append_nil] at hW' hk
  have hk2 : dBulks ds ≤ 1048576 := Nat.le_trans (bulks_le ds) (of_decide_eq_true hk)
  have hA1 := hA
  rw [Try.params4] at hA1
  obtain ⟨v0, vs0, d0, ds0, p0, q0, e0, rfl, rfl, h0, r0⟩ := trodAll_cons hA1
  obtain ⟨rfl, rfl, rfl⟩ := trodAll_nil r0
  refine (law_calls (cs := [.struct [.arr 32 (.int .u8), .arr 32 (.int .u8), .arr 32 (.int .u8), .struct [.arr 32 (.int .u8), .arr 32 (.int .u8)], .arr 32 (.int .u8), .struct [.int .i64, .int .i64, .int .i64], .struct [.int .i64, .int .i64, .int .i64]]]) laidOut (by kernel_rfl) (by kernel_rfl) (fun j t v ht hv => hval j t v (by simpa using ht) hv) hA fun xs h => Go.PA.begins_law _ _ h hk2).mono fun e W' ⟨he, bel, hT⟩ => ?_
  subst he
  exact ⟨_, rfl, _, _, _, [], _, [], hW', trodAll_mk1 (shut_bool Try.underlying4 _), hT, rfl, bel.frame _, fun h => by cases h⟩

set_option maxRecDepth 100000 in
theorem lifted (os : Os) (started : os.Started) (H : Type) (enc : TypeId × Value → H) (F : Stop.Interp) :
    ReturnsInHanded {} Try.checked os 4 .any ((Rows.OpenSpec.upto Rows.ratchetBeginsSpec).pre6 enc Try.prog Try.f4 Rows.ratchetBeginsUptoRow.domain false) (((Rows.OpenSpec.upto Rows.ratchetBeginsSpec).at F).post enc Try.prog Try.f4 false true false false) := by
  refine returnsInHanded_of_cond (C := Try.checked) (s := Rows.OpenSpec.upto Rows.ratchetBeginsSpec) (k := Rows.uptoSmall) rfl own started (by kernel_rfl) Try.func4
    (OpenSpec.witness (enc := enc) (C := Try.checked) (s := Rows.OpenSpec.upto Rows.ratchetBeginsSpec) (k := Rows.uptoSmall) rfl false ⟨#[], #[.agg (Array.replicate 192 (.int .u8 0) ++ #[.int .i64 0, .int .i64 0, .int .i64 0, .int .i64 0, .int .i64 0, .int .i64 0])], []⟩ 8 (by kernel_rfl) (by kernel_rfl) (by kernel_rfl)
      (x := ([.agg [.agg (List.replicate 32 (.lit (.int .u8 0))), .agg (List.replicate 32 (.lit (.int .u8 0))), .agg (List.replicate 32 (.lit (.int .u8 0))), .agg [.agg (List.replicate 32 (.lit (.int .u8 0))), .agg (List.replicate 32 (.lit (.int .u8 0)))], .agg (List.replicate 32 (.lit (.int .u8 0))), .agg [.lit (.int .i64 0), .lit (.int .i64 0), .lit (.int .i64 0)], .agg [.lit (.int .i64 0), .lit (.int .i64 0), .lit (.int .i64 0)]]], [], [])) (by kernel_rfl) rfl (by kernel_rfl)) ?_
  intro W base args ds gs before hval hW _ hk _
  exact contract H enc W base args ds gs before hval hW hk

theorem proved : Rows.RatchetBeginsUptoSaid :=
  OpenClaim.holds_of_cond 4 Try.f4 rfl rfl rfl rfl rfl rfl rfl ⟨rfl, rfl, rfl, rfl, rfl⟩ rfl rfl rfl rfl rfl (by kernel_rfl) Try.func4 (by kernel_rfl)
    (of_decide_eq_true (by kernel_rfl)) (by unfold Func.isWrapper; first | (rw [if_pos (by decide +kernel)]; kernel_rfl) | (rw [if_neg (by decide +kernel)]; exact ⟨rfl, rfl⟩))
    (fun os started H enc _ F => lifted os started H enc F)
#print axioms proved
end Go.Proofs.Ytopigdkgjobdiaa.ratchetBegins
