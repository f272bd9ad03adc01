/- The law RatchetChecks answers true whatever comes in, where what comes in is of bulk at most 1048576; the arguments stay. -/
import Derived.Test.YtopigdkgjobdiaaR23
import Derived.Test.YtopigdkgjobdiaaPAe
import Derived.Test.YtopigdkgjobdiaaRows
namespace Go.Proofs.Ytopigdkgjobdiaa.ratchetChecks
open Go.ChangeShapes Go.WideShapes Go.ChangeAt Go.RowKit Go.PA
set_option linter.unusedVariables false

mutual
theorem bulk_le {H : Type} : ∀ d : DataW H, dBulk d ≤ Rows.uptoBulk d
  | .lit (.string b) => by simp [dBulk, Rows.uptoBulk]
  | .lit (.bool _) | .lit (.int _ _) | .lit (.float _ _) | .lit .nil => by simp [dBulk, Rows.uptoBulk]
  | .nil => by simp [dBulk, Rows.uptoBulk]
  | .ptr d => by have := bulk_le d; simp only [dBulk, Rows.uptoBulk]; omega
  | .slice es sp => by have := bulks_le es; simp only [dBulk, Rows.uptoBulk]; omega
  | .agg ps => by have := bulks_le ps; simp only [dBulk, Rows.uptoBulk]; omega
  | .iface _ d => by simp [dBulk]
  | .map es => by simp [dBulk]
  | .held _ => by simp [dBulk]
theorem bulks_le {H : Type} : ∀ ds : List (DataW H), dBulks ds ≤ Rows.uptoBulkAll ds
  | [] => by simp [dBulks]
  | d :: r => by have := bulk_le d; have := bulks_le r; simp only [dBulks, Rows.uptoBulkAll]; omega
end

theorem own : ownKnob Try.prog.godebug = none := by kernel_rfl
theorem laidOut : laidOutB Try.prog = true := by kernel_rfl

set_option maxRecDepth 100000 in
theorem contract (H : Type) (enc : TypeId × Value → H) (W : World) (base : Nat) (args : Array Value) (ds gs : List (DataW H)) (before : List MemPlace)
    (hval : ∀ (j : Nat) t v, Try.f3.params[j]? = some t → args[j]? = some v → Value.okWide Try.prog W .any base t v)
    (hW : DataW.Whole enc Try.prog Try.f3.params.toList Rows.ratchetChecksSpec.vars false W args.toList ds gs before) (hk : Rows.uptoSmall H (ds ++ gs) = true) :
    Calls Try.prog 3 args W fun e W' => ∃ v, e = .returned v ∧ Rows.ratchetChecksSpec.post enc Try.prog Try.f3 false true false false W args v W' := by
  have hW' := hW
  obtain ⟨p, q, hA, hV, rfl, hfz, hnd⟩ := hW
  obtain ⟨rfl, rfl⟩ := trodVars_none hV
  simp only [List.append_nil] at hW' hk
  have hk2 : dBulks ds ≤ 1048576 := Nat.le_trans (bulks_le ds) (of_decide_eq_true hk)
  have hA1 := hA
  rw [Try.params3] at hA1
  obtain ⟨v0, vs0, d0, ds0, p0, q0, e0, rfl, rfl, h0, r0⟩ := trodAll_cons hA1
  obtain ⟨rfl, rfl, rfl⟩ := trodAll_nil r0
  refine (law_calls (cs := [.struct [.struct [.int .i64, .int .i64, .int .i64], .arr 32 (.int .u8), .struct [.arr 32 (.int .u8), .arr 32 (.int .u8)], .arr 32 (.int .u8), .bool, .bool, .bool, .arr 32 (.int .u8), .arr 32 (.int .u8), .arr 32 (.int .u8), .int .u32, .int .u32, .bool, .arr 32 (.int .u8), .arr 32 (.int .u8), .arr 32 (.int .u8), .int .u32, .bool, .slice (.struct [.arr 32 (.int .u8), .int .u32, .arr 32 (.int .u8)])]]) laidOut (by kernel_rfl) (by kernel_rfl) (fun j t v ht hv => hval j t v (by simpa using ht) hv) hA fun xs h => checks_law _ _ h hk2).mono fun e W' ⟨he, bel, hT⟩ => ?_
  subst he
  exact ⟨_, rfl, _, _, _, [], _, [], hW', trodAll_mk1 (shut_bool Try.underlying4 _), hT, rfl, bel.frame _, fun h => by cases h⟩

set_option maxRecDepth 100000 in
theorem lifted (os : Os) (started : os.Started) (H : Type) (enc : TypeId × Value → H) (F : Stop.Interp) :
    ReturnsInHanded {} Try.checked os 3 .any ((Rows.OpenSpec.upto Rows.ratchetChecksSpec).pre6 enc Try.prog Try.f3 Rows.ratchetChecksUptoRow.domain false) (((Rows.OpenSpec.upto Rows.ratchetChecksSpec).at F).post enc Try.prog Try.f3 false true false false) := by
  refine returnsInHanded_of_cond (C := Try.checked) (s := Rows.OpenSpec.upto Rows.ratchetChecksSpec) (k := Rows.uptoSmall) rfl own started (by kernel_rfl) Try.func3
    (OpenSpec.witness (enc := enc) (C := Try.checked) (s := Rows.OpenSpec.upto Rows.ratchetChecksSpec) (k := Rows.uptoSmall) rfl false ⟨#[], #[.agg (#[.int .i64 0, .int .i64 0, .int .i64 0] ++ Array.replicate 128 (.int .u8 0) ++ #[.bool false, .bool false, .bool false] ++ Array.replicate 96 (.int .u8 0) ++ #[.int .u32 0, .int .u32 0, .bool false] ++ Array.replicate 96 (.int .u8 0) ++ #[.int .u32 0, .bool false, .slice none 0 0])], []⟩ 8 (by kernel_rfl) (by kernel_rfl) (by kernel_rfl)
      (x := ([.agg [.agg [.lit (.int .i64 0), .lit (.int .i64 0), .lit (.int .i64 0)], .agg (List.replicate 32 (.lit (.int .u8 0))), .agg [.agg (List.replicate 32 (.lit (.int .u8 0))), .agg (List.replicate 32 (.lit (.int .u8 0)))], .agg (List.replicate 32 (.lit (.int .u8 0))), .lit (.bool false), .lit (.bool false), .lit (.bool false), .agg (List.replicate 32 (.lit (.int .u8 0))), .agg (List.replicate 32 (.lit (.int .u8 0))), .agg (List.replicate 32 (.lit (.int .u8 0))), .lit (.int .u32 0), .lit (.int .u32 0), .lit (.bool false), .agg (List.replicate 32 (.lit (.int .u8 0))), .agg (List.replicate 32 (.lit (.int .u8 0))), .agg (List.replicate 32 (.lit (.int .u8 0))), .lit (.int .u32 0), .lit (.bool false), .nil]], [], [])) (by kernel_rfl) rfl (by kernel_rfl)) ?_
  intro W base args ds gs before hval hW _ hk _
  exact contract H enc W base args ds gs before hval hW hk

theorem proved : Rows.RatchetChecksUptoSaid :=
  OpenClaim.holds_of_cond 3 Try.f3 rfl rfl rfl rfl rfl rfl rfl ⟨rfl, rfl, rfl, rfl, rfl⟩ rfl rfl rfl rfl rfl (by kernel_rfl) Try.func3 (by kernel_rfl)
    (of_decide_eq_true (by kernel_rfl)) (by unfold Func.isWrapper; first | (rw [if_pos (by decide +kernel)]; kernel_rfl) | (rw [if_neg (by decide +kernel)]; exact ⟨rfl, rfl⟩))
    (fun os started H enc _ F => lifted os started H enc F)
#print axioms proved
end Go.Proofs.Ytopigdkgjobdiaa.ratchetChecks
