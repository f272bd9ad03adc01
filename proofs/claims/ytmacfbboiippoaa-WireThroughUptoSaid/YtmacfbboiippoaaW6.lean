/- WireNumbers. -/
import Derived.Test.YtmacfbboiippoaaW5
namespace Go.PA
set_option maxHeartbeats 4000000
open Go.Proofs
set_option linter.unusedSimpArgs false
set_option linter.unusedVariables false
set_option maxRecDepth 100000
attribute [local go_sem] MM

theorem same_self (p q : Bool) (a : List Nat) (ha : a.length < 2 ^ 40) : FS Try.prog 18 [.sl p (bA a), .sl q (bA a)] (.ret [.v (.bool true)] [none, none]) := by
  have h := same_FS p q a a ha ha
  simpa using h

theorem enc_length (k n : Nat) : (enc k n).length ≤ k + 1 := by
  induction k generalizing n with
  | zero => simp [enc]
  | succ k ih =>
    simp only [enc]
    split
    · simp
    · have := ih (n / 128)
      simp
      omega

theorem numbers_FS (b : List Nat) (n : Nat) (hn : n < 2 ^ 64) (hb : b.length < 2 ^ 38) : FS Try.prog 3 [.sl true (bA b), .v (.int .u64 n)] (.ret [.v (.bool true)] [none, none]) := by
  have he := enc_length 9 n
  have hbe : (b ++ enc 9 n).length < 2 ^ 39 := by rw [List.length_append]; omega
  refine FS_of_SW (kb := [false, false]) Try.func3 rfl rfl (by rfl) ?_
  refine SW.weak (Weak.of [] (sls := [(0, .sl true (bA b)), (1, .v (.int .u64 n))]) (bks := []) (ep := 64) (by rfl) ⟨rfl, rfl, trivial⟩ trivial) ?_
  refine SW.seqK fun K0 hK0 => ?_
  refine SW.go MM ?_
  simp -implicitDefEqProofs only [go_sem]
  apply hK0
  refine SW.seqK fun K1 hK1 => ?_
  refine SW.go MM ?_
  -- CALL F15(t11) -> some 12
  simp -implicitDefEqProofs only [go_sem]
  refine ⟨_, _, lent_FS true b (by omega), ?_⟩
  simp -implicitDefEqProofs only [go_sem]
  apply hK1
  refine SW.seqK fun K2 hK2 => ?_
  refine SW.go MM ?_
  -- CALL F16(t15, t16) -> some 17
  -- CALL F16(t18, t19) -> some 20
  simp -implicitDefEqProofs only [go_sem]
  refine ⟨_, _, put_FS true b n hn (by omega), ?_⟩
  simp -implicitDefEqProofs only [go_sem]
  refine ⟨_, _, put_FS true b n hn (by omega), ?_⟩
  simp -implicitDefEqProofs only [go_sem]
  apply hK2
  refine SW.seqK fun K3 hK3 => ?_
  refine SW.go MM ?_
  -- CALL F17(t21, t22) -> some 23
  simp -implicitDefEqProofs only [go_sem]
  refine ⟨_, _, refPut_FS true b n hn (by omega), ?_⟩
  simp -implicitDefEqProofs only [go_sem]
  apply hK3
  refine SW.weak (Weak.of [(704, 0), (896, 1), (1216, 2)] (sls := [(0, .sl true (bA b)), (1, .v (.int .u64 n)), (6, .sl true (bA (b ++ room 80))), (7, .ref 0 1 0 (b ++ enc 9 n).length false), (8, .ref 1 1 0 (b ++ enc 9 n).length false),
    (9, .ref 2 1 0 (b ++ enc 9 n).length false)]) (bks := [(0, .row 1 (bA (b ++ enc 9 n))), (1, .row 1 (bA (b ++ enc 9 n))), (2, .row 1 (bA (b ++ enc 9 n)))]) (ep := 64) (by rfl) ?_ ?_) ?_
  · simp -implicitDefEqProofs only [go_sem]
  · simp -implicitDefEqProofs only [go_sem]
  have hsz : (enc 9 n).length < 2 ^ 40 := by omega
  generalize b ++ enc 9 n = wt at *
  refine SW.seqK fun K4 hK4 => ?_
  refine SW.seqK fun K5 hK5 => ?_
  refine SW.go MM ?_
  -- CALL F18(t24, t25) -> some 26
  -- CALL F18(t29, t30) -> some 31
  -- CALL F19(t35, t36) -> some 37
  -- CALL F20(t41) -> some 42
  -- CALL F21(t43) -> some 44
  -- GUARDS
  simp -implicitDefEqProofs only [go_sem]
  refine ⟨_, _, same_self false false wt (by omega), ?_⟩
  simp -implicitDefEqProofs only [go_sem]
  refine ⟨_, _, same_self false false wt (by omega), ?_⟩
  simp -implicitDefEqProofs only [go_sem]
  refine ⟨_, _, kept_FS true true b (by omega), ?_⟩
  simp -implicitDefEqProofs only [go_sem]
  refine ⟨_, _, size_FS n hn, ?_⟩
  simp -implicitDefEqProofs only [go_sem]
  refine ⟨_, _, refSize_FS n hn, ?_⟩
  simp -implicitDefEqProofs only [go_sem]
  apply hK5
  refine SW.cond (t := ?_) ?_ ?_ ?_   -- t46
  rotate_left
  · simp -implicitDefEqProofs only [go_sem]
    rfl
  · intro ht
    simp at ht
  · intro ht
    clear ht
    refine SW.skip ?_
    simp -implicitDefEqProofs only [go_sem]
    apply hK4
    refine SW.weak (Weak.of [(0, 0), (1, 1), (2, 2)] (sls := [(0, .sl true (bA b)), (1, .v (.int .u64 n)), (6, .sl true (bA (b ++ room 80))), (7, .ref 0 1 0 wt.length false), (8, .ref 1 1 0 wt.length false),
      (9, .ref 2 1 0 wt.length false)]) (bks := [(0, .row 1 (bA wt)), (1, .row 1 (bA wt)), (2, .row 1 (bA wt))]) (ep := 64) (by rfl) ?_ ?_) ?_
    · simp -implicitDefEqProofs only [go_sem]
    · simp -implicitDefEqProofs only [go_sem]
    refine SW.seqK fun K7 hK7 => ?_
    refine SW.go MM ?_
    -- CALL F22(t47, c) -> some 48
    simp -implicitDefEqProofs only [go_sem]
    refine ⟨_, _, full_FS wt 3 (by omega), ?_⟩
    simp -implicitDefEqProofs only [go_sem]
    apply hK7
    refine SW.seqK fun K8 hK8 => ?_
    refine SW.go MM ?_
    -- CALL F18(t49, t50) -> some 51
    -- CALL F19(t53, t54) -> some 55
    -- GUARDS
    simp -implicitDefEqProofs only [go_sem]
    refine ⟨_, _, same_self false false wt (by omega), ?_⟩
    simp -implicitDefEqProofs only [go_sem]
    refine ⟨_, _, kept_FS true true b (by omega), ?_⟩
    simp -implicitDefEqProofs only [go_sem]
    apply hK8
    refine SW.ret ?_
    simp -implicitDefEqProofs only [go_sem]
end Go.PA
