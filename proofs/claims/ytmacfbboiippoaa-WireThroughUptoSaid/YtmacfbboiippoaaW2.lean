/- wire.Put. -/
import Derived.Test.YtmacfbboiippoaaW1
namespace Go.PA
open Go.Proofs
set_option linter.unusedSimpArgs false
set_option linter.unusedVariables false
attribute [local go_sem] MM

theorem put_FS (p : Bool) (b : List Nat) (n : Nat) (hn : n < 2 ^ 64) (hb : b.length < 2 ^ 39) : FS Try.prog 16 [.sl p (bA b), .v (.int .u64 n)] (.ret [.osl 1 (bA (b ++ enc 9 n))] [none, none]) := by
  refine FS_of_SW (kb := [false, false]) Try.func16 rfl rfl (by rfl) ?_
  refine SW.weak (Weak.of [] (sls := [(0, .sl p (bA b)), (1, .v (.int .u64 n))]) (bks := []) (ep := 64) (by rfl) ⟨rfl, rfl, trivial⟩ trivial) ?_
  refine SW.seqK fun K0 hK0 => ?_
  refine SW.go MM ?_
  simp only [go_sem]
  apply hK0
  refine SW.seqK fun K1 hK1 => ?_
  refine SW.go MM ?_
  -- CALL F38(t6, t7) -> some 8
  simp only [go_sem]
  refine ⟨roomy_of (by omega) (by decide), ⟨_, _, add_FS b n hn hb, ?_⟩⟩
  simp only [go_sem]
  apply hK1
  refine SW.ret ?_
  simp only [go_sem]

theorem refPut_FS (p : Bool) (b : List Nat) (n : Nat) (hn : n < 2 ^ 64) (hb : b.length < 2 ^ 39) : FS Try.prog 17 [.sl p (bA b), .v (.int .u64 n)] (.ret [.osl 1 (bA (b ++ enc 9 n))] [none, none]) := by
  refine FS_of_SW (kb := [false, false]) Try.func17 rfl rfl (by rfl) ?_
  refine SW.weak (Weak.of [] (sls := [(0, .sl p (bA b)), (1, .v (.int .u64 n))]) (bks := []) (ep := 64) (by rfl) ⟨rfl, rfl, trivial⟩ trivial) ?_
  refine SW.seqK fun K0 hK0 => ?_
  refine SW.go MM ?_
  simp only [go_sem]
  apply hK0
  refine SW.seqK fun K1 hK1 => ?_
  refine SW.go MM ?_
  simp only [go_sem]
  refine ⟨roomy_of (by omega) (by decide), ?_⟩
  apply hK1
  refine SW.seqK fun K2 hK2 => ?_
  refine SW.block ?_
  refine SW.loop (α := { x : List Nat × Nat // x.2 < 2 ^ 64 ∧ ∃ j, x.2 < 128 ^ (j + 1) ∧ x.1.length + j ≤ 2 ^ 39 + 9 ∧ x.1 ++ enc j x.2 = b ++ enc 9 n })
    (fun x => St.of [(5, .ref 0 1 0 x.1.1.length false), (1, .v (.int .u64 x.1.2))] [(0, .row 1 (bA x.1.1))] 64) (fun x => x.1.2) ⟨(b, n), hn, 9, by dsimp only; omega, by dsimp only; omega, rfl⟩ ?_ fun ⟨x, hx, j, hxj, hl, he⟩ => ?_
  · refine Weak.of [(256, 0)] (by rfl) ?_ ?_
    · simp only [go_sem]
    · simp only [go_sem]
  · refine SW.seqK fun K4 hK4 => ?_
    refine SW.seqK fun K5 hK5 => ?_
    refine SW.go MM ?_
    simp only [go_sem]
    apply hK5
    refine SW.cond (t := ?_) ?_ ?_ ?_   -- t10
    rotate_left
    · simp only [go_sem]
      rfl
    · intro ht
      have ht' : 128 ≤ x.2 := by have : (x.2 : Int) ≥ 128 := by simpa using ht
                                 omega
      refine SW.skip ?_
      simp only [go_sem]
      apply hK4
      refine SW.block ?_
      refine SW.seqK fun K6 hK6 => ?_
      refine SW.go MM ?_
      simp only [go_sem]
      refine ⟨by decide, roomy_of (by omega) (by decide), ?_⟩
      apply hK6
      refine SW.go MM ?_
      simp only [go_sem]
      refine ⟨by decide, ?_⟩
      cases j with
      | zero => omega
      | succ j =>
        refine ⟨⟨(x.1 ++ [x.2 % 128 + 128], x.2 / 128), by dsimp only; omega, j, ?_, ?_, ?_⟩, ?_, ?_⟩
        · dsimp only
          rw [Nat.pow_succ] at hxj
          omega
        · simp only [List.length_append, List.length_cons, List.length_nil]
          omega
        · dsimp only
          rw [← he]
          simp only [enc]
          rw [if_neg (by omega)]
          simp
        · refine Weak.of [(576, 0)] (by rfl) ?_ ?_
          · simp only [go_sem]
            rw [show IntKind.u64.wrap ((x.2 : Int).tdiv 128) = ((x.2 / 128 : Nat) : Int) from u64_div x.2 128 hx (by omega)]
            simp
          · simp only [go_sem]
            rw [byte_step, bA_one, bA_append]
        · dsimp only
          omega
    · intro ht
      have ht' : x.2 < 128 := by have : ¬ (x.2 : Int) ≥ 128 := by simpa using ht
                                 omega
      refine SW.exit ?_   -- 0
      simp only [go_sem]
      apply hK2
      refine SW.seqK fun K6 hK6 => ?_
      refine SW.go MM ?_
      simp only [go_sem]
      refine ⟨roomy_of (by omega) (by decide), ?_⟩
      apply hK6
      refine SW.ret ?_
      simp only [go_sem]
      have hj : enc j x.2 = [x.2] := by
        cases j with
        | zero => simp only [enc]; rw [Nat.mod_eq_of_lt (by omega)]
        | succ j => simp only [enc]; rw [if_pos ht']
      rw [byte_low _ ht', bA_one, bA_append, bA_length, ← he, hj]
      refine ⟨by simp, ?_⟩
      rw [List.take_of_length_le (by simp [bA_length])]

theorem refSize_FS (n : Nat) (hn : n < 2 ^ 64) : FS Try.prog 21 [.v (.int .u64 n)] (.ret [.v (.int .i64 (enc 9 n).length)] [none]) := by
  refine FS_of_SW (kb := [false]) Try.func21 rfl rfl (by rfl) ?_
  refine SW.weak (Weak.of [] (sls := [(0, .v (.int .u64 n))]) (bks := []) (ep := 64) (by rfl) ⟨rfl, trivial⟩ trivial) ?_
  refine SW.seqK fun K0 hK0 => ?_
  refine SW.go MM ?_
  simp only [go_sem]
  apply hK0
  refine SW.seqK fun K1 hK1 => ?_
  refine SW.go MM ?_
  -- CALL F17(c, t3) -> some 4
  simp only [go_sem]
  have h := refPut_FS true [] n hn (by simp)
  simp only [bA_nil, List.nil_append] at h
  refine ⟨_, _, h, ?_⟩
  simp only [go_sem]
  apply hK1
  refine SW.ret ?_
  simp only [go_sem]

theorem sizeOf_enc : ∀ (k n : Nat), n < 128 ^ (k + 1) → (enc k n).length = 1 + (if n < 128 then 0 else (enc (k - 1) (n / 128)).length) := by
  intro k n h
  cases k with
  | zero => simp [enc]; omega
  | succ k =>
    simp only [enc]
    split
    · simp
    · simp; omega
end Go.PA
