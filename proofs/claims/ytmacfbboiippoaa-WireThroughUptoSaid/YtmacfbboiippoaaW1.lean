/- The numbers of package wire. -/
import Derived.Test.YtmacfbboiippoaaPT
namespace Go.PA
open Go.Proofs
set_option linter.unusedSimpArgs false
set_option linter.unusedVariables false

/-- The bytes of a number. -/
def enc : Nat → Nat → List Nat
  | 0, n => [n % 256]
  | k + 1, n => if n < 128 then [n] else (n % 128 + 128) :: enc k (n / 128)

def MM : FuncId → List Bool
  | 38 => [true, false]
  | 22 => [true, false]
  | 15 | 20 | 21 | 25 | 26 | 28 | 29 | 30 | 31 | 32 | 34 | 35 | 36 | 37 | 42 | 43 | 44 | 50 => [false]
  | 39 => [false, true, true]
  | 41 => [true, false]
  | 45 | 53 => [false, false, false, false]
  | 47 => [false, true]
  | 48 => [false, true, true]
  | 49 => [true, false, true, true]
  | 51 => [true, false, false]
  | 54 => [false, true, false]
  | _ => [false, false]


theorem sz_one {v : Value} : ∀ y ∈ [A.v v], y.sz = 1 := by simp [A.sz]
theorem roomy_of {n m b : Nat} (h : n + m ≤ 2 ^ 40) (hb : b ≤ 64) : roomy n m b := by
  unfold roomy
  refine ⟨by omega, Nat.le_trans (Nat.mul_le_mul h hb) (by decide)⟩
theorem byte_low (n : Nat) (h : n < 128) : IntKind.u8.wrap (n : Int) = (n : Nat) := by rw [IntKind.wrap_u8]; omega
theorem byte_mod (n : Nat) : IntKind.u8.wrap (n : Int) = ((n % 256 : Nat) : Int) := by rw [IntKind.wrap_u8]; omega
theorem byte_step (n : Nat) : IntKind.u8.wrap (IntKind.u8.wrap ((n : Int).tmod 128) + 128) = ((n % 128 + 128 : Nat) : Int) := by
  rw [IntKind.wrap_u8, IntKind.wrap_u8, Int.tmod_eq_emod_of_nonneg (by omega)]; omega
theorem u64_div (n k : Nat) (h : n < 2 ^ 64) (hk : 0 < k) : IntKind.u64.wrap ((n : Int).tdiv (k : Int)) = ((n / k : Nat) : Int) := by
  rw [IntWalk.u64_quo _ _ (by omega)]; rfl

theorem add_FS (b : List Nat) (n : Nat) (hn : n < 2 ^ 64) (hb : b.length < 2 ^ 39) : FS Try.prog 38 [.osl 1 (bA b), .v (.int .u64 n)] (.ret [.osl 1 (bA (b ++ enc 9 n))] [none, none]) := by
  refine FS_of_SW (kb := [false, false]) Try.func38 rfl rfl (by rfl) ?_
  refine SW.weak (Weak.of [(0, 0)] (sls := [(0, .ref 0 1 0 (bA b).length false), (1, .v (.int .u64 n))]) (bks := [(0, .row 1 (bA b))]) (ep := 64) (by rfl) ⟨rfl, rfl, trivial⟩ ⟨renB_row (bA_closeds _), trivial⟩) ?_
  refine SW.seqK fun K0 hK0 => ?_
  refine SW.go MM ?_
  simp only [go_sem]
  apply hK0
  refine SW.seqK fun K1 hK1 => ?_
  refine SW.block ?_
  refine SW.loop (α := { x : List Nat × Nat // x.2 < 2 ^ 64 ∧ ∃ j, x.2 < 128 ^ (j + 1) ∧ x.1.length + j ≤ 2 ^ 39 + 9 ∧ x.1 ++ enc j x.2 = b ++ enc 9 n })
    (fun x => St.of [(0, .ref 0 1 0 x.1.1.length false), (1, .v (.int .u64 x.1.2))] [(0, .row 1 (bA x.1.1))] 64) (fun x => x.1.2) ⟨(b, n), hn, 9, by dsimp only; omega, by dsimp only; omega, rfl⟩ ?_ fun ⟨x, hx, j, hxj, hl, he⟩ => ?_
  · refine Weak.of [(0, 0)] (by rfl) ?_ ?_
    · simp only [go_sem]
    · simp only [go_sem]
  · refine SW.seqK fun K3 hK3 => ?_
    refine SW.seqK fun K4 hK4 => ?_
    refine SW.go MM ?_
    simp only [go_sem]
    apply hK4
    refine SW.cond (t := ?_) ?_ ?_ ?_   -- t6
    rotate_left
    · simp only [go_sem]
      rfl
    · intro ht
      have ht' : 128 ≤ x.2 := by have : (x.2 : Int) ≥ 128 := by simpa using ht
                                 omega
      refine SW.skip ?_
      simp only [go_sem]
      apply hK3
      refine SW.seqK fun K5 hK5 => ?_
      refine SW.block ?_
      refine SW.go MM ?_
      simp only [go_sem]
      refine ⟨by decide, roomy_of (by omega) (by decide), ?_⟩
      apply hK5
      refine SW.go MM ?_
      simp only [go_sem]
      refine ⟨by decide, ?_⟩
      cases j with
      | zero => omega
      | succ j =>
        refine ⟨⟨(x.1 ++ [x.2 % 128 + 128], x.2 / 128), by dsimp only; omega, j, ?_, ?_, ?_⟩, ?_, ?_⟩
        · dsimp only
          rw [Nat.pow_succ] at hxj
          omega
        · simp only [List.length_append, List.length_cons, List.length_nil]
          omega
        · dsimp only
          rw [← he]
          simp only [enc]
          rw [if_neg (by omega)]
          simp
        · refine Weak.of [(576, 0)] (by rfl) ?_ ?_
          · simp only [go_sem]
            rw [show IntKind.u64.wrap ((x.2 : Int).tdiv 128) = ((x.2 / 128 : Nat) : Int) from u64_div x.2 128 hx (by omega)]
            simp
          · simp only [go_sem]
            rw [byte_step, bA_one, bA_append]
        · dsimp only
          omega
    · intro ht
      have ht' : x.2 < 128 := by have : ¬ (x.2 : Int) ≥ 128 := by simpa using ht
                                 omega
      refine SW.exit ?_   -- 0
      simp only [go_sem]
      apply hK1
      refine SW.seqK fun K6 hK6 => ?_
      refine SW.go MM ?_
      simp only [go_sem]
      refine ⟨roomy_of (by omega) (by decide), ?_⟩
      apply hK6
      refine SW.ret ?_
      simp only [go_sem]
      have hj : enc j x.2 = [x.2] := by
        cases j with
        | zero => simp only [enc]; rw [Nat.mod_eq_of_lt (by omega)]
        | succ j => simp only [enc]; rw [if_pos ht']
      rw [byte_low _ ht', bA_one, bA_append, bA_length, ← he, hj]
      refine ⟨by simp, ?_⟩
      rw [List.take_of_length_le (by simp [bA_length])]
end Go.PA
