/- The document's numbers of the field: of bytes, to bytes, powers. -/
import Derived.Test.YtopigdkgjobdiaaR8
namespace Go.PA
open Go.Proofs Go.Fe
set_option linter.unusedSimpArgs false
set_option linter.unusedVariables false
set_option maxRecDepth 100000
set_option maxHeartbeats 4000000
attribute [local go_sem] MR getP setP takesW
attribute [-go_sem] takeA roA

theorem tdiv_nat (a b : Nat) : (a : Int).tdiv (b : Int) = ((a / b : Nat) : Int) := rfl
theorem tmod_nat (a b : Nat) : (a : Int).tmod (b : Int) = ((a % b : Nat) : Int) := rfl
theorem i64_same {a : Nat} (h : a < 2 ^ 63) : IntKind.i64.wrap (a : Int) = (a : Int) := IntWalk.i64_in _ (by omega)
theorem i64_down {a : Nat} (h : a < 2 ^ 63) : IntKind.i64.wrap ((a : Int) - 1) = (a : Int) - 1 := IntWalk.i64_in _ (by omega)
theorem or_low {a b : Nat} (ha : a % 256 = 0) (hb : b < 256) : a ||| b = a + b := by
  have h := Nat.shiftLeft_add_eq_or_of_lt (show b < 2 ^ 8 from hb) (a / 256)
  rw [Nat.shiftLeft_eq] at h
  have e : a / 256 * 2 ^ 8 = a := by omega
  rw [e] at h
  exact h.symm
theorem ior_nat {a b : Nat} (ha : a < 18446744073709551616) (hb : b < 18446744073709551616) : ior .u64 (a : Int) (b : Int) = ((a ||| b : Nat) : Int) := by
  have h1 : (BitVec.ofInt 64 (a : Int) ||| BitVec.ofInt 64 (b : Int)).toNat = a ||| b := by
    rw [BitVec.toNat_or, BitVec.ofInt_natCast, BitVec.ofInt_natCast, BitVec.toNat_ofNat, BitVec.toNat_ofNat, Nat.mod_eq_of_lt ha, Nat.mod_eq_of_lt hb]
  have h2 : a ||| b < 2 ^ 64 := Nat.or_lt_two_pow ha hb
  show IntKind.u64.wrap ((BitVec.ofInt 64 (a : Int) ||| BitVec.ofInt 64 (b : Int)).toNat : Int) = _
  rw [h1, uwrap]
  omega
theorem ishl_nat (a k : Nat) (hk : k ≤ 64) : ishl .u64 (a : Int) (k : Int) = ((a * 2 ^ k % 18446744073709551616 : Nat) : Int) := by
  simp only [ishl, IntKind.bits, Int.toNat_natCast, Nat.min_eq_left hk]
  rw [uwrap, Int.natCast_emod, Int.natCast_mul, Int.natCast_pow]
  rfl
theorem numI_all : (numI 255).1.set 0 235 = expL := by decide +kernel
theorem numI_zero : (numI 255).1.getD 0 0 = 255 := by decide +kernel
theorem numI_len : ∀ i, (numI i).1.length = 32
  | 0 => rfl
  | i + 1 => by simp only [numI, List.length_set, numI_len i]
theorem nA_cons {k : IntKind} {n : Nat} {l : List Nat} : nA k (n :: l) = A.v (.int k (n : Int)) :: nA k l := rfl

theorem from_FS (b : List Nat) (hl : b.length = 32) (hb : ∀ x ∈ b, x < 256) : FS Try.prog 40 [.arr 32 (bA (b))] (.ret [.agg [.arr 4 (nA .u64 (dig4 (fromL b)))]] [none]) := by
  refine FS_of_SW (kb := [false]) (st0 := ?st) Try.func40 rfl rfl ?he ?_
  case he =>
    simp only [entrySt, unfs, unf, A.noown, noowns, nA_noowns, bA_noowns, Option.map_some, if_true, reduceIte, List.nil_append, List.append_nil]
    rfl
  refine SW.weak (Weak.of [] (sls := [(0, .arr 32 (bA (b)))]) (bks := []) (ep := 64) (by rfl) (by repeat' (first | exact rfl | exact trivial | refine And.intro ?_ ?_)) trivial) ?_
  repeat' (first
    | apply_assumption -exfalso -symm (transparency := .reducible) only [*]
    | with_reducible refine SW.stopI 2 ?_
    | (with_reducible refine And.intro ?_ ?_)
    | (refine drawIt ?_; kernel_rfl)
    | ((with_reducible refine opsF_id ?_); simp -implicitDefEqProofs only [go_sem])
    | ((with_reducible refine SW.id ?_); first | with_reducible refine SW.seqK fun K hK => ?_ | with_reducible refine SW.block ?_ | with_reducible refine SW.scope ?_ | ((first | with_reducible refine SW.skip ?_ | with_reducible refine SW.exit ?_ | with_reducible refine SW.label ?_ | with_reducible refine SW.ret ?_ | with_reducible refine SW.go MR ?_ | refine SW.goDrawF MR (by rfl) (by kernel_rfl) ?_); simp -implicitDefEqProofs only [go_sem]) | (refine SW.cond (by simp -implicitDefEqProofs only [go_sem]; rfl) (fun ht => ?_) (fun ht => ?_) <;> (try with_reducible contradiction))))
  refine Stop.go ?_
  refine SW.cutS (γ := Unit) (fun _ => St.of [(2, .ptr 2 []), (3, .ptr 3 [])] [(2, .var (.agg [.arr 4 (nA .u64 ([0, 0, 0, 0]))])), (3, .var (.arr 4 (nA .u64 (fromI b 32))))] 64) (fun K hK => ?_) fun _ => ?_
  · repeat' (first
      | apply_assumption -exfalso -symm (transparency := .reducible) only [*]
      | (with_reducible refine And.intro ?_ ?_)
      | (refine drawIt ?_; kernel_rfl)
      | ((with_reducible refine opsF_id ?_); simp -implicitDefEqProofs only [go_sem])
      | ((with_reducible refine SW.id ?_); first | with_reducible refine SW.seqK fun K hK => ?_ | with_reducible refine SW.block ?_ | with_reducible refine SW.scope ?_ | ((first | with_reducible refine SW.skip ?_ | with_reducible refine SW.exit ?_ | with_reducible refine SW.label ?_ | with_reducible refine SW.ret ?_ | with_reducible refine SW.go MR ?_ | refine SW.goDrawF MR (by rfl) (by kernel_rfl) ?_); simp -implicitDefEqProofs only [go_sem]) | (refine SW.cond (by simp -implicitDefEqProofs only [go_sem]; rfl) (fun ht => ?_) (fun ht => ?_) <;> (try with_reducible contradiction))))
    refine SW.loop (α := { i : Nat // i ≤ 32 }) (fun i => St.of [(1, .ptr 1 []), (2, .ptr 2 []), (3, .ptr 3 []), (4, .v (.int .i64 ((i.1 : Int) - 1)))] [(1, .var (.arr 32 (bA (b)))), (2, .var (.agg [.arr 4 (nA .u64 ([0, 0, 0, 0]))])), (3, .var (.arr 4 (nA .u64 (fromI b (32 - i.1)))))] 64) (fun i => i.1) ⟨32, by omega⟩
      (Weak.of [(64, 1), (128, 2), (192, 3)] (by rfl) ?_ ?_) fun ⟨i, hi⟩ => ?_
    · simp -implicitDefEqProofs only [go_sem]
      all_goals (repeat' (first | exact rfl | exact trivial | refine And.intro ?_ ?_))
    · simp -implicitDefEqProofs only [go_sem]
      all_goals (repeat' (first | exact rfl | exact trivial | refine And.intro ?_ ?_))
    · rcases i with _ | i
      · have hc := eq_false (show ¬ (((0 : Nat) : Int) - 1) ≥ 0 by omega)
        repeat' (first
          | apply_assumption -exfalso -symm (transparency := .reducible) only [*]
          | (with_reducible refine And.intro ?_ ?_)
          | (refine drawIt ?_; kernel_rfl)
          | ((with_reducible refine opsF_id ?_); simp -implicitDefEqProofs only [go_sem, hc])
          | ((with_reducible refine SW.id ?_); first | with_reducible refine SW.seqK fun K hK => ?_ | with_reducible refine SW.block ?_ | with_reducible refine SW.scope ?_ | ((first | with_reducible refine SW.skip ?_ | with_reducible refine SW.exit ?_ | with_reducible refine SW.label ?_ | with_reducible refine SW.ret ?_ | with_reducible refine SW.go MR ?_ | refine SW.goDrawF MR (by rfl) (by kernel_rfl) ?_); simp -implicitDefEqProofs only [go_sem, hc]) | (refine SW.cond (by simp -implicitDefEqProofs only [go_sem, hc]; rfl) (fun ht => ?_) (fun ht => ?_) <;> (try with_reducible contradiction))))
        refine ⟨(), Weak.of [(2, 2), (3, 3)] (by rfl) ?_ ?_⟩
        · simp -implicitDefEqProofs only [go_sem]
          all_goals (repeat' (first | exact rfl | exact trivial | refine And.intro ?_ ?_))
        · simp -implicitDefEqProofs only [go_sem]
          all_goals (repeat' (first | exact rfl | exact trivial | refine And.intro ?_ ?_))
      · have hn : (((i + 1 : Nat) : Int) - 1) = (i : Int) := by omega
        have hc := eq_true (show (i : Int) ≥ 0 by omega)
        have h5 := i64_down (a := i) (by omega)
        have h6 : IntKind.i64.wrap ((i : Int).tdiv 8) = ((i / 8 : Nat) : Int) := by rw [show (i : Int).tdiv 8 = ((i / 8 : Nat) : Int) from rfl]; exact i64_same (by omega)
        obtain ⟨u, hu⟩ : ∃ u, fromI b (32 - (i + 1)) = u := ⟨_, rfl⟩
        have lu := fromI_len b (32 - (i + 1))
        rw [hu] at lu
        have g1 := nA_getD (k := .u64) (l := u) (i := i / 8) (by omega)
        have s1 := eq_true (nA_szAt (k := .u64) (l := u) (i := i / 8) (by omega))
        have g2 := bA_getD (l := b) (i := i) (by omega)
        have s2 := eq_true (szAt_bA (l := b) (i := i) (by omega))
        have bl := getD_lt (by decide) hb i
        have hnext : fromI b (32 - i) = u.set (i / 8) (u.getD (i / 8) 0 * 256 % 18446744073709551616 + b.getD i 0) := by
          rw [show 32 - i = (32 - (i + 1)) + 1 by omega, fromI, hu, show 31 - (32 - (i + 1)) = i by omega]
        obtain ⟨a, ha⟩ : ∃ a, u.getD (i / 8) 0 = a := ⟨_, rfl⟩
        obtain ⟨x, hx⟩ : ∃ x, b.getD i 0 = x := ⟨_, rfl⟩
        rw [ha] at g1 hnext
        rw [hx] at g2 bl hnext
        have e1 : ishl .u64 (a : Int) 8 = ((a * 256 % 18446744073709551616 : Nat) : Int) := ishl_nat a 8 (by decide)
        have e2 : IntKind.u64.wrap (x : Int) = (x : Int) := by rw [uwrap]; omega
        have e3 : ior .u64 ((a * 256 % 18446744073709551616 : Nat) : Int) (x : Int) = ((a * 256 % 18446744073709551616 + x : Nat) : Int) := by rw [ior_nat (by omega) (by omega), or_low (by omega) bl]
        dsimp only
        rw [hn, hu]
        repeat' (first
          | apply_assumption -exfalso -symm (transparency := .reducible) only [*]
          | (with_reducible refine And.intro ?_ ?_)
          | (refine drawIt ?_; kernel_rfl)
          | ((with_reducible refine opsF_id ?_); simp -implicitDefEqProofs only [go_sem, hc, h5, h6, g1, g2, s1, s2, e1, e2, e3])
          | ((with_reducible refine SW.id ?_); first | with_reducible refine SW.seqK fun K hK => ?_ | with_reducible refine SW.block ?_ | with_reducible refine SW.scope ?_ | ((first | with_reducible refine SW.skip ?_ | with_reducible refine SW.exit ?_ | with_reducible refine SW.label ?_ | with_reducible refine SW.ret ?_ | with_reducible refine SW.go MR ?_ | refine SW.goDrawF MR (by rfl) (by kernel_rfl) ?_); simp -implicitDefEqProofs only [go_sem, hc, h5, h6, g1, g2, s1, s2, e1, e2, e3]) | (refine SW.cond (by simp -implicitDefEqProofs only [go_sem, hc, h5, h6, g1, g2, s1, s2, e1, e2, e3]; rfl) (fun ht => ?_) (fun ht => ?_) <;> (try with_reducible contradiction))))
        all_goals first | omega | skip
        refine ⟨⟨i, by omega⟩, Weak.of [(1, 1), (2, 2), (3, 3)] (by rfl) ?_ ?_, by dsimp only; omega⟩
        · simp -implicitDefEqProofs only [go_sem]
          all_goals (repeat' (first | exact rfl | exact trivial | refine And.intro ?_ ?_))
        · dsimp only
          rw [hnext]
          simp -implicitDefEqProofs only [go_sem]
          all_goals (repeat' (first | exact rfl | exact trivial | refine And.intro ?_ ?_))
  · have h1 := from_dig hl hb
    have hD : D4 (fromI b 32) := by rw [fromI_all hl hb]; exact D4.dig _
    generalize fromI b 32 = u at *
    obtain ⟨u0, u1, u2, u3, rfl, k0, k1, k2, k3⟩ := hD.ex
    simp only [List.set_cons_zero, List.set_cons_succ, List.getD_cons_zero, List.getD_cons_succ] at h1
    have h2 := below_FS [u0, u1, u2, u3 % 9223372036854775808] (D4.mk' k0 k1 k2 (by omega))
    rw [h1] at h2
    clear h1
    simp only [nA_cons, nA_nil] at h2
    have w5 : iand .u64 (u3 : Int) 9223372036854775807 = ((u3 % 9223372036854775808 : Nat) : Int) := and_mask u3 63 k3 (by decide)
    repeat' (first
      | apply_assumption -exfalso -symm (transparency := .reducible) only [*]
      | (refine callEnd_of h2 ?_ <;> (try simp -implicitDefEqProofs only [go_sem, w5, Int.reduceToNat, nA_cons]))
      | (with_reducible refine And.intro ?_ ?_)
      | (refine drawIt ?_; kernel_rfl)
      | ((with_reducible refine opsF_id ?_); simp -implicitDefEqProofs only [go_sem, w5, Int.reduceToNat, nA_cons])
      | ((with_reducible refine SW.id ?_); first | with_reducible refine SW.seqK fun K hK => ?_ | with_reducible refine SW.block ?_ | with_reducible refine SW.scope ?_ | ((first | with_reducible refine SW.skip ?_ | with_reducible refine SW.exit ?_ | with_reducible refine SW.label ?_ | with_reducible refine SW.ret ?_ | with_reducible refine SW.go MR ?_ | refine SW.goDrawF MR (by rfl) (by kernel_rfl) ?_); simp -implicitDefEqProofs only [go_sem, w5, Int.reduceToNat, nA_cons]) | (refine SW.cond (by simp -implicitDefEqProofs only [go_sem, w5, Int.reduceToNat, nA_cons]; rfl) (fun ht => ?_) (fun ht => ?_) <;> (try with_reducible contradiction))))
    all_goals first | omega | skip

theorem bytes_FS (n : Nat) : FS Try.prog 47 [.agg [.arr 4 (nA .u64 (dig4 n))]] (.ret [.arr 32 (bA (bytesN n))] [none]) := by
  refine FS_of_SW (kb := [false]) (st0 := ?st) Try.func47 rfl rfl ?he ?_
  case he =>
    simp only [entrySt, unfs, unf, A.noown, noowns, nA_noowns, bA_noowns, Option.map_some, if_true, reduceIte, List.nil_append, List.append_nil]
    rfl
  refine SW.weak (Weak.of [] (sls := [(0, .agg [.arr 4 (nA .u64 (dig4 n))])]) (bks := []) (ep := 64) (by rfl) (by repeat' (first | exact rfl | exact trivial | refine And.intro ?_ ?_)) trivial) ?_
  repeat' (first
    | apply_assumption -exfalso -symm (transparency := .reducible) only [*]
    | with_reducible refine SW.stopI 2 ?_
    | (with_reducible refine And.intro ?_ ?_)
    | (refine drawIt ?_; kernel_rfl)
    | ((with_reducible refine opsF_id ?_); simp -implicitDefEqProofs only [go_sem])
    | ((with_reducible refine SW.id ?_); first | with_reducible refine SW.seqK fun K hK => ?_ | with_reducible refine SW.block ?_ | with_reducible refine SW.scope ?_ | ((first | with_reducible refine SW.skip ?_ | with_reducible refine SW.exit ?_ | with_reducible refine SW.label ?_ | with_reducible refine SW.ret ?_ | with_reducible refine SW.go MR ?_ | refine SW.goDrawF MR (by rfl) (by kernel_rfl) ?_); simp -implicitDefEqProofs only [go_sem]) | (refine SW.cond (by simp -implicitDefEqProofs only [go_sem]; rfl) (fun ht => ?_) (fun ht => ?_) <;> (try with_reducible contradiction))))
  refine Stop.go ?_
  refine SW.cutS (γ := Unit) (fun _ => St.of [(2, .ptr 2 []), (3, .ptr 3 [])] [(2, .var (.arr 32 (bA (List.replicate 32 0)))), (3, .var (.arr 32 (bA (bytesN n))))] 64) (fun K hK => ?_) fun _ => ?_
  · repeat' (first
      | apply_assumption -exfalso -symm (transparency := .reducible) only [*]
      | (with_reducible refine And.intro ?_ ?_)
      | (refine drawIt ?_; kernel_rfl)
      | ((with_reducible refine opsF_id ?_); simp -implicitDefEqProofs only [go_sem])
      | ((with_reducible refine SW.id ?_); first | with_reducible refine SW.seqK fun K hK => ?_ | with_reducible refine SW.block ?_ | with_reducible refine SW.scope ?_ | ((first | with_reducible refine SW.skip ?_ | with_reducible refine SW.exit ?_ | with_reducible refine SW.label ?_ | with_reducible refine SW.ret ?_ | with_reducible refine SW.go MR ?_ | refine SW.goDrawF MR (by rfl) (by kernel_rfl) ?_); simp -implicitDefEqProofs only [go_sem]) | (refine SW.cond (by simp -implicitDefEqProofs only [go_sem]; rfl) (fun ht => ?_) (fun ht => ?_) <;> (try with_reducible contradiction))))
    refine SW.loop (α := { i : Nat // i ≤ 32 }) (fun i => St.of [(1, .ptr 1 []), (2, .ptr 2 []), (3, .ptr 3 []), (4, .v (.int .i64 ((i.1 : Nat) : Int)))] [(1, .var (.agg [.arr 4 (nA .u64 (dig4 n))])), (2, .var (.arr 32 (bA (List.replicate 32 0)))), (3, .var (.arr 32 (bA (bytesI n i.1))))] 64) (fun i => 32 - i.1) ⟨0, by omega⟩
      (Weak.of [(64, 1), (128, 2), (192, 3)] (by rfl) ?_ ?_) fun ⟨i, hi⟩ => ?_
    · simp -implicitDefEqProofs only [go_sem]
      all_goals (repeat' (first | exact rfl | exact trivial | refine And.intro ?_ ?_))
    · dsimp only
      rw [bytesI_zero]
      simp -implicitDefEqProofs only [go_sem]
      all_goals (repeat' (first | exact rfl | exact trivial | refine And.intro ?_ ?_))
    · rcases Nat.lt_or_eq_of_le hi with h4 | rfl
      · have hc := eq_true (show (i : Int) < 32 by omega)
        have h5 := i64_up (a := i) (by omega)
        have h6 : IntKind.i64.wrap ((i : Int).tdiv 8) = ((i / 8 : Nat) : Int) := by rw [show (i : Int).tdiv 8 = ((i / 8 : Nat) : Int) from rfl]; exact i64_same (by omega)
        have h7 : IntKind.i64.wrap (((i : Int).tmod 8) * 8) = ((i % 8 * 8 : Nat) : Int) := by rw [show (i : Int).tmod 8 = ((i % 8 : Nat) : Int) from rfl, IntWalk.i64_in _ (by omega)]; omega
        have h8 : IntKind.u64.wrap ((i % 8 * 8 : Nat) : Int) = ((i % 8 * 8 : Nat) : Int) := by rw [uwrap]; omega
        have g1 := nA_getD (k := .u64) (l := dig4 n) (i := i / 8) (by rw [dig4_len]; omega)
        have s1 := eq_true (nA_szAt (k := .u64) (l := dig4 n) (i := i / 8) (by rw [dig4_len]; omega))
        have bl := bytesI_len n hi
        have s2 := eq_true (szAt_bA (l := bytesI n i) (i := i) (by omega))
        have g2 := bA_getD (l := bytesI n i) (i := i) (by omega)
        have hb := byte_dig n h4
        have hn := bytesI_succ n h4
        obtain ⟨a, ha⟩ : ∃ a, (dig4 n).getD (i / 8) 0 = a := ⟨_, rfl⟩
        rw [ha] at g1 hb
        have e1 := shr_u64 a (i % 8 * 8) (by omega)
        have e2 : IntKind.u8.wrap ((a / 2 ^ (i % 8 * 8) : Nat) : Int) = ((n / 256 ^ i % 256 : Nat) : Int) := by rw [← hb, IntKind.wrap_u8]; norm_cast
        dsimp only
        repeat' (first
          | apply_assumption -exfalso -symm (transparency := .reducible) only [*]
          | (with_reducible refine And.intro ?_ ?_)
          | (refine drawIt ?_; kernel_rfl)
          | ((with_reducible refine opsF_id ?_); simp -implicitDefEqProofs only [go_sem, hc, h5, h6, h7, h8, g1, g2, s1, s2, e1, e2])
          | ((with_reducible refine SW.id ?_); first | with_reducible refine SW.seqK fun K hK => ?_ | with_reducible refine SW.block ?_ | with_reducible refine SW.scope ?_ | ((first | with_reducible refine SW.skip ?_ | with_reducible refine SW.exit ?_ | with_reducible refine SW.label ?_ | with_reducible refine SW.ret ?_ | with_reducible refine SW.go MR ?_ | refine SW.goDrawF MR (by rfl) (by kernel_rfl) ?_); simp -implicitDefEqProofs only [go_sem, hc, h5, h6, h7, h8, g1, g2, s1, s2, e1, e2]) | (refine SW.cond (by simp -implicitDefEqProofs only [go_sem, hc, h5, h6, h7, h8, g1, g2, s1, s2, e1, e2]; rfl) (fun ht => ?_) (fun ht => ?_) <;> (try with_reducible contradiction))))
        all_goals first | omega | skip
        refine ⟨⟨i + 1, by omega⟩, Weak.of [(1, 1), (2, 2), (3, 3)] (by rfl) ?_ ?_, by dsimp only; omega⟩
        · simp -implicitDefEqProofs only [go_sem]
          all_goals (repeat' (first | exact rfl | exact trivial | refine And.intro ?_ ?_))
        · dsimp only
          rw [← hn]
          simp -implicitDefEqProofs only [go_sem]
          all_goals (repeat' (first | exact rfl | exact trivial | refine And.intro ?_ ?_))
      · have hc := eq_false (show ¬ ((32 : Nat) : Int) < 32 by omega)
        repeat' (first
          | apply_assumption -exfalso -symm (transparency := .reducible) only [*]
          | (with_reducible refine And.intro ?_ ?_)
          | (refine drawIt ?_; kernel_rfl)
          | ((with_reducible refine opsF_id ?_); simp -implicitDefEqProofs only [go_sem, hc])
          | ((with_reducible refine SW.id ?_); first | with_reducible refine SW.seqK fun K hK => ?_ | with_reducible refine SW.block ?_ | with_reducible refine SW.scope ?_ | ((first | with_reducible refine SW.skip ?_ | with_reducible refine SW.exit ?_ | with_reducible refine SW.label ?_ | with_reducible refine SW.ret ?_ | with_reducible refine SW.go MR ?_ | refine SW.goDrawF MR (by rfl) (by kernel_rfl) ?_); simp -implicitDefEqProofs only [go_sem, hc]) | (refine SW.cond (by simp -implicitDefEqProofs only [go_sem, hc]; rfl) (fun ht => ?_) (fun ht => ?_) <;> (try with_reducible contradiction))))
        refine ⟨(), Weak.of [(2, 2), (3, 3)] (by rfl) ?_ ?_⟩
        · simp -implicitDefEqProofs only [go_sem]
          all_goals (repeat' (first | exact rfl | exact trivial | refine And.intro ?_ ?_))
        · rw [bytesI_all]
          simp -implicitDefEqProofs only [go_sem]
          all_goals (repeat' (first | exact rfl | exact trivial | refine And.intro ?_ ?_))
  · repeat' (first
      | apply_assumption -exfalso -symm (transparency := .reducible) only [*]
      | (with_reducible refine And.intro ?_ ?_)
      | (refine drawIt ?_; kernel_rfl)
      | ((with_reducible refine opsF_id ?_); simp -implicitDefEqProofs only [go_sem])
      | ((with_reducible refine SW.id ?_); first | with_reducible refine SW.seqK fun K hK => ?_ | with_reducible refine SW.block ?_ | with_reducible refine SW.scope ?_ | ((first | with_reducible refine SW.skip ?_ | with_reducible refine SW.exit ?_ | with_reducible refine SW.label ?_ | with_reducible refine SW.ret ?_ | with_reducible refine SW.go MR ?_ | refine SW.goDrawF MR (by rfl) (by kernel_rfl) ?_); simp -implicitDefEqProofs only [go_sem]) | (refine SW.cond (by simp -implicitDefEqProofs only [go_sem]; rfl) (fun ht => ?_) (fun ht => ?_) <;> (try with_reducible contradiction))))

theorem power_FS (q : Bool) (a : Nat) (e : List Nat) (ha : a < p25519) (he : ∀ x ∈ e, x < 256) (hl : e.length < 2 ^ 40) : FS Try.prog 55 [.agg [.arr 4 (nA .u64 (dig4 a))], .sl q (bA e)] (.ret [.agg [.arr 4 (nA .u64 (dig4 (a ^ leN e % p25519)))]] [none, none]) := by
  refine FS_of_SW (kb := [false, false]) (st0 := ?st) Try.func55 rfl rfl ?he ?_
  case he =>
    simp only [entrySt, unfs, unf, A.noown, noowns, nA_noowns, bA_noowns, Option.map_some, if_true, reduceIte, List.nil_append, List.append_nil]
    rfl
  refine SW.weak (Weak.of [] (sls := [(0, .agg [.arr 4 (nA .u64 (dig4 a))]), (1, .sl q (bA e))]) (bks := []) (ep := 64) (by rfl) (by repeat' (first | exact rfl | exact trivial | refine And.intro ?_ ?_)) trivial) ?_
  have hs1 := small_FS 1 (by decide)
  have w1 := i64_down (a := e.length) (by omega)
  repeat' (first
    | apply_assumption -exfalso -symm (transparency := .reducible) only [*]
    | with_reducible refine SW.stopI 2 ?_
    | (refine callEnd_of hs1 ?_ <;> (try simp -implicitDefEqProofs only [go_sem, w1]))
    | (with_reducible refine And.intro ?_ ?_)
    | (refine drawIt ?_; kernel_rfl)
    | ((with_reducible refine opsF_id ?_); simp -implicitDefEqProofs only [go_sem, w1])
    | ((with_reducible refine SW.id ?_); first | with_reducible refine SW.seqK fun K hK => ?_ | with_reducible refine SW.block ?_ | with_reducible refine SW.scope ?_ | ((first | with_reducible refine SW.skip ?_ | with_reducible refine SW.exit ?_ | with_reducible refine SW.label ?_ | with_reducible refine SW.ret ?_ | with_reducible refine SW.go MR ?_ | refine SW.goDrawF MR (by rfl) (by kernel_rfl) ?_); simp -implicitDefEqProofs only [go_sem, w1]) | (refine SW.cond (by simp -implicitDefEqProofs only [go_sem, w1]; rfl) (fun ht => ?_) (fun ht => ?_) <;> (try with_reducible contradiction))))
  refine Stop.go ?_
  refine SW.cutS (γ := Unit) (fun _ => St.of [(4, .ptr 4 []), (5, .ptr 5 [])] [(4, .var (.agg [.arr 4 (nA .u64 ([0, 0, 0, 0]))])), (5, .var (.agg [.arr 4 (nA .u64 (dig4 (a ^ leN e % p25519)))]))] 64) (fun K hK => ?_) fun _ => ?_
  · repeat' (first
      | apply_assumption -exfalso -symm (transparency := .reducible) only [*]
      | (with_reducible refine And.intro ?_ ?_)
      | (refine drawIt ?_; kernel_rfl)
      | ((with_reducible refine opsF_id ?_); simp -implicitDefEqProofs only [go_sem, w1])
      | ((with_reducible refine SW.id ?_); first | with_reducible refine SW.seqK fun K hK => ?_ | with_reducible refine SW.block ?_ | with_reducible refine SW.scope ?_ | ((first | with_reducible refine SW.skip ?_ | with_reducible refine SW.exit ?_ | with_reducible refine SW.label ?_ | with_reducible refine SW.ret ?_ | with_reducible refine SW.go MR ?_ | refine SW.goDrawF MR (by rfl) (by kernel_rfl) ?_); simp -implicitDefEqProofs only [go_sem, w1]) | (refine SW.cond (by simp -implicitDefEqProofs only [go_sem, w1]; rfl) (fun ht => ?_) (fun ht => ?_) <;> (try with_reducible contradiction))))
    refine SW.loop (α := { i : Nat // i ≤ e.length }) (fun i => St.of [(1, .sl q (bA e)), (2, .ptr 2 []), (4, .ptr 4 []), (5, .ptr 5 []), (6, .v (.int .i64 ((i.1 : Int) - 1)))] [(2, .var (.agg [.arr 4 (nA .u64 (dig4 a))])), (4, .var (.agg [.arr 4 (nA .u64 ([0, 0, 0, 0]))])), (5, .var (.agg [.arr 4 (nA .u64 (dig4 (a ^ leN (e.drop i.1) % p25519)))]))] 64) (fun i => i.1) ⟨e.length, by omega⟩
      (Weak.of [(64, 2), (128, 4), (256, 5)] (by rfl) ?_ ?_) fun ⟨i, hi⟩ => ?_
    · simp -implicitDefEqProofs only [go_sem]
      all_goals (repeat' (first | exact rfl | exact trivial | refine And.intro ?_ ?_))
    · have h0 : a ^ leN (e.drop e.length) % p25519 = 1 := by rw [List.drop_length, leN, Nat.pow_zero]; rfl
      dsimp only
      rw [h0]
      simp -implicitDefEqProofs only [go_sem]
      all_goals (repeat' (first | exact rfl | exact trivial | refine And.intro ?_ ?_))
    · rcases i with _ | i
      · have hc := eq_false (show ¬ (((0 : Nat) : Int) - 1) ≥ 0 by omega)
        repeat' (first
          | apply_assumption -exfalso -symm (transparency := .reducible) only [*]
          | (with_reducible refine And.intro ?_ ?_)
          | (refine drawIt ?_; kernel_rfl)
          | ((with_reducible refine opsF_id ?_); simp -implicitDefEqProofs only [go_sem, hc])
          | ((with_reducible refine SW.id ?_); first | with_reducible refine SW.seqK fun K hK => ?_ | with_reducible refine SW.block ?_ | with_reducible refine SW.scope ?_ | ((first | with_reducible refine SW.skip ?_ | with_reducible refine SW.exit ?_ | with_reducible refine SW.label ?_ | with_reducible refine SW.ret ?_ | with_reducible refine SW.go MR ?_ | refine SW.goDrawF MR (by rfl) (by kernel_rfl) ?_); simp -implicitDefEqProofs only [go_sem, hc]) | (refine SW.cond (by simp -implicitDefEqProofs only [go_sem, hc]; rfl) (fun ht => ?_) (fun ht => ?_) <;> (try with_reducible contradiction))))
        refine ⟨(), Weak.of [(4, 4), (5, 5)] (by rfl) ?_ ?_⟩
        · simp -implicitDefEqProofs only [go_sem]
          all_goals (repeat' (first | exact rfl | exact trivial | refine And.intro ?_ ?_))
        · simp -implicitDefEqProofs only [go_sem]
          all_goals (repeat' (first | exact rfl | exact trivial | refine And.intro ?_ ?_))
      · have hn : (((i + 1 : Nat) : Int) - 1) = (i : Int) := by omega
        have hc := eq_true (show (i : Int) ≥ 0 by omega)
        have h5 := i64_down (a := i) (by omega)
        obtain ⟨E, hE⟩ : ∃ E, leN (e.drop (i + 1)) = E := ⟨_, rfl⟩
        obtain ⟨v, hv⟩ : ∃ v, e.getD i 0 = v := ⟨_, rfl⟩
        have v256 : v < 256 := hv ▸ getD_lt (by decide) he i
        have hd : leN (e.drop i) = v + 256 * E := by rw [leN_drop (by omega), hE, hv]
        have hp0 : dig4 (a ^ E % p25519) = dig4 (powBit a E v 0) := by rw [powBit_zero a E v256]
        dsimp only
        rw [hn, hE, hp0]
        clear hp0
        repeat' (first
          | apply_assumption -exfalso -symm (transparency := .reducible) only [*]
          | (with_reducible refine And.intro ?_ ?_)
          | (refine drawIt ?_; kernel_rfl)
          | ((with_reducible refine opsF_id ?_); simp -implicitDefEqProofs only [go_sem, hc, hv])
          | ((with_reducible refine SW.id ?_); first | with_reducible refine SW.seqK fun K hK => ?_ | with_reducible refine SW.block ?_ | with_reducible refine SW.scope ?_ | ((first | with_reducible refine SW.skip ?_ | with_reducible refine SW.exit ?_ | with_reducible refine SW.label ?_ | with_reducible refine SW.ret ?_ | with_reducible refine SW.go MR ?_ | refine SW.goDrawF MR (by rfl) (by kernel_rfl) ?_); simp -implicitDefEqProofs only [go_sem, hc, hv]) | (refine SW.cond (by simp -implicitDefEqProofs only [go_sem, hc, hv]; rfl) (fun ht => ?_) (fun ht => ?_) <;> (try with_reducible contradiction))))
        all_goals first | omega | skip
        refine SW.loop (α := { j : Nat // j ≤ 8 }) (fun j => St.of [(1, .sl q (bA e)), (2, .ptr 2 []), (4, .ptr 4 []), (5, .ptr 5 []), (6, .v (.int .i64 ((i : Nat) : Int))), (7, .v (.int .u8 ((v * 2 ^ j.1 % 256 : Nat) : Int))), (8, .v (.int .i64 ((j.1 : Nat) : Int)))] [(2, .var (.agg [.arr 4 (nA .u64 (dig4 a))])), (4, .var (.agg [.arr 4 (nA .u64 ([0, 0, 0, 0]))])), (5, .var (.agg [.arr 4 (nA .u64 (dig4 (powBit a E v j.1)))]))] 64) (fun j => 8 - j.1) ⟨0, by omega⟩
          (Weak.of [(2, 2), (4, 4), (5, 5)] (by rfl) ?_ ?_) fun ⟨j, hj⟩ => ?_
        · have : v * 2 ^ 0 % 256 = v := by omega
          dsimp only
          rw [this]
          simp -implicitDefEqProofs only [go_sem]
          all_goals (repeat' (first | exact rfl | exact trivial | refine And.intro ?_ ?_))
        · simp -implicitDefEqProofs only [go_sem]
          all_goals (repeat' (first | exact rfl | exact trivial | refine And.intro ?_ ?_))
        · rcases Nat.lt_or_eq_of_le hj with j4 | rfl
          · have hc2 := eq_true (show (j : Int) < 8 by omega)
            have h7 := i64_up (a := j) (by omega)
            have hx := bit_next v256 j4
            have hb := powBit_succ a E v256 j4
            have hlt := powBit_lt a E v j
            obtain ⟨x, hx'⟩ : ∃ x, v * 2 ^ j % 256 = x := ⟨_, rfl⟩
            obtain ⟨x2, hx2⟩ : ∃ x, v * 2 ^ (j + 1) % 256 = x := ⟨_, rfl⟩
            obtain ⟨r, hr⟩ : ∃ r, powBit a E v j = r := ⟨_, rfl⟩
            obtain ⟨r2, hr2⟩ : ∃ r, powBit a E v (j + 1) = r := ⟨_, rfl⟩
            have hxx : x2 < 256 := by omega
            rw [hx', hx2] at hx
            rw [hx', hr, hr2, Nat.mod_eq_of_lt ha] at hb
            rw [hr] at hlt
            have e1 : IntKind.u8.wrap (((x : Int).tmod 128) * 2) = (x2 : Int) := by rw [show (x : Int).tmod 128 = ((x % 128 : Nat) : Int) from rfl, IntKind.wrap_u8]; omega
            have hs := sq_FS hlt
            have hm := mul_FS (mulN_lt r r) ha
            dsimp only
            rw [hx', hr]
            clear hx' hr
            have fin (z : Nat) (hz : r2 = z) : dig4 z = dig4 (powBit a E v (j + 1)) := by rw [hr2, hz]
            by_cases h128 : 128 ≤ x
            · rw [if_pos h128] at hb
              have hc3 := eq_true (show (x : Int) ≥ 128 by omega)
              repeat' (first
                | apply_assumption -exfalso -symm (transparency := .reducible) only [*]
                | (refine callEnd_of hs ?_ <;> (try simp -implicitDefEqProofs only [go_sem, hc2, hc3, h7, e1]))
                | (refine callEnd_of hm ?_ <;> (try simp -implicitDefEqProofs only [go_sem, hc2, hc3, h7, e1]))
                | (with_reducible refine And.intro ?_ ?_)
                | (refine drawIt ?_; kernel_rfl)
                | ((with_reducible refine opsF_id ?_); simp -implicitDefEqProofs only [go_sem, hc2, hc3, h7, e1])
                | ((with_reducible refine SW.id ?_); first | with_reducible refine SW.seqK fun K hK => ?_ | with_reducible refine SW.block ?_ | with_reducible refine SW.scope ?_ | ((first | with_reducible refine SW.skip ?_ | with_reducible refine SW.exit ?_ | with_reducible refine SW.label ?_ | with_reducible refine SW.ret ?_ | with_reducible refine SW.go MR ?_ | refine SW.goDrawF MR (by rfl) (by kernel_rfl) ?_); simp -implicitDefEqProofs only [go_sem, hc2, hc3, h7, e1]) | (refine SW.cond (by simp -implicitDefEqProofs only [go_sem, hc2, hc3, h7, e1]; rfl) (fun ht => ?_) (fun ht => ?_) <;> (try with_reducible contradiction))))
              all_goals first | omega | decide | skip
              refine ⟨⟨j + 1, by omega⟩, Weak.of [(2, 2), (4, 4), (5, 5)] (by rfl) ?_ ?_, by dsimp only; omega⟩
              · dsimp only
                rw [hx2]
                simp -implicitDefEqProofs only [go_sem]
                all_goals (repeat' (first | exact rfl | exact trivial | refine And.intro ?_ ?_))
              · rw [fin _ hb]
                simp -implicitDefEqProofs only [go_sem]
                all_goals (repeat' (first | exact rfl | exact trivial | refine And.intro ?_ ?_))
            · rw [if_neg h128] at hb
              have hc3 := eq_false (show ¬ (x : Int) ≥ 128 by omega)
              repeat' (first
                | apply_assumption -exfalso -symm (transparency := .reducible) only [*]
                | (refine callEnd_of hs ?_ <;> (try simp -implicitDefEqProofs only [go_sem, hc2, hc3, h7, e1]))
                | (refine callEnd_of hm ?_ <;> (try simp -implicitDefEqProofs only [go_sem, hc2, hc3, h7, e1]))
                | (with_reducible refine And.intro ?_ ?_)
                | (refine drawIt ?_; kernel_rfl)
                | ((with_reducible refine opsF_id ?_); simp -implicitDefEqProofs only [go_sem, hc2, hc3, h7, e1])
                | ((with_reducible refine SW.id ?_); first | with_reducible refine SW.seqK fun K hK => ?_ | with_reducible refine SW.block ?_ | with_reducible refine SW.scope ?_ | ((first | with_reducible refine SW.skip ?_ | with_reducible refine SW.exit ?_ | with_reducible refine SW.label ?_ | with_reducible refine SW.ret ?_ | with_reducible refine SW.go MR ?_ | refine SW.goDrawF MR (by rfl) (by kernel_rfl) ?_); simp -implicitDefEqProofs only [go_sem, hc2, hc3, h7, e1]) | (refine SW.cond (by simp -implicitDefEqProofs only [go_sem, hc2, hc3, h7, e1]; rfl) (fun ht => ?_) (fun ht => ?_) <;> (try with_reducible contradiction))))
              all_goals first | omega | decide | skip
              refine ⟨⟨j + 1, by omega⟩, Weak.of [(2, 2), (4, 4), (5, 5)] (by rfl) ?_ ?_, by dsimp only; omega⟩
              · dsimp only
                rw [hx2]
                simp -implicitDefEqProofs only [go_sem]
                all_goals (repeat' (first | exact rfl | exact trivial | refine And.intro ?_ ?_))
              · rw [fin _ hb]
                simp -implicitDefEqProofs only [go_sem]
                all_goals (repeat' (first | exact rfl | exact trivial | refine And.intro ?_ ?_))
          · have hc2 := eq_false (show ¬ ((8 : Nat) : Int) < 8 by omega)
            repeat' (first
              | apply_assumption -exfalso -symm (transparency := .reducible) only [*]
              | (with_reducible refine And.intro ?_ ?_)
              | (refine drawIt ?_; kernel_rfl)
              | ((with_reducible refine opsF_id ?_); simp -implicitDefEqProofs only [go_sem, hc2, h5])
              | ((with_reducible refine SW.id ?_); first | with_reducible refine SW.seqK fun K hK => ?_ | with_reducible refine SW.block ?_ | with_reducible refine SW.scope ?_ | ((first | with_reducible refine SW.skip ?_ | with_reducible refine SW.exit ?_ | with_reducible refine SW.label ?_ | with_reducible refine SW.ret ?_ | with_reducible refine SW.go MR ?_ | refine SW.goDrawF MR (by rfl) (by kernel_rfl) ?_); simp -implicitDefEqProofs only [go_sem, hc2, h5]) | (refine SW.cond (by simp -implicitDefEqProofs only [go_sem, hc2, h5]; rfl) (fun ht => ?_) (fun ht => ?_) <;> (try with_reducible contradiction))))
            refine ⟨⟨i, by omega⟩, Weak.of [(2, 2), (4, 4), (5, 5)] (by rfl) ?_ ?_, by dsimp only; omega⟩
            · simp -implicitDefEqProofs only [go_sem]
              all_goals (repeat' (first | exact rfl | exact trivial | refine And.intro ?_ ?_))
            · dsimp only
              rw [hd, ← powBit_all a E v]
              simp -implicitDefEqProofs only [go_sem]
              all_goals (repeat' (first | exact rfl | exact trivial | refine And.intro ?_ ?_))
  · repeat' (first
      | apply_assumption -exfalso -symm (transparency := .reducible) only [*]
      | (with_reducible refine And.intro ?_ ?_)
      | (refine drawIt ?_; kernel_rfl)
      | ((with_reducible refine opsF_id ?_); simp -implicitDefEqProofs only [go_sem])
      | ((with_reducible refine SW.id ?_); first | with_reducible refine SW.seqK fun K hK => ?_ | with_reducible refine SW.block ?_ | with_reducible refine SW.scope ?_ | ((first | with_reducible refine SW.skip ?_ | with_reducible refine SW.exit ?_ | with_reducible refine SW.label ?_ | with_reducible refine SW.ret ?_ | with_reducible refine SW.go MR ?_ | refine SW.goDrawF MR (by rfl) (by kernel_rfl) ?_); simp -implicitDefEqProofs only [go_sem]) | (refine SW.cond (by simp -implicitDefEqProofs only [go_sem]; rfl) (fun ht => ?_) (fun ht => ?_) <;> (try with_reducible contradiction))))

theorem number_FS : FS Try.prog 56 [.v (.int .i64 255), .v (.int .i64 21)] (.ret [.osl 1 (bA expL)] [none, none]) := by
  refine FS_of_SW (kb := [false, false]) Try.func56 rfl rfl (by rfl) ?_
  refine SW.weak (Weak.of [] (sls := [(0, .v (.int .i64 255)), (1, .v (.int .i64 21))]) (bks := []) (ep := 64) (by rfl) (by repeat' (first | exact rfl | exact trivial | refine And.intro ?_ ?_)) trivial) ?_
  repeat' (first
    | apply_assumption -exfalso -symm (transparency := .reducible) only [*]
    | with_reducible refine SW.stopI 3 ?_
    | (with_reducible refine And.intro ?_ ?_)
    | (refine drawIt ?_; kernel_rfl)
    | ((with_reducible refine opsF_id ?_); simp -implicitDefEqProofs only [go_sem])
    | ((with_reducible refine SW.id ?_); first | with_reducible refine SW.seqK fun K hK => ?_ | with_reducible refine SW.block ?_ | with_reducible refine SW.scope ?_ | ((first | with_reducible refine SW.skip ?_ | with_reducible refine SW.exit ?_ | with_reducible refine SW.label ?_ | with_reducible refine SW.ret ?_ | with_reducible refine SW.go MR ?_ | refine SW.goDrawF MR (by rfl) (by kernel_rfl) ?_); simp -implicitDefEqProofs only [go_sem]) | (refine SW.cond (by simp -implicitDefEqProofs only [go_sem]; rfl) (fun ht => ?_) (fun ht => ?_) <;> (try simp only [decide_eq_true_eq, decide_eq_false_iff_not, beq_iff_eq, bne_iff_ne, beq_eq_false_iff_ne, bne_eq_false_iff_eq, Bool.or_eq_true, Bool.and_eq_true, Bool.or_eq_false_iff, Bool.and_eq_false_imp, Bool.not_eq_true, Bool.not_eq_false, Bool.not_true, Bool.not_false, Bool.not_eq_true', Bool.not_eq_false', Bool.or_false, Bool.false_or, Bool.or_true, Bool.true_or, Bool.and_true, Bool.true_and, reduceCtorEq] at ht) <;> (try with_reducible contradiction)))
    | ((with_reducible refine guardSplit (fun hg => ?_) (fun hg => ?_)) <;> (try simp only [Bool.not_true, Bool.not_false] at hg) <;> (have hc := hg) <;> simp -implicitDefEqProofs only [go_sem, hg] <;> (try simp only [decide_eq_true_eq, decide_eq_false_iff_not, beq_iff_eq, bne_iff_ne, beq_eq_false_iff_ne, bne_eq_false_iff_eq, Bool.or_eq_true, Bool.and_eq_true, Bool.or_eq_false_iff, Bool.and_eq_false_imp, Bool.not_eq_true, Bool.not_eq_false, Bool.not_true, Bool.not_false, Bool.not_eq_true', Bool.not_eq_false', Bool.or_false, Bool.false_or, Bool.or_true, Bool.true_or, Bool.and_true, Bool.true_and, reduceCtorEq] at hc) <;> (try with_reducible contradiction)))
  all_goals first | omega | skip
  refine Stop.go ?_
  refine SW.cutS (γ := Unit) (fun _ => St.of [(1, .v (.int .i64 21)), (5, .ref 5 1 0 32 false)] [(5, .row 1 (bA (numI 255).1))] 64) (fun K hK => ?_) fun _ => ?_
  · repeat' (first
      | apply_assumption -exfalso -symm (transparency := .reducible) only [*]
      | (with_reducible refine And.intro ?_ ?_)
      | (refine drawIt ?_; kernel_rfl)
      | ((with_reducible refine opsF_id ?_); simp -implicitDefEqProofs only [go_sem])
      | ((with_reducible refine SW.id ?_); first | with_reducible refine SW.seqK fun K hK => ?_ | with_reducible refine SW.block ?_ | with_reducible refine SW.scope ?_ | ((first | with_reducible refine SW.skip ?_ | with_reducible refine SW.exit ?_ | with_reducible refine SW.label ?_ | with_reducible refine SW.ret ?_ | with_reducible refine SW.go MR ?_ | refine SW.goDrawF MR (by rfl) (by kernel_rfl) ?_); simp -implicitDefEqProofs only [go_sem]) | (refine SW.cond (by simp -implicitDefEqProofs only [go_sem]; rfl) (fun ht => ?_) (fun ht => ?_) <;> (try simp only [decide_eq_true_eq, decide_eq_false_iff_not, beq_iff_eq, bne_iff_ne, beq_eq_false_iff_ne, bne_eq_false_iff_eq, Bool.or_eq_true, Bool.and_eq_true, Bool.or_eq_false_iff, Bool.and_eq_false_imp, Bool.not_eq_true, Bool.not_eq_false, Bool.not_true, Bool.not_false, Bool.not_eq_true', Bool.not_eq_false', Bool.or_false, Bool.false_or, Bool.or_true, Bool.true_or, Bool.and_true, Bool.true_and, reduceCtorEq] at ht) <;> (try with_reducible contradiction)))
      | ((with_reducible refine guardSplit (fun hg => ?_) (fun hg => ?_)) <;> (try simp only [Bool.not_true, Bool.not_false] at hg) <;> (have hc := hg) <;> simp -implicitDefEqProofs only [go_sem, hg] <;> (try simp only [decide_eq_true_eq, decide_eq_false_iff_not, beq_iff_eq, bne_iff_ne, beq_eq_false_iff_ne, bne_eq_false_iff_eq, Bool.or_eq_true, Bool.and_eq_true, Bool.or_eq_false_iff, Bool.and_eq_false_imp, Bool.not_eq_true, Bool.not_eq_false, Bool.not_true, Bool.not_false, Bool.not_eq_true', Bool.not_eq_false', Bool.or_false, Bool.false_or, Bool.or_true, Bool.true_or, Bool.and_true, Bool.true_and, reduceCtorEq] at hc) <;> (try with_reducible contradiction)))
    refine SW.loop (α := { i : Nat // i ≤ 255 }) (fun i => St.of [(0, .v (.int .i64 255)), (1, .v (.int .i64 21)), (5, .ref 5 1 0 32 false), (6, .v (.int .u8 ((numI i.1).2 : Int))), (7, .v (.int .i64 ((i.1 : Nat) : Int)))] [(5, .row 1 (bA (numI i.1).1))] 64) (fun i => 255 - i.1) ⟨0, by omega⟩
      (Weak.of [(128, 5)] (by rfl) ?_ ?_) fun ⟨i, hi⟩ => ?_
    · simp -implicitDefEqProofs only [go_sem]
      all_goals (repeat' (first | exact rfl | exact trivial | refine And.intro ?_ ?_))
    · simp -implicitDefEqProofs only [go_sem]
      all_goals (repeat' (first | exact rfl | exact trivial | refine And.intro ?_ ?_))
    · rcases Nat.lt_or_eq_of_le hi with h4 | rfl
      · have hc := eq_true (show (i : Int) < 255 by omega)
        have h5 := i64_up (a := i) (by omega)
        have h6 : IntKind.i64.wrap ((i : Int).tdiv 8) = ((i / 8 : Nat) : Int) := by rw [show (i : Int).tdiv 8 = ((i / 8 : Nat) : Int) from rfl]; exact i64_same (by omega)
        have h7 : (i : Int).tmod 8 = ((i % 8 : Nat) : Int) := rfl
        obtain ⟨u, hu⟩ : ∃ u, (numI i).1 = u := ⟨_, rfl⟩
        obtain ⟨c, hc'⟩ : ∃ c, (numI i).2 = c := ⟨_, rfl⟩
        have lu := numI_len i
        rw [hu] at lu
        have g1 := bA_getD (l := u) (i := i / 8) (by omega)
        obtain ⟨x, hx⟩ : ∃ x, u.getD (i / 8) 0 = x := ⟨_, rfl⟩
        rw [hx] at g1
        have e1 (y : Nat) : IntKind.u8.wrap ((x : Int) + (y : Int)) = (((x + y) % 256 : Nat) : Int) := by rw [IntKind.wrap_u8]; omega
        have e2 (y : Nat) : IntKind.u8.wrap ((y : Int) * 2) = ((y * 2 % 256 : Nat) : Int) := by rw [IntKind.wrap_u8]; omega
        have e3 := e1 c
        have e4 : IntKind.u8.wrap ((x : Int) + 1) = (((x + 1) % 256 : Nat) : Int) := e1 1
        have e5 := e2 c
        have e6 : IntKind.u8.wrap ((1 : Int) * 2) = ((1 * 2 % 256 : Nat) : Int) := by decide
        clear e1 e2
        have hn : numI (i + 1) = (u.set (i / 8) ((x + (if i % 8 = 0 then 1 else c)) % 256), (if i % 8 = 0 then 1 else c) * 2 % 256) := by rw [numI, hu, hc', hx]
        dsimp only
        rw [hu, hc']
        by_cases h8 : i % 8 = 0
        · rw [if_pos h8] at hn
          have h9 := eq_true (show ((i % 8 : Nat) : Int) = 0 by omega)
          repeat' (first
            | apply_assumption -exfalso -symm (transparency := .reducible) only [*]
            | (with_reducible refine And.intro ?_ ?_)
            | (refine drawIt ?_; kernel_rfl)
            | ((with_reducible refine opsF_id ?_); simp -implicitDefEqProofs only [go_sem, hc, h5, h6, h7, h9, g1, hx, e4, e6])
            | ((with_reducible refine SW.id ?_); first | with_reducible refine SW.seqK fun K hK => ?_ | with_reducible refine SW.block ?_ | with_reducible refine SW.scope ?_ | ((first | with_reducible refine SW.skip ?_ | with_reducible refine SW.exit ?_ | with_reducible refine SW.label ?_ | with_reducible refine SW.ret ?_ | with_reducible refine SW.go MR ?_ | refine SW.goDrawF MR (by rfl) (by kernel_rfl) ?_); simp -implicitDefEqProofs only [go_sem, hc, h5, h6, h7, h9, g1, hx, e4, e6]) | (refine SW.cond (by simp -implicitDefEqProofs only [go_sem, hc, h5, h6, h7, h9, g1, hx, e4, e6]; rfl) (fun ht => ?_) (fun ht => ?_) <;> (try simp only [decide_eq_true_eq, decide_eq_false_iff_not, beq_iff_eq, bne_iff_ne, beq_eq_false_iff_ne, bne_eq_false_iff_eq, Bool.or_eq_true, Bool.and_eq_true, Bool.or_eq_false_iff, Bool.and_eq_false_imp, Bool.not_eq_true, Bool.not_eq_false, Bool.not_true, Bool.not_false, Bool.not_eq_true', Bool.not_eq_false', Bool.or_false, Bool.false_or, Bool.or_true, Bool.true_or, Bool.and_true, Bool.true_and, reduceCtorEq] at ht) <;> (try with_reducible contradiction)))
            | ((with_reducible refine guardSplit (fun hg => ?_) (fun hg => ?_)) <;> (try simp only [Bool.not_true, Bool.not_false] at hg) <;> (have hc := hg) <;> simp -implicitDefEqProofs only [go_sem, hg, hc, h5, h6, h7, h9, g1, hx, e4, e6] <;> (try simp only [decide_eq_true_eq, decide_eq_false_iff_not, beq_iff_eq, bne_iff_ne, beq_eq_false_iff_ne, bne_eq_false_iff_eq, Bool.or_eq_true, Bool.and_eq_true, Bool.or_eq_false_iff, Bool.and_eq_false_imp, Bool.not_eq_true, Bool.not_eq_false, Bool.not_true, Bool.not_false, Bool.not_eq_true', Bool.not_eq_false', Bool.or_false, Bool.false_or, Bool.or_true, Bool.true_or, Bool.and_true, Bool.true_and, reduceCtorEq] at hc) <;> (try with_reducible contradiction)))
          all_goals first | omega | skip
          refine ⟨⟨i + 1, by omega⟩, Weak.of [(5, 5)] (by rfl) ?_ ?_, by dsimp only; omega⟩
          · rw [hn]
            simp -implicitDefEqProofs only [go_sem]
            all_goals (repeat' (first | exact rfl | exact trivial | refine And.intro ?_ ?_))
          · rw [hn]
            simp -implicitDefEqProofs only [go_sem]
            all_goals (repeat' (first | exact rfl | exact trivial | refine And.intro ?_ ?_))
        · rw [if_neg h8] at hn
          have h9 := eq_false (show ¬ ((i % 8 : Nat) : Int) = 0 by omega)
          repeat' (first
            | apply_assumption -exfalso -symm (transparency := .reducible) only [*]
            | (with_reducible refine And.intro ?_ ?_)
            | (refine drawIt ?_; kernel_rfl)
            | ((with_reducible refine opsF_id ?_); simp -implicitDefEqProofs only [go_sem, hc, h5, h6, h7, h9, g1, hx, e3, e5])
            | ((with_reducible refine SW.id ?_); first | with_reducible refine SW.seqK fun K hK => ?_ | with_reducible refine SW.block ?_ | with_reducible refine SW.scope ?_ | ((first | with_reducible refine SW.skip ?_ | with_reducible refine SW.exit ?_ | with_reducible refine SW.label ?_ | with_reducible refine SW.ret ?_ | with_reducible refine SW.go MR ?_ | refine SW.goDrawF MR (by rfl) (by kernel_rfl) ?_); simp -implicitDefEqProofs only [go_sem, hc, h5, h6, h7, h9, g1, hx, e3, e5]) | (refine SW.cond (by simp -implicitDefEqProofs only [go_sem, hc, h5, h6, h7, h9, g1, hx, e3, e5]; rfl) (fun ht => ?_) (fun ht => ?_) <;> (try simp only [decide_eq_true_eq, decide_eq_false_iff_not, beq_iff_eq, bne_iff_ne, beq_eq_false_iff_ne, bne_eq_false_iff_eq, Bool.or_eq_true, Bool.and_eq_true, Bool.or_eq_false_iff, Bool.and_eq_false_imp, Bool.not_eq_true, Bool.not_eq_false, Bool.not_true, Bool.not_false, Bool.not_eq_true', Bool.not_eq_false', Bool.or_false, Bool.false_or, Bool.or_true, Bool.true_or, Bool.and_true, Bool.true_and, reduceCtorEq] at ht) <;> (try with_reducible contradiction)))
            | ((with_reducible refine guardSplit (fun hg => ?_) (fun hg => ?_)) <;> (try simp only [Bool.not_true, Bool.not_false] at hg) <;> (have hc := hg) <;> simp -implicitDefEqProofs only [go_sem, hg, hc, h5, h6, h7, h9, g1, hx, e3, e5] <;> (try simp only [decide_eq_true_eq, decide_eq_false_iff_not, beq_iff_eq, bne_iff_ne, beq_eq_false_iff_ne, bne_eq_false_iff_eq, Bool.or_eq_true, Bool.and_eq_true, Bool.or_eq_false_iff, Bool.and_eq_false_imp, Bool.not_eq_true, Bool.not_eq_false, Bool.not_true, Bool.not_false, Bool.not_eq_true', Bool.not_eq_false', Bool.or_false, Bool.false_or, Bool.or_true, Bool.true_or, Bool.and_true, Bool.true_and, reduceCtorEq] at hc) <;> (try with_reducible contradiction)))
          all_goals first | omega | skip
          refine ⟨⟨i + 1, by omega⟩, Weak.of [(5, 5)] (by rfl) ?_ ?_, by dsimp only; omega⟩
          · rw [hn]
            simp -implicitDefEqProofs only [go_sem]
            all_goals (repeat' (first | exact rfl | exact trivial | refine And.intro ?_ ?_))
          · rw [hn]
            simp -implicitDefEqProofs only [go_sem]
            all_goals (repeat' (first | exact rfl | exact trivial | refine And.intro ?_ ?_))
      · have hc := eq_false (show ¬ ((255 : Nat) : Int) < 255 by omega)
        repeat' (first
          | apply_assumption -exfalso -symm (transparency := .reducible) only [*]
          | (with_reducible refine And.intro ?_ ?_)
          | (refine drawIt ?_; kernel_rfl)
          | ((with_reducible refine opsF_id ?_); simp -implicitDefEqProofs only [go_sem, hc])
          | ((with_reducible refine SW.id ?_); first | with_reducible refine SW.seqK fun K hK => ?_ | with_reducible refine SW.block ?_ | with_reducible refine SW.scope ?_ | ((first | with_reducible refine SW.skip ?_ | with_reducible refine SW.exit ?_ | with_reducible refine SW.label ?_ | with_reducible refine SW.ret ?_ | with_reducible refine SW.go MR ?_ | refine SW.goDrawF MR (by rfl) (by kernel_rfl) ?_); simp -implicitDefEqProofs only [go_sem, hc]) | (refine SW.cond (by simp -implicitDefEqProofs only [go_sem, hc]; rfl) (fun ht => ?_) (fun ht => ?_) <;> (try simp only [decide_eq_true_eq, decide_eq_false_iff_not, beq_iff_eq, bne_iff_ne, beq_eq_false_iff_ne, bne_eq_false_iff_eq, Bool.or_eq_true, Bool.and_eq_true, Bool.or_eq_false_iff, Bool.and_eq_false_imp, Bool.not_eq_true, Bool.not_eq_false, Bool.not_true, Bool.not_false, Bool.not_eq_true', Bool.not_eq_false', Bool.or_false, Bool.false_or, Bool.or_true, Bool.true_or, Bool.and_true, Bool.true_and, reduceCtorEq] at ht) <;> (try with_reducible contradiction)))
          | ((with_reducible refine guardSplit (fun hg => ?_) (fun hg => ?_)) <;> (try simp only [Bool.not_true, Bool.not_false] at hg) <;> (have hc := hg) <;> simp -implicitDefEqProofs only [go_sem, hg, hc] <;> (try simp only [decide_eq_true_eq, decide_eq_false_iff_not, beq_iff_eq, bne_iff_ne, beq_eq_false_iff_ne, bne_eq_false_iff_eq, Bool.or_eq_true, Bool.and_eq_true, Bool.or_eq_false_iff, Bool.and_eq_false_imp, Bool.not_eq_true, Bool.not_eq_false, Bool.not_true, Bool.not_false, Bool.not_eq_true', Bool.not_eq_false', Bool.or_false, Bool.false_or, Bool.or_true, Bool.true_or, Bool.and_true, Bool.true_and, reduceCtorEq] at hc) <;> (try with_reducible contradiction)))
        refine ⟨(), Weak.of [(5, 5)] (by rfl) ?_ ?_⟩
        · simp -implicitDefEqProofs only [go_sem]
          all_goals (repeat' (first | exact rfl | exact trivial | refine And.intro ?_ ?_))
        · simp -implicitDefEqProofs only [go_sem]
          all_goals (repeat' (first | exact rfl | exact trivial | refine And.intro ?_ ?_))
  · have l := numI_len 255
    have z := numI_zero
    have f := numI_all
    generalize (numI 255).1 = u at *
    have g1 := bA_getD (l := u) (i := 0) (by omega)
    rw [z] at g1
    have e1 : IntKind.u8.wrap (((255 : Nat) : Int) - IntKind.u8.wrap (IntKind.i64.wrap (21 - 1))) = ((235 : Nat) : Int) := by decide
    have tk : (u.set 0 235).take 32 = expL := by rw [f]; rfl
    repeat' (first
      | apply_assumption -exfalso -symm (transparency := .reducible) only [*]
      | (with_reducible refine And.intro ?_ ?_)
      | (refine drawIt ?_; kernel_rfl)
      | ((with_reducible refine opsF_id ?_); simp -implicitDefEqProofs only [go_sem, g1, z, e1, tk, Int.reduceToNat])
      | ((with_reducible refine SW.id ?_); first | with_reducible refine SW.seqK fun K hK => ?_ | with_reducible refine SW.block ?_ | with_reducible refine SW.scope ?_ | ((first | with_reducible refine SW.skip ?_ | with_reducible refine SW.exit ?_ | with_reducible refine SW.label ?_ | with_reducible refine SW.ret ?_ | with_reducible refine SW.go MR ?_ | refine SW.goDrawF MR (by rfl) (by kernel_rfl) ?_); simp -implicitDefEqProofs only [go_sem, g1, z, e1, tk, Int.reduceToNat]) | (refine SW.cond (by simp -implicitDefEqProofs only [go_sem, g1, z, e1, tk, Int.reduceToNat]; rfl) (fun ht => ?_) (fun ht => ?_) <;> (try simp only [decide_eq_true_eq, decide_eq_false_iff_not, beq_iff_eq, bne_iff_ne, beq_eq_false_iff_ne, bne_eq_false_iff_eq, Bool.or_eq_true, Bool.and_eq_true, Bool.or_eq_false_iff, Bool.and_eq_false_imp, Bool.not_eq_true, Bool.not_eq_false, Bool.not_true, Bool.not_false, Bool.not_eq_true', Bool.not_eq_false', Bool.or_false, Bool.false_or, Bool.or_true, Bool.true_or, Bool.and_true, Bool.true_and, reduceCtorEq] at ht) <;> (try with_reducible contradiction)))
      | ((with_reducible refine guardSplit (fun hg => ?_) (fun hg => ?_)) <;> (try simp only [Bool.not_true, Bool.not_false] at hg) <;> (have hc := hg) <;> simp -implicitDefEqProofs only [go_sem, hg, g1, z, e1, tk, Int.reduceToNat] <;> (try simp only [decide_eq_true_eq, decide_eq_false_iff_not, beq_iff_eq, bne_iff_ne, beq_eq_false_iff_ne, bne_eq_false_iff_eq, Bool.or_eq_true, Bool.and_eq_true, Bool.or_eq_false_iff, Bool.and_eq_false_imp, Bool.not_eq_true, Bool.not_eq_false, Bool.not_true, Bool.not_false, Bool.not_eq_true', Bool.not_eq_false', Bool.or_false, Bool.false_or, Bool.or_true, Bool.true_or, Bool.and_true, Bool.true_and, reduceCtorEq] at hc) <;> (try with_reducible contradiction)))
    all_goals first | omega | (simp only [List.length_set]; omega) | skip

theorem invertD_FS {a : Nat} (ha : a < p25519) : FS Try.prog 46 [.agg [.arr 4 (nA .u64 (dig4 a))]] (.ret [.agg [.arr 4 (nA .u64 (dig4 (a ^ (2 ^ 255 - 21) % p25519)))]] [none]) := by
  refine FS_of_SW (kb := [false]) (st0 := ?st) Try.func46 rfl rfl ?he ?_
  case he =>
    simp only [entrySt, unfs, unf, A.noown, noowns, nA_noowns, bA_noowns, Option.map_some, if_true, reduceIte, List.nil_append, List.append_nil]
    rfl
  have h1 := number_FS
  have h2 := power_FS false a expL ha (by decide) (by decide)
  rw [expL_val] at h2
  generalize dig4 (a ^ (2 ^ 255 - 21) % p25519) = r at *
  refine SW.weak (Weak.of [] (sls := [(0, .agg [.arr 4 (nA .u64 (dig4 a))])]) (bks := []) (ep := 64) (by rfl) (by repeat' (first | exact rfl | exact trivial | refine And.intro ?_ ?_)) trivial) ?_
  repeat' (first
    | apply_assumption -exfalso -symm (transparency := .reducible) only [*]
    | (refine callEnd_of h1 ?_ <;> (try simp -implicitDefEqProofs only [go_sem]))
    | (refine callEnd_of h2 ?_ <;> (try simp -implicitDefEqProofs only [go_sem]))
    | (with_reducible refine And.intro ?_ ?_)
    | (refine drawIt ?_; kernel_rfl)
    | ((with_reducible refine opsF_id ?_); simp -implicitDefEqProofs only [go_sem])
    | ((with_reducible refine SW.id ?_); first | with_reducible refine SW.seqK fun K hK => ?_ | with_reducible refine SW.block ?_ | with_reducible refine SW.scope ?_ | ((first | with_reducible refine SW.skip ?_ | with_reducible refine SW.exit ?_ | with_reducible refine SW.label ?_ | with_reducible refine SW.ret ?_ | with_reducible refine SW.go MR ?_ | refine SW.goDrawF MR (by rfl) (by kernel_rfl) ?_); simp -implicitDefEqProofs only [go_sem]) | (refine SW.cond (by simp -implicitDefEqProofs only [go_sem]; rfl) (fun ht => ?_) (fun ht => ?_) <;> (try simp only [decide_eq_true_eq, decide_eq_false_iff_not, beq_iff_eq, bne_iff_ne, beq_eq_false_iff_ne, bne_eq_false_iff_eq, Bool.or_eq_true, Bool.and_eq_true, Bool.or_eq_false_iff, Bool.and_eq_false_imp, Bool.not_eq_true, Bool.not_eq_false, Bool.not_true, Bool.not_false, Bool.not_eq_true', Bool.not_eq_false', Bool.or_false, Bool.false_or, Bool.or_true, Bool.true_or, Bool.and_true, Bool.true_and, reduceCtorEq] at ht) <;> (try with_reducible contradiction)))
    | ((with_reducible refine guardSplit (fun hg => ?_) (fun hg => ?_)) <;> (try simp only [Bool.not_true, Bool.not_false] at hg) <;> (have hc := hg) <;> simp -implicitDefEqProofs only [go_sem, hg] <;> (try simp only [decide_eq_true_eq, decide_eq_false_iff_not, beq_iff_eq, bne_iff_ne, beq_eq_false_iff_ne, bne_eq_false_iff_eq, Bool.or_eq_true, Bool.and_eq_true, Bool.or_eq_false_iff, Bool.and_eq_false_imp, Bool.not_eq_true, Bool.not_eq_false, Bool.not_true, Bool.not_false, Bool.not_eq_true', Bool.not_eq_false', Bool.or_false, Bool.false_or, Bool.or_true, Bool.true_or, Bool.and_true, Bool.true_and, reduceCtorEq] at hc) <;> (try with_reducible contradiction)))
  all_goals trace_state
end Go.PA
