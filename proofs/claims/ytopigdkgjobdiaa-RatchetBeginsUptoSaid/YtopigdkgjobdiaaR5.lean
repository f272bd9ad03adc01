/- Numbers of the field: the square, powers. -/
import Derived.Test.YtopigdkgjobdiaaR4
namespace Go.PA
open Go.Proofs Go.Fe
set_option linter.unusedSimpArgs false
set_option linter.unusedVariables false
set_option maxRecDepth 100000
set_option maxHeartbeats 4000000
attribute [local go_sem] MR getP setP takesW
attribute [-go_sem] takeA roA

theorem sq_lt {a b c d : Nat} (ha : a < c * 4503599627370496) (hb : b < d * 4503599627370496) (hc : c * d ≤ 38) : a * b < 38 * 20282409603651670423947251286016 := by
  have h := Nat.mul_lt_mul'' ha hb
  have e : c * 4503599627370496 * (d * 4503599627370496) = c * d * 20282409603651670423947251286016 := by
    rw [Nat.mul_mul_mul_comm]
  rw [e] at h
  exact Nat.lt_of_lt_of_le h (Nat.mul_le_mul_right _ hc)
theorem square_FSr (a : N5) (ha : a.ok) : FS Try.prog 74 [numT a] (.ret [numT (a.mul a)] [none]) := by
  refine FS_of_SW (kb := [false]) Try.func74 rfl rfl (by rfl) ?_
  obtain ⟨m0, m1, m2, m3, m4⟩ := mul_bounds ha ha
  obtain ⟨c0, c1, c2, c3, c4⟩ := carried_lt m0 m1 m2 m3 m4
  obtain ⟨a0, a1, a2, a3, a4⟩ := a
  obtain ⟨h0, h1, h2, h3, h4⟩ := ha
  simp only [carried] at c0 c1 c2 c3 c4
  simp only [numT, N5.mul, carried]
  dsimp only at h0 h1 h2 h3 h4
  obtain ⟨R, hR⟩ : ∃ x, mulR ⟨a0, a1, a2, a3, a4⟩ ⟨a0, a1, a2, a3, a4⟩ = x := ⟨_, rfl⟩
  obtain ⟨S, hS⟩ : ∃ x, mulS ⟨a0, a1, a2, a3, a4⟩ ⟨a0, a1, a2, a3, a4⟩ = x := ⟨_, rfl⟩
  obtain ⟨T, hT⟩ : ∃ x, mulT ⟨a0, a1, a2, a3, a4⟩ ⟨a0, a1, a2, a3, a4⟩ = x := ⟨_, rfl⟩
  obtain ⟨U, hU⟩ : ∃ x, mulU ⟨a0, a1, a2, a3, a4⟩ ⟨a0, a1, a2, a3, a4⟩ = x := ⟨_, rfl⟩
  obtain ⟨V, hV⟩ : ∃ x, mulV ⟨a0, a1, a2, a3, a4⟩ ⟨a0, a1, a2, a3, a4⟩ = x := ⟨_, rfl⟩
  simp only [hR, hS, hT, hU, hV] at m0 m1 m2 m3 m4 c0 c1 c2 c3 c4 ⊢
  have kR : a0 * a0 + 2 * a1 * (19 * a4) + 2 * a2 * (19 * a3) = R := by rw [← hR]; simp only [mulR]; grind
  have kS : 2 * a0 * a1 + 2 * a2 * (19 * a4) + a3 * (19 * a3) = S := by rw [← hS]; simp only [mulS]; grind
  have kT : 2 * a0 * a2 + a1 * a1 + 2 * a3 * (19 * a4) = T := by rw [← hT]; simp only [mulT]; grind
  have kU : 2 * a0 * a3 + 2 * a1 * a2 + a4 * (19 * a4) = U := by rw [← hU]; simp only [mulU]; grind
  have kV : 2 * a0 * a4 + 2 * a1 * a3 + a2 * a2 = V := by rw [← hV]; simp only [mulV]; grind
  have q0 : a0 * a0 < 38 * 20282409603651670423947251286016 := sq_lt (a := a0) (b := a0) (c := 1) (d := 1) (by omega) (by omega) (by decide)
  have q1 : 2 * a1 * (19 * a4) < 38 * 20282409603651670423947251286016 := sq_lt (a := 2 * a1) (b := (19 * a4)) (c := 2) (d := 19) (by omega) (by omega) (by decide)
  have q2 : 2 * a2 * (19 * a3) < 38 * 20282409603651670423947251286016 := sq_lt (a := 2 * a2) (b := (19 * a3)) (c := 2) (d := 19) (by omega) (by omega) (by decide)
  have q3 : 2 * a0 * a1 < 38 * 20282409603651670423947251286016 := sq_lt (a := 2 * a0) (b := a1) (c := 2) (d := 1) (by omega) (by omega) (by decide)
  have q4 : 2 * a2 * (19 * a4) < 38 * 20282409603651670423947251286016 := sq_lt (a := 2 * a2) (b := (19 * a4)) (c := 2) (d := 19) (by omega) (by omega) (by decide)
  have q5 : a3 * (19 * a3) < 38 * 20282409603651670423947251286016 := sq_lt (a := a3) (b := (19 * a3)) (c := 1) (d := 19) (by omega) (by omega) (by decide)
  have q6 : 2 * a0 * a2 < 38 * 20282409603651670423947251286016 := sq_lt (a := 2 * a0) (b := a2) (c := 2) (d := 1) (by omega) (by omega) (by decide)
  have q7 : a1 * a1 < 38 * 20282409603651670423947251286016 := sq_lt (a := a1) (b := a1) (c := 1) (d := 1) (by omega) (by omega) (by decide)
  have q8 : 2 * a3 * (19 * a4) < 38 * 20282409603651670423947251286016 := sq_lt (a := 2 * a3) (b := (19 * a4)) (c := 2) (d := 19) (by omega) (by omega) (by decide)
  have q9 : 2 * a0 * a3 < 38 * 20282409603651670423947251286016 := sq_lt (a := 2 * a0) (b := a3) (c := 2) (d := 1) (by omega) (by omega) (by decide)
  have q10 : 2 * a1 * a2 < 38 * 20282409603651670423947251286016 := sq_lt (a := 2 * a1) (b := a2) (c := 2) (d := 1) (by omega) (by omega) (by decide)
  have q11 : a4 * (19 * a4) < 38 * 20282409603651670423947251286016 := sq_lt (a := a4) (b := (19 * a4)) (c := 1) (d := 19) (by omega) (by omega) (by decide)
  have q12 : 2 * a0 * a4 < 38 * 20282409603651670423947251286016 := sq_lt (a := 2 * a0) (b := a4) (c := 2) (d := 1) (by omega) (by omega) (by decide)
  have q13 : 2 * a1 * a3 < 38 * 20282409603651670423947251286016 := sq_lt (a := 2 * a1) (b := a3) (c := 2) (d := 1) (by omega) (by omega) (by decide)
  have q14 : a2 * a2 < 38 * 20282409603651670423947251286016 := sq_lt (a := a2) (b := a2) (c := 1) (d := 1) (by omega) (by omega) (by decide)
  have w1 := mulW a3 0 h3
  have w2 := mulW a4 0 h4
  have w (x : Nat) (hx : x < 4503599627370496) : IntKind.u64.wrap (2 * (x : Int)) = ((2 * x : Nat) : Int) := by simp only [uwrap]; omega
  have w3 := w a0 h0
  have w4 := w a1 h1
  have w5 := w a2 h2
  have w6 := w a3 h3
  clear w
  have e0 : IntKind.u64.wrap (((R % 2251799813685248 : Nat) : Int) + IntKind.u64.wrap (19 * ((V / 2251799813685248 : Nat) : Int))) = ((R % 2251799813685248 + 19 * (V / 2251799813685248) : Nat) : Int) := by simp only [uwrap]; omega
  have e1 := mask_add S (R / 2251799813685248) (by omega)
  have e2 := mask_add T (S / 2251799813685248) (by omega)
  have e3 := mask_add U (T / 2251799813685248) (by omega)
  have e4 := mask_add V (U / 2251799813685248) (by omega)
  have hc := carried_FS (R % 2251799813685248 + 19 * (V / 2251799813685248)) (S % 2251799813685248 + R / 2251799813685248) (T % 2251799813685248 + S / 2251799813685248) (U % 2251799813685248 + T / 2251799813685248) (V % 2251799813685248 + U / 2251799813685248) (by omega) (by omega) (by omega) (by omega) (by omega)
  simp only [uT, numT, carried] at hc
  refine SW.weak (Weak.of [] (sls := [(0, .agg [.arr 5 [.v (.int .u64 (a0 : Int)), .v (.int .u64 (a1 : Int)), .v (.int .u64 (a2 : Int)), .v (.int .u64 (a3 : Int)), .v (.int .u64 (a4 : Int))]])]) (bks := []) (ep := 64) (by rfl) (by repeat' (first | exact rfl | exact trivial | refine And.intro ?_ ?_)) trivial) ?_
  repeat' (first
    | apply_assumption -exfalso -symm (transparency := .reducible) only [*]
    | with_reducible refine SW.stopR 3 ?_
    | (with_reducible refine And.intro ?_ ?_)
    | (refine drawIt ?_; kernel_rfl)
    | ((with_reducible refine opsF_id ?_); simp -implicitDefEqProofs only [go_sem, Int.reduceToNat, w1, w2, w3, w4, w5, w6])
    | ((with_reducible refine SW.id ?_); first | with_reducible refine SW.seqK fun K hK => ?_ | with_reducible refine SW.block ?_ | with_reducible refine SW.scope ?_ | ((first | with_reducible refine SW.skip ?_ | with_reducible refine SW.exit ?_ | with_reducible refine SW.label ?_ | with_reducible refine SW.ret ?_ | with_reducible refine SW.go MR ?_ | refine SW.goDrawF MR (by rfl) (by kernel_rfl) ?_); simp -implicitDefEqProofs only [go_sem, Int.reduceToNat, w1, w2, w3, w4, w5, w6]) | (refine SW.cond (by simp -implicitDefEqProofs only [go_sem, Int.reduceToNat, w1, w2, w3, w4, w5, w6]; rfl) (fun ht => ?_) (fun ht => ?_) <;> (try with_reducible contradiction))))
  all_goals first | omega | skip
  refine Stop.go (SW.weak (Weak.of [(128, 2)] (sls := [(2, .ptr 2 []), (3, .v (.int .u64 ((a0 : Nat) : Int))), (4, .v (.int .u64 ((a1 : Nat) : Int))), (5, .v (.int .u64 ((a2 : Nat) : Int))), (6, .v (.int .u64 ((a3 : Nat) : Int))), (7, .v (.int .u64 ((a4 : Nat) : Int))), (8, .v (.int .u64 ((2 * a0 : Nat) : Int))), (9, .v (.int .u64 ((2 * a1 : Nat) : Int))), (10, .v (.int .u64 ((19 * a3 : Nat) : Int))), (11, .v (.int .u64 ((19 * a4 : Nat) : Int)))]) (bks := [(2, .var (.agg [.arr 5 [.v (.int .u64 0), .v (.int .u64 0), .v (.int .u64 0), .v (.int .u64 0), .v (.int .u64 0)]]))]) (ep := 64) (by rfl) ?_ ?_) ?_)
  · simp -implicitDefEqProofs only [go_sem]
  · simp -implicitDefEqProofs only [go_sem]
    all_goals (repeat' (first | exact rfl | exact trivial | refine And.intro ?_ ?_))
  repeat' (first
    | apply_assumption -exfalso -symm (transparency := .reducible) only [*]
    | with_reducible refine SW.stopR 8 ?_
    | (with_reducible refine callEnd_of (plus0_FS _ _ (by omega) (by omega)) ?_ <;> (try simp -implicitDefEqProofs only [go_sem, Int.reduceToNat, w5, w6, kR, kS, kT, kU, kV]))
    | (with_reducible refine callEnd_of (plusG_FS _ _ _ (by omega) (by omega) (by omega)) ?_ <;> (try simp -implicitDefEqProofs only [go_sem, Int.reduceToNat, w5, w6, kR, kS, kT, kU, kV]))
    | (with_reducible refine And.intro ?_ ?_)
    | (refine drawIt ?_; kernel_rfl)
    | ((with_reducible refine opsF_id ?_); simp -implicitDefEqProofs only [go_sem, Int.reduceToNat, w5, w6, kR, kS, kT, kU, kV])
    | ((with_reducible refine SW.id ?_); first | with_reducible refine SW.seqK fun K hK => ?_ | with_reducible refine SW.block ?_ | with_reducible refine SW.scope ?_ | ((first | with_reducible refine SW.skip ?_ | with_reducible refine SW.exit ?_ | with_reducible refine SW.label ?_ | with_reducible refine SW.ret ?_ | with_reducible refine SW.go MR ?_ | refine SW.goDrawF MR (by rfl) (by kernel_rfl) ?_); simp -implicitDefEqProofs only [go_sem, Int.reduceToNat, w5, w6, kR, kS, kT, kU, kV]) | (refine SW.cond (by simp -implicitDefEqProofs only [go_sem, Int.reduceToNat, w5, w6, kR, kS, kT, kU, kV]; rfl) (fun ht => ?_) (fun ht => ?_) <;> (try with_reducible contradiction))))
  all_goals first | omega | skip
  refine Stop.go (SW.weak (Weak.of [(2, 2), (768, 12), (1600, 13), (2432, 14), (3200, 15), (3968, 16)] (sls := [(2, .ptr 2 []), (12, .ptr 12 []), (13, .ptr 13 []), (14, .ptr 14 []), (15, .ptr 15 []), (16, .ptr 16 [])]) (bks := [(2, .var (.agg [.arr 5 [.v (.int .u64 0), .v (.int .u64 0), .v (.int .u64 0), .v (.int .u64 0), .v (.int .u64 0)]])), (12, .var (.agg [.v (.int .u64 ((R / 18446744073709551616 : Nat) : Int)), .v (.int .u64 ((R % 18446744073709551616 : Nat) : Int))])), (13, .var (.agg [.v (.int .u64 ((S / 18446744073709551616 : Nat) : Int)), .v (.int .u64 ((S % 18446744073709551616 : Nat) : Int))])), (14, .var (.agg [.v (.int .u64 ((T / 18446744073709551616 : Nat) : Int)), .v (.int .u64 ((T % 18446744073709551616 : Nat) : Int))])), (15, .var (.agg [.v (.int .u64 ((U / 18446744073709551616 : Nat) : Int)), .v (.int .u64 ((U % 18446744073709551616 : Nat) : Int))])), (16, .var (.agg [.v (.int .u64 ((V / 18446744073709551616 : Nat) : Int)), .v (.int .u64 ((V % 18446744073709551616 : Nat) : Int))]))]) (ep := 64) (by rfl) ?_ ?_) ?_)
  · simp -implicitDefEqProofs only [go_sem]
  · simp -implicitDefEqProofs only [go_sem]
    all_goals (repeat' (first | exact rfl | exact trivial | refine And.intro ?_ ?_))
  repeat' (first
    | apply_assumption -exfalso -symm (transparency := .reducible) only [*]
    | (with_reducible refine callEnd_of (overG_FS _ (by omega)) ?_ <;> (try simp -implicitDefEqProofs only [go_sem, Int.reduceToNat, and51m, e0, e1, e2, e3, e4]))
    | (with_reducible refine callEnd_of hc ?_ <;> (try simp -implicitDefEqProofs only [go_sem, Int.reduceToNat, and51m, e0, e1, e2, e3, e4]))
    | (with_reducible refine And.intro ?_ ?_)
    | (refine drawIt ?_; kernel_rfl)
    | ((with_reducible refine opsF_id ?_); simp -implicitDefEqProofs only [go_sem, Int.reduceToNat, and51m, e0, e1, e2, e3, e4])
    | ((with_reducible refine SW.id ?_); first | with_reducible refine SW.seqK fun K hK => ?_ | with_reducible refine SW.block ?_ | with_reducible refine SW.scope ?_ | ((first | with_reducible refine SW.skip ?_ | with_reducible refine SW.exit ?_ | with_reducible refine SW.label ?_ | with_reducible refine SW.ret ?_ | with_reducible refine SW.go MR ?_ | refine SW.goDrawF MR (by rfl) (by kernel_rfl) ?_); simp -implicitDefEqProofs only [go_sem, Int.reduceToNat, and51m, e0, e1, e2, e3, e4]) | (refine SW.cond (by simp -implicitDefEqProofs only [go_sem, Int.reduceToNat, and51m, e0, e1, e2, e3, e4]; rfl) (fun ht => ?_) (fun ht => ?_) <;> (try with_reducible contradiction))))
  all_goals first | omega | skip
  all_goals trace_state
end Go.PA
