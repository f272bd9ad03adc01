/- Numbers of the field: the product, the square. -/
import Derived.Test.YtopigdkgjobdiaaR3
namespace Go.PA
open Go.Proofs Go.Fe
set_option linter.unusedSimpArgs false
set_option linter.unusedVariables false
set_option maxRecDepth 100000
set_option maxHeartbeats 4000000
attribute [local go_sem] MR getP setP takesW
attribute [-go_sem] takeA roA

theorem plusG_FS (v a b : Nat) (ha : a < 18446744073709551616) (hb : b < 18446744073709551616) (hv : v + a * b < 340282366920938463463374607431768211456) :
    FS Try.prog 76 [.agg [.v (.int .u64 ((v / 18446744073709551616 : Nat) : Int)), .v (.int .u64 ((v % 18446744073709551616 : Nat) : Int))], .v (.int .u64 (a : Int)), .v (.int .u64 (b : Int))]
      (.ret [.agg [.v (.int .u64 (((v + a * b) / 18446744073709551616 : Nat) : Int)), .v (.int .u64 (((v + a * b) % 18446744073709551616 : Nat) : Int))]] [none, none, none]) := plus_FS v a b ha hb hv
theorem plus0_FS (a b : Nat) (ha : a < 18446744073709551616) (hb : b < 18446744073709551616) :
    FS Try.prog 76 [.agg [.v (.int .u64 0), .v (.int .u64 0)], .v (.int .u64 (a : Int)), .v (.int .u64 (b : Int))]
      (.ret [.agg [.v (.int .u64 ((a * b / 18446744073709551616 : Nat) : Int)), .v (.int .u64 ((a * b % 18446744073709551616 : Nat) : Int))]] [none, none, none]) := by
  have h := plus_FS 0 a b ha hb (by have := Nat.mul_lt_mul'' ha hb; omega)
  rw [Nat.zero_add] at h
  exact h
theorem overG_FS (v : Nat) (hv : v < 2 ^ 115) : FS Try.prog 78 [.agg [.v (.int .u64 ((v / 18446744073709551616 : Nat) : Int)), .v (.int .u64 ((v % 18446744073709551616 : Nat) : Int))]] (.ret [.v (.int .u64 ((v / 2251799813685248 : Nat) : Int))] [none]) := over_FS v hv
theorem and51m (n : Nat) : iand .u64 ((n % 18446744073709551616 : Nat) : Int) 2251799813685247 = ((n % 2251799813685248 : Nat) : Int) := by
  rw [and51 _ (by omega)]
  have : n % 18446744073709551616 % 2251799813685248 = n % 2251799813685248 := by omega
  rw [this]

theorem mul19_lt {a b : Nat} (ha : a < 4503599627370496) (hb : b < 4503599627370496) : a * (19 * b) < 19 * 20282409603651670423947251286016 := by
  rw [Nat.mul_left_comm]
  have := mul_lt' ha hb
  omega
theorem mul_FSr (a b : N5) (ha : a.ok) (hb : b.ok) : FS Try.prog 62 [numT a, numT b] (.ret [numT (a.mul b)] [none, none]) := by
  refine FS_of_SW (kb := [false, false]) Try.func62 rfl rfl (by rfl) ?_
  obtain ⟨m0, m1, m2, m3, m4⟩ := mul_bounds ha hb
  obtain ⟨c0, c1, c2, c3, c4⟩ := carried_lt m0 m1 m2 m3 m4
  obtain ⟨a0, a1, a2, a3, a4⟩ := a
  obtain ⟨b0, b1, b2, b3, b4⟩ := b
  obtain ⟨h0, h1, h2, h3, h4⟩ := ha
  obtain ⟨g0, g1, g2, g3, g4⟩ := hb
  simp only [carried] at c0 c1 c2 c3 c4
  simp only [numT, N5.mul, carried]
  obtain ⟨R, hR⟩ : ∃ x, mulR ⟨a0, a1, a2, a3, a4⟩ ⟨b0, b1, b2, b3, b4⟩ = x := ⟨_, rfl⟩
  obtain ⟨S, hS⟩ : ∃ x, mulS ⟨a0, a1, a2, a3, a4⟩ ⟨b0, b1, b2, b3, b4⟩ = x := ⟨_, rfl⟩
  obtain ⟨T, hT⟩ : ∃ x, mulT ⟨a0, a1, a2, a3, a4⟩ ⟨b0, b1, b2, b3, b4⟩ = x := ⟨_, rfl⟩
  obtain ⟨U, hU⟩ : ∃ x, mulU ⟨a0, a1, a2, a3, a4⟩ ⟨b0, b1, b2, b3, b4⟩ = x := ⟨_, rfl⟩
  obtain ⟨V, hV⟩ : ∃ x, mulV ⟨a0, a1, a2, a3, a4⟩ ⟨b0, b1, b2, b3, b4⟩ = x := ⟨_, rfl⟩
  simp only [hR, hS, hT, hU, hV] at m0 m1 m2 m3 m4 c0 c1 c2 c3 c4 ⊢
  dsimp only at h0 h1 h2 h3 h4 g0 g1 g2 g3 g4
  have q00 := mul_lt' h0 g0
  have q01 := mul_lt' h0 g1
  have q02 := mul_lt' h0 g2
  have q03 := mul_lt' h0 g3
  have q04 := mul_lt' h0 g4
  have q10 := mul_lt' h1 g0
  have q11 := mul_lt' h1 g1
  have q12 := mul_lt' h1 g2
  have q13 := mul_lt' h1 g3
  have q14 := mul19_lt h1 g4
  have q20 := mul_lt' h2 g0
  have q21 := mul_lt' h2 g1
  have q22 := mul_lt' h2 g2
  have q23 := mul19_lt h2 g3
  have q24 := mul19_lt h2 g4
  have q30 := mul_lt' h3 g0
  have q31 := mul_lt' h3 g1
  have q32 := mul19_lt h3 g2
  have q33 := mul19_lt h3 g3
  have q34 := mul19_lt h3 g4
  have q40 := mul_lt' h4 g0
  have q41 := mul19_lt h4 g1
  have q42 := mul19_lt h4 g2
  have q43 := mul19_lt h4 g3
  have q44 := mul19_lt h4 g4
  have w1 := mulW b1 0 g1
  have w2 := mulW b2 0 g2
  have w3 := mulW b3 0 g3
  have w4 := mulW b4 0 g4
  simp only [mulR, mulS, mulT, mulU, mulV] at hR hS hT hU hV
  have e0 : IntKind.u64.wrap (((R % 2251799813685248 : Nat) : Int) + IntKind.u64.wrap (19 * ((V / 2251799813685248 : Nat) : Int))) = ((R % 2251799813685248 + 19 * (V / 2251799813685248) : Nat) : Int) := by simp only [uwrap]; omega
  have e1 := mask_add S (R / 2251799813685248) (by omega)
  have e2 := mask_add T (S / 2251799813685248) (by omega)
  have e3 := mask_add U (T / 2251799813685248) (by omega)
  have e4 := mask_add V (U / 2251799813685248) (by omega)
  have hc := carried_FS (R % 2251799813685248 + 19 * (V / 2251799813685248)) (S % 2251799813685248 + R / 2251799813685248) (T % 2251799813685248 + S / 2251799813685248) (U % 2251799813685248 + T / 2251799813685248) (V % 2251799813685248 + U / 2251799813685248) (by omega) (by omega) (by omega) (by omega) (by omega)
  simp only [uT, numT, carried] at hc
  refine SW.weak (Weak.of [] (sls := [(0, .agg [.arr 5 [.v (.int .u64 (a0 : Int)), .v (.int .u64 (a1 : Int)), .v (.int .u64 (a2 : Int)), .v (.int .u64 (a3 : Int)), .v (.int .u64 (a4 : Int))]]), (1, .agg [.arr 5 [.v (.int .u64 (b0 : Int)), .v (.int .u64 (b1 : Int)), .v (.int .u64 (b2 : Int)), .v (.int .u64 (b3 : Int)), .v (.int .u64 (b4 : Int))]])]) (bks := []) (ep := 64) (by rfl) (by repeat' (first | exact rfl | exact trivial | refine And.intro ?_ ?_)) trivial) ?_
  repeat' (first
    | apply_assumption -exfalso -symm (transparency := .reducible) only [*]
    | (with_reducible refine callEnd_of (plus0_FS _ _ (by omega) (by omega)) ?_ <;> (try simp -implicitDefEqProofs only [go_sem, Int.reduceToNat, w1, w2, w3, w4, and51m, hR, hS, hT, hU, hV, e0, e1, e2, e3, e4]))
    | (with_reducible refine callEnd_of (plusG_FS _ _ _ (by omega) (by omega) (by omega)) ?_ <;> (try simp -implicitDefEqProofs only [go_sem, Int.reduceToNat, w1, w2, w3, w4, and51m, hR, hS, hT, hU, hV, e0, e1, e2, e3, e4]))
    | (with_reducible refine callEnd_of (overG_FS _ (by omega)) ?_ <;> (try simp -implicitDefEqProofs only [go_sem, Int.reduceToNat, w1, w2, w3, w4, and51m, hR, hS, hT, hU, hV, e0, e1, e2, e3, e4]))
    | (with_reducible refine callEnd_of hc ?_ <;> (try simp -implicitDefEqProofs only [go_sem, Int.reduceToNat, w1, w2, w3, w4, and51m, hR, hS, hT, hU, hV, e0, e1, e2, e3, e4]))
    | (with_reducible refine And.intro ?_ ?_)
    | (refine drawIt ?_; kernel_rfl)
    | ((with_reducible refine opsF_id ?_); simp -implicitDefEqProofs only [go_sem, Int.reduceToNat, w1, w2, w3, w4, and51m, hR, hS, hT, hU, hV, e0, e1, e2, e3, e4])
    | ((with_reducible refine SW.id ?_); first | with_reducible refine SW.seqK fun K hK => ?_ | with_reducible refine SW.block ?_ | with_reducible refine SW.scope ?_ | ((first | with_reducible refine SW.skip ?_ | with_reducible refine SW.exit ?_ | with_reducible refine SW.label ?_ | with_reducible refine SW.ret ?_ | with_reducible refine SW.go MR ?_ | refine SW.goDrawF MR (by rfl) (by kernel_rfl) ?_); simp -implicitDefEqProofs only [go_sem, Int.reduceToNat, w1, w2, w3, w4, and51m, hR, hS, hT, hU, hV, e0, e1, e2, e3, e4]) | (refine SW.cond (by simp -implicitDefEqProofs only [go_sem, Int.reduceToNat, w1, w2, w3, w4, and51m, hR, hS, hT, hU, hV, e0, e1, e2, e3, e4]; rfl) (fun ht => ?_) (fun ht => ?_) <;> (try with_reducible contradiction))))
  all_goals first | omega | skip
  all_goals trace_state
end Go.PA
