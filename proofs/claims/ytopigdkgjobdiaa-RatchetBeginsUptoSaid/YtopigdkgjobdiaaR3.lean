/- Numbers of the field: sums, differences, products. -/
import Derived.Test.YtopigdkgjobdiaaR2
namespace Go.PA
open Go.Proofs Go.Fe
set_option linter.unusedSimpArgs false
set_option linter.unusedVariables false
set_option maxRecDepth 100000
set_option maxHeartbeats 4000000
attribute [local go_sem] MR getP setP takesW
attribute [-go_sem] takeA roA

theorem add_FSr (a b : N5) (ha : a.ok) (hb : b.ok) : FS Try.prog 72 [numT a, numT b] (.ret [numT (a.add b)] [none, none]) := by
  refine FS_of_SW (kb := [false, false]) Try.func72 rfl rfl (by rfl) ?_
  obtain ⟨a0, a1, a2, a3, a4⟩ := a
  obtain ⟨b0, b1, b2, b3, b4⟩ := b
  obtain ⟨h0, h1, h2, h3, h4⟩ := ha
  obtain ⟨g0, g1, g2, g3, g4⟩ := hb
  dsimp only at *
  have hc := carried_FS (a0 + b0) (a1 + b1) (a2 + b2) (a3 + b3) (a4 + b4) (by omega) (by omega) (by omega) (by omega) (by omega)
  have w (x y : Nat) (hx : x < 4503599627370496) (hy : y < 4503599627370496) : IntKind.u64.wrap ((x : Int) + (y : Int)) = ((x + y : Nat) : Int) := by simp only [uwrap]; omega
  have w0 := w _ _ h0 g0
  have w1 := w _ _ h1 g1
  have w2 := w _ _ h2 g2
  have w3 := w _ _ h3 g3
  have w4 := w _ _ h4 g4
  clear w
  simp only [uT, numT, N5.add] at hc ⊢
  refine SW.weak (Weak.of [] (sls := [(0, .agg [.arr 5 [.v (.int .u64 (a0 : Int)), .v (.int .u64 (a1 : Int)), .v (.int .u64 (a2 : Int)), .v (.int .u64 (a3 : Int)), .v (.int .u64 (a4 : Int))]]), (1, .agg [.arr 5 [.v (.int .u64 (b0 : Int)), .v (.int .u64 (b1 : Int)), .v (.int .u64 (b2 : Int)), .v (.int .u64 (b3 : Int)), .v (.int .u64 (b4 : Int))]])]) (bks := []) (ep := 64) (by rfl) (by repeat' (first | exact rfl | exact trivial | refine And.intro ?_ ?_)) trivial) ?_
  repeat' (first
    | apply_assumption -exfalso -symm (transparency := .reducible) only [*]
    | (refine callEnd_of hc ?_ <;> (try simp -implicitDefEqProofs only [go_sem, w0, w1, w2, w3, w4, Int.reduceToNat]))
    | (with_reducible refine And.intro ?_ ?_)
    | (refine drawIt ?_; kernel_rfl)
    | ((with_reducible refine opsF_id ?_); simp -implicitDefEqProofs only [go_sem, w0, w1, w2, w3, w4, Int.reduceToNat])
    | ((with_reducible refine SW.id ?_); first | with_reducible refine SW.seqK fun K hK => ?_ | with_reducible refine SW.block ?_ | with_reducible refine SW.scope ?_ | ((first | with_reducible refine SW.skip ?_ | with_reducible refine SW.exit ?_ | with_reducible refine SW.label ?_ | with_reducible refine SW.ret ?_ | with_reducible refine SW.go MR ?_ | refine SW.goDrawF MR (by rfl) (by kernel_rfl) ?_); simp -implicitDefEqProofs only [go_sem, w0, w1, w2, w3, w4, Int.reduceToNat]) | (refine SW.cond (by simp -implicitDefEqProofs only [go_sem, w0, w1, w2, w3, w4, Int.reduceToNat]; rfl) (fun ht => ?_) (fun ht => ?_) <;> (try with_reducible contradiction))))
  all_goals first | omega | skip

theorem sub_FSr (a b : N5) (ha : a.ok) (hb : b.ok) : FS Try.prog 73 [numT a, numT b] (.ret [numT (a.sub b)] [none, none]) := by
  refine FS_of_SW (kb := [false, false]) Try.func73 rfl rfl (by rfl) ?_
  obtain ⟨a0, a1, a2, a3, a4⟩ := a
  obtain ⟨b0, b1, b2, b3, b4⟩ := b
  obtain ⟨h0, h1, h2, h3, h4⟩ := ha
  obtain ⟨g0, g1, g2, g3, g4⟩ := hb
  dsimp only at *
  have hc := carried_FS (a0 + 9007199254740916 - b0) (a1 + 9007199254740988 - b1) (a2 + 9007199254740988 - b2) (a3 + 9007199254740988 - b3) (a4 + 9007199254740988 - b4) (by omega) (by omega) (by omega) (by omega) (by omega)
  have w (x y : Nat) (hx : x < 4503599627370496) (hy : y < 4503599627370496) : IntKind.u64.wrap (IntKind.u64.wrap ((x : Int) + 9007199254740988) - (y : Int)) = ((x + 9007199254740988 - y : Nat) : Int) := by simp only [uwrap]; omega
  have w0 : IntKind.u64.wrap (IntKind.u64.wrap ((a0 : Int) + 9007199254740916) - (b0 : Int)) = ((a0 + 9007199254740916 - b0 : Nat) : Int) := by simp only [uwrap]; omega
  have w1 := w _ _ h1 g1
  have w2 := w _ _ h2 g2
  have w3 := w _ _ h3 g3
  have w4 := w _ _ h4 g4
  clear w
  simp only [uT, numT, N5.sub] at hc ⊢
  refine SW.weak (Weak.of [] (sls := [(0, .agg [.arr 5 [.v (.int .u64 (a0 : Int)), .v (.int .u64 (a1 : Int)), .v (.int .u64 (a2 : Int)), .v (.int .u64 (a3 : Int)), .v (.int .u64 (a4 : Int))]]), (1, .agg [.arr 5 [.v (.int .u64 (b0 : Int)), .v (.int .u64 (b1 : Int)), .v (.int .u64 (b2 : Int)), .v (.int .u64 (b3 : Int)), .v (.int .u64 (b4 : Int))]])]) (bks := []) (ep := 64) (by rfl) (by repeat' (first | exact rfl | exact trivial | refine And.intro ?_ ?_)) trivial) ?_
  repeat' (first
    | apply_assumption -exfalso -symm (transparency := .reducible) only [*]
    | (refine callEnd_of hc ?_ <;> (try simp -implicitDefEqProofs only [go_sem, w0, w1, w2, w3, w4, Int.reduceToNat]))
    | (with_reducible refine And.intro ?_ ?_)
    | (refine drawIt ?_; kernel_rfl)
    | ((with_reducible refine opsF_id ?_); simp -implicitDefEqProofs only [go_sem, w0, w1, w2, w3, w4, Int.reduceToNat])
    | ((with_reducible refine SW.id ?_); first | with_reducible refine SW.seqK fun K hK => ?_ | with_reducible refine SW.block ?_ | with_reducible refine SW.scope ?_ | ((first | with_reducible refine SW.skip ?_ | with_reducible refine SW.exit ?_ | with_reducible refine SW.label ?_ | with_reducible refine SW.ret ?_ | with_reducible refine SW.go MR ?_ | refine SW.goDrawF MR (by rfl) (by kernel_rfl) ?_); simp -implicitDefEqProofs only [go_sem, w0, w1, w2, w3, w4, Int.reduceToNat]) | (refine SW.cond (by simp -implicitDefEqProofs only [go_sem, w0, w1, w2, w3, w4, Int.reduceToNat]; rfl) (fun ht => ?_) (fun ht => ?_) <;> (try with_reducible contradiction))))
  all_goals first | omega | skip

theorem settled_FS (a : N5) (h0 : a.w0 < 18446744073709551616) (h1 : a.w1 < 18446744073709551616) (h2 : a.w2 < 18446744073709551616) (h3 : a.w3 < 18446744073709551616) (h4 : a.w4 < 18446744073709551616) :
    FS Try.prog 70 [.arr 5 [.v (.int .u64 (a.w0 : Int)), .v (.int .u64 (a.w1 : Int)), .v (.int .u64 (a.w2 : Int)), .v (.int .u64 (a.w3 : Int)), .v (.int .u64 (a.w4 : Int))]] (.ret [numT (carried a.w0 a.w1 a.w2 a.w3 a.w4)] [none]) := by
  refine FS_of_SW (kb := [false]) Try.func70 rfl rfl (by rfl) ?_
  obtain ⟨a0, a1, a2, a3, a4⟩ := a
  dsimp only at *
  have hc := carried_FS a0 a1 a2 a3 a4 h0 h1 h2 h3 h4
  simp only [uT, numT] at hc ⊢
  refine SW.weak (Weak.of [] (sls := [(0, .arr 5 [.v (.int .u64 (a0 : Int)), .v (.int .u64 (a1 : Int)), .v (.int .u64 (a2 : Int)), .v (.int .u64 (a3 : Int)), .v (.int .u64 (a4 : Int))])]) (bks := []) (ep := 64) (by rfl) (by repeat' (first | exact rfl | exact trivial | refine And.intro ?_ ?_)) trivial) ?_
  repeat' (first
    | apply_assumption -exfalso -symm (transparency := .reducible) only [*]
    | (refine callEnd_of hc ?_ <;> (try simp -implicitDefEqProofs only [go_sem, Int.reduceToNat]))
    | (with_reducible refine And.intro ?_ ?_)
    | (refine drawIt ?_; kernel_rfl)
    | ((with_reducible refine opsF_id ?_); simp -implicitDefEqProofs only [go_sem, Int.reduceToNat])
    | ((with_reducible refine SW.id ?_); first | with_reducible refine SW.seqK fun K hK => ?_ | with_reducible refine SW.block ?_ | with_reducible refine SW.scope ?_ | ((first | with_reducible refine SW.skip ?_ | with_reducible refine SW.exit ?_ | with_reducible refine SW.label ?_ | with_reducible refine SW.ret ?_ | with_reducible refine SW.go MR ?_ | refine SW.goDrawF MR (by rfl) (by kernel_rfl) ?_); simp -implicitDefEqProofs only [go_sem, Int.reduceToNat]) | (refine SW.cond (by simp -implicitDefEqProofs only [go_sem, Int.reduceToNat]; rfl) (fun ht => ?_) (fun ht => ?_) <;> (try with_reducible contradiction))))
  all_goals first | omega | skip

theorem small_FSr (n : Nat) (hn : n < 18446744073709551616) : FS Try.prog 59 [uT n] (.ret [numT (N5.small n)] [none]) := by
  refine FS_of_SW (kb := [false]) Try.func59 rfl rfl (by rfl) ?_
  have h1 := and51 n hn
  simp only [uT, numT, N5.small]
  refine SW.weak (Weak.of [] (sls := [(0, .v (.int .u64 (n : Int)))]) (bks := []) (ep := 64) (by rfl) (by repeat' (first | exact rfl | exact trivial | refine And.intro ?_ ?_)) trivial) ?_
  repeat' (first
    | apply_assumption -exfalso -symm (transparency := .reducible) only [*]
    | (with_reducible refine And.intro ?_ ?_)
    | (refine drawIt ?_; kernel_rfl)
    | ((with_reducible refine opsF_id ?_); simp -implicitDefEqProofs only [go_sem, h1, shr51])
    | ((with_reducible refine SW.id ?_); first | with_reducible refine SW.seqK fun K hK => ?_ | with_reducible refine SW.block ?_ | with_reducible refine SW.scope ?_ | ((first | with_reducible refine SW.skip ?_ | with_reducible refine SW.exit ?_ | with_reducible refine SW.label ?_ | with_reducible refine SW.ret ?_ | with_reducible refine SW.go MR ?_ | refine SW.goDrawF MR (by rfl) (by kernel_rfl) ?_); simp -implicitDefEqProofs only [go_sem, h1, shr51]) | (refine SW.cond (by simp -implicitDefEqProofs only [go_sem, h1, shr51]; rfl) (fun ht => ?_) (fun ht => ?_) <;> (try with_reducible contradiction))))
  all_goals first | omega | rfl | skip

theorem swap_FSr (a b : N5) (on : Bool) : FS Try.prog 71 [numT a, numT b, .v (.bool on)] (.ret [numT (if on then b else a), numT (if on then a else b)] [none, none, none]) := by
  refine FS_of_SW (kb := [false, false, false]) Try.func71 rfl rfl (by rfl) ?_
  obtain ⟨a0, a1, a2, a3, a4⟩ := a
  obtain ⟨b0, b1, b2, b3, b4⟩ := b
  cases on
  · simp only [numT, Bool.false_eq_true, if_false]
    refine SW.weak (Weak.of [] (sls := [(0, .agg [.arr 5 [.v (.int .u64 (a0 : Int)), .v (.int .u64 (a1 : Int)), .v (.int .u64 (a2 : Int)), .v (.int .u64 (a3 : Int)), .v (.int .u64 (a4 : Int))]]), (1, .agg [.arr 5 [.v (.int .u64 (b0 : Int)), .v (.int .u64 (b1 : Int)), .v (.int .u64 (b2 : Int)), .v (.int .u64 (b3 : Int)), .v (.int .u64 (b4 : Int))]]), (2, .v (.bool false))]) (bks := []) (ep := 64) (by rfl) (by repeat' (first | exact rfl | exact trivial | refine And.intro ?_ ?_)) trivial) ?_
    repeat' (first
      | apply_assumption -exfalso -symm (transparency := .reducible) only [*]
      | (with_reducible refine And.intro ?_ ?_)
      | (refine drawIt ?_; kernel_rfl)
      | ((with_reducible refine opsF_id ?_); simp -implicitDefEqProofs only [go_sem])
      | ((with_reducible refine SW.id ?_); first | with_reducible refine SW.seqK fun K hK => ?_ | with_reducible refine SW.block ?_ | with_reducible refine SW.scope ?_ | ((first | with_reducible refine SW.skip ?_ | with_reducible refine SW.exit ?_ | with_reducible refine SW.label ?_ | with_reducible refine SW.ret ?_ | with_reducible refine SW.go MR ?_ | refine SW.goDrawF MR (by rfl) (by kernel_rfl) ?_); simp -implicitDefEqProofs only [go_sem]) | (refine SW.cond (by simp -implicitDefEqProofs only [go_sem]; rfl) (fun ht => ?_) (fun ht => ?_) <;> (try with_reducible contradiction))))
    all_goals first | omega | skip
  · simp only [numT, if_true]
    refine SW.weak (Weak.of [] (sls := [(0, .agg [.arr 5 [.v (.int .u64 (a0 : Int)), .v (.int .u64 (a1 : Int)), .v (.int .u64 (a2 : Int)), .v (.int .u64 (a3 : Int)), .v (.int .u64 (a4 : Int))]]), (1, .agg [.arr 5 [.v (.int .u64 (b0 : Int)), .v (.int .u64 (b1 : Int)), .v (.int .u64 (b2 : Int)), .v (.int .u64 (b3 : Int)), .v (.int .u64 (b4 : Int))]]), (2, .v (.bool true))]) (bks := []) (ep := 64) (by rfl) (by repeat' (first | exact rfl | exact trivial | refine And.intro ?_ ?_)) trivial) ?_
    repeat' (first
      | apply_assumption -exfalso -symm (transparency := .reducible) only [*]
      | (with_reducible refine And.intro ?_ ?_)
      | (refine drawIt ?_; kernel_rfl)
      | ((with_reducible refine opsF_id ?_); simp -implicitDefEqProofs only [go_sem])
      | ((with_reducible refine SW.id ?_); first | with_reducible refine SW.seqK fun K hK => ?_ | with_reducible refine SW.block ?_ | with_reducible refine SW.scope ?_ | ((first | with_reducible refine SW.skip ?_ | with_reducible refine SW.exit ?_ | with_reducible refine SW.label ?_ | with_reducible refine SW.ret ?_ | with_reducible refine SW.go MR ?_ | refine SW.goDrawF MR (by rfl) (by kernel_rfl) ?_); simp -implicitDefEqProofs only [go_sem]) | (refine SW.cond (by simp -implicitDefEqProofs only [go_sem]; rfl) (fun ht => ?_) (fun ht => ?_) <;> (try with_reducible contradiction))))
    all_goals first | omega | skip

theorem mulW (x : Nat) (y : Nat) (hx : x < 4503599627370496) : IntKind.u64.wrap (19 * (x : Int)) = ((19 * x : Nat) : Int) := by simp only [uwrap]; omega
theorem mask_add (l o : Nat) (ho : o < 2 ^ 62) : IntKind.u64.wrap (((l % 2251799813685248 : Nat) : Int) + ((o : Nat) : Int)) = ((l % 2251799813685248 + o : Nat) : Int) := by simp only [uwrap]; omega

theorem times_FSr (a : N5) (n : Nat) (ha : a.ok) (hn : n < 4294967296) : FS Try.prog 75 [numT a, .v (.int .u32 (n : Int))] (.ret [numT (a.times n)] [none, none]) := by
  refine FS_of_SW (kb := [false, false]) Try.func75 rfl rfl (by rfl) ?_
  obtain ⟨b0, b1, b2, b3, b4⟩ := times_bounds ha (n := n) (by omega)
  obtain ⟨c0, c1, c2, c3, c4⟩ := carried_lt (a := a.w0 * n) (b := a.w1 * n) (c := a.w2 * n) (d := a.w3 * n) (e := a.w4 * n) (by omega) (by omega) (by omega) (by omega) (by omega)
  obtain ⟨a0, a1, a2, a3, a4⟩ := a
  obtain ⟨h0, h1, h2, h3, h4⟩ := ha
  simp only [carried] at c0 c1 c2 c3 c4
  dsimp only at *
  have hn2 : IntKind.u64.wrap (n : Int) = (n : Int) := by simp only [uwrap]; omega
  have p0 := plus_FS 0 a0 n (by omega) (by omega) (by omega)
  have p1 := plus_FS 0 a1 n (by omega) (by omega) (by omega)
  have p2 := plus_FS 0 a2 n (by omega) (by omega) (by omega)
  have p3 := plus_FS 0 a3 n (by omega) (by omega) (by omega)
  have p4 := plus_FS 0 a4 n (by omega) (by omega) (by omega)
  simp only [Nat.zero_add] at p0 p1 p2 p3 p4
  simp only [uT, numT, N5.times, carried]
  generalize a0 * n = q0 at *
  generalize a1 * n = q1 at *
  generalize a2 * n = q2 at *
  generalize a3 * n = q3 at *
  generalize a4 * n = q4 at *
  have o0 := over_FS q0 (by omega)
  have o1 := over_FS q1 (by omega)
  have o2 := over_FS q2 (by omega)
  have o3 := over_FS q3 (by omega)
  have o4 := over_FS q4 (by omega)
  have a0' := and51 (q0 % 18446744073709551616) (by omega)
  have a1' := and51 (q1 % 18446744073709551616) (by omega)
  have a2' := and51 (q2 % 18446744073709551616) (by omega)
  have a3' := and51 (q3 % 18446744073709551616) (by omega)
  have a4' := and51 (q4 % 18446744073709551616) (by omega)
  have mm (q : Nat) : q % 18446744073709551616 % 2251799813685248 = q % 2251799813685248 := by omega
  simp only [mm] at a0' a1' a2' a3' a4'
  have e0 : IntKind.u64.wrap (((q0 % 2251799813685248 : Nat) : Int) + IntKind.u64.wrap (19 * ((q4 / 2251799813685248 : Nat) : Int))) = ((q0 % 2251799813685248 + 19 * (q4 / 2251799813685248) : Nat) : Int) := by simp only [uwrap]; omega
  have e1 := mask_add q1 (q0 / 2251799813685248) (by omega)
  have e2 := mask_add q2 (q1 / 2251799813685248) (by omega)
  have e3 := mask_add q3 (q2 / 2251799813685248) (by omega)
  have e4 := mask_add q4 (q3 / 2251799813685248) (by omega)
  have hc := carried_FS (q0 % 2251799813685248 + 19 * (q4 / 2251799813685248)) (q1 % 2251799813685248 + q0 / 2251799813685248) (q2 % 2251799813685248 + q1 / 2251799813685248) (q3 % 2251799813685248 + q2 / 2251799813685248) (q4 % 2251799813685248 + q3 / 2251799813685248) (by omega) (by omega) (by omega) (by omega) (by omega)
  simp only [uT, numT, wT, carried, Nat.zero_div, Nat.zero_mod] at hc p0 p1 p2 p3 p4 o0 o1 o2 o3 o4 ⊢
  refine SW.weak (Weak.of [] (sls := [(0, .agg [.arr 5 [.v (.int .u64 (a0 : Int)), .v (.int .u64 (a1 : Int)), .v (.int .u64 (a2 : Int)), .v (.int .u64 (a3 : Int)), .v (.int .u64 (a4 : Int))]]), (1, .v (.int .u32 (n : Int)))]) (bks := []) (ep := 64) (by rfl) (by repeat' (first | exact rfl | exact trivial | refine And.intro ?_ ?_)) trivial) ?_
  repeat' (first
    | apply_assumption -exfalso -symm (transparency := .reducible) only [*]
    | (refine callEnd_of p0 ?_ <;> (try simp -implicitDefEqProofs only [go_sem, Int.reduceToNat, hn2, a0', a1', a2', a3', a4', e0, e1, e2, e3, e4]))
    | (refine callEnd_of p1 ?_ <;> (try simp -implicitDefEqProofs only [go_sem, Int.reduceToNat, hn2, a0', a1', a2', a3', a4', e0, e1, e2, e3, e4]))
    | (refine callEnd_of p2 ?_ <;> (try simp -implicitDefEqProofs only [go_sem, Int.reduceToNat, hn2, a0', a1', a2', a3', a4', e0, e1, e2, e3, e4]))
    | (refine callEnd_of p3 ?_ <;> (try simp -implicitDefEqProofs only [go_sem, Int.reduceToNat, hn2, a0', a1', a2', a3', a4', e0, e1, e2, e3, e4]))
    | (refine callEnd_of p4 ?_ <;> (try simp -implicitDefEqProofs only [go_sem, Int.reduceToNat, hn2, a0', a1', a2', a3', a4', e0, e1, e2, e3, e4]))
    | (refine callEnd_of o0 ?_ <;> (try simp -implicitDefEqProofs only [go_sem, Int.reduceToNat, hn2, a0', a1', a2', a3', a4', e0, e1, e2, e3, e4]))
    | (refine callEnd_of o1 ?_ <;> (try simp -implicitDefEqProofs only [go_sem, Int.reduceToNat, hn2, a0', a1', a2', a3', a4', e0, e1, e2, e3, e4]))
    | (refine callEnd_of o2 ?_ <;> (try simp -implicitDefEqProofs only [go_sem, Int.reduceToNat, hn2, a0', a1', a2', a3', a4', e0, e1, e2, e3, e4]))
    | (refine callEnd_of o3 ?_ <;> (try simp -implicitDefEqProofs only [go_sem, Int.reduceToNat, hn2, a0', a1', a2', a3', a4', e0, e1, e2, e3, e4]))
    | (refine callEnd_of o4 ?_ <;> (try simp -implicitDefEqProofs only [go_sem, Int.reduceToNat, hn2, a0', a1', a2', a3', a4', e0, e1, e2, e3, e4]))
    | (refine callEnd_of hc ?_ <;> (try simp -implicitDefEqProofs only [go_sem, Int.reduceToNat, hn2, a0', a1', a2', a3', a4', e0, e1, e2, e3, e4]))
    | (with_reducible refine And.intro ?_ ?_)
    | (refine drawIt ?_; kernel_rfl)
    | ((with_reducible refine opsF_id ?_); simp -implicitDefEqProofs only [go_sem, Int.reduceToNat, hn2, a0', a1', a2', a3', a4', e0, e1, e2, e3, e4])
    | ((with_reducible refine SW.id ?_); first | with_reducible refine SW.seqK fun K hK => ?_ | with_reducible refine SW.block ?_ | with_reducible refine SW.scope ?_ | ((first | with_reducible refine SW.skip ?_ | with_reducible refine SW.exit ?_ | with_reducible refine SW.label ?_ | with_reducible refine SW.ret ?_ | with_reducible refine SW.go MR ?_ | refine SW.goDrawF MR (by rfl) (by kernel_rfl) ?_); simp -implicitDefEqProofs only [go_sem, Int.reduceToNat, hn2, a0', a1', a2', a3', a4', e0, e1, e2, e3, e4]) | (refine SW.cond (by simp -implicitDefEqProofs only [go_sem, Int.reduceToNat, hn2, a0', a1', a2', a3', a4', e0, e1, e2, e3, e4]; rfl) (fun ht => ?_) (fun ht => ?_) <;> (try with_reducible contradiction))))
  all_goals first | omega | skip
  all_goals trace_state
end Go.PA
