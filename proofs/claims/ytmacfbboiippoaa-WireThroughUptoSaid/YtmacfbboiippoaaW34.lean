/- WireThrough: the fields, one at a time, while the caller's bytes change. -/
import Derived.Test.YtmacfbboiippoaaW26
import Derived.Test.YtmacfbboiippoaaPAh
import Derived.Test.YtmacfbboiippoaaPAe
namespace Go.PA
open Go.Proofs
set_option linter.unusedSimpArgs false
set_option linter.unusedVariables false
set_option maxRecDepth 100000
set_option maxHeartbeats 4000000
attribute [local go_sem] MM getP setP takesW
attribute [-go_sem] takeA roA

def xorN (m k : Nat) : Nat := (ixor .u8 (k : Int) (m : Int)).toNat
theorem xorN_ok (m k : Nat) : ixor .u8 (k : Int) (m : Int) = ((xorN m k : Nat) : Int) := by
  have h : 0 ≤ ixor .u8 (k : Int) (m : Int) ∧ ixor .u8 (k : Int) (m : Int) < 256 := by
    simp only [ixor, IntKind.wrap, IntKind.signed, IntKind.bits]
    simp
    omega
  simp only [xorN]
  omega
theorem xorN_lt (m k : Nat) : xorN m k < 256 := by
  have h := xorN_ok m k
  have h2 : ixor .u8 (k : Int) (m : Int) < 256 := by
    simp only [ixor, IntKind.wrap, IntKind.signed, IntKind.bits]
    simp
    omega
  omega
def mixP (f : Nat → Nat) (b : List Nat) (i : Nat) : List Nat := (b.take i).map f ++ b.drop i
theorem mixP_len (f : Nat → Nat) (b : List Nat) (i : Nat) : (mixP f b i).length = b.length := by simp [mixP]; omega
theorem mixP_get (f : Nat → Nat) (b : List Nat) {i : Nat} (h : i < b.length) : (mixP f b i).getD i 0 = b.getD i 0 := by
  simp [mixP, List.getD_eq_getElem?_getD, List.getElem?_append_right, List.length_take, Nat.min_eq_left (Nat.le_of_lt h)]
theorem mixP_set (f : Nat → Nat) (b : List Nat) {i : Nat} (h : i < b.length) : (mixP f b i).set i (f (b.getD i 0)) = mixP f b (i + 1) := by
  have hl : ((b.take i).map f).length = i := by simp; omega
  have h1 : b.drop i = b.getD i 0 :: b.drop (i + 1) := by
    rw [List.drop_eq_getElem_cons h]
    simp [List.getD_eq_getElem?_getD, h]
  simp only [mixP]
  rw [h1, List.set_append_right _ _ (by omega), hl, Nat.sub_self, List.set_cons_zero, List.take_add_one, List.map_append, List.append_assoc]
  simp [List.getD_eq_getElem?_getD, h]
theorem mixP_next (f : Nat → Nat) (b : List Nat) {i : Nat} (h : i < b.length) : (mixP f b (i + 1)).getD i 0 = f (b.getD i 0) := by
  rw [← mixP_set f b h]
  simp [List.getD_eq_getElem?_getD, mixP_len, h]
theorem mixP_all (f : Nat → Nat) (b : List Nat) : mixP f b b.length = b.map f := by simp [mixP]

theorem through_FS (b : List Nat) (st : Int) (m : Nat) (hb : b.length < 2 ^ 30) (h8 : ∀ x ∈ b, x < 256) (hs1 : -9223372036854775808 ≤ st) (hs2 : st ≤ 9223372036854775807) (hm : m < 256) :
    FS Try.prog 10 [.sl true (bA b), .v (.int .i64 st), .v (.int .u8 m)] (.ret [.v (.bool true)] [none, none, none]) := by
  refine FS_of_SW (kb := [false, false, false]) Try.func10 rfl rfl (by rfl) ?_
  refine SW.weak (Weak.of [] (sls := [(0, .sl true (bA b)), (1, .v (.int .i64 st)), (2, .v (.int .u8 m))]) (bks := []) (ep := 64) (by rfl) ⟨rfl, rfl, rfl, trivial⟩ trivial) ?_
  repeat' (first
    | apply_assumption -exfalso -symm (transparency := .reducible) only [*]
    | with_reducible refine SW.stopR 1 ?_
    | (with_reducible refine And.intro ?_ ?_)
    | (refine drawOf ?_; kernel_rfl)
    | ((with_reducible refine opsF_id ?_); simp -implicitDefEqProofs only [go_sem])
    | ((with_reducible refine SW.id ?_); first | with_reducible refine SW.seqK fun K hK => ?_ | with_reducible refine SW.block ?_ | with_reducible refine SW.scope ?_ | ((first | with_reducible refine SW.skip ?_ | with_reducible refine SW.exit ?_ | with_reducible refine SW.label ?_ | with_reducible refine SW.ret ?_ | with_reducible refine SW.go MM ?_ | refine SW.goDrawF MM (by rfl) (by kernel_rfl) ?_); simp -implicitDefEqProofs only [go_sem]) | (refine SW.cond (by simp -implicitDefEqProofs only [go_sem]; rfl) (fun ht => ?_) (fun ht => ?_) <;> (try simp only [decide_eq_true_eq, decide_eq_false_iff_not, beq_iff_eq, bne_iff_ne, beq_eq_false_iff_ne, bne_eq_false_iff_eq, Bool.or_eq_true, Bool.and_eq_true, Bool.or_eq_false_iff, Bool.and_eq_false_imp, Bool.not_eq_true, Bool.not_eq_false, Bool.not_true, Bool.not_false, Bool.not_eq_true', Bool.not_eq_false', Bool.or_false, Bool.false_or, Bool.or_true, Bool.true_or, Bool.and_true, Bool.true_and, reduceCtorEq] at ht) <;> (try contradiction)))
    | ((with_reducible refine guardSplit (fun hg => ?_) (fun hg => ?_)) <;> (try simp only [Bool.not_true, Bool.not_false] at hg) <;> (have hc := hg) <;> simp -implicitDefEqProofs only [go_sem, hg] <;> (try simp only [decide_eq_true_eq, decide_eq_false_iff_not, beq_iff_eq, bne_iff_ne, beq_eq_false_iff_ne, bne_eq_false_iff_eq, Bool.or_eq_true, Bool.and_eq_true, Bool.or_eq_false_iff, Bool.and_eq_false_imp, Bool.not_eq_true, Bool.not_eq_false, Bool.not_true, Bool.not_false, Bool.not_eq_true', Bool.not_eq_false', Bool.or_false, Bool.false_or, Bool.or_true, Bool.true_or, Bool.and_true, Bool.true_and, reduceCtorEq] at hc) <;> (try contradiction)))
  refine Stop.go ?_
  refine SW.cutS (γ := Unit) (fun _ => St.of [(0, .sl true (bA b)), (2, .v (.int .u8 m)), (4, .ptr 4 []), (6, .ptr 6 []), (7, .ref 0 1 0 b.length false), (8, .ref 0 1 0 (b.length + 80) false)] [(0, .row 1 (bA (b ++ room 80))), (4, .var (.v (.int .i64 st))), (6, .var (.v (.bool false)))] 64) (fun K hK => ?_) fun _ => ?_
  · refine SW.inlK MM 1 (by rfl) fun K2 hK2 => ?_
    simp -implicitDefEqProofs only [go_sem]
    refine InlOp.call (by simp -implicitDefEqProofs only [go_sem]) (by simp -implicitDefEqProofs only [go_sem]) rfl rfl (by simp -implicitDefEqProofs only [go_sem]; rfl) (by simp -implicitDefEqProofs only [go_sem]; rfl) (by simp -implicitDefEqProofs only [go_sem]) (by kernel_rfl) Try.func15 rfl (by show 1 ≤ 29; decide) fun tm => ?_
    refine SW.weak (Weak.ofG [(64, 4), (128, 6)] (gl := [(tm, [(0, .sl true (bA b)), (2, .v (.int .u8 m)), (4, .ptr 4 []), (6, .ptr 6 [])])]) (sls := [(0, .sl true (bA b))]) (bks := [(4, .var (.v (.int .i64 st))), (6, .var (.v (.bool false)))]) (ep := 64) (by rfl) ?_ ?_ ?_) ?_
    · simp -implicitDefEqProofs only [go_sem]
    · simp -implicitDefEqProofs only [go_sem]
    · simp -implicitDefEqProofs only [go_sem]
    have hw : IntKind.i64.wrap ((b.length : Int) + 80) = ((b.length + 80 : Nat) : Int) := by rw [IntWalk.i64_in _ (by omega)]; omega
    repeat' (first
      | apply_assumption -exfalso -symm (transparency := .reducible) only [*]
      | with_reducible refine SW.stopI 3 ?_
      | (with_reducible refine And.intro ?_ ?_)
      | (refine drawOf ?_; kernel_rfl)
      | ((with_reducible refine opsF_id ?_); simp -implicitDefEqProofs only [go_sem, hw])
      | ((with_reducible refine SW.id ?_); first | with_reducible refine SW.seqK fun K hK => ?_ | with_reducible refine SW.block ?_ | with_reducible refine SW.scope ?_ | ((first | with_reducible refine SW.skip ?_ | with_reducible refine SW.exit ?_ | with_reducible refine SW.label ?_ | with_reducible refine SW.ret ?_ | with_reducible refine SW.go MM ?_ | refine SW.goDrawF MM (by rfl) (by kernel_rfl) ?_); simp -implicitDefEqProofs only [go_sem, hw]) | (refine SW.cond (by simp -implicitDefEqProofs only [go_sem, hw]; rfl) (fun ht => ?_) (fun ht => ?_) <;> (try simp only [decide_eq_true_eq, decide_eq_false_iff_not, beq_iff_eq, bne_iff_ne, beq_eq_false_iff_ne, bne_eq_false_iff_eq, Bool.or_eq_true, Bool.and_eq_true, Bool.or_eq_false_iff, Bool.and_eq_false_imp, Bool.not_eq_true, Bool.not_eq_false, Bool.not_true, Bool.not_false, Bool.not_eq_true', Bool.not_eq_false', Bool.or_false, Bool.false_or, Bool.or_true, Bool.true_or, Bool.and_true, Bool.true_and, reduceCtorEq] at ht) <;> (try contradiction)))
      | ((with_reducible refine guardSplit (fun hg => ?_) (fun hg => ?_)) <;> (try simp only [Bool.not_true, Bool.not_false] at hg) <;> (have hc := hg) <;> simp -implicitDefEqProofs only [go_sem, hg, hw] <;> (try simp only [decide_eq_true_eq, decide_eq_false_iff_not, beq_iff_eq, bne_iff_ne, beq_eq_false_iff_ne, bne_eq_false_iff_eq, Bool.or_eq_true, Bool.and_eq_true, Bool.or_eq_false_iff, Bool.and_eq_false_imp, Bool.not_eq_true, Bool.not_eq_false, Bool.not_true, Bool.not_false, Bool.not_eq_true', Bool.not_eq_false', Bool.or_false, Bool.false_or, Bool.or_true, Bool.true_or, Bool.and_true, Bool.true_and, reduceCtorEq] at hc) <;> (try contradiction)))
    any_goals omega
    any_goals solve | exact roomy_of (by omega) (by decide)
    refine Stop.go ?_
    repeat' (first
      | apply_assumption -exfalso -symm (transparency := .reducible) only [*]
      | (with_reducible refine And.intro ?_ ?_)
      | (refine drawOf ?_; kernel_rfl)
      | ((with_reducible refine opsF_id ?_); simp -implicitDefEqProofs only [go_sem])
      | ((with_reducible refine SW.id ?_); first | with_reducible refine SW.seqK fun K hK => ?_ | with_reducible refine SW.block ?_ | with_reducible refine SW.scope ?_ | ((first | with_reducible refine SW.skip ?_ | with_reducible refine SW.exit ?_ | with_reducible refine SW.label ?_ | with_reducible refine SW.ret ?_ | with_reducible refine SW.go MM ?_ | refine SW.goDrawF MM (by rfl) (by kernel_rfl) ?_); simp -implicitDefEqProofs only [go_sem]) | (refine SW.cond (by simp -implicitDefEqProofs only [go_sem]; rfl) (fun ht => ?_) (fun ht => ?_) <;> (try simp only [decide_eq_true_eq, decide_eq_false_iff_not, beq_iff_eq, bne_iff_ne, beq_eq_false_iff_ne, bne_eq_false_iff_eq, Bool.or_eq_true, Bool.and_eq_true, Bool.or_eq_false_iff, Bool.and_eq_false_imp, Bool.not_eq_true, Bool.not_eq_false, Bool.not_true, Bool.not_false, Bool.not_eq_true', Bool.not_eq_false', Bool.or_false, Bool.false_or, Bool.or_true, Bool.true_or, Bool.and_true, Bool.true_and, reduceCtorEq] at ht) <;> (try contradiction)))
      | ((with_reducible refine guardSplit (fun hg => ?_) (fun hg => ?_)) <;> (try simp only [Bool.not_true, Bool.not_false] at hg) <;> (have hc := hg) <;> simp -implicitDefEqProofs only [go_sem, hg] <;> (try simp only [decide_eq_true_eq, decide_eq_false_iff_not, beq_iff_eq, bne_iff_ne, beq_eq_false_iff_ne, bne_eq_false_iff_eq, Bool.or_eq_true, Bool.and_eq_true, Bool.or_eq_false_iff, Bool.and_eq_false_imp, Bool.not_eq_true, Bool.not_eq_false, Bool.not_true, Bool.not_false, Bool.not_eq_true', Bool.not_eq_false', Bool.or_false, Bool.false_or, Bool.or_true, Bool.true_or, Bool.and_true, Bool.true_and, reduceCtorEq] at hc) <;> (try contradiction)))
    refine SW.loop (α := { i : Nat // i ≤ 80 }) (fun i => St.ofG [(tm, [(0, .sl true (bA b)), (2, .v (.int .u8 m)), (4, .ptr 4 []), (6, .ptr 6 [])])] [(0, .sl true (bA b)), (4, .ref 0 1 0 (b.length + i.1) false), (5, .v (.int .i64 i.1))] [(0, .row 1 (bA (b ++ room i.1))), (4, .var (.v (.int .i64 st))), (6, .var (.v (.bool false)))] 64) (fun i => 80 - i.1) ⟨0, by decide⟩ (Weak.ofG [(640, 0), (4, 4), (6, 6)] (by rfl) ?_ ?_ ?_) fun ⟨i, hi⟩ => ?_
    · simp -implicitDefEqProofs only [go_sem]
    · simp -implicitDefEqProofs only [go_sem]
      rfl
    · simp -implicitDefEqProofs only [go_sem]
      simp [room]
    have h5 := i64_one (a := i) (by omega)
    have hbr := byte_room i
    repeat' (first
      | apply_assumption -exfalso -symm (transparency := .reducible) only [*]
      | (with_reducible refine And.intro ?_ ?_)
      | (refine drawOf ?_; kernel_rfl)
      | ((with_reducible refine opsF_id ?_); simp -implicitDefEqProofs only [go_sem, h5])
      | ((with_reducible refine SW.id ?_); first | with_reducible refine SW.seqK fun K hK => ?_ | with_reducible refine SW.block ?_ | with_reducible refine SW.scope ?_ | ((first | with_reducible refine SW.skip ?_ | with_reducible refine SW.exit ?_ | with_reducible refine SW.label ?_ | with_reducible refine SW.ret ?_ | with_reducible refine SW.go MM ?_ | refine SW.goDrawF MM (by rfl) (by kernel_rfl) ?_); simp -implicitDefEqProofs only [go_sem, h5]) | (refine SW.cond (by simp -implicitDefEqProofs only [go_sem, h5]; rfl) (fun ht => ?_) (fun ht => ?_) <;> (try simp only [decide_eq_true_eq, decide_eq_false_iff_not, beq_iff_eq, bne_iff_ne, beq_eq_false_iff_ne, bne_eq_false_iff_eq, Bool.or_eq_true, Bool.and_eq_true, Bool.or_eq_false_iff, Bool.and_eq_false_imp, Bool.not_eq_true, Bool.not_eq_false, Bool.not_true, Bool.not_false, Bool.not_eq_true', Bool.not_eq_false', Bool.or_false, Bool.false_or, Bool.or_true, Bool.true_or, Bool.and_true, Bool.true_and, reduceCtorEq] at ht) <;> (try contradiction)))
      | ((with_reducible refine guardSplit (fun hg => ?_) (fun hg => ?_)) <;> (try simp only [Bool.not_true, Bool.not_false] at hg) <;> (have hc := hg) <;> simp -implicitDefEqProofs only [go_sem, hg, h5] <;> (try simp only [decide_eq_true_eq, decide_eq_false_iff_not, beq_iff_eq, bne_iff_ne, beq_eq_false_iff_ne, bne_eq_false_iff_eq, Bool.or_eq_true, Bool.and_eq_true, Bool.or_eq_false_iff, Bool.and_eq_false_imp, Bool.not_eq_true, Bool.not_eq_false, Bool.not_true, Bool.not_false, Bool.not_eq_true', Bool.not_eq_false', Bool.or_false, Bool.false_or, Bool.or_true, Bool.true_or, Bool.and_true, Bool.true_and, reduceCtorEq] at hc) <;> (try contradiction)))
    all_goals first | omega | skip
    · simp [room_length]
    · exact roomy_of (by omega) (by decide)
    · have hst : bA (b ++ room i) ++ [.v (.int .u8 (IntKind.u8.wrap (IntKind.i64.wrap (171 + ((i : Int).tmod 60)))))] = bA (b ++ room (i + 1)) := by
        rw [byte_room, bA_one, bA_append, List.append_assoc]
        rfl
      refine ⟨⟨i + 1, by omega⟩, Weak.ofG [(576, 0), (4, 4), (6, 6)] (by rfl) ?_ ?_ ?_, by dsimp only; omega⟩
      · simp -implicitDefEqProofs only [go_sem]
      · simp -implicitDefEqProofs only [go_sem, h5]
        rw [Nat.add_assoc]
      · simp -implicitDefEqProofs only [go_sem, hst]
    · have hi80 : i = 80 := by omega
      subst hi80
      refine ⟨(), Weak.of [(0, 0), (4, 4), (6, 6)] (by rfl) ?_ ?_⟩
      · simp -implicitDefEqProofs only [go_sem]
      · simp -implicitDefEqProofs only [go_sem]
  · have hwh := whole_FS true b (by omega) h8
    obtain ⟨⟨fs, wp, we⟩, hwd⟩ : ∃ r, walkD b = r := ⟨_, rfl⟩
    obtain ⟨ps, hps⟩ : ∃ r, placesD b = r := ⟨_, rfl⟩
    rw [hwd, hps] at hwh
    dsimp only at hwh
    repeat' (first
      | apply_assumption -exfalso -symm (transparency := .reducible) only [*]
      | with_reducible refine SW.stopR 3 ?_
      | (refine ⟨_, _, hwh, ?_⟩ <;> (try simp -implicitDefEqProofs only [go_sem]))
      | (with_reducible refine And.intro ?_ ?_)
      | (refine drawOf ?_; kernel_rfl)
      | ((with_reducible refine opsF_id ?_); simp -implicitDefEqProofs only [go_sem])
      | ((with_reducible refine SW.id ?_); first | with_reducible refine SW.seqK fun K hK => ?_ | with_reducible refine SW.block ?_ | with_reducible refine SW.scope ?_ | ((first | with_reducible refine SW.skip ?_ | with_reducible refine SW.exit ?_ | with_reducible refine SW.label ?_ | with_reducible refine SW.ret ?_ | with_reducible refine SW.go MM ?_ | refine SW.goDrawF MM (by rfl) (by kernel_rfl) ?_); simp -implicitDefEqProofs only [go_sem]) | (refine SW.cond (by simp -implicitDefEqProofs only [go_sem]; rfl) (fun ht => ?_) (fun ht => ?_) <;> (try simp only [decide_eq_true_eq, decide_eq_false_iff_not, beq_iff_eq, bne_iff_ne, beq_eq_false_iff_ne, bne_eq_false_iff_eq, Bool.or_eq_true, Bool.and_eq_true, Bool.or_eq_false_iff, Bool.and_eq_false_imp, Bool.not_eq_true, Bool.not_eq_false, Bool.not_true, Bool.not_false, Bool.not_eq_true', Bool.not_eq_false', Bool.or_false, Bool.false_or, Bool.or_true, Bool.true_or, Bool.and_true, Bool.true_and, reduceCtorEq] at ht) <;> (try contradiction)))
      | ((with_reducible refine guardSplit (fun hg => ?_) (fun hg => ?_)) <;> (try simp only [Bool.not_true, Bool.not_false] at hg) <;> (have hc := hg) <;> simp -implicitDefEqProofs only [go_sem, hg] <;> (try simp only [decide_eq_true_eq, decide_eq_false_iff_not, beq_iff_eq, bne_iff_ne, beq_eq_false_iff_ne, bne_eq_false_iff_eq, Bool.or_eq_true, Bool.and_eq_true, Bool.or_eq_false_iff, Bool.and_eq_false_imp, Bool.not_eq_true, Bool.not_eq_false, Bool.not_true, Bool.not_false, Bool.not_eq_true', Bool.not_eq_false', Bool.or_false, Bool.false_or, Bool.or_true, Bool.true_or, Bool.and_true, Bool.true_and, reduceCtorEq] at hc) <;> (try contradiction)))
    refine Stop.go ?_
    refine SW.seqK fun K1 hK1 => SW.inlK MM 1 (by rfl) fun K2 hK2 => ?_
    simp -implicitDefEqProofs only [go_sem]
    refine InlOp.call (by simp -implicitDefEqProofs only [go_sem]) (by simp -implicitDefEqProofs only [go_sem]) rfl rfl (by simp -implicitDefEqProofs only [go_sem]; rfl) (by simp -implicitDefEqProofs only [go_sem]; rfl) (by simp -implicitDefEqProofs only [go_sem]) (by kernel_rfl) Try.func35 rfl (by show 1 ≤ 4; decide) fun tm => ?_
    repeat' (first
      | apply_assumption -exfalso -symm (transparency := .reducible) only [*]
      | with_reducible refine SW.stopI 4 ?_
      | (with_reducible refine And.intro ?_ ?_)
      | (refine drawOf ?_; kernel_rfl)
      | ((with_reducible refine opsF_id ?_); simp -implicitDefEqProofs only [go_sem])
      | ((with_reducible refine SW.id ?_); first | with_reducible refine SW.seqK fun K hK => ?_ | with_reducible refine SW.block ?_ | with_reducible refine SW.scope ?_ | ((first | with_reducible refine SW.skip ?_ | with_reducible refine SW.exit ?_ | with_reducible refine SW.label ?_ | with_reducible refine SW.ret ?_ | with_reducible refine SW.go MM ?_ | refine SW.goDrawF MM (by rfl) (by kernel_rfl) ?_); simp -implicitDefEqProofs only [go_sem]) | (refine SW.cond (by simp -implicitDefEqProofs only [go_sem]; rfl) (fun ht => ?_) (fun ht => ?_) <;> (try simp only [decide_eq_true_eq, decide_eq_false_iff_not, beq_iff_eq, bne_iff_ne, beq_eq_false_iff_ne, bne_eq_false_iff_eq, Bool.or_eq_true, Bool.and_eq_true, Bool.or_eq_false_iff, Bool.and_eq_false_imp, Bool.not_eq_true, Bool.not_eq_false, Bool.not_true, Bool.not_false, Bool.not_eq_true', Bool.not_eq_false', Bool.or_false, Bool.false_or, Bool.or_true, Bool.true_or, Bool.and_true, Bool.true_and, reduceCtorEq] at ht) <;> (try contradiction)))
      | ((with_reducible refine guardSplit (fun hg => ?_) (fun hg => ?_)) <;> (try simp only [Bool.not_true, Bool.not_false] at hg) <;> (have hc := hg) <;> simp -implicitDefEqProofs only [go_sem, hg] <;> (try simp only [decide_eq_true_eq, decide_eq_false_iff_not, beq_iff_eq, bne_iff_ne, beq_eq_false_iff_ne, bne_eq_false_iff_eq, Bool.or_eq_true, Bool.and_eq_true, Bool.or_eq_false_iff, Bool.and_eq_false_imp, Bool.not_eq_true, Bool.not_eq_false, Bool.not_true, Bool.not_false, Bool.not_eq_true', Bool.not_eq_false', Bool.or_false, Bool.false_or, Bool.or_true, Bool.true_or, Bool.and_true, Bool.true_and, reduceCtorEq] at hc) <;> (try contradiction)))
    refine Stop.go (SW.seqK fun K3 hK3 => SW.seqK fun K4 hK4 => SW.inlK MM 1 (by rfl) fun K5 hK5 => ?_)
    simp -implicitDefEqProofs only [go_sem]
    refine InlOp.funcNil (by simp -implicitDefEqProofs only [go_sem]) (by simp -implicitDefEqProofs only [go_sem]) rfl (by simp -implicitDefEqProofs only [go_sem]; rfl) (by simp -implicitDefEqProofs only [go_sem]) (by kernel_rfl) ?_
    repeat' (first
      | apply_assumption -exfalso -symm (transparency := .reducible) only [*]
      | with_reducible refine SW.stopI 7 ?_
      | (with_reducible refine And.intro ?_ ?_)
      | (refine drawOf ?_; kernel_rfl)
      | ((with_reducible refine opsF_id ?_); simp -implicitDefEqProofs only [go_sem])
      | ((with_reducible refine SW.id ?_); first | with_reducible refine SW.seqK fun K hK => ?_ | with_reducible refine SW.block ?_ | with_reducible refine SW.scope ?_ | ((first | with_reducible refine SW.skip ?_ | with_reducible refine SW.exit ?_ | with_reducible refine SW.label ?_ | with_reducible refine SW.ret ?_ | with_reducible refine SW.go MM ?_ | refine SW.goDrawF MM (by rfl) (by kernel_rfl) ?_); simp -implicitDefEqProofs only [go_sem]) | (refine SW.cond (by simp -implicitDefEqProofs only [go_sem]; rfl) (fun ht => ?_) (fun ht => ?_) <;> (try simp only [decide_eq_true_eq, decide_eq_false_iff_not, beq_iff_eq, bne_iff_ne, beq_eq_false_iff_ne, bne_eq_false_iff_eq, Bool.or_eq_true, Bool.and_eq_true, Bool.or_eq_false_iff, Bool.and_eq_false_imp, Bool.not_eq_true, Bool.not_eq_false, Bool.not_true, Bool.not_false, Bool.not_eq_true', Bool.not_eq_false', Bool.or_false, Bool.false_or, Bool.or_true, Bool.true_or, Bool.and_true, Bool.true_and, reduceCtorEq] at ht) <;> (try contradiction)))
      | ((with_reducible refine guardSplit (fun hg => ?_) (fun hg => ?_)) <;> (try simp only [Bool.not_true, Bool.not_false] at hg) <;> (have hc := hg) <;> simp -implicitDefEqProofs only [go_sem, hg] <;> (try simp only [decide_eq_true_eq, decide_eq_false_iff_not, beq_iff_eq, bne_iff_ne, beq_eq_false_iff_ne, bne_eq_false_iff_eq, Bool.or_eq_true, Bool.and_eq_true, Bool.or_eq_false_iff, Bool.and_eq_false_imp, Bool.not_eq_true, Bool.not_eq_false, Bool.not_true, Bool.not_false, Bool.not_eq_true', Bool.not_eq_false', Bool.or_false, Bool.false_or, Bool.or_true, Bool.true_or, Bool.and_true, Bool.true_and, reduceCtorEq] at hc) <;> (try contradiction)))
    refine Stop.go ?_
    refine SW.cutS (γ := Unit) (fun _ => St.of [(0, .sl true (bA b)), (2, .v (.int .u8 m)), (4, .ptr 4 []), (6, .ptr 6 []), (7, .ref 0 1 0 b.length false), (8, .ref 0 1 0 (b.length + 80) false), (9, .ptr 9 []), (10, .ptr 10 []), (13, .clo (.func 46) [] [.ptr 13 []]), (14, .ptr 14 [])] [(0, .row 1 (bA (b ++ room 80))), (4, .var (.v (.int .i64 st))), (6, .var (.v (.bool false))), (9, .var (.ref 1 4 0 fs.length false)), (1, .row 4 (fs.map fO)), (10, .var (.ref 2 1 0 ps.length false)), (2, .row 1 (nA .i64 ps)), (13, .var (.ref 0 1 0 b.length false)), (14, .var (.v (.int .i64 fs.length)))] 64) (fun K hK => ?_) fun _ => ?_
    · refine SW.weak (st' := St.of [(0, .sl true (bA b)), (2, .v (.int .u8 m)), (4, .ptr 4 []), (6, .ptr 6 []), (7, .ref 0 1 0 b.length false), (8, .ref 0 1 0 (b.length + 80) false), (9, .ptr 9 []), (10, .ptr 10 []), (13, .clo (.func 46) [] [.ptr 13 []]), (14, .ptr 14 [])] [(0, .row 1 (bA (b ++ room 80))), (4, .var (.v (.int .i64 st))), (6, .var (.v (.bool false))), (9, .var (.ref 1 4 0 fs.length false)), (1, .row 4 (fs.map fO)), (10, .var (.ref 2 1 0 ps.length false)), (2, .row 1 (nA .i64 ps)), (13, .var (.ref 0 1 0 b.length false)), (14, .var (.v (.int .i64 0)))] 64) (Weak.of [(0, 0), (4, 4), (6, 6), (128, 1), (129, 2), (512, 9), (576, 10), (896, 13), (1472, 14)] (by rfl) ?_ ?_) ?_
      · simp -implicitDefEqProofs only [go_sem]
        rfl
      · simp -implicitDefEqProofs only [go_sem]
      repeat' (first
        | apply_assumption -exfalso -symm (transparency := .reducible) only [*]
        | (with_reducible refine And.intro ?_ ?_)
        | (refine drawOf ?_; kernel_rfl)
        | ((with_reducible refine opsF_id ?_); simp -implicitDefEqProofs only [go_sem])
        | ((with_reducible refine SW.id ?_); first | with_reducible refine SW.seqK fun K hK => ?_ | with_reducible refine SW.block ?_ | with_reducible refine SW.scope ?_ | ((first | with_reducible refine SW.skip ?_ | with_reducible refine SW.exit ?_ | with_reducible refine SW.label ?_ | with_reducible refine SW.ret ?_ | with_reducible refine SW.go MM ?_ | refine SW.goDrawF MM (by rfl) (by kernel_rfl) ?_); simp -implicitDefEqProofs only [go_sem]) | (refine SW.cond (by simp -implicitDefEqProofs only [go_sem]; rfl) (fun ht => ?_) (fun ht => ?_) <;> (try simp only [decide_eq_true_eq, decide_eq_false_iff_not, beq_iff_eq, bne_iff_ne, beq_eq_false_iff_ne, bne_eq_false_iff_eq, Bool.or_eq_true, Bool.and_eq_true, Bool.or_eq_false_iff, Bool.and_eq_false_imp, Bool.not_eq_true, Bool.not_eq_false, Bool.not_true, Bool.not_false, Bool.not_eq_true', Bool.not_eq_false', Bool.or_false, Bool.false_or, Bool.or_true, Bool.true_or, Bool.and_true, Bool.true_and, reduceCtorEq] at ht) <;> (try contradiction)))
        | ((with_reducible refine guardSplit (fun hg => ?_) (fun hg => ?_)) <;> (try simp only [Bool.not_true, Bool.not_false] at hg) <;> (have hc := hg) <;> simp -implicitDefEqProofs only [go_sem, hg] <;> (try simp only [decide_eq_true_eq, decide_eq_false_iff_not, beq_iff_eq, bne_iff_ne, beq_eq_false_iff_ne, bne_eq_false_iff_eq, Bool.or_eq_true, Bool.and_eq_true, Bool.or_eq_false_iff, Bool.and_eq_false_imp, Bool.not_eq_true, Bool.not_eq_false, Bool.not_true, Bool.not_false, Bool.not_eq_true', Bool.not_eq_false', Bool.or_false, Bool.false_or, Bool.or_true, Bool.true_or, Bool.and_true, Bool.true_and, reduceCtorEq] at hc) <;> (try contradiction)))
      refine SW.loop (α := { x : Nat × Nat // x.1 ≤ 2 ∧ (x.1 = 2 → x.2 = fs.length) }) (fun x => St.of [(0, .sl true (bA b)), (2, .v (.int .u8 m)), (4, .ptr 4 []), (6, .ptr 6 []), (7, .ref 0 1 0 b.length false), (8, .ref 0 1 0 (b.length + 80) false), (9, .ptr 9 []), (10, .ptr 10 []), (13, .clo (.func 46) [] [.ptr 13 []]), (14, .ptr 14 []), (15, .ptr 15 [])] [(0, .row 1 (bA (b ++ room 80))), (4, .var (.v (.int .i64 st))), (6, .var (.v (.bool false))), (9, .var (.ref 1 4 0 fs.length false)), (1, .row 4 (fs.map fO)), (10, .var (.ref 2 1 0 ps.length false)), (2, .row 1 (nA .i64 ps)), (13, .var (.ref 0 1 0 b.length false)), (14, .var (.v (.int .i64 x.1.2))), (15, .var (.v (.int .i64 x.1.1)))] 64) (fun x => 2 - x.1.1)
        ⟨(0, 0), by simp⟩ (Weak.of [(0, 0), (4, 4), (6, 6), (9, 9), (1, 1), (10, 10), (2, 2), (13, 13), (14, 14), (64, 15)] (by rfl) ?_ ?_) fun ⟨⟨r, v⟩, hr2, hrv⟩ => ?_
      · simp -implicitDefEqProofs only [go_sem]
        rfl
      · simp -implicitDefEqProofs only [go_sem]
        rfl
      · dsimp only at hr2 hrv
        have h5 := i64_one (a := r) (by omega)
        repeat' (first
          | apply_assumption -exfalso -symm (transparency := .reducible) only [*]
          | with_reducible refine SW.stopI 11 ?_
          | (with_reducible refine And.intro ?_ ?_)
          | (refine drawOf ?_; kernel_rfl)
          | ((with_reducible refine opsF_id ?_); simp -implicitDefEqProofs only [go_sem, h5])
          | ((with_reducible refine SW.id ?_); first | with_reducible refine SW.seqK fun K hK => ?_ | with_reducible refine SW.block ?_ | with_reducible refine SW.scope ?_ | ((first | with_reducible refine SW.skip ?_ | with_reducible refine SW.exit ?_ | with_reducible refine SW.label ?_ | with_reducible refine SW.ret ?_ | with_reducible refine SW.go MM ?_ | refine SW.goDrawF MM (by rfl) (by kernel_rfl) ?_); simp -implicitDefEqProofs only [go_sem, h5]) | (refine SW.cond (by simp -implicitDefEqProofs only [go_sem, h5]; rfl) (fun ht => ?_) (fun ht => ?_) <;> (try simp only [decide_eq_true_eq, decide_eq_false_iff_not, beq_iff_eq, bne_iff_ne, beq_eq_false_iff_ne, bne_eq_false_iff_eq, Bool.or_eq_true, Bool.and_eq_true, Bool.or_eq_false_iff, Bool.and_eq_false_imp, Bool.not_eq_true, Bool.not_eq_false, Bool.not_true, Bool.not_false, Bool.not_eq_true', Bool.not_eq_false', Bool.or_false, Bool.false_or, Bool.or_true, Bool.true_or, Bool.and_true, Bool.true_and, reduceCtorEq] at ht) <;> (try contradiction)))
          | ((with_reducible refine guardSplit (fun hg => ?_) (fun hg => ?_)) <;> (try simp only [Bool.not_true, Bool.not_false] at hg) <;> (have hc := hg) <;> simp -implicitDefEqProofs only [go_sem, hg, h5] <;> (try simp only [decide_eq_true_eq, decide_eq_false_iff_not, beq_iff_eq, bne_iff_ne, beq_eq_false_iff_ne, bne_eq_false_iff_eq, Bool.or_eq_true, Bool.and_eq_true, Bool.or_eq_false_iff, Bool.and_eq_false_imp, Bool.not_eq_true, Bool.not_eq_false, Bool.not_true, Bool.not_false, Bool.not_eq_true', Bool.not_eq_false', Bool.or_false, Bool.false_or, Bool.or_true, Bool.true_or, Bool.and_true, Bool.true_and, reduceCtorEq] at hc) <;> (try contradiction)))
        · refine Stop.go ?_
          refine SW.cutS (γ := { v' : Nat // (r = 0 → v' = fs.length ∨ (v' : Int) = st ∨ (st < 1 ∧ v' = 1)) ∧ (r ≠ 0 → v' = fs.length) }) (fun x => St.of [(0, .sl true (bA b)), (2, .v (.int .u8 m)), (4, .ptr 4 []), (6, .ptr 6 []), (7, .ref 0 1 0 b.length false), (8, .ref 0 1 0 (b.length + 80) false), (9, .ptr 9 []), (10, .ptr 10 []), (13, .clo (.func 46) [] [.ptr 13 []]), (14, .ptr 14 []), (15, .ptr 15 [])] [(0, .row 1 (bA (b ++ room 80))), (4, .var (.v (.int .i64 st))), (6, .var (.v (.bool false))), (9, .var (.ref 1 4 0 fs.length false)), (1, .row 4 (fs.map fO)), (10, .var (.ref 2 1 0 ps.length false)), (2, .row 1 (nA .i64 ps)), (13, .var (.ref 0 1 0 b.length false)), (15, .var (.v (.int .i64 r))), (14, .var (.v (.int .i64 x.1)))] 64) (fun K hK => ?_) fun ⟨v2, hv1, hv2⟩ => ?_
          · repeat' (first
              | apply_assumption -exfalso -symm (transparency := .reducible) only [*]
              | (with_reducible refine And.intro ?_ ?_)
              | (refine drawOf ?_; kernel_rfl)
              | ((with_reducible refine opsF_id ?_); simp -implicitDefEqProofs only [go_sem])
              | ((with_reducible refine SW.id ?_); first | with_reducible refine SW.seqK fun K hK => ?_ | with_reducible refine SW.block ?_ | with_reducible refine SW.scope ?_ | ((first | with_reducible refine SW.skip ?_ | with_reducible refine SW.exit ?_ | with_reducible refine SW.label ?_ | with_reducible refine SW.ret ?_ | with_reducible refine SW.go MM ?_ | refine SW.goDrawF MM (by rfl) (by kernel_rfl) ?_); simp -implicitDefEqProofs only [go_sem]) | (refine SW.cond (by simp -implicitDefEqProofs only [go_sem]; rfl) (fun ht => ?_) (fun ht => ?_) <;> (try simp only [decide_eq_true_eq, decide_eq_false_iff_not, beq_iff_eq, bne_iff_ne, beq_eq_false_iff_ne, bne_eq_false_iff_eq, Bool.or_eq_true, Bool.and_eq_true, Bool.or_eq_false_iff, Bool.and_eq_false_imp, Bool.not_eq_true, Bool.not_eq_false, Bool.not_true, Bool.not_false, Bool.not_eq_true', Bool.not_eq_false', Bool.or_false, Bool.false_or, Bool.or_true, Bool.true_or, Bool.and_true, Bool.true_and, reduceCtorEq] at ht) <;> (try contradiction)))
              | ((with_reducible refine guardSplit (fun hg => ?_) (fun hg => ?_)) <;> (try simp only [Bool.not_true, Bool.not_false] at hg) <;> (have hc := hg) <;> simp -implicitDefEqProofs only [go_sem, hg] <;> (try simp only [decide_eq_true_eq, decide_eq_false_iff_not, beq_iff_eq, bne_iff_ne, beq_eq_false_iff_ne, bne_eq_false_iff_eq, Bool.or_eq_true, Bool.and_eq_true, Bool.or_eq_false_iff, Bool.and_eq_false_imp, Bool.not_eq_true, Bool.not_eq_false, Bool.not_true, Bool.not_false, Bool.not_eq_true', Bool.not_eq_false', Bool.or_false, Bool.false_or, Bool.or_true, Bool.true_or, Bool.and_true, Bool.true_and, reduceCtorEq] at hc) <;> (try contradiction)))
            refine SW.range (f := 46) (caps := [.ptr 13 []]) 100 (by simp) (by simp -implicitDefEqProofs only [go_sem]) (by simp -implicitDefEqProofs only [go_sem]) (by kernel_rfl) Try.func46 rfl (by show 2 ≤ 7; decide) rfl (by simp -implicitDefEqProofs only [go_sem]) fun tm tmY ri hri => ?_
            refine SW.weak (Weak.ofG [(0, 0), (4, 4), (6, 6), (9, 9), (1, 1), (10, 10), (2, 2), (13, 13), (14, 14), (15, 15), (100, 100)] (gl := [(tm, [(0, .sl true (bA b)), (2, .v (.int .u8 m)), (4, .ptr 4 []), (6, .ptr 6 []), (7, .ref 0 1 0 b.length false), (8, .ref 0 1 0 (b.length + 80) false), (9, .ptr 9 []), (10, .ptr 10 []), (13, .clo (.func 46) [] [.ptr 13 []]), (14, .ptr 14 []), (15, .ptr 15 [])]), (tmY, [(0, .yref 100)])]) (sls := [(0, .yref 100), (1, .ptr 13 [])]) (bks := [(0, .row 1 (bA (b ++ room 80))), (4, .var (.v (.int .i64 st))), (6, .var (.v (.bool false))), (9, .var (.ref 1 4 0 fs.length false)), (1, .row 4 (fs.map fO)), (10, .var (.ref 2 1 0 ps.length false)), (2, .row 1 (nA .i64 ps)), (13, .var (.ref 0 1 0 b.length false)), (15, .var (.v (.int .i64 r))), (14, .var (.v (.int .i64 0))), (100, .yld (recR ri .ready none))]) (ep := 128) (by rfl) ?_ ?_ ?_) ?_
            · simp -implicitDefEqProofs only [go_sem]
              rfl
            · simp -implicitDefEqProofs only [go_sem]
            · simp -implicitDefEqProofs only [go_sem]
            · refine SW.inlK MM 3 (by rfl) fun K2 hK2 => ?_
              have htk : (b ++ room 80).take b.length = b := List.take_left
              repeat' (first
                | apply_assumption -exfalso -symm (transparency := .reducible) only [*]
                | (with_reducible refine And.intro ?_ ?_)
                | (refine drawOf ?_; kernel_rfl)
                | ((with_reducible refine opsF_id ?_); simp -implicitDefEqProofs only [go_sem, htk])
                | ((with_reducible refine SW.id ?_); first | with_reducible refine SW.seqK fun K hK => ?_ | with_reducible refine SW.block ?_ | with_reducible refine SW.scope ?_ | ((first | with_reducible refine SW.skip ?_ | with_reducible refine SW.exit ?_ | with_reducible refine SW.label ?_ | with_reducible refine SW.ret ?_ | with_reducible refine SW.go MM ?_ | refine SW.goDrawF MM (by rfl) (by kernel_rfl) ?_); simp -implicitDefEqProofs only [go_sem, htk]) | (refine SW.cond (by simp -implicitDefEqProofs only [go_sem, htk]; rfl) (fun ht => ?_) (fun ht => ?_) <;> (try simp only [decide_eq_true_eq, decide_eq_false_iff_not, beq_iff_eq, bne_iff_ne, beq_eq_false_iff_ne, bne_eq_false_iff_eq, Bool.or_eq_true, Bool.and_eq_true, Bool.or_eq_false_iff, Bool.and_eq_false_imp, Bool.not_eq_true, Bool.not_eq_false, Bool.not_true, Bool.not_false, Bool.not_eq_true', Bool.not_eq_false', Bool.or_false, Bool.false_or, Bool.or_true, Bool.true_or, Bool.and_true, Bool.true_and, reduceCtorEq] at ht) <;> (try contradiction)))
                | ((with_reducible refine guardSplit (fun hg => ?_) (fun hg => ?_)) <;> (try simp only [Bool.not_true, Bool.not_false] at hg) <;> (have hc := hg) <;> simp -implicitDefEqProofs only [go_sem, hg, htk] <;> (try simp only [decide_eq_true_eq, decide_eq_false_iff_not, beq_iff_eq, bne_iff_ne, beq_eq_false_iff_ne, bne_eq_false_iff_eq, Bool.or_eq_true, Bool.and_eq_true, Bool.or_eq_false_iff, Bool.and_eq_false_imp, Bool.not_eq_true, Bool.not_eq_false, Bool.not_true, Bool.not_false, Bool.not_eq_true', Bool.not_eq_false', Bool.or_false, Bool.false_or, Bool.or_true, Bool.true_or, Bool.and_true, Bool.true_and, reduceCtorEq] at hc) <;> (try contradiction)))
              all_goals first | (simp only [List.length_append]; omega) | exact roomy_of (by omega) (by decide) | skip
              refine InlOp.call (by simp -implicitDefEqProofs only [go_sem]) (by simp -implicitDefEqProofs only [go_sem]) rfl rfl (by simp -implicitDefEqProofs only [go_sem]; rfl) (by simp -implicitDefEqProofs only [go_sem]; rfl) (by simp -implicitDefEqProofs only [go_sem]) (by kernel_rfl) Try.func47 rfl (by show 2 ≤ 55; decide) fun tm4 => ?_
              refine SW.weak (Weak.ofG [(0, 0), (4, 4), (6, 6), (9, 9), (1, 1), (10, 10), (2, 2), (13, 13), (14, 14), (15, 15), (100, 100), (192, 3)] (gl := [(tm4, []), (tm, [(0, .sl true (bA b)), (2, .v (.int .u8 m)), (4, .ptr 4 []), (6, .ptr 6 []), (7, .ref 0 1 0 b.length false), (8, .ref 0 1 0 (b.length + 80) false), (9, .ptr 9 []), (10, .ptr 10 []), (13, .clo (.func 46) [] [.ptr 13 []]), (14, .ptr 14 []), (15, .ptr 15 [])]), (tmY, [(0, .yref 100)])]) (sls := [(0, .ref 3 1 0 b.length false), (1, .yref 100)]) (bks := [(0, .row 1 (bA (b ++ room 80))), (4, .var (.v (.int .i64 st))), (6, .var (.v (.bool false))), (9, .var (.ref 1 4 0 fs.length false)), (1, .row 4 (fs.map fO)), (10, .var (.ref 2 1 0 ps.length false)), (2, .row 1 (nA .i64 ps)), (13, .var (.ref 0 1 0 b.length false)), (15, .var (.v (.int .i64 r))), (100, .yld (recR ri .ready none)), (3, .row 1 (bA b)), (14, .var (.v (.int .i64 0)))]) (ep := 128) (by rfl) ?_ ?_ ?_) ?_
              · simp -implicitDefEqProofs only [go_sem]
                rfl
              · simp -implicitDefEqProofs only [go_sem]
              · simp -implicitDefEqProofs only [go_sem]
              have hbig : 4194304 < b.length → fs = [] := fun h => by
                have h1 : walkD b = ([], 0, 2) := by unfold walkD; rw [if_pos h]
                rw [hwd] at h1
                exact congrArg (·.1) h1
              have hsml : ¬4194304 < b.length → fs = (walkP b (b.length + 1) 0 0 0).1 ∧ ps = placesP b (b.length + 1) 0 0 0 := fun h => by
                have h1 : walkD b = walkP b (b.length + 1) 0 0 0 := by unfold walkD; rw [if_neg h]
                have h2 : placesD b = placesP b (b.length + 1) 0 0 0 := by unfold placesD; rw [if_neg h]
                rw [hwd] at h1
                rw [hps] at h2
                exact ⟨congrArg (·.1) h1, h2⟩
              repeat' (first
                | apply_assumption -exfalso -symm (transparency := .reducible) only [*]
                | with_reducible refine SW.stopR 3 ?_
                | (with_reducible refine And.intro ?_ ?_)
                | (refine drawOf ?_; kernel_rfl)
                | ((with_reducible refine opsF_id ?_); simp -implicitDefEqProofs only [go_sem])
                | ((with_reducible refine SW.id ?_); first | with_reducible refine SW.seqK fun K hK => ?_ | with_reducible refine SW.block ?_ | with_reducible refine SW.scope ?_ | ((first | with_reducible refine SW.skip ?_ | with_reducible refine SW.exit ?_ | with_reducible refine SW.label ?_ | with_reducible refine SW.ret ?_ | with_reducible refine SW.go MM ?_ | refine SW.goDrawF MM (by rfl) (by kernel_rfl) ?_); simp -implicitDefEqProofs only [go_sem]) | (refine SW.cond (by simp -implicitDefEqProofs only [go_sem]; rfl) (fun ht => ?_) (fun ht => ?_) <;> (try simp only [decide_eq_true_eq, decide_eq_false_iff_not, beq_iff_eq, bne_iff_ne, beq_eq_false_iff_ne, bne_eq_false_iff_eq, Bool.or_eq_true, Bool.and_eq_true, Bool.or_eq_false_iff, Bool.and_eq_false_imp, Bool.not_eq_true, Bool.not_eq_false, Bool.not_true, Bool.not_false, Bool.not_eq_true', Bool.not_eq_false', Bool.or_false, Bool.false_or, Bool.or_true, Bool.true_or, Bool.and_true, Bool.true_and, reduceCtorEq] at ht) <;> (try contradiction)))
                | ((with_reducible refine guardSplit (fun hg => ?_) (fun hg => ?_)) <;> (try simp only [Bool.not_true, Bool.not_false] at hg) <;> (have hc := hg) <;> simp -implicitDefEqProofs only [go_sem, hg] <;> (try simp only [decide_eq_true_eq, decide_eq_false_iff_not, beq_iff_eq, bne_iff_ne, beq_eq_false_iff_ne, bne_eq_false_iff_eq, Bool.or_eq_true, Bool.and_eq_true, Bool.or_eq_false_iff, Bool.and_eq_false_imp, Bool.not_eq_true, Bool.not_eq_false, Bool.not_true, Bool.not_false, Bool.not_eq_true', Bool.not_eq_false', Bool.or_false, Bool.false_or, Bool.or_true, Bool.true_or, Bool.and_true, Bool.true_and, reduceCtorEq] at hc) <;> (try contradiction)))
              · refine ⟨100, .ready, none, rfl, by simp, ?_⟩
                simp -implicitDefEqProofs only [go_sem]
                repeat' (first
                  | apply_assumption -exfalso -symm (transparency := .reducible) only [*]
                  | (with_reducible refine And.intro ?_ ?_)
                  | (refine drawOf ?_; kernel_rfl)
                  | ((with_reducible refine opsF_id ?_); simp -implicitDefEqProofs only [go_sem])
                  | ((with_reducible refine SW.id ?_); first | with_reducible refine SW.seqK fun K hK => ?_ | with_reducible refine SW.block ?_ | with_reducible refine SW.scope ?_ | ((first | with_reducible refine SW.skip ?_ | with_reducible refine SW.exit ?_ | with_reducible refine SW.label ?_ | with_reducible refine SW.ret ?_ | with_reducible refine SW.go MM ?_ | refine SW.goDrawF MM (by rfl) (by kernel_rfl) ?_); simp -implicitDefEqProofs only [go_sem]) | (refine SW.cond (by simp -implicitDefEqProofs only [go_sem]; rfl) (fun ht => ?_) (fun ht => ?_) <;> (try simp only [decide_eq_true_eq, decide_eq_false_iff_not, beq_iff_eq, bne_iff_ne, beq_eq_false_iff_ne, bne_eq_false_iff_eq, Bool.or_eq_true, Bool.and_eq_true, Bool.or_eq_false_iff, Bool.and_eq_false_imp, Bool.not_eq_true, Bool.not_eq_false, Bool.not_true, Bool.not_false, Bool.not_eq_true', Bool.not_eq_false', Bool.or_false, Bool.false_or, Bool.or_true, Bool.true_or, Bool.and_true, Bool.true_and, reduceCtorEq] at ht) <;> (try contradiction)))
                  | ((with_reducible refine guardSplit (fun hg => ?_) (fun hg => ?_)) <;> (try simp only [Bool.not_true, Bool.not_false] at hg) <;> (have hc := hg) <;> simp -implicitDefEqProofs only [go_sem, hg] <;> (try simp only [decide_eq_true_eq, decide_eq_false_iff_not, beq_iff_eq, bne_iff_ne, beq_eq_false_iff_ne, bne_eq_false_iff_eq, Bool.or_eq_true, Bool.and_eq_true, Bool.or_eq_false_iff, Bool.and_eq_false_imp, Bool.not_eq_true, Bool.not_eq_false, Bool.not_true, Bool.not_false, Bool.not_eq_true', Bool.not_eq_false', Bool.or_false, Bool.false_or, Bool.or_true, Bool.true_or, Bool.and_true, Bool.true_and, reduceCtorEq] at hc) <;> (try contradiction)))
                have hz := hbig (by omega)
                refine ⟨⟨0, by rw [hz]; simp⟩, Weak.of [(0, 0), (4, 4), (6, 6), (9, 9), (1, 1), (10, 10), (2, 2), (13, 13), (14, 14), (15, 15)] (by rfl) ?_ ?_⟩
                · simp -implicitDefEqProofs only [go_sem]
                  rfl
                · simp -implicitDefEqProofs only [go_sem]
                  rfl
              · refine Stop.go ?_
                obtain ⟨hf1, hp1⟩ := hsml (by omega)
                repeat' (first
                  | apply_assumption -exfalso -symm (transparency := .reducible) only [*]
                  | (with_reducible refine And.intro ?_ ?_)
                  | (refine drawOf ?_; kernel_rfl)
                  | ((with_reducible refine opsF_id ?_); simp -implicitDefEqProofs only [go_sem])
                  | ((with_reducible refine SW.id ?_); first | with_reducible refine SW.seqK fun K hK => ?_ | with_reducible refine SW.block ?_ | with_reducible refine SW.scope ?_ | ((first | with_reducible refine SW.skip ?_ | with_reducible refine SW.exit ?_ | with_reducible refine SW.label ?_ | with_reducible refine SW.ret ?_ | with_reducible refine SW.go MM ?_ | refine SW.goDrawF MM (by rfl) (by kernel_rfl) ?_); simp -implicitDefEqProofs only [go_sem]) | (refine SW.cond (by simp -implicitDefEqProofs only [go_sem]; rfl) (fun ht => ?_) (fun ht => ?_) <;> (try simp only [decide_eq_true_eq, decide_eq_false_iff_not, beq_iff_eq, bne_iff_ne, beq_eq_false_iff_ne, bne_eq_false_iff_eq, Bool.or_eq_true, Bool.and_eq_true, Bool.or_eq_false_iff, Bool.and_eq_false_imp, Bool.not_eq_true, Bool.not_eq_false, Bool.not_true, Bool.not_false, Bool.not_eq_true', Bool.not_eq_false', Bool.or_false, Bool.false_or, Bool.or_true, Bool.true_or, Bool.and_true, Bool.true_and, reduceCtorEq] at ht) <;> (try contradiction)))
                  | ((with_reducible refine guardSplit (fun hg => ?_) (fun hg => ?_)) <;> (try simp only [Bool.not_true, Bool.not_false] at hg) <;> (have hc := hg) <;> simp -implicitDefEqProofs only [go_sem, hg] <;> (try simp only [decide_eq_true_eq, decide_eq_false_iff_not, beq_iff_eq, bne_iff_ne, beq_eq_false_iff_ne, bne_eq_false_iff_eq, Bool.or_eq_true, Bool.and_eq_true, Bool.or_eq_false_iff, Bool.and_eq_false_imp, Bool.not_eq_true, Bool.not_eq_false, Bool.not_true, Bool.not_false, Bool.not_eq_true', Bool.not_eq_false', Bool.or_false, Bool.false_or, Bool.or_true, Bool.true_or, Bool.and_true, Bool.true_and, reduceCtorEq] at hc) <;> (try contradiction)))
                refine SW.loop (α := { x : List Fld × List Nat × Nat × Int × Nat // x.2.2.1 ≤ b.length ∧ x.1.length ≤ 64 ∧ b.length - x.2.2.1 < x.2.2.2.2 ∧ fs = x.1 ++ (walkP b x.2.2.2.2 x.2.2.1 x.1.length x.2.2.2.1).1 ∧
                    ps = x.2.1 ++ placesP b x.2.2.2.2 x.2.2.1 x.1.length x.2.2.2.1 ∧ x.2.1.length = x.1.length ∧ (r = 0 → x.1.length = 0 ∨ (x.1.length : Int) < st) })
                  (fun x => St.ofG [(tm4, []), (tm, [(0, .sl true (bA b)), (2, .v (.int .u8 m)), (4, .ptr 4 []), (6, .ptr 6 []), (7, .ref 0 1 0 b.length false), (8, .ref 0 1 0 (b.length + 80) false), (9, .ptr 9 []), (10, .ptr 10 []), (13, .clo (.func 46) [] [.ptr 13 []]), (14, .ptr 14 []), (15, .ptr 15 [])]), (tmY, [(0, .yref 100)])] [(0, .ref 3 1 0 b.length false), (1, .yref 100), (6, .v (.int .i64 x.1.1.length)), (7, .v (.int .i64 x.1.2.2.2.1)), (8, .v (.int .i64 x.1.2.2.1))] [(0, .row 1 (bA (b ++ room 80))), (4, .var (.v (.int .i64 st))), (6, .var (.v (.bool false))), (9, .var (.ref 1 4 0 fs.length false)), (1, .row 4 (fs.map fO)), (10, .var (.ref 2 1 0 ps.length false)), (2, .row 1 (nA .i64 ps)), (13, .var (.ref 0 1 0 b.length false)), (15, .var (.v (.int .i64 r))), (100, .yld (recR ri .ready none)), (3, .row 1 (bA b)), (14, .var (.v (.int .i64 x.1.1.length)))] 128) (fun x => x.1.2.2.2.2)
                  ⟨([], [], 0, 0, b.length + 1), by dsimp only; omega, by simp, by dsimp only; omega, hf1, hp1, rfl, fun _ => .inl rfl⟩ (Weak.ofG [(0, 0), (4, 4), (6, 6), (9, 9), (1, 1), (10, 10), (2, 2), (13, 13), (14, 14), (15, 15), (100, 100), (3, 3)] (by rfl) ?_ ?_ ?_) fun ⟨⟨acc, pacc, p, last, k⟩, hp, hacc, hk, hw, hq, hpl, hst⟩ => ?_
                · simp -implicitDefEqProofs only [go_sem]
                  rfl
                · simp -implicitDefEqProofs only [go_sem]
                  rfl
                · simp -implicitDefEqProofs only [go_sem]
                  rfl
                · dsimp only at hp hacc hk hw hq hpl hst
                  have h7 := i64_one (a := acc.length) (by omega)
                  have hhead := head_FS false b p acc.length last (by omega) hp (by omega)
                  obtain ⟨k, rfl⟩ : ∃ k', k = k' + 1 := ⟨k - 1, by omega⟩
                  rw [walkP_next _ _ _ _ _ hp] at hw
                  rw [placesP] at hq
                  cases hh : headP b p acc.length last with
                  | error e =>
                    rw [hh] at hhead
                    simp only [headA, fO] at hhead
                    have hnx : (nextP b p acc.length last).2.2 = e := by unfold nextP; rw [hh]
                    have he := headP_err hh
                    rw [hnx, if_pos he] at hw
                    have hfa : fs = acc := by rw [hw]; split <;> simp
                    repeat' (first
                      | apply_assumption -exfalso -symm (transparency := .reducible) only [*]
                      | (refine ⟨_, _, hhead, ?_⟩ <;> (try simp -implicitDefEqProofs only [go_sem, h7]))
                      | (with_reducible refine And.intro ?_ ?_)
                      | (refine drawOf ?_; kernel_rfl)
                      | ((with_reducible refine opsF_id ?_); simp -implicitDefEqProofs only [go_sem, h7])
                      | ((with_reducible refine SW.id ?_); first | with_reducible refine SW.seqK fun K hK => ?_ | with_reducible refine SW.block ?_ | with_reducible refine SW.scope ?_ | ((first | with_reducible refine SW.skip ?_ | with_reducible refine SW.exit ?_ | with_reducible refine SW.label ?_ | with_reducible refine SW.ret ?_ | with_reducible refine SW.go MM ?_ | refine SW.goDrawF MM (by rfl) (by kernel_rfl) ?_); simp -implicitDefEqProofs only [go_sem, h7]) | (refine SW.cond (by simp -implicitDefEqProofs only [go_sem, h7]; rfl) (fun ht => ?_) (fun ht => ?_) <;> (try simp only [decide_eq_true_eq, decide_eq_false_iff_not, beq_iff_eq, bne_iff_ne, beq_eq_false_iff_ne, bne_eq_false_iff_eq, Bool.or_eq_true, Bool.and_eq_true, Bool.or_eq_false_iff, Bool.and_eq_false_imp, Bool.not_eq_true, Bool.not_eq_false, Bool.not_true, Bool.not_false, Bool.not_eq_true', Bool.not_eq_false', Bool.or_false, Bool.false_or, Bool.or_true, Bool.true_or, Bool.and_true, Bool.true_and, reduceCtorEq] at ht) <;> (try contradiction)))
                      | ((with_reducible refine guardSplit (fun hg => ?_) (fun hg => ?_)) <;> (try simp only [Bool.not_true, Bool.not_false] at hg) <;> (have hc := hg) <;> simp -implicitDefEqProofs only [go_sem, hg, h7] <;> (try simp only [decide_eq_true_eq, decide_eq_false_iff_not, beq_iff_eq, bne_iff_ne, beq_eq_false_iff_ne, bne_eq_false_iff_eq, Bool.or_eq_true, Bool.and_eq_true, Bool.or_eq_false_iff, Bool.and_eq_false_imp, Bool.not_eq_true, Bool.not_eq_false, Bool.not_true, Bool.not_false, Bool.not_eq_true', Bool.not_eq_false', Bool.or_false, Bool.false_or, Bool.or_true, Bool.true_or, Bool.and_true, Bool.true_and, reduceCtorEq] at hc) <;> (try contradiction)))
                    · exfalso; omega
                    · refine ⟨100, .ready, none, rfl, by simp, ?_⟩
                      simp -implicitDefEqProofs only [go_sem]
                      repeat' (first
                        | apply_assumption -exfalso -symm (transparency := .reducible) only [*]
                        | (with_reducible refine And.intro ?_ ?_)
                        | (refine drawOf ?_; kernel_rfl)
                        | ((with_reducible refine opsF_id ?_); simp -implicitDefEqProofs only [go_sem])
                        | ((with_reducible refine SW.id ?_); first | with_reducible refine SW.seqK fun K hK => ?_ | with_reducible refine SW.block ?_ | with_reducible refine SW.scope ?_ | ((first | with_reducible refine SW.skip ?_ | with_reducible refine SW.exit ?_ | with_reducible refine SW.label ?_ | with_reducible refine SW.ret ?_ | with_reducible refine SW.go MM ?_ | refine SW.goDrawF MM (by rfl) (by kernel_rfl) ?_); simp -implicitDefEqProofs only [go_sem]) | (refine SW.cond (by simp -implicitDefEqProofs only [go_sem]; rfl) (fun ht => ?_) (fun ht => ?_) <;> (try simp only [decide_eq_true_eq, decide_eq_false_iff_not, beq_iff_eq, bne_iff_ne, beq_eq_false_iff_ne, bne_eq_false_iff_eq, Bool.or_eq_true, Bool.and_eq_true, Bool.or_eq_false_iff, Bool.and_eq_false_imp, Bool.not_eq_true, Bool.not_eq_false, Bool.not_true, Bool.not_false, Bool.not_eq_true', Bool.not_eq_false', Bool.or_false, Bool.false_or, Bool.or_true, Bool.true_or, Bool.and_true, Bool.true_and, reduceCtorEq] at ht) <;> (try contradiction)))
                        | ((with_reducible refine guardSplit (fun hg => ?_) (fun hg => ?_)) <;> (try simp only [Bool.not_true, Bool.not_false] at hg) <;> (have hc := hg) <;> simp -implicitDefEqProofs only [go_sem, hg] <;> (try simp only [decide_eq_true_eq, decide_eq_false_iff_not, beq_iff_eq, bne_iff_ne, beq_eq_false_iff_ne, bne_eq_false_iff_eq, Bool.or_eq_true, Bool.and_eq_true, Bool.or_eq_false_iff, Bool.and_eq_false_imp, Bool.not_eq_true, Bool.not_eq_false, Bool.not_true, Bool.not_false, Bool.not_eq_true', Bool.not_eq_false', Bool.or_false, Bool.false_or, Bool.or_true, Bool.true_or, Bool.and_true, Bool.true_and, reduceCtorEq] at hc) <;> (try contradiction)))
                      refine ⟨⟨acc.length, by rw [hfa]; simp⟩, Weak.of [(0, 0), (4, 4), (6, 6), (9, 9), (1, 1), (10, 10), (2, 2), (13, 13), (14, 14), (15, 15)] (by rfl) ?_ ?_⟩
                      · simp -implicitDefEqProofs only [go_sem]
                        rfl
                      · simp -implicitDefEqProofs only [go_sem]
                    · refine ⟨100, .ready, none, rfl, by simp, ?_⟩
                      simp -implicitDefEqProofs only [go_sem]
                      repeat' (first
                        | apply_assumption -exfalso -symm (transparency := .reducible) only [*]
                        | (with_reducible refine And.intro ?_ ?_)
                        | (refine drawOf ?_; kernel_rfl)
                        | ((with_reducible refine opsF_id ?_); simp -implicitDefEqProofs only [go_sem])
                        | ((with_reducible refine SW.id ?_); first | with_reducible refine SW.seqK fun K hK => ?_ | with_reducible refine SW.block ?_ | with_reducible refine SW.scope ?_ | ((first | with_reducible refine SW.skip ?_ | with_reducible refine SW.exit ?_ | with_reducible refine SW.label ?_ | with_reducible refine SW.ret ?_ | with_reducible refine SW.go MM ?_ | refine SW.goDrawF MM (by rfl) (by kernel_rfl) ?_); simp -implicitDefEqProofs only [go_sem]) | (refine SW.cond (by simp -implicitDefEqProofs only [go_sem]; rfl) (fun ht => ?_) (fun ht => ?_) <;> (try simp only [decide_eq_true_eq, decide_eq_false_iff_not, beq_iff_eq, bne_iff_ne, beq_eq_false_iff_ne, bne_eq_false_iff_eq, Bool.or_eq_true, Bool.and_eq_true, Bool.or_eq_false_iff, Bool.and_eq_false_imp, Bool.not_eq_true, Bool.not_eq_false, Bool.not_true, Bool.not_false, Bool.not_eq_true', Bool.not_eq_false', Bool.or_false, Bool.false_or, Bool.or_true, Bool.true_or, Bool.and_true, Bool.true_and, reduceCtorEq] at ht) <;> (try contradiction)))
                        | ((with_reducible refine guardSplit (fun hg => ?_) (fun hg => ?_)) <;> (try simp only [Bool.not_true, Bool.not_false] at hg) <;> (have hc := hg) <;> simp -implicitDefEqProofs only [go_sem, hg] <;> (try simp only [decide_eq_true_eq, decide_eq_false_iff_not, beq_iff_eq, bne_iff_ne, beq_eq_false_iff_ne, bne_eq_false_iff_eq, Bool.or_eq_true, Bool.and_eq_true, Bool.or_eq_false_iff, Bool.and_eq_false_imp, Bool.not_eq_true, Bool.not_eq_false, Bool.not_true, Bool.not_false, Bool.not_eq_true', Bool.not_eq_false', Bool.or_false, Bool.false_or, Bool.or_true, Bool.true_or, Bool.and_true, Bool.true_and, reduceCtorEq] at hc) <;> (try contradiction)))
                      refine ⟨⟨acc.length, by rw [hfa]; simp⟩, Weak.of [(0, 0), (4, 4), (6, 6), (9, 9), (1, 1), (10, 10), (2, 2), (13, 13), (14, 14), (15, 15)] (by rfl) ?_ ?_⟩
                      · simp -implicitDefEqProofs only [go_sem]
                        rfl
                      · simp -implicitDefEqProofs only [go_sem]
                  | ok rr =>
                    obtain ⟨f, qq⟩ := rr
                    obtain ⟨no, ty, rfl, g1, g2, g3, g4, g5, g6, g7⟩ := headP_ok hp hh
                    have hval := value_FS false b ⟨no, ty, 0, []⟩ qq (by omega) h8 g6 (by dsimp only; omega) rfl rfl
                    obtain ⟨⟨f', e, er⟩, hv⟩ : ∃ r, valueP b ⟨no, ty, 0, []⟩ qq = r := ⟨_, rfl⟩
                    obtain ⟨v1, v2, v3, v4⟩ := valueP_ok g6 hv rfl
                    rw [hh] at hhead
                    simp only [headA, fO] at hhead
                    rw [hv] at hval
                    dsimp only at hval v1
                    have hnx : nextP b p acc.length last = if er ≠ 0 then (default, qq, er) else (f', e, 0) := by
                      unfold nextP
                      rw [hh]
                      dsimp only
                      rw [hv]
                      dsimp only
                      by_cases he : er = 0
                      · subst he
                        simp
                      · simp [he]
                    repeat' (first
                      | apply_assumption -exfalso -symm (transparency := .reducible) only [*]
                      | with_reducible refine SW.stopI 13 ?_
                      | (refine ⟨_, _, hhead, ?_⟩ <;> (try simp -implicitDefEqProofs only [go_sem, h7]))
                      | (refine ⟨_, _, hval, ?_⟩ <;> (try simp -implicitDefEqProofs only [go_sem, h7]))
                      | (with_reducible refine And.intro ?_ ?_)
                      | (refine drawOf ?_; kernel_rfl)
                      | ((with_reducible refine opsF_id ?_); simp -implicitDefEqProofs only [go_sem, h7])
                      | ((with_reducible refine SW.id ?_); first | with_reducible refine SW.seqK fun K hK => ?_ | with_reducible refine SW.block ?_ | with_reducible refine SW.scope ?_ | ((first | with_reducible refine SW.skip ?_ | with_reducible refine SW.exit ?_ | with_reducible refine SW.label ?_ | with_reducible refine SW.ret ?_ | with_reducible refine SW.go MM ?_ | refine SW.goDrawF MM (by rfl) (by kernel_rfl) ?_); simp -implicitDefEqProofs only [go_sem, h7]) | (refine SW.cond (by simp -implicitDefEqProofs only [go_sem, h7]; rfl) (fun ht => ?_) (fun ht => ?_) <;> (try simp only [decide_eq_true_eq, decide_eq_false_iff_not, beq_iff_eq, bne_iff_ne, beq_eq_false_iff_ne, bne_eq_false_iff_eq, Bool.or_eq_true, Bool.and_eq_true, Bool.or_eq_false_iff, Bool.and_eq_false_imp, Bool.not_eq_true, Bool.not_eq_false, Bool.not_true, Bool.not_false, Bool.not_eq_true', Bool.not_eq_false', Bool.or_false, Bool.false_or, Bool.or_true, Bool.true_or, Bool.and_true, Bool.true_and, reduceCtorEq] at ht) <;> (try contradiction)))
                      | ((with_reducible refine guardSplit (fun hg => ?_) (fun hg => ?_)) <;> (try simp only [Bool.not_true, Bool.not_false] at hg) <;> (have hc := hg) <;> simp -implicitDefEqProofs only [go_sem, hg, h7] <;> (try simp only [decide_eq_true_eq, decide_eq_false_iff_not, beq_iff_eq, bne_iff_ne, beq_eq_false_iff_ne, bne_eq_false_iff_eq, Bool.or_eq_true, Bool.and_eq_true, Bool.or_eq_false_iff, Bool.and_eq_false_imp, Bool.not_eq_true, Bool.not_eq_false, Bool.not_true, Bool.not_false, Bool.not_eq_true', Bool.not_eq_false', Bool.or_false, Bool.false_or, Bool.or_true, Bool.true_or, Bool.and_true, Bool.true_and, reduceCtorEq] at hc) <;> (try contradiction)))
                    · have he : er ≠ 0 := by omega
                      have hfa : fs = acc := by rw [hw, if_pos (by omega), hnx]; simp [he]
                      refine ⟨100, .ready, none, rfl, by simp, ?_⟩
                      simp -implicitDefEqProofs only [go_sem]
                      repeat' (first
                        | apply_assumption -exfalso -symm (transparency := .reducible) only [*]
                        | (with_reducible refine And.intro ?_ ?_)
                        | (refine drawOf ?_; kernel_rfl)
                        | ((with_reducible refine opsF_id ?_); simp -implicitDefEqProofs only [go_sem])
                        | ((with_reducible refine SW.id ?_); first | with_reducible refine SW.seqK fun K hK => ?_ | with_reducible refine SW.block ?_ | with_reducible refine SW.scope ?_ | ((first | with_reducible refine SW.skip ?_ | with_reducible refine SW.exit ?_ | with_reducible refine SW.label ?_ | with_reducible refine SW.ret ?_ | with_reducible refine SW.go MM ?_ | refine SW.goDrawF MM (by rfl) (by kernel_rfl) ?_); simp -implicitDefEqProofs only [go_sem]) | (refine SW.cond (by simp -implicitDefEqProofs only [go_sem]; rfl) (fun ht => ?_) (fun ht => ?_) <;> (try simp only [decide_eq_true_eq, decide_eq_false_iff_not, beq_iff_eq, bne_iff_ne, beq_eq_false_iff_ne, bne_eq_false_iff_eq, Bool.or_eq_true, Bool.and_eq_true, Bool.or_eq_false_iff, Bool.and_eq_false_imp, Bool.not_eq_true, Bool.not_eq_false, Bool.not_true, Bool.not_false, Bool.not_eq_true', Bool.not_eq_false', Bool.or_false, Bool.false_or, Bool.or_true, Bool.true_or, Bool.and_true, Bool.true_and, reduceCtorEq] at ht) <;> (try contradiction)))
                        | ((with_reducible refine guardSplit (fun hg => ?_) (fun hg => ?_)) <;> (try simp only [Bool.not_true, Bool.not_false] at hg) <;> (have hc := hg) <;> simp -implicitDefEqProofs only [go_sem, hg] <;> (try simp only [decide_eq_true_eq, decide_eq_false_iff_not, beq_iff_eq, bne_iff_ne, beq_eq_false_iff_ne, bne_eq_false_iff_eq, Bool.or_eq_true, Bool.and_eq_true, Bool.or_eq_false_iff, Bool.and_eq_false_imp, Bool.not_eq_true, Bool.not_eq_false, Bool.not_true, Bool.not_false, Bool.not_eq_true', Bool.not_eq_false', Bool.or_false, Bool.false_or, Bool.or_true, Bool.true_or, Bool.and_true, Bool.true_and, reduceCtorEq] at hc) <;> (try contradiction)))
                      refine ⟨⟨acc.length, by rw [hfa]; simp⟩, Weak.of [(0, 0), (4, 4), (6, 6), (9, 9), (1, 1), (10, 10), (2, 2), (13, 13), (14, 14), (15, 15)] (by rfl) ?_ ?_⟩
                      · simp -implicitDefEqProofs only [go_sem]
                        rfl
                      · simp -implicitDefEqProofs only [go_sem]
                    · obtain rfl : er = 0 := by omega
                      rw [if_neg (by simp)] at hnx
                      obtain ⟨x1, x2, x3, x4, _⟩ := nextP_ok hp hnx
                      rw [if_pos (by omega), hnx] at hw hq
                      simp only [ne_eq, not_true, if_false] at hw hq
                      refine Stop.go (SW.weak (st' := St.ofG [(tm4, []), (tm, [(0, .sl true (bA b)), (2, .v (.int .u8 m)), (4, .ptr 4 []), (6, .ptr 6 []), (7, .ref 0 1 0 b.length false), (8, .ref 0 1 0 (b.length + 80) false), (9, .ptr 9 []), (10, .ptr 10 []), (13, .clo (.func 46) [] [.ptr 13 []]), (14, .ptr 14 []), (15, .ptr 15 [])]), (tmY, [(0, .yref 100)])] [(0, .ref 3 1 0 b.length false), (1, .yref 100), (6, .v (.int .i64 acc.length)), (8, .v (.int .i64 p)), (9, .ptr 16 []), (12, .v (.int .i64 e))] [(0, .row 1 (bA (b ++ room 80))), (4, .var (.v (.int .i64 st))), (6, .var (.v (.bool false))), (9, .var (.ref 1 4 0 fs.length false)), (1, .row 4 (fs.map fO)), (10, .var (.ref 2 1 0 ps.length false)), (2, .row 1 (nA .i64 ps)), (13, .var (.ref 0 1 0 b.length false)), (15, .var (.v (.int .i64 r))), (100, .yld (recR ri .ready none)), (3, .row 1 (bA b)), (14, .var (.v (.int .i64 acc.length))), (16, .var (.agg [.v (.int .i64 f'.no), .v (.int .i64 f'.ty), .v (.int .u64 f'.num), .ref 17 1 0 (bA f'.data).length false])), (17, .row 1 (bA f'.data))] 128) (Weak.focus1 960 5000 5001 Hole.var (by simp -implicitDefEqProofs only [go_sem]) (fO_closed f') rfl (by simp -implicitDefEqProofs only [go_sem]) (by simp -implicitDefEqProofs only [go_sem]) rfl (Weak.ofG [(0, 0), (4, 4), (6, 6), (9, 9), (1, 1), (10, 10), (2, 2), (13, 13), (14, 14), (15, 15), (100, 100), (3, 3), (960, 16), (5000, 17)] (by rfl) ?_ ?_ ?_)) ?_)
                      · simp -implicitDefEqProofs only [go_sem]
                        rfl
                      · simp -implicitDefEqProofs only [go_sem]
                      · simp -implicitDefEqProofs only [go_sem]
                        rfl
                      refine SW.seqK fun K6 hK6 => SW.seqK fun K7 hK7 => SW.inlK MM 3 (by rfl) fun K8 hK8 => ?_
                      simp -implicitDefEqProofs only [go_sem]
                      refine InlOp.yieldM (tx := 45) (d := 100) (tm := tm) (slL := alook [(0, .sl true (bA b)), (2, .v (.int .u8 m)), (4, .ptr 4 []), (6, .ptr 6 []), (7, .ref 0 1 0 b.length false), (8, .ref 0 1 0 (b.length + 80) false), (9, .ptr 9 []), (10, .ptr 10 []), (13, .clo (.func 46) [] [.ptr 13 []]), (14, .ptr 14 []), (15, .ptr 15 [])]) (by simp -implicitDefEqProofs only [go_sem]) (by simp -implicitDefEqProofs only [go_sem]) rfl rfl (by simp -implicitDefEqProofs only [go_sem]) (by simp -implicitDefEqProofs only [go_sem]; rfl) (by simp -implicitDefEqProofs only [go_sem]) (by simp -implicitDefEqProofs only [go_sem]) (by simp -implicitDefEqProofs only [go_sem]) hri rfl (fun x hx => (by decide : ∀ x ∈ [47, 48], x < 170) x hx) fun tmI => ?_
                      have hfl : acc.length < fs.length := by rw [hw]; simp
                      have hpl2 : acc.length < ps.length := by rw [hq, ← hpl]; simp
                      have hpg : ps.getD acc.length 0 = p := by rw [hq, ← hpl]; simp [List.getD_eq_getElem?_getD]
                      have hfd : (fs.drop acc.length).take (acc.length + 1 - acc.length) = [f'] := by
                        rw [hw, List.drop_left, Nat.add_sub_cancel_left]
                        rfl
                      have hal := alike_FS false false false false [f'] ((fs.drop acc.length).take (acc.length + 1 - acc.length)) (by simp) (by rw [hfd]; simp) (by intro y hy; rcases List.mem_singleton.1 hy; omega) (by intro y hy; rw [hfd] at hy; rcases List.mem_singleton.1 hy; omega)
                      rw [decide_eq_true hfd.symm] at hal
                      have hge : decide ((acc.length : Int) ≥ (fs.length : Int)) = false := by simp; omega
                      have hne : ((p : Int) != ((ps.getD acc.length 0 : Nat) : Int)) = false := by rw [hpg]; simp
                      repeat' (first
                        | apply_assumption -exfalso -symm (transparency := .reducible) only [*]
                        | (refine ⟨_, _, hal, ?_⟩ <;> (try simp -implicitDefEqProofs only [go_sem, h7, hge, hne]))
                        | (with_reducible refine And.intro ?_ ?_)
                        | (refine drawOf ?_; kernel_rfl)
                        | ((with_reducible refine opsF_id ?_); simp -implicitDefEqProofs only [go_sem, h7, hge, hne])
                        | ((with_reducible refine SW.id ?_); first | with_reducible refine SW.seqK fun K hK => ?_ | with_reducible refine SW.block ?_ | with_reducible refine SW.scope ?_ | ((first | with_reducible refine SW.skip ?_ | with_reducible refine SW.exit ?_ | with_reducible refine SW.label ?_ | with_reducible refine SW.ret ?_ | with_reducible refine SW.go MM ?_ | refine SW.goDrawF MM (by rfl) (by kernel_rfl) ?_); simp -implicitDefEqProofs only [go_sem, h7, hge, hne]) | (refine SW.cond (by simp -implicitDefEqProofs only [go_sem, h7, hge, hne]; rfl) (fun ht => ?_) (fun ht => ?_) <;> (try simp only [decide_eq_true_eq, decide_eq_false_iff_not, beq_iff_eq, bne_iff_ne, beq_eq_false_iff_ne, bne_eq_false_iff_eq, Bool.or_eq_true, Bool.and_eq_true, Bool.or_eq_false_iff, Bool.and_eq_false_imp, Bool.not_eq_true, Bool.not_eq_false, Bool.not_true, Bool.not_false, Bool.not_eq_true', Bool.not_eq_false', Bool.or_false, Bool.false_or, Bool.or_true, Bool.true_or, Bool.and_true, Bool.true_and, reduceCtorEq] at ht) <;> (try contradiction)))
                        | ((with_reducible refine guardSplit (fun hg => ?_) (fun hg => ?_)) <;> (try simp only [Bool.not_true, Bool.not_false] at hg) <;> (have hc := hg) <;> simp -implicitDefEqProofs only [go_sem, hg, h7, hge, hne] <;> (try simp only [decide_eq_true_eq, decide_eq_false_iff_not, beq_iff_eq, bne_iff_ne, beq_eq_false_iff_ne, bne_eq_false_iff_eq, Bool.or_eq_true, Bool.and_eq_true, Bool.or_eq_false_iff, Bool.and_eq_false_imp, Bool.not_eq_true, Bool.not_eq_false, Bool.not_true, Bool.not_false, Bool.not_eq_true', Bool.not_eq_false', Bool.or_false, Bool.false_or, Bool.or_true, Bool.true_or, Bool.and_true, Bool.true_and, reduceCtorEq] at hc) <;> (try contradiction)))
                      all_goals first | omega | skip
                      · refine ⟨100, .done, some (.exit 2), rfl, by simp, ?_⟩
                        simp -implicitDefEqProofs only [go_sem]
                        repeat' (first
                          | apply_assumption -exfalso -symm (transparency := .reducible) only [*]
                          | (with_reducible refine And.intro ?_ ?_)
                          | (refine drawOf ?_; kernel_rfl)
                          | ((with_reducible refine opsF_id ?_); simp -implicitDefEqProofs only [go_sem])
                          | ((with_reducible refine SW.id ?_); first | with_reducible refine SW.seqK fun K hK => ?_ | with_reducible refine SW.block ?_ | with_reducible refine SW.scope ?_ | ((first | with_reducible refine SW.skip ?_ | with_reducible refine SW.exit ?_ | with_reducible refine SW.label ?_ | with_reducible refine SW.ret ?_ | with_reducible refine SW.go MM ?_ | refine SW.goDrawF MM (by rfl) (by kernel_rfl) ?_); simp -implicitDefEqProofs only [go_sem]) | (refine SW.cond (by simp -implicitDefEqProofs only [go_sem]; rfl) (fun ht => ?_) (fun ht => ?_) <;> (try simp only [decide_eq_true_eq, decide_eq_false_iff_not, beq_iff_eq, bne_iff_ne, beq_eq_false_iff_ne, bne_eq_false_iff_eq, Bool.or_eq_true, Bool.and_eq_true, Bool.or_eq_false_iff, Bool.and_eq_false_imp, Bool.not_eq_true, Bool.not_eq_false, Bool.not_true, Bool.not_false, Bool.not_eq_true', Bool.not_eq_false', Bool.or_false, Bool.false_or, Bool.or_true, Bool.true_or, Bool.and_true, Bool.true_and, reduceCtorEq] at ht) <;> (try contradiction)))
                          | ((with_reducible refine guardSplit (fun hg => ?_) (fun hg => ?_)) <;> (try simp only [Bool.not_true, Bool.not_false] at hg) <;> (have hc := hg) <;> simp -implicitDefEqProofs only [go_sem, hg] <;> (try simp only [decide_eq_true_eq, decide_eq_false_iff_not, beq_iff_eq, bne_iff_ne, beq_eq_false_iff_ne, bne_eq_false_iff_eq, Bool.or_eq_true, Bool.and_eq_true, Bool.or_eq_false_iff, Bool.and_eq_false_imp, Bool.not_eq_true, Bool.not_eq_false, Bool.not_true, Bool.not_false, Bool.not_eq_true', Bool.not_eq_false', Bool.or_false, Bool.false_or, Bool.or_true, Bool.true_or, Bool.and_true, Bool.true_and, reduceCtorEq] at hc) <;> (try contradiction)))
                        refine ⟨⟨acc.length + 1, by omega, by omega⟩, Weak.of [(0, 0), (4, 4), (6, 6), (9, 9), (1, 1), (10, 10), (2, 2), (13, 13), (14, 14), (15, 15)] (by rfl) ?_ ?_⟩
                        · simp -implicitDefEqProofs only [go_sem]
                          rfl
                        · simp -implicitDefEqProofs only [go_sem]
                      all_goals
                        refine ⟨⟨(acc ++ [f'], pacc ++ [p], e, f'.no, k), by dsimp only; omega, by simp; omega, by dsimp only; omega, by dsimp only; rw [hw]; simp, by dsimp only; rw [hq]; simp, by simp; omega, fun hr => by simp; omega⟩, Weak.ofG [(0, 0), (4, 4), (6, 6), (9, 9), (1, 1), (10, 10), (2, 2), (13, 13), (14, 14), (15, 15), (100, 100), (3, 3)] (by rfl) ?_ ?_ ?_, by dsimp only; omega⟩
                        · simp -implicitDefEqProofs only [go_sem]
                          rfl
                        · simp -implicitDefEqProofs only [go_sem, h7, List.length_append, List.length_singleton]
                        · simp -implicitDefEqProofs only [go_sem, List.length_append, List.length_singleton]
                    · have hfa : fs = acc := by rw [hw, if_neg (by omega)]; simp
                      refine ⟨100, .ready, none, rfl, by simp, ?_⟩
                      simp -implicitDefEqProofs only [go_sem]
                      repeat' (first
                        | apply_assumption -exfalso -symm (transparency := .reducible) only [*]
                        | (with_reducible refine And.intro ?_ ?_)
                        | (refine drawOf ?_; kernel_rfl)
                        | ((with_reducible refine opsF_id ?_); simp -implicitDefEqProofs only [go_sem])
                        | ((with_reducible refine SW.id ?_); first | with_reducible refine SW.seqK fun K hK => ?_ | with_reducible refine SW.block ?_ | with_reducible refine SW.scope ?_ | ((first | with_reducible refine SW.skip ?_ | with_reducible refine SW.exit ?_ | with_reducible refine SW.label ?_ | with_reducible refine SW.ret ?_ | with_reducible refine SW.go MM ?_ | refine SW.goDrawF MM (by rfl) (by kernel_rfl) ?_); simp -implicitDefEqProofs only [go_sem]) | (refine SW.cond (by simp -implicitDefEqProofs only [go_sem]; rfl) (fun ht => ?_) (fun ht => ?_) <;> (try simp only [decide_eq_true_eq, decide_eq_false_iff_not, beq_iff_eq, bne_iff_ne, beq_eq_false_iff_ne, bne_eq_false_iff_eq, Bool.or_eq_true, Bool.and_eq_true, Bool.or_eq_false_iff, Bool.and_eq_false_imp, Bool.not_eq_true, Bool.not_eq_false, Bool.not_true, Bool.not_false, Bool.not_eq_true', Bool.not_eq_false', Bool.or_false, Bool.false_or, Bool.or_true, Bool.true_or, Bool.and_true, Bool.true_and, reduceCtorEq] at ht) <;> (try contradiction)))
                        | ((with_reducible refine guardSplit (fun hg => ?_) (fun hg => ?_)) <;> (try simp only [Bool.not_true, Bool.not_false] at hg) <;> (have hc := hg) <;> simp -implicitDefEqProofs only [go_sem, hg] <;> (try simp only [decide_eq_true_eq, decide_eq_false_iff_not, beq_iff_eq, bne_iff_ne, beq_eq_false_iff_ne, bne_eq_false_iff_eq, Bool.or_eq_true, Bool.and_eq_true, Bool.or_eq_false_iff, Bool.and_eq_false_imp, Bool.not_eq_true, Bool.not_eq_false, Bool.not_true, Bool.not_false, Bool.not_eq_true', Bool.not_eq_false', Bool.or_false, Bool.false_or, Bool.or_true, Bool.true_or, Bool.and_true, Bool.true_and, reduceCtorEq] at hc) <;> (try contradiction)))
                      refine ⟨⟨acc.length, by rw [hfa]; simp⟩, Weak.of [(0, 0), (4, 4), (6, 6), (9, 9), (1, 1), (10, 10), (2, 2), (13, 13), (14, 14), (15, 15)] (by rfl) ?_ ?_⟩
                      · simp -implicitDefEqProofs only [go_sem]
                        rfl
                      · simp -implicitDefEqProofs only [go_sem]
          · repeat' (first
              | apply_assumption -exfalso -symm (transparency := .reducible) only [*]
              | (with_reducible refine And.intro ?_ ?_)
              | (refine drawOf ?_; kernel_rfl)
              | ((with_reducible refine opsF_id ?_); simp -implicitDefEqProofs only [go_sem, h5])
              | ((with_reducible refine SW.id ?_); first | with_reducible refine SW.seqK fun K hK => ?_ | with_reducible refine SW.block ?_ | with_reducible refine SW.scope ?_ | ((first | with_reducible refine SW.skip ?_ | with_reducible refine SW.exit ?_ | with_reducible refine SW.label ?_ | with_reducible refine SW.ret ?_ | with_reducible refine SW.go MM ?_ | refine SW.goDrawF MM (by rfl) (by kernel_rfl) ?_); simp -implicitDefEqProofs only [go_sem, h5]) | (refine SW.cond (by simp -implicitDefEqProofs only [go_sem, h5]; rfl) (fun ht => ?_) (fun ht => ?_) <;> (try simp only [decide_eq_true_eq, decide_eq_false_iff_not, beq_iff_eq, bne_iff_ne, beq_eq_false_iff_ne, bne_eq_false_iff_eq, Bool.or_eq_true, Bool.and_eq_true, Bool.or_eq_false_iff, Bool.and_eq_false_imp, Bool.not_eq_true, Bool.not_eq_false, Bool.not_true, Bool.not_false, Bool.not_eq_true', Bool.not_eq_false', Bool.or_false, Bool.false_or, Bool.or_true, Bool.true_or, Bool.and_true, Bool.true_and, reduceCtorEq] at ht) <;> (try contradiction)))
              | ((with_reducible refine guardSplit (fun hg => ?_) (fun hg => ?_)) <;> (try simp only [Bool.not_true, Bool.not_false] at hg) <;> (have hc := hg) <;> simp -implicitDefEqProofs only [go_sem, hg, h5] <;> (try simp only [decide_eq_true_eq, decide_eq_false_iff_not, beq_iff_eq, bne_iff_ne, beq_eq_false_iff_ne, bne_eq_false_iff_eq, Bool.or_eq_true, Bool.and_eq_true, Bool.or_eq_false_iff, Bool.and_eq_false_imp, Bool.not_eq_true, Bool.not_eq_false, Bool.not_true, Bool.not_false, Bool.not_eq_true', Bool.not_eq_false', Bool.or_false, Bool.false_or, Bool.or_true, Bool.true_or, Bool.and_true, Bool.true_and, reduceCtorEq] at hc) <;> (try contradiction)))
            any_goals (exfalso; omega)
            all_goals
              refine ⟨⟨(r + 1, v2), by dsimp only; omega, by dsimp only; omega⟩, Weak.of [(0, 0), (4, 4), (6, 6), (9, 9), (1, 1), (10, 10), (2, 2), (13, 13), (14, 14), (1536, 15)] (by rfl) ?_ ?_, by dsimp only; omega⟩
              · simp -implicitDefEqProofs only [go_sem]
                rfl
              · simp -implicitDefEqProofs only [go_sem, h5]
        · obtain rfl : r = 2 := by omega
          rw [hrv rfl]
          refine ⟨(), Weak.of [(0, 0), (4, 4), (6, 6), (9, 9), (1, 1), (10, 10), (2, 2), (13, 13), (14, 14)] (by rfl) ?_ ?_⟩
          · simp -implicitDefEqProofs only [go_sem]
            rfl
          · simp -implicitDefEqProofs only [go_sem]
    · have hl80 : b.length + 80 = (b ++ room 80).length := by simp [room_length]
      have hk := kept_FS false true b (by omega)
      repeat' (first
        | apply_assumption -exfalso -symm (transparency := .reducible) only [*]
        | with_reducible refine SW.stopR 24 ?_
        | (refine ⟨_, _, hk, ?_⟩ <;> (try simp -implicitDefEqProofs only [go_sem, hl80]))
        | (with_reducible refine And.intro ?_ ?_)
        | (refine drawOf ?_; kernel_rfl)
        | ((with_reducible refine opsF_id ?_); simp -implicitDefEqProofs only [go_sem, hl80])
        | ((with_reducible refine SW.id ?_); first | with_reducible refine SW.seqK fun K hK => ?_ | with_reducible refine SW.block ?_ | with_reducible refine SW.scope ?_ | ((first | with_reducible refine SW.skip ?_ | with_reducible refine SW.exit ?_ | with_reducible refine SW.label ?_ | with_reducible refine SW.ret ?_ | with_reducible refine SW.go MM ?_ | refine SW.goDrawF MM (by rfl) (by kernel_rfl) ?_); simp -implicitDefEqProofs only [go_sem, hl80]) | (refine SW.cond (by simp -implicitDefEqProofs only [go_sem, hl80]; rfl) (fun ht => ?_) (fun ht => ?_) <;> (try simp only [decide_eq_true_eq, decide_eq_false_iff_not, beq_iff_eq, bne_iff_ne, beq_eq_false_iff_ne, bne_eq_false_iff_eq, Bool.or_eq_true, Bool.and_eq_true, Bool.or_eq_false_iff, Bool.and_eq_false_imp, Bool.not_eq_true, Bool.not_eq_false, Bool.not_true, Bool.not_false, Bool.not_eq_true', Bool.not_eq_false', Bool.or_false, Bool.false_or, Bool.or_true, Bool.true_or, Bool.and_true, Bool.true_and, reduceCtorEq] at ht) <;> (try contradiction)))
        | ((with_reducible refine guardSplit (fun hg => ?_) (fun hg => ?_)) <;> (try simp only [Bool.not_true, Bool.not_false] at hg) <;> (have hc := hg) <;> simp -implicitDefEqProofs only [go_sem, hg, hl80] <;> (try simp only [decide_eq_true_eq, decide_eq_false_iff_not, beq_iff_eq, bne_iff_ne, beq_eq_false_iff_ne, bne_eq_false_iff_eq, Bool.or_eq_true, Bool.and_eq_true, Bool.or_eq_false_iff, Bool.and_eq_false_imp, Bool.not_eq_true, Bool.not_eq_false, Bool.not_true, Bool.not_false, Bool.not_eq_true', Bool.not_eq_false', Bool.or_false, Bool.false_or, Bool.or_true, Bool.true_or, Bool.and_true, Bool.true_and, reduceCtorEq] at hc) <;> (try contradiction)))
      refine Stop.go (SW.weak (Weak.of [(0, 0), (6, 6), (13, 13), (14, 14)] (sls := [(0, .sl true (bA b)), (2, .v (.int .u8 m)), (6, .ptr 6 []), (7, .ref 0 1 0 b.length false), (13, .clo (.func 46) [] [.ptr 13 []]), (14, .ptr 14 [])])
        (bks := [(0, .row 1 (bA (b ++ room 80))), (6, .var (.v (.bool false))), (13, .var (.ref 0 1 0 b.length false)), (14, .var (.v (.int .i64 fs.length)))]) (ep := 64) (by rfl) ?_ ?_) ?_)
      · simp -implicitDefEqProofs only [go_sem]
        rfl
      · simp -implicitDefEqProofs only [go_sem]
      repeat' (first
        | apply_assumption -exfalso -symm (transparency := .reducible) only [*]
        | with_reducible refine SW.stopI 25 ?_
        | (with_reducible refine And.intro ?_ ?_)
        | (refine drawOf ?_; kernel_rfl)
        | ((with_reducible refine opsF_id ?_); simp -implicitDefEqProofs only [go_sem])
        | ((with_reducible refine SW.id ?_); first | with_reducible refine SW.seqK fun K hK => ?_ | with_reducible refine SW.block ?_ | with_reducible refine SW.scope ?_ | ((first | with_reducible refine SW.skip ?_ | with_reducible refine SW.exit ?_ | with_reducible refine SW.label ?_ | with_reducible refine SW.ret ?_ | with_reducible refine SW.go MM ?_ | refine SW.goDrawF MM (by rfl) (by kernel_rfl) ?_); simp -implicitDefEqProofs only [go_sem]) | (refine SW.cond (by simp -implicitDefEqProofs only [go_sem]; rfl) (fun ht => ?_) (fun ht => ?_) <;> (try simp only [decide_eq_true_eq, decide_eq_false_iff_not, beq_iff_eq, bne_iff_ne, beq_eq_false_iff_ne, bne_eq_false_iff_eq, Bool.or_eq_true, Bool.and_eq_true, Bool.or_eq_false_iff, Bool.and_eq_false_imp, Bool.not_eq_true, Bool.not_eq_false, Bool.not_true, Bool.not_false, Bool.not_eq_true', Bool.not_eq_false', Bool.or_false, Bool.false_or, Bool.or_true, Bool.true_or, Bool.and_true, Bool.true_and, reduceCtorEq] at ht) <;> (try contradiction)))
        | ((with_reducible refine guardSplit (fun hg => ?_) (fun hg => ?_)) <;> (try simp only [Bool.not_true, Bool.not_false] at hg) <;> (have hc := hg) <;> simp -implicitDefEqProofs only [go_sem, hg] <;> (try simp only [decide_eq_true_eq, decide_eq_false_iff_not, beq_iff_eq, bne_iff_ne, beq_eq_false_iff_ne, bne_eq_false_iff_eq, Bool.or_eq_true, Bool.and_eq_true, Bool.or_eq_false_iff, Bool.and_eq_false_imp, Bool.not_eq_true, Bool.not_eq_false, Bool.not_true, Bool.not_false, Bool.not_eq_true', Bool.not_eq_false', Bool.or_false, Bool.false_or, Bool.or_true, Bool.true_or, Bool.and_true, Bool.true_and, reduceCtorEq] at hc) <;> (try contradiction)))
      any_goals solve | exact roomy_of (by omega) (by decide)
      refine Stop.go ?_
      refine SW.cutS (γ := Unit) (fun _ => St.of [(6, .ptr 6 []), (13, .clo (.func 46) [] [.ptr 13 []]), (14, .ptr 14 []), (18, .ref 1 1 0 b.length false)] [(0, .row 1 (bA (b.map (xorN m) ++ room 80))), (6, .var (.v (.bool false))), (13, .var (.ref 0 1 0 b.length false)), (14, .var (.v (.int .i64 fs.length))), (1, .row 1 (bA (b.map (xorN m))))] 64) (fun K hK => ?_) fun _ => ?_
      · repeat' (first
          | apply_assumption -exfalso -symm (transparency := .reducible) only [*]
          | (with_reducible refine And.intro ?_ ?_)
          | (refine drawOf ?_; kernel_rfl)
          | ((with_reducible refine opsF_id ?_); simp -implicitDefEqProofs only [go_sem])
          | ((with_reducible refine SW.id ?_); first | with_reducible refine SW.seqK fun K hK => ?_ | with_reducible refine SW.block ?_ | with_reducible refine SW.scope ?_ | ((first | with_reducible refine SW.skip ?_ | with_reducible refine SW.exit ?_ | with_reducible refine SW.label ?_ | with_reducible refine SW.ret ?_ | with_reducible refine SW.go MM ?_ | refine SW.goDrawF MM (by rfl) (by kernel_rfl) ?_); simp -implicitDefEqProofs only [go_sem]) | (refine SW.cond (by simp -implicitDefEqProofs only [go_sem]; rfl) (fun ht => ?_) (fun ht => ?_) <;> (try simp only [decide_eq_true_eq, decide_eq_false_iff_not, beq_iff_eq, bne_iff_ne, beq_eq_false_iff_ne, bne_eq_false_iff_eq, Bool.or_eq_true, Bool.and_eq_true, Bool.or_eq_false_iff, Bool.and_eq_false_imp, Bool.not_eq_true, Bool.not_eq_false, Bool.not_true, Bool.not_false, Bool.not_eq_true', Bool.not_eq_false', Bool.or_false, Bool.false_or, Bool.or_true, Bool.true_or, Bool.and_true, Bool.true_and, reduceCtorEq] at ht) <;> (try contradiction)))
          | ((with_reducible refine guardSplit (fun hg => ?_) (fun hg => ?_)) <;> (try simp only [Bool.not_true, Bool.not_false] at hg) <;> (have hc := hg) <;> simp -implicitDefEqProofs only [go_sem, hg] <;> (try simp only [decide_eq_true_eq, decide_eq_false_iff_not, beq_iff_eq, bne_iff_ne, beq_eq_false_iff_ne, bne_eq_false_iff_eq, Bool.or_eq_true, Bool.and_eq_true, Bool.or_eq_false_iff, Bool.and_eq_false_imp, Bool.not_eq_true, Bool.not_eq_false, Bool.not_true, Bool.not_false, Bool.not_eq_true', Bool.not_eq_false', Bool.or_false, Bool.false_or, Bool.or_true, Bool.true_or, Bool.and_true, Bool.true_and, reduceCtorEq] at hc) <;> (try contradiction)))
        refine SW.loop (α := { i : Nat // i ≤ b.length }) (fun i => St.of [(2, .v (.int .u8 m)), (6, .ptr 6 []), (7, .ref 0 1 0 b.length false), (13, .clo (.func 46) [] [.ptr 13 []]), (14, .ptr 14 []), (18, .ref 1 1 0 b.length false), (19, .v (.int .i64 i.1))]
          [(0, .row 1 (bA (mixP (xorN m) b i.1 ++ room 80))), (6, .var (.v (.bool false))), (13, .var (.ref 0 1 0 b.length false)), (14, .var (.v (.int .i64 fs.length))), (1, .row 1 (bA (mixP (xorN m) b i.1)))] 64) (fun i => b.length - i.1) ⟨0, by omega⟩ (Weak.of [(0, 0), (6, 6), (13, 13), (14, 14), (192, 1)] (by rfl) ?_ ?_) fun ⟨i, hi⟩ => ?_
        · simp -implicitDefEqProofs only [go_sem]
          exact ⟨rfl, rfl⟩
        · have h0 : mixP (xorN m) b 0 = b := by simp [mixP]
          simp -implicitDefEqProofs only [go_sem, h0]
        · have h5 := i64_one (a := i) (by omega)
          have hxr := xorN_ok m
          have hml := mixP_len (xorN m) b i
          have hml2 := mixP_len (xorN m) b (i + 1)
          by_cases hib : i < b.length
          · have hg := mixP_get (xorN m) b hib
            have hs := mixP_set (xorN m) b hib
            have hn := mixP_next (xorN m) b hib
            have hap : (mixP (xorN m) b i ++ room 80).set i (xorN m (b.getD i 0)) = mixP (xorN m) b (i + 1) ++ room 80 := by rw [List.set_append_left _ _ (by omega), hs]
            repeat' (first
              | apply_assumption -exfalso -symm (transparency := .reducible) only [*]
              | (with_reducible refine And.intro ?_ ?_)
              | (refine drawOf ?_; kernel_rfl)
              | ((with_reducible refine opsF_id ?_); simp -implicitDefEqProofs only [go_sem, h5, hxr, hg, hs, hn, hap])
              | ((with_reducible refine SW.id ?_); first | with_reducible refine SW.seqK fun K hK => ?_ | with_reducible refine SW.block ?_ | with_reducible refine SW.scope ?_ | ((first | with_reducible refine SW.skip ?_ | with_reducible refine SW.exit ?_ | with_reducible refine SW.label ?_ | with_reducible refine SW.ret ?_ | with_reducible refine SW.go MM ?_ | refine SW.goDrawF MM (by rfl) (by kernel_rfl) ?_); simp -implicitDefEqProofs only [go_sem, h5, hxr, hg, hs, hn, hap]) | (refine SW.cond (by simp -implicitDefEqProofs only [go_sem, h5, hxr, hg, hs, hn, hap]; rfl) (fun ht => ?_) (fun ht => ?_) <;> (try simp only [decide_eq_true_eq, decide_eq_false_iff_not, beq_iff_eq, bne_iff_ne, beq_eq_false_iff_ne, bne_eq_false_iff_eq, Bool.or_eq_true, Bool.and_eq_true, Bool.or_eq_false_iff, Bool.and_eq_false_imp, Bool.not_eq_true, Bool.not_eq_false, Bool.not_true, Bool.not_false, Bool.not_eq_true', Bool.not_eq_false', Bool.or_false, Bool.false_or, Bool.or_true, Bool.true_or, Bool.and_true, Bool.true_and, reduceCtorEq] at ht) <;> (try contradiction)))
              | ((with_reducible refine guardSplit (fun hg => ?_) (fun hg => ?_)) <;> (try simp only [Bool.not_true, Bool.not_false] at hg) <;> (have hc := hg) <;> simp -implicitDefEqProofs only [go_sem, hg, h5, hxr, hg, hs, hn, hap] <;> (try simp only [decide_eq_true_eq, decide_eq_false_iff_not, beq_iff_eq, bne_iff_ne, beq_eq_false_iff_ne, bne_eq_false_iff_eq, Bool.or_eq_true, Bool.and_eq_true, Bool.or_eq_false_iff, Bool.and_eq_false_imp, Bool.not_eq_true, Bool.not_eq_false, Bool.not_true, Bool.not_false, Bool.not_eq_true', Bool.not_eq_false', Bool.or_false, Bool.false_or, Bool.or_true, Bool.true_or, Bool.and_true, Bool.true_and, reduceCtorEq] at hc) <;> (try contradiction)))
            all_goals first | omega | skip
            · simp only [List.length_append]; omega
            · refine ⟨⟨i + 1, by omega⟩, Weak.of [(0, 0), (6, 6), (13, 13), (14, 14), (1, 1)] (by rfl) ?_ ?_, by dsimp only; omega⟩
              · simp -implicitDefEqProofs only [go_sem, h5]
                rfl
              · simp -implicitDefEqProofs only [go_sem]
          · repeat' (first
              | apply_assumption -exfalso -symm (transparency := .reducible) only [*]
              | (with_reducible refine And.intro ?_ ?_)
              | (refine drawOf ?_; kernel_rfl)
              | ((with_reducible refine opsF_id ?_); simp -implicitDefEqProofs only [go_sem])
              | ((with_reducible refine SW.id ?_); first | with_reducible refine SW.seqK fun K hK => ?_ | with_reducible refine SW.block ?_ | with_reducible refine SW.scope ?_ | ((first | with_reducible refine SW.skip ?_ | with_reducible refine SW.exit ?_ | with_reducible refine SW.label ?_ | with_reducible refine SW.ret ?_ | with_reducible refine SW.go MM ?_ | refine SW.goDrawF MM (by rfl) (by kernel_rfl) ?_); simp -implicitDefEqProofs only [go_sem]) | (refine SW.cond (by simp -implicitDefEqProofs only [go_sem]; rfl) (fun ht => ?_) (fun ht => ?_) <;> (try simp only [decide_eq_true_eq, decide_eq_false_iff_not, beq_iff_eq, bne_iff_ne, beq_eq_false_iff_ne, bne_eq_false_iff_eq, Bool.or_eq_true, Bool.and_eq_true, Bool.or_eq_false_iff, Bool.and_eq_false_imp, Bool.not_eq_true, Bool.not_eq_false, Bool.not_true, Bool.not_false, Bool.not_eq_true', Bool.not_eq_false', Bool.or_false, Bool.false_or, Bool.or_true, Bool.true_or, Bool.and_true, Bool.true_and, reduceCtorEq] at ht) <;> (try contradiction)))
              | ((with_reducible refine guardSplit (fun hg => ?_) (fun hg => ?_)) <;> (try simp only [Bool.not_true, Bool.not_false] at hg) <;> (have hc := hg) <;> simp -implicitDefEqProofs only [go_sem, hg] <;> (try simp only [decide_eq_true_eq, decide_eq_false_iff_not, beq_iff_eq, bne_iff_ne, beq_eq_false_iff_ne, bne_eq_false_iff_eq, Bool.or_eq_true, Bool.and_eq_true, Bool.or_eq_false_iff, Bool.and_eq_false_imp, Bool.not_eq_true, Bool.not_eq_false, Bool.not_true, Bool.not_false, Bool.not_eq_true', Bool.not_eq_false', Bool.or_false, Bool.false_or, Bool.or_true, Bool.true_or, Bool.and_true, Bool.true_and, reduceCtorEq] at hc) <;> (try contradiction)))
            any_goals (exfalso; omega)
            obtain rfl : i = b.length := by omega
            refine ⟨(), Weak.of [(0, 0), (6, 6), (13, 13), (14, 14), (1, 1)] (by rfl) ?_ ?_⟩
            · simp -implicitDefEqProofs only [go_sem]
              rfl
            · simp -implicitDefEqProofs only [go_sem, mixP_all]
      · obtain ⟨d, hd⟩ : ∃ d, b.map (xorN m) = d := ⟨_, rfl⟩
        have hdl : b.length = d.length := by rw [← hd]; simp
        have hd8 : ∀ x ∈ d, x < 256 := by rw [← hd]; intro x hx; obtain ⟨y, _, rfl⟩ := List.mem_map.1 hx; exact xorN_lt m y
        have hdb : d.length < 2 ^ 30 := by omega
        rw [hd, hdl]
        have hwh2 := whole_FS false d (by omega) hd8
        obtain ⟨⟨fs2, wp2, we2⟩, hwd2⟩ : ∃ r, walkD d = r := ⟨_, rfl⟩
        obtain ⟨ps2, hps2⟩ : ∃ r, placesD d = r := ⟨_, rfl⟩
        rw [hwd2, hps2] at hwh2
        dsimp only at hwh2
        have htd : d.take d.length = d := List.take_length
        repeat' (first
          | apply_assumption -exfalso -symm (transparency := .reducible) only [*]
          | with_reducible refine SW.stopI 32 ?_
          | (refine ⟨_, _, hwh2, ?_⟩ <;> (try simp -implicitDefEqProofs only [go_sem, htd]))
          | (with_reducible refine And.intro ?_ ?_)
          | (refine drawOf ?_; kernel_rfl)
          | ((with_reducible refine opsF_id ?_); simp -implicitDefEqProofs only [go_sem, htd])
          | ((with_reducible refine SW.id ?_); first | with_reducible refine SW.seqK fun K hK => ?_ | with_reducible refine SW.block ?_ | with_reducible refine SW.scope ?_ | ((first | with_reducible refine SW.skip ?_ | with_reducible refine SW.exit ?_ | with_reducible refine SW.label ?_ | with_reducible refine SW.ret ?_ | with_reducible refine SW.go MM ?_ | refine SW.goDrawF MM (by rfl) (by kernel_rfl) ?_); simp -implicitDefEqProofs only [go_sem, htd]) | (refine SW.cond (by simp -implicitDefEqProofs only [go_sem, htd]; rfl) (fun ht => ?_) (fun ht => ?_) <;> (try simp only [decide_eq_true_eq, decide_eq_false_iff_not, beq_iff_eq, bne_iff_ne, beq_eq_false_iff_ne, bne_eq_false_iff_eq, Bool.or_eq_true, Bool.and_eq_true, Bool.or_eq_false_iff, Bool.and_eq_false_imp, Bool.not_eq_true, Bool.not_eq_false, Bool.not_true, Bool.not_false, Bool.not_eq_true', Bool.not_eq_false', Bool.or_false, Bool.false_or, Bool.or_true, Bool.true_or, Bool.and_true, Bool.true_and, reduceCtorEq] at ht) <;> (try contradiction)))
          | ((with_reducible refine guardSplit (fun hg => ?_) (fun hg => ?_)) <;> (try simp only [Bool.not_true, Bool.not_false] at hg) <;> (have hc := hg) <;> simp -implicitDefEqProofs only [go_sem, hg, htd] <;> (try simp only [decide_eq_true_eq, decide_eq_false_iff_not, beq_iff_eq, bne_iff_ne, beq_eq_false_iff_ne, bne_eq_false_iff_eq, Bool.or_eq_true, Bool.and_eq_true, Bool.or_eq_false_iff, Bool.and_eq_false_imp, Bool.not_eq_true, Bool.not_eq_false, Bool.not_true, Bool.not_false, Bool.not_eq_true', Bool.not_eq_false', Bool.or_false, Bool.false_or, Bool.or_true, Bool.true_or, Bool.and_true, Bool.true_and, reduceCtorEq] at hc) <;> (try contradiction)))
        all_goals first | omega | skip
        refine Stop.go ?_
        refine SW.cutS (γ := Unit) (fun _ => St.of [(6, .ptr 6 []), (14, .ptr 14 []), (20, .ptr 20 [])] [(6, .var (.v (.bool false))), (14, .var (.v (.int .i64 fs2.length))), (20, .var (.ref 1 4 0 fs2.length false)), (1, .row 4 (fs2.map fO))] 64) (fun K hK => ?_) fun _ => ?_
        · refine SW.weak (st' := St.of [(6, .ptr 6 []), (13, .clo (.func 46) [] [.ptr 13 []]), (14, .ptr 14 []), (20, .ptr 20 [])] [(0, .row 1 (bA (d ++ room 80))), (6, .var (.v (.bool false))), (13, .var (.ref 0 1 0 d.length false)), (20, .var (.ref 1 4 0 fs2.length false)), (1, .row 4 (fs2.map fO)), (14, .var (.v (.int .i64 0)))] 64) (Weak.of [(0, 0), (6, 6), (13, 13), (14, 14), (512, 20), (128, 1)] (by rfl) ?_ ?_) ?_
          · simp -implicitDefEqProofs only [go_sem]
            rfl
          · simp -implicitDefEqProofs only [go_sem]
          repeat' (first
            | apply_assumption -exfalso -symm (transparency := .reducible) only [*]
            | (with_reducible refine And.intro ?_ ?_)
            | (refine drawOf ?_; kernel_rfl)
            | ((with_reducible refine opsF_id ?_); simp -implicitDefEqProofs only [go_sem])
            | ((with_reducible refine SW.id ?_); first | with_reducible refine SW.seqK fun K hK => ?_ | with_reducible refine SW.block ?_ | with_reducible refine SW.scope ?_ | ((first | with_reducible refine SW.skip ?_ | with_reducible refine SW.exit ?_ | with_reducible refine SW.label ?_ | with_reducible refine SW.ret ?_ | with_reducible refine SW.go MM ?_ | refine SW.goDrawF MM (by rfl) (by kernel_rfl) ?_); simp -implicitDefEqProofs only [go_sem]) | (refine SW.cond (by simp -implicitDefEqProofs only [go_sem]; rfl) (fun ht => ?_) (fun ht => ?_) <;> (try simp only [decide_eq_true_eq, decide_eq_false_iff_not, beq_iff_eq, bne_iff_ne, beq_eq_false_iff_ne, bne_eq_false_iff_eq, Bool.or_eq_true, Bool.and_eq_true, Bool.or_eq_false_iff, Bool.and_eq_false_imp, Bool.not_eq_true, Bool.not_eq_false, Bool.not_true, Bool.not_false, Bool.not_eq_true', Bool.not_eq_false', Bool.or_false, Bool.false_or, Bool.or_true, Bool.true_or, Bool.and_true, Bool.true_and, reduceCtorEq] at ht) <;> (try contradiction)))
            | ((with_reducible refine guardSplit (fun hg => ?_) (fun hg => ?_)) <;> (try simp only [Bool.not_true, Bool.not_false] at hg) <;> (have hc := hg) <;> simp -implicitDefEqProofs only [go_sem, hg] <;> (try simp only [decide_eq_true_eq, decide_eq_false_iff_not, beq_iff_eq, bne_iff_ne, beq_eq_false_iff_ne, bne_eq_false_iff_eq, Bool.or_eq_true, Bool.and_eq_true, Bool.or_eq_false_iff, Bool.and_eq_false_imp, Bool.not_eq_true, Bool.not_eq_false, Bool.not_true, Bool.not_false, Bool.not_eq_true', Bool.not_eq_false', Bool.or_false, Bool.false_or, Bool.or_true, Bool.true_or, Bool.and_true, Bool.true_and, reduceCtorEq] at hc) <;> (try contradiction)))
          refine SW.range (f := 46) (caps := [.ptr 13 []]) 100 (by simp) (by simp -implicitDefEqProofs only [go_sem]) (by simp -implicitDefEqProofs only [go_sem]) (by kernel_rfl) Try.func46 rfl (by show 2 ≤ 7; decide) rfl (by simp -implicitDefEqProofs only [go_sem]) fun tm tmY ri hri => ?_
          refine SW.weak (Weak.ofG [(0, 0), (6, 6), (13, 13), (14, 14), (20, 20), (1, 1), (100, 100)] (gl := [(tm, [(6, .ptr 6 []), (13, .clo (.func 46) [] [.ptr 13 []]), (14, .ptr 14 []), (20, .ptr 20 [])]), (tmY, [(0, .yref 100)])]) (sls := [(0, .yref 100), (1, .ptr 13 [])]) (bks := [(0, .row 1 (bA (d ++ room 80))), (6, .var (.v (.bool false))), (13, .var (.ref 0 1 0 d.length false)), (20, .var (.ref 1 4 0 fs2.length false)), (1, .row 4 (fs2.map fO)), (14, .var (.v (.int .i64 0))), (100, .yld (recR ri .ready none))]) (ep := 128) (by rfl) ?_ ?_ ?_) ?_
          · simp -implicitDefEqProofs only [go_sem]
            rfl
          · simp -implicitDefEqProofs only [go_sem]
          · simp -implicitDefEqProofs only [go_sem]
          refine SW.inlK MM 3 (by rfl) fun K2 hK2 => ?_
          have htk : (d ++ room 80).take d.length = d := List.take_left
          repeat' (first
            | apply_assumption -exfalso -symm (transparency := .reducible) only [*]
            | (with_reducible refine And.intro ?_ ?_)
            | (refine drawOf ?_; kernel_rfl)
            | ((with_reducible refine opsF_id ?_); simp -implicitDefEqProofs only [go_sem, htk])
            | ((with_reducible refine SW.id ?_); first | with_reducible refine SW.seqK fun K hK => ?_ | with_reducible refine SW.block ?_ | with_reducible refine SW.scope ?_ | ((first | with_reducible refine SW.skip ?_ | with_reducible refine SW.exit ?_ | with_reducible refine SW.label ?_ | with_reducible refine SW.ret ?_ | with_reducible refine SW.go MM ?_ | refine SW.goDrawF MM (by rfl) (by kernel_rfl) ?_); simp -implicitDefEqProofs only [go_sem, htk]) | (refine SW.cond (by simp -implicitDefEqProofs only [go_sem, htk]; rfl) (fun ht => ?_) (fun ht => ?_) <;> (try simp only [decide_eq_true_eq, decide_eq_false_iff_not, beq_iff_eq, bne_iff_ne, beq_eq_false_iff_ne, bne_eq_false_iff_eq, Bool.or_eq_true, Bool.and_eq_true, Bool.or_eq_false_iff, Bool.and_eq_false_imp, Bool.not_eq_true, Bool.not_eq_false, Bool.not_true, Bool.not_false, Bool.not_eq_true', Bool.not_eq_false', Bool.or_false, Bool.false_or, Bool.or_true, Bool.true_or, Bool.and_true, Bool.true_and, reduceCtorEq] at ht) <;> (try contradiction)))
            | ((with_reducible refine guardSplit (fun hg => ?_) (fun hg => ?_)) <;> (try simp only [Bool.not_true, Bool.not_false] at hg) <;> (have hc := hg) <;> simp -implicitDefEqProofs only [go_sem, hg, htk] <;> (try simp only [decide_eq_true_eq, decide_eq_false_iff_not, beq_iff_eq, bne_iff_ne, beq_eq_false_iff_ne, bne_eq_false_iff_eq, Bool.or_eq_true, Bool.and_eq_true, Bool.or_eq_false_iff, Bool.and_eq_false_imp, Bool.not_eq_true, Bool.not_eq_false, Bool.not_true, Bool.not_false, Bool.not_eq_true', Bool.not_eq_false', Bool.or_false, Bool.false_or, Bool.or_true, Bool.true_or, Bool.and_true, Bool.true_and, reduceCtorEq] at hc) <;> (try contradiction)))
          all_goals first | (simp only [List.length_append]; omega) | exact roomy_of (by omega) (by decide) | skip
          refine InlOp.call (by simp -implicitDefEqProofs only [go_sem]) (by simp -implicitDefEqProofs only [go_sem]) rfl rfl (by simp -implicitDefEqProofs only [go_sem]; rfl) (by simp -implicitDefEqProofs only [go_sem]; rfl) (by simp -implicitDefEqProofs only [go_sem]) (by kernel_rfl) Try.func47 rfl (by show 2 ≤ 55; decide) fun tm4 => ?_
          refine SW.weak (Weak.ofG [(0, 0), (6, 6), (13, 13), (14, 14), (20, 20), (1, 1), (100, 100), (192, 3)] (gl := [(tm4, []), (tm, [(6, .ptr 6 []), (13, .clo (.func 46) [] [.ptr 13 []]), (14, .ptr 14 []), (20, .ptr 20 [])]), (tmY, [(0, .yref 100)])]) (sls := [(0, .ref 3 1 0 d.length false), (1, .yref 100)]) (bks := [(0, .row 1 (bA (d ++ room 80))), (6, .var (.v (.bool false))), (13, .var (.ref 0 1 0 d.length false)), (20, .var (.ref 1 4 0 fs2.length false)), (1, .row 4 (fs2.map fO)), (100, .yld (recR ri .ready none)), (3, .row 1 (bA d)), (14, .var (.v (.int .i64 0)))]) (ep := 128) (by rfl) ?_ ?_ ?_) ?_
          · simp -implicitDefEqProofs only [go_sem]
            rfl
          · simp -implicitDefEqProofs only [go_sem]
          · simp -implicitDefEqProofs only [go_sem]
          have hbig : 4194304 < d.length → fs2 = [] := fun h => by
            have h1 : walkD d = ([], 0, 2) := by unfold walkD; rw [if_pos h]
            rw [hwd2] at h1
            exact congrArg (·.1) h1
          have hsml : ¬4194304 < d.length → fs2 = (walkP d (d.length + 1) 0 0 0).1 := fun h => by
            have h1 : walkD d = walkP d (d.length + 1) 0 0 0 := by unfold walkD; rw [if_neg h]
            rw [hwd2] at h1
            exact congrArg (·.1) h1
          repeat' (first
            | apply_assumption -exfalso -symm (transparency := .reducible) only [*]
            | with_reducible refine SW.stopR 3 ?_
            | (with_reducible refine And.intro ?_ ?_)
            | (refine drawOf ?_; kernel_rfl)
            | ((with_reducible refine opsF_id ?_); simp -implicitDefEqProofs only [go_sem])
            | ((with_reducible refine SW.id ?_); first | with_reducible refine SW.seqK fun K hK => ?_ | with_reducible refine SW.block ?_ | with_reducible refine SW.scope ?_ | ((first | with_reducible refine SW.skip ?_ | with_reducible refine SW.exit ?_ | with_reducible refine SW.label ?_ | with_reducible refine SW.ret ?_ | with_reducible refine SW.go MM ?_ | refine SW.goDrawF MM (by rfl) (by kernel_rfl) ?_); simp -implicitDefEqProofs only [go_sem]) | (refine SW.cond (by simp -implicitDefEqProofs only [go_sem]; rfl) (fun ht => ?_) (fun ht => ?_) <;> (try simp only [decide_eq_true_eq, decide_eq_false_iff_not, beq_iff_eq, bne_iff_ne, beq_eq_false_iff_ne, bne_eq_false_iff_eq, Bool.or_eq_true, Bool.and_eq_true, Bool.or_eq_false_iff, Bool.and_eq_false_imp, Bool.not_eq_true, Bool.not_eq_false, Bool.not_true, Bool.not_false, Bool.not_eq_true', Bool.not_eq_false', Bool.or_false, Bool.false_or, Bool.or_true, Bool.true_or, Bool.and_true, Bool.true_and, reduceCtorEq] at ht) <;> (try contradiction)))
            | ((with_reducible refine guardSplit (fun hg => ?_) (fun hg => ?_)) <;> (try simp only [Bool.not_true, Bool.not_false] at hg) <;> (have hc := hg) <;> simp -implicitDefEqProofs only [go_sem, hg] <;> (try simp only [decide_eq_true_eq, decide_eq_false_iff_not, beq_iff_eq, bne_iff_ne, beq_eq_false_iff_ne, bne_eq_false_iff_eq, Bool.or_eq_true, Bool.and_eq_true, Bool.or_eq_false_iff, Bool.and_eq_false_imp, Bool.not_eq_true, Bool.not_eq_false, Bool.not_true, Bool.not_false, Bool.not_eq_true', Bool.not_eq_false', Bool.or_false, Bool.false_or, Bool.or_true, Bool.true_or, Bool.and_true, Bool.true_and, reduceCtorEq] at hc) <;> (try contradiction)))
          · refine ⟨100, .ready, none, rfl, by simp, ?_⟩
            simp -implicitDefEqProofs only [go_sem]
            repeat' (first
              | apply_assumption -exfalso -symm (transparency := .reducible) only [*]
              | (with_reducible refine And.intro ?_ ?_)
              | (refine drawOf ?_; kernel_rfl)
              | ((with_reducible refine opsF_id ?_); simp -implicitDefEqProofs only [go_sem])
              | ((with_reducible refine SW.id ?_); first | with_reducible refine SW.seqK fun K hK => ?_ | with_reducible refine SW.block ?_ | with_reducible refine SW.scope ?_ | ((first | with_reducible refine SW.skip ?_ | with_reducible refine SW.exit ?_ | with_reducible refine SW.label ?_ | with_reducible refine SW.ret ?_ | with_reducible refine SW.go MM ?_ | refine SW.goDrawF MM (by rfl) (by kernel_rfl) ?_); simp -implicitDefEqProofs only [go_sem]) | (refine SW.cond (by simp -implicitDefEqProofs only [go_sem]; rfl) (fun ht => ?_) (fun ht => ?_) <;> (try simp only [decide_eq_true_eq, decide_eq_false_iff_not, beq_iff_eq, bne_iff_ne, beq_eq_false_iff_ne, bne_eq_false_iff_eq, Bool.or_eq_true, Bool.and_eq_true, Bool.or_eq_false_iff, Bool.and_eq_false_imp, Bool.not_eq_true, Bool.not_eq_false, Bool.not_true, Bool.not_false, Bool.not_eq_true', Bool.not_eq_false', Bool.or_false, Bool.false_or, Bool.or_true, Bool.true_or, Bool.and_true, Bool.true_and, reduceCtorEq] at ht) <;> (try contradiction)))
              | ((with_reducible refine guardSplit (fun hg => ?_) (fun hg => ?_)) <;> (try simp only [Bool.not_true, Bool.not_false] at hg) <;> (have hc := hg) <;> simp -implicitDefEqProofs only [go_sem, hg] <;> (try simp only [decide_eq_true_eq, decide_eq_false_iff_not, beq_iff_eq, bne_iff_ne, beq_eq_false_iff_ne, bne_eq_false_iff_eq, Bool.or_eq_true, Bool.and_eq_true, Bool.or_eq_false_iff, Bool.and_eq_false_imp, Bool.not_eq_true, Bool.not_eq_false, Bool.not_true, Bool.not_false, Bool.not_eq_true', Bool.not_eq_false', Bool.or_false, Bool.false_or, Bool.or_true, Bool.true_or, Bool.and_true, Bool.true_and, reduceCtorEq] at hc) <;> (try contradiction)))
            have hz := hbig (by omega)
            have hz0 : (0 : Int) = (fs2.length : Int) := by rw [hz]; rfl
            refine ⟨(), Weak.of [(6, 6), (14, 14), (20, 20), (1, 1)] (by rfl) ?_ ?_⟩
            · simp -implicitDefEqProofs only [go_sem]
            · simp -implicitDefEqProofs only [go_sem]
              exact congrArg (fun z => Blk.var (.v (.int .i64 z))) hz0
          · refine Stop.go ?_
            have hf1 := hsml (by omega)
            repeat' (first
              | apply_assumption -exfalso -symm (transparency := .reducible) only [*]
              | (with_reducible refine And.intro ?_ ?_)
              | (refine drawOf ?_; kernel_rfl)
              | ((with_reducible refine opsF_id ?_); simp -implicitDefEqProofs only [go_sem])
              | ((with_reducible refine SW.id ?_); first | with_reducible refine SW.seqK fun K hK => ?_ | with_reducible refine SW.block ?_ | with_reducible refine SW.scope ?_ | ((first | with_reducible refine SW.skip ?_ | with_reducible refine SW.exit ?_ | with_reducible refine SW.label ?_ | with_reducible refine SW.ret ?_ | with_reducible refine SW.go MM ?_ | refine SW.goDrawF MM (by rfl) (by kernel_rfl) ?_); simp -implicitDefEqProofs only [go_sem]) | (refine SW.cond (by simp -implicitDefEqProofs only [go_sem]; rfl) (fun ht => ?_) (fun ht => ?_) <;> (try simp only [decide_eq_true_eq, decide_eq_false_iff_not, beq_iff_eq, bne_iff_ne, beq_eq_false_iff_ne, bne_eq_false_iff_eq, Bool.or_eq_true, Bool.and_eq_true, Bool.or_eq_false_iff, Bool.and_eq_false_imp, Bool.not_eq_true, Bool.not_eq_false, Bool.not_true, Bool.not_false, Bool.not_eq_true', Bool.not_eq_false', Bool.or_false, Bool.false_or, Bool.or_true, Bool.true_or, Bool.and_true, Bool.true_and, reduceCtorEq] at ht) <;> (try contradiction)))
              | ((with_reducible refine guardSplit (fun hg => ?_) (fun hg => ?_)) <;> (try simp only [Bool.not_true, Bool.not_false] at hg) <;> (have hc := hg) <;> simp -implicitDefEqProofs only [go_sem, hg] <;> (try simp only [decide_eq_true_eq, decide_eq_false_iff_not, beq_iff_eq, bne_iff_ne, beq_eq_false_iff_ne, bne_eq_false_iff_eq, Bool.or_eq_true, Bool.and_eq_true, Bool.or_eq_false_iff, Bool.and_eq_false_imp, Bool.not_eq_true, Bool.not_eq_false, Bool.not_true, Bool.not_false, Bool.not_eq_true', Bool.not_eq_false', Bool.or_false, Bool.false_or, Bool.or_true, Bool.true_or, Bool.and_true, Bool.true_and, reduceCtorEq] at hc) <;> (try contradiction)))
            refine SW.loop (α := { x : List Fld × Nat × Int × Nat // x.2.1 ≤ d.length ∧ x.1.length ≤ 64 ∧ d.length - x.2.1 < x.2.2.2 ∧ fs2 = x.1 ++ (walkP d x.2.2.2 x.2.1 x.1.length x.2.2.1).1 })
              (fun x => St.ofG [(tm4, []), (tm, [(6, .ptr 6 []), (13, .clo (.func 46) [] [.ptr 13 []]), (14, .ptr 14 []), (20, .ptr 20 [])]), (tmY, [(0, .yref 100)])] [(0, .ref 3 1 0 d.length false), (1, .yref 100), (6, .v (.int .i64 x.1.1.length)), (7, .v (.int .i64 x.1.2.2.1)), (8, .v (.int .i64 x.1.2.1))] [(0, .row 1 (bA (d ++ room 80))), (6, .var (.v (.bool false))), (13, .var (.ref 0 1 0 d.length false)), (20, .var (.ref 1 4 0 fs2.length false)), (1, .row 4 (fs2.map fO)), (100, .yld (recR ri .ready none)), (3, .row 1 (bA d)), (14, .var (.v (.int .i64 x.1.1.length)))] 128) (fun x => x.1.2.2.2)
              ⟨([], 0, 0, d.length + 1), by dsimp only; omega, by simp, by dsimp only; omega, hf1⟩ (Weak.ofG [(0, 0), (6, 6), (13, 13), (14, 14), (20, 20), (1, 1), (100, 100), (3, 3)] (by rfl) ?_ ?_ ?_) fun ⟨⟨acc, p, last, k⟩, hp, hacc, hk, hw⟩ => ?_
            · simp -implicitDefEqProofs only [go_sem]
              rfl
            · simp -implicitDefEqProofs only [go_sem]
              rfl
            · simp -implicitDefEqProofs only [go_sem]
              rfl
            · dsimp only at hp hacc hk hw
              have h7 := i64_one (a := acc.length) (by omega)
              have hhead := head_FS false d p acc.length last (by omega) hp (by omega)
              obtain ⟨k, rfl⟩ : ∃ k', k = k' + 1 := ⟨k - 1, by omega⟩
              rw [walkP_next _ _ _ _ _ hp] at hw
              cases hh : headP d p acc.length last with
              | error e =>
                rw [hh] at hhead
                simp only [headA, fO] at hhead
                have hnx : (nextP d p acc.length last).2.2 = e := by unfold nextP; rw [hh]
                have he := headP_err hh
                rw [hnx, if_pos he] at hw
                have hfa : fs2 = acc := by rw [hw]; split <;> simp
                repeat' (first
                  | apply_assumption -exfalso -symm (transparency := .reducible) only [*]
                  | (refine ⟨_, _, hhead, ?_⟩ <;> (try simp -implicitDefEqProofs only [go_sem, h7]))
                  | (with_reducible refine And.intro ?_ ?_)
                  | (refine drawOf ?_; kernel_rfl)
                  | ((with_reducible refine opsF_id ?_); simp -implicitDefEqProofs only [go_sem, h7])
                  | ((with_reducible refine SW.id ?_); first | with_reducible refine SW.seqK fun K hK => ?_ | with_reducible refine SW.block ?_ | with_reducible refine SW.scope ?_ | ((first | with_reducible refine SW.skip ?_ | with_reducible refine SW.exit ?_ | with_reducible refine SW.label ?_ | with_reducible refine SW.ret ?_ | with_reducible refine SW.go MM ?_ | refine SW.goDrawF MM (by rfl) (by kernel_rfl) ?_); simp -implicitDefEqProofs only [go_sem, h7]) | (refine SW.cond (by simp -implicitDefEqProofs only [go_sem, h7]; rfl) (fun ht => ?_) (fun ht => ?_) <;> (try simp only [decide_eq_true_eq, decide_eq_false_iff_not, beq_iff_eq, bne_iff_ne, beq_eq_false_iff_ne, bne_eq_false_iff_eq, Bool.or_eq_true, Bool.and_eq_true, Bool.or_eq_false_iff, Bool.and_eq_false_imp, Bool.not_eq_true, Bool.not_eq_false, Bool.not_true, Bool.not_false, Bool.not_eq_true', Bool.not_eq_false', Bool.or_false, Bool.false_or, Bool.or_true, Bool.true_or, Bool.and_true, Bool.true_and, reduceCtorEq] at ht) <;> (try contradiction)))
                  | ((with_reducible refine guardSplit (fun hg => ?_) (fun hg => ?_)) <;> (try simp only [Bool.not_true, Bool.not_false] at hg) <;> (have hc := hg) <;> simp -implicitDefEqProofs only [go_sem, hg, h7] <;> (try simp only [decide_eq_true_eq, decide_eq_false_iff_not, beq_iff_eq, bne_iff_ne, beq_eq_false_iff_ne, bne_eq_false_iff_eq, Bool.or_eq_true, Bool.and_eq_true, Bool.or_eq_false_iff, Bool.and_eq_false_imp, Bool.not_eq_true, Bool.not_eq_false, Bool.not_true, Bool.not_false, Bool.not_eq_true', Bool.not_eq_false', Bool.or_false, Bool.false_or, Bool.or_true, Bool.true_or, Bool.and_true, Bool.true_and, reduceCtorEq] at hc) <;> (try contradiction)))
                · exfalso; omega
                · refine ⟨100, .ready, none, rfl, by simp, ?_⟩
                  simp -implicitDefEqProofs only [go_sem]
                  repeat' (first
                    | apply_assumption -exfalso -symm (transparency := .reducible) only [*]
                    | (with_reducible refine And.intro ?_ ?_)
                    | (refine drawOf ?_; kernel_rfl)
                    | ((with_reducible refine opsF_id ?_); simp -implicitDefEqProofs only [go_sem])
                    | ((with_reducible refine SW.id ?_); first | with_reducible refine SW.seqK fun K hK => ?_ | with_reducible refine SW.block ?_ | with_reducible refine SW.scope ?_ | ((first | with_reducible refine SW.skip ?_ | with_reducible refine SW.exit ?_ | with_reducible refine SW.label ?_ | with_reducible refine SW.ret ?_ | with_reducible refine SW.go MM ?_ | refine SW.goDrawF MM (by rfl) (by kernel_rfl) ?_); simp -implicitDefEqProofs only [go_sem]) | (refine SW.cond (by simp -implicitDefEqProofs only [go_sem]; rfl) (fun ht => ?_) (fun ht => ?_) <;> (try simp only [decide_eq_true_eq, decide_eq_false_iff_not, beq_iff_eq, bne_iff_ne, beq_eq_false_iff_ne, bne_eq_false_iff_eq, Bool.or_eq_true, Bool.and_eq_true, Bool.or_eq_false_iff, Bool.and_eq_false_imp, Bool.not_eq_true, Bool.not_eq_false, Bool.not_true, Bool.not_false, Bool.not_eq_true', Bool.not_eq_false', Bool.or_false, Bool.false_or, Bool.or_true, Bool.true_or, Bool.and_true, Bool.true_and, reduceCtorEq] at ht) <;> (try contradiction)))
                    | ((with_reducible refine guardSplit (fun hg => ?_) (fun hg => ?_)) <;> (try simp only [Bool.not_true, Bool.not_false] at hg) <;> (have hc := hg) <;> simp -implicitDefEqProofs only [go_sem, hg] <;> (try simp only [decide_eq_true_eq, decide_eq_false_iff_not, beq_iff_eq, bne_iff_ne, beq_eq_false_iff_ne, bne_eq_false_iff_eq, Bool.or_eq_true, Bool.and_eq_true, Bool.or_eq_false_iff, Bool.and_eq_false_imp, Bool.not_eq_true, Bool.not_eq_false, Bool.not_true, Bool.not_false, Bool.not_eq_true', Bool.not_eq_false', Bool.or_false, Bool.false_or, Bool.or_true, Bool.true_or, Bool.and_true, Bool.true_and, reduceCtorEq] at hc) <;> (try contradiction)))
                  refine ⟨(), Weak.of [(6, 6), (14, 14), (20, 20), (1, 1)] (by rfl) ?_ ?_⟩
                  · simp -implicitDefEqProofs only [go_sem]
                  · simp -implicitDefEqProofs only [go_sem, hfa]
                · refine ⟨100, .ready, none, rfl, by simp, ?_⟩
                  simp -implicitDefEqProofs only [go_sem]
                  repeat' (first
                    | apply_assumption -exfalso -symm (transparency := .reducible) only [*]
                    | (with_reducible refine And.intro ?_ ?_)
                    | (refine drawOf ?_; kernel_rfl)
                    | ((with_reducible refine opsF_id ?_); simp -implicitDefEqProofs only [go_sem])
                    | ((with_reducible refine SW.id ?_); first | with_reducible refine SW.seqK fun K hK => ?_ | with_reducible refine SW.block ?_ | with_reducible refine SW.scope ?_ | ((first | with_reducible refine SW.skip ?_ | with_reducible refine SW.exit ?_ | with_reducible refine SW.label ?_ | with_reducible refine SW.ret ?_ | with_reducible refine SW.go MM ?_ | refine SW.goDrawF MM (by rfl) (by kernel_rfl) ?_); simp -implicitDefEqProofs only [go_sem]) | (refine SW.cond (by simp -implicitDefEqProofs only [go_sem]; rfl) (fun ht => ?_) (fun ht => ?_) <;> (try simp only [decide_eq_true_eq, decide_eq_false_iff_not, beq_iff_eq, bne_iff_ne, beq_eq_false_iff_ne, bne_eq_false_iff_eq, Bool.or_eq_true, Bool.and_eq_true, Bool.or_eq_false_iff, Bool.and_eq_false_imp, Bool.not_eq_true, Bool.not_eq_false, Bool.not_true, Bool.not_false, Bool.not_eq_true', Bool.not_eq_false', Bool.or_false, Bool.false_or, Bool.or_true, Bool.true_or, Bool.and_true, Bool.true_and, reduceCtorEq] at ht) <;> (try contradiction)))
                    | ((with_reducible refine guardSplit (fun hg => ?_) (fun hg => ?_)) <;> (try simp only [Bool.not_true, Bool.not_false] at hg) <;> (have hc := hg) <;> simp -implicitDefEqProofs only [go_sem, hg] <;> (try simp only [decide_eq_true_eq, decide_eq_false_iff_not, beq_iff_eq, bne_iff_ne, beq_eq_false_iff_ne, bne_eq_false_iff_eq, Bool.or_eq_true, Bool.and_eq_true, Bool.or_eq_false_iff, Bool.and_eq_false_imp, Bool.not_eq_true, Bool.not_eq_false, Bool.not_true, Bool.not_false, Bool.not_eq_true', Bool.not_eq_false', Bool.or_false, Bool.false_or, Bool.or_true, Bool.true_or, Bool.and_true, Bool.true_and, reduceCtorEq] at hc) <;> (try contradiction)))
                  refine ⟨(), Weak.of [(6, 6), (14, 14), (20, 20), (1, 1)] (by rfl) ?_ ?_⟩
                  · simp -implicitDefEqProofs only [go_sem]
                  · simp -implicitDefEqProofs only [go_sem, hfa]
              | ok rr =>
                obtain ⟨f, qq⟩ := rr
                obtain ⟨no, ty, rfl, g1, g2, g3, g4, g5, g6, g7⟩ := headP_ok hp hh
                have hval := value_FS false d ⟨no, ty, 0, []⟩ qq (by omega) hd8 g6 (by dsimp only; omega) rfl rfl
                obtain ⟨⟨f', e, er⟩, hv⟩ : ∃ r, valueP d ⟨no, ty, 0, []⟩ qq = r := ⟨_, rfl⟩
                obtain ⟨v1, v2, v3, v4⟩ := valueP_ok g6 hv rfl
                rw [hh] at hhead
                simp only [headA, fO] at hhead
                rw [hv] at hval
                dsimp only at hval v1
                have hnx : nextP d p acc.length last = if er ≠ 0 then (default, qq, er) else (f', e, 0) := by
                  unfold nextP
                  rw [hh]
                  dsimp only
                  rw [hv]
                  dsimp only
                  by_cases he : er = 0
                  · subst he
                    simp
                  · simp [he]
                repeat' (first
                  | apply_assumption -exfalso -symm (transparency := .reducible) only [*]
                  | with_reducible refine SW.stopI 13 ?_
                  | (refine ⟨_, _, hhead, ?_⟩ <;> (try simp -implicitDefEqProofs only [go_sem, h7]))
                  | (refine ⟨_, _, hval, ?_⟩ <;> (try simp -implicitDefEqProofs only [go_sem, h7]))
                  | (with_reducible refine And.intro ?_ ?_)
                  | (refine drawOf ?_; kernel_rfl)
                  | ((with_reducible refine opsF_id ?_); simp -implicitDefEqProofs only [go_sem, h7])
                  | ((with_reducible refine SW.id ?_); first | with_reducible refine SW.seqK fun K hK => ?_ | with_reducible refine SW.block ?_ | with_reducible refine SW.scope ?_ | ((first | with_reducible refine SW.skip ?_ | with_reducible refine SW.exit ?_ | with_reducible refine SW.label ?_ | with_reducible refine SW.ret ?_ | with_reducible refine SW.go MM ?_ | refine SW.goDrawF MM (by rfl) (by kernel_rfl) ?_); simp -implicitDefEqProofs only [go_sem, h7]) | (refine SW.cond (by simp -implicitDefEqProofs only [go_sem, h7]; rfl) (fun ht => ?_) (fun ht => ?_) <;> (try simp only [decide_eq_true_eq, decide_eq_false_iff_not, beq_iff_eq, bne_iff_ne, beq_eq_false_iff_ne, bne_eq_false_iff_eq, Bool.or_eq_true, Bool.and_eq_true, Bool.or_eq_false_iff, Bool.and_eq_false_imp, Bool.not_eq_true, Bool.not_eq_false, Bool.not_true, Bool.not_false, Bool.not_eq_true', Bool.not_eq_false', Bool.or_false, Bool.false_or, Bool.or_true, Bool.true_or, Bool.and_true, Bool.true_and, reduceCtorEq] at ht) <;> (try contradiction)))
                  | ((with_reducible refine guardSplit (fun hg => ?_) (fun hg => ?_)) <;> (try simp only [Bool.not_true, Bool.not_false] at hg) <;> (have hc := hg) <;> simp -implicitDefEqProofs only [go_sem, hg, h7] <;> (try simp only [decide_eq_true_eq, decide_eq_false_iff_not, beq_iff_eq, bne_iff_ne, beq_eq_false_iff_ne, bne_eq_false_iff_eq, Bool.or_eq_true, Bool.and_eq_true, Bool.or_eq_false_iff, Bool.and_eq_false_imp, Bool.not_eq_true, Bool.not_eq_false, Bool.not_true, Bool.not_false, Bool.not_eq_true', Bool.not_eq_false', Bool.or_false, Bool.false_or, Bool.or_true, Bool.true_or, Bool.and_true, Bool.true_and, reduceCtorEq] at hc) <;> (try contradiction)))
                · have he : er ≠ 0 := by omega
                  have hfa : fs2 = acc := by rw [hw, if_pos (by omega), hnx]; simp [he]
                  refine ⟨100, .ready, none, rfl, by simp, ?_⟩
                  simp -implicitDefEqProofs only [go_sem]
                  repeat' (first
                    | apply_assumption -exfalso -symm (transparency := .reducible) only [*]
                    | (with_reducible refine And.intro ?_ ?_)
                    | (refine drawOf ?_; kernel_rfl)
                    | ((with_reducible refine opsF_id ?_); simp -implicitDefEqProofs only [go_sem])
                    | ((with_reducible refine SW.id ?_); first | with_reducible refine SW.seqK fun K hK => ?_ | with_reducible refine SW.block ?_ | with_reducible refine SW.scope ?_ | ((first | with_reducible refine SW.skip ?_ | with_reducible refine SW.exit ?_ | with_reducible refine SW.label ?_ | with_reducible refine SW.ret ?_ | with_reducible refine SW.go MM ?_ | refine SW.goDrawF MM (by rfl) (by kernel_rfl) ?_); simp -implicitDefEqProofs only [go_sem]) | (refine SW.cond (by simp -implicitDefEqProofs only [go_sem]; rfl) (fun ht => ?_) (fun ht => ?_) <;> (try simp only [decide_eq_true_eq, decide_eq_false_iff_not, beq_iff_eq, bne_iff_ne, beq_eq_false_iff_ne, bne_eq_false_iff_eq, Bool.or_eq_true, Bool.and_eq_true, Bool.or_eq_false_iff, Bool.and_eq_false_imp, Bool.not_eq_true, Bool.not_eq_false, Bool.not_true, Bool.not_false, Bool.not_eq_true', Bool.not_eq_false', Bool.or_false, Bool.false_or, Bool.or_true, Bool.true_or, Bool.and_true, Bool.true_and, reduceCtorEq] at ht) <;> (try contradiction)))
                    | ((with_reducible refine guardSplit (fun hg => ?_) (fun hg => ?_)) <;> (try simp only [Bool.not_true, Bool.not_false] at hg) <;> (have hc := hg) <;> simp -implicitDefEqProofs only [go_sem, hg] <;> (try simp only [decide_eq_true_eq, decide_eq_false_iff_not, beq_iff_eq, bne_iff_ne, beq_eq_false_iff_ne, bne_eq_false_iff_eq, Bool.or_eq_true, Bool.and_eq_true, Bool.or_eq_false_iff, Bool.and_eq_false_imp, Bool.not_eq_true, Bool.not_eq_false, Bool.not_true, Bool.not_false, Bool.not_eq_true', Bool.not_eq_false', Bool.or_false, Bool.false_or, Bool.or_true, Bool.true_or, Bool.and_true, Bool.true_and, reduceCtorEq] at hc) <;> (try contradiction)))
                  refine ⟨(), Weak.of [(6, 6), (14, 14), (20, 20), (1, 1)] (by rfl) ?_ ?_⟩
                  · simp -implicitDefEqProofs only [go_sem]
                  · simp -implicitDefEqProofs only [go_sem, hfa]
                · obtain rfl : er = 0 := by omega
                  rw [if_neg (by simp)] at hnx
                  obtain ⟨x1, x2, x3, x4, _⟩ := nextP_ok hp hnx
                  rw [if_pos (by omega), hnx] at hw
                  simp only [ne_eq, not_true, if_false] at hw
                  refine Stop.go (SW.weak (st' := St.ofG [(tm4, []), (tm, [(6, .ptr 6 []), (13, .clo (.func 46) [] [.ptr 13 []]), (14, .ptr 14 []), (20, .ptr 20 [])]), (tmY, [(0, .yref 100)])] [(0, .ref 3 1 0 d.length false), (1, .yref 100), (6, .v (.int .i64 acc.length)), (8, .v (.int .i64 p)), (9, .ptr 16 []), (12, .v (.int .i64 e))] [(0, .row 1 (bA (d ++ room 80))), (6, .var (.v (.bool false))), (13, .var (.ref 0 1 0 d.length false)), (20, .var (.ref 1 4 0 fs2.length false)), (1, .row 4 (fs2.map fO)), (100, .yld (recR ri .ready none)), (3, .row 1 (bA d)), (14, .var (.v (.int .i64 acc.length))), (16, .var (.agg [.v (.int .i64 f'.no), .v (.int .i64 f'.ty), .v (.int .u64 f'.num), .ref 17 1 0 (bA f'.data).length false])), (17, .row 1 (bA f'.data))] 128) (Weak.focus1 960 5000 5001 Hole.var (by simp -implicitDefEqProofs only [go_sem]) (fO_closed f') rfl (by simp -implicitDefEqProofs only [go_sem]) (by simp -implicitDefEqProofs only [go_sem]) rfl (Weak.ofG [(0, 0), (6, 6), (13, 13), (14, 14), (20, 20), (1, 1), (100, 100), (3, 3), (960, 16), (5000, 17)] (by rfl) ?_ ?_ ?_)) ?_)
                  · simp -implicitDefEqProofs only [go_sem]
                    rfl
                  · simp -implicitDefEqProofs only [go_sem]
                  · simp -implicitDefEqProofs only [go_sem]
                    rfl
                  refine SW.seqK fun K6 hK6 => SW.seqK fun K7 hK7 => SW.inlK MM 3 (by rfl) fun K8 hK8 => ?_
                  simp -implicitDefEqProofs only [go_sem]
                  refine InlOp.yieldM (tx := 45) (d := 100) (tm := tm) (slL := alook [(6, .ptr 6 []), (13, .clo (.func 46) [] [.ptr 13 []]), (14, .ptr 14 []), (20, .ptr 20 [])]) (by simp -implicitDefEqProofs only [go_sem]) (by simp -implicitDefEqProofs only [go_sem]) rfl rfl (by simp -implicitDefEqProofs only [go_sem]) (by simp -implicitDefEqProofs only [go_sem]; rfl) (by simp -implicitDefEqProofs only [go_sem]) (by simp -implicitDefEqProofs only [go_sem]) (by simp -implicitDefEqProofs only [go_sem]) hri rfl (fun x hx => (by decide : ∀ x ∈ [147, 148], x < 170) x hx) fun tmI => ?_
                  have hfl : acc.length < fs2.length := by rw [hw]; simp
                  have hfd : (fs2.drop acc.length).take (acc.length + 1 - acc.length) = [f'] := by
                    rw [hw, List.drop_left, Nat.add_sub_cancel_left]
                    rfl
                  have hal := alike_FS false false false false [f'] ((fs2.drop acc.length).take (acc.length + 1 - acc.length)) (by simp) (by rw [hfd]; simp) (by intro y hy; rcases List.mem_singleton.1 hy; omega) (by intro y hy; rw [hfd] at hy; rcases List.mem_singleton.1 hy; omega)
                  rw [decide_eq_true hfd.symm] at hal
                  have hge : decide ((acc.length : Int) ≥ (fs2.length : Int)) = false := by simp; omega
                  repeat' (first
                    | apply_assumption -exfalso -symm (transparency := .reducible) only [*]
                    | (refine ⟨_, _, hal, ?_⟩ <;> (try simp -implicitDefEqProofs only [go_sem, h7, hge]))
                    | (with_reducible refine And.intro ?_ ?_)
                    | (refine drawOf ?_; kernel_rfl)
                    | ((with_reducible refine opsF_id ?_); simp -implicitDefEqProofs only [go_sem, h7, hge])
                    | ((with_reducible refine SW.id ?_); first | with_reducible refine SW.seqK fun K hK => ?_ | with_reducible refine SW.block ?_ | with_reducible refine SW.scope ?_ | ((first | with_reducible refine SW.skip ?_ | with_reducible refine SW.exit ?_ | with_reducible refine SW.label ?_ | with_reducible refine SW.ret ?_ | with_reducible refine SW.go MM ?_ | refine SW.goDrawF MM (by rfl) (by kernel_rfl) ?_); simp -implicitDefEqProofs only [go_sem, h7, hge]) | (refine SW.cond (by simp -implicitDefEqProofs only [go_sem, h7, hge]; rfl) (fun ht => ?_) (fun ht => ?_) <;> (try simp only [decide_eq_true_eq, decide_eq_false_iff_not, beq_iff_eq, bne_iff_ne, beq_eq_false_iff_ne, bne_eq_false_iff_eq, Bool.or_eq_true, Bool.and_eq_true, Bool.or_eq_false_iff, Bool.and_eq_false_imp, Bool.not_eq_true, Bool.not_eq_false, Bool.not_true, Bool.not_false, Bool.not_eq_true', Bool.not_eq_false', Bool.or_false, Bool.false_or, Bool.or_true, Bool.true_or, Bool.and_true, Bool.true_and, reduceCtorEq] at ht) <;> (try contradiction)))
                    | ((with_reducible refine guardSplit (fun hg => ?_) (fun hg => ?_)) <;> (try simp only [Bool.not_true, Bool.not_false] at hg) <;> (have hc := hg) <;> simp -implicitDefEqProofs only [go_sem, hg, h7, hge] <;> (try simp only [decide_eq_true_eq, decide_eq_false_iff_not, beq_iff_eq, bne_iff_ne, beq_eq_false_iff_ne, bne_eq_false_iff_eq, Bool.or_eq_true, Bool.and_eq_true, Bool.or_eq_false_iff, Bool.and_eq_false_imp, Bool.not_eq_true, Bool.not_eq_false, Bool.not_true, Bool.not_false, Bool.not_eq_true', Bool.not_eq_false', Bool.or_false, Bool.false_or, Bool.or_true, Bool.true_or, Bool.and_true, Bool.true_and, reduceCtorEq] at hc) <;> (try contradiction)))
                  all_goals first | omega | skip
                  all_goals
                    refine ⟨⟨(acc ++ [f'], e, f'.no, k), by dsimp only; omega, by simp; omega, by dsimp only; omega, by dsimp only; rw [hw]; simp⟩, Weak.ofG [(0, 0), (6, 6), (13, 13), (14, 14), (20, 20), (1, 1), (100, 100), (3, 3)] (by rfl) ?_ ?_ ?_, by dsimp only; omega⟩
                    · simp -implicitDefEqProofs only [go_sem]
                      rfl
                    · simp -implicitDefEqProofs only [go_sem, h7, List.length_append, List.length_singleton]
                    · simp -implicitDefEqProofs only [go_sem, List.length_append, List.length_singleton]
                · have hfa : fs2 = acc := by rw [hw, if_neg (by omega)]; simp
                  refine ⟨100, .ready, none, rfl, by simp, ?_⟩
                  simp -implicitDefEqProofs only [go_sem]
                  repeat' (first
                    | apply_assumption -exfalso -symm (transparency := .reducible) only [*]
                    | (with_reducible refine And.intro ?_ ?_)
                    | (refine drawOf ?_; kernel_rfl)
                    | ((with_reducible refine opsF_id ?_); simp -implicitDefEqProofs only [go_sem])
                    | ((with_reducible refine SW.id ?_); first | with_reducible refine SW.seqK fun K hK => ?_ | with_reducible refine SW.block ?_ | with_reducible refine SW.scope ?_ | ((first | with_reducible refine SW.skip ?_ | with_reducible refine SW.exit ?_ | with_reducible refine SW.label ?_ | with_reducible refine SW.ret ?_ | with_reducible refine SW.go MM ?_ | refine SW.goDrawF MM (by rfl) (by kernel_rfl) ?_); simp -implicitDefEqProofs only [go_sem]) | (refine SW.cond (by simp -implicitDefEqProofs only [go_sem]; rfl) (fun ht => ?_) (fun ht => ?_) <;> (try simp only [decide_eq_true_eq, decide_eq_false_iff_not, beq_iff_eq, bne_iff_ne, beq_eq_false_iff_ne, bne_eq_false_iff_eq, Bool.or_eq_true, Bool.and_eq_true, Bool.or_eq_false_iff, Bool.and_eq_false_imp, Bool.not_eq_true, Bool.not_eq_false, Bool.not_true, Bool.not_false, Bool.not_eq_true', Bool.not_eq_false', Bool.or_false, Bool.false_or, Bool.or_true, Bool.true_or, Bool.and_true, Bool.true_and, reduceCtorEq] at ht) <;> (try contradiction)))
                    | ((with_reducible refine guardSplit (fun hg => ?_) (fun hg => ?_)) <;> (try simp only [Bool.not_true, Bool.not_false] at hg) <;> (have hc := hg) <;> simp -implicitDefEqProofs only [go_sem, hg] <;> (try simp only [decide_eq_true_eq, decide_eq_false_iff_not, beq_iff_eq, bne_iff_ne, beq_eq_false_iff_ne, bne_eq_false_iff_eq, Bool.or_eq_true, Bool.and_eq_true, Bool.or_eq_false_iff, Bool.and_eq_false_imp, Bool.not_eq_true, Bool.not_eq_false, Bool.not_true, Bool.not_false, Bool.not_eq_true', Bool.not_eq_false', Bool.or_false, Bool.false_or, Bool.or_true, Bool.true_or, Bool.and_true, Bool.true_and, reduceCtorEq] at hc) <;> (try contradiction)))
                  refine ⟨(), Weak.of [(6, 6), (14, 14), (20, 20), (1, 1)] (by rfl) ?_ ?_⟩
                  · simp -implicitDefEqProofs only [go_sem]
                  · simp -implicitDefEqProofs only [go_sem, hfa]
        · repeat' (first
            | apply_assumption -exfalso -symm (transparency := .reducible) only [*]
            | (with_reducible refine And.intro ?_ ?_)
            | (refine drawOf ?_; kernel_rfl)
            | ((with_reducible refine opsF_id ?_); simp -implicitDefEqProofs only [go_sem])
            | ((with_reducible refine SW.id ?_); first | with_reducible refine SW.seqK fun K hK => ?_ | with_reducible refine SW.block ?_ | with_reducible refine SW.scope ?_ | ((first | with_reducible refine SW.skip ?_ | with_reducible refine SW.exit ?_ | with_reducible refine SW.label ?_ | with_reducible refine SW.ret ?_ | with_reducible refine SW.go MM ?_ | refine SW.goDrawF MM (by rfl) (by kernel_rfl) ?_); simp -implicitDefEqProofs only [go_sem]) | (refine SW.cond (by simp -implicitDefEqProofs only [go_sem]; rfl) (fun ht => ?_) (fun ht => ?_) <;> (try simp only [decide_eq_true_eq, decide_eq_false_iff_not, beq_iff_eq, bne_iff_ne, beq_eq_false_iff_ne, bne_eq_false_iff_eq, Bool.or_eq_true, Bool.and_eq_true, Bool.or_eq_false_iff, Bool.and_eq_false_imp, Bool.not_eq_true, Bool.not_eq_false, Bool.not_true, Bool.not_false, Bool.not_eq_true', Bool.not_eq_false', Bool.or_false, Bool.false_or, Bool.or_true, Bool.true_or, Bool.and_true, Bool.true_and, reduceCtorEq] at ht) <;> (try contradiction)))
            | ((with_reducible refine guardSplit (fun hg => ?_) (fun hg => ?_)) <;> (try simp only [Bool.not_true, Bool.not_false] at hg) <;> (have hc := hg) <;> simp -implicitDefEqProofs only [go_sem, hg] <;> (try simp only [decide_eq_true_eq, decide_eq_false_iff_not, beq_iff_eq, bne_iff_ne, beq_eq_false_iff_ne, bne_eq_false_iff_eq, Bool.or_eq_true, Bool.and_eq_true, Bool.or_eq_false_iff, Bool.and_eq_false_imp, Bool.not_eq_true, Bool.not_eq_false, Bool.not_true, Bool.not_false, Bool.not_eq_true', Bool.not_eq_false', Bool.or_false, Bool.false_or, Bool.or_true, Bool.true_or, Bool.and_true, Bool.true_and, reduceCtorEq] at hc) <;> (try contradiction)))

theorem through_law {H : Type} (ds : List (DataW H)) (xs : List A) (h : DAs [.slice (.int .u8), .int .i64, .int .u8] ds xs) (hk : dBulks ds ≤ 1048576) : ∃ back, FS Try.prog 10 xs (.ret [.v (.bool true)] back) := by
  obtain ⟨d0, ds, a0, xs, rfl, rfl, h0, h⟩ := h.cons_inv
  obtain ⟨d1, ds, a1, xs, rfl, rfl, h1, h⟩ := h.cons_inv
  obtain ⟨d2, ds, a2, xs, rfl, rfl, h2, h⟩ := h.cons_inv
  obtain ⟨rfl, rfl⟩ := h.nil_inv
  obtain ⟨b, rfl, hb, h8⟩ := h0.bytes_inv
  obtain ⟨st, rfl, rfl, s1, s2⟩ := h1.int_inv
  obtain ⟨m, rfl, _, hm⟩ := h2.byte_inv
  simp only [dBulks] at hk
  exact ⟨_, through_FS b st m (by omega) h8 s1 s2 hm⟩
end Go.PA
