/- Lists of items: the program's Join, the reference's, the law's own functions. -/
import Derived.Test.YtmacfbboiippoaaW11
namespace Go.PA
open Go.Proofs
set_option linter.unusedSimpArgs false
set_option linter.unusedVariables false
set_option maxRecDepth 100000
set_option maxHeartbeats 4000000
attribute [local go_sem] MM

/-- An item's bytes in a list. -/
def itemB (x : List Nat) : List Nat := enc 9 x.length ++ x
def joinB (l : List (List Nat)) : List Nat := l.flatMap itemB
/-- What Join answers. -/
def joinP (l : List (List Nat)) : List Nat × Nat :=
  if 4096 < l.length then ([], 2) else if 4194304 < (joinB l).length then ([], 2) else (joinB l, 0)

theorem joinB_take (l : List (List Nat)) (i : Nat) (h : i < l.length) : joinB (l.take (i + 1)) = joinB (l.take i) ++ itemB (l.getD i []) := by
  unfold joinB
  rw [List.take_add_one, List.flatMap_append, List.getD_eq_getElem?_getD, List.getElem?_eq_getElem h]
  simp
theorem joinB_le (l : List (List Nat)) (i : Nat) : (joinB (l.take i)).length ≤ (joinB l).length := by
  conv => rhs; rw [← List.take_append_drop i l]
  unfold joinB
  rw [List.flatMap_append, List.length_append]
  omega
theorem itemB_len (x : List Nat) : (itemB x).length = (enc 9 x.length).length + x.length := by simp [itemB]

theorem drawOf {ops : Array Oper} {ep : Nat} {L : List (Nat × FP)} (h : drawF ops ep L = true) : drawF ops ep L = true := h
theorem u64_len {n : Nat} (h : n < 2 ^ 63) : IntKind.u64.wrap (n : Int) = (n : Int) := by rw [IntKind.wrap_u64]; omega
theorem i64_add {a b : Nat} (h : a + b < 2 ^ 63) : IntKind.i64.wrap ((a : Int) + (b : Int)) = ((a + b : Nat) : Int) := by rw [IntWalk.i64_in _ (by omega)]; omega
theorem i64_one {a : Nat} (h : a + 1 < 2 ^ 63) : IntKind.i64.wrap ((a : Int) + 1) = ((a + 1 : Nat) : Int) := by rw [IntWalk.i64_in _ (by omega)]; omega

theorem getD_lt {l : List (List Nat)} {i m : Nat} (hm : 0 < m) (hx : ∀ x ∈ l, x.length < m) : (l.getD i []).length < m := by
  rw [List.getD_eq_getElem?_getD]
  cases h : l[i]? with
  | none => simpa using hm
  | some x => exact hx x (List.mem_of_getElem? h)

theorem join_FS (p q : Bool) (l : List (List Nat)) (hl : l.length < 2 ^ 40) (hx : ∀ x ∈ l, x.length < 2 ^ 38) :
    FS Try.prog 25 [.sl p (l.map (iT q))] (.ret [.osl 1 (bA (joinP l).1), .v (.int .i64 (joinP l).2)] [none]) := by
  have hg : ∀ i, (l.getD i []).length < 2 ^ 38 := fun i => getD_lt (by decide) hx
  refine FS_of_SW (kb := [false]) Try.func25 rfl rfl (by rfl) ?_
  refine SW.weak (Weak.of [] (sls := [(0, .sl p (l.map (iT q)))]) (bks := []) (ep := 64) (by rfl) ⟨rfl, trivial⟩ trivial) ?_
  repeat' (first
    | apply_assumption -exfalso -symm (transparency := .reducible) only [*]
    | with_reducible refine SW.stopI 4 ?_
    | (with_reducible refine And.intro ?_ ?_)
    | (refine drawOf ?_; kernel_rfl)
    | ((with_reducible refine SW.id ?_); first | with_reducible refine SW.seqK fun K hK => ?_ | with_reducible refine SW.block ?_ | ((first | with_reducible refine SW.skip ?_ | with_reducible refine SW.exit ?_ | with_reducible refine SW.label ?_ | with_reducible refine SW.ret ?_ | with_reducible refine SW.go MM ?_ | refine SW.goDrawF MM (by rfl) (by kernel_rfl) ?_); simp -implicitDefEqProofs only [go_sem]) | (refine SW.cond (by simp -implicitDefEqProofs only [go_sem]; rfl) (fun ht => ?_) (fun ht => ?_) <;> (try simp only [decide_eq_true_eq, decide_eq_false_iff_not, beq_iff_eq, bne_iff_ne, beq_eq_false_iff_ne, bne_eq_false_iff_eq, Bool.or_eq_true, Bool.and_eq_true, Bool.or_eq_false_iff, Bool.and_eq_false_imp, Bool.not_eq_true, Bool.not_eq_false, Bool.not_true, Bool.not_false, Bool.not_eq_true', Bool.not_eq_false', Bool.or_false, Bool.false_or, Bool.or_true, Bool.true_or, Bool.and_true, Bool.true_and, reduceCtorEq] at ht) <;> (try contradiction)))
    | ((with_reducible refine guardSplit (fun hg => ?_) (fun hg => ?_)) <;> (try simp only [Bool.not_true, Bool.not_false] at hg) <;> (have hc := hg) <;> simp -implicitDefEqProofs only [go_sem, hg] <;> (try simp only [decide_eq_true_eq, decide_eq_false_iff_not, beq_iff_eq, bne_iff_ne, beq_eq_false_iff_ne, bne_eq_false_iff_eq, Bool.or_eq_true, Bool.and_eq_true, Bool.or_eq_false_iff, Bool.and_eq_false_imp, Bool.not_eq_true, Bool.not_eq_false, Bool.not_true, Bool.not_false, Bool.not_eq_true', Bool.not_eq_false', Bool.or_false, Bool.false_or, Bool.or_true, Bool.true_or, Bool.and_true, Bool.true_and, reduceCtorEq] at hc) <;> (try contradiction)))
  any_goals solve | (rw [joinP, if_pos (by omega)]; rfl)
  refine Stop.go (SW.cutS (γ := PLift ((joinB l).length ≤ 4194304)) (fun _ => St.of [(0, .sl p (l.map (iT q)))] [] 64) (fun K hK => ?_) fun ⟨hsz⟩ => ?_)
  · repeat' (first
      | apply_assumption -exfalso -symm (transparency := .reducible) only [*]
      | (with_reducible refine And.intro ?_ ?_)
      | (refine drawOf ?_; kernel_rfl)
      | ((with_reducible refine SW.id ?_); first | with_reducible refine SW.seqK fun K hK => ?_ | with_reducible refine SW.block ?_ | ((first | with_reducible refine SW.skip ?_ | with_reducible refine SW.exit ?_ | with_reducible refine SW.label ?_ | with_reducible refine SW.ret ?_ | with_reducible refine SW.go MM ?_ | refine SW.goDrawF MM (by rfl) (by kernel_rfl) ?_); simp -implicitDefEqProofs only [go_sem]) | (refine SW.cond (by simp -implicitDefEqProofs only [go_sem]; rfl) (fun ht => ?_) (fun ht => ?_) <;> (try simp only [decide_eq_true_eq, decide_eq_false_iff_not, beq_iff_eq, bne_iff_ne, beq_eq_false_iff_ne, bne_eq_false_iff_eq, Bool.or_eq_true, Bool.and_eq_true, Bool.or_eq_false_iff, Bool.and_eq_false_imp, Bool.not_eq_true, Bool.not_eq_false, Bool.not_true, Bool.not_false, Bool.not_eq_true', Bool.not_eq_false', Bool.or_false, Bool.false_or, Bool.or_true, Bool.true_or, Bool.and_true, Bool.true_and, reduceCtorEq] at ht) <;> (try contradiction)))
      | ((with_reducible refine guardSplit (fun hg => ?_) (fun hg => ?_)) <;> (try simp only [Bool.not_true, Bool.not_false] at hg) <;> (have hc := hg) <;> simp -implicitDefEqProofs only [go_sem, hg] <;> (try simp only [decide_eq_true_eq, decide_eq_false_iff_not, beq_iff_eq, bne_iff_ne, beq_eq_false_iff_ne, bne_eq_false_iff_eq, Bool.or_eq_true, Bool.and_eq_true, Bool.or_eq_false_iff, Bool.and_eq_false_imp, Bool.not_eq_true, Bool.not_eq_false, Bool.not_true, Bool.not_false, Bool.not_eq_true', Bool.not_eq_false', Bool.or_false, Bool.false_or, Bool.or_true, Bool.true_or, Bool.and_true, Bool.true_and, reduceCtorEq] at hc) <;> (try contradiction)))
    refine SW.loop (α := { i : Nat // i ≤ l.length ∧ (joinB (l.take i)).length ≤ 4194304 })
      (fun i => St.of [(0, .sl p (l.map (iT q))), (4, .v (.int .i64 ((joinB (l.take i.1)).length : Nat))), (13, .sl p (l.map (iT q))), (14, .v (.int .i64 l.length)), (15, .v (.int .i64 i.1))] [] 64) (fun i => l.length - i.1)
      ⟨0, by omega, by simp [joinB]⟩ (Weak.of [] (by rfl) ?_ trivial) fun ⟨i, hi, hb⟩ => ?_
    · simp -implicitDefEqProofs only [go_sem]
      simp [joinB]
    · have h1 := u64_len (n := (l.getD i []).length) (by have := hg i; omega)
      have h2 := enc_length 9 (l.getD i []).length
      have h3 := i64_add (a := (l.getD i []).length) (b := (enc 9 (l.getD i []).length).length) (by have := hg i; omega)
      have h4 := i64_add (a := (joinB (l.take i)).length) (b := (l.getD i []).length + (enc 9 (l.getD i []).length).length) (by have := hg i; omega)
      have h5 := i64_one (a := i) (by omega)
      have h6 := fun h => congrArg List.length (joinB_take l i h)
      simp only [List.length_append, itemB_len] at h6
      have h7 := hg i
      have h8 := joinB_le l (i + 1)
      repeat' (first
        | apply_assumption -exfalso -symm (transparency := .reducible) only [*]
        | (refine ⟨_, _, size_FS (l.getD i []).length ?_, ?_⟩ <;> (try simp -implicitDefEqProofs only [go_sem, h1, h3, h4, h5]))
        | (with_reducible refine And.intro ?_ ?_)
        | (refine drawOf ?_; kernel_rfl)
        | ((with_reducible refine SW.id ?_); first | with_reducible refine SW.seqK fun K hK => ?_ | with_reducible refine SW.block ?_ | ((first | with_reducible refine SW.skip ?_ | with_reducible refine SW.exit ?_ | with_reducible refine SW.label ?_ | with_reducible refine SW.ret ?_ | with_reducible refine SW.go MM ?_ | refine SW.goDrawF MM (by rfl) (by kernel_rfl) ?_); simp -implicitDefEqProofs only [go_sem, h1, h3, h4, h5]) | (refine SW.cond (by simp -implicitDefEqProofs only [go_sem, h1, h3, h4, h5]; rfl) (fun ht => ?_) (fun ht => ?_) <;> (try simp only [decide_eq_true_eq, decide_eq_false_iff_not, beq_iff_eq, bne_iff_ne, beq_eq_false_iff_ne, bne_eq_false_iff_eq, Bool.or_eq_true, Bool.and_eq_true, Bool.or_eq_false_iff, Bool.and_eq_false_imp, Bool.not_eq_true, Bool.not_eq_false, Bool.not_true, Bool.not_false, Bool.not_eq_true', Bool.not_eq_false', Bool.or_false, Bool.false_or, Bool.or_true, Bool.true_or, Bool.and_true, Bool.true_and, reduceCtorEq] at ht) <;> (try contradiction)))
        | ((with_reducible refine guardSplit (fun hg => ?_) (fun hg => ?_)) <;> (try simp only [Bool.not_true, Bool.not_false] at hg) <;> (have hc := hg) <;> simp -implicitDefEqProofs only [go_sem, hg, h1, h3, h4, h5] <;> (try simp only [decide_eq_true_eq, decide_eq_false_iff_not, beq_iff_eq, bne_iff_ne, beq_eq_false_iff_ne, bne_eq_false_iff_eq, Bool.or_eq_true, Bool.and_eq_true, Bool.or_eq_false_iff, Bool.and_eq_false_imp, Bool.not_eq_true, Bool.not_eq_false, Bool.not_true, Bool.not_false, Bool.not_eq_true', Bool.not_eq_false', Bool.or_false, Bool.false_or, Bool.or_true, Bool.true_or, Bool.and_true, Bool.true_and, reduceCtorEq] at hc) <;> (try contradiction)))
      all_goals try omega
      any_goals solve | (rw [joinP, if_neg (by omega), if_pos (by have := h6 (by omega); omega)]; rfl)
      · refine ⟨⟨i + 1, by omega, by rw [h6 (by omega)]; omega⟩, Weak.of [] (by rfl) ?_ trivial, by dsimp only; omega⟩
        simp -implicitDefEqProofs only [go_sem, h5, h6 (by omega)]
        omega
      · refine ⟨⟨by rw [show i = l.length by omega, List.take_length] at hb; exact hb⟩, Weak.of [] (by rfl) ?_ trivial⟩
        simp -implicitDefEqProofs only [go_sem]
  · have hjP : 4096 ≥ l.length → joinP l = (joinB l, 0) := fun h => by rw [joinP, if_neg (by omega), if_neg (by omega)]
    have h9 := fun i => joinB_le l i
    repeat' (first
      | apply_assumption -exfalso -symm (transparency := .reducible) only [*]
      | with_reducible refine SW.stopI 12 ?_
      | (with_reducible refine And.intro ?_ ?_)
      | (refine drawOf ?_; kernel_rfl)
      | ((with_reducible refine SW.id ?_); first | with_reducible refine SW.seqK fun K hK => ?_ | with_reducible refine SW.block ?_ | ((first | with_reducible refine SW.skip ?_ | with_reducible refine SW.exit ?_ | with_reducible refine SW.label ?_ | with_reducible refine SW.ret ?_ | with_reducible refine SW.go MM ?_ | refine SW.goDrawF MM (by rfl) (by kernel_rfl) ?_); simp -implicitDefEqProofs only [go_sem]) | (refine SW.cond (by simp -implicitDefEqProofs only [go_sem]; rfl) (fun ht => ?_) (fun ht => ?_) <;> (try simp only [decide_eq_true_eq, decide_eq_false_iff_not, beq_iff_eq, bne_iff_ne, beq_eq_false_iff_ne, bne_eq_false_iff_eq, Bool.or_eq_true, Bool.and_eq_true, Bool.or_eq_false_iff, Bool.and_eq_false_imp, Bool.not_eq_true, Bool.not_eq_false, Bool.not_true, Bool.not_false, Bool.not_eq_true', Bool.not_eq_false', Bool.or_false, Bool.false_or, Bool.or_true, Bool.true_or, Bool.and_true, Bool.true_and, reduceCtorEq] at ht) <;> (try contradiction)))
      | ((with_reducible refine guardSplit (fun hg => ?_) (fun hg => ?_)) <;> (try simp only [Bool.not_true, Bool.not_false] at hg) <;> (have hc := hg) <;> simp -implicitDefEqProofs only [go_sem, hg] <;> (try simp only [decide_eq_true_eq, decide_eq_false_iff_not, beq_iff_eq, bne_iff_ne, beq_eq_false_iff_ne, bne_eq_false_iff_eq, Bool.or_eq_true, Bool.and_eq_true, Bool.or_eq_false_iff, Bool.and_eq_false_imp, Bool.not_eq_true, Bool.not_eq_false, Bool.not_true, Bool.not_false, Bool.not_eq_true', Bool.not_eq_false', Bool.or_false, Bool.false_or, Bool.or_true, Bool.true_or, Bool.and_true, Bool.true_and, reduceCtorEq] at hc) <;> (try contradiction)))
    refine Stop.go (SW.cutS (γ := Unit) (fun _ => St.of [(7, .ref 0 1 0 (joinB l).length false)] [(0, .row 1 (bA (joinB l)))] 64) (fun K hK => ?_) fun _ => ?_)
    · repeat' (first
        | apply_assumption -exfalso -symm (transparency := .reducible) only [*]
        | (with_reducible refine And.intro ?_ ?_)
        | (refine drawOf ?_; kernel_rfl)
        | ((with_reducible refine SW.id ?_); first | with_reducible refine SW.seqK fun K hK => ?_ | with_reducible refine SW.block ?_ | ((first | with_reducible refine SW.skip ?_ | with_reducible refine SW.exit ?_ | with_reducible refine SW.label ?_ | with_reducible refine SW.ret ?_ | with_reducible refine SW.go MM ?_ | refine SW.goDrawF MM (by rfl) (by kernel_rfl) ?_); simp -implicitDefEqProofs only [go_sem]) | (refine SW.cond (by simp -implicitDefEqProofs only [go_sem]; rfl) (fun ht => ?_) (fun ht => ?_) <;> (try simp only [decide_eq_true_eq, decide_eq_false_iff_not, beq_iff_eq, bne_iff_ne, beq_eq_false_iff_ne, bne_eq_false_iff_eq, Bool.or_eq_true, Bool.and_eq_true, Bool.or_eq_false_iff, Bool.and_eq_false_imp, Bool.not_eq_true, Bool.not_eq_false, Bool.not_true, Bool.not_false, Bool.not_eq_true', Bool.not_eq_false', Bool.or_false, Bool.false_or, Bool.or_true, Bool.true_or, Bool.and_true, Bool.true_and, reduceCtorEq] at ht) <;> (try contradiction)))
        | ((with_reducible refine guardSplit (fun hg => ?_) (fun hg => ?_)) <;> (try simp only [Bool.not_true, Bool.not_false] at hg) <;> (have hc := hg) <;> simp -implicitDefEqProofs only [go_sem, hg] <;> (try simp only [decide_eq_true_eq, decide_eq_false_iff_not, beq_iff_eq, bne_iff_ne, beq_eq_false_iff_ne, bne_eq_false_iff_eq, Bool.or_eq_true, Bool.and_eq_true, Bool.or_eq_false_iff, Bool.and_eq_false_imp, Bool.not_eq_true, Bool.not_eq_false, Bool.not_true, Bool.not_false, Bool.not_eq_true', Bool.not_eq_false', Bool.or_false, Bool.false_or, Bool.or_true, Bool.true_or, Bool.and_true, Bool.true_and, reduceCtorEq] at hc) <;> (try contradiction)))
      refine SW.loop (α := { i : Nat // i ≤ l.length })
        (fun i => St.of [(0, .sl p (l.map (iT q))), (7, .ref 0 1 0 (joinB (l.take i.1)).length false), (31, .sl p (l.map (iT q))), (32, .v (.int .i64 l.length)), (33, .v (.int .i64 i.1))] [(0, .row 1 (bA (joinB (l.take i.1))))] 64) (fun i => l.length - i.1)
        ⟨0, by omega⟩ (Weak.of [(64, 0)] (by rfl) ?_ ?_) fun ⟨i, hi⟩ => ?_
      · simp -implicitDefEqProofs only [go_sem]
        simp [joinB]
      · simp -implicitDefEqProofs only [go_sem]
        simp [joinB, bA]
      · have h1 := u64_len (n := (l.getD i []).length) (by have := hg i; omega)
        have h2 := enc_length 9 (l.getD i []).length
        have h5 := i64_one (a := i) (by omega)
        have h6 := joinB_take l i
        have h7 := hg i
        have h8 := h9 i
        repeat' (first
          | apply_assumption -exfalso -symm (transparency := .reducible) only [*]
          | (refine ⟨_, _, add_FS (joinB (l.take i)) (l.getD i []).length ?_ ?_, ?_⟩ <;> (try simp -implicitDefEqProofs only [go_sem, h1, h5]))
          | (with_reducible refine And.intro ?_ ?_)
          | (refine drawOf ?_; kernel_rfl)
          | ((with_reducible refine SW.id ?_); first | with_reducible refine SW.seqK fun K hK => ?_ | with_reducible refine SW.block ?_ | ((first | with_reducible refine SW.skip ?_ | with_reducible refine SW.exit ?_ | with_reducible refine SW.label ?_ | with_reducible refine SW.ret ?_ | with_reducible refine SW.go MM ?_ | refine SW.goDrawF MM (by rfl) (by kernel_rfl) ?_); simp -implicitDefEqProofs only [go_sem, h1, h5]) | (refine SW.cond (by simp -implicitDefEqProofs only [go_sem, h1, h5]; rfl) (fun ht => ?_) (fun ht => ?_) <;> (try simp only [decide_eq_true_eq, decide_eq_false_iff_not, beq_iff_eq, bne_iff_ne, beq_eq_false_iff_ne, bne_eq_false_iff_eq, Bool.or_eq_true, Bool.and_eq_true, Bool.or_eq_false_iff, Bool.and_eq_false_imp, Bool.not_eq_true, Bool.not_eq_false, Bool.not_true, Bool.not_false, Bool.not_eq_true', Bool.not_eq_false', Bool.or_false, Bool.false_or, Bool.or_true, Bool.true_or, Bool.and_true, Bool.true_and, reduceCtorEq] at ht) <;> (try contradiction)))
          | ((with_reducible refine guardSplit (fun hg => ?_) (fun hg => ?_)) <;> (try simp only [Bool.not_true, Bool.not_false] at hg) <;> (have hc := hg) <;> simp -implicitDefEqProofs only [go_sem, hg, h1, h5] <;> (try simp only [decide_eq_true_eq, decide_eq_false_iff_not, beq_iff_eq, bne_iff_ne, beq_eq_false_iff_ne, bne_eq_false_iff_eq, Bool.or_eq_true, Bool.and_eq_true, Bool.or_eq_false_iff, Bool.and_eq_false_imp, Bool.not_eq_true, Bool.not_eq_false, Bool.not_true, Bool.not_false, Bool.not_eq_true', Bool.not_eq_false', Bool.or_false, Bool.false_or, Bool.or_true, Bool.true_or, Bool.and_true, Bool.true_and, reduceCtorEq] at hc) <;> (try contradiction)))
        all_goals try omega
        · rw [List.length_append]
          exact roomy_of (by omega) (by decide)
        · refine ⟨⟨i + 1, by omega⟩, Weak.of [(704, 0)] (by rfl) ?_ ?_, by dsimp only; omega⟩
          · simp -implicitDefEqProofs only [go_sem, h5, h6 (by omega), List.length_append, itemB_len, Nat.add_assoc]
          · simp -implicitDefEqProofs only [go_sem, h6 (by omega), itemB, List.append_assoc]
        · refine ⟨(), Weak.of [(0, 0)] (by rfl) ?_ ?_⟩
          · simp -implicitDefEqProofs only [go_sem]
            rw [show i = l.length by omega, List.take_length]
          · simp -implicitDefEqProofs only [go_sem]
            rw [show i = l.length by omega, List.take_length]
    · repeat' (first
        | apply_assumption -exfalso -symm (transparency := .reducible) only [*]
        | (with_reducible refine And.intro ?_ ?_)
        | (refine drawOf ?_; kernel_rfl)
        | ((with_reducible refine SW.id ?_); first | with_reducible refine SW.seqK fun K hK => ?_ | with_reducible refine SW.block ?_ | ((first | with_reducible refine SW.skip ?_ | with_reducible refine SW.exit ?_ | with_reducible refine SW.label ?_ | with_reducible refine SW.ret ?_ | with_reducible refine SW.go MM ?_ | refine SW.goDrawF MM (by rfl) (by kernel_rfl) ?_); simp -implicitDefEqProofs only [go_sem]) | (refine SW.cond (by simp -implicitDefEqProofs only [go_sem]; rfl) (fun ht => ?_) (fun ht => ?_) <;> (try simp only [decide_eq_true_eq, decide_eq_false_iff_not, beq_iff_eq, bne_iff_ne, beq_eq_false_iff_ne, bne_eq_false_iff_eq, Bool.or_eq_true, Bool.and_eq_true, Bool.or_eq_false_iff, Bool.and_eq_false_imp, Bool.not_eq_true, Bool.not_eq_false, Bool.not_true, Bool.not_false, Bool.not_eq_true', Bool.not_eq_false', Bool.or_false, Bool.false_or, Bool.or_true, Bool.true_or, Bool.and_true, Bool.true_and, reduceCtorEq] at ht) <;> (try contradiction)))
        | ((with_reducible refine guardSplit (fun hg => ?_) (fun hg => ?_)) <;> (try simp only [Bool.not_true, Bool.not_false] at hg) <;> (have hc := hg) <;> simp -implicitDefEqProofs only [go_sem, hg] <;> (try simp only [decide_eq_true_eq, decide_eq_false_iff_not, beq_iff_eq, bne_iff_ne, beq_eq_false_iff_ne, bne_eq_false_iff_eq, Bool.or_eq_true, Bool.and_eq_true, Bool.or_eq_false_iff, Bool.and_eq_false_imp, Bool.not_eq_true, Bool.not_eq_false, Bool.not_true, Bool.not_false, Bool.not_eq_true', Bool.not_eq_false', Bool.or_false, Bool.false_or, Bool.or_true, Bool.true_or, Bool.and_true, Bool.true_and, reduceCtorEq] at hc) <;> (try contradiction)))
      all_goals rw [hjP (by omega)]
      all_goals rfl

theorem refJoin_FS (p q : Bool) (l : List (List Nat)) (hl : l.length < 2 ^ 40) (hx : ∀ x ∈ l, x.length < 2 ^ 38) :
    FS Try.prog 26 [.sl p (l.map (iT q))] (.ret [.osl 1 (bA (joinP l).1), .v (.int .i64 (joinP l).2)] [none]) := by
  have hg : ∀ i, (l.getD i []).length < 2 ^ 38 := fun i => getD_lt (by decide) hx
  refine FS_of_SW (kb := [false]) Try.func26 rfl rfl (by rfl) ?_
  refine SW.weak (Weak.of [] (sls := [(0, .sl p (l.map (iT q)))]) (bks := []) (ep := 64) (by rfl) ⟨rfl, trivial⟩ trivial) ?_
  repeat' (first
    | apply_assumption -exfalso -symm (transparency := .reducible) only [*]
    | with_reducible refine SW.stopI 4 ?_
    | (with_reducible refine And.intro ?_ ?_)
    | (refine drawOf ?_; kernel_rfl)
    | ((with_reducible refine SW.id ?_); first | with_reducible refine SW.seqK fun K hK => ?_ | with_reducible refine SW.block ?_ | ((first | with_reducible refine SW.skip ?_ | with_reducible refine SW.exit ?_ | with_reducible refine SW.label ?_ | with_reducible refine SW.ret ?_ | with_reducible refine SW.go MM ?_ | refine SW.goDrawF MM (by rfl) (by kernel_rfl) ?_); simp -implicitDefEqProofs only [go_sem]) | (refine SW.cond (by simp -implicitDefEqProofs only [go_sem]; rfl) (fun ht => ?_) (fun ht => ?_) <;> (try simp only [decide_eq_true_eq, decide_eq_false_iff_not, beq_iff_eq, bne_iff_ne, beq_eq_false_iff_ne, bne_eq_false_iff_eq, Bool.or_eq_true, Bool.and_eq_true, Bool.or_eq_false_iff, Bool.and_eq_false_imp, Bool.not_eq_true, Bool.not_eq_false, Bool.not_true, Bool.not_false, Bool.not_eq_true', Bool.not_eq_false', Bool.or_false, Bool.false_or, Bool.or_true, Bool.true_or, Bool.and_true, Bool.true_and, reduceCtorEq] at ht) <;> (try contradiction)))
    | ((with_reducible refine guardSplit (fun hg => ?_) (fun hg => ?_)) <;> (try simp only [Bool.not_true, Bool.not_false] at hg) <;> (have hc := hg) <;> simp -implicitDefEqProofs only [go_sem, hg] <;> (try simp only [decide_eq_true_eq, decide_eq_false_iff_not, beq_iff_eq, bne_iff_ne, beq_eq_false_iff_ne, bne_eq_false_iff_eq, Bool.or_eq_true, Bool.and_eq_true, Bool.or_eq_false_iff, Bool.and_eq_false_imp, Bool.not_eq_true, Bool.not_eq_false, Bool.not_true, Bool.not_false, Bool.not_eq_true', Bool.not_eq_false', Bool.or_false, Bool.false_or, Bool.or_true, Bool.true_or, Bool.and_true, Bool.true_and, reduceCtorEq] at hc) <;> (try contradiction)))
  any_goals solve | (rw [joinP, if_pos (by omega)]; rfl)
  refine Stop.go (SW.cutS (γ := PLift ((joinB l).length ≤ 4194304)) (fun _ => St.of [(0, .sl p (l.map (iT q))), (4, .v (.int .i64 (joinB l).length))] [] 64) (fun K hK => ?_) fun ⟨hsz⟩ => ?_)
  · repeat' (first
      | apply_assumption -exfalso -symm (transparency := .reducible) only [*]
      | (with_reducible refine And.intro ?_ ?_)
      | (refine drawOf ?_; kernel_rfl)
      | ((with_reducible refine SW.id ?_); first | with_reducible refine SW.seqK fun K hK => ?_ | with_reducible refine SW.block ?_ | ((first | with_reducible refine SW.skip ?_ | with_reducible refine SW.exit ?_ | with_reducible refine SW.label ?_ | with_reducible refine SW.ret ?_ | with_reducible refine SW.go MM ?_ | refine SW.goDrawF MM (by rfl) (by kernel_rfl) ?_); simp -implicitDefEqProofs only [go_sem]) | (refine SW.cond (by simp -implicitDefEqProofs only [go_sem]; rfl) (fun ht => ?_) (fun ht => ?_) <;> (try simp only [decide_eq_true_eq, decide_eq_false_iff_not, beq_iff_eq, bne_iff_ne, beq_eq_false_iff_ne, bne_eq_false_iff_eq, Bool.or_eq_true, Bool.and_eq_true, Bool.or_eq_false_iff, Bool.and_eq_false_imp, Bool.not_eq_true, Bool.not_eq_false, Bool.not_true, Bool.not_false, Bool.not_eq_true', Bool.not_eq_false', Bool.or_false, Bool.false_or, Bool.or_true, Bool.true_or, Bool.and_true, Bool.true_and, reduceCtorEq] at ht) <;> (try contradiction)))
      | ((with_reducible refine guardSplit (fun hg => ?_) (fun hg => ?_)) <;> (try simp only [Bool.not_true, Bool.not_false] at hg) <;> (have hc := hg) <;> simp -implicitDefEqProofs only [go_sem, hg] <;> (try simp only [decide_eq_true_eq, decide_eq_false_iff_not, beq_iff_eq, bne_iff_ne, beq_eq_false_iff_ne, bne_eq_false_iff_eq, Bool.or_eq_true, Bool.and_eq_true, Bool.or_eq_false_iff, Bool.and_eq_false_imp, Bool.not_eq_true, Bool.not_eq_false, Bool.not_true, Bool.not_false, Bool.not_eq_true', Bool.not_eq_false', Bool.or_false, Bool.false_or, Bool.or_true, Bool.true_or, Bool.and_true, Bool.true_and, reduceCtorEq] at hc) <;> (try contradiction)))
    refine SW.loop (α := { i : Nat // i ≤ l.length ∧ (joinB (l.take i)).length ≤ 4194304 })
      (fun i => St.of [(0, .sl p (l.map (iT q))), (4, .v (.int .i64 ((joinB (l.take i.1)).length : Nat))), (5, .v (.int .i64 i.1))] [] 64) (fun i => l.length - i.1)
      ⟨0, by omega, by simp [joinB]⟩ (Weak.of [] (by rfl) ?_ trivial) fun ⟨i, hi, hb⟩ => ?_
    · simp -implicitDefEqProofs only [go_sem]
      simp [joinB]
    · have h1 := u64_len (n := (l.getD i []).length) (by have := hg i; omega)
      have h2 := enc_length 9 (l.getD i []).length
      have h3 := i64_add (a := (joinB (l.take i)).length) (b := (enc 9 (l.getD i []).length).length) (by have := hg i; omega)
      have h4 := i64_add (a := (joinB (l.take i)).length + (enc 9 (l.getD i []).length).length) (b := (l.getD i []).length) (by have := hg i; omega)
      have h5 := i64_one (a := i) (by omega)
      have h6 := fun h => congrArg List.length (joinB_take l i h)
      simp only [List.length_append, itemB_len] at h6
      have h7 := hg i
      have h8 := joinB_le l (i + 1)
      repeat' (first
        | apply_assumption -exfalso -symm (transparency := .reducible) only [*]
        | (refine ⟨_, _, refSize_FS (l.getD i []).length ?_, ?_⟩ <;> (try simp -implicitDefEqProofs only [go_sem, h1, h3, h4, h5]))
        | (with_reducible refine And.intro ?_ ?_)
        | (refine drawOf ?_; kernel_rfl)
        | ((with_reducible refine SW.id ?_); first | with_reducible refine SW.seqK fun K hK => ?_ | with_reducible refine SW.block ?_ | ((first | with_reducible refine SW.skip ?_ | with_reducible refine SW.exit ?_ | with_reducible refine SW.label ?_ | with_reducible refine SW.ret ?_ | with_reducible refine SW.go MM ?_ | refine SW.goDrawF MM (by rfl) (by kernel_rfl) ?_); simp -implicitDefEqProofs only [go_sem, h1, h3, h4, h5]) | (refine SW.cond (by simp -implicitDefEqProofs only [go_sem, h1, h3, h4, h5]; rfl) (fun ht => ?_) (fun ht => ?_) <;> (try simp only [decide_eq_true_eq, decide_eq_false_iff_not, beq_iff_eq, bne_iff_ne, beq_eq_false_iff_ne, bne_eq_false_iff_eq, Bool.or_eq_true, Bool.and_eq_true, Bool.or_eq_false_iff, Bool.and_eq_false_imp, Bool.not_eq_true, Bool.not_eq_false, Bool.not_true, Bool.not_false, Bool.not_eq_true', Bool.not_eq_false', Bool.or_false, Bool.false_or, Bool.or_true, Bool.true_or, Bool.and_true, Bool.true_and, reduceCtorEq] at ht) <;> (try contradiction)))
        | ((with_reducible refine guardSplit (fun hg => ?_) (fun hg => ?_)) <;> (try simp only [Bool.not_true, Bool.not_false] at hg) <;> (have hc := hg) <;> simp -implicitDefEqProofs only [go_sem, hg, h1, h3, h4, h5] <;> (try simp only [decide_eq_true_eq, decide_eq_false_iff_not, beq_iff_eq, bne_iff_ne, beq_eq_false_iff_ne, bne_eq_false_iff_eq, Bool.or_eq_true, Bool.and_eq_true, Bool.or_eq_false_iff, Bool.and_eq_false_imp, Bool.not_eq_true, Bool.not_eq_false, Bool.not_true, Bool.not_false, Bool.not_eq_true', Bool.not_eq_false', Bool.or_false, Bool.false_or, Bool.or_true, Bool.true_or, Bool.and_true, Bool.true_and, reduceCtorEq] at hc) <;> (try contradiction)))
      all_goals try omega
      all_goals try (rw [joinP, if_neg (by omega), if_pos (by have := h6 (by omega); omega)]; rfl)
      · refine ⟨⟨i + 1, by omega, by rw [h6 (by omega)]; omega⟩, Weak.of [] (by rfl) ?_ trivial, by dsimp only; omega⟩
        simp -implicitDefEqProofs only [go_sem, h5, h6 (by omega)]
        omega
      · have hil : l.take i = l := by rw [show i = l.length by omega, List.take_length]
        rw [hil] at hb
        refine ⟨⟨hb⟩, Weak.of [] (by rfl) ?_ trivial⟩
        simp -implicitDefEqProofs only [go_sem, hil]
  · have hjP : 4096 ≥ l.length → joinP l = (joinB l, 0) := fun h => by rw [joinP, if_neg (by omega), if_neg (by omega)]
    have h9 := fun i => joinB_le l i
    repeat' (first
      | apply_assumption -exfalso -symm (transparency := .reducible) only [*]
      | with_reducible refine SW.stopI 11 ?_
      | (with_reducible refine And.intro ?_ ?_)
      | (refine drawOf ?_; kernel_rfl)
      | ((with_reducible refine SW.id ?_); first | with_reducible refine SW.seqK fun K hK => ?_ | with_reducible refine SW.block ?_ | ((first | with_reducible refine SW.skip ?_ | with_reducible refine SW.exit ?_ | with_reducible refine SW.label ?_ | with_reducible refine SW.ret ?_ | with_reducible refine SW.go MM ?_ | refine SW.goDrawF MM (by rfl) (by kernel_rfl) ?_); simp -implicitDefEqProofs only [go_sem]) | (refine SW.cond (by simp -implicitDefEqProofs only [go_sem]; rfl) (fun ht => ?_) (fun ht => ?_) <;> (try simp only [decide_eq_true_eq, decide_eq_false_iff_not, beq_iff_eq, bne_iff_ne, beq_eq_false_iff_ne, bne_eq_false_iff_eq, Bool.or_eq_true, Bool.and_eq_true, Bool.or_eq_false_iff, Bool.and_eq_false_imp, Bool.not_eq_true, Bool.not_eq_false, Bool.not_true, Bool.not_false, Bool.not_eq_true', Bool.not_eq_false', Bool.or_false, Bool.false_or, Bool.or_true, Bool.true_or, Bool.and_true, Bool.true_and, reduceCtorEq] at ht) <;> (try contradiction)))
      | ((with_reducible refine guardSplit (fun hg => ?_) (fun hg => ?_)) <;> (try simp only [Bool.not_true, Bool.not_false] at hg) <;> (have hc := hg) <;> simp -implicitDefEqProofs only [go_sem, hg] <;> (try simp only [decide_eq_true_eq, decide_eq_false_iff_not, beq_iff_eq, bne_iff_ne, beq_eq_false_iff_ne, bne_eq_false_iff_eq, Bool.or_eq_true, Bool.and_eq_true, Bool.or_eq_false_iff, Bool.and_eq_false_imp, Bool.not_eq_true, Bool.not_eq_false, Bool.not_true, Bool.not_false, Bool.not_eq_true', Bool.not_eq_false', Bool.or_false, Bool.false_or, Bool.or_true, Bool.true_or, Bool.and_true, Bool.true_and, reduceCtorEq] at hc) <;> (try contradiction)))
    all_goals try omega
    refine Stop.go (SW.cutS (γ := Unit) (fun _ => St.of [(6, .ref 0 1 0 (joinB l).length false)] [(0, .row 1 (bA (joinB l)))] 64) (fun K hK => ?_) fun _ => ?_)
    · repeat' (first
        | apply_assumption -exfalso -symm (transparency := .reducible) only [*]
        | (with_reducible refine And.intro ?_ ?_)
        | (refine drawOf ?_; kernel_rfl)
        | ((with_reducible refine SW.id ?_); first | with_reducible refine SW.seqK fun K hK => ?_ | with_reducible refine SW.block ?_ | ((first | with_reducible refine SW.skip ?_ | with_reducible refine SW.exit ?_ | with_reducible refine SW.label ?_ | with_reducible refine SW.ret ?_ | with_reducible refine SW.go MM ?_ | refine SW.goDrawF MM (by rfl) (by kernel_rfl) ?_); simp -implicitDefEqProofs only [go_sem]) | (refine SW.cond (by simp -implicitDefEqProofs only [go_sem]; rfl) (fun ht => ?_) (fun ht => ?_) <;> (try simp only [decide_eq_true_eq, decide_eq_false_iff_not, beq_iff_eq, bne_iff_ne, beq_eq_false_iff_ne, bne_eq_false_iff_eq, Bool.or_eq_true, Bool.and_eq_true, Bool.or_eq_false_iff, Bool.and_eq_false_imp, Bool.not_eq_true, Bool.not_eq_false, Bool.not_true, Bool.not_false, Bool.not_eq_true', Bool.not_eq_false', Bool.or_false, Bool.false_or, Bool.or_true, Bool.true_or, Bool.and_true, Bool.true_and, reduceCtorEq] at ht) <;> (try contradiction)))
        | ((with_reducible refine guardSplit (fun hg => ?_) (fun hg => ?_)) <;> (try simp only [Bool.not_true, Bool.not_false] at hg) <;> (have hc := hg) <;> simp -implicitDefEqProofs only [go_sem, hg] <;> (try simp only [decide_eq_true_eq, decide_eq_false_iff_not, beq_iff_eq, bne_iff_ne, beq_eq_false_iff_ne, bne_eq_false_iff_eq, Bool.or_eq_true, Bool.and_eq_true, Bool.or_eq_false_iff, Bool.and_eq_false_imp, Bool.not_eq_true, Bool.not_eq_false, Bool.not_true, Bool.not_false, Bool.not_eq_true', Bool.not_eq_false', Bool.or_false, Bool.false_or, Bool.or_true, Bool.true_or, Bool.and_true, Bool.true_and, reduceCtorEq] at hc) <;> (try contradiction)))
      refine SW.loop (α := { i : Nat // i ≤ l.length })
        (fun i => St.of [(0, .sl p (l.map (iT q))), (6, .ref 0 1 0 (joinB (l.take i.1)).length false), (7, .v (.int .i64 i.1))] [(0, .row 1 (bA (joinB (l.take i.1))))] 64) (fun i => l.length - i.1)
        ⟨0, by omega⟩ (Weak.of [(128, 0)] (by rfl) ?_ ?_) fun ⟨i, hi⟩ => ?_
      · simp -implicitDefEqProofs only [go_sem]
        simp [joinB]
      · simp -implicitDefEqProofs only [go_sem]
        simp [joinB, bA]
      · have h1 := u64_len (n := (l.getD i []).length) (by have := hg i; omega)
        have h2 := enc_length 9 (l.getD i []).length
        have h5 := i64_one (a := i) (by omega)
        have h6 := joinB_take l i
        have h7 := hg i
        have h8 := h9 i
        have hput : (l.getD i []).length < 2 ^ 64 → FS Try.prog 17 [.sl true [], .v (.int .u64 (l.getD i []).length)] (.ret [.osl 1 (bA (enc 9 (l.getD i []).length))] [none, none]) := fun h => by
          have := refPut_FS true [] (l.getD i []).length h (by simp)
          simpa only [bA_nil, List.nil_append] using this
        repeat' (first
          | apply_assumption -exfalso -symm (transparency := .reducible) only [*]
          | (refine ⟨_, _, hput ?_, ?_⟩ <;> (try simp -implicitDefEqProofs only [go_sem, h1, h5]))
          | (with_reducible refine And.intro ?_ ?_)
          | (refine drawOf ?_; kernel_rfl)
          | ((with_reducible refine SW.id ?_); first | with_reducible refine SW.seqK fun K hK => ?_ | with_reducible refine SW.block ?_ | ((first | with_reducible refine SW.skip ?_ | with_reducible refine SW.exit ?_ | with_reducible refine SW.label ?_ | with_reducible refine SW.ret ?_ | with_reducible refine SW.go MM ?_ | refine SW.goDrawF MM (by rfl) (by kernel_rfl) ?_); simp -implicitDefEqProofs only [go_sem, h1, h5]) | (refine SW.cond (by simp -implicitDefEqProofs only [go_sem, h1, h5]; rfl) (fun ht => ?_) (fun ht => ?_) <;> (try simp only [decide_eq_true_eq, decide_eq_false_iff_not, beq_iff_eq, bne_iff_ne, beq_eq_false_iff_ne, bne_eq_false_iff_eq, Bool.or_eq_true, Bool.and_eq_true, Bool.or_eq_false_iff, Bool.and_eq_false_imp, Bool.not_eq_true, Bool.not_eq_false, Bool.not_true, Bool.not_false, Bool.not_eq_true', Bool.not_eq_false', Bool.or_false, Bool.false_or, Bool.or_true, Bool.true_or, Bool.and_true, Bool.true_and, reduceCtorEq] at ht) <;> (try contradiction)))
          | ((with_reducible refine guardSplit (fun hg => ?_) (fun hg => ?_)) <;> (try simp only [Bool.not_true, Bool.not_false] at hg) <;> (have hc := hg) <;> simp -implicitDefEqProofs only [go_sem, hg, h1, h5] <;> (try simp only [decide_eq_true_eq, decide_eq_false_iff_not, beq_iff_eq, bne_iff_ne, beq_eq_false_iff_ne, bne_eq_false_iff_eq, Bool.or_eq_true, Bool.and_eq_true, Bool.or_eq_false_iff, Bool.and_eq_false_imp, Bool.not_eq_true, Bool.not_eq_false, Bool.not_true, Bool.not_false, Bool.not_eq_true', Bool.not_eq_false', Bool.or_false, Bool.false_or, Bool.or_true, Bool.true_or, Bool.and_true, Bool.true_and, reduceCtorEq] at hc) <;> (try contradiction)))
        all_goals try omega
        any_goals solve | exact roomy_of (by first | omega | (simp only [List.length_append]; omega)) (by decide)
        any_goals solve | simp only [List.length_append]
        · refine ⟨⟨i + 1, by omega⟩, Weak.of [(1280, 0)] (by rfl) ?_ ?_, by dsimp only; omega⟩
          · simp -implicitDefEqProofs only [go_sem, h5, h6 (by omega), List.length_append, itemB_len, Nat.add_assoc]
          · simp -implicitDefEqProofs only [go_sem, h6 (by omega), itemB, List.append_assoc]
        · refine ⟨(), Weak.of [(0, 0)] (by rfl) ?_ ?_⟩
          · simp -implicitDefEqProofs only [go_sem]
            rw [show i = l.length by omega, List.take_length]
          · simp -implicitDefEqProofs only [go_sem]
            rw [show i = l.length by omega, List.take_length]
    · repeat' (first
        | apply_assumption -exfalso -symm (transparency := .reducible) only [*]
        | (with_reducible refine And.intro ?_ ?_)
        | (refine drawOf ?_; kernel_rfl)
        | ((with_reducible refine SW.id ?_); first | with_reducible refine SW.seqK fun K hK => ?_ | with_reducible refine SW.block ?_ | ((first | with_reducible refine SW.skip ?_ | with_reducible refine SW.exit ?_ | with_reducible refine SW.label ?_ | with_reducible refine SW.ret ?_ | with_reducible refine SW.go MM ?_ | refine SW.goDrawF MM (by rfl) (by kernel_rfl) ?_); simp -implicitDefEqProofs only [go_sem]) | (refine SW.cond (by simp -implicitDefEqProofs only [go_sem]; rfl) (fun ht => ?_) (fun ht => ?_) <;> (try simp only [decide_eq_true_eq, decide_eq_false_iff_not, beq_iff_eq, bne_iff_ne, beq_eq_false_iff_ne, bne_eq_false_iff_eq, Bool.or_eq_true, Bool.and_eq_true, Bool.or_eq_false_iff, Bool.and_eq_false_imp, Bool.not_eq_true, Bool.not_eq_false, Bool.not_true, Bool.not_false, Bool.not_eq_true', Bool.not_eq_false', Bool.or_false, Bool.false_or, Bool.or_true, Bool.true_or, Bool.and_true, Bool.true_and, reduceCtorEq] at ht) <;> (try contradiction)))
        | ((with_reducible refine guardSplit (fun hg => ?_) (fun hg => ?_)) <;> (try simp only [Bool.not_true, Bool.not_false] at hg) <;> (have hc := hg) <;> simp -implicitDefEqProofs only [go_sem, hg] <;> (try simp only [decide_eq_true_eq, decide_eq_false_iff_not, beq_iff_eq, bne_iff_ne, beq_eq_false_iff_ne, bne_eq_false_iff_eq, Bool.or_eq_true, Bool.and_eq_true, Bool.or_eq_false_iff, Bool.and_eq_false_imp, Bool.not_eq_true, Bool.not_eq_false, Bool.not_true, Bool.not_false, Bool.not_eq_true', Bool.not_eq_false', Bool.or_false, Bool.false_or, Bool.or_true, Bool.true_or, Bool.and_true, Bool.true_and, reduceCtorEq] at hc) <;> (try contradiction)))
      all_goals rw [hjP (by omega)]
      all_goals rfl
end Go.PA
