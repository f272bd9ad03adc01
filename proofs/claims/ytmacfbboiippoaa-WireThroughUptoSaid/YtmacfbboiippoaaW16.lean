/- Messages: the program's Encode, the reference's; the law's copy. -/
import Derived.Test.YtmacfbboiippoaaW15
import Derived.Test.YtmacfbboiippoaaPAf
namespace Go.PA
open Go.Proofs
set_option linter.unusedSimpArgs false
set_option linter.unusedVariables false
set_option maxRecDepth 100000
set_option maxHeartbeats 4000000
attribute [local go_sem] MM getP setP tPlaces takesW

def sumD (l : List Fld) : Nat := (l.map fun f => f.data.length).sum
def msgB (l : List Fld) : List Nat := l.flatMap fieldB
def chk : Int → List Fld → Nat
  | _, [] => 0
  | last, f :: t => if wrongP f last ≠ 0 then wrongP f last else chk f.no t
def encP (l : List Fld) : List Nat × Nat :=
  if 64 < l.length then ([], 2) else if chk 0 l ≠ 0 then ([], chk 0 l) else if 4194304 < sumD l then ([], 2) else if 4194304 < (msgB l).length then ([], 2) else (msgB l, 0)

theorem take_snoc {l : List Fld} {i : Nat} (h : i < l.length) : l.take (i + 1) = l.take i ++ [l.getD i default] := by
  rw [List.take_add_one, List.getD_eq_getElem?_getD, List.getElem?_eq_getElem h]
  rfl
theorem drop_fld {l : List Fld} {i : Nat} (h : i < l.length) : l.drop i = l.getD i default :: l.drop (i + 1) := by
  rw [List.drop_eq_getElem_cons h, List.getD_eq_getElem?_getD, List.getElem?_eq_getElem h]; rfl
theorem sumD_snoc {l : List Fld} {i : Nat} (h : i < l.length) : sumD (l.take (i + 1)) = sumD (l.take i) + (l.getD i default).data.length := by
  rw [take_snoc h]
  simp [sumD]
theorem msgB_snoc {l : List Fld} {i : Nat} (h : i < l.length) : msgB (l.take (i + 1)) = msgB (l.take i) ++ fieldB (l.getD i default) := by
  rw [take_snoc h]
  simp [msgB]
theorem sumD_take_le : ∀ (l : List Fld) (i : Nat), sumD (l.take i) ≤ sumD l
  | [], i => by simp [sumD]
  | f :: l, 0 => by simp [sumD]
  | f :: l, i + 1 => by
    have := sumD_take_le l i
    simp only [sumD, List.take_succ_cons, List.map_cons, List.sum_cons] at this ⊢
    omega
theorem msgB_le : ∀ (l : List Fld), (msgB l).length ≤ 20 * l.length + sumD l
  | [] => by simp [msgB, sumD]
  | f :: l => by
    have h1 := msgB_le l
    have h2 := fieldB_len f
    simp only [msgB, sumD, List.flatMap_cons, List.length_append, List.map_cons, List.sum_cons, List.length_cons] at h1 ⊢
    omega
theorem sumD_lt (m : Nat) : ∀ (l : List Fld), (∀ f ∈ l, f.data.length ≤ m) → sumD l ≤ l.length * m
  | [], _ => by simp [sumD]
  | f :: l, h => by
    have h1 := sumD_lt m l fun x hx => h x (by simp [hx])
    have h2 := h f (by simp)
    simp only [sumD, List.map_cons, List.sum_cons, List.length_cons, Nat.succ_mul] at h1 ⊢
    omega
theorem fld_getD {l : List Fld} {P : Fld → Prop} (hd : P default) (hx : ∀ f ∈ l, P f) (i : Nat) : P (l.getD i default) := by
  rw [List.getD_eq_getElem?_getD]
  cases h : l[i]? with
  | none => exact hd
  | some x => exact hx x (List.mem_of_getElem? h)

theorem copied_FS (p q : Bool) (l : List Fld) (hl : l.length < 2 ^ 30) (hx : ∀ f ∈ l, f.data.length < 2 ^ 38) : FS Try.prog 30 [.sl p (l.map (fT q))] (.ret [.sl true (l.map (fT true))] [none]) := by
  have hg : ∀ i, (l.getD i default).data.length < 2 ^ 38 := fld_getD (P := fun f => f.data.length < 2 ^ 38) (by decide) hx
  refine FS_of_SW (kb := [false]) Try.func30 rfl rfl (by rfl) ?_
  refine SW.weak (Weak.of [] (sls := [(0, .sl p (l.map (fT q)))]) (bks := []) (ep := 64) (by rfl) ⟨rfl, trivial⟩ trivial) ?_
  repeat' (first
    | apply_assumption -exfalso -symm (transparency := .reducible) only [*]
    | with_reducible refine SW.stopI 2 ?_
    | (with_reducible refine And.intro ?_ ?_)
    | (refine drawOf ?_; kernel_rfl)
    | ((with_reducible refine SW.id ?_); first | with_reducible refine SW.seqK fun K hK => ?_ | with_reducible refine SW.block ?_ | ((first | with_reducible refine SW.skip ?_ | with_reducible refine SW.exit ?_ | with_reducible refine SW.label ?_ | with_reducible refine SW.ret ?_ | with_reducible refine SW.go MM ?_ | refine SW.goDrawF MM (by rfl) (by kernel_rfl) ?_); simp -implicitDefEqProofs only [go_sem]) | (refine SW.cond (by simp -implicitDefEqProofs only [go_sem]; rfl) (fun ht => ?_) (fun ht => ?_) <;> (try simp only [decide_eq_true_eq, decide_eq_false_iff_not, beq_iff_eq, bne_iff_ne, beq_eq_false_iff_ne, bne_eq_false_iff_eq, Bool.or_eq_true, Bool.and_eq_true, Bool.or_eq_false_iff, Bool.and_eq_false_imp, Bool.not_eq_true, Bool.not_eq_false, Bool.not_true, Bool.not_false, Bool.not_eq_true', Bool.not_eq_false', Bool.or_false, Bool.false_or, Bool.or_true, Bool.true_or, Bool.and_true, Bool.true_and, reduceCtorEq] at ht) <;> (try contradiction)))
    | ((with_reducible refine guardSplit (fun hg => ?_) (fun hg => ?_)) <;> (try simp only [Bool.not_true, Bool.not_false] at hg) <;> (have hc := hg) <;> simp -implicitDefEqProofs only [go_sem, hg] <;> (try simp only [decide_eq_true_eq, decide_eq_false_iff_not, beq_iff_eq, bne_iff_ne, beq_eq_false_iff_ne, bne_eq_false_iff_eq, Bool.or_eq_true, Bool.and_eq_true, Bool.or_eq_false_iff, Bool.and_eq_false_imp, Bool.not_eq_true, Bool.not_eq_false, Bool.not_true, Bool.not_false, Bool.not_eq_true', Bool.not_eq_false', Bool.or_false, Bool.false_or, Bool.or_true, Bool.true_or, Bool.and_true, Bool.true_and, reduceCtorEq] at hc) <;> (try contradiction)))
  refine Stop.go (SW.cutS (γ := Unit) (fun _ => St.of [(3, .ref 0 4 0 l.length false)] [(0, .froz 4 (l.map (fT true)))] 64) (fun K hK => ?_) fun _ => ?_)
  · repeat' (first
      | apply_assumption -exfalso -symm (transparency := .reducible) only [*]
      | (with_reducible refine And.intro ?_ ?_)
      | (refine drawOf ?_; kernel_rfl)
      | ((with_reducible refine SW.id ?_); first | with_reducible refine SW.seqK fun K hK => ?_ | with_reducible refine SW.block ?_ | ((first | with_reducible refine SW.skip ?_ | with_reducible refine SW.exit ?_ | with_reducible refine SW.label ?_ | with_reducible refine SW.ret ?_ | with_reducible refine SW.go MM ?_ | refine SW.goDrawF MM (by rfl) (by kernel_rfl) ?_); simp -implicitDefEqProofs only [go_sem]) | (refine SW.cond (by simp -implicitDefEqProofs only [go_sem]; rfl) (fun ht => ?_) (fun ht => ?_) <;> (try simp only [decide_eq_true_eq, decide_eq_false_iff_not, beq_iff_eq, bne_iff_ne, beq_eq_false_iff_ne, bne_eq_false_iff_eq, Bool.or_eq_true, Bool.and_eq_true, Bool.or_eq_false_iff, Bool.and_eq_false_imp, Bool.not_eq_true, Bool.not_eq_false, Bool.not_true, Bool.not_false, Bool.not_eq_true', Bool.not_eq_false', Bool.or_false, Bool.false_or, Bool.or_true, Bool.true_or, Bool.and_true, Bool.true_and, reduceCtorEq] at ht) <;> (try contradiction)))
      | ((with_reducible refine guardSplit (fun hg => ?_) (fun hg => ?_)) <;> (try simp only [Bool.not_true, Bool.not_false] at hg) <;> (have hc := hg) <;> simp -implicitDefEqProofs only [go_sem, hg] <;> (try simp only [decide_eq_true_eq, decide_eq_false_iff_not, beq_iff_eq, bne_iff_ne, beq_eq_false_iff_ne, bne_eq_false_iff_eq, Bool.or_eq_true, Bool.and_eq_true, Bool.or_eq_false_iff, Bool.and_eq_false_imp, Bool.not_eq_true, Bool.not_eq_false, Bool.not_true, Bool.not_false, Bool.not_eq_true', Bool.not_eq_false', Bool.or_false, Bool.false_or, Bool.or_true, Bool.true_or, Bool.and_true, Bool.true_and, reduceCtorEq] at hc) <;> (try contradiction)))
    refine SW.loop (α := { i : Nat // i ≤ l.length }) (fun i => St.of [(0, .sl p (l.map (fT q))), (3, .ref 0 4 0 i.1 false), (4, .v (.int .i64 i.1))] [(0, .row 4 ((l.take i.1).map fO))] 64) (fun i => l.length - i.1)
      ⟨0, by omega⟩ (Weak.of [(128, 0)] (by rfl) ?_ ?_) fun ⟨i, hi⟩ => ?_
    · simp -implicitDefEqProofs only [go_sem]
      rfl
    · simp -implicitDefEqProofs only [go_sem]
    · have h5 := i64_one (a := i) (by omega)
      have h7 := hg i
      have h8 : (l.take i).length = i := by simp; omega
      have h6 : i < l.length → (l.take (i + 1)).map fO = (l.take i).map fO ++ [fO (l.getD i default)] := fun h => by
        rw [take_snoc h, List.map_append]
        rfl
      generalize hA : l.getD i default = f at *
      repeat' (first
        | apply_assumption -exfalso -symm (transparency := .reducible) only [*]
        | (with_reducible refine And.intro ?_ ?_)
        | (refine drawOf ?_; kernel_rfl)
        | ((with_reducible refine SW.id ?_); first | with_reducible refine SW.seqK fun K hK => ?_ | with_reducible refine SW.block ?_ | ((first | with_reducible refine SW.skip ?_ | with_reducible refine SW.exit ?_ | with_reducible refine SW.label ?_ | with_reducible refine SW.ret ?_ | with_reducible refine SW.go MM ?_ | refine SW.goDrawF MM (by rfl) (by kernel_rfl) ?_); simp -implicitDefEqProofs only [go_sem, h5, h8, hA]) | (refine SW.cond (by simp -implicitDefEqProofs only [go_sem, h5, h8, hA]; rfl) (fun ht => ?_) (fun ht => ?_) <;> (try simp only [decide_eq_true_eq, decide_eq_false_iff_not, beq_iff_eq, bne_iff_ne, beq_eq_false_iff_ne, bne_eq_false_iff_eq, Bool.or_eq_true, Bool.and_eq_true, Bool.or_eq_false_iff, Bool.and_eq_false_imp, Bool.not_eq_true, Bool.not_eq_false, Bool.not_true, Bool.not_false, Bool.not_eq_true', Bool.not_eq_false', Bool.or_false, Bool.false_or, Bool.or_true, Bool.true_or, Bool.and_true, Bool.true_and, reduceCtorEq] at ht) <;> (try contradiction)))
        | ((with_reducible refine guardSplit (fun hg => ?_) (fun hg => ?_)) <;> (try simp only [Bool.not_true, Bool.not_false] at hg) <;> (have hc := hg) <;> simp -implicitDefEqProofs only [go_sem, hg, h5, h8, hA] <;> (try simp only [decide_eq_true_eq, decide_eq_false_iff_not, beq_iff_eq, bne_iff_ne, beq_eq_false_iff_ne, bne_eq_false_iff_eq, Bool.or_eq_true, Bool.and_eq_true, Bool.or_eq_false_iff, Bool.and_eq_false_imp, Bool.not_eq_true, Bool.not_eq_false, Bool.not_true, Bool.not_false, Bool.not_eq_true', Bool.not_eq_false', Bool.or_false, Bool.false_or, Bool.or_true, Bool.true_or, Bool.and_true, Bool.true_and, reduceCtorEq] at hc) <;> (try contradiction)))
      all_goals try omega
      any_goals solve | exact roomy_of (by omega) (by decide)
      · refine ⟨⟨i + 1, by omega⟩, Weak.absorbW (d := 1280) (s := 4) (pre := (l.take i).map fO) (y := .agg [.v (.int .i64 f.no), .v (.int .i64 f.ty), .v (.int .u64 f.num), .ref 896 1 0 f.data.length false]) (post := []) (by simp -implicitDefEqProofs only [go_sem]) ?_, by dsimp only; omega⟩
        simp -implicitDefEqProofs only [go_sem]
        refine Weak.of [(1280, 0)] (by rfl) ?_ ?_
        · simp -implicitDefEqProofs only [go_sem, h5]
        · simp -implicitDefEqProofs only [go_sem, h6 (by omega), fO]
      · have hil : l.take i = l := by rw [show i = l.length by omega, List.take_length]
        refine ⟨(), (Weak.freezeAll (d := 0) (s := 4) (xs := (l.take i).map fO) (by simp -implicitDefEqProofs only [go_sem]) fO_frzOks fO_closeds fO_nobors).trans (Weak.of [(0, 0)] (by rfl) ?_ ?_)⟩
        · simp -implicitDefEqProofs only [go_sem]
          rw [show i = l.length by omega]
        · simp -implicitDefEqProofs only [go_sem, hil]
  · repeat' (first
      | apply_assumption -exfalso -symm (transparency := .reducible) only [*]
      | (with_reducible refine And.intro ?_ ?_)
      | (refine drawOf ?_; kernel_rfl)
      | ((with_reducible refine SW.id ?_); first | with_reducible refine SW.seqK fun K hK => ?_ | with_reducible refine SW.block ?_ | ((first | with_reducible refine SW.skip ?_ | with_reducible refine SW.exit ?_ | with_reducible refine SW.label ?_ | with_reducible refine SW.ret ?_ | with_reducible refine SW.go MM ?_ | refine SW.goDrawF MM (by rfl) (by kernel_rfl) ?_); simp -implicitDefEqProofs only [go_sem]) | (refine SW.cond (by simp -implicitDefEqProofs only [go_sem]; rfl) (fun ht => ?_) (fun ht => ?_) <;> (try simp only [decide_eq_true_eq, decide_eq_false_iff_not, beq_iff_eq, bne_iff_ne, beq_eq_false_iff_ne, bne_eq_false_iff_eq, Bool.or_eq_true, Bool.and_eq_true, Bool.or_eq_false_iff, Bool.and_eq_false_imp, Bool.not_eq_true, Bool.not_eq_false, Bool.not_true, Bool.not_false, Bool.not_eq_true', Bool.not_eq_false', Bool.or_false, Bool.false_or, Bool.or_true, Bool.true_or, Bool.and_true, Bool.true_and, reduceCtorEq] at ht) <;> (try contradiction)))
      | ((with_reducible refine guardSplit (fun hg => ?_) (fun hg => ?_)) <;> (try simp only [Bool.not_true, Bool.not_false] at hg) <;> (have hc := hg) <;> simp -implicitDefEqProofs only [go_sem, hg] <;> (try simp only [decide_eq_true_eq, decide_eq_false_iff_not, beq_iff_eq, bne_iff_ne, beq_eq_false_iff_ne, bne_eq_false_iff_eq, Bool.or_eq_true, Bool.and_eq_true, Bool.or_eq_false_iff, Bool.and_eq_false_imp, Bool.not_eq_true, Bool.not_eq_false, Bool.not_true, Bool.not_false, Bool.not_eq_true', Bool.not_eq_false', Bool.or_false, Bool.false_or, Bool.or_true, Bool.true_or, Bool.and_true, Bool.true_and, reduceCtorEq] at hc) <;> (try contradiction)))

theorem encode_FS (p q : Bool) (l : List Fld) (hl : l.length < 2 ^ 40) (hx : ∀ f ∈ l, f.data.length < 2 ^ 38) (hn : ∀ f ∈ l, f.num < 2 ^ 64) :
    FS Try.prog 31 [.sl p (l.map (fT q))] (.ret [.osl 1 (bA (encP l).1), .v (.int .i64 (encP l).2)] [none]) := by
  have hg : ∀ i, (l.getD i default).data.length < 2 ^ 38 := fld_getD (P := fun f => f.data.length < 2 ^ 38) (by decide) hx
  have hgn : ∀ i, (l.getD i default).num < 2 ^ 64 := fld_getD (P := fun f => f.num < 2 ^ 64) (by decide) hn
  refine FS_of_SW (kb := [false]) Try.func31 rfl rfl (by rfl) ?_
  refine SW.weak (Weak.of [] (sls := [(0, .sl p (l.map (fT q)))]) (bks := []) (ep := 64) (by rfl) ⟨rfl, trivial⟩ trivial) ?_
  repeat' (first
    | apply_assumption -exfalso -symm (transparency := .reducible) only [*]
    | with_reducible refine SW.stopI 4 ?_
    | (with_reducible refine And.intro ?_ ?_)
    | (refine drawOf ?_; kernel_rfl)
    | ((with_reducible refine SW.id ?_); first | with_reducible refine SW.seqK fun K hK => ?_ | with_reducible refine SW.block ?_ | ((first | with_reducible refine SW.skip ?_ | with_reducible refine SW.exit ?_ | with_reducible refine SW.label ?_ | with_reducible refine SW.ret ?_ | with_reducible refine SW.go MM ?_ | refine SW.goDrawF MM (by rfl) (by kernel_rfl) ?_); simp -implicitDefEqProofs only [go_sem]) | (refine SW.cond (by simp -implicitDefEqProofs only [go_sem]; rfl) (fun ht => ?_) (fun ht => ?_) <;> (try simp only [decide_eq_true_eq, decide_eq_false_iff_not, beq_iff_eq, bne_iff_ne, beq_eq_false_iff_ne, bne_eq_false_iff_eq, Bool.or_eq_true, Bool.and_eq_true, Bool.or_eq_false_iff, Bool.and_eq_false_imp, Bool.not_eq_true, Bool.not_eq_false, Bool.not_true, Bool.not_false, Bool.not_eq_true', Bool.not_eq_false', Bool.or_false, Bool.false_or, Bool.or_true, Bool.true_or, Bool.and_true, Bool.true_and, reduceCtorEq] at ht) <;> (try contradiction)))
    | ((with_reducible refine guardSplit (fun hg => ?_) (fun hg => ?_)) <;> (try simp only [Bool.not_true, Bool.not_false] at hg) <;> (have hc := hg) <;> simp -implicitDefEqProofs only [go_sem, hg] <;> (try simp only [decide_eq_true_eq, decide_eq_false_iff_not, beq_iff_eq, bne_iff_ne, beq_eq_false_iff_ne, bne_eq_false_iff_eq, Bool.or_eq_true, Bool.and_eq_true, Bool.or_eq_false_iff, Bool.and_eq_false_imp, Bool.not_eq_true, Bool.not_eq_false, Bool.not_true, Bool.not_false, Bool.not_eq_true', Bool.not_eq_false', Bool.or_false, Bool.false_or, Bool.or_true, Bool.true_or, Bool.and_true, Bool.true_and, reduceCtorEq] at hc) <;> (try contradiction)))
  any_goals solve | (rw [encP, if_pos (by omega)]; rfl)
  have hs := sumD_lt (2 ^ 38) l fun f hf => by have := hx f hf; omega
  have hs2 : sumD l ≤ 64 * 2 ^ 38 := Nat.le_trans hs (Nat.mul_le_mul_right _ (by omega))
  refine Stop.go (SW.cutS (γ := PLift (chk 0 l = 0 ∧ ∀ f ∈ l, Valid f)) (fun _ => St.of [(0, .sl p (l.map (fT q))), (5, .v (.int .i64 (sumD l)))] [] 64) (fun K hK => ?_) fun ⟨hc0, hval⟩ => ?_)
  · repeat' (first
      | apply_assumption -exfalso -symm (transparency := .reducible) only [*]
      | (with_reducible refine And.intro ?_ ?_)
      | (refine drawOf ?_; kernel_rfl)
      | ((with_reducible refine SW.id ?_); first | with_reducible refine SW.seqK fun K hK => ?_ | with_reducible refine SW.block ?_ | ((first | with_reducible refine SW.skip ?_ | with_reducible refine SW.exit ?_ | with_reducible refine SW.label ?_ | with_reducible refine SW.ret ?_ | with_reducible refine SW.go MM ?_ | refine SW.goDrawF MM (by rfl) (by kernel_rfl) ?_); simp -implicitDefEqProofs only [go_sem]) | (refine SW.cond (by simp -implicitDefEqProofs only [go_sem]; rfl) (fun ht => ?_) (fun ht => ?_) <;> (try simp only [decide_eq_true_eq, decide_eq_false_iff_not, beq_iff_eq, bne_iff_ne, beq_eq_false_iff_ne, bne_eq_false_iff_eq, Bool.or_eq_true, Bool.and_eq_true, Bool.or_eq_false_iff, Bool.and_eq_false_imp, Bool.not_eq_true, Bool.not_eq_false, Bool.not_true, Bool.not_false, Bool.not_eq_true', Bool.not_eq_false', Bool.or_false, Bool.false_or, Bool.or_true, Bool.true_or, Bool.and_true, Bool.true_and, reduceCtorEq] at ht) <;> (try contradiction)))
      | ((with_reducible refine guardSplit (fun hg => ?_) (fun hg => ?_)) <;> (try simp only [Bool.not_true, Bool.not_false] at hg) <;> (have hc := hg) <;> simp -implicitDefEqProofs only [go_sem, hg] <;> (try simp only [decide_eq_true_eq, decide_eq_false_iff_not, beq_iff_eq, bne_iff_ne, beq_eq_false_iff_ne, bne_eq_false_iff_eq, Bool.or_eq_true, Bool.and_eq_true, Bool.or_eq_false_iff, Bool.and_eq_false_imp, Bool.not_eq_true, Bool.not_eq_false, Bool.not_true, Bool.not_false, Bool.not_eq_true', Bool.not_eq_false', Bool.or_false, Bool.false_or, Bool.or_true, Bool.true_or, Bool.and_true, Bool.true_and, reduceCtorEq] at hc) <;> (try contradiction)))
    refine SW.loop (α := { x : Nat × Int // x.1 ≤ l.length ∧ chk 0 l = chk x.2 (l.drop x.1) ∧ ∀ f ∈ l.take x.1, Valid f })
      (fun x => St.of [(0, .sl p (l.map (fT q))), (4, .v (.int .i64 x.1.2)), (5, .v (.int .i64 (sumD (l.take x.1.1)))), (15, .sl p (l.map (fT q))), (16, .v (.int .i64 l.length)), (17, .v (.int .i64 x.1.1))] [] 64) (fun x => l.length - x.1.1)
      ⟨(0, 0), by dsimp only; omega, rfl, by simp⟩ (Weak.of [] (by rfl) ?_ trivial) fun ⟨⟨i, last⟩, hi, hc, hv⟩ => ?_
    · simp -implicitDefEqProofs only [go_sem]
      simp [sumD]
    · dsimp only at hi hc hv
      have h5 := i64_one (a := i) (by omega)
      have h6 := sumD_take_le l i
      have h7 := hg i
      have h8 := i64_add (a := sumD (l.take i)) (b := (l.getD i default).data.length) (by omega)
      have h9 : i < l.length → chk 0 l = if wrongP (l.getD i default) last ≠ 0 then wrongP (l.getD i default) last else chk (l.getD i default).no (l.drop (i + 1)) := fun h => by
        rw [hc, drop_fld h]
        rfl
      have hE : i < l.length → wrongP (l.getD i default) last ≠ 0 → encP l = ([], wrongP (l.getD i default) last) := fun h h2 => by
        have h3 := h9 h
        rw [if_pos h2] at h3
        unfold encP
        rw [if_neg (by omega), if_pos (by rw [h3]; exact h2), h3]
      repeat' (first
        | apply_assumption -exfalso -symm (transparency := .reducible) only [*]
        | (refine ⟨_, _, wrong_FS q (l.getD i default) last, ?_⟩ <;> (try simp -implicitDefEqProofs only [go_sem, h5, h8]))
        | (with_reducible refine And.intro ?_ ?_)
        | (refine drawOf ?_; kernel_rfl)
        | ((with_reducible refine SW.id ?_); first | with_reducible refine SW.seqK fun K hK => ?_ | with_reducible refine SW.block ?_ | ((first | with_reducible refine SW.skip ?_ | with_reducible refine SW.exit ?_ | with_reducible refine SW.label ?_ | with_reducible refine SW.ret ?_ | with_reducible refine SW.go MM ?_ | refine SW.goDrawF MM (by rfl) (by kernel_rfl) ?_); simp -implicitDefEqProofs only [go_sem, h5, h8]) | (refine SW.cond (by simp -implicitDefEqProofs only [go_sem, h5, h8]; rfl) (fun ht => ?_) (fun ht => ?_) <;> (try simp only [decide_eq_true_eq, decide_eq_false_iff_not, beq_iff_eq, bne_iff_ne, beq_eq_false_iff_ne, bne_eq_false_iff_eq, Bool.or_eq_true, Bool.and_eq_true, Bool.or_eq_false_iff, Bool.and_eq_false_imp, Bool.not_eq_true, Bool.not_eq_false, Bool.not_true, Bool.not_false, Bool.not_eq_true', Bool.not_eq_false', Bool.or_false, Bool.false_or, Bool.or_true, Bool.true_or, Bool.and_true, Bool.true_and, reduceCtorEq] at ht) <;> (try contradiction)))
        | ((with_reducible refine guardSplit (fun hg => ?_) (fun hg => ?_)) <;> (try simp only [Bool.not_true, Bool.not_false] at hg) <;> (have hc := hg) <;> simp -implicitDefEqProofs only [go_sem, hg, h5, h8] <;> (try simp only [decide_eq_true_eq, decide_eq_false_iff_not, beq_iff_eq, bne_iff_ne, beq_eq_false_iff_ne, bne_eq_false_iff_eq, Bool.or_eq_true, Bool.and_eq_true, Bool.or_eq_false_iff, Bool.and_eq_false_imp, Bool.not_eq_true, Bool.not_eq_false, Bool.not_true, Bool.not_false, Bool.not_eq_true', Bool.not_eq_false', Bool.or_false, Bool.false_or, Bool.or_true, Bool.true_or, Bool.and_true, Bool.true_and, reduceCtorEq] at hc) <;> (try contradiction)))
      all_goals try omega
      any_goals solve | rw [hE (by omega) (by omega)] | (rw [hE (by omega) (by omega)]; rfl)
      · have hw0 : wrongP (l.getD i default) last = 0 := by omega
        refine ⟨⟨(i + 1, (l.getD i default).no), by dsimp only; omega, ?_, ?_⟩, Weak.of [] (by rfl) ?_ trivial, by dsimp only; omega⟩
        · rw [h9 (by omega), if_neg (by omega)]
        · intro f hf
          rw [take_snoc (by omega)] at hf
          rcases List.mem_append.1 hf with hf | hf
          · exact hv f hf
          · rw [List.mem_singleton.1 hf]
            exact valid_of hw0
        · simp -implicitDefEqProofs only [go_sem, h5, sumD_snoc (l := l) (i := i) (by omega)]
      · have hil : i = l.length := by omega
        subst hil
        rw [List.drop_length] at hc
        rw [List.take_length] at hv
        refine ⟨⟨hc, hv⟩, Weak.of [] (by rfl) ?_ trivial⟩
        simp -implicitDefEqProofs only [go_sem]
  · have hmle := fun i => msgB_le (l.take i)
    have hsle := fun i => sumD_take_le l i
    repeat' (first
      | apply_assumption -exfalso -symm (transparency := .reducible) only [*]
      | with_reducible refine SW.stopI 16 ?_
      | (with_reducible refine And.intro ?_ ?_)
      | (refine drawOf ?_; kernel_rfl)
      | ((with_reducible refine SW.id ?_); first | with_reducible refine SW.seqK fun K hK => ?_ | with_reducible refine SW.block ?_ | ((first | with_reducible refine SW.skip ?_ | with_reducible refine SW.exit ?_ | with_reducible refine SW.label ?_ | with_reducible refine SW.ret ?_ | with_reducible refine SW.go MM ?_ | refine SW.goDrawF MM (by rfl) (by kernel_rfl) ?_); simp -implicitDefEqProofs only [go_sem]) | (refine SW.cond (by simp -implicitDefEqProofs only [go_sem]; rfl) (fun ht => ?_) (fun ht => ?_) <;> (try simp only [decide_eq_true_eq, decide_eq_false_iff_not, beq_iff_eq, bne_iff_ne, beq_eq_false_iff_ne, bne_eq_false_iff_eq, Bool.or_eq_true, Bool.and_eq_true, Bool.or_eq_false_iff, Bool.and_eq_false_imp, Bool.not_eq_true, Bool.not_eq_false, Bool.not_true, Bool.not_false, Bool.not_eq_true', Bool.not_eq_false', Bool.or_false, Bool.false_or, Bool.or_true, Bool.true_or, Bool.and_true, Bool.true_and, reduceCtorEq] at ht) <;> (try contradiction)))
      | ((with_reducible refine guardSplit (fun hg => ?_) (fun hg => ?_)) <;> (try simp only [Bool.not_true, Bool.not_false] at hg) <;> (have hc := hg) <;> simp -implicitDefEqProofs only [go_sem, hg] <;> (try simp only [decide_eq_true_eq, decide_eq_false_iff_not, beq_iff_eq, bne_iff_ne, beq_eq_false_iff_ne, bne_eq_false_iff_eq, Bool.or_eq_true, Bool.and_eq_true, Bool.or_eq_false_iff, Bool.and_eq_false_imp, Bool.not_eq_true, Bool.not_eq_false, Bool.not_true, Bool.not_false, Bool.not_eq_true', Bool.not_eq_false', Bool.or_false, Bool.false_or, Bool.or_true, Bool.true_or, Bool.and_true, Bool.true_and, reduceCtorEq] at hc) <;> (try contradiction)))
    any_goals solve | (rw [encP, if_neg (by omega), if_neg (by omega), if_pos (by omega)]; rfl)
    refine Stop.go (SW.cutS (γ := Unit) (fun _ => St.of [(9, .ref 0 1 0 (msgB l).length false)] [(0, .row 1 (bA (msgB l)))] 64) (fun K hK => ?_) fun _ => ?_)
    · repeat' (first
        | apply_assumption -exfalso -symm (transparency := .reducible) only [*]
        | (with_reducible refine And.intro ?_ ?_)
        | (refine drawOf ?_; kernel_rfl)
        | ((with_reducible refine SW.id ?_); first | with_reducible refine SW.seqK fun K hK => ?_ | with_reducible refine SW.block ?_ | ((first | with_reducible refine SW.skip ?_ | with_reducible refine SW.exit ?_ | with_reducible refine SW.label ?_ | with_reducible refine SW.ret ?_ | with_reducible refine SW.go MM ?_ | refine SW.goDrawF MM (by rfl) (by kernel_rfl) ?_); simp -implicitDefEqProofs only [go_sem]) | (refine SW.cond (by simp -implicitDefEqProofs only [go_sem]; rfl) (fun ht => ?_) (fun ht => ?_) <;> (try simp only [decide_eq_true_eq, decide_eq_false_iff_not, beq_iff_eq, bne_iff_ne, beq_eq_false_iff_ne, bne_eq_false_iff_eq, Bool.or_eq_true, Bool.and_eq_true, Bool.or_eq_false_iff, Bool.and_eq_false_imp, Bool.not_eq_true, Bool.not_eq_false, Bool.not_true, Bool.not_false, Bool.not_eq_true', Bool.not_eq_false', Bool.or_false, Bool.false_or, Bool.or_true, Bool.true_or, Bool.and_true, Bool.true_and, reduceCtorEq] at ht) <;> (try contradiction)))
        | ((with_reducible refine guardSplit (fun hg => ?_) (fun hg => ?_)) <;> (try simp only [Bool.not_true, Bool.not_false] at hg) <;> (have hc := hg) <;> simp -implicitDefEqProofs only [go_sem, hg] <;> (try simp only [decide_eq_true_eq, decide_eq_false_iff_not, beq_iff_eq, bne_iff_ne, beq_eq_false_iff_ne, bne_eq_false_iff_eq, Bool.or_eq_true, Bool.and_eq_true, Bool.or_eq_false_iff, Bool.and_eq_false_imp, Bool.not_eq_true, Bool.not_eq_false, Bool.not_true, Bool.not_false, Bool.not_eq_true', Bool.not_eq_false', Bool.or_false, Bool.false_or, Bool.or_true, Bool.true_or, Bool.and_true, Bool.true_and, reduceCtorEq] at hc) <;> (try contradiction)))
      refine SW.loop (α := { i : Nat // i ≤ l.length }) (fun i => St.of [(9, .ref 0 1 0 (msgB (l.take i.1)).length false), (37, .sl p (l.map (fT q))), (38, .v (.int .i64 l.length)), (39, .v (.int .i64 i.1))] [(0, .row 1 (bA (msgB (l.take i.1))))] 64) (fun i => l.length - i.1)
        ⟨0, by omega⟩ (Weak.of [(192, 0)] (by rfl) ?_ ?_) fun ⟨i, hi⟩ => ?_
      · simp -implicitDefEqProofs only [go_sem]
        simp [msgB]
      · simp -implicitDefEqProofs only [go_sem]
        simp [msgB, bA]
      · have h5 := i64_one (a := i) (by omega)
        have h6 := hmle i
        have h7 := hsle i
        rw [List.length_take] at h6
        have h8 : i < l.length → Valid (l.getD i default) := fun h => hval _ (by rw [List.getD_eq_getElem?_getD, List.getElem?_eq_getElem h]; exact List.getElem_mem h)
        repeat' (first
          | apply_assumption -exfalso -symm (transparency := .reducible) only [*]
          | (refine ⟨_, _, behind_FS q (msgB (l.take i)) (l.getD i default) (h8 (by omega)) (hgn i) (by omega) (hg i), ?_⟩ <;> (try simp -implicitDefEqProofs only [go_sem, h5]))
          | (with_reducible refine And.intro ?_ ?_)
          | (refine drawOf ?_; kernel_rfl)
          | ((with_reducible refine SW.id ?_); first | with_reducible refine SW.seqK fun K hK => ?_ | with_reducible refine SW.block ?_ | ((first | with_reducible refine SW.skip ?_ | with_reducible refine SW.exit ?_ | with_reducible refine SW.label ?_ | with_reducible refine SW.ret ?_ | with_reducible refine SW.go MM ?_ | refine SW.goDrawF MM (by rfl) (by kernel_rfl) ?_); simp -implicitDefEqProofs only [go_sem, h5]) | (refine SW.cond (by simp -implicitDefEqProofs only [go_sem, h5]; rfl) (fun ht => ?_) (fun ht => ?_) <;> (try simp only [decide_eq_true_eq, decide_eq_false_iff_not, beq_iff_eq, bne_iff_ne, beq_eq_false_iff_ne, bne_eq_false_iff_eq, Bool.or_eq_true, Bool.and_eq_true, Bool.or_eq_false_iff, Bool.and_eq_false_imp, Bool.not_eq_true, Bool.not_eq_false, Bool.not_true, Bool.not_false, Bool.not_eq_true', Bool.not_eq_false', Bool.or_false, Bool.false_or, Bool.or_true, Bool.true_or, Bool.and_true, Bool.true_and, reduceCtorEq] at ht) <;> (try contradiction)))
          | ((with_reducible refine guardSplit (fun hg => ?_) (fun hg => ?_)) <;> (try simp only [Bool.not_true, Bool.not_false] at hg) <;> (have hc := hg) <;> simp -implicitDefEqProofs only [go_sem, hg, h5] <;> (try simp only [decide_eq_true_eq, decide_eq_false_iff_not, beq_iff_eq, bne_iff_ne, beq_eq_false_iff_ne, bne_eq_false_iff_eq, Bool.or_eq_true, Bool.and_eq_true, Bool.or_eq_false_iff, Bool.and_eq_false_imp, Bool.not_eq_true, Bool.not_eq_false, Bool.not_true, Bool.not_false, Bool.not_eq_true', Bool.not_eq_false', Bool.or_false, Bool.false_or, Bool.or_true, Bool.true_or, Bool.and_true, Bool.true_and, reduceCtorEq] at hc) <;> (try contradiction)))
        all_goals try omega
        · refine ⟨⟨i + 1, by omega⟩, Weak.of [(512, 0)] (by rfl) ?_ ?_, by dsimp only; omega⟩
          · simp -implicitDefEqProofs only [go_sem, h5, msgB_snoc (l := l) (i := i) (by omega)]
          · simp -implicitDefEqProofs only [go_sem, msgB_snoc (l := l) (i := i) (by omega)]
        · have hil : l.take i = l := by rw [show i = l.length by omega, List.take_length]
          refine ⟨(), Weak.of [(0, 0)] (by rfl) ?_ ?_⟩
          · simp -implicitDefEqProofs only [go_sem, hil]
          · simp -implicitDefEqProofs only [go_sem, hil]
    · have hF : l.length ≤ 64 → sumD l ≤ 4194304 → ¬ 4194304 < (msgB l).length → encP l = (msgB l, 0) := fun h0 h1 h => by
        unfold encP
        rw [if_neg (by omega), if_neg (by omega), if_neg (by omega), if_neg h]
      have hG : l.length ≤ 64 → sumD l ≤ 4194304 → 4194304 < (msgB l).length → encP l = ([], 2) := fun h0 h1 h => by
        unfold encP
        rw [if_neg (by omega), if_neg (by omega), if_neg (by omega), if_pos h]
      repeat' (first
        | apply_assumption -exfalso -symm (transparency := .reducible) only [*]
        | (with_reducible refine And.intro ?_ ?_)
        | (refine drawOf ?_; kernel_rfl)
        | ((with_reducible refine SW.id ?_); first | with_reducible refine SW.seqK fun K hK => ?_ | with_reducible refine SW.block ?_ | ((first | with_reducible refine SW.skip ?_ | with_reducible refine SW.exit ?_ | with_reducible refine SW.label ?_ | with_reducible refine SW.ret ?_ | with_reducible refine SW.go MM ?_ | refine SW.goDrawF MM (by rfl) (by kernel_rfl) ?_); simp -implicitDefEqProofs only [go_sem]) | (refine SW.cond (by simp -implicitDefEqProofs only [go_sem]; rfl) (fun ht => ?_) (fun ht => ?_) <;> (try simp only [decide_eq_true_eq, decide_eq_false_iff_not, beq_iff_eq, bne_iff_ne, beq_eq_false_iff_ne, bne_eq_false_iff_eq, Bool.or_eq_true, Bool.and_eq_true, Bool.or_eq_false_iff, Bool.and_eq_false_imp, Bool.not_eq_true, Bool.not_eq_false, Bool.not_true, Bool.not_false, Bool.not_eq_true', Bool.not_eq_false', Bool.or_false, Bool.false_or, Bool.or_true, Bool.true_or, Bool.and_true, Bool.true_and, reduceCtorEq] at ht) <;> (try contradiction)))
        | ((with_reducible refine guardSplit (fun hg => ?_) (fun hg => ?_)) <;> (try simp only [Bool.not_true, Bool.not_false] at hg) <;> (have hc := hg) <;> simp -implicitDefEqProofs only [go_sem, hg] <;> (try simp only [decide_eq_true_eq, decide_eq_false_iff_not, beq_iff_eq, bne_iff_ne, beq_eq_false_iff_ne, bne_eq_false_iff_eq, Bool.or_eq_true, Bool.and_eq_true, Bool.or_eq_false_iff, Bool.and_eq_false_imp, Bool.not_eq_true, Bool.not_eq_false, Bool.not_true, Bool.not_false, Bool.not_eq_true', Bool.not_eq_false', Bool.or_false, Bool.false_or, Bool.or_true, Bool.true_or, Bool.and_true, Bool.true_and, reduceCtorEq] at hc) <;> (try contradiction)))
      all_goals first
        | rw [hF (by omega) (by omega) (by omega)]
        | rw [hG (by omega) (by omega) (by omega)]
      all_goals rfl

theorem wrongP_eq (f : Fld) (last : Int) : wrongP f last = if f.no < 1 ∨ f.no > 536870911 ∨ f.no ≤ last then 71 else if knownP f.ty = false then 72 else if fitsP f = false then 1 else 0 := by
  unfold wrongP knownP fitsP
  simp only [decide_eq_false_iff_not]
  (repeat' split) <;> omega

theorem refEncode_FS (p q : Bool) (l : List Fld) (hl : l.length < 2 ^ 40) (hx : ∀ f ∈ l, f.data.length < 2 ^ 38) (hn : ∀ f ∈ l, f.num < 2 ^ 64) :
    FS Try.prog 32 [.sl p (l.map (fT q))] (.ret [.osl 1 (bA (encP l).1), .v (.int .i64 (encP l).2)] [none]) := by
  have hg : ∀ i, (l.getD i default).data.length < 2 ^ 38 := fld_getD (P := fun f => f.data.length < 2 ^ 38) (by decide) hx
  have hgn : ∀ i, (l.getD i default).num < 2 ^ 64 := fld_getD (P := fun f => f.num < 2 ^ 64) (by decide) hn
  refine FS_of_SW (kb := [false]) Try.func32 rfl rfl (by rfl) ?_
  refine SW.weak (Weak.of [] (sls := [(0, .sl p (l.map (fT q)))]) (bks := []) (ep := 64) (by rfl) ⟨rfl, trivial⟩ trivial) ?_
  repeat' (first
    | apply_assumption -exfalso -symm (transparency := .reducible) only [*]
    | with_reducible refine SW.stopI 4 ?_
    | (with_reducible refine And.intro ?_ ?_)
    | (refine drawOf ?_; kernel_rfl)
    | ((with_reducible refine SW.id ?_); first | with_reducible refine SW.seqK fun K hK => ?_ | with_reducible refine SW.block ?_ | ((first | with_reducible refine SW.skip ?_ | with_reducible refine SW.exit ?_ | with_reducible refine SW.label ?_ | with_reducible refine SW.ret ?_ | with_reducible refine SW.go MM ?_ | refine SW.goDrawF MM (by rfl) (by kernel_rfl) ?_); simp -implicitDefEqProofs only [go_sem]) | (refine SW.cond (by simp -implicitDefEqProofs only [go_sem]; rfl) (fun ht => ?_) (fun ht => ?_) <;> (try simp only [decide_eq_true_eq, decide_eq_false_iff_not, beq_iff_eq, bne_iff_ne, beq_eq_false_iff_ne, bne_eq_false_iff_eq, Bool.or_eq_true, Bool.and_eq_true, Bool.or_eq_false_iff, Bool.and_eq_false_imp, Bool.not_eq_true, Bool.not_eq_false, Bool.not_true, Bool.not_false, Bool.not_eq_true', Bool.not_eq_false', Bool.or_false, Bool.false_or, Bool.or_true, Bool.true_or, Bool.and_true, Bool.true_and, reduceCtorEq] at ht) <;> (try contradiction)))
    | ((with_reducible refine guardSplit (fun hg => ?_) (fun hg => ?_)) <;> (try simp only [Bool.not_true, Bool.not_false] at hg) <;> (have hc := hg) <;> simp -implicitDefEqProofs only [go_sem, hg] <;> (try simp only [decide_eq_true_eq, decide_eq_false_iff_not, beq_iff_eq, bne_iff_ne, beq_eq_false_iff_ne, bne_eq_false_iff_eq, Bool.or_eq_true, Bool.and_eq_true, Bool.or_eq_false_iff, Bool.and_eq_false_imp, Bool.not_eq_true, Bool.not_eq_false, Bool.not_true, Bool.not_false, Bool.not_eq_true', Bool.not_eq_false', Bool.or_false, Bool.false_or, Bool.or_true, Bool.true_or, Bool.and_true, Bool.true_and, reduceCtorEq] at hc) <;> (try contradiction)))
  any_goals solve | (rw [encP, if_pos (by omega)]; rfl)
  have hs := sumD_lt (2 ^ 38) l fun f hf => by have := hx f hf; omega
  have hs2 : sumD l ≤ 64 * 2 ^ 38 := Nat.le_trans hs (Nat.mul_le_mul_right _ (by omega))
  refine Stop.go (SW.cutS (γ := PLift (chk 0 l = 0 ∧ ∀ f ∈ l, Valid f)) (fun _ => St.of [(0, .sl p (l.map (fT q)))] [] 64) (fun K hK => ?_) fun ⟨hc0, hval⟩ => ?_)
  · repeat' (first
      | apply_assumption -exfalso -symm (transparency := .reducible) only [*]
      | (with_reducible refine And.intro ?_ ?_)
      | (refine drawOf ?_; kernel_rfl)
      | ((with_reducible refine SW.id ?_); first | with_reducible refine SW.seqK fun K hK => ?_ | with_reducible refine SW.block ?_ | ((first | with_reducible refine SW.skip ?_ | with_reducible refine SW.exit ?_ | with_reducible refine SW.label ?_ | with_reducible refine SW.ret ?_ | with_reducible refine SW.go MM ?_ | refine SW.goDrawF MM (by rfl) (by kernel_rfl) ?_); simp -implicitDefEqProofs only [go_sem]) | (refine SW.cond (by simp -implicitDefEqProofs only [go_sem]; rfl) (fun ht => ?_) (fun ht => ?_) <;> (try simp only [decide_eq_true_eq, decide_eq_false_iff_not, beq_iff_eq, bne_iff_ne, beq_eq_false_iff_ne, bne_eq_false_iff_eq, Bool.or_eq_true, Bool.and_eq_true, Bool.or_eq_false_iff, Bool.and_eq_false_imp, Bool.not_eq_true, Bool.not_eq_false, Bool.not_true, Bool.not_false, Bool.not_eq_true', Bool.not_eq_false', Bool.or_false, Bool.false_or, Bool.or_true, Bool.true_or, Bool.and_true, Bool.true_and, reduceCtorEq] at ht) <;> (try contradiction)))
      | ((with_reducible refine guardSplit (fun hg => ?_) (fun hg => ?_)) <;> (try simp only [Bool.not_true, Bool.not_false] at hg) <;> (have hc := hg) <;> simp -implicitDefEqProofs only [go_sem, hg] <;> (try simp only [decide_eq_true_eq, decide_eq_false_iff_not, beq_iff_eq, bne_iff_ne, beq_eq_false_iff_ne, bne_eq_false_iff_eq, Bool.or_eq_true, Bool.and_eq_true, Bool.or_eq_false_iff, Bool.and_eq_false_imp, Bool.not_eq_true, Bool.not_eq_false, Bool.not_true, Bool.not_false, Bool.not_eq_true', Bool.not_eq_false', Bool.or_false, Bool.false_or, Bool.or_true, Bool.true_or, Bool.and_true, Bool.true_and, reduceCtorEq] at hc) <;> (try contradiction)))
    refine SW.loop (α := { x : Nat × Int // x.1 ≤ l.length ∧ chk 0 l = chk x.2 (l.drop x.1) ∧ ∀ f ∈ l.take x.1, Valid f })
      (fun x => St.of [(0, .sl p (l.map (fT q))), (4, .v (.int .i64 x.1.2)), (5, .v (.int .i64 x.1.1))] [] 64) (fun x => l.length - x.1.1)
      ⟨(0, 0), by dsimp only; omega, rfl, by simp⟩ (Weak.of [] (by rfl) ?_ trivial) fun ⟨⟨i, last⟩, hi, hc, hv⟩ => ?_
    · simp -implicitDefEqProofs only [go_sem]
      simp
    · dsimp only at hi hc hv
      have h5 := i64_one (a := i) (by omega)
      have h9 : i < l.length → chk 0 l = if wrongP (l.getD i default) last ≠ 0 then wrongP (l.getD i default) last else chk (l.getD i default).no (l.drop (i + 1)) := fun h => by
        rw [hc, drop_fld h]
        rfl
      have hE : i < l.length → wrongP (l.getD i default) last ≠ 0 → encP l = ([], wrongP (l.getD i default) last) := fun h h2 => by
        have h3 := h9 h
        rw [if_pos h2] at h3
        unfold encP
        rw [if_neg (by omega), if_pos (by rw [h3]; exact h2), h3]
      have h10 := wrongP_eq (l.getD i default) last
      have h11 : i < l.length → ∀ f ∈ l.take (i + 1), f ∈ l.take i ∨ f = l.getD i default := fun h f hf => by
        rw [take_snoc h] at hf
        rcases List.mem_append.1 hf with hf | hf
        · exact .inl hf
        · exact .inr (List.mem_singleton.1 hf)
      have h12 := @valid_of (l.getD i default) last
      generalize hA : l.getD i default = f at *
      repeat' (first
        | apply_assumption -exfalso -symm (transparency := .reducible) only [*]
        | (refine ⟨_, _, known_FS f.ty, ?_⟩ <;> (try simp -implicitDefEqProofs only [go_sem, h5, hA]))
        | (refine ⟨_, _, fits_FS q f, ?_⟩ <;> (try simp -implicitDefEqProofs only [go_sem, h5, hA]))
        | (with_reducible refine And.intro ?_ ?_)
        | (refine drawOf ?_; kernel_rfl)
        | ((with_reducible refine SW.id ?_); first | with_reducible refine SW.seqK fun K hK => ?_ | with_reducible refine SW.block ?_ | ((first | with_reducible refine SW.skip ?_ | with_reducible refine SW.exit ?_ | with_reducible refine SW.label ?_ | with_reducible refine SW.ret ?_ | with_reducible refine SW.go MM ?_ | refine SW.goDrawF MM (by rfl) (by kernel_rfl) ?_); simp -implicitDefEqProofs only [go_sem, h5, hA]) | (refine SW.cond (by simp -implicitDefEqProofs only [go_sem, h5, hA]; rfl) (fun ht => ?_) (fun ht => ?_) <;> (try simp only [decide_eq_true_eq, decide_eq_false_iff_not, beq_iff_eq, bne_iff_ne, beq_eq_false_iff_ne, bne_eq_false_iff_eq, Bool.or_eq_true, Bool.and_eq_true, Bool.or_eq_false_iff, Bool.and_eq_false_imp, Bool.not_eq_true, Bool.not_eq_false, Bool.not_true, Bool.not_false, Bool.not_eq_true', Bool.not_eq_false', Bool.or_false, Bool.false_or, Bool.or_true, Bool.true_or, Bool.and_true, Bool.true_and, reduceCtorEq] at ht) <;> (try contradiction)))
        | ((with_reducible refine guardSplit (fun hg => ?_) (fun hg => ?_)) <;> (try simp only [Bool.not_true, Bool.not_false] at hg) <;> (have hc := hg) <;> simp -implicitDefEqProofs only [go_sem, hg, h5, hA] <;> (try simp only [decide_eq_true_eq, decide_eq_false_iff_not, beq_iff_eq, bne_iff_ne, beq_eq_false_iff_ne, bne_eq_false_iff_eq, Bool.or_eq_true, Bool.and_eq_true, Bool.or_eq_false_iff, Bool.and_eq_false_imp, Bool.not_eq_true, Bool.not_eq_false, Bool.not_true, Bool.not_false, Bool.not_eq_true', Bool.not_eq_false', Bool.or_false, Bool.false_or, Bool.or_true, Bool.true_or, Bool.and_true, Bool.true_and, reduceCtorEq] at hc) <;> (try contradiction)))
      all_goals try omega
      any_goals solve
        | (rw [if_pos (by omega)] at h10; rw [hE (by omega) (by omega), h10])
        | (rw [if_pos (by omega)] at h10; rw [hE (by omega) (by omega), h10]; rfl)
        | (rw [if_neg (by omega), if_pos ht] at h10; rw [hE (by omega) (by omega), h10])
        | (rw [if_neg (by omega), if_pos ht] at h10; rw [hE (by omega) (by omega), h10]; rfl)
        | (rw [if_neg (by omega), if_neg (by simp_all), if_pos ht] at h10; rw [hE (by omega) (by omega), h10])
        | (rw [if_neg (by omega), if_neg (by simp_all), if_pos ht] at h10; rw [hE (by omega) (by omega), h10]; rfl)
      · have hw0 : wrongP f last = 0 := by rw [h10, if_neg (by omega), if_neg (by simp_all), if_neg (by simp_all)]
        have h13 := h9 (by omega)
        rw [if_neg (by omega)] at h13
        refine ⟨⟨(i + 1, f.no), by dsimp only; omega, h13, fun x hx => ?_⟩, Weak.of [] (by rfl) ?_ trivial, by dsimp only; omega⟩
        · rcases h11 (by omega) x hx with h | h
          · exact hv x h
          · rw [h]; exact h12 hw0
        · simp -implicitDefEqProofs only [go_sem, h5]
      · have hil : i = l.length := by omega
        subst hil
        rw [List.drop_length] at hc
        rw [List.take_length] at hv
        refine ⟨⟨hc, hv⟩, Weak.of [] (by rfl) ?_ trivial⟩
        simp -implicitDefEqProofs only [go_sem]
  · have hmle := fun i => msgB_le (l.take i)
    have hsle := fun i => sumD_take_le l i
    repeat' (first
      | apply_assumption -exfalso -symm (transparency := .reducible) only [*]
      | with_reducible refine SW.stopI 16 ?_
      | (with_reducible refine And.intro ?_ ?_)
      | (refine drawOf ?_; kernel_rfl)
      | ((with_reducible refine SW.id ?_); first | with_reducible refine SW.seqK fun K hK => ?_ | with_reducible refine SW.block ?_ | ((first | with_reducible refine SW.skip ?_ | with_reducible refine SW.exit ?_ | with_reducible refine SW.label ?_ | with_reducible refine SW.ret ?_ | with_reducible refine SW.go MM ?_ | refine SW.goDrawF MM (by rfl) (by kernel_rfl) ?_); simp -implicitDefEqProofs only [go_sem]) | (refine SW.cond (by simp -implicitDefEqProofs only [go_sem]; rfl) (fun ht => ?_) (fun ht => ?_) <;> (try simp only [decide_eq_true_eq, decide_eq_false_iff_not, beq_iff_eq, bne_iff_ne, beq_eq_false_iff_ne, bne_eq_false_iff_eq, Bool.or_eq_true, Bool.and_eq_true, Bool.or_eq_false_iff, Bool.and_eq_false_imp, Bool.not_eq_true, Bool.not_eq_false, Bool.not_true, Bool.not_false, Bool.not_eq_true', Bool.not_eq_false', Bool.or_false, Bool.false_or, Bool.or_true, Bool.true_or, Bool.and_true, Bool.true_and, reduceCtorEq] at ht) <;> (try contradiction)))
      | ((with_reducible refine guardSplit (fun hg => ?_) (fun hg => ?_)) <;> (try simp only [Bool.not_true, Bool.not_false] at hg) <;> (have hc := hg) <;> simp -implicitDefEqProofs only [go_sem, hg] <;> (try simp only [decide_eq_true_eq, decide_eq_false_iff_not, beq_iff_eq, bne_iff_ne, beq_eq_false_iff_ne, bne_eq_false_iff_eq, Bool.or_eq_true, Bool.and_eq_true, Bool.or_eq_false_iff, Bool.and_eq_false_imp, Bool.not_eq_true, Bool.not_eq_false, Bool.not_true, Bool.not_false, Bool.not_eq_true', Bool.not_eq_false', Bool.or_false, Bool.false_or, Bool.or_true, Bool.true_or, Bool.and_true, Bool.true_and, reduceCtorEq] at hc) <;> (try contradiction)))
    refine Stop.go (SW.cutS (γ := Unit) (fun _ => St.of [(0, .sl p (l.map (fT q))), (7, .v (.int .i64 (sumD l)))] [] 64) (fun K hK => ?_) fun _ => ?_)
    · repeat' (first
        | apply_assumption -exfalso -symm (transparency := .reducible) only [*]
        | (with_reducible refine And.intro ?_ ?_)
        | (refine drawOf ?_; kernel_rfl)
        | ((with_reducible refine SW.id ?_); first | with_reducible refine SW.seqK fun K hK => ?_ | with_reducible refine SW.block ?_ | ((first | with_reducible refine SW.skip ?_ | with_reducible refine SW.exit ?_ | with_reducible refine SW.label ?_ | with_reducible refine SW.ret ?_ | with_reducible refine SW.go MM ?_ | refine SW.goDrawF MM (by rfl) (by kernel_rfl) ?_); simp -implicitDefEqProofs only [go_sem]) | (refine SW.cond (by simp -implicitDefEqProofs only [go_sem]; rfl) (fun ht => ?_) (fun ht => ?_) <;> (try simp only [decide_eq_true_eq, decide_eq_false_iff_not, beq_iff_eq, bne_iff_ne, beq_eq_false_iff_ne, bne_eq_false_iff_eq, Bool.or_eq_true, Bool.and_eq_true, Bool.or_eq_false_iff, Bool.and_eq_false_imp, Bool.not_eq_true, Bool.not_eq_false, Bool.not_true, Bool.not_false, Bool.not_eq_true', Bool.not_eq_false', Bool.or_false, Bool.false_or, Bool.or_true, Bool.true_or, Bool.and_true, Bool.true_and, reduceCtorEq] at ht) <;> (try contradiction)))
        | ((with_reducible refine guardSplit (fun hg => ?_) (fun hg => ?_)) <;> (try simp only [Bool.not_true, Bool.not_false] at hg) <;> (have hc := hg) <;> simp -implicitDefEqProofs only [go_sem, hg] <;> (try simp only [decide_eq_true_eq, decide_eq_false_iff_not, beq_iff_eq, bne_iff_ne, beq_eq_false_iff_ne, bne_eq_false_iff_eq, Bool.or_eq_true, Bool.and_eq_true, Bool.or_eq_false_iff, Bool.and_eq_false_imp, Bool.not_eq_true, Bool.not_eq_false, Bool.not_true, Bool.not_false, Bool.not_eq_true', Bool.not_eq_false', Bool.or_false, Bool.false_or, Bool.or_true, Bool.true_or, Bool.and_true, Bool.true_and, reduceCtorEq] at hc) <;> (try contradiction)))
      refine SW.loop (α := { i : Nat // i ≤ l.length }) (fun i => St.of [(0, .sl p (l.map (fT q))), (7, .v (.int .i64 (sumD (l.take i.1)))), (8, .v (.int .i64 i.1))] [] 64) (fun i => l.length - i.1)
        ⟨0, by omega⟩ (Weak.of [] (by rfl) ?_ trivial) fun ⟨i, hi⟩ => ?_
      · simp -implicitDefEqProofs only [go_sem]
        simp [sumD]
      · have h5 := i64_one (a := i) (by omega)
        have h6 := sumD_take_le l i
        have h7 := hg i
        have h8 := i64_add (a := sumD (l.take i)) (b := (l.getD i default).data.length) (by omega)
        repeat' (first
          | apply_assumption -exfalso -symm (transparency := .reducible) only [*]
          | (with_reducible refine And.intro ?_ ?_)
          | (refine drawOf ?_; kernel_rfl)
          | ((with_reducible refine SW.id ?_); first | with_reducible refine SW.seqK fun K hK => ?_ | with_reducible refine SW.block ?_ | ((first | with_reducible refine SW.skip ?_ | with_reducible refine SW.exit ?_ | with_reducible refine SW.label ?_ | with_reducible refine SW.ret ?_ | with_reducible refine SW.go MM ?_ | refine SW.goDrawF MM (by rfl) (by kernel_rfl) ?_); simp -implicitDefEqProofs only [go_sem, h5, h8]) | (refine SW.cond (by simp -implicitDefEqProofs only [go_sem, h5, h8]; rfl) (fun ht => ?_) (fun ht => ?_) <;> (try simp only [decide_eq_true_eq, decide_eq_false_iff_not, beq_iff_eq, bne_iff_ne, beq_eq_false_iff_ne, bne_eq_false_iff_eq, Bool.or_eq_true, Bool.and_eq_true, Bool.or_eq_false_iff, Bool.and_eq_false_imp, Bool.not_eq_true, Bool.not_eq_false, Bool.not_true, Bool.not_false, Bool.not_eq_true', Bool.not_eq_false', Bool.or_false, Bool.false_or, Bool.or_true, Bool.true_or, Bool.and_true, Bool.true_and, reduceCtorEq] at ht) <;> (try contradiction)))
          | ((with_reducible refine guardSplit (fun hg => ?_) (fun hg => ?_)) <;> (try simp only [Bool.not_true, Bool.not_false] at hg) <;> (have hc := hg) <;> simp -implicitDefEqProofs only [go_sem, hg, h5, h8] <;> (try simp only [decide_eq_true_eq, decide_eq_false_iff_not, beq_iff_eq, bne_iff_ne, beq_eq_false_iff_ne, bne_eq_false_iff_eq, Bool.or_eq_true, Bool.and_eq_true, Bool.or_eq_false_iff, Bool.and_eq_false_imp, Bool.not_eq_true, Bool.not_eq_false, Bool.not_true, Bool.not_false, Bool.not_eq_true', Bool.not_eq_false', Bool.or_false, Bool.false_or, Bool.or_true, Bool.true_or, Bool.and_true, Bool.true_and, reduceCtorEq] at hc) <;> (try contradiction)))
        all_goals try omega
        · refine ⟨⟨i + 1, by omega⟩, Weak.of [] (by rfl) ?_ trivial, by dsimp only; omega⟩
          simp -implicitDefEqProofs only [go_sem, h5, sumD_snoc (l := l) (i := i) (by omega)]
        · have hil : l.take i = l := by rw [show i = l.length by omega, List.take_length]
          refine ⟨(), Weak.of [] (by rfl) ?_ trivial⟩
          simp -implicitDefEqProofs only [go_sem, hil]
    · have hH : l.length ≤ 64 → 4194304 < sumD l → encP l = ([], 2) := fun h0 h1 => by
        unfold encP
        rw [if_neg (by omega), if_neg (by omega), if_pos h1]
      repeat' (first
        | apply_assumption -exfalso -symm (transparency := .reducible) only [*]
        | with_reducible refine SW.stopI 23 ?_
        | (with_reducible refine And.intro ?_ ?_)
        | (refine drawOf ?_; kernel_rfl)
        | ((with_reducible refine SW.id ?_); first | with_reducible refine SW.seqK fun K hK => ?_ | with_reducible refine SW.block ?_ | ((first | with_reducible refine SW.skip ?_ | with_reducible refine SW.exit ?_ | with_reducible refine SW.label ?_ | with_reducible refine SW.ret ?_ | with_reducible refine SW.go MM ?_ | refine SW.goDrawF MM (by rfl) (by kernel_rfl) ?_); simp -implicitDefEqProofs only [go_sem]) | (refine SW.cond (by simp -implicitDefEqProofs only [go_sem]; rfl) (fun ht => ?_) (fun ht => ?_) <;> (try simp only [decide_eq_true_eq, decide_eq_false_iff_not, beq_iff_eq, bne_iff_ne, beq_eq_false_iff_ne, bne_eq_false_iff_eq, Bool.or_eq_true, Bool.and_eq_true, Bool.or_eq_false_iff, Bool.and_eq_false_imp, Bool.not_eq_true, Bool.not_eq_false, Bool.not_true, Bool.not_false, Bool.not_eq_true', Bool.not_eq_false', Bool.or_false, Bool.false_or, Bool.or_true, Bool.true_or, Bool.and_true, Bool.true_and, reduceCtorEq] at ht) <;> (try contradiction)))
        | ((with_reducible refine guardSplit (fun hg => ?_) (fun hg => ?_)) <;> (try simp only [Bool.not_true, Bool.not_false] at hg) <;> (have hc := hg) <;> simp -implicitDefEqProofs only [go_sem, hg] <;> (try simp only [decide_eq_true_eq, decide_eq_false_iff_not, beq_iff_eq, bne_iff_ne, beq_eq_false_iff_ne, bne_eq_false_iff_eq, Bool.or_eq_true, Bool.and_eq_true, Bool.or_eq_false_iff, Bool.and_eq_false_imp, Bool.not_eq_true, Bool.not_eq_false, Bool.not_true, Bool.not_false, Bool.not_eq_true', Bool.not_eq_false', Bool.or_false, Bool.false_or, Bool.or_true, Bool.true_or, Bool.and_true, Bool.true_and, reduceCtorEq] at hc) <;> (try contradiction)))
      any_goals solve | rw [hH (by omega) (by omega)] | (rw [hH (by omega) (by omega)]; rfl)
      refine Stop.go (SW.cutS (γ := Unit) (fun _ => St.of [(9, .ref 0 1 0 (msgB l).length false)] [(0, .row 1 (bA (msgB l)))] 64) (fun K hK => ?_) fun _ => ?_)
      · repeat' (first
          | apply_assumption -exfalso -symm (transparency := .reducible) only [*]
          | (with_reducible refine And.intro ?_ ?_)
          | (refine drawOf ?_; kernel_rfl)
          | ((with_reducible refine SW.id ?_); first | with_reducible refine SW.seqK fun K hK => ?_ | with_reducible refine SW.block ?_ | ((first | with_reducible refine SW.skip ?_ | with_reducible refine SW.exit ?_ | with_reducible refine SW.label ?_ | with_reducible refine SW.ret ?_ | with_reducible refine SW.go MM ?_ | refine SW.goDrawF MM (by rfl) (by kernel_rfl) ?_); simp -implicitDefEqProofs only [go_sem]) | (refine SW.cond (by simp -implicitDefEqProofs only [go_sem]; rfl) (fun ht => ?_) (fun ht => ?_) <;> (try simp only [decide_eq_true_eq, decide_eq_false_iff_not, beq_iff_eq, bne_iff_ne, beq_eq_false_iff_ne, bne_eq_false_iff_eq, Bool.or_eq_true, Bool.and_eq_true, Bool.or_eq_false_iff, Bool.and_eq_false_imp, Bool.not_eq_true, Bool.not_eq_false, Bool.not_true, Bool.not_false, Bool.not_eq_true', Bool.not_eq_false', Bool.or_false, Bool.false_or, Bool.or_true, Bool.true_or, Bool.and_true, Bool.true_and, reduceCtorEq] at ht) <;> (try contradiction)))
          | ((with_reducible refine guardSplit (fun hg => ?_) (fun hg => ?_)) <;> (try simp only [Bool.not_true, Bool.not_false] at hg) <;> (have hc := hg) <;> simp -implicitDefEqProofs only [go_sem, hg] <;> (try simp only [decide_eq_true_eq, decide_eq_false_iff_not, beq_iff_eq, bne_iff_ne, beq_eq_false_iff_ne, bne_eq_false_iff_eq, Bool.or_eq_true, Bool.and_eq_true, Bool.or_eq_false_iff, Bool.and_eq_false_imp, Bool.not_eq_true, Bool.not_eq_false, Bool.not_true, Bool.not_false, Bool.not_eq_true', Bool.not_eq_false', Bool.or_false, Bool.false_or, Bool.or_true, Bool.true_or, Bool.and_true, Bool.true_and, reduceCtorEq] at hc) <;> (try contradiction)))
        refine SW.loop (α := { i : Nat // i ≤ l.length }) (fun i => St.of [(0, .sl p (l.map (fT q))), (9, .ref 0 1 0 (msgB (l.take i.1)).length false), (10, .v (.int .i64 i.1))] [(0, .row 1 (bA (msgB (l.take i.1))))] 64) (fun i => l.length - i.1)
          ⟨0, by omega⟩ (Weak.of [(192, 0)] (by rfl) ?_ ?_) fun ⟨i, hi⟩ => ?_
        · simp -implicitDefEqProofs only [go_sem]
          simp [msgB]
        · simp -implicitDefEqProofs only [go_sem]
          simp [msgB, bA]
        · have h5 := i64_one (a := i) (by omega)
          have h6 := hmle i
          have h7 := hsle i
          rw [List.length_take] at h6
          have h13 := fieldB_len (l.getD i default)
          have h14 := hg i
          have h8 : i < l.length → Valid (l.getD i default) := fun h => hval _ (by rw [List.getD_eq_getElem?_getD, List.getElem?_eq_getElem h]; exact List.getElem_mem h)
          repeat' (first
            | apply_assumption -exfalso -symm (transparency := .reducible) only [*]
            | (refine ⟨_, _, one_FS q (l.getD i default) (h8 (by omega)) (hgn i) (hg i), ?_⟩ <;> (try simp -implicitDefEqProofs only [go_sem, h5]))
            | (with_reducible refine And.intro ?_ ?_)
            | (refine drawOf ?_; kernel_rfl)
            | ((with_reducible refine SW.id ?_); first | with_reducible refine SW.seqK fun K hK => ?_ | with_reducible refine SW.block ?_ | ((first | with_reducible refine SW.skip ?_ | with_reducible refine SW.exit ?_ | with_reducible refine SW.label ?_ | with_reducible refine SW.ret ?_ | with_reducible refine SW.go MM ?_ | refine SW.goDrawF MM (by rfl) (by kernel_rfl) ?_); simp -implicitDefEqProofs only [go_sem, h5]) | (refine SW.cond (by simp -implicitDefEqProofs only [go_sem, h5]; rfl) (fun ht => ?_) (fun ht => ?_) <;> (try simp only [decide_eq_true_eq, decide_eq_false_iff_not, beq_iff_eq, bne_iff_ne, beq_eq_false_iff_ne, bne_eq_false_iff_eq, Bool.or_eq_true, Bool.and_eq_true, Bool.or_eq_false_iff, Bool.and_eq_false_imp, Bool.not_eq_true, Bool.not_eq_false, Bool.not_true, Bool.not_false, Bool.not_eq_true', Bool.not_eq_false', Bool.or_false, Bool.false_or, Bool.or_true, Bool.true_or, Bool.and_true, Bool.true_and, reduceCtorEq] at ht) <;> (try contradiction)))
            | ((with_reducible refine guardSplit (fun hg => ?_) (fun hg => ?_)) <;> (try simp only [Bool.not_true, Bool.not_false] at hg) <;> (have hc := hg) <;> simp -implicitDefEqProofs only [go_sem, hg, h5] <;> (try simp only [decide_eq_true_eq, decide_eq_false_iff_not, beq_iff_eq, bne_iff_ne, beq_eq_false_iff_ne, bne_eq_false_iff_eq, Bool.or_eq_true, Bool.and_eq_true, Bool.or_eq_false_iff, Bool.and_eq_false_imp, Bool.not_eq_true, Bool.not_eq_false, Bool.not_true, Bool.not_false, Bool.not_eq_true', Bool.not_eq_false', Bool.or_false, Bool.false_or, Bool.or_true, Bool.true_or, Bool.and_true, Bool.true_and, reduceCtorEq] at hc) <;> (try contradiction)))
          all_goals try omega
          · exact roomy_of (by omega) (by decide)
          · refine ⟨⟨i + 1, by omega⟩, Weak.of [(704, 0)] (by rfl) ?_ ?_, by dsimp only; omega⟩
            · simp -implicitDefEqProofs only [go_sem, h5, msgB_snoc (l := l) (i := i) (by omega), List.length_append]
            · simp -implicitDefEqProofs only [go_sem, msgB_snoc (l := l) (i := i) (by omega)]
          · have hil : l.take i = l := by rw [show i = l.length by omega, List.take_length]
            refine ⟨(), Weak.of [(0, 0)] (by rfl) ?_ ?_⟩
            · simp -implicitDefEqProofs only [go_sem, hil]
            · simp -implicitDefEqProofs only [go_sem, hil]
      · have hF : l.length ≤ 64 → sumD l ≤ 4194304 → ¬ 4194304 < (msgB l).length → encP l = (msgB l, 0) := fun h0 h1 h => by
          unfold encP
          rw [if_neg (by omega), if_neg (by omega), if_neg (by omega), if_neg h]
        have hG : l.length ≤ 64 → sumD l ≤ 4194304 → 4194304 < (msgB l).length → encP l = ([], 2) := fun h0 h1 h => by
          unfold encP
          rw [if_neg (by omega), if_neg (by omega), if_neg (by omega), if_pos h]
        repeat' (first
          | apply_assumption -exfalso -symm (transparency := .reducible) only [*]
          | (with_reducible refine And.intro ?_ ?_)
          | (refine drawOf ?_; kernel_rfl)
          | ((with_reducible refine SW.id ?_); first | with_reducible refine SW.seqK fun K hK => ?_ | with_reducible refine SW.block ?_ | ((first | with_reducible refine SW.skip ?_ | with_reducible refine SW.exit ?_ | with_reducible refine SW.label ?_ | with_reducible refine SW.ret ?_ | with_reducible refine SW.go MM ?_ | refine SW.goDrawF MM (by rfl) (by kernel_rfl) ?_); simp -implicitDefEqProofs only [go_sem]) | (refine SW.cond (by simp -implicitDefEqProofs only [go_sem]; rfl) (fun ht => ?_) (fun ht => ?_) <;> (try simp only [decide_eq_true_eq, decide_eq_false_iff_not, beq_iff_eq, bne_iff_ne, beq_eq_false_iff_ne, bne_eq_false_iff_eq, Bool.or_eq_true, Bool.and_eq_true, Bool.or_eq_false_iff, Bool.and_eq_false_imp, Bool.not_eq_true, Bool.not_eq_false, Bool.not_true, Bool.not_false, Bool.not_eq_true', Bool.not_eq_false', Bool.or_false, Bool.false_or, Bool.or_true, Bool.true_or, Bool.and_true, Bool.true_and, reduceCtorEq] at ht) <;> (try contradiction)))
          | ((with_reducible refine guardSplit (fun hg => ?_) (fun hg => ?_)) <;> (try simp only [Bool.not_true, Bool.not_false] at hg) <;> (have hc := hg) <;> simp -implicitDefEqProofs only [go_sem, hg] <;> (try simp only [decide_eq_true_eq, decide_eq_false_iff_not, beq_iff_eq, bne_iff_ne, beq_eq_false_iff_ne, bne_eq_false_iff_eq, Bool.or_eq_true, Bool.and_eq_true, Bool.or_eq_false_iff, Bool.and_eq_false_imp, Bool.not_eq_true, Bool.not_eq_false, Bool.not_true, Bool.not_false, Bool.not_eq_true', Bool.not_eq_false', Bool.or_false, Bool.false_or, Bool.or_true, Bool.true_or, Bool.and_true, Bool.true_and, reduceCtorEq] at hc) <;> (try contradiction)))
        all_goals first
          | rw [hF (by omega) (by omega) (by omega)]
          | rw [hG (by omega) (by omega) (by omega)]
        all_goals rfl

theorem encP_len (l : List Fld) : (encP l).1.length ≤ 4194304 := by
  unfold encP
  (repeat' split) <;> simp only [List.length_nil] <;> omega

theorem encodes_FS (l : List Fld) (hl : l.length < 2 ^ 30) (hx : ∀ f ∈ l, f.data.length < 2 ^ 38) (hn : ∀ f ∈ l, f.num < 2 ^ 64) : FS Try.prog 8 [.sl true (l.map (fT true))] (.ret [.v (.bool true)] [none]) := by
  refine FS_of_SW (kb := [false]) Try.func8 rfl rfl (by rfl) ?_
  refine SW.weak (Weak.of [] (sls := [(0, .sl true (l.map (fT true)))]) (bks := []) (ep := 64) (by rfl) ⟨rfl, trivial⟩ trivial) ?_
  have h1 := encode_FS true true l (by omega) hx hn
  have h2 := refEncode_FS true true l (by omega) hx hn
  have h3 := alike_FS true true true true l l (by omega) (by omega) (fun x h => by have := hx x h; omega) (fun x h => by have := hx x h; omega)
  have h4 := same_self false false (encP l).1 (by have := encP_len l; omega)
  have h5 := full_FS (encP l).1 5 (by have := encP_len l; omega)
  simp only [decide_true] at h3
  have e : ∀ x : Int, (x != x) = false := fun x => by simp
  repeat' (first
    | apply_assumption -exfalso -symm (transparency := .reducible) only [*]
    | (refine ⟨_, _, copied_FS true true l hl hx, ?_⟩ <;> (try simp -implicitDefEqProofs only [go_sem, e]))
    | (refine ⟨_, _, h1, ?_⟩ <;> (try simp -implicitDefEqProofs only [go_sem, e]))
    | (refine ⟨_, _, h2, ?_⟩ <;> (try simp -implicitDefEqProofs only [go_sem, e]))
    | (refine ⟨_, _, h3, ?_⟩ <;> (try simp -implicitDefEqProofs only [go_sem, e]))
    | (refine ⟨_, _, h4, ?_⟩ <;> (try simp -implicitDefEqProofs only [go_sem, e]))
    | (refine ⟨_, _, h5, ?_⟩ <;> (try simp -implicitDefEqProofs only [go_sem, e]))
    | (with_reducible refine And.intro ?_ ?_)
    | (refine drawOf ?_; kernel_rfl)
    | ((with_reducible refine SW.id ?_); first | with_reducible refine SW.seqK fun K hK => ?_ | with_reducible refine SW.block ?_ | ((first | with_reducible refine SW.skip ?_ | with_reducible refine SW.exit ?_ | with_reducible refine SW.label ?_ | with_reducible refine SW.ret ?_ | with_reducible refine SW.go MM ?_ | refine SW.goDrawF MM (by rfl) (by kernel_rfl) ?_); simp -implicitDefEqProofs only [go_sem, e]) | (refine SW.cond (by simp -implicitDefEqProofs only [go_sem, e]; rfl) (fun ht => ?_) (fun ht => ?_) <;> (try simp only [decide_eq_true_eq, decide_eq_false_iff_not, beq_iff_eq, bne_iff_ne, beq_eq_false_iff_ne, bne_eq_false_iff_eq, Bool.or_eq_true, Bool.and_eq_true, Bool.or_eq_false_iff, Bool.and_eq_false_imp, Bool.not_eq_true, Bool.not_eq_false, Bool.not_true, Bool.not_false, Bool.not_eq_true', Bool.not_eq_false', Bool.or_false, Bool.false_or, Bool.or_true, Bool.true_or, Bool.and_true, Bool.true_and, reduceCtorEq] at ht) <;> (try contradiction)))
    | ((with_reducible refine guardSplit (fun hg => ?_) (fun hg => ?_)) <;> (try simp only [Bool.not_true, Bool.not_false] at hg) <;> (have hc := hg) <;> simp -implicitDefEqProofs only [go_sem, hg, e] <;> (try simp only [decide_eq_true_eq, decide_eq_false_iff_not, beq_iff_eq, bne_iff_ne, beq_eq_false_iff_ne, bne_eq_false_iff_eq, Bool.or_eq_true, Bool.and_eq_true, Bool.or_eq_false_iff, Bool.and_eq_false_imp, Bool.not_eq_true, Bool.not_eq_false, Bool.not_true, Bool.not_false, Bool.not_eq_true', Bool.not_eq_false', Bool.or_false, Bool.false_or, Bool.or_true, Bool.true_or, Bool.and_true, Bool.true_and, reduceCtorEq] at hc) <;> (try contradiction)))

/-- A field that came in. -/
def FldOk (f : Fld) : Prop := f.num < 2 ^ 64 ∧ (∀ x ∈ f.data, x < 256) ∧ -9223372036854775808 ≤ f.no ∧ f.no ≤ 9223372036854775807 ∧ -9223372036854775808 ≤ f.ty ∧ f.ty ≤ 9223372036854775807
def TFld : TC := .struct [.int .i64, .int .i64, .int .u64, .slice (.int .u8)]
theorem DA.fld_inv {H : Type} {d : DataW H} {a : A} (h : DA TFld d a) : ∃ f : Fld, a = fT true f ∧ f.data.length + 1 ≤ dBulk d ∧ FldOk f := by
  obtain ⟨ds, xs, rfl, rfl, hs⟩ := DA.struct_inv h
  clear h
  have h := hs
  clear hs
  obtain ⟨d0, ds, a0, xs, rfl, rfl, h0, h⟩ := h.cons_inv
  obtain ⟨d1, ds, a1, xs, rfl, rfl, h1, h⟩ := h.cons_inv
  obtain ⟨d2, ds, a2, xs, rfl, rfl, h2, h⟩ := h.cons_inv
  obtain ⟨d3, ds, a3, xs, rfl, rfl, h3, h⟩ := h.cons_inv
  obtain ⟨rfl, rfl⟩ := h.nil_inv
  obtain ⟨no, rfl, rfl, n1, n2⟩ := h0.int_inv
  obtain ⟨ty, rfl, rfl, t1, t2⟩ := h1.int_inv
  obtain ⟨num, rfl, m1, _⟩ := h2.nat_inv rfl
  obtain ⟨b, rfl, hb, h8⟩ := h3.bytes_inv
  have e1 : IntKind.max .u64 = 18446744073709551615 := rfl
  have e2 : IntKind.max .i64 = 9223372036854775807 := rfl
  have e3 : IntKind.min .i64 = -9223372036854775808 := rfl
  refine ⟨⟨no, ty, num, b⟩, rfl, ?_, ?_⟩
  · simp only [dBulk, dBulks]; omega
  · unfold FldOk
    dsimp only
    exact ⟨by omega, h8, by omega, by omega, by omega, by omega⟩
theorem DA.flds_inv {H : Type} {d : DataW H} {a : A} (h : DA (.slice TFld) d a) : ∃ l : List Fld, a = .sl true (l.map (fT true)) ∧ (l.map (fun f => f.data.length + 1)).sum + 1 ≤ dBulk d ∧ ∀ f ∈ l, FldOk f :=
  DA.slice_map (fun _ _ h => h.fld_inv) h

theorem encodes_law {H : Type} (ds : List (DataW H)) (xs : List A) (h : DAs [.slice TFld] ds xs) (hk : dBulks ds ≤ 1048576) : ∃ back, FS Try.prog 8 xs (.ret [.v (.bool true)] back) := by
  obtain ⟨d0, ds, a0, xs, rfl, rfl, h0, h⟩ := h.cons_inv
  obtain ⟨rfl, rfl⟩ := h.nil_inv
  obtain ⟨l, rfl, hb, h8⟩ := h0.flds_inv
  simp only [dBulks] at hk
  have h1 := sum_len (f := fun f : Fld => f.data.length + 1) (l := l) (by simp)
  exact ⟨_, encodes_FS l (by omega) (fun x hx => by
    have := sum_mem (f := fun f : Fld => f.data.length + 1) hx
    omega) (fun x hx => (h8 x hx).1)⟩
end Go.PA
