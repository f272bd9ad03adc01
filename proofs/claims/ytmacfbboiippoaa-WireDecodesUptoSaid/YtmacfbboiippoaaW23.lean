/- WireMessages. -/
import Derived.Test.YtmacfbboiippoaaW22
import Derived.Test.YtmacfbboiippoaaW21
namespace Go.PA
open Go.Proofs
set_option linter.unusedSimpArgs false
set_option linter.unusedVariables false
set_option maxRecDepth 100000
set_option maxHeartbeats 4000000
attribute [local go_sem] MM getP setP takesW
attribute [-go_sem] takeA

theorem enc_lt : ∀ (k n : Nat), ∀ x ∈ enc k n, x < 256
  | 0, n, x, h => by simp [enc] at h; omega
  | k + 1, n, x, h => by
    simp only [enc] at h
    split at h
    · simp at h; omega
    · rcases List.mem_cons.1 h with h | h
      · omega
      · exact enc_lt k (n / 128) x h
theorem lowB_lt : ∀ (k n : Nat), ∀ x ∈ lowB k n, x < 256
  | 0, n, x, h => by simp [lowB] at h
  | k + 1, n, x, h => by
    simp only [lowB] at h
    rcases List.mem_cons.1 h with h | h
    · omega
    · exact lowB_lt k (n / 256) x h
theorem fieldB_lt (f : Fld) (hd : ∀ x ∈ f.data, x < 256) : ∀ x ∈ fieldB f, x < 256 := by
  intro x h
  rw [fieldB_eq, List.mem_append] at h
  rcases h with h | h
  · exact enc_lt _ _ x h
  · unfold bodyB at h
    split at h
    · exact enc_lt _ _ x h
    · split at h
      · exact lowB_lt _ _ x h
      · split at h
        · exact lowB_lt _ _ x h
        · rcases List.mem_append.1 h with h | h
          · exact enc_lt _ _ x h
          · exact hd x h
theorem msgB_lt (l : List Fld) (hd : ∀ f ∈ l, ∀ x ∈ f.data, x < 256) : ∀ x ∈ msgB l, x < 256 := by
  intro x h
  obtain ⟨f, hf, hx⟩ := List.mem_flatMap.1 h
  exact fieldB_lt f (hd f hf) x hx
theorem encP_lt (l : List Fld) (hd : ∀ f ∈ l, ∀ x ∈ f.data, x < 256) : ∀ x ∈ (encP l).1, x < 256 := by
  unfold encP
  (repeat' split) <;> first | exact msgB_lt l hd | (intro x h; simp at h)

theorem msgB_ge : ∀ (l : List Fld), l.length ≤ (msgB l).length
  | [] => by simp
  | f :: l => by
    have := msgB_ge l
    have h2 := enc_pos 9 (headN f)
    have e : msgB (f :: l) = fieldB f ++ msgB l := rfl
    rw [e, fieldB_eq]
    simp
    omega

theorem encP_zero {l : List Fld} (h : (encP l).2 = 0) : encP l = (msgB l, 0) ∧ chk 0 l = 0 ∧ l.length ≤ 64 ∧ (msgB l).length ≤ 4194304 := by
  unfold encP at h ⊢
  split at h
  · simp at h
  · split at h
    · dsimp only at h; omega
    · split at h
      · simp at h
      · split at h
        · simp at h
        · rename_i h1 h2 h3 h4
          rw [if_neg h1, if_neg h2, if_neg h3, if_neg h4]
          exact ⟨rfl, by omega, by omega, by omega⟩

theorem dec_enc {l : List Fld} (h : (encP l).2 = 0) (hx : ∀ f ∈ l, f.num < 2 ^ 64 ∧ f.data.length < 2 ^ 40) : decD (encP l).1 = (l, 0, 0) := by
  obtain ⟨h1, h2, h3, h4⟩ := encP_zero h
  have h5 := msgB_ge l
  have hw : walkD (msgB l) = (l, 0, 0) := by
    unfold walkD
    rw [if_neg (by omega)]
    have := walkP_enc l [] ((msgB l).length + 1) 0 0 h2 (by omega) (by omega) hx
    simpa using this
  rw [h1]
  unfold decD
  rw [hw]
  simp

theorem one_ok {f : Fld} (h : wrongP f 0 = 0) (hd : f.data.length < 1000) : (encP [f]).2 = 0 := by
  have h1 := msgB_le [f]
  unfold encP
  rw [if_neg (by simp), if_neg (by simp [chk, h]), if_neg (by simp [sumD]; omega), if_neg (by simp [sumD] at h1; omega)]

theorem idx_arr60 {d : Nat} {p : List PS} {n : Int} : aIndexAddr Try.prog 60 (.ptr d p) n = .req (0 ≤ n ∧ n < 4) (effV (.ptr d (p ++ [.idx n.toNat 1]))) := by
  have h1 : tSlice Try.prog 60 = none := rfl
  have h2 : tArr Try.prog 60 = some (4, 3, 1) := rfl
  unfold aIndexAddr
  rw [h1]
  simp only [h2]
  rfl
attribute [local go_sem] idx_arr60

theorem wrongP_five (no : Int) (v : Nat) (h1 : ¬ no < 1) (h2 : ¬ no > 536870911) : wrongP ⟨no, 5, v % 4294967296, []⟩ 0 = 0 := by
  unfold wrongP
  dsimp only
  rw [if_neg (by omega), if_neg (by omega), if_pos (by omega), if_neg (by rw [List.length_nil]; omega)]

theorem single_FS (f : Fld) (hw : wrongP f 0 = 0) (hn : f.num < 2 ^ 64) (hl : f.data.length < 1000) (hd : ∀ x ∈ f.data, x < 256) : ∃ B : List Nat, B.length ≤ 4194304 ∧
    FS Try.prog 31 [.sl false [fT false f]] (.ret [.osl 1 (bA B), .v (.int .i64 0)] [none]) ∧
    FS Try.prog 36 [.sl false (bA B)] (.ret [.osl 4 [fO f], .v (.int .i64 0), .v (.int .i64 0)] [none]) ∧
    FS Try.prog 33 [.sl false [fT false f], .sl false [fT false f]] (.ret [.v (.bool true)] [none, none]) := by
  have hz := one_ok hw hl
  have e1 : ∀ g ∈ [f], g.data.length < 2 ^ 38 := fun g hg => by rw [List.mem_singleton.1 hg]; omega
  have e2 : ∀ g ∈ [f], g.num < 2 ^ 64 := fun g hg => by rw [List.mem_singleton.1 hg]; exact hn
  have e3 : ∀ g ∈ [f], ∀ x ∈ g.data, x < 256 := fun g hg => by rw [List.mem_singleton.1 hg]; exact hd
  have h1 := encode_FS false false [f] (by simp) e1 e2
  have h2 := decode_FS false (encP [f]).1 (by have := encP_len [f]; omega) (encP_lt [f] e3)
  have h3 := alike_FS false false false false [f] [f] (by simp) (by simp) (fun x h => by have := e1 x h; omega) (fun x h => by have := e1 x h; omega)
  rw [hz] at h1
  rw [dec_enc hz fun g hg => ⟨e2 g hg, by have := e1 g hg; omega⟩] at h2
  simp only [decide_true] at h3
  exact ⟨(encP [f]).1, encP_len [f], h1, h2, h3⟩

theorem messages_FS (l : List Fld) (no : Int) (v : Nat) (hl : l.length < 2 ^ 30) (hx : ∀ f ∈ l, f.data.length < 2 ^ 38) (hn : ∀ f ∈ l, f.num < 2 ^ 64) (hd : ∀ f ∈ l, ∀ x ∈ f.data, x < 256) (hv : v < 2 ^ 64) :
    FS Try.prog 12 [.sl true (l.map (fT true)), .v (.int .i64 no), .v (.int .u64 v)] (.ret [.v (.bool true)] [none, none, none]) := by
  refine FS_of_SW (kb := [false, false, false]) Try.func12 rfl rfl (by rfl) ?_
  refine SW.weak (Weak.of [] (sls := [(0, .sl true (l.map (fT true))), (1, .v (.int .i64 no)), (2, .v (.int .u64 v))]) (bks := []) (ep := 64) (by rfl) ⟨rfl, rfl, rfl, trivial⟩ trivial) ?_
  have h1 := encode_FS true true l (by omega) hx hn
  have hlen := encP_len l
  have h2 := decode_FS false (encP l).1 (by omega) (encP_lt l hd)
  have h3 := alike_FS false false true true l l (by omega) (by omega) (fun x h => by have := hx x h; omega) (fun x h => by have := hx x h; omega)
  simp only [decide_true] at h3
  have hdec := fun h => dec_enc (l := l) h fun f hf => ⟨hn f hf, by have := hx f hf; omega⟩
  repeat' (first
    | apply_assumption -exfalso -symm (transparency := .reducible) only [*]
    | with_reducible refine SW.stopI 2 ?_
    | (refine ⟨_, _, h1, ?_⟩ <;> (try simp -implicitDefEqProofs only [go_sem]))
    | (with_reducible refine And.intro ?_ ?_)
    | (refine drawOf ?_; kernel_rfl)
    | ((with_reducible refine SW.id ?_); first | with_reducible refine SW.seqK fun K hK => ?_ | with_reducible refine SW.block ?_ | with_reducible refine SW.scope ?_ | ((first | with_reducible refine SW.skip ?_ | with_reducible refine SW.exit ?_ | with_reducible refine SW.label ?_ | with_reducible refine SW.ret ?_ | with_reducible refine SW.go MM ?_ | refine SW.goDrawF MM (by rfl) (by kernel_rfl) ?_); simp -implicitDefEqProofs only [go_sem]) | (refine SW.cond (by simp -implicitDefEqProofs only [go_sem]; rfl) (fun ht => ?_) (fun ht => ?_) <;> (try simp only [decide_eq_true_eq, decide_eq_false_iff_not, beq_iff_eq, bne_iff_ne, beq_eq_false_iff_ne, bne_eq_false_iff_eq, Bool.or_eq_true, Bool.and_eq_true, Bool.or_eq_false_iff, Bool.and_eq_false_imp, Bool.not_eq_true, Bool.not_eq_false, Bool.not_true, Bool.not_false, Bool.not_eq_true', Bool.not_eq_false', Bool.or_false, Bool.false_or, Bool.or_true, Bool.true_or, Bool.and_true, Bool.true_and, reduceCtorEq] at ht) <;> (try contradiction)))
    | ((with_reducible refine guardSplit (fun hg => ?_) (fun hg => ?_)) <;> (try simp only [Bool.not_true, Bool.not_false] at hg) <;> (have hc := hg) <;> simp -implicitDefEqProofs only [go_sem, hg] <;> (try simp only [decide_eq_true_eq, decide_eq_false_iff_not, beq_iff_eq, bne_iff_ne, beq_eq_false_iff_ne, bne_eq_false_iff_eq, Bool.or_eq_true, Bool.and_eq_true, Bool.or_eq_false_iff, Bool.and_eq_false_imp, Bool.not_eq_true, Bool.not_eq_false, Bool.not_true, Bool.not_false, Bool.not_eq_true', Bool.not_eq_false', Bool.or_false, Bool.false_or, Bool.or_true, Bool.true_or, Bool.and_true, Bool.true_and, reduceCtorEq] at hc) <;> (try contradiction)))
  refine Stop.go (SW.cutS (γ := Unit) (fun _ => St.of [(1, .v (.int .i64 no)), (2, .v (.int .u64 v))] [] 64) (fun K hK => ?_) fun _ => ?_)
  · have e : ∀ x : Int, (x != x) = false := fun x => by simp
    by_cases he : (encP l).2 = 0
    · have h2 : FS Try.prog 36 [.sl false (bA (encP l).1)] (.ret [.osl 4 (l.map fO), .v (.int .i64 0), .v (.int .i64 0)] [none]) := by
        have := h2
        rw [hdec he] at this
        exact this
      repeat' (first
        | apply_assumption -exfalso -symm (transparency := .reducible) only [*]
        | (refine ⟨_, _, h2, ?_⟩ <;> (try simp -implicitDefEqProofs only [go_sem, he, e]))
        | (refine ⟨_, _, h3, ?_⟩ <;> (try simp -implicitDefEqProofs only [go_sem, he, e]))
        | (with_reducible refine And.intro ?_ ?_)
        | (refine drawOf ?_; kernel_rfl)
        | ((with_reducible refine SW.id ?_); first | with_reducible refine SW.seqK fun K hK => ?_ | with_reducible refine SW.block ?_ | with_reducible refine SW.scope ?_ | ((first | with_reducible refine SW.skip ?_ | with_reducible refine SW.exit ?_ | with_reducible refine SW.label ?_ | with_reducible refine SW.ret ?_ | with_reducible refine SW.go MM ?_ | refine SW.goDrawF MM (by rfl) (by kernel_rfl) ?_); simp -implicitDefEqProofs only [go_sem, he, e]) | (refine SW.cond (by simp -implicitDefEqProofs only [go_sem, he, e]; rfl) (fun ht => ?_) (fun ht => ?_) <;> (try simp only [decide_eq_true_eq, decide_eq_false_iff_not, beq_iff_eq, bne_iff_ne, beq_eq_false_iff_ne, bne_eq_false_iff_eq, Bool.or_eq_true, Bool.and_eq_true, Bool.or_eq_false_iff, Bool.and_eq_false_imp, Bool.not_eq_true, Bool.not_eq_false, Bool.not_true, Bool.not_false, Bool.not_eq_true', Bool.not_eq_false', Bool.or_false, Bool.false_or, Bool.or_true, Bool.true_or, Bool.and_true, Bool.true_and, reduceCtorEq] at ht) <;> (try contradiction)))
        | ((with_reducible refine guardSplit (fun hg => ?_) (fun hg => ?_)) <;> (try simp only [Bool.not_true, Bool.not_false] at hg) <;> (have hc := hg) <;> simp -implicitDefEqProofs only [go_sem, hg, he, e] <;> (try simp only [decide_eq_true_eq, decide_eq_false_iff_not, beq_iff_eq, bne_iff_ne, beq_eq_false_iff_ne, bne_eq_false_iff_eq, Bool.or_eq_true, Bool.and_eq_true, Bool.or_eq_false_iff, Bool.and_eq_false_imp, Bool.not_eq_true, Bool.not_eq_false, Bool.not_true, Bool.not_false, Bool.not_eq_true', Bool.not_eq_false', Bool.or_false, Bool.false_or, Bool.or_true, Bool.true_or, Bool.and_true, Bool.true_and, reduceCtorEq] at hc) <;> (try contradiction)))
      all_goals try omega
      all_goals exact ⟨(), Weak.of [] (by rfl) (by simp -implicitDefEqProofs only [go_sem]) trivial⟩
    · repeat' (first
        | apply_assumption -exfalso -symm (transparency := .reducible) only [*]
        | (with_reducible refine And.intro ?_ ?_)
        | (refine drawOf ?_; kernel_rfl)
        | ((with_reducible refine SW.id ?_); first | with_reducible refine SW.seqK fun K hK => ?_ | with_reducible refine SW.block ?_ | with_reducible refine SW.scope ?_ | ((first | with_reducible refine SW.skip ?_ | with_reducible refine SW.exit ?_ | with_reducible refine SW.label ?_ | with_reducible refine SW.ret ?_ | with_reducible refine SW.go MM ?_ | refine SW.goDrawF MM (by rfl) (by kernel_rfl) ?_); simp -implicitDefEqProofs only [go_sem]) | (refine SW.cond (by simp -implicitDefEqProofs only [go_sem]; rfl) (fun ht => ?_) (fun ht => ?_) <;> (try simp only [decide_eq_true_eq, decide_eq_false_iff_not, beq_iff_eq, bne_iff_ne, beq_eq_false_iff_ne, bne_eq_false_iff_eq, Bool.or_eq_true, Bool.and_eq_true, Bool.or_eq_false_iff, Bool.and_eq_false_imp, Bool.not_eq_true, Bool.not_eq_false, Bool.not_true, Bool.not_false, Bool.not_eq_true', Bool.not_eq_false', Bool.or_false, Bool.false_or, Bool.or_true, Bool.true_or, Bool.and_true, Bool.true_and, reduceCtorEq] at ht) <;> (try contradiction)))
        | ((with_reducible refine guardSplit (fun hg => ?_) (fun hg => ?_)) <;> (try simp only [Bool.not_true, Bool.not_false] at hg) <;> (have hc := hg) <;> simp -implicitDefEqProofs only [go_sem, hg] <;> (try simp only [decide_eq_true_eq, decide_eq_false_iff_not, beq_iff_eq, bne_iff_ne, beq_eq_false_iff_ne, bne_eq_false_iff_eq, Bool.or_eq_true, Bool.and_eq_true, Bool.or_eq_false_iff, Bool.and_eq_false_imp, Bool.not_eq_true, Bool.not_eq_false, Bool.not_true, Bool.not_false, Bool.not_eq_true', Bool.not_eq_false', Bool.or_false, Bool.false_or, Bool.or_true, Bool.true_or, Bool.and_true, Bool.true_and, reduceCtorEq] at hc) <;> (try contradiction)))
      all_goals try omega
      all_goals exact ⟨(), Weak.of [] (by rfl) (by simp -implicitDefEqProofs only [go_sem]) trivial⟩
  · have e : ∀ x : Int, (x != x) = false := fun x => by simp
    have hb3 : bA [v % 256, 2, 3] = [.v (.int .u8 ((v % 256 : Nat) : Int)), .v (.int .u8 2), .v (.int .u8 3)] := rfl
    have hm : (v : Int).tmod 4294967296 = ((v % 4294967296 : Nat) : Int) := by rw [Int.tmod_eq_emod_of_nonneg (by omega)]; omega
    repeat' (first
      | apply_assumption -exfalso -symm (transparency := .reducible) only [*]
      | (with_reducible refine And.intro ?_ ?_)
      | (refine drawOf ?_; kernel_rfl)
      | ((with_reducible refine SW.id ?_); first | with_reducible refine SW.seqK fun K hK => ?_ | with_reducible refine SW.block ?_ | with_reducible refine SW.scope ?_ | ((first | with_reducible refine SW.skip ?_ | with_reducible refine SW.exit ?_ | with_reducible refine SW.label ?_ | with_reducible refine SW.ret ?_ | with_reducible refine SW.go MM ?_ | refine SW.goDrawF MM (by rfl) (by kernel_rfl) ?_); simp -implicitDefEqProofs only [go_sem]) | (refine SW.cond (by simp -implicitDefEqProofs only [go_sem]; rfl) (fun ht => ?_) (fun ht => ?_) <;> (try simp only [decide_eq_true_eq, decide_eq_false_iff_not, beq_iff_eq, bne_iff_ne, beq_eq_false_iff_ne, bne_eq_false_iff_eq, Bool.or_eq_true, Bool.and_eq_true, Bool.or_eq_false_iff, Bool.and_eq_false_imp, Bool.not_eq_true, Bool.not_eq_false, Bool.not_true, Bool.not_false, Bool.not_eq_true', Bool.not_eq_false', Bool.or_false, Bool.false_or, Bool.or_true, Bool.true_or, Bool.and_true, Bool.true_and, reduceCtorEq] at ht) <;> (try contradiction)))
      | ((with_reducible refine guardSplit (fun hg => ?_) (fun hg => ?_)) <;> (try simp only [Bool.not_true, Bool.not_false] at hg) <;> (have hc := hg) <;> simp -implicitDefEqProofs only [go_sem, hg] <;> (try simp only [decide_eq_true_eq, decide_eq_false_iff_not, beq_iff_eq, bne_iff_ne, beq_eq_false_iff_ne, bne_eq_false_iff_eq, Bool.or_eq_true, Bool.and_eq_true, Bool.or_eq_false_iff, Bool.and_eq_false_imp, Bool.not_eq_true, Bool.not_eq_false, Bool.not_true, Bool.not_false, Bool.not_eq_true', Bool.not_eq_false', Bool.or_false, Bool.false_or, Bool.or_true, Bool.true_or, Bool.and_true, Bool.true_and, reduceCtorEq] at hc) <;> (try contradiction)))
    refine SW.loop (α := { i : Int // i = 0 ∨ i = 1 ∨ i = 2 ∨ i = 3 ∨ i = 4 }) (fun i => St.of [(1, .v (.int .i64 no)), (2, .v (.int .u64 v)), (12, .ptr 0 []), (13, .v (.int .i64 i.1))]
      [(0, .var (.arr 4 [.v (.int .i64 0), .v (.int .i64 1), .v (.int .i64 5), .v (.int .i64 2)]))] 64) (fun i => (4 - i.1).toNat) ⟨0, .inl rfl⟩ (Weak.of [(512, 0)] (by rfl) ?_ ?_) fun ⟨i, hi⟩ => ?_
    · simp -implicitDefEqProofs only [go_sem]
    · simp -implicitDefEqProofs only [go_sem]
    · rcases hi with rfl | rfl | rfl | rfl | rfl
      · obtain ⟨B, hBl, henc, hde, hal⟩ := single_FS ⟨no, 0, v, []⟩ (by unfold wrongP; simp; omega) hv (by simp) (by simp)
        simp only [fT, fO, bA_nil] at henc hde hal
        repeat' (first
          | apply_assumption -exfalso -symm (transparency := .reducible) only [*]
          | (refine ⟨_, _, henc, ?_⟩ <;> (try simp -implicitDefEqProofs only [go_sem, e]))
          | (refine ⟨_, _, hde, ?_⟩ <;> (try simp -implicitDefEqProofs only [go_sem, e]))
          | (refine ⟨_, _, hal, ?_⟩ <;> (try simp -implicitDefEqProofs only [go_sem, e]))
          | (with_reducible refine And.intro ?_ ?_)
          | (refine drawOf ?_; kernel_rfl)
          | ((with_reducible refine SW.id ?_); first | with_reducible refine SW.seqK fun K hK => ?_ | with_reducible refine SW.block ?_ | with_reducible refine SW.scope ?_ | ((first | with_reducible refine SW.skip ?_ | with_reducible refine SW.exit ?_ | with_reducible refine SW.label ?_ | with_reducible refine SW.ret ?_ | with_reducible refine SW.go MM ?_ | refine SW.goDrawF MM (by rfl) (by kernel_rfl) ?_); simp -implicitDefEqProofs only [go_sem, e]) | (refine SW.cond (by simp -implicitDefEqProofs only [go_sem, e]; rfl) (fun ht => ?_) (fun ht => ?_) <;> (try simp only [decide_eq_true_eq, decide_eq_false_iff_not, beq_iff_eq, bne_iff_ne, beq_eq_false_iff_ne, bne_eq_false_iff_eq, Bool.or_eq_true, Bool.and_eq_true, Bool.or_eq_false_iff, Bool.and_eq_false_imp, Bool.not_eq_true, Bool.not_eq_false, Bool.not_true, Bool.not_false, Bool.not_eq_true', Bool.not_eq_false', Bool.or_false, Bool.false_or, Bool.or_true, Bool.true_or, Bool.and_true, Bool.true_and, reduceCtorEq] at ht) <;> (try contradiction)))
          | ((with_reducible refine guardSplit (fun hg => ?_) (fun hg => ?_)) <;> (try simp only [Bool.not_true, Bool.not_false] at hg) <;> (have hc := hg) <;> simp -implicitDefEqProofs only [go_sem, hg, e] <;> (try simp only [decide_eq_true_eq, decide_eq_false_iff_not, beq_iff_eq, bne_iff_ne, beq_eq_false_iff_ne, bne_eq_false_iff_eq, Bool.or_eq_true, Bool.and_eq_true, Bool.or_eq_false_iff, Bool.and_eq_false_imp, Bool.not_eq_true, Bool.not_eq_false, Bool.not_true, Bool.not_false, Bool.not_eq_true', Bool.not_eq_false', Bool.or_false, Bool.false_or, Bool.or_true, Bool.true_or, Bool.and_true, Bool.true_and, reduceCtorEq] at hc) <;> (try contradiction)))
        all_goals try omega
        any_goals solve | exact ⟨rfl, trivial⟩ | simp [szAt, A.sz]
        all_goals exact ⟨⟨1, by simp⟩, Weak.of [(0, 0)] (by rfl) (by simp -implicitDefEqProofs only [go_sem]; rfl) (by simp -implicitDefEqProofs only [go_sem]), by decide⟩
      · obtain ⟨B, hBl, henc, hde, hal⟩ := single_FS ⟨no, 1, v, []⟩ (by unfold wrongP; simp; omega) hv (by simp) (by simp)
        simp only [fT, fO, bA_nil] at henc hde hal
        repeat' (first
          | apply_assumption -exfalso -symm (transparency := .reducible) only [*]
          | (refine ⟨_, _, henc, ?_⟩ <;> (try simp -implicitDefEqProofs only [go_sem, e]))
          | (refine ⟨_, _, hde, ?_⟩ <;> (try simp -implicitDefEqProofs only [go_sem, e]))
          | (refine ⟨_, _, hal, ?_⟩ <;> (try simp -implicitDefEqProofs only [go_sem, e]))
          | (with_reducible refine And.intro ?_ ?_)
          | (refine drawOf ?_; kernel_rfl)
          | ((with_reducible refine SW.id ?_); first | with_reducible refine SW.seqK fun K hK => ?_ | with_reducible refine SW.block ?_ | with_reducible refine SW.scope ?_ | ((first | with_reducible refine SW.skip ?_ | with_reducible refine SW.exit ?_ | with_reducible refine SW.label ?_ | with_reducible refine SW.ret ?_ | with_reducible refine SW.go MM ?_ | refine SW.goDrawF MM (by rfl) (by kernel_rfl) ?_); simp -implicitDefEqProofs only [go_sem, e]) | (refine SW.cond (by simp -implicitDefEqProofs only [go_sem, e]; rfl) (fun ht => ?_) (fun ht => ?_) <;> (try simp only [decide_eq_true_eq, decide_eq_false_iff_not, beq_iff_eq, bne_iff_ne, beq_eq_false_iff_ne, bne_eq_false_iff_eq, Bool.or_eq_true, Bool.and_eq_true, Bool.or_eq_false_iff, Bool.and_eq_false_imp, Bool.not_eq_true, Bool.not_eq_false, Bool.not_true, Bool.not_false, Bool.not_eq_true', Bool.not_eq_false', Bool.or_false, Bool.false_or, Bool.or_true, Bool.true_or, Bool.and_true, Bool.true_and, reduceCtorEq] at ht) <;> (try contradiction)))
          | ((with_reducible refine guardSplit (fun hg => ?_) (fun hg => ?_)) <;> (try simp only [Bool.not_true, Bool.not_false] at hg) <;> (have hc := hg) <;> simp -implicitDefEqProofs only [go_sem, hg, e] <;> (try simp only [decide_eq_true_eq, decide_eq_false_iff_not, beq_iff_eq, bne_iff_ne, beq_eq_false_iff_ne, bne_eq_false_iff_eq, Bool.or_eq_true, Bool.and_eq_true, Bool.or_eq_false_iff, Bool.and_eq_false_imp, Bool.not_eq_true, Bool.not_eq_false, Bool.not_true, Bool.not_false, Bool.not_eq_true', Bool.not_eq_false', Bool.or_false, Bool.false_or, Bool.or_true, Bool.true_or, Bool.and_true, Bool.true_and, reduceCtorEq] at hc) <;> (try contradiction)))
        all_goals try omega
        any_goals solve | exact ⟨rfl, trivial⟩ | simp [szAt, A.sz]
        all_goals exact ⟨⟨2, by simp⟩, Weak.of [(0, 0)] (by rfl) (by simp -implicitDefEqProofs only [go_sem]; rfl) (by simp -implicitDefEqProofs only [go_sem]), by decide⟩
      · obtain ⟨B, hBl, henc, hde, hal⟩ := single_FS ⟨no, 5, v % 4294967296, []⟩ (wrongP_five no v (by assumption) (by assumption)) (by dsimp only; omega) (by simp) (by simp)
        simp only [fT, fO, bA_nil] at henc hde hal
        repeat' (first
          | apply_assumption -exfalso -symm (transparency := .reducible) only [*]
          | (refine ⟨_, _, henc, ?_⟩ <;> (try simp -implicitDefEqProofs only [go_sem, e, hm]))
          | (refine ⟨_, _, hde, ?_⟩ <;> (try simp -implicitDefEqProofs only [go_sem, e, hm]))
          | (refine ⟨_, _, hal, ?_⟩ <;> (try simp -implicitDefEqProofs only [go_sem, e, hm]))
          | (with_reducible refine And.intro ?_ ?_)
          | (refine drawOf ?_; kernel_rfl)
          | ((with_reducible refine SW.id ?_); first | with_reducible refine SW.seqK fun K hK => ?_ | with_reducible refine SW.block ?_ | with_reducible refine SW.scope ?_ | ((first | with_reducible refine SW.skip ?_ | with_reducible refine SW.exit ?_ | with_reducible refine SW.label ?_ | with_reducible refine SW.ret ?_ | with_reducible refine SW.go MM ?_ | refine SW.goDrawF MM (by rfl) (by kernel_rfl) ?_); simp -implicitDefEqProofs only [go_sem, e, hm]) | (refine SW.cond (by simp -implicitDefEqProofs only [go_sem, e, hm]; rfl) (fun ht => ?_) (fun ht => ?_) <;> (try simp only [decide_eq_true_eq, decide_eq_false_iff_not, beq_iff_eq, bne_iff_ne, beq_eq_false_iff_ne, bne_eq_false_iff_eq, Bool.or_eq_true, Bool.and_eq_true, Bool.or_eq_false_iff, Bool.and_eq_false_imp, Bool.not_eq_true, Bool.not_eq_false, Bool.not_true, Bool.not_false, Bool.not_eq_true', Bool.not_eq_false', Bool.or_false, Bool.false_or, Bool.or_true, Bool.true_or, Bool.and_true, Bool.true_and, reduceCtorEq] at ht) <;> (try contradiction)))
          | ((with_reducible refine guardSplit (fun hg => ?_) (fun hg => ?_)) <;> (try simp only [Bool.not_true, Bool.not_false] at hg) <;> (have hc := hg) <;> simp -implicitDefEqProofs only [go_sem, hg, e, hm] <;> (try simp only [decide_eq_true_eq, decide_eq_false_iff_not, beq_iff_eq, bne_iff_ne, beq_eq_false_iff_ne, bne_eq_false_iff_eq, Bool.or_eq_true, Bool.and_eq_true, Bool.or_eq_false_iff, Bool.and_eq_false_imp, Bool.not_eq_true, Bool.not_eq_false, Bool.not_true, Bool.not_false, Bool.not_eq_true', Bool.not_eq_false', Bool.or_false, Bool.false_or, Bool.or_true, Bool.true_or, Bool.and_true, Bool.true_and, reduceCtorEq] at hc) <;> (try contradiction)))
        all_goals try omega
        any_goals solve | exact ⟨rfl, trivial⟩ | simp [szAt, A.sz]
        all_goals exact ⟨⟨3, by simp⟩, Weak.of [(0, 0)] (by rfl) (by simp -implicitDefEqProofs only [go_sem]; rfl) (by simp -implicitDefEqProofs only [go_sem]), by decide⟩
      · obtain ⟨B, hBl, henc, hde, hal⟩ := single_FS ⟨no, 2, 0, [v % 256, 2, 3]⟩ (by unfold wrongP; simp; omega) (by dsimp only; omega) (by simp) (by simp; omega)
        simp only [fT, fO, hb3] at henc hde hal
        repeat' (first
          | apply_assumption -exfalso -symm (transparency := .reducible) only [*]
          | (refine ⟨_, _, henc, ?_⟩ <;> (try simp -implicitDefEqProofs only [go_sem, e, byte_mod]))
          | (refine ⟨_, _, hde, ?_⟩ <;> (try simp -implicitDefEqProofs only [go_sem, e, byte_mod]))
          | (refine ⟨_, _, hal, ?_⟩ <;> (try simp -implicitDefEqProofs only [go_sem, e, byte_mod]))
          | (with_reducible refine And.intro ?_ ?_)
          | (refine drawOf ?_; kernel_rfl)
          | ((with_reducible refine SW.id ?_); first | with_reducible refine SW.seqK fun K hK => ?_ | with_reducible refine SW.block ?_ | with_reducible refine SW.scope ?_ | ((first | with_reducible refine SW.skip ?_ | with_reducible refine SW.exit ?_ | with_reducible refine SW.label ?_ | with_reducible refine SW.ret ?_ | with_reducible refine SW.go MM ?_ | refine SW.goDrawF MM (by rfl) (by kernel_rfl) ?_); simp -implicitDefEqProofs only [go_sem, e, byte_mod]) | (refine SW.cond (by simp -implicitDefEqProofs only [go_sem, e, byte_mod]; rfl) (fun ht => ?_) (fun ht => ?_) <;> (try simp only [decide_eq_true_eq, decide_eq_false_iff_not, beq_iff_eq, bne_iff_ne, beq_eq_false_iff_ne, bne_eq_false_iff_eq, Bool.or_eq_true, Bool.and_eq_true, Bool.or_eq_false_iff, Bool.and_eq_false_imp, Bool.not_eq_true, Bool.not_eq_false, Bool.not_true, Bool.not_false, Bool.not_eq_true', Bool.not_eq_false', Bool.or_false, Bool.false_or, Bool.or_true, Bool.true_or, Bool.and_true, Bool.true_and, reduceCtorEq] at ht) <;> (try contradiction)))
          | ((with_reducible refine guardSplit (fun hg => ?_) (fun hg => ?_)) <;> (try simp only [Bool.not_true, Bool.not_false] at hg) <;> (have hc := hg) <;> simp -implicitDefEqProofs only [go_sem, hg, e, byte_mod] <;> (try simp only [decide_eq_true_eq, decide_eq_false_iff_not, beq_iff_eq, bne_iff_ne, beq_eq_false_iff_ne, bne_eq_false_iff_eq, Bool.or_eq_true, Bool.and_eq_true, Bool.or_eq_false_iff, Bool.and_eq_false_imp, Bool.not_eq_true, Bool.not_eq_false, Bool.not_true, Bool.not_false, Bool.not_eq_true', Bool.not_eq_false', Bool.or_false, Bool.false_or, Bool.or_true, Bool.true_or, Bool.and_true, Bool.true_and, reduceCtorEq] at hc) <;> (try contradiction)))
        all_goals try omega
        any_goals solve | exact ⟨rfl, trivial⟩ | simp [szAt, A.sz]
        all_goals exact ⟨⟨4, by simp⟩, Weak.of [(0, 0)] (by rfl) (by simp -implicitDefEqProofs only [go_sem]; rfl) (by simp -implicitDefEqProofs only [go_sem]), by decide⟩
      · repeat' (first
          | apply_assumption -exfalso -symm (transparency := .reducible) only [*]
          | (with_reducible refine And.intro ?_ ?_)
          | (refine drawOf ?_; kernel_rfl)
          | ((with_reducible refine SW.id ?_); first | with_reducible refine SW.seqK fun K hK => ?_ | with_reducible refine SW.block ?_ | with_reducible refine SW.scope ?_ | ((first | with_reducible refine SW.skip ?_ | with_reducible refine SW.exit ?_ | with_reducible refine SW.label ?_ | with_reducible refine SW.ret ?_ | with_reducible refine SW.go MM ?_ | refine SW.goDrawF MM (by rfl) (by kernel_rfl) ?_); simp -implicitDefEqProofs only [go_sem]) | (refine SW.cond (by simp -implicitDefEqProofs only [go_sem]; rfl) (fun ht => ?_) (fun ht => ?_) <;> (try simp only [decide_eq_true_eq, decide_eq_false_iff_not, beq_iff_eq, bne_iff_ne, beq_eq_false_iff_ne, bne_eq_false_iff_eq, Bool.or_eq_true, Bool.and_eq_true, Bool.or_eq_false_iff, Bool.and_eq_false_imp, Bool.not_eq_true, Bool.not_eq_false, Bool.not_true, Bool.not_false, Bool.not_eq_true', Bool.not_eq_false', Bool.or_false, Bool.false_or, Bool.or_true, Bool.true_or, Bool.and_true, Bool.true_and, reduceCtorEq] at ht) <;> (try contradiction)))
          | ((with_reducible refine guardSplit (fun hg => ?_) (fun hg => ?_)) <;> (try simp only [Bool.not_true, Bool.not_false] at hg) <;> (have hc := hg) <;> simp -implicitDefEqProofs only [go_sem, hg] <;> (try simp only [decide_eq_true_eq, decide_eq_false_iff_not, beq_iff_eq, bne_iff_ne, beq_eq_false_iff_ne, bne_eq_false_iff_eq, Bool.or_eq_true, Bool.and_eq_true, Bool.or_eq_false_iff, Bool.and_eq_false_imp, Bool.not_eq_true, Bool.not_eq_false, Bool.not_true, Bool.not_false, Bool.not_eq_true', Bool.not_eq_false', Bool.or_false, Bool.false_or, Bool.or_true, Bool.true_or, Bool.and_true, Bool.true_and, reduceCtorEq] at hc) <;> (try contradiction)))

theorem messages_law {H : Type} (ds : List (DataW H)) (xs : List A) (h : DAs [.slice TFld, .int .i64, .int .u64] ds xs) (hk : dBulks ds ≤ 1048576) : ∃ back, FS Try.prog 12 xs (.ret [.v (.bool true)] back) := by
  obtain ⟨d0, ds, a0, xs, rfl, rfl, h0, h⟩ := h.cons_inv
  obtain ⟨d1, ds, a1, xs, rfl, rfl, h1, h⟩ := h.cons_inv
  obtain ⟨d2, ds, a2, xs, rfl, rfl, h2, h⟩ := h.cons_inv
  obtain ⟨rfl, rfl⟩ := h.nil_inv
  obtain ⟨l, rfl, hb, h8⟩ := h0.flds_inv
  obtain ⟨no, rfl, rfl, n1, n2⟩ := h1.int_inv
  obtain ⟨v, rfl, hv, _⟩ := h2.nat_inv rfl
  have hmax : IntKind.max .u64 = 18446744073709551615 := rfl
  simp only [dBulks] at hk
  have g1 := sum_len (f := fun f : Fld => f.data.length + 1) (l := l) (by simp)
  exact ⟨_, messages_FS l no v (by omega) (fun x hx => by
    have := sum_mem (f := fun f : Fld => f.data.length + 1) hx
    omega) (fun x hx => (h8 x hx).1) (fun x hx => (h8 x hx).2.1) (by omega)⟩
end Go.PA
