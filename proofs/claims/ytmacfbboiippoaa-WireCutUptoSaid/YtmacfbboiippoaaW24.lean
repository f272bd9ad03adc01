/- WireCut. -/
import Derived.Test.YtmacfbboiippoaaW23
namespace Go.PA
open Go.Proofs
set_option linter.unusedSimpArgs false
set_option linter.unusedVariables false
set_option maxRecDepth 100000
set_option maxHeartbeats 4000000
attribute [local go_sem] MM getP setP takesW
attribute [-go_sem] takeA

def lastOf : Int → List Fld → Int
  | last, [] => last
  | _, f :: l => lastOf f.no l

theorem chk_app : ∀ (a b : List Fld) (last : Int), chk last (a ++ b) = 0 → chk last a = 0 ∧ chk (lastOf last a) b = 0
  | [], b, last, h => ⟨rfl, h⟩
  | f :: a, b, last, h => by
    simp only [List.cons_append, chk] at h ⊢
    split at h
    · exact absurd h (by assumption)
    · rename_i h1
      rw [if_neg h1]
      exact chk_app a b f.no h

theorem msgB_app (a b : List Fld) : msgB (a ++ b) = msgB a ++ msgB b := by simp [msgB]

theorem walkP_pre : ∀ (l : List Fld) (pre post : List Nat) (k count : Nat) (last : Int), chk last l = 0 → count + l.length ≤ 64 → (∀ f ∈ l, f.num < 2 ^ 64 ∧ f.data.length < 2 ^ 40) →
    walkP (pre ++ (msgB l ++ post)) (k + l.length) pre.length count last =
      (l ++ (walkP (pre ++ (msgB l ++ post)) k (pre.length + (msgB l).length) (count + l.length) (lastOf last l)).1, (walkP (pre ++ (msgB l ++ post)) k (pre.length + (msgB l).length) (count + l.length) (lastOf last l)).2)
  | [], pre, post, k, count, last, h, hc, hx => by simp [msgB, lastOf]
  | f :: l, pre, post, k, count, last, h, hc, hx => by
    simp only [chk] at h
    split at h
    · exact absurd h (by assumption)
    · rename_i h1
      have h1 : wrongP f last = 0 := by omega
      simp only [List.length_cons] at hc
      have e : msgB (f :: l) ++ post = fieldB f ++ (msgB l ++ post) := by
        have : msgB (f :: l) = fieldB f ++ msgB l := rfl
        rw [this, List.append_assoc]
      have e2 : (msgB (f :: l)).length = (fieldB f).length + (msgB l).length := by
        have : msgB (f :: l) = fieldB f ++ msgB l := rfl
        rw [this, List.length_append]
      rw [e, e2, List.length_cons, ← Nat.add_assoc, walkP_step pre _ f (k + l.length) count last h1 (by omega) (hx f (by simp)).1 (hx f (by simp)).2]
      have ih := walkP_pre l (pre ++ fieldB f) post k (count + 1) f.no h (by omega) fun g hg => hx g (by simp [hg])
      rw [List.append_assoc, List.length_append] at ih
      rw [ih]
      simp only [lastOf, List.cons_append, Nat.add_assoc, Nat.add_comm 1]

theorem encP_take {l : List Fld} (h : (encP l).2 = 0) (i : Nat) : encP (l.take i) = (msgB (l.take i), 0) ∧ chk 0 (l.take i) = 0 ∧ (msgB (l.take i)).length ≤ (msgB l).length := by
  have hl : (msgB (l.take i)).length ≤ (msgB l).length := by
    conv => rhs; rw [← List.take_append_drop i l, msgB_app, List.length_append]
    omega
  unfold encP at h
  split at h
  · simp at h
  · split at h
    · dsimp only at h; omega
    · split at h
      · simp at h
      · split at h
        · simp at h
        · rename_i h1 h2 h3 h4
          have hc : chk 0 l = 0 := by omega
          rw [← List.take_append_drop i l] at hc
          have hc := (chk_app _ _ _ hc).1
          have hs := sumD_take_le l i
          refine ⟨?_, hc, hl⟩
          unfold encP
          rw [if_neg (by simp; omega), if_neg (by omega), if_neg (by omega), if_neg (by omega)]

/-- A message cut within a field. -/
theorem dec_cut {l : List Fld} (h : (encP l).2 = 0) (hx : ∀ f ∈ l, f.num < 2 ^ 64 ∧ f.data.length < 2 ^ 40) {i k : Nat} (hi : i < l.length) (h1 : (msgB (l.take i)).length < k) (h2 : k < (msgB (l.take (i + 1))).length) :
    decD ((msgB l).take k) = ([], if k < (msgB (l.take i)).length + (enc 9 (headN (l.getD i default))).length then (msgB (l.take i)).length else (msgB (l.take i)).length + (enc 9 (headN (l.getD i default))).length, 73) := by
  obtain ⟨g1, g2, g3, g4⟩ := encP_zero h
  have hsn := msgB_snoc hi
  have hge := msgB_ge (l.take i)
  rw [List.length_take] at hge
  have h7 := (encP_take h (i + 1)).2.2
  rw [hsn, List.length_append] at h2 h7
  obtain ⟨f, hf⟩ : ∃ f, l.getD i default = f := ⟨_, rfl⟩
  have hfm : f ∈ l := by
    rw [← hf, List.getD_eq_getElem?_getD, List.getElem?_eq_getElem hi]
    exact List.getElem_mem hi
  rw [hf] at hsn h2 h7 ⊢
  have hl : l = l.take i ++ f :: l.drop (i + 1) := by
    conv => lhs; rw [← List.take_append_drop i l, drop_fld hi, hf]
  have hc : chk 0 (l.take i) = 0 ∧ wrongP f (lastOf 0 (l.take i)) = 0 := by
    rw [hl] at g2
    obtain ⟨c1, c2⟩ := chk_app _ _ _ g2
    refine ⟨by simpa using c1, ?_⟩
    simp only [chk] at c2
    split at c2
    · exact absurd c2 (by assumption)
    · rename_i h5
      have : lastOf 0 ((l.take i)) = lastOf 0 (l.take i) := rfl
      simpa using h5
  have hb : (msgB l).take k = msgB (l.take i) ++ (fieldB f).take (k - (msgB (l.take i)).length) := by
    have e : msgB l = msgB (l.take i) ++ (fieldB f ++ msgB (l.drop (i + 1))) := by
      conv => lhs; rw [hl, msgB_app]
      rfl
    rw [e, List.take_append, List.take_of_length_le (by omega), List.take_append_of_le_length (by omega)]
  have hw := walkP_pre (l.take i) [] ((fieldB f).take (k - (msgB (l.take i)).length)) (((msgB l).take k).length + 1 - (l.take i).length) 0 0 hc.1 (by simp; omega) fun g hg => hx g (List.mem_of_mem_take hg)
  have hlen : ((msgB l).take k).length = k := by
    rw [hb, List.length_append, List.length_take]
    omega
  have hil : (l.take i).length = i := by rw [List.length_take]; omega
  obtain ⟨m, hm⟩ : ∃ m, ((msgB l).take k).length + 1 - (l.take i).length = m + 1 := ⟨k - i, by omega⟩
  rw [hm] at hw
  simp only [List.nil_append, List.length_nil, Nat.zero_add] at hw
  rw [walkP_cut (msgB (l.take i)) f m (l.take i).length (k - (msgB (l.take i)).length) (lastOf 0 (l.take i)) hc.2 (by omega) (hx f hfm).1 (hx f hfm).2 (by omega) (by omega), ← hb] at hw
  have hwd : walkD ((msgB l).take k) = (l.take i, if k - (msgB (l.take i)).length < (enc 9 (headN f)).length then (msgB (l.take i)).length else (msgB (l.take i)).length + (enc 9 (headN f)).length, 73) := by
    unfold walkD
    rw [if_neg (by omega), show ((msgB l).take k).length + 1 = m + 1 + (l.take i).length by omega, hw, List.append_nil]
  unfold decD
  rw [hwd]
  simp only [ne_eq, Nat.reduceEqDiff, not_false_eq_true, if_true, Prod.mk.injEq, and_true, true_and]
  by_cases h6 : k < (msgB (l.take i)).length + (enc 9 (headN f)).length
  · rw [if_pos h6, if_pos (by omega)]
  · rw [if_neg h6, if_neg (by omega)]

theorem valid_at {l : List Fld} (h : (encP l).2 = 0) {i : Nat} (hi : i < l.length) : ∃ last, wrongP (l.getD i default) last = 0 := by
  obtain ⟨g1, g2, g3, g4⟩ := encP_zero h
  have hl : l = l.take i ++ l.getD i default :: l.drop (i + 1) := by
    conv => lhs; rw [← List.take_append_drop i l, drop_fld hi]
  rw [hl] at g2
  obtain ⟨c1, c2⟩ := chk_app _ _ _ g2
  refine ⟨lastOf 0 (l.take i), ?_⟩
  simp only [chk] at c2
  split at c2
  · exact absurd c2 (by assumption)
  · rename_i h5
    simpa using h5

theorem cut_FS (l : List Fld) (k : Int) (hl : l.length < 2 ^ 30) (hx : ∀ f ∈ l, f.data.length < 2 ^ 38) (hn : ∀ f ∈ l, f.num < 2 ^ 64) (hd : ∀ f ∈ l, ∀ x ∈ f.data, x < 256) :
    FS Try.prog 13 [.sl true (l.map (fT true)), .v (.int .i64 k)] (.ret [.v (.bool true)] [none, none]) := by
  refine FS_of_SW (kb := [false, false]) Try.func13 rfl rfl (by rfl) ?_
  refine SW.weak (Weak.of [] (sls := [(0, .sl true (l.map (fT true))), (1, .v (.int .i64 k))]) (bks := []) (ep := 64) (by rfl) ⟨rfl, rfl, trivial⟩ trivial) ?_
  have h1 := encode_FS true true l (by omega) hx hn
  have hlen := encP_len l
  have hone : FS Try.prog 31 [.sl false [.agg [.v (.int .i64 1), .v (.int .i64 0), .v (.int .u64 150), .sl false []]]] (.ret [.osl 1 (bA [8, 150, 1]), .v (.int .i64 0)] [none]) :=
    encode_FS false false [⟨1, 0, 150, []⟩] (by decide) (by decide) (by decide)
  have e : ∀ x : Int, (x != x) = false := fun x => by simp
  have hxx : ∀ f ∈ l, f.num < 2 ^ 64 ∧ f.data.length < 2 ^ 40 := fun f hf => ⟨hn f hf, by have := hx f hf; omega⟩
  by_cases he : (encP l).2 = 0
  · obtain ⟨g1, g2, g3, g4⟩ := encP_zero he
    rw [g1] at h1 hlen
    have h1 : FS Try.prog 31 [.sl true (l.map (fT true))] (.ret [.osl 1 (bA (msgB l)), .v (.int .i64 0)] [none]) := h1
    repeat' (first
      | apply_assumption -exfalso -symm (transparency := .reducible) only [*]
      | with_reducible refine SW.stopR 7 ?_
      | (refine ⟨_, _, h1, ?_⟩ <;> (try simp -implicitDefEqProofs only [go_sem, e]))
      | (refine ⟨_, _, hone, ?_⟩ <;> (try simp -implicitDefEqProofs only [go_sem, e]))
      | (with_reducible refine And.intro ?_ ?_)
      | (refine drawOf ?_; kernel_rfl)
      | ((with_reducible refine SW.id ?_); first | with_reducible refine SW.seqK fun K hK => ?_ | with_reducible refine SW.block ?_ | with_reducible refine SW.scope ?_ | ((first | with_reducible refine SW.skip ?_ | with_reducible refine SW.exit ?_ | with_reducible refine SW.label ?_ | with_reducible refine SW.ret ?_ | with_reducible refine SW.go MM ?_ | refine SW.goDrawF MM (by rfl) (by kernel_rfl) ?_); simp -implicitDefEqProofs only [go_sem, e]) | (refine SW.cond (by simp -implicitDefEqProofs only [go_sem, e]; rfl) (fun ht => ?_) (fun ht => ?_) <;> (try simp only [decide_eq_true_eq, decide_eq_false_iff_not, beq_iff_eq, bne_iff_ne, beq_eq_false_iff_ne, bne_eq_false_iff_eq, Bool.or_eq_true, Bool.and_eq_true, Bool.or_eq_false_iff, Bool.and_eq_false_imp, Bool.not_eq_true, Bool.not_eq_false, Bool.not_true, Bool.not_false, Bool.not_eq_true', Bool.not_eq_false', Bool.or_false, Bool.false_or, Bool.or_true, Bool.true_or, Bool.and_true, Bool.true_and, reduceCtorEq] at ht) <;> (try contradiction)))
      | ((with_reducible refine guardSplit (fun hg => ?_) (fun hg => ?_)) <;> (try simp only [Bool.not_true, Bool.not_false] at hg) <;> (have hc := hg) <;> simp -implicitDefEqProofs only [go_sem, hg, e] <;> (try simp only [decide_eq_true_eq, decide_eq_false_iff_not, beq_iff_eq, bne_iff_ne, beq_eq_false_iff_ne, bne_eq_false_iff_eq, Bool.or_eq_true, Bool.and_eq_true, Bool.or_eq_false_iff, Bool.and_eq_false_imp, Bool.not_eq_true, Bool.not_eq_false, Bool.not_true, Bool.not_false, Bool.not_eq_true', Bool.not_eq_false', Bool.or_false, Bool.false_or, Bool.or_true, Bool.true_or, Bool.and_true, Bool.true_and, reduceCtorEq] at hc) <;> (try contradiction)))
    all_goals try omega
    obtain ⟨k, rfl⟩ : ∃ n : Nat, k = n := ⟨k.toNat, by omega⟩
    have hkl : k < (msgB l).length := by omega
    refine Stop.go (SW.weak (st' := St.of [(0, .sl true (l.map (fT true))), (1, .v (.int .i64 k)), (5, .ref 0 1 0 (msgB l).length false)] [(0, .row 1 (bA (msgB l)))] 64) (Weak.of [(192, 0)] (by rfl) ?_ ?_) ?_)
    · simp -implicitDefEqProofs only [go_sem]
    · simp -implicitDefEqProofs only [go_sem]
    · repeat' (first
        | apply_assumption -exfalso -symm (transparency := .reducible) only [*]
        | (with_reducible refine And.intro ?_ ?_)
        | (refine drawOf ?_; kernel_rfl)
        | ((with_reducible refine SW.id ?_); first | with_reducible refine SW.seqK fun K hK => ?_ | with_reducible refine SW.block ?_ | with_reducible refine SW.scope ?_ | ((first | with_reducible refine SW.skip ?_ | with_reducible refine SW.exit ?_ | with_reducible refine SW.label ?_ | with_reducible refine SW.ret ?_ | with_reducible refine SW.go MM ?_ | refine SW.goDrawF MM (by rfl) (by kernel_rfl) ?_); simp -implicitDefEqProofs only [go_sem]) | (refine SW.cond (by simp -implicitDefEqProofs only [go_sem]; rfl) (fun ht => ?_) (fun ht => ?_) <;> (try simp only [decide_eq_true_eq, decide_eq_false_iff_not, beq_iff_eq, bne_iff_ne, beq_eq_false_iff_ne, bne_eq_false_iff_eq, Bool.or_eq_true, Bool.and_eq_true, Bool.or_eq_false_iff, Bool.and_eq_false_imp, Bool.not_eq_true, Bool.not_eq_false, Bool.not_true, Bool.not_false, Bool.not_eq_true', Bool.not_eq_false', Bool.or_false, Bool.false_or, Bool.or_true, Bool.true_or, Bool.and_true, Bool.true_and, reduceCtorEq] at ht) <;> (try contradiction)))
        | ((with_reducible refine guardSplit (fun hg => ?_) (fun hg => ?_)) <;> (try simp only [Bool.not_true, Bool.not_false] at hg) <;> (have hc := hg) <;> simp -implicitDefEqProofs only [go_sem, hg] <;> (try simp only [decide_eq_true_eq, decide_eq_false_iff_not, beq_iff_eq, bne_iff_ne, beq_eq_false_iff_ne, bne_eq_false_iff_eq, Bool.or_eq_true, Bool.and_eq_true, Bool.or_eq_false_iff, Bool.and_eq_false_imp, Bool.not_eq_true, Bool.not_eq_false, Bool.not_true, Bool.not_false, Bool.not_eq_true', Bool.not_eq_false', Bool.or_false, Bool.false_or, Bool.or_true, Bool.true_or, Bool.and_true, Bool.true_and, reduceCtorEq] at hc) <;> (try contradiction)))
      refine SW.loop (α := { i : Nat // i ≤ l.length ∧ (msgB (l.take i)).length ≤ k })
        (fun i => St.of [(0, .sl true (l.map (fT true))), (1, .v (.int .i64 k)), (5, .ref 0 1 0 (msgB l).length false), (9, .v (.int .i64 ((msgB (l.take i.1)).length : Nat))), (10, .v (.int .i64 i.1))] [(0, .row 1 (bA (msgB l)))] 64) (fun i => l.length - i.1)
        ⟨0, by omega, by simp [msgB]⟩ (Weak.of [(0, 0)] (by rfl) ?_ ?_) fun ⟨i, hi, hP⟩ => ?_
      · simp -implicitDefEqProofs only [go_sem]
        simp [msgB]
      · simp -implicitDefEqProofs only [go_sem]
      · have h5 := i64_one (a := i) (by omega)
        have hbl : ∀ x ∈ (msgB l).take k, x < 256 := fun x hx => msgB_lt l hd x (List.mem_of_mem_take hx)
        have hdec := decode_FS false ((msgB l).take k) (by rw [List.length_take]; omega) hbl
        obtain ⟨q1, q2, q3⟩ := encP_take he (i + 1)
        obtain ⟨p1, p2, p3⟩ := encP_take he i
        have hen := encode_FS true true (l.take (i + 1)) (by rw [List.length_take]; omega) (fun f hf => hx f (List.mem_of_mem_take hf)) (fun f hf => hn f (List.mem_of_mem_take hf))
        rw [q1] at hen
        have hen : FS Try.prog 31 [.sl true ((l.take (i + 1)).map (fT true))] (.ret [.osl 1 (bA (msgB (l.take (i + 1)))), .v (.int .i64 0)] [none]) := hen
        obtain ⟨P, hPe⟩ : ∃ P, (msgB (l.take i)).length = P := ⟨_, rfl⟩
        by_cases hil : i < l.length
        · have hsn := congrArg List.length (msgB_snoc hil)
          rw [List.length_append] at hsn
          obtain ⟨last, hva⟩ := valid_at he hil
          obtain ⟨w1, w2, w3, w4⟩ := wrongP_zero hva
          by_cases hkP : P < k
          · by_cases hk2 : k < (msgB (l.take (i + 1))).length
            · rw [dec_cut he hxx hil (by omega) hk2] at hdec
              obtain ⟨f, hf⟩ : ∃ f, l.getD i default = f := ⟨_, rfl⟩
              rw [hf] at hdec hsn hva w1 w2 w3 w4
              obtain ⟨e1, e2, e3⟩ := headN_div hva
              have hE := enc_length 9 (headN f)
              have hsz := size_FS (headN f) e3
              have n1 : IntKind.u64.wrap f.no = f.no := by rw [IntKind.wrap_u64]; omega
              have n2 : IntKind.u64.wrap (8 * f.no) = 8 * f.no := by rw [IntKind.wrap_u64]; omega
              have n3 : IntKind.u64.wrap f.ty = f.ty := by rw [IntKind.wrap_u64]; omega
              have n4 : IntKind.u64.wrap (8 * f.no + f.ty) = ((headN f : Nat) : Int) := by rw [IntKind.wrap_u64]; omega
              rw [hPe] at hdec
              have hPn : (msgB (l.take i)).length + (enc 9 (headN f)).length < 2 ^ 63 := by omega
              have n5 := i64_add (a := (msgB (l.take i)).length) (b := (enc 9 (headN f)).length) hPn
              rw [hPe] at n5
              by_cases h6 : k < P + (enc 9 (headN f)).length
              · rw [if_pos h6] at hdec
                have hdec : FS Try.prog 36 [.sl false (bA ((msgB l).take k))] (.ret [.osl 4 [], .v (.int .i64 P), .v (.int .i64 73)] [none]) := hdec
                repeat' (first
                  | apply_assumption -exfalso -symm (transparency := .reducible) only [*]
                  | with_reducible refine SW.stopR 21 ?_
                  | (refine ⟨_, _, hen, ?_⟩ <;> (try simp -implicitDefEqProofs only [go_sem, e, h5, hf, n1, n2, n3, n4, n5, hPe]))
                  | (refine ⟨_, _, hdec, ?_⟩ <;> (try simp -implicitDefEqProofs only [go_sem, e, h5, hf, n1, n2, n3, n4, n5, hPe]))
                  | (refine ⟨_, _, hsz, ?_⟩ <;> (try simp -implicitDefEqProofs only [go_sem, e, h5, hf, n1, n2, n3, n4, n5, hPe]))
                  | (with_reducible refine And.intro ?_ ?_)
                  | (refine drawOf ?_; kernel_rfl)
                  | ((with_reducible refine SW.id ?_); first | with_reducible refine SW.seqK fun K hK => ?_ | with_reducible refine SW.block ?_ | with_reducible refine SW.scope ?_ | ((first | with_reducible refine SW.skip ?_ | with_reducible refine SW.exit ?_ | with_reducible refine SW.label ?_ | with_reducible refine SW.ret ?_ | with_reducible refine SW.go MM ?_ | refine SW.goDrawF MM (by rfl) (by kernel_rfl) ?_); simp -implicitDefEqProofs only [go_sem, e, h5, hf, n1, n2, n3, n4, n5, hPe]) | (refine SW.cond (by simp -implicitDefEqProofs only [go_sem, e, h5, hf, n1, n2, n3, n4, n5, hPe]; rfl) (fun ht => ?_) (fun ht => ?_) <;> (try simp only [decide_eq_true_eq, decide_eq_false_iff_not, beq_iff_eq, bne_iff_ne, beq_eq_false_iff_ne, bne_eq_false_iff_eq, Bool.or_eq_true, Bool.and_eq_true, Bool.or_eq_false_iff, Bool.and_eq_false_imp, Bool.not_eq_true, Bool.not_eq_false, Bool.not_true, Bool.not_false, Bool.not_eq_true', Bool.not_eq_false', Bool.or_false, Bool.false_or, Bool.or_true, Bool.true_or, Bool.and_true, Bool.true_and, reduceCtorEq] at ht) <;> (try contradiction)))
                  | ((with_reducible refine guardSplit (fun hg => ?_) (fun hg => ?_)) <;> (try simp only [Bool.not_true, Bool.not_false] at hg) <;> (have hc := hg) <;> simp -implicitDefEqProofs only [go_sem, hg, e, h5, hf, n1, n2, n3, n4, n5, hPe] <;> (try simp only [decide_eq_true_eq, decide_eq_false_iff_not, beq_iff_eq, bne_iff_ne, beq_eq_false_iff_ne, bne_eq_false_iff_eq, Bool.or_eq_true, Bool.and_eq_true, Bool.or_eq_false_iff, Bool.and_eq_false_imp, Bool.not_eq_true, Bool.not_eq_false, Bool.not_true, Bool.not_false, Bool.not_eq_true', Bool.not_eq_false', Bool.or_false, Bool.false_or, Bool.or_true, Bool.true_or, Bool.and_true, Bool.true_and, reduceCtorEq] at hc) <;> (try contradiction)))
                all_goals try (exfalso; omega)
                all_goals try omega
                all_goals try (simp only [hPe, n5, beq_self_eq_true]; done)
              · rw [if_neg h6] at hdec
                have hdec : FS Try.prog 36 [.sl false (bA ((msgB l).take k))] (.ret [.osl 4 [], .v (.int .i64 (P + (enc 9 (headN f)).length : Nat)), .v (.int .i64 73)] [none]) := hdec
                repeat' (first
                  | apply_assumption -exfalso -symm (transparency := .reducible) only [*]
                  | with_reducible refine SW.stopR 21 ?_
                  | (refine ⟨_, _, hen, ?_⟩ <;> (try simp -implicitDefEqProofs only [go_sem, e, h5, hf, n1, n2, n3, n4, n5, hPe]))
                  | (refine ⟨_, _, hdec, ?_⟩ <;> (try simp -implicitDefEqProofs only [go_sem, e, h5, hf, n1, n2, n3, n4, n5, hPe]))
                  | (refine ⟨_, _, hsz, ?_⟩ <;> (try simp -implicitDefEqProofs only [go_sem, e, h5, hf, n1, n2, n3, n4, n5, hPe]))
                  | (with_reducible refine And.intro ?_ ?_)
                  | (refine drawOf ?_; kernel_rfl)
                  | ((with_reducible refine SW.id ?_); first | with_reducible refine SW.seqK fun K hK => ?_ | with_reducible refine SW.block ?_ | with_reducible refine SW.scope ?_ | ((first | with_reducible refine SW.skip ?_ | with_reducible refine SW.exit ?_ | with_reducible refine SW.label ?_ | with_reducible refine SW.ret ?_ | with_reducible refine SW.go MM ?_ | refine SW.goDrawF MM (by rfl) (by kernel_rfl) ?_); simp -implicitDefEqProofs only [go_sem, e, h5, hf, n1, n2, n3, n4, n5, hPe]) | (refine SW.cond (by simp -implicitDefEqProofs only [go_sem, e, h5, hf, n1, n2, n3, n4, n5, hPe]; rfl) (fun ht => ?_) (fun ht => ?_) <;> (try simp only [decide_eq_true_eq, decide_eq_false_iff_not, beq_iff_eq, bne_iff_ne, beq_eq_false_iff_ne, bne_eq_false_iff_eq, Bool.or_eq_true, Bool.and_eq_true, Bool.or_eq_false_iff, Bool.and_eq_false_imp, Bool.not_eq_true, Bool.not_eq_false, Bool.not_true, Bool.not_false, Bool.not_eq_true', Bool.not_eq_false', Bool.or_false, Bool.false_or, Bool.or_true, Bool.true_or, Bool.and_true, Bool.true_and, reduceCtorEq] at ht) <;> (try contradiction)))
                  | ((with_reducible refine guardSplit (fun hg => ?_) (fun hg => ?_)) <;> (try simp only [Bool.not_true, Bool.not_false] at hg) <;> (have hc := hg) <;> simp -implicitDefEqProofs only [go_sem, hg, e, h5, hf, n1, n2, n3, n4, n5, hPe] <;> (try simp only [decide_eq_true_eq, decide_eq_false_iff_not, beq_iff_eq, bne_iff_ne, beq_eq_false_iff_ne, bne_eq_false_iff_eq, Bool.or_eq_true, Bool.and_eq_true, Bool.or_eq_false_iff, Bool.and_eq_false_imp, Bool.not_eq_true, Bool.not_eq_false, Bool.not_true, Bool.not_false, Bool.not_eq_true', Bool.not_eq_false', Bool.or_false, Bool.false_or, Bool.or_true, Bool.true_or, Bool.and_true, Bool.true_and, reduceCtorEq] at hc) <;> (try contradiction)))
                all_goals try (exfalso; omega)
                all_goals try omega
                all_goals try (simp only [hPe, n5, beq_self_eq_true]; done)
            · have hfp : 1 ≤ (fieldB (l.getD i default)).length := by
                have := enc_pos 9 (headN (l.getD i default))
                rw [fieldB_eq, List.length_append]
                omega
              repeat' (first
                | apply_assumption -exfalso -symm (transparency := .reducible) only [*]
                | with_reducible refine SW.stopR 21 ?_
                | (refine ⟨_, _, hen, ?_⟩ <;> (try simp -implicitDefEqProofs only [go_sem, e, h5]))
                | (with_reducible refine And.intro ?_ ?_)
                | (refine drawOf ?_; kernel_rfl)
                | ((with_reducible refine SW.id ?_); first | with_reducible refine SW.seqK fun K hK => ?_ | with_reducible refine SW.block ?_ | with_reducible refine SW.scope ?_ | ((first | with_reducible refine SW.skip ?_ | with_reducible refine SW.exit ?_ | with_reducible refine SW.label ?_ | with_reducible refine SW.ret ?_ | with_reducible refine SW.go MM ?_ | refine SW.goDrawF MM (by rfl) (by kernel_rfl) ?_); simp -implicitDefEqProofs only [go_sem, e, h5]) | (refine SW.cond (by simp -implicitDefEqProofs only [go_sem, e, h5]; rfl) (fun ht => ?_) (fun ht => ?_) <;> (try simp only [decide_eq_true_eq, decide_eq_false_iff_not, beq_iff_eq, bne_iff_ne, beq_eq_false_iff_ne, bne_eq_false_iff_eq, Bool.or_eq_true, Bool.and_eq_true, Bool.or_eq_false_iff, Bool.and_eq_false_imp, Bool.not_eq_true, Bool.not_eq_false, Bool.not_true, Bool.not_false, Bool.not_eq_true', Bool.not_eq_false', Bool.or_false, Bool.false_or, Bool.or_true, Bool.true_or, Bool.and_true, Bool.true_and, reduceCtorEq] at ht) <;> (try contradiction)))
                | ((with_reducible refine guardSplit (fun hg => ?_) (fun hg => ?_)) <;> (try simp only [Bool.not_true, Bool.not_false] at hg) <;> (have hc := hg) <;> simp -implicitDefEqProofs only [go_sem, hg, e, h5] <;> (try simp only [decide_eq_true_eq, decide_eq_false_iff_not, beq_iff_eq, bne_iff_ne, beq_eq_false_iff_ne, bne_eq_false_iff_eq, Bool.or_eq_true, Bool.and_eq_true, Bool.or_eq_false_iff, Bool.and_eq_false_imp, Bool.not_eq_true, Bool.not_eq_false, Bool.not_true, Bool.not_false, Bool.not_eq_true', Bool.not_eq_false', Bool.or_false, Bool.false_or, Bool.or_true, Bool.true_or, Bool.and_true, Bool.true_and, reduceCtorEq] at hc) <;> (try contradiction)))
              all_goals try (exfalso; omega)
              all_goals try omega
              refine ⟨⟨i + 1, by omega, by omega⟩, Weak.of [(0, 0)] (by rfl) ?_ ?_, by dsimp only; omega⟩
              · simp -implicitDefEqProofs only [go_sem, h5]
              · simp -implicitDefEqProofs only [go_sem]
          · have hPk : (msgB (l.take i)).length = k := by omega
            have htk : (msgB l).take k = msgB (l.take i) := by
              conv => lhs; rw [← List.take_append_drop i l, msgB_app]
              rw [← hPk, List.take_left]
            have hde := dec_enc (l := l.take i) (by rw [p1]) fun f hf => hxx f (List.mem_of_mem_take hf)
            rw [p1] at hde
            rw [htk, hde] at hdec
            have hdec : FS Try.prog 36 [.sl false (bA ((msgB l).take k))] (.ret [.osl 4 ((l.take i).map fO), .v (.int .i64 0), .v (.int .i64 0)] [none]) := by rw [htk]; exact hdec
            have hal := alike_FS false false true true (l.take i) (l.take i) (by rw [List.length_take]; omega) (by rw [List.length_take]; omega) (fun f hf => (hxx f (List.mem_of_mem_take hf)).2) (fun f hf => (hxx f (List.mem_of_mem_take hf)).2)
            simp only [decide_true] at hal
            repeat' (first
              | apply_assumption -exfalso -symm (transparency := .reducible) only [*]
              | with_reducible refine SW.stopR 10 ?_
              | (refine ⟨_, _, hdec, ?_⟩ <;> (try simp -implicitDefEqProofs only [go_sem, e, h5]))
              | (refine ⟨_, _, hal, ?_⟩ <;> (try simp -implicitDefEqProofs only [go_sem, e, h5]))
              | (with_reducible refine And.intro ?_ ?_)
              | (refine drawOf ?_; kernel_rfl)
              | ((with_reducible refine SW.id ?_); first | with_reducible refine SW.seqK fun K hK => ?_ | with_reducible refine SW.block ?_ | with_reducible refine SW.scope ?_ | ((first | with_reducible refine SW.skip ?_ | with_reducible refine SW.exit ?_ | with_reducible refine SW.label ?_ | with_reducible refine SW.ret ?_ | with_reducible refine SW.go MM ?_ | refine SW.goDrawF MM (by rfl) (by kernel_rfl) ?_); simp -implicitDefEqProofs only [go_sem, e, h5]) | (refine SW.cond (by simp -implicitDefEqProofs only [go_sem, e, h5]; rfl) (fun ht => ?_) (fun ht => ?_) <;> (try simp only [decide_eq_true_eq, decide_eq_false_iff_not, beq_iff_eq, bne_iff_ne, beq_eq_false_iff_ne, bne_eq_false_iff_eq, Bool.or_eq_true, Bool.and_eq_true, Bool.or_eq_false_iff, Bool.and_eq_false_imp, Bool.not_eq_true, Bool.not_eq_false, Bool.not_true, Bool.not_false, Bool.not_eq_true', Bool.not_eq_false', Bool.or_false, Bool.false_or, Bool.or_true, Bool.true_or, Bool.and_true, Bool.true_and, reduceCtorEq] at ht) <;> (try contradiction)))
              | ((with_reducible refine guardSplit (fun hg => ?_) (fun hg => ?_)) <;> (try simp only [Bool.not_true, Bool.not_false] at hg) <;> (have hc := hg) <;> simp -implicitDefEqProofs only [go_sem, hg, e, h5] <;> (try simp only [decide_eq_true_eq, decide_eq_false_iff_not, beq_iff_eq, bne_iff_ne, beq_eq_false_iff_ne, bne_eq_false_iff_eq, Bool.or_eq_true, Bool.and_eq_true, Bool.or_eq_false_iff, Bool.and_eq_false_imp, Bool.not_eq_true, Bool.not_eq_false, Bool.not_true, Bool.not_false, Bool.not_eq_true', Bool.not_eq_false', Bool.or_false, Bool.false_or, Bool.or_true, Bool.true_or, Bool.and_true, Bool.true_and, reduceCtorEq] at hc) <;> (try contradiction)))
            all_goals try (exfalso; omega)
            all_goals try omega
        · have : l.take i = l := by rw [show i = l.length by omega, List.take_length]
          rw [this] at hP
          omega
  · repeat' (first
      | apply_assumption -exfalso -symm (transparency := .reducible) only [*]
      | (refine ⟨_, _, h1, ?_⟩ <;> (try simp -implicitDefEqProofs only [go_sem]))
      | (refine ⟨_, _, hone, ?_⟩ <;> (try simp -implicitDefEqProofs only [go_sem]))
      | (with_reducible refine And.intro ?_ ?_)
      | (refine drawOf ?_; kernel_rfl)
      | ((with_reducible refine SW.id ?_); first | with_reducible refine SW.seqK fun K hK => ?_ | with_reducible refine SW.block ?_ | with_reducible refine SW.scope ?_ | ((first | with_reducible refine SW.skip ?_ | with_reducible refine SW.exit ?_ | with_reducible refine SW.label ?_ | with_reducible refine SW.ret ?_ | with_reducible refine SW.go MM ?_ | refine SW.goDrawF MM (by rfl) (by kernel_rfl) ?_); simp -implicitDefEqProofs only [go_sem]) | (refine SW.cond (by simp -implicitDefEqProofs only [go_sem]; rfl) (fun ht => ?_) (fun ht => ?_) <;> (try simp only [decide_eq_true_eq, decide_eq_false_iff_not, beq_iff_eq, bne_iff_ne, beq_eq_false_iff_ne, bne_eq_false_iff_eq, Bool.or_eq_true, Bool.and_eq_true, Bool.or_eq_false_iff, Bool.and_eq_false_imp, Bool.not_eq_true, Bool.not_eq_false, Bool.not_true, Bool.not_false, Bool.not_eq_true', Bool.not_eq_false', Bool.or_false, Bool.false_or, Bool.or_true, Bool.true_or, Bool.and_true, Bool.true_and, reduceCtorEq] at ht) <;> (try contradiction)))
      | ((with_reducible refine guardSplit (fun hg => ?_) (fun hg => ?_)) <;> (try simp only [Bool.not_true, Bool.not_false] at hg) <;> (have hc := hg) <;> simp -implicitDefEqProofs only [go_sem, hg] <;> (try simp only [decide_eq_true_eq, decide_eq_false_iff_not, beq_iff_eq, bne_iff_ne, beq_eq_false_iff_ne, bne_eq_false_iff_eq, Bool.or_eq_true, Bool.and_eq_true, Bool.or_eq_false_iff, Bool.and_eq_false_imp, Bool.not_eq_true, Bool.not_eq_false, Bool.not_true, Bool.not_false, Bool.not_eq_true', Bool.not_eq_false', Bool.or_false, Bool.false_or, Bool.or_true, Bool.true_or, Bool.and_true, Bool.true_and, reduceCtorEq] at hc) <;> (try contradiction)))
    all_goals omega

theorem cut_law {H : Type} (ds : List (DataW H)) (xs : List A) (h : DAs [.slice TFld, .int .i64] ds xs) (hk : dBulks ds ≤ 1048576) : ∃ back, FS Try.prog 13 xs (.ret [.v (.bool true)] back) := by
  obtain ⟨d0, ds, a0, xs, rfl, rfl, h0, h⟩ := h.cons_inv
  obtain ⟨d1, ds, a1, xs, rfl, rfl, h1, h⟩ := h.cons_inv
  obtain ⟨rfl, rfl⟩ := h.nil_inv
  obtain ⟨l, rfl, hb, h8⟩ := h0.flds_inv
  obtain ⟨k, rfl, rfl, n1, n2⟩ := h1.int_inv
  simp only [dBulks] at hk
  have g1 := sum_len (f := fun f : Fld => f.data.length + 1) (l := l) (by simp)
  exact ⟨_, cut_FS l k (by omega) (fun x hx => by
    have := sum_mem (f := fun f : Fld => f.data.length + 1) hx
    omega) (fun x hx => (h8 x hx).1) (fun x hx => (h8 x hx).2.1)⟩
end Go.PA
