/- WireLists: lists of items joined are split again, one behind the other too. -/
import Derived.Test.YtmacfbboiippoaaW29
import Derived.Test.YtmacfbboiippoaaW14
import Derived.Test.YtmacfbboiippoaaW23
namespace Go.PA
open Go.Proofs
set_option linter.unusedSimpArgs false
set_option linter.unusedVariables false
set_option maxRecDepth 100000
set_option maxHeartbeats 4000000
attribute [local go_sem] MM
attribute [-go_sem] takeA

theorem piecesP_join : ∀ (l : List (List Nat)) (pre : List Nat) (k count at' : Nat), count + l.length ≤ 4096 → l.length < k → (∀ x ∈ l, x.length < 2 ^ 38) →
    (piecesP (pre ++ joinB l) k pre.length count at').1 = l ∧ (piecesP (pre ++ joinB l) k pre.length count at').2.2 = 0
  | [], pre, k, count, at', hc, hk, hx => by
    obtain ⟨k, rfl⟩ : ∃ k', k = k' + 1 := ⟨k - 1, by simp at hk; omega⟩
    rw [piecesP, if_neg (by simp [joinB])]
    exact ⟨rfl, rfl⟩
  | x :: l, pre, k, count, at', hc, hk, hx => by
    obtain ⟨k, rfl⟩ : ∃ k', k = k' + 1 := ⟨k - 1, by simp at hk; omega⟩
    simp only [List.length_cons] at hc hk
    have hxl := hx x (by simp)
    have he := enc_pos 9 x.length
    have hb : pre ++ joinB (x :: l) = pre ++ (enc 9 x.length ++ (x ++ joinB l)) := by simp [joinB, itemB]
    have hn : numP (pre ++ joinB (x :: l)) (pre.length : Int) = (x.length, pre.length + (enc 9 x.length).length, 0) := by rw [hb]; exact numP_put pre x.length (by omega) _
    have hlen : (pre ++ joinB (x :: l)).length = pre.length + (enc 9 x.length).length + x.length + (joinB l).length := by rw [hb]; simp only [List.length_append]; omega
    have ih := piecesP_join l (pre ++ itemB x) k (count + 1) pre.length (by omega) (by omega) (fun y hy => hx y (by simp [hy]))
    have hb2 : pre ++ itemB x ++ joinB l = pre ++ joinB (x :: l) := by simp [joinB]
    have hp2 : (pre ++ itemB x).length = pre.length + (enc 9 x.length).length + x.length := by rw [List.length_append, itemB_len]; omega
    rw [hb2, hp2] at ih
    have hd : ((pre ++ joinB (x :: l)).drop (pre.length + (enc 9 x.length).length)).take x.length = x := by
      rw [hb, ← List.append_assoc, ← List.length_append, List.drop_left, List.take_left]
    rw [piecesP, if_pos (by omega), hn]
    dsimp only
    rw [if_neg (by omega), if_neg (by simp), if_neg (by omega), hd]
    exact ⟨by rw [ih.1], ih.2⟩

theorem joinB_app (a b : List (List Nat)) : joinB (a ++ b) = joinB a ++ joinB b := by simp [joinB]
theorem joinB_len (l : List (List Nat)) : l.length ≤ (joinB l).length := by
  induction l with
  | nil => simp
  | cons x l ih =>
    have := enc_pos 9 x.length
    have h : joinB (x :: l) = itemB x ++ joinB l := by simp [joinB]
    rw [h, List.length_append, itemB_len, List.length_cons]
    omega
theorem splitD_join (l : List (List Nat)) (hl : l.length ≤ 4096) (hj : (joinB l).length ≤ 4194304) (hx : ∀ x ∈ l, x.length < 2 ^ 38) : splitD (joinB l) = (l, 0, 0) := by
  have h := piecesP_join l [] ((joinB l).length + 1) 0 0 (by omega) (by have := joinB_len l; omega) hx
  have h1 : (piecesD (joinB l)).1 = l ∧ (piecesD (joinB l)).2.2 = 0 := h
  rw [splitD, if_neg (by omega), if_neg (by rw [h1.2]; simp), h1.1]
theorem joinB_256 (l : List (List Nat)) (hx : ∀ x ∈ l, ∀ y ∈ x, y < 256) : ∀ y ∈ joinB l, y < 256 := by
  intro y hy
  simp only [joinB, List.mem_flatMap, itemB, List.mem_append] at hy
  obtain ⟨x, hxl, h | h⟩ := hy
  · exact enc_lt _ _ _ h
  · exact hx x hxl y h
theorem joinP_zero {l : List (List Nat)} (h : (joinP l).2 = 0) : joinP l = (joinB l, 0) ∧ l.length ≤ 4096 ∧ (joinB l).length ≤ 4194304 := by
  unfold joinP at h ⊢
  split at h
  · simp at h
  · split at h
    · simp at h
    · rename_i h1 h2
      rw [if_neg h1, if_neg h2]
      exact ⟨rfl, by omega, by omega⟩

theorem join_01 : FS Try.prog 25 [.sl false [.sl false [], .sl false [.v (.int .u8 1)]]] (.ret [.osl 1 (bA [0, 1, 1]), .v (.int .i64 0)] [none]) := join_FS false false [[], [1]] (by decide) (by decide)
theorem same_011 : FS Try.prog 18 [.sl false (bA [0, 1, 1]), .sl false [.v (.int .u8 0), .v (.int .u8 1), .v (.int .u8 1)]] (.ret [.v (.bool true)] [none, none]) := same_self false false [0, 1, 1] (by decide)

theorem lists_FS (a b : List (List Nat)) (ha : a.length < 2 ^ 30) (hb : b.length < 2 ^ 30) (hx : ∀ x ∈ a, x.length < 2 ^ 38) (hy : ∀ x ∈ b, x.length < 2 ^ 38) (hx8 : ∀ x ∈ a, ∀ y ∈ x, y < 256) (hy8 : ∀ x ∈ b, ∀ y ∈ x, y < 256) :
    FS Try.prog 9 [.sl true (a.map (iT true)), .sl true (b.map (iT true))] (.ret [.v (.bool true)] [none, none]) := by
  refine FS_of_SW (kb := [false, false]) Try.func9 rfl rfl (by rfl) ?_
  refine SW.weak (Weak.of [] (sls := [(0, .sl true (a.map (iT true))), (1, .sl true (b.map (iT true)))]) (bks := []) (ep := 64) (by rfl) ⟨rfl, rfl, trivial⟩ trivial) ?_
  have h1 := join_FS true true a (by omega) hx
  have h2 := join_FS true true b (by omega) hy
  have e : ∀ x : Int, (x == x) = true := fun x => by simp
  have e2 : ∀ x : Int, (x != x) = false := fun x => by simp
  obtain ⟨ja, hja⟩ : ∃ j, joinP a = j := ⟨_, rfl⟩
  obtain ⟨jb, hjb⟩ : ∃ j, joinP b = j := ⟨_, rfl⟩
  rw [hja] at h1
  rw [hjb] at h2
  repeat' (first
    | apply_assumption -exfalso -symm (transparency := .reducible) only [*]
    | with_reducible refine SW.stopR 8 ?_
    | (refine ⟨_, _, h1, ?_⟩ <;> (try simp -implicitDefEqProofs only [go_sem, e, e2]))
    | (refine ⟨_, _, h2, ?_⟩ <;> (try simp -implicitDefEqProofs only [go_sem, e, e2]))
    | (refine ⟨_, _, join_01, ?_⟩ <;> (try simp -implicitDefEqProofs only [go_sem, e, e2]))
    | (refine ⟨_, _, same_011, ?_⟩ <;> (try simp -implicitDefEqProofs only [go_sem, e, e2]))
    | (with_reducible refine And.intro ?_ ?_)
    | (refine drawOf ?_; kernel_rfl)
    | ((with_reducible refine opsF_id ?_); simp -implicitDefEqProofs only [go_sem, e, e2])
    | ((with_reducible refine SW.id ?_); first | with_reducible refine SW.seqK fun K hK => ?_ | with_reducible refine SW.block ?_ | with_reducible refine SW.scope ?_ | ((first | with_reducible refine SW.skip ?_ | with_reducible refine SW.exit ?_ | with_reducible refine SW.label ?_ | with_reducible refine SW.ret ?_ | with_reducible refine SW.go MM ?_ | refine SW.goDrawF MM (by rfl) (by kernel_rfl) ?_); simp -implicitDefEqProofs only [go_sem, e, e2]) | (refine SW.cond (by simp -implicitDefEqProofs only [go_sem, e, e2]; rfl) (fun ht => ?_) (fun ht => ?_) <;> (try simp only [decide_eq_true_eq, decide_eq_false_iff_not, beq_iff_eq, bne_iff_ne, beq_eq_false_iff_ne, bne_eq_false_iff_eq, Bool.or_eq_true, Bool.and_eq_true, Bool.or_eq_false_iff, Bool.and_eq_false_imp, Bool.not_eq_true, Bool.not_eq_false, Bool.not_true, Bool.not_false, Bool.not_eq_true', Bool.not_eq_false', Bool.or_false, Bool.false_or, Bool.or_true, Bool.true_or, Bool.and_true, Bool.true_and, reduceCtorEq] at ht) <;> (try contradiction)))
    | ((with_reducible refine guardSplit (fun hg => ?_) (fun hg => ?_)) <;> (try simp only [Bool.not_true, Bool.not_false] at hg) <;> (have hc := hg) <;> simp -implicitDefEqProofs only [go_sem, hg, e, e2] <;> (try simp only [decide_eq_true_eq, decide_eq_false_iff_not, beq_iff_eq, bne_iff_ne, beq_eq_false_iff_ne, bne_eq_false_iff_eq, Bool.or_eq_true, Bool.and_eq_true, Bool.or_eq_false_iff, Bool.and_eq_false_imp, Bool.not_eq_true, Bool.not_eq_false, Bool.not_true, Bool.not_false, Bool.not_eq_true', Bool.not_eq_false', Bool.or_false, Bool.false_or, Bool.or_true, Bool.true_or, Bool.and_true, Bool.true_and, reduceCtorEq] at hc) <;> (try contradiction)))
  refine Stop.go ?_
  rename_i hza hzb
  obtain ⟨z1, z2, z3⟩ := joinP_zero (l := a) (by rw [hja]; omega)
  obtain ⟨z4, z5, z6⟩ := joinP_zero (l := b) (by rw [hjb]; omega)
  rw [hja] at z1
  rw [hjb] at z4
  subst z1 z4
  have hs1 := split_FS false (joinB a) (by omega) (joinB_256 a hx8)
  rw [splitD_join a z2 z3 hx] at hs1
  have hi1 := items_FS false false true true a a (by omega) (by omega) (fun x h => by have := hx x h; omega) (fun x h => by have := hx x h; omega)
  simp only [decide_true] at hi1
  have h7 := i64_add (a := a.length) (b := b.length) (by omega)
  have h8 := i64_add (a := (joinB a).length) (b := (joinB b).length) (by omega)
  repeat' (first
    | apply_assumption -exfalso -symm (transparency := .reducible) only [*]
    | with_reducible refine SW.stopI 11 ?_
    | (refine ⟨_, _, hs1, ?_⟩ <;> (try simp -implicitDefEqProofs only [go_sem, e, e2]))
    | (refine ⟨_, _, hi1, ?_⟩ <;> (try simp -implicitDefEqProofs only [go_sem, e, e2]))
    | (with_reducible refine And.intro ?_ ?_)
    | (refine drawOf ?_; kernel_rfl)
    | ((with_reducible refine opsF_id ?_); simp -implicitDefEqProofs only [go_sem, e, e2])
    | ((with_reducible refine SW.id ?_); first | with_reducible refine SW.seqK fun K hK => ?_ | with_reducible refine SW.block ?_ | with_reducible refine SW.scope ?_ | ((first | with_reducible refine SW.skip ?_ | with_reducible refine SW.exit ?_ | with_reducible refine SW.label ?_ | with_reducible refine SW.ret ?_ | with_reducible refine SW.go MM ?_ | refine SW.goDrawF MM (by rfl) (by kernel_rfl) ?_); simp -implicitDefEqProofs only [go_sem, e, e2]) | (refine SW.cond (by simp -implicitDefEqProofs only [go_sem, e, e2]; rfl) (fun ht => ?_) (fun ht => ?_) <;> (try simp only [decide_eq_true_eq, decide_eq_false_iff_not, beq_iff_eq, bne_iff_ne, beq_eq_false_iff_ne, bne_eq_false_iff_eq, Bool.or_eq_true, Bool.and_eq_true, Bool.or_eq_false_iff, Bool.and_eq_false_imp, Bool.not_eq_true, Bool.not_eq_false, Bool.not_true, Bool.not_false, Bool.not_eq_true', Bool.not_eq_false', Bool.or_false, Bool.false_or, Bool.or_true, Bool.true_or, Bool.and_true, Bool.true_and, reduceCtorEq] at ht) <;> (try contradiction)))
    | ((with_reducible refine guardSplit (fun hg => ?_) (fun hg => ?_)) <;> (try simp only [Bool.not_true, Bool.not_false] at hg) <;> (have hc := hg) <;> simp -implicitDefEqProofs only [go_sem, hg, e, e2] <;> (try simp only [decide_eq_true_eq, decide_eq_false_iff_not, beq_iff_eq, bne_iff_ne, beq_eq_false_iff_ne, bne_eq_false_iff_eq, Bool.or_eq_true, Bool.and_eq_true, Bool.or_eq_false_iff, Bool.and_eq_false_imp, Bool.not_eq_true, Bool.not_eq_false, Bool.not_true, Bool.not_false, Bool.not_eq_true', Bool.not_eq_false', Bool.or_false, Bool.false_or, Bool.or_true, Bool.true_or, Bool.and_true, Bool.true_and, reduceCtorEq] at hc) <;> (try contradiction)))
  refine Stop.go ?_
  refine SW.cutS (γ := PLift (a.length + b.length ≤ 4096 ∧ (joinB a).length + (joinB b).length ≤ 4194304)) (fun _ => St.of [(0, .sl true (a.map (iT true))), (1, .sl true (b.map (iT true))), (5, .ref 0 1 0 (joinB a).length false), (7, .ref 1 1 0 (joinB b).length false)] [(0, .row 1 (bA (joinB a))), (1, .row 1 (bA (joinB b)))] 64) (fun K hK => ?_) fun ⟨c1, c2⟩ => ?_
  · repeat' (first
      | apply_assumption -exfalso -symm (transparency := .reducible) only [*]
      | with_reducible refine SW.stopR 13 ?_
      | (refine ⟨_, _, hs1, ?_⟩ <;> (try simp -implicitDefEqProofs only [go_sem, e, e2, h7, h8]))
      | (refine ⟨_, _, hi1, ?_⟩ <;> (try simp -implicitDefEqProofs only [go_sem, e, e2, h7, h8]))
      | (with_reducible refine And.intro ?_ ?_)
      | (refine drawOf ?_; kernel_rfl)
      | ((with_reducible refine opsF_id ?_); simp -implicitDefEqProofs only [go_sem, e, e2, h7, h8])
      | ((with_reducible refine SW.id ?_); first | with_reducible refine SW.seqK fun K hK => ?_ | with_reducible refine SW.block ?_ | with_reducible refine SW.scope ?_ | ((first | with_reducible refine SW.skip ?_ | with_reducible refine SW.exit ?_ | with_reducible refine SW.label ?_ | with_reducible refine SW.ret ?_ | with_reducible refine SW.go MM ?_ | refine SW.goDrawF MM (by rfl) (by kernel_rfl) ?_); simp -implicitDefEqProofs only [go_sem, e, e2, h7, h8]) | (refine SW.cond (by simp -implicitDefEqProofs only [go_sem, e, e2, h7, h8]; rfl) (fun ht => ?_) (fun ht => ?_) <;> (try simp only [decide_eq_true_eq, decide_eq_false_iff_not, beq_iff_eq, bne_iff_ne, beq_eq_false_iff_ne, bne_eq_false_iff_eq, Bool.or_eq_true, Bool.and_eq_true, Bool.or_eq_false_iff, Bool.and_eq_false_imp, Bool.not_eq_true, Bool.not_eq_false, Bool.not_true, Bool.not_false, Bool.not_eq_true', Bool.not_eq_false', Bool.or_false, Bool.false_or, Bool.or_true, Bool.true_or, Bool.and_true, Bool.true_and, reduceCtorEq] at ht) <;> (try contradiction)))
      | ((with_reducible refine guardSplit (fun hg => ?_) (fun hg => ?_)) <;> (try simp only [Bool.not_true, Bool.not_false] at hg) <;> (have hc := hg) <;> simp -implicitDefEqProofs only [go_sem, hg, e, e2, h7, h8] <;> (try simp only [decide_eq_true_eq, decide_eq_false_iff_not, beq_iff_eq, bne_iff_ne, beq_eq_false_iff_ne, bne_eq_false_iff_eq, Bool.or_eq_true, Bool.and_eq_true, Bool.or_eq_false_iff, Bool.and_eq_false_imp, Bool.not_eq_true, Bool.not_eq_false, Bool.not_true, Bool.not_false, Bool.not_eq_true', Bool.not_eq_false', Bool.or_false, Bool.false_or, Bool.or_true, Bool.true_or, Bool.and_true, Bool.true_and, reduceCtorEq] at hc) <;> (try contradiction)))
    refine ⟨⟨by omega, by omega⟩, Weak.of [(192, 0), (640, 1)] (by rfl) ?_ ?_⟩
    · simp -implicitDefEqProofs only [go_sem]
    · simp -implicitDefEqProofs only [go_sem]
  · have hs2 := split_FS false (joinB (a ++ b)) (by rw [joinB_app, List.length_append]; omega) (by rw [joinB_app]; intro y hy'; rcases List.mem_append.1 hy' with h | h; exact joinB_256 a hx8 y h; exact joinB_256 b hy8 y h)
    rw [splitD_join (a ++ b) (by rw [List.length_append]; omega) (by rw [joinB_app, List.length_append]; omega) (fun x h => by rcases List.mem_append.1 h with h | h; exact hx x h; exact hy x h), joinB_app] at hs2
    have hi2 : FS Try.prog 27 [.sl false ((a ++ b).map (iT false)), .sl false (a.map (iT true) ++ b.map (iT true))] (.ret [.v (.bool true)] [none, none]) := by
      rw [← List.map_append]
      have := items_FS false false false true (a ++ b) (a ++ b) (by rw [List.length_append]; omega) (by rw [List.length_append]; omega) (fun x h => by rcases List.mem_append.1 h with h | h; have := hx x h; omega; have := hy x h; omega) (fun x h => by rcases List.mem_append.1 h with h | h; have := hx x h; omega; have := hy x h; omega)
      simpa only [decide_true] using this
    have hL2 : a.length + b.length = (a.map (iT true) ++ b.map (iT true)).length := by simp
    generalize a ++ b = c at hs2 hi2
    have hL : (joinB a).length + (joinB b).length = (joinB a ++ joinB b).length := List.length_append.symm
    repeat' (first
      | apply_assumption -exfalso -symm (transparency := .reducible) only [*]
      | (refine ⟨_, _, hs2, ?_⟩ <;> (try simp -implicitDefEqProofs only [go_sem, e, e2, hL, hL2]))
      | (refine ⟨_, _, hi2, ?_⟩ <;> (try simp -implicitDefEqProofs only [go_sem, e, e2, hL, hL2]))
      | (with_reducible refine And.intro ?_ ?_)
      | (refine drawOf ?_; kernel_rfl)
      | ((with_reducible refine opsF_id ?_); simp -implicitDefEqProofs only [go_sem, e, e2, hL, hL2])
      | ((with_reducible refine SW.id ?_); first | with_reducible refine SW.seqK fun K hK => ?_ | with_reducible refine SW.block ?_ | with_reducible refine SW.scope ?_ | ((first | with_reducible refine SW.skip ?_ | with_reducible refine SW.exit ?_ | with_reducible refine SW.label ?_ | with_reducible refine SW.ret ?_ | with_reducible refine SW.go MM ?_ | refine SW.goDrawF MM (by rfl) (by kernel_rfl) ?_); simp -implicitDefEqProofs only [go_sem, e, e2, hL, hL2]) | (refine SW.cond (by simp -implicitDefEqProofs only [go_sem, e, e2, hL, hL2]; rfl) (fun ht => ?_) (fun ht => ?_) <;> (try simp only [decide_eq_true_eq, decide_eq_false_iff_not, beq_iff_eq, bne_iff_ne, beq_eq_false_iff_ne, bne_eq_false_iff_eq, Bool.or_eq_true, Bool.and_eq_true, Bool.or_eq_false_iff, Bool.and_eq_false_imp, Bool.not_eq_true, Bool.not_eq_false, Bool.not_true, Bool.not_false, Bool.not_eq_true', Bool.not_eq_false', Bool.or_false, Bool.false_or, Bool.or_true, Bool.true_or, Bool.and_true, Bool.true_and, reduceCtorEq] at ht) <;> (try contradiction)))
      | ((with_reducible refine guardSplit (fun hg => ?_) (fun hg => ?_)) <;> (try simp only [Bool.not_true, Bool.not_false] at hg) <;> (have hc := hg) <;> simp -implicitDefEqProofs only [go_sem, hg, e, e2, hL, hL2] <;> (try simp only [decide_eq_true_eq, decide_eq_false_iff_not, beq_iff_eq, bne_iff_ne, beq_eq_false_iff_ne, bne_eq_false_iff_eq, Bool.or_eq_true, Bool.and_eq_true, Bool.or_eq_false_iff, Bool.and_eq_false_imp, Bool.not_eq_true, Bool.not_eq_false, Bool.not_true, Bool.not_false, Bool.not_eq_true', Bool.not_eq_false', Bool.or_false, Bool.false_or, Bool.or_true, Bool.true_or, Bool.and_true, Bool.true_and, reduceCtorEq] at hc) <;> (try contradiction)))
    all_goals first | exact roomy_of (by omega) (by decide) | skip

theorem lists_law {H : Type} (ds : List (DataW H)) (xs : List A) (h : DAs [.slice (.slice (.int .u8)), .slice (.slice (.int .u8))] ds xs) (hk : dBulks ds ≤ 1048576) : ∃ back, FS Try.prog 9 xs (.ret [.v (.bool true)] back) := by
  obtain ⟨d0, ds, a0, xs, rfl, rfl, h0, h⟩ := h.cons_inv
  obtain ⟨d1, ds, a1, xs, rfl, rfl, h1, h⟩ := h.cons_inv
  obtain ⟨rfl, rfl⟩ := h.nil_inv
  obtain ⟨l, rfl, hb, h8⟩ := h0.items_inv
  obtain ⟨m, rfl, hb2, h9⟩ := h1.items_inv
  simp only [dBulks] at hk
  have g1 := sum_len (f := fun x : List Nat => x.length + 1) (l := l) (by simp)
  have g2 := sum_len (f := fun x : List Nat => x.length + 1) (l := m) (by simp)
  exact ⟨_, lists_FS l m (by omega) (by omega) (fun x hx => by
    have := sum_mem (f := fun x : List Nat => x.length + 1) hx
    omega) (fun x hx => by
    have := sum_mem (f := fun x : List Nat => x.length + 1) hx
    omega) h8 h9⟩
end Go.PA
