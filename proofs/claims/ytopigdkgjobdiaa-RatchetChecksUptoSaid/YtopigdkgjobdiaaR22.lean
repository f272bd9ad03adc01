/- The law RatchetChecks answers true. -/
import Derived.Test.YtopigdkgjobdiaaR21
import Derived.Test.YtopigdkgjobdiaaR19
import Derived.Test.YtopigdkgjobdiaaR18
namespace Go.PA
open Go.Proofs Go.Fe
set_option linter.unusedSimpArgs false
set_option linter.unusedVariables false
set_option maxRecDepth 100000
set_option maxHeartbeats 4000000
attribute [local go_sem] MR2 MR getP setP takesW
attribute [-go_sem] takeA roA A.good A.isAgg

theorem unf_st {k : Nat} {s : StS} {xs : List A} : unf k (stT s (.osl 65 xs)) = some (stT s (.ref k 65 0 xs.length false), [(k, .row 65 xs)], k + 1) := by
  simp only [stT, cfgT, keyT, u32T, i64T, booT, unf, unfs, noowns, A.noown, bA_noowns, Option.map_some, if_true, reduceIte, List.nil_append, List.append_nil, List.cons_append]
theorem RM.bind_assoc' {α β γ : Type} {m : RM α} {f : α → RM β} {g : β → RM γ} : (m.bind f).bind g = m.bind fun x => (f x).bind g := by
  induction m with
  | ret a => rfl
  | fail => rfl
  | rd d k ih => simp only [RM.bind, ih]
  | req p k ih => simp only [RM.bind, ih]
theorem roA_stR {rm : List Nat} {m d z off len : Nat} {full : Bool} {s : StS} : roA rm (m + 3) (stT s (.ref d z off len full)) = if rm.contains d then .fail else .rd d fun b => (roRef rm (m + 1) z off len b).bind fun x => .ret (stT s x) := by
  simp only [stT, cfgT, keyT, u32T, i64T, booT, roA_agg, roA_arr, roA_v, roA_ref, rosW, RM.bind, bA_noowns, if_true]
  split <;> simp only [RM.bind, RM.bind_assoc']
theorem stT_closedR {s : StS} {d z off len : Nat} {full : Bool} : (stT s (.ref d z off len full)).closed = false := by simp only [stT, cfgT, keyT, u32T, i64T, booT, A.closed, closeds, Bool.and_false, Bool.and_true, Bool.true_and]
theorem stT_closedS {s : StS} {p : Bool} {xs : List A} : (stT s (.sl p xs)).closed = true := by simp only [stT, cfgT, keyT, u32T, i64T, booT, A.closed, closeds, Bool.and_true]
theorem ren_st {π : Nat → Option Nat} {s : StS} {d d' z off len : Nat} {full : Bool} (h : π d = some d') : ren π (stT s (.ref d z off len full)) = some (stT s (.ref d' z off len full)) := by
  simp [stT, cfgT, keyT, u32T, i64T, booT, ren, rens, h]
theorem ren_stS {π : Nat → Option Nat} {s : StS} {p : Bool} {xs : List A} : ren π (stT s (.sl p xs)) = some (stT s (.sl p xs)) := by
  simp [stT, cfgT, keyT, u32T, i64T, booT, ren, rens]
attribute [go_sem] stT_closedR stT_closedS ren_stS unf_st roA_stR roA_st
theorem storeT_nobor {m : Int} {l : List Sp} : (storeT m l).nobor = true := by simp [storeT, A.nobor, nobors]
theorem chT_nobor {k : List Nat} {n : Nat} : (chT k n).nobor = true := by simp [chT, keyT, u32T, A.nobor, nobors]
theorem ren_rat {π : Nat → Option Nat} {s : StS} : ren π (ratT s) = some (ratT s) := by
  unfold ratT lineT
  cases s.hasSend <;> cases s.hasRecv <;> simp [cfgT, keyT, u32T, i64T, booT, ren, rens]
theorem tk_rat {bor : Bool} {m : Nat} {s : StS} {rm : List Nat} : takeA bor (m + 5) (ratT s) rm = .ret (ratT s, rm) := by
  unfold ratT lineT
  cases s.hasSend <;> cases s.hasRecv <;> simp only [if_true, Bool.false_eq_true, if_false, cfgT, keyT, u32T, i64T, booT, tkA_agg, tkA_v, tkA_arr, tkA_box, takesW, RM.bind, storeT_nobor, chT_nobor, Bool.true_or]
theorem good_facts {s : StS} (h0 : checkN s = 0) : (s.spares.map plcS).Nodup ∧ bad4 s = false ∧ bad5 s = false := by
  unfold checkN at h0
  by_cases hc : cfgN s.cfg = 0
  · rw [if_neg (by simp [hc])] at h0
    have hb : badS s = false := by
      cases h : badS s
      · rfl
      · rw [h] at h0; simp at h0
    simp only [badS, Bool.or_eq_false_iff] at hb
    obtain ⟨⟨⟨⟨⟨_, _⟩, _⟩, h4⟩, h5⟩, h6⟩ := hb
    refine ⟨?_, h4, h5⟩
    simpa [dupB] using h6
  · rw [if_pos hc] at h0
    exact absurd h0 hc
attribute [go_sem] tk_rat ren_rat
def sp77 (n : Nat) : Sp := ⟨zK, n, zK⟩
theorem spT_set {l : List Sp} {i n : Nat} : (l.map spT).set i (.agg [.arr 32 (bA zK), .v (.int .u32 (n : Int)), .arr 32 (bA zK)]) = (l.set i (sp77 n)).map spT := by
  rw [List.map_set]
  rfl
theorem setR_sp {β : Type} {xs : List Sp} {i n : Nat} {bk : Nat → Option Blk} {k : List A → RM β} {K : β → List Nat → Prop} {acc : List Nat} :
    ((setR (xs.map spT) 65 (.agg [.arr 32 (bA zK), .v (.int .u32 (n : Int)), .arr 32 (bA zK)]) [.idx i 65]).bind k).wpA bk K acc = (i < xs.length ∧ (k ((xs.set i (sp77 n)).map spT)).wpA bk K acc) := by
  have hz : (A.agg [.arr 32 (bA zK), .v (.int .u32 (n : Int)), .arr 32 (bA zK)]).sz = 65 := rfl
  simp only [setR, if_true, RM.bind, RM.wpA, List.length_map, eq_iff_iff]
  constructor
  · intro ⟨h1, h2⟩
    rw [getD_map h1] at h2
    simp only [setP, spT_sz, hz, if_true, RM.bind, RM.wpA, spT_set] at h2
    exact ⟨h1, h2⟩
  · intro ⟨h1, h2⟩
    rw [getD_map h1]
    simp only [setP, spT_sz, hz, if_true, RM.bind, RM.wpA, spT_set]
    exact ⟨h1, h2⟩
theorem setR_77 {β : Type} {xs : List Sp} {i : Nat} {bk : Nat → Option Blk} {k : List A → RM β} {K : β → List Nat → Prop} {acc : List Nat} :
    ((setR (xs.map spT) 65 (.agg [.arr 32 (bA zK), .v (.int .u32 77), .arr 32 (bA zK)]) [.idx i 65]).bind k).wpA bk K acc = (i < xs.length ∧ (k ((xs.set i (sp77 77)).map spT)).wpA bk K acc) := setR_sp
theorem setR_78 {β : Type} {xs : List Sp} {i : Nat} {bk : Nat → Option Blk} {k : List A → RM β} {K : β → List Nat → Prop} {acc : List Nat} :
    ((setR (xs.map spT) 65 (.agg [.arr 32 (bA zK), .v (.int .u32 78), .arr 32 (bA zK)]) [.idx i 65]).bind k).wpA bk K acc = (i < xs.length ∧ (k ((xs.set i (sp77 78)).map spT)).wpA bk K acc) := setR_sp
attribute [go_sem] setR_77 setR_78
theorem spT_getD {l : List Sp} {i : Nat} (h : i < l.length) : (l.map spT).getD i .und = spT (l.getD i default) := getD_map h
theorem checks_FS (s : StS) (hs : StOk s) (hl : s.spares.length < 2 ^ 36) : FS Try.prog 3 [stT s (.sl true (s.spares.map spT))] (.ret [booT true] [none]) := by
  refine FS_of_SW (kb := [false]) (st0 := ?st) Try.func3 rfl rfl ?he ?_
  case he =>
    simp only [entrySt, stT, cfgT, keyT, u32T, i64T, booT, unfs, unf, A.noown, noowns, nA_noowns, bA_noowns, Option.map_some, if_true, reduceIte, List.nil_append, List.append_nil]
    rfl
  have q1 := copy_FS s true hl
  have q2 := checkD_FS true s hs hl
  have q3 := from7_FS false s hs hl
  have q4 := checkP_FS false s hs hl
  have q5 := same_st false true s hs hl
  have k1 := stT_noown (s := s) (sp := .sl true (s.spares.map spT)) rfl
  have k2 := stT_sz2 (s := s) (sp := .sl true (s.spares.map spT)) rfl
  have k3 (d : Nat) := stT_noown (s := s) (sp := .ref d 65 0 s.spares.length false) rfl
  have k4 (d : Nat) := stT_sz2 (s := s) (sp := .ref d 65 0 s.spares.length false) rfl
  have k5 : (s.spares.map spT).take s.spares.length = s.spares.map spT := List.take_of_length_le (by simp)
  refine SW.weak (Weak.of [] (sls := [(0, stT s (.sl true (s.spares.map spT)))]) (bks := []) (ep := 64) (by rfl) (by repeat' (first | exact rfl | exact trivial | refine And.intro ?_ ?_)) trivial) ?_
  simp only [i64T, booT] at q2 q3 q4 q5 ⊢
  repeat' (first
    | apply_assumption -exfalso -symm (transparency := .reducible) only [*]
    | with_reducible refine SW.stopR 3 ?_
    | (with_reducible refine callEnd_of q1 ?_ <;> (try simp -implicitDefEqProofs only [go_sem, k1, k2, k3, k4, k5, i64T, booT, List.length_map]))
    | (with_reducible refine callEnd_of q2 ?_ <;> (try simp -implicitDefEqProofs only [go_sem, k1, k2, k3, k4, k5, i64T, booT, List.length_map]))
    | (with_reducible refine And.intro ?_ ?_)
    | (refine drawIt ?_; kernel_rfl)
    | ((with_reducible refine opsF_id ?_); simp -implicitDefEqProofs only [go_sem, k1, k2, k3, k4, k5, i64T, booT, List.length_map])
    | ((with_reducible refine SW.id ?_); first | with_reducible refine SW.seqK fun K hK => ?_ | with_reducible refine SW.block ?_ | with_reducible refine SW.scope ?_ | ((first | with_reducible refine SW.skip ?_ | with_reducible refine SW.exit ?_ | with_reducible refine SW.label ?_ | with_reducible refine SW.ret ?_ | with_reducible refine SW.go MR2 ?_ | refine SW.goDrawF MR2 (by rfl) (by kernel_rfl) ?_); simp -implicitDefEqProofs only [go_sem, k1, k2, k3, k4, k5, i64T, booT, List.length_map]) | (refine SW.cond (by simp -implicitDefEqProofs only [go_sem, k1, k2, k3, k4, k5, i64T, booT, List.length_map]; rfl) (fun ht => ?_) (fun ht => ?_) <;> (try with_reducible contradiction))))
  refine Stop.go (SW.weak (Weak.of [(64, 1), (320, 3), (256, 6)] (sls := [(1, .ptr 1 []), (2, .v (.bool false)), (3, .ptr 3 []), (4, .v (.int .i64 (checkN s)))]) (bks := [(1, .var (stT s (.sl true (s.spares.map spT)))), (3, .var (stT s (.ref 6 65 0 s.spares.length false))), (6, .row 65 (s.spares.map spT))]) (ep := 64) (by rfl) ?_ ?_) ?_)
  · simp -implicitDefEqProofs only [go_sem]
    all_goals (repeat' (first | exact rfl | exact trivial | refine And.intro ?_ ?_))
  · have r1 := ren_st (π := fun x => if x = 64 then some 1 else if x = 320 then some 3 else if x = 256 then some 6 else none) (s := s) (d := 256) (d' := 6) (z := 65) (off := 0) (len := s.spares.length) (full := false) (by simp)
    simp -implicitDefEqProofs only [go_sem, r1]
    all_goals (repeat' (first | exact rfl | exact trivial | refine And.intro ?_ ?_))
  clear q1 q2
  by_cases h0 : checkN s = 0
  · rw [if_pos h0, h0] at q3
    rw [h0] at q4 ⊢
    obtain ⟨f1, f2, f3⟩ := good_facts h0
    have q6 := state_FS s hs hl f1 f2 f3
    clear f1 f2 f3 hs
    obtain ⟨len, hlen⟩ : ∃ n, s.spares.length = n := ⟨_, rfl⟩
    rw [hlen] at k3 k4 k5 ⊢
    repeat' (first
      | apply_assumption -exfalso -symm (transparency := .reducible) only [*]
      | with_reducible refine SW.stopI 8 ?_
      | (with_reducible refine callEnd_of q3 ?_ <;> (try simp -implicitDefEqProofs only [go_sem, k1, k2, k3, k4, k5, i64T, booT, List.length_map, dec_self, hlen]))
      | (with_reducible refine callEnd_of q4 ?_ <;> (try simp -implicitDefEqProofs only [go_sem, k1, k2, k3, k4, k5, i64T, booT, List.length_map, dec_self, hlen]))
      | (with_reducible refine callEnd_of q5 ?_ <;> (try simp -implicitDefEqProofs only [go_sem, k1, k2, k3, k4, k5, i64T, booT, List.length_map, dec_self, hlen]))
      | (with_reducible refine And.intro ?_ ?_)
      | (refine drawIt ?_; kernel_rfl)
      | ((with_reducible refine opsF_id ?_); simp -implicitDefEqProofs only [go_sem, k1, k2, k3, k4, k5, i64T, booT, List.length_map, dec_self, hlen])
      | ((with_reducible refine SW.id ?_); first | with_reducible refine SW.seqK fun K hK => ?_ | with_reducible refine SW.block ?_ | with_reducible refine SW.scope ?_ | ((first | with_reducible refine SW.skip ?_ | with_reducible refine SW.exit ?_ | with_reducible refine SW.label ?_ | with_reducible refine SW.ret ?_ | with_reducible refine SW.go MR2 ?_ | refine SW.goDrawF MR2 (by rfl) (by kernel_rfl) ?_); simp -implicitDefEqProofs only [go_sem, k1, k2, k3, k4, k5, i64T, booT, List.length_map, dec_self, hlen]) | (refine SW.cond (by simp -implicitDefEqProofs only [go_sem, k1, k2, k3, k4, k5, i64T, booT, List.length_map, dec_self, hlen]; rfl) (fun ht => ?_) (fun ht => ?_) <;> (try simp only [decide_eq_true_eq, decide_eq_false_iff_not, beq_iff_eq, bne_iff_ne, beq_eq_false_iff_ne, bne_eq_false_iff_eq, Bool.or_eq_true, Bool.and_eq_true, Bool.or_eq_false_iff, Bool.and_eq_false_imp, Bool.not_eq_true, Bool.not_eq_false, Bool.not_true, Bool.not_false, Bool.not_eq_true', Bool.not_eq_false', Bool.or_false, Bool.false_or, Bool.or_true, Bool.true_or, Bool.and_true, Bool.true_and, reduceCtorEq] at ht) <;> (try with_reducible contradiction)))
      | ((with_reducible refine guardSplit (fun hg => ?_) (fun hg => ?_)) <;> (try simp only [Bool.not_true, Bool.not_false] at hg) <;> (have hc := hg) <;> simp -implicitDefEqProofs only [go_sem, hg, k1, k2, k3, k4, k5, i64T, booT, List.length_map, dec_self, hlen] <;> (try simp only [decide_eq_true_eq, decide_eq_false_iff_not, beq_iff_eq, bne_iff_ne, beq_eq_false_iff_ne, bne_eq_false_iff_eq, Bool.or_eq_true, Bool.and_eq_true, Bool.or_eq_false_iff, Bool.and_eq_false_imp, Bool.not_eq_true, Bool.not_eq_false, Bool.not_true, Bool.not_false, Bool.not_eq_true', Bool.not_eq_false', Bool.or_false, Bool.false_or, Bool.or_true, Bool.true_or, Bool.and_true, Bool.true_and, reduceCtorEq] at hc) <;> (try with_reducible contradiction)))
    all_goals first | omega | skip
    refine Stop.go ?_
    refine SW.cutS (γ := { l : List Sp // l.length = len }) (fun l => St.of [(1, .ptr 1 []), (5, .ptr 5 [])] [(1, .var (stT s (.sl true (s.spares.map spT)))), (5, .var (ratT s))] 64) (fun K hK => ?_) fun l => ?_
    · repeat' (first
        | apply_assumption -exfalso -symm (transparency := .reducible) only [*]
        | (with_reducible refine And.intro ?_ ?_)
        | (refine drawIt ?_; kernel_rfl)
        | ((with_reducible refine opsF_id ?_); simp -implicitDefEqProofs only [go_sem])
        | ((with_reducible refine SW.id ?_); first | with_reducible refine SW.seqK fun K hK => ?_ | with_reducible refine SW.block ?_ | with_reducible refine SW.scope ?_ | ((first | with_reducible refine SW.skip ?_ | with_reducible refine SW.exit ?_ | with_reducible refine SW.label ?_ | with_reducible refine SW.ret ?_ | with_reducible refine SW.go MR2 ?_ | refine SW.goDrawF MR2 (by rfl) (by kernel_rfl) ?_); simp -implicitDefEqProofs only [go_sem]) | (refine SW.cond (by simp -implicitDefEqProofs only [go_sem]; rfl) (fun ht => ?_) (fun ht => ?_) <;> (try with_reducible contradiction))))
      refine SW.loop (α := { q : Nat × List Sp // q.1 ≤ len ∧ q.2.length = len }) (fun q => St.of [(1, .ptr 1 []), (3, .ptr 3 []), (5, .ptr 5 []), (7, .v (.int .i64 ((q.1.1 : Nat) : Int)))] [(1, .var (stT s (.sl true (s.spares.map spT)))), (3, .var (stT s (.ref 6 65 0 len false))), (5, .var (ratT s)), (6, .row 65 (q.1.2.map spT))] 64) (fun q => len - q.1.1) ⟨(0, s.spares), Nat.zero_le _, hlen⟩
        (Weak.of [(1, 1), (3, 3), (128, 5), (6, 6)] (by rfl) ?_ ?_) fun ⟨⟨i, l⟩, hi, hll⟩ => ?_
      · simp -implicitDefEqProofs only [go_sem]
        all_goals (repeat' (first | exact rfl | exact trivial | refine And.intro ?_ ?_))
      · have r1 := ren_st (π := fun x => if x = 1 then some 1 else if x = 3 then some 3 else if x = 128 then some 5 else if x = 6 then some 6 else none) (s := s) (d := 6) (d' := 6) (z := 65) (off := 0) (len := len) (full := false) (by simp)
        simp -implicitDefEqProofs only [go_sem, r1]
        all_goals (repeat' (first | exact rfl | exact trivial | refine And.intro ?_ ?_))
      · dsimp only at hi hll ⊢
        rcases Nat.lt_or_eq_of_le hi with h4 | h4
        · have hc := eq_true (show (i : Int) < (len : Int) by omega)
          have h5 := i64_up (a := i) (by omega)
          repeat' (first
            | apply_assumption -exfalso -symm (transparency := .reducible) only [*]
            | (with_reducible refine And.intro ?_ ?_)
            | (refine drawIt ?_; kernel_rfl)
            | ((with_reducible refine opsF_id ?_); simp -implicitDefEqProofs only [go_sem, hc, h5, k3, k4, spT_sz, zK_eq, List.length_map])
            | ((with_reducible refine SW.id ?_); first | with_reducible refine SW.seqK fun K hK => ?_ | with_reducible refine SW.block ?_ | with_reducible refine SW.scope ?_ | ((first | with_reducible refine SW.skip ?_ | with_reducible refine SW.exit ?_ | with_reducible refine SW.label ?_ | with_reducible refine SW.ret ?_ | with_reducible refine SW.go MR2 ?_ | refine SW.goDrawF MR2 (by rfl) (by kernel_rfl) ?_); simp -implicitDefEqProofs only [go_sem, hc, h5, k3, k4, spT_sz, zK_eq, List.length_map]) | (refine SW.cond (by simp -implicitDefEqProofs only [go_sem, hc, h5, k3, k4, spT_sz, zK_eq, List.length_map]; rfl) (fun ht => ?_) (fun ht => ?_) <;> (try with_reducible contradiction))))
          all_goals first | omega | skip
          refine ⟨⟨(i + 1, l.set i (sp77 77)), by dsimp only; omega, by dsimp only; rw [List.length_set, hll]⟩, Weak.of [(1, 1), (3, 3), (5, 5), (6, 6)] (by rfl) ?_ ?_, by dsimp only; omega⟩
          · simp -implicitDefEqProofs only [go_sem]
            all_goals (repeat' (first | exact rfl | exact trivial | refine And.intro ?_ ?_))
          · have r1 := ren_st (π := fun x => if x = 1 then some 1 else if x = 3 then some 3 else if x = 5 then some 5 else if x = 6 then some 6 else none) (s := s) (d := 6) (d' := 6) (z := 65) (off := 0) (len := len) (full := false) (by simp)
            simp -implicitDefEqProofs only [go_sem, r1]
            all_goals (repeat' (first | exact rfl | exact trivial | refine And.intro ?_ ?_))
        · have hc := eq_false (show ¬ (i : Int) < (len : Int) by omega)
          repeat' (first
            | apply_assumption -exfalso -symm (transparency := .reducible) only [*]
            | (with_reducible refine And.intro ?_ ?_)
            | (refine drawIt ?_; kernel_rfl)
            | ((with_reducible refine opsF_id ?_); simp -implicitDefEqProofs only [go_sem, hc, k3, k4, List.length_map])
            | ((with_reducible refine SW.id ?_); first | with_reducible refine SW.seqK fun K hK => ?_ | with_reducible refine SW.block ?_ | with_reducible refine SW.scope ?_ | ((first | with_reducible refine SW.skip ?_ | with_reducible refine SW.exit ?_ | with_reducible refine SW.label ?_ | with_reducible refine SW.ret ?_ | with_reducible refine SW.go MR2 ?_ | refine SW.goDrawF MR2 (by rfl) (by kernel_rfl) ?_); simp -implicitDefEqProofs only [go_sem, hc, k3, k4, List.length_map]) | (refine SW.cond (by simp -implicitDefEqProofs only [go_sem, hc, k3, k4, List.length_map]; rfl) (fun ht => ?_) (fun ht => ?_) <;> (try with_reducible contradiction))))
          all_goals first | omega | skip
          refine ⟨⟨l, hll⟩, Weak.of [(1, 1), (5, 5)] (by rfl) ?_ ?_⟩
          · simp -implicitDefEqProofs only [go_sem]
            all_goals (repeat' (first | exact rfl | exact trivial | refine And.intro ?_ ?_))
          · simp -implicitDefEqProofs only [go_sem]
            all_goals (repeat' (first | exact rfl | exact trivial | refine And.intro ?_ ?_))
    · clear q3 q4
      repeat' (first
        | apply_assumption -exfalso -symm (transparency := .reducible) only [*]
        | with_reducible refine SW.stopI 13 ?_
        | (with_reducible refine callEnd_of q6 ?_ <;> (try simp -implicitDefEqProofs only [go_sem, k1, k2, k3, k4, k5, hlen, dec_self, booT]))
        | (with_reducible refine And.intro ?_ ?_)
        | (refine drawIt ?_; kernel_rfl)
        | ((with_reducible refine opsF_id ?_); simp -implicitDefEqProofs only [go_sem, k1, k2, k3, k4, k5, hlen, dec_self, booT])
        | ((with_reducible refine SW.id ?_); first | with_reducible refine SW.seqK fun K hK => ?_ | with_reducible refine SW.block ?_ | with_reducible refine SW.scope ?_ | ((first | with_reducible refine SW.skip ?_ | with_reducible refine SW.exit ?_ | with_reducible refine SW.label ?_ | with_reducible refine SW.ret ?_ | with_reducible refine SW.go MR2 ?_ | refine SW.goDrawF MR2 (by rfl) (by kernel_rfl) ?_); simp -implicitDefEqProofs only [go_sem, k1, k2, k3, k4, k5, hlen, dec_self, booT]) | (refine SW.cond (by simp -implicitDefEqProofs only [go_sem, k1, k2, k3, k4, k5, hlen, dec_self, booT]; rfl) (fun ht => ?_) (fun ht => ?_) <;> (try with_reducible contradiction))))
      refine Stop.go (SW.weak (Weak.of [(1, 1), (5, 5), (320, 8), (128, 31), (384, 9), (256, 41)] (sls := [(1, .ptr 1 []), (5, .ptr 5 []), (8, .ptr 8 []), (9, .ptr 9 [])]) (bks := [(1, .var (stT s (.sl true (s.spares.map spT)))), (5, .var (ratT s)), (8, .var (stT s (.ref 31 65 0 len false))), (31, .row 65 (s.spares.map spT)), (9, .var (stT s (.ref 41 65 0 len false))), (41, .row 65 (s.spares.map spT))]) (ep := 64) (by rfl) ?_ ?_) ?_)
      · simp -implicitDefEqProofs only [go_sem]
        all_goals (repeat' (first | exact rfl | exact trivial | refine And.intro ?_ ?_))
      · have r1 := ren_st (π := fun x => if x = 1 then some 1 else if x = 5 then some 5 else if x = 320 then some 8 else if x = 128 then some 31 else if x = 384 then some 9 else if x = 256 then some 41 else none) (s := s) (d := 128) (d' := 31) (z := 65) (off := 0) (len := len) (full := false) (by simp)
        have r2 := ren_st (π := fun x => if x = 1 then some 1 else if x = 5 then some 5 else if x = 320 then some 8 else if x = 128 then some 31 else if x = 384 then some 9 else if x = 256 then some 41 else none) (s := s) (d := 256) (d' := 41) (z := 65) (off := 0) (len := len) (full := false) (by simp)
        simp -implicitDefEqProofs only [go_sem, r1, r2]
        all_goals (repeat' (first | exact rfl | exact trivial | refine And.intro ?_ ?_))
      repeat' (first
        | apply_assumption -exfalso -symm (transparency := .reducible) only [*]
        | with_reducible refine SW.stopI 15 ?_
        | (with_reducible refine callEnd_of q5 ?_ <;> (try simp -implicitDefEqProofs only [go_sem, k1, k2, k3, k4, k5, hlen, dec_self, booT, List.length_map]))
        | (with_reducible refine And.intro ?_ ?_)
        | (refine drawIt ?_; kernel_rfl)
        | ((with_reducible refine opsF_id ?_); simp -implicitDefEqProofs only [go_sem, k1, k2, k3, k4, k5, hlen, dec_self, booT, List.length_map])
        | ((with_reducible refine SW.id ?_); first | with_reducible refine SW.seqK fun K hK => ?_ | with_reducible refine SW.block ?_ | with_reducible refine SW.scope ?_ | ((first | with_reducible refine SW.skip ?_ | with_reducible refine SW.exit ?_ | with_reducible refine SW.label ?_ | with_reducible refine SW.ret ?_ | with_reducible refine SW.go MR2 ?_ | refine SW.goDrawF MR2 (by rfl) (by kernel_rfl) ?_); simp -implicitDefEqProofs only [go_sem, k1, k2, k3, k4, k5, hlen, dec_self, booT, List.length_map]) | (refine SW.cond (by simp -implicitDefEqProofs only [go_sem, k1, k2, k3, k4, k5, hlen, dec_self, booT, List.length_map]; rfl) (fun ht => ?_) (fun ht => ?_) <;> (try simp only [decide_eq_true_eq, decide_eq_false_iff_not, beq_iff_eq, bne_iff_ne, beq_eq_false_iff_ne, bne_eq_false_iff_eq, Bool.or_eq_true, Bool.and_eq_true, Bool.or_eq_false_iff, Bool.and_eq_false_imp, Bool.not_eq_true, Bool.not_eq_false, Bool.not_true, Bool.not_false, Bool.not_eq_true', Bool.not_eq_false', Bool.or_false, Bool.false_or, Bool.or_true, Bool.true_or, Bool.and_true, Bool.true_and, reduceCtorEq] at ht) <;> (try with_reducible contradiction)))
        | ((with_reducible refine guardSplit (fun hg => ?_) (fun hg => ?_)) <;> (try simp only [Bool.not_true, Bool.not_false] at hg) <;> (have hc := hg) <;> simp -implicitDefEqProofs only [go_sem, hg, k1, k2, k3, k4, k5, hlen, dec_self, booT, List.length_map] <;> (try simp only [decide_eq_true_eq, decide_eq_false_iff_not, beq_iff_eq, bne_iff_ne, beq_eq_false_iff_ne, bne_eq_false_iff_eq, Bool.or_eq_true, Bool.and_eq_true, Bool.or_eq_false_iff, Bool.and_eq_false_imp, Bool.not_eq_true, Bool.not_eq_false, Bool.not_true, Bool.not_false, Bool.not_eq_true', Bool.not_eq_false', Bool.or_false, Bool.false_or, Bool.or_true, Bool.true_or, Bool.and_true, Bool.true_and, reduceCtorEq] at hc) <;> (try with_reducible contradiction)))
      all_goals first | omega | skip
      refine Stop.go ?_
      refine SW.cutS (γ := Unit) (fun _ => St.of [(1, .ptr 1 []), (5, .ptr 5 []), (9, .ptr 9 [])] [(1, .var (stT s (.sl true (s.spares.map spT)))), (5, .var (ratT s)), (9, .var (stT s (.ref 41 65 0 len false))), (41, .row 65 (s.spares.map spT))] 64) (fun K hK => ?_) fun _ => ?_
      · repeat' (first
          | apply_assumption -exfalso -symm (transparency := .reducible) only [*]
          | (with_reducible refine And.intro ?_ ?_)
          | (refine drawIt ?_; kernel_rfl)
          | ((with_reducible refine opsF_id ?_); simp -implicitDefEqProofs only [go_sem])
          | ((with_reducible refine SW.id ?_); first | with_reducible refine SW.seqK fun K hK => ?_ | with_reducible refine SW.block ?_ | with_reducible refine SW.scope ?_ | ((first | with_reducible refine SW.skip ?_ | with_reducible refine SW.exit ?_ | with_reducible refine SW.label ?_ | with_reducible refine SW.ret ?_ | with_reducible refine SW.go MR2 ?_ | refine SW.goDrawF MR2 (by rfl) (by kernel_rfl) ?_); simp -implicitDefEqProofs only [go_sem]) | (refine SW.cond (by simp -implicitDefEqProofs only [go_sem]; rfl) (fun ht => ?_) (fun ht => ?_) <;> (try with_reducible contradiction))))
        refine SW.loop (α := { q : Nat × List Sp // q.1 ≤ len ∧ q.2.length = len }) (fun q => St.of [(1, .ptr 1 []), (5, .ptr 5 []), (8, .ptr 8 []), (9, .ptr 9 []), (10, .v (.int .i64 ((q.1.1 : Nat) : Int)))] [(1, .var (stT s (.sl true (s.spares.map spT)))), (5, .var (ratT s)), (8, .var (stT s (.ref 31 65 0 len false))), (31, .row 65 (q.1.2.map spT)), (9, .var (stT s (.ref 41 65 0 len false))), (41, .row 65 (s.spares.map spT))] 64) (fun q => len - q.1.1) ⟨(0, s.spares), Nat.zero_le _, hlen⟩
          (Weak.of [(1, 1), (5, 5), (8, 8), (31, 31), (9, 9), (41, 41)] (by rfl) ?_ ?_) fun ⟨⟨i, l⟩, hi, hll⟩ => ?_
        · simp -implicitDefEqProofs only [go_sem]
          all_goals (repeat' (first | exact rfl | exact trivial | refine And.intro ?_ ?_))
        · have r1 := ren_st (π := fun x => if x = 1 then some 1 else if x = 5 then some 5 else if x = 8 then some 8 else if x = 31 then some 31 else if x = 9 then some 9 else if x = 41 then some 41 else none) (s := s) (d := 31) (d' := 31) (z := 65) (off := 0) (len := len) (full := false) (by simp)
          have r2 := ren_st (π := fun x => if x = 1 then some 1 else if x = 5 then some 5 else if x = 8 then some 8 else if x = 31 then some 31 else if x = 9 then some 9 else if x = 41 then some 41 else none) (s := s) (d := 41) (d' := 41) (z := 65) (off := 0) (len := len) (full := false) (by simp)
          simp -implicitDefEqProofs only [go_sem, r1, r2]
          all_goals (repeat' (first | exact rfl | exact trivial | refine And.intro ?_ ?_))
        · dsimp only at hi hll ⊢
          rcases Nat.lt_or_eq_of_le hi with h4 | h4
          · have hc := eq_true (show (i : Int) < (len : Int) by omega)
            have h5 := i64_up (a := i) (by omega)
            repeat' (first
              | apply_assumption -exfalso -symm (transparency := .reducible) only [*]
              | (with_reducible refine And.intro ?_ ?_)
              | (refine drawIt ?_; kernel_rfl)
              | ((with_reducible refine opsF_id ?_); simp -implicitDefEqProofs only [go_sem, hc, h5, k3, k4, spT_sz, zK_eq, List.length_map])
              | ((with_reducible refine SW.id ?_); first | with_reducible refine SW.seqK fun K hK => ?_ | with_reducible refine SW.block ?_ | with_reducible refine SW.scope ?_ | ((first | with_reducible refine SW.skip ?_ | with_reducible refine SW.exit ?_ | with_reducible refine SW.label ?_ | with_reducible refine SW.ret ?_ | with_reducible refine SW.go MR2 ?_ | refine SW.goDrawF MR2 (by rfl) (by kernel_rfl) ?_); simp -implicitDefEqProofs only [go_sem, hc, h5, k3, k4, spT_sz, zK_eq, List.length_map]) | (refine SW.cond (by simp -implicitDefEqProofs only [go_sem, hc, h5, k3, k4, spT_sz, zK_eq, List.length_map]; rfl) (fun ht => ?_) (fun ht => ?_) <;> (try with_reducible contradiction))))
            all_goals first | omega | skip
            refine ⟨⟨(i + 1, l.set i (sp77 78)), by dsimp only; omega, by dsimp only; rw [List.length_set, hll]⟩, Weak.of [(1, 1), (5, 5), (8, 8), (31, 31), (9, 9), (41, 41)] (by rfl) ?_ ?_, by dsimp only; omega⟩
            · simp -implicitDefEqProofs only [go_sem]
              all_goals (repeat' (first | exact rfl | exact trivial | refine And.intro ?_ ?_))
            · have r1 := ren_st (π := fun x => if x = 1 then some 1 else if x = 5 then some 5 else if x = 8 then some 8 else if x = 31 then some 31 else if x = 9 then some 9 else if x = 41 then some 41 else none) (s := s) (d := 31) (d' := 31) (z := 65) (off := 0) (len := len) (full := false) (by simp)
              have r2 := ren_st (π := fun x => if x = 1 then some 1 else if x = 5 then some 5 else if x = 8 then some 8 else if x = 31 then some 31 else if x = 9 then some 9 else if x = 41 then some 41 else none) (s := s) (d := 41) (d' := 41) (z := 65) (off := 0) (len := len) (full := false) (by simp)
              simp -implicitDefEqProofs only [go_sem, r1, r2]
              all_goals (repeat' (first | exact rfl | exact trivial | refine And.intro ?_ ?_))
          · have hc := eq_false (show ¬ (i : Int) < (len : Int) by omega)
            repeat' (first
              | apply_assumption -exfalso -symm (transparency := .reducible) only [*]
              | (with_reducible refine And.intro ?_ ?_)
              | (refine drawIt ?_; kernel_rfl)
              | ((with_reducible refine opsF_id ?_); simp -implicitDefEqProofs only [go_sem, hc, k3, k4, List.length_map])
              | ((with_reducible refine SW.id ?_); first | with_reducible refine SW.seqK fun K hK => ?_ | with_reducible refine SW.block ?_ | with_reducible refine SW.scope ?_ | ((first | with_reducible refine SW.skip ?_ | with_reducible refine SW.exit ?_ | with_reducible refine SW.label ?_ | with_reducible refine SW.ret ?_ | with_reducible refine SW.go MR2 ?_ | refine SW.goDrawF MR2 (by rfl) (by kernel_rfl) ?_); simp -implicitDefEqProofs only [go_sem, hc, k3, k4, List.length_map]) | (refine SW.cond (by simp -implicitDefEqProofs only [go_sem, hc, k3, k4, List.length_map]; rfl) (fun ht => ?_) (fun ht => ?_) <;> (try with_reducible contradiction))))
            all_goals first | omega | skip
            refine ⟨(), Weak.of [(1, 1), (5, 5), (9, 9), (41, 41)] (by rfl) ?_ ?_⟩
            · simp -implicitDefEqProofs only [go_sem]
              all_goals (repeat' (first | exact rfl | exact trivial | refine And.intro ?_ ?_))
            · have r2 := ren_st (π := fun x => if x = 1 then some 1 else if x = 5 then some 5 else if x = 9 then some 9 else if x = 41 then some 41 else none) (s := s) (d := 41) (d' := 41) (z := 65) (off := 0) (len := len) (full := false) (by simp)
              simp -implicitDefEqProofs only [go_sem, r2]
              all_goals (repeat' (first | exact rfl | exact trivial | refine And.intro ?_ ?_))
      · repeat' (first
          | apply_assumption -exfalso -symm (transparency := .reducible) only [*]
          | (with_reducible refine callEnd_of q5 ?_ <;> (try simp -implicitDefEqProofs only [go_sem, k1, k2, k3, k4, k5, hlen, dec_self, booT, List.length_map]))
          | (with_reducible refine callEnd_of q6 ?_ <;> (try simp -implicitDefEqProofs only [go_sem, k1, k2, k3, k4, k5, hlen, dec_self, booT, List.length_map]))
          | (with_reducible refine And.intro ?_ ?_)
          | (refine drawIt ?_; kernel_rfl)
          | ((with_reducible refine opsF_id ?_); simp -implicitDefEqProofs only [go_sem, k1, k2, k3, k4, k5, hlen, dec_self, booT, List.length_map])
          | ((with_reducible refine SW.id ?_); first | with_reducible refine SW.seqK fun K hK => ?_ | with_reducible refine SW.block ?_ | with_reducible refine SW.scope ?_ | ((first | with_reducible refine SW.skip ?_ | with_reducible refine SW.exit ?_ | with_reducible refine SW.label ?_ | with_reducible refine SW.ret ?_ | with_reducible refine SW.go MR2 ?_ | refine SW.goDrawF MR2 (by rfl) (by kernel_rfl) ?_); simp -implicitDefEqProofs only [go_sem, k1, k2, k3, k4, k5, hlen, dec_self, booT, List.length_map]) | (refine SW.cond (by simp -implicitDefEqProofs only [go_sem, k1, k2, k3, k4, k5, hlen, dec_self, booT, List.length_map]; rfl) (fun ht => ?_) (fun ht => ?_) <;> (try simp only [decide_eq_true_eq, decide_eq_false_iff_not, beq_iff_eq, bne_iff_ne, beq_eq_false_iff_ne, bne_eq_false_iff_eq, Bool.or_eq_true, Bool.and_eq_true, Bool.or_eq_false_iff, Bool.and_eq_false_imp, Bool.not_eq_true, Bool.not_eq_false, Bool.not_true, Bool.not_false, Bool.not_eq_true', Bool.not_eq_false', Bool.or_false, Bool.false_or, Bool.or_true, Bool.true_or, Bool.and_true, Bool.true_and, reduceCtorEq] at ht) <;> (try with_reducible contradiction)))
          | ((with_reducible refine guardSplit (fun hg => ?_) (fun hg => ?_)) <;> (try simp only [Bool.not_true, Bool.not_false] at hg) <;> (have hc := hg) <;> simp -implicitDefEqProofs only [go_sem, hg, k1, k2, k3, k4, k5, hlen, dec_self, booT, List.length_map] <;> (try simp only [decide_eq_true_eq, decide_eq_false_iff_not, beq_iff_eq, bne_iff_ne, beq_eq_false_iff_ne, bne_eq_false_iff_eq, Bool.or_eq_true, Bool.and_eq_true, Bool.or_eq_false_iff, Bool.and_eq_false_imp, Bool.not_eq_true, Bool.not_eq_false, Bool.not_true, Bool.not_false, Bool.not_eq_true', Bool.not_eq_false', Bool.or_false, Bool.false_or, Bool.or_true, Bool.true_or, Bool.and_true, Bool.true_and, reduceCtorEq] at hc) <;> (try with_reducible contradiction)))
        all_goals first | omega | skip
        all_goals trace_state
  · rw [if_neg h0] at q3
    have h0' := eq_false h0
    generalize checkN s = n at *
    have e1 : (n != n) = false := by simp
    have e2 : (n != 0) = true := by simp [h0]
    repeat' (first
      | apply_assumption -exfalso -symm (transparency := .reducible) only [*]
      | (with_reducible refine callEnd_of q3 ?_ <;> (try simp -implicitDefEqProofs only [go_sem, k1, k2, k3, k4, k5, i64T, booT, List.length_map, h0', e1, e2, dec_self]))
      | (with_reducible refine callEnd_of q4 ?_ <;> (try simp -implicitDefEqProofs only [go_sem, k1, k2, k3, k4, k5, i64T, booT, List.length_map, h0', e1, e2, dec_self]))
      | (with_reducible refine callEnd_of q5 ?_ <;> (try simp -implicitDefEqProofs only [go_sem, k1, k2, k3, k4, k5, i64T, booT, List.length_map, h0', e1, e2, dec_self]))
      | (with_reducible refine And.intro ?_ ?_)
      | (refine drawIt ?_; kernel_rfl)
      | ((with_reducible refine opsF_id ?_); simp -implicitDefEqProofs only [go_sem, k1, k2, k3, k4, k5, i64T, booT, List.length_map, h0', e1, e2, dec_self])
      | ((with_reducible refine SW.id ?_); first | with_reducible refine SW.seqK fun K hK => ?_ | with_reducible refine SW.block ?_ | with_reducible refine SW.scope ?_ | ((first | with_reducible refine SW.skip ?_ | with_reducible refine SW.exit ?_ | with_reducible refine SW.label ?_ | with_reducible refine SW.ret ?_ | with_reducible refine SW.go MR2 ?_ | refine SW.goDrawF MR2 (by rfl) (by kernel_rfl) ?_); simp -implicitDefEqProofs only [go_sem, k1, k2, k3, k4, k5, i64T, booT, List.length_map, h0', e1, e2, dec_self]) | (refine SW.cond (by simp -implicitDefEqProofs only [go_sem, k1, k2, k3, k4, k5, i64T, booT, List.length_map, h0', e1, e2, dec_self]; rfl) (fun ht => ?_) (fun ht => ?_) <;> (try simp only [decide_eq_true_eq, decide_eq_false_iff_not, beq_iff_eq, bne_iff_ne, beq_eq_false_iff_ne, bne_eq_false_iff_eq, Bool.or_eq_true, Bool.and_eq_true, Bool.or_eq_false_iff, Bool.and_eq_false_imp, Bool.not_eq_true, Bool.not_eq_false, Bool.not_true, Bool.not_false, Bool.not_eq_true', Bool.not_eq_false', Bool.or_false, Bool.false_or, Bool.or_true, Bool.true_or, Bool.and_true, Bool.true_and, reduceCtorEq] at ht) <;> (try with_reducible contradiction)))
      | ((with_reducible refine guardSplit (fun hg => ?_) (fun hg => ?_)) <;> (try simp only [Bool.not_true, Bool.not_false] at hg) <;> (have hc := hg) <;> simp -implicitDefEqProofs only [go_sem, hg, k1, k2, k3, k4, k5, i64T, booT, List.length_map, h0', e1, e2, dec_self] <;> (try simp only [decide_eq_true_eq, decide_eq_false_iff_not, beq_iff_eq, bne_iff_ne, beq_eq_false_iff_ne, bne_eq_false_iff_eq, Bool.or_eq_true, Bool.and_eq_true, Bool.or_eq_false_iff, Bool.and_eq_false_imp, Bool.not_eq_true, Bool.not_eq_false, Bool.not_true, Bool.not_false, Bool.not_eq_true', Bool.not_eq_false', Bool.or_false, Bool.false_or, Bool.or_true, Bool.true_or, Bool.and_true, Bool.true_and, reduceCtorEq] at hc) <;> (try with_reducible contradiction)))
    all_goals trace_state
end Go.PA
