/- What two sides begin with: Alice's and Bob's states, by the program and by the document. -/
import Derived.Test.YtopigdkgjobdiaaR21
import Derived.Test.YtopigdkgjobdiaaR19
import Derived.Test.YtopigdkgjobdiaaR18
namespace Go.PA
open Go.Proofs Go.Fe
set_option linter.unusedSimpArgs false
set_option linter.unusedVariables false
set_option maxRecDepth 100000
set_option maxHeartbeats 4000000
attribute [local go_sem] MR2 MR getP setP szAll takesW
attribute [-go_sem] takeA roA A.good A.isAgg

theorem unf_st {k : Nat} {s : StS} {xs : List A} : unf k (stT s (.osl 65 xs)) = some (stT s (.ref k 65 0 xs.length false), [(k, .row 65 xs)], k + 1) := by
  simp only [stT, cfgT, keyT, u32T, i64T, booT, unf, unfs, noowns, A.noown, bA_noowns, Option.map_some, if_true, reduceIte, List.nil_append, List.append_nil, List.cons_append]
theorem RM.bind_assoc' {α β γ : Type} {m : RM α} {f : α → RM β} {g : β → RM γ} : (m.bind f).bind g = m.bind fun x => (f x).bind g := by
  induction m with
  | ret a => rfl
  | fail => rfl
  | rd d k ih => simp only [RM.bind, ih]
  | req p k ih => simp only [RM.bind, ih]
theorem roA_stR {rm : List Nat} {m d z off len : Nat} {full : Bool} {s : StS} : roA rm (m + 3) (stT s (.ref d z off len full)) = if rm.contains d then .fail else .rd d fun b => (roRef rm (m + 1) z off len b).bind fun x => .ret (stT s x) := by
  simp only [stT, cfgT, keyT, u32T, i64T, booT, roA_agg, roA_arr, roA_v, roA_ref, rosW, RM.bind, bA_noowns, if_true]
  split <;> simp only [RM.bind, RM.bind_assoc']
theorem stT_closedR {s : StS} {d z off len : Nat} {full : Bool} : (stT s (.ref d z off len full)).closed = false := by simp only [stT, cfgT, keyT, u32T, i64T, booT, A.closed, closeds, Bool.and_false, Bool.and_true, Bool.true_and]
theorem stT_closedS {s : StS} {p : Bool} {xs : List A} : (stT s (.sl p xs)).closed = true := by simp only [stT, cfgT, keyT, u32T, i64T, booT, A.closed, closeds, Bool.and_true]
theorem ren_st {π : Nat → Option Nat} {s : StS} {d d' z off len : Nat} {full : Bool} (h : π d = some d') : ren π (stT s (.ref d z off len full)) = some (stT s (.ref d' z off len full)) := by
  simp [stT, cfgT, keyT, u32T, i64T, booT, ren, rens, h]
theorem ren_stS {π : Nat → Option Nat} {s : StS} {p : Bool} {xs : List A} : ren π (stT s (.sl p xs)) = some (stT s (.sl p xs)) := by
  simp [stT, cfgT, keyT, u32T, i64T, booT, ren, rens]
attribute [go_sem] stT_closedR stT_closedS ren_stS unf_st roA_stR roA_st
theorem storeT_nobor {m : Int} {l : List Sp} : (storeT m l).nobor = true := by simp [storeT, A.nobor, nobors]
theorem chT_nobor {k : List Nat} {n : Nat} : (chT k n).nobor = true := by simp [chT, keyT, u32T, A.nobor, nobors]
theorem ren_rat {π : Nat → Option Nat} {s : StS} : ren π (ratT s) = some (ratT s) := by
  unfold ratT lineT
  cases s.hasSend <;> cases s.hasRecv <;> simp [cfgT, keyT, u32T, i64T, booT, ren, rens]
theorem tk_rat {bor : Bool} {m : Nat} {s : StS} {rm : List Nat} : takeA bor (m + 5) (ratT s) rm = .ret (ratT s, rm) := by
  unfold ratT lineT
  cases s.hasSend <;> cases s.hasRecv <;> simp only [if_true, Bool.false_eq_true, if_false, cfgT, keyT, u32T, i64T, booT, tkA_agg, tkA_v, tkA_arr, tkA_box, takesW, RM.bind, storeT_nobor, chT_nobor, Bool.true_or]
attribute [go_sem] tk_rat ren_rat

/-- Alice's state. -/
def aliceS (c : Cfg) (sh hA hB pe : List Nat) : StS := ⟨c, sh, zK, zK, pe, false, true, true, zK, zK, hA, 0, 0, false, zK, zK, hB, 0, false, []⟩
/-- Bob's. -/
def bobS (c : Cfg) (sh hA hB r u : List Nat) : StS := ⟨c, sh, r, u, zK, true, false, false, zK, zK, hB, 0, 0, false, zK, zK, hA, 0, false, []⟩
theorem zK_ok : KeyOk zK := ⟨rfl, by decide⟩
theorem alice_ok {c : Cfg} {sh hA hB pe : List Nat} (h1 : KeyOk sh) (h2 : KeyOk hA) (h3 : KeyOk hB) (h4 : KeyOk pe) : StOk (aliceS c sh hA hB pe) :=
  ⟨h1, zK_ok, zK_ok, h4, zK_ok, zK_ok, h2, Nat.zero_lt_succ _, Nat.zero_lt_succ _, zK_ok, zK_ok, h3, Nat.zero_lt_succ _, fun x h => nomatch h⟩
theorem bob_ok {c : Cfg} {sh hA hB r u : List Nat} (h1 : KeyOk sh) (h2 : KeyOk hA) (h3 : KeyOk hB) (h4 : KeyOk r) (h5 : KeyOk u) : StOk (bobS c sh hA hB r u) :=
  ⟨h1, h4, h5, zK_ok, zK_ok, zK_ok, h3, Nat.zero_lt_succ _, Nat.zero_lt_succ _, zK_ok, zK_ok, h2, Nat.zero_lt_succ _, fun x h => nomatch h⟩
theorem alice_bad {c : Cfg} {sh hA hB pe : List Nat} (h : 0 ≤ c.store) : badS (aliceS c sh hA hB pe) = false := by
  have h' : ¬ c.store < 0 := by omega
  simp [badS, bad1, bad2, bad3, bad4, bad5, dupB, aliceS, h']
theorem bob_bad {c : Cfg} {sh hA hB r u : List Nat} (h : 0 ≤ c.store) : badS (bobS c sh hA hB r u) = !pairB r u := by
  have h' : ¬ c.store < 0 := by omega
  simp [badS, bad1, bad2, bad3, bad4, bad5, dupB, bobS, h']
theorem alice_check (c : Cfg) (sh hA hB pe : List Nat) : checkN (aliceS c sh hA hB pe) = cfgN c := by
  by_cases h : cfgN c = 0
  · have := alice_bad (sh := sh) (hA := hA) (hB := hB) (pe := pe) (cfg_store h).1
    simp [checkN, this, h, show (aliceS c sh hA hB pe).cfg = c from rfl]
  · simp [checkN, h, show (aliceS c sh hA hB pe).cfg = c from rfl]
def bobN (c : Cfg) (r u : List Nat) : Int := if cfgN c ≠ 0 then cfgN c else if pairB r u then 0 else 130
theorem bob_check (c : Cfg) (sh hA hB r u : List Nat) : checkN (bobS c sh hA hB r u) = bobN c r u := by
  by_cases h : cfgN c = 0
  · have := bob_bad (sh := sh) (hA := hA) (hB := hB) (r := r) (u := u) (cfg_store h).1
    cases hp : pairB r u <;> simp [checkN, bobN, this, h, hp, show (bobS c sh hA hB r u).cfg = c from rfl]
  · simp [checkN, bobN, h, show (bobS c sh hA hB r u).cfg = c from rfl]
theorem bobN_c {c : Cfg} {r u : List Nat} (h : cfgN c ≠ 0) : bobN c r u = cfgN c := if_pos h
theorem bobN_f {c : Cfg} {r u : List Nat} (h : cfgN c = 0) (hp : pairB r u = false) : bobN c r u = 130 := by simp [bobN, h, hp]
theorem bobN_t {c : Cfg} {r u : List Nat} (h : cfgN c = 0) (hp : pairB r u = true) : bobN c r u = 0 := by simp [bobN, h, hp]
theorem rat_nobor {s : StS} : (ratT s).nobor = true := by
  unfold ratT lineT
  cases s.hasSend <;> cases s.hasRecv <;> simp [cfgT, keyT, u32T, i64T, booT, A.nobor, nobors, storeT_nobor, chT_nobor]
/-- A side, or none. -/
def sideT (n : Int) (s : StS) : A := if n = 0 then .box (ratT s) else .v (.pointer none)
def stN (n : Int) (s : StS) : StS := if n = 0 then s else zS
theorem aliceP_FS (c : Cfg) (sh hA hB pe : List Nat) (h1 : KeyOk sh) (h2 : KeyOk hA) (h3 : KeyOk hB) (h4 : KeyOk pe) :
    FS Try.prog 22 [keyT sh, keyT hA, keyT hB, keyT pe, cfgT c] (.ret [sideT (cfgN c) (aliceS c sh hA hB pe), i64T (cfgN c)] [none, none, none, none, none]) := by
  refine FS_of_SW (kb := [false, false, false, false, false]) (st0 := ?st) Try.func22 rfl rfl ?he ?_
  case he =>
    simp only [entrySt, cfgT, keyT, u32T, i64T, booT, unfs, unf, A.noown, noowns, nA_noowns, bA_noowns, Option.map_some, if_true, reduceIte, List.nil_append, List.append_nil]
    rfl
  have q1 := from7_FS false (aliceS c sh hA hB pe) (alice_ok h1 h2 h3 h4) (by simp [aliceS])
  rw [alice_check] at q1
  refine SW.weak (Weak.of [] (sls := [(0, keyT sh), (1, keyT hA), (2, keyT hB), (3, keyT pe), (4, cfgT c)]) (bks := []) (ep := 64) (by rfl) (by repeat' (first | exact rfl | exact trivial | refine And.intro ?_ ?_)) trivial) ?_
  unfold sideT
  generalize cfgN c = n at *
  have tk (m : Nat) (rm : List Nat) := tk_rat (bor := true) (m := m) (s := aliceS c sh hA hB pe) (rm := rm)
  have rn (π : Nat → Option Nat) := ren_rat (π := π) (s := aliceS c sh hA hB pe)
  have nb := rat_nobor (s := aliceS c sh hA hB pe)
  generalize hr : ratT (aliceS c sh hA hB pe) = z at q1 tk rn nb ⊢
  clear hr
  by_cases h0 : n = 0
  · rw [if_pos h0] at q1 ⊢
    simp only [stT, aliceS, cfgT, keyT, u32T, i64T, booT, List.map_nil] at q1
    repeat' (first
      | apply_assumption -exfalso -symm (transparency := .reducible) only [*]
      | (refine callEnd_of q1 ?_ <;> (try simp -implicitDefEqProofs only [go_sem, cfgT, keyT, u32T, i64T, booT, zK_eq, tk, rn, nb]))
      | (with_reducible refine And.intro ?_ ?_)
      | (refine drawIt ?_; kernel_rfl)
      | ((with_reducible refine opsF_id ?_); simp -implicitDefEqProofs only [go_sem, cfgT, keyT, u32T, i64T, booT, zK_eq, tk, rn, nb])
      | ((with_reducible refine SW.id ?_); first | with_reducible refine SW.seqK fun K hK => ?_ | with_reducible refine SW.block ?_ | with_reducible refine SW.scope ?_ | ((first | with_reducible refine SW.skip ?_ | with_reducible refine SW.exit ?_ | with_reducible refine SW.label ?_ | with_reducible refine SW.ret ?_ | with_reducible refine SW.go MR2 ?_ | refine SW.goDrawF MR2 (by rfl) (by kernel_rfl) ?_); simp -implicitDefEqProofs only [go_sem, cfgT, keyT, u32T, i64T, booT, zK_eq, tk, rn, nb]) | (refine SW.cond (by simp -implicitDefEqProofs only [go_sem, cfgT, keyT, u32T, i64T, booT, zK_eq, tk, rn, nb]; rfl) (fun ht => ?_) (fun ht => ?_) <;> (try with_reducible contradiction))))
    all_goals first | rfl | skip
    all_goals trace_state
  · rw [if_neg h0] at q1 ⊢
    simp only [stT, aliceS, cfgT, keyT, u32T, i64T, booT, List.map_nil] at q1
    repeat' (first
      | apply_assumption -exfalso -symm (transparency := .reducible) only [*]
      | (refine callEnd_of q1 ?_ <;> (try simp -implicitDefEqProofs only [go_sem, cfgT, keyT, u32T, i64T, booT, zK_eq]))
      | (with_reducible refine And.intro ?_ ?_)
      | (refine drawIt ?_; kernel_rfl)
      | ((with_reducible refine opsF_id ?_); simp -implicitDefEqProofs only [go_sem, cfgT, keyT, u32T, i64T, booT, zK_eq])
      | ((with_reducible refine SW.id ?_); first | with_reducible refine SW.seqK fun K hK => ?_ | with_reducible refine SW.block ?_ | with_reducible refine SW.scope ?_ | ((first | with_reducible refine SW.skip ?_ | with_reducible refine SW.exit ?_ | with_reducible refine SW.label ?_ | with_reducible refine SW.ret ?_ | with_reducible refine SW.go MR2 ?_ | refine SW.goDrawF MR2 (by rfl) (by kernel_rfl) ?_); simp -implicitDefEqProofs only [go_sem, cfgT, keyT, u32T, i64T, booT, zK_eq]) | (refine SW.cond (by simp -implicitDefEqProofs only [go_sem, cfgT, keyT, u32T, i64T, booT, zK_eq]; rfl) (fun ht => ?_) (fun ht => ?_) <;> (try with_reducible contradiction))))
    all_goals first | rfl | skip
    all_goals trace_state
theorem bobP_FS (c : Cfg) (sh hA hB r u : List Nat) (h1 : KeyOk sh) (h2 : KeyOk hA) (h3 : KeyOk hB) (h4 : KeyOk r) (h5 : KeyOk u) :
    FS Try.prog 24 [keyT sh, keyT hA, keyT hB, .agg [keyT r, keyT u], cfgT c] (.ret [sideT (bobN c r u) (bobS c sh hA hB r u), i64T (bobN c r u)] [none, none, none, none, none]) := by
  refine FS_of_SW (kb := [false, false, false, false, false]) (st0 := ?st) Try.func24 rfl rfl ?he ?_
  case he =>
    simp only [entrySt, cfgT, keyT, u32T, i64T, booT, unfs, unf, A.noown, noowns, nA_noowns, bA_noowns, Option.map_some, if_true, reduceIte, List.nil_append, List.append_nil]
    rfl
  have q1 := from7_FS false (bobS c sh hA hB r u) (bob_ok h1 h2 h3 h4 h5) (by simp [bobS])
  rw [bob_check] at q1
  refine SW.weak (Weak.of [] (sls := [(0, keyT sh), (1, keyT hA), (2, keyT hB), (3, .agg [keyT r, keyT u]), (4, cfgT c)]) (bks := []) (ep := 64) (by rfl) (by repeat' (first | exact rfl | exact trivial | refine And.intro ?_ ?_)) trivial) ?_
  unfold sideT
  generalize bobN c r u = n at *
  have tk (m : Nat) (rm : List Nat) := tk_rat (bor := true) (m := m) (s := bobS c sh hA hB r u) (rm := rm)
  have rn (π : Nat → Option Nat) := ren_rat (π := π) (s := bobS c sh hA hB r u)
  have nb := rat_nobor (s := bobS c sh hA hB r u)
  generalize hr : ratT (bobS c sh hA hB r u) = z at q1 tk rn nb ⊢
  clear hr
  by_cases h0 : n = 0
  · rw [if_pos h0] at q1 ⊢
    simp only [stT, bobS, cfgT, keyT, u32T, i64T, booT, List.map_nil] at q1
    repeat' (first
      | apply_assumption -exfalso -symm (transparency := .reducible) only [*]
      | (refine callEnd_of q1 ?_ <;> (try simp -implicitDefEqProofs only [go_sem, cfgT, keyT, u32T, i64T, booT, zK_eq, tk, rn, nb]))
      | (with_reducible refine And.intro ?_ ?_)
      | (refine drawIt ?_; kernel_rfl)
      | ((with_reducible refine opsF_id ?_); simp -implicitDefEqProofs only [go_sem, cfgT, keyT, u32T, i64T, booT, zK_eq, tk, rn, nb])
      | ((with_reducible refine SW.id ?_); first | with_reducible refine SW.seqK fun K hK => ?_ | with_reducible refine SW.block ?_ | with_reducible refine SW.scope ?_ | ((first | with_reducible refine SW.skip ?_ | with_reducible refine SW.exit ?_ | with_reducible refine SW.label ?_ | with_reducible refine SW.ret ?_ | with_reducible refine SW.go MR2 ?_ | refine SW.goDrawF MR2 (by rfl) (by kernel_rfl) ?_); simp -implicitDefEqProofs only [go_sem, cfgT, keyT, u32T, i64T, booT, zK_eq, tk, rn, nb]) | (refine SW.cond (by simp -implicitDefEqProofs only [go_sem, cfgT, keyT, u32T, i64T, booT, zK_eq, tk, rn, nb]; rfl) (fun ht => ?_) (fun ht => ?_) <;> (try with_reducible contradiction))))
    all_goals first | rfl | skip
    all_goals trace_state
  · rw [if_neg h0] at q1 ⊢
    simp only [stT, bobS, cfgT, keyT, u32T, i64T, booT, List.map_nil] at q1
    repeat' (first
      | apply_assumption -exfalso -symm (transparency := .reducible) only [*]
      | (refine callEnd_of q1 ?_ <;> (try simp -implicitDefEqProofs only [go_sem, cfgT, keyT, u32T, i64T, booT, zK_eq]))
      | (with_reducible refine And.intro ?_ ?_)
      | (refine drawIt ?_; kernel_rfl)
      | ((with_reducible refine opsF_id ?_); simp -implicitDefEqProofs only [go_sem, cfgT, keyT, u32T, i64T, booT, zK_eq])
      | ((with_reducible refine SW.id ?_); first | with_reducible refine SW.seqK fun K hK => ?_ | with_reducible refine SW.block ?_ | with_reducible refine SW.scope ?_ | ((first | with_reducible refine SW.skip ?_ | with_reducible refine SW.exit ?_ | with_reducible refine SW.label ?_ | with_reducible refine SW.ret ?_ | with_reducible refine SW.go MR2 ?_ | refine SW.goDrawF MR2 (by rfl) (by kernel_rfl) ?_); simp -implicitDefEqProofs only [go_sem, cfgT, keyT, u32T, i64T, booT, zK_eq]) | (refine SW.cond (by simp -implicitDefEqProofs only [go_sem, cfgT, keyT, u32T, i64T, booT, zK_eq]; rfl) (fun ht => ?_) (fun ht => ?_) <;> (try with_reducible contradiction))))
    all_goals first | rfl | skip
    all_goals trace_state
theorem aliceD_FS (c : Cfg) (sh hA hB pe : List Nat) :
    FS Try.prog 23 [keyT sh, keyT hA, keyT hB, keyT pe, cfgT c] (.ret [stT (stN (cfgN c) (aliceS c sh hA hB pe)) (.osl 65 []), i64T (cfgN c)] [none, none, none, none, none]) := by
  refine FS_of_SW (kb := [false, false, false, false, false]) (st0 := ?st) Try.func23 rfl rfl ?he ?_
  case he =>
    simp only [entrySt, cfgT, keyT, u32T, i64T, booT, unfs, unf, A.noown, noowns, nA_noowns, bA_noowns, Option.map_some, if_true, reduceIte, List.nil_append, List.append_nil]
    rfl
  have q1 := config_FS c
  simp only [cfgT, i64T] at q1
  refine SW.weak (Weak.of [] (sls := [(0, keyT sh), (1, keyT hA), (2, keyT hB), (3, keyT pe), (4, cfgT c)]) (bks := []) (ep := 64) (by rfl) (by repeat' (first | exact rfl | exact trivial | refine And.intro ?_ ?_)) trivial) ?_
  unfold stN
  generalize cfgN c = n at *
  by_cases h0 : n = 0
  · rw [if_pos h0]
    subst h0
    repeat' (first
      | apply_assumption -exfalso -symm (transparency := .reducible) only [*]
      | (refine callEnd_of q1 ?_ <;> (try simp -implicitDefEqProofs only [go_sem, cfgT, keyT, u32T, i64T, booT, zK_eq, stT, aliceS]))
      | (with_reducible refine And.intro ?_ ?_)
      | (refine drawIt ?_; kernel_rfl)
      | ((with_reducible refine opsF_id ?_); simp -implicitDefEqProofs only [go_sem, cfgT, keyT, u32T, i64T, booT, zK_eq, stT, aliceS])
      | ((with_reducible refine SW.id ?_); first | with_reducible refine SW.seqK fun K hK => ?_ | with_reducible refine SW.block ?_ | with_reducible refine SW.scope ?_ | ((first | with_reducible refine SW.skip ?_ | with_reducible refine SW.exit ?_ | with_reducible refine SW.label ?_ | with_reducible refine SW.ret ?_ | with_reducible refine SW.go MR2 ?_ | refine SW.goDrawF MR2 (by rfl) (by kernel_rfl) ?_); simp -implicitDefEqProofs only [go_sem, cfgT, keyT, u32T, i64T, booT, zK_eq, stT, aliceS]) | (refine SW.cond (by simp -implicitDefEqProofs only [go_sem, cfgT, keyT, u32T, i64T, booT, zK_eq, stT, aliceS]; rfl) (fun ht => ?_) (fun ht => ?_) <;> (try with_reducible contradiction))))
    all_goals first | rfl | skip
    all_goals trace_state
  · rw [if_neg h0]
    have hc : (n != 0) = true := by simp [h0]
    repeat' (first
      | apply_assumption -exfalso -symm (transparency := .reducible) only [*]
      | (refine callEnd_of q1 ?_ <;> (try simp -implicitDefEqProofs only [go_sem, cfgT, keyT, u32T, i64T, booT, zK_eq, stT, zS, hc]))
      | (with_reducible refine And.intro ?_ ?_)
      | (refine drawIt ?_; kernel_rfl)
      | ((with_reducible refine opsF_id ?_); simp -implicitDefEqProofs only [go_sem, cfgT, keyT, u32T, i64T, booT, zK_eq, stT, zS, hc])
      | ((with_reducible refine SW.id ?_); first | with_reducible refine SW.seqK fun K hK => ?_ | with_reducible refine SW.block ?_ | with_reducible refine SW.scope ?_ | ((first | with_reducible refine SW.skip ?_ | with_reducible refine SW.exit ?_ | with_reducible refine SW.label ?_ | with_reducible refine SW.ret ?_ | with_reducible refine SW.go MR2 ?_ | refine SW.goDrawF MR2 (by rfl) (by kernel_rfl) ?_); simp -implicitDefEqProofs only [go_sem, cfgT, keyT, u32T, i64T, booT, zK_eq, stT, zS, hc]) | (refine SW.cond (by simp -implicitDefEqProofs only [go_sem, cfgT, keyT, u32T, i64T, booT, zK_eq, stT, zS, hc]; rfl) (fun ht => ?_) (fun ht => ?_) <;> (try with_reducible contradiction))))
    all_goals first | rfl | skip
    all_goals trace_state
theorem bobD_FS (c : Cfg) (sh hA hB r u : List Nat) (h4 : KeyOk r) (h5 : KeyOk u) :
    FS Try.prog 25 [keyT sh, keyT hA, keyT hB, .agg [keyT r, keyT u], cfgT c] (.ret [stT (stN (bobN c r u) (bobS c sh hA hB r u)) (.osl 65 []), i64T (bobN c r u)] [none, none, none, none, none]) := by
  refine FS_of_SW (kb := [false, false, false, false, false]) (st0 := ?st) Try.func25 rfl rfl ?he ?_
  case he =>
    simp only [entrySt, cfgT, keyT, u32T, i64T, booT, unfs, unf, A.noown, noowns, nA_noowns, bA_noowns, Option.map_some, if_true, reduceIte, List.nil_append, List.append_nil]
    rfl
  have q1 := config_FS c
  have q2 := isPair_FS r u h4.len h4.lt h5.len
  simp only [cfgT, i64T] at q1
  refine SW.weak (Weak.of [] (sls := [(0, keyT sh), (1, keyT hA), (2, keyT hB), (3, .agg [keyT r, keyT u]), (4, cfgT c)]) (bks := []) (ep := 64) (by rfl) (by repeat' (first | exact rfl | exact trivial | refine And.intro ?_ ?_)) trivial) ?_
  by_cases h0 : cfgN c = 0
  · rw [h0] at q1
    cases hp : pairB r u
    · rw [bobN_f h0 hp]
      rw [hp] at q2
      unfold stN
      rw [if_neg (by decide)]
      repeat' (first
        | apply_assumption -exfalso -symm (transparency := .reducible) only [*]
        | (refine callEnd_of q1 ?_ <;> (try simp -implicitDefEqProofs only [go_sem, cfgT, keyT, u32T, i64T, booT, zK_eq, stT, zS]))
        | (refine callEnd_of q2 ?_ <;> (try simp -implicitDefEqProofs only [go_sem, cfgT, keyT, u32T, i64T, booT, zK_eq, stT, zS]))
        | (with_reducible refine And.intro ?_ ?_)
        | (refine drawIt ?_; kernel_rfl)
        | ((with_reducible refine opsF_id ?_); simp -implicitDefEqProofs only [go_sem, cfgT, keyT, u32T, i64T, booT, zK_eq, stT, zS])
        | ((with_reducible refine SW.id ?_); first | with_reducible refine SW.seqK fun K hK => ?_ | with_reducible refine SW.block ?_ | with_reducible refine SW.scope ?_ | ((first | with_reducible refine SW.skip ?_ | with_reducible refine SW.exit ?_ | with_reducible refine SW.label ?_ | with_reducible refine SW.ret ?_ | with_reducible refine SW.go MR2 ?_ | refine SW.goDrawF MR2 (by rfl) (by kernel_rfl) ?_); simp -implicitDefEqProofs only [go_sem, cfgT, keyT, u32T, i64T, booT, zK_eq, stT, zS]) | (refine SW.cond (by simp -implicitDefEqProofs only [go_sem, cfgT, keyT, u32T, i64T, booT, zK_eq, stT, zS]; rfl) (fun ht => ?_) (fun ht => ?_) <;> (try with_reducible contradiction))))
      all_goals first | rfl | skip
      all_goals trace_state
    · rw [bobN_t h0 hp]
      rw [hp] at q2
      unfold stN
      rw [if_pos rfl]
      repeat' (first
        | apply_assumption -exfalso -symm (transparency := .reducible) only [*]
        | (refine callEnd_of q1 ?_ <;> (try simp -implicitDefEqProofs only [go_sem, cfgT, keyT, u32T, i64T, booT, zK_eq, stT, bobS]))
        | (refine callEnd_of q2 ?_ <;> (try simp -implicitDefEqProofs only [go_sem, cfgT, keyT, u32T, i64T, booT, zK_eq, stT, bobS]))
        | (with_reducible refine And.intro ?_ ?_)
        | (refine drawIt ?_; kernel_rfl)
        | ((with_reducible refine opsF_id ?_); simp -implicitDefEqProofs only [go_sem, cfgT, keyT, u32T, i64T, booT, zK_eq, stT, bobS])
        | ((with_reducible refine SW.id ?_); first | with_reducible refine SW.seqK fun K hK => ?_ | with_reducible refine SW.block ?_ | with_reducible refine SW.scope ?_ | ((first | with_reducible refine SW.skip ?_ | with_reducible refine SW.exit ?_ | with_reducible refine SW.label ?_ | with_reducible refine SW.ret ?_ | with_reducible refine SW.go MR2 ?_ | refine SW.goDrawF MR2 (by rfl) (by kernel_rfl) ?_); simp -implicitDefEqProofs only [go_sem, cfgT, keyT, u32T, i64T, booT, zK_eq, stT, bobS]) | (refine SW.cond (by simp -implicitDefEqProofs only [go_sem, cfgT, keyT, u32T, i64T, booT, zK_eq, stT, bobS]; rfl) (fun ht => ?_) (fun ht => ?_) <;> (try with_reducible contradiction))))
      all_goals first | rfl | skip
      all_goals trace_state
  · rw [bobN_c h0]
    unfold stN
    rw [if_neg h0]
    generalize cfgN c = n at *
    have hc : (n != 0) = true := by simp [h0]
    repeat' (first
      | apply_assumption -exfalso -symm (transparency := .reducible) only [*]
      | (refine callEnd_of q1 ?_ <;> (try simp -implicitDefEqProofs only [go_sem, cfgT, keyT, u32T, i64T, booT, zK_eq, stT, zS, hc]))
      | (refine callEnd_of q2 ?_ <;> (try simp -implicitDefEqProofs only [go_sem, cfgT, keyT, u32T, i64T, booT, zK_eq, stT, zS, hc]))
      | (with_reducible refine And.intro ?_ ?_)
      | (refine drawIt ?_; kernel_rfl)
      | ((with_reducible refine opsF_id ?_); simp -implicitDefEqProofs only [go_sem, cfgT, keyT, u32T, i64T, booT, zK_eq, stT, zS, hc])
      | ((with_reducible refine SW.id ?_); first | with_reducible refine SW.seqK fun K hK => ?_ | with_reducible refine SW.block ?_ | with_reducible refine SW.scope ?_ | ((first | with_reducible refine SW.skip ?_ | with_reducible refine SW.exit ?_ | with_reducible refine SW.label ?_ | with_reducible refine SW.ret ?_ | with_reducible refine SW.go MR2 ?_ | refine SW.goDrawF MR2 (by rfl) (by kernel_rfl) ?_); simp -implicitDefEqProofs only [go_sem, cfgT, keyT, u32T, i64T, booT, zK_eq, stT, zS, hc]) | (refine SW.cond (by simp -implicitDefEqProofs only [go_sem, cfgT, keyT, u32T, i64T, booT, zK_eq, stT, zS, hc]; rfl) (fun ht => ?_) (fun ht => ?_) <;> (try with_reducible contradiction))))
    all_goals first | rfl | skip
    all_goals trace_state
end Go.PA
