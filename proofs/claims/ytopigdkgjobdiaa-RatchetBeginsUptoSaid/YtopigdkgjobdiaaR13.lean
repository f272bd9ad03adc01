/- States of a ratchet: trees, configs, spares twice, copies. -/
import Derived.Test.YtopigdkgjobdiaaR10
namespace Go.PA
open Go.Proofs Go.Fe
set_option linter.unusedSimpArgs false
set_option linter.unusedVariables false
set_option maxRecDepth 100000
set_option maxHeartbeats 4000000
attribute [local go_sem] MR getP setP takesW
attribute [-go_sem] takeA roA

structure Sp where
  h : List Nat
  n : Nat
  m : List Nat
deriving Inhabited, DecidableEq
structure Cfg where
  version : Int
  skip : Int
  store : Int
deriving Inhabited, DecidableEq
structure StS where
  cfg : Cfg
  root : List Nat
  ownR : List Nat
  ownU : List Nat
  peer : List Nat
  hasOwn : Bool
  hasPeer : Bool
  turn : Bool
  send : List Nat
  sendHeader : List Nat
  nextSend : List Nat
  sendN : Nat
  prev : Nat
  hasSend : Bool
  recv : List Nat
  recvHeader : List Nat
  nextRecv : List Nat
  recvN : Nat
  hasRecv : Bool
  spares : List Sp
deriving Inhabited, DecidableEq

def keyT (k : List Nat) : A := .arr 32 (bA k)
def u32T (n : Nat) : A := .v (.int .u32 (n : Int))
def i64T (n : Int) : A := .v (.int .i64 n)
def booT (b : Bool) : A := .v (.bool b)
def cfgT (c : Cfg) : A := .agg [i64T c.version, i64T c.skip, i64T c.store]
def spT (x : Sp) : A := .agg [keyT x.h, u32T x.n, keyT x.m]
def plT (x : Sp) : A := .agg [keyT x.h, u32T x.n]
def msT (x : Sp) : A := keyT x.m
def stT (s : StS) (sp : A) : A := .agg [cfgT s.cfg, keyT s.root, .agg [keyT s.ownR, keyT s.ownU], keyT s.peer, booT s.hasOwn, booT s.hasPeer, booT s.turn, keyT s.send, keyT s.sendHeader, keyT s.nextSend,
  u32T s.sendN, u32T s.prev, booT s.hasSend, keyT s.recv, keyT s.recvHeader, keyT s.nextRecv, u32T s.recvN, booT s.hasRecv, sp]

structure KeyOk (k : List Nat) : Prop where
  len : k.length = 32
  lt : ∀ x ∈ k, x < 256
structure SpOk (x : Sp) : Prop where
  h : KeyOk x.h
  n : x.n < 4294967296
  m : KeyOk x.m
structure StOk (s : StS) : Prop where
  root : KeyOk s.root
  ownR : KeyOk s.ownR
  ownU : KeyOk s.ownU
  peer : KeyOk s.peer
  send : KeyOk s.send
  sendHeader : KeyOk s.sendHeader
  nextSend : KeyOk s.nextSend
  sendN : s.sendN < 4294967296
  prev : s.prev < 4294967296
  recv : KeyOk s.recv
  recvHeader : KeyOk s.recvHeader
  nextRecv : KeyOk s.nextRecv
  recvN : s.recvN < 4294967296
  spares : ∀ x ∈ s.spares, SpOk x

def zeroK : List Nat := List.replicate 32 0
def cfgN (c : Cfg) : Int := if c.version ≠ 1 ∧ c.version ≠ 2 then 100 else if c.skip < 0 ∨ 1000 < c.skip ∨ c.store < 0 ∨ 2000 < c.store then 1 else 0

theorem config_FS (c : Cfg) : FS Try.prog 12 [cfgT c] (.ret [i64T (cfgN c)] [none]) := by
  refine FS_of_SW (kb := [false]) Try.func12 rfl rfl (by rfl) ?_
  obtain ⟨a, b, d⟩ := c
  unfold cfgN
  dsimp only
  refine SW.weak (Weak.of [] (sls := [(0, .agg [.v (.int .i64 a), .v (.int .i64 b), .v (.int .i64 d)])]) (bks := []) (ep := 64) (by rfl) (by repeat' (first | exact rfl | exact trivial | refine And.intro ?_ ?_)) trivial) ?_
  repeat' (first
    | apply_assumption -exfalso -symm (transparency := .reducible) only [*]
    | (with_reducible refine And.intro ?_ ?_)
    | (refine drawIt ?_; kernel_rfl)
    | ((with_reducible refine opsF_id ?_); simp -implicitDefEqProofs only [go_sem, i64T])
    | ((with_reducible refine SW.id ?_); first | with_reducible refine SW.seqK fun K hK => ?_ | with_reducible refine SW.block ?_ | with_reducible refine SW.scope ?_ | ((first | with_reducible refine SW.skip ?_ | with_reducible refine SW.exit ?_ | with_reducible refine SW.label ?_ | with_reducible refine SW.ret ?_ | with_reducible refine SW.go MR ?_ | refine SW.goDrawF MR (by rfl) (by kernel_rfl) ?_); simp -implicitDefEqProofs only [go_sem, i64T]) | (refine SW.cond (by simp -implicitDefEqProofs only [go_sem, i64T]; rfl) (fun ht => ?_) (fun ht => ?_) <;> (try simp only [decide_eq_true_eq, decide_eq_false_iff_not, beq_iff_eq, bne_iff_ne, beq_eq_false_iff_ne, bne_eq_false_iff_eq, Bool.or_eq_true, Bool.and_eq_true, Bool.or_eq_false_iff, Bool.and_eq_false_imp, Bool.not_eq_true, Bool.not_eq_false, Bool.not_true, Bool.not_false, Bool.not_eq_true', Bool.not_eq_false', Bool.or_false, Bool.false_or, Bool.or_true, Bool.true_or, Bool.and_true, Bool.true_and, reduceCtorEq] at ht) <;> (try with_reducible contradiction)))
    | ((with_reducible refine guardSplit (fun hg => ?_) (fun hg => ?_)) <;> (try simp only [Bool.not_true, Bool.not_false] at hg) <;> (have hc := hg) <;> simp -implicitDefEqProofs only [go_sem, hg, i64T] <;> (try simp only [decide_eq_true_eq, decide_eq_false_iff_not, beq_iff_eq, bne_iff_ne, beq_eq_false_iff_ne, bne_eq_false_iff_eq, Bool.or_eq_true, Bool.and_eq_true, Bool.or_eq_false_iff, Bool.and_eq_false_imp, Bool.not_eq_true, Bool.not_eq_false, Bool.not_true, Bool.not_false, Bool.not_eq_true', Bool.not_eq_false', Bool.or_false, Bool.false_or, Bool.or_true, Bool.true_or, Bool.and_true, Bool.true_and, reduceCtorEq] at hc) <;> (try with_reducible contradiction)))
  all_goals first | omega | (split <;> first | rfl | omega | (split <;> first | rfl | omega)) | skip
  all_goals trace_state

theorem valid_FS (c : Cfg) : FS Try.prog 17 [cfgT c] (.ret [i64T (cfgN c)] [none]) := by
  refine FS_of_SW (kb := [false]) Try.func17 rfl rfl (by rfl) ?_
  obtain ⟨a, b, d⟩ := c
  unfold cfgN
  dsimp only
  refine SW.weak (Weak.of [] (sls := [(0, .agg [.v (.int .i64 a), .v (.int .i64 b), .v (.int .i64 d)])]) (bks := []) (ep := 64) (by rfl) (by repeat' (first | exact rfl | exact trivial | refine And.intro ?_ ?_)) trivial) ?_
  repeat' (first
    | apply_assumption -exfalso -symm (transparency := .reducible) only [*]
    | (with_reducible refine And.intro ?_ ?_)
    | (refine drawIt ?_; kernel_rfl)
    | ((with_reducible refine opsF_id ?_); simp -implicitDefEqProofs only [go_sem, i64T])
    | ((with_reducible refine SW.id ?_); first | with_reducible refine SW.seqK fun K hK => ?_ | with_reducible refine SW.block ?_ | with_reducible refine SW.scope ?_ | ((first | with_reducible refine SW.skip ?_ | with_reducible refine SW.exit ?_ | with_reducible refine SW.label ?_ | with_reducible refine SW.ret ?_ | with_reducible refine SW.go MR ?_ | refine SW.goDrawF MR (by rfl) (by kernel_rfl) ?_); simp -implicitDefEqProofs only [go_sem, i64T]) | (refine SW.cond (by simp -implicitDefEqProofs only [go_sem, i64T]; rfl) (fun ht => ?_) (fun ht => ?_) <;> (try simp only [decide_eq_true_eq, decide_eq_false_iff_not, beq_iff_eq, bne_iff_ne, beq_eq_false_iff_ne, bne_eq_false_iff_eq, Bool.or_eq_true, Bool.and_eq_true, Bool.or_eq_false_iff, Bool.and_eq_false_imp, Bool.not_eq_true, Bool.not_eq_false, Bool.not_true, Bool.not_false, Bool.not_eq_true', Bool.not_eq_false', Bool.or_false, Bool.false_or, Bool.or_true, Bool.true_or, Bool.and_true, Bool.true_and, reduceCtorEq] at ht) <;> (try with_reducible contradiction)))
    | ((with_reducible refine guardSplit (fun hg => ?_) (fun hg => ?_)) <;> (try simp only [Bool.not_true, Bool.not_false] at hg) <;> (have hc := hg) <;> simp -implicitDefEqProofs only [go_sem, hg, i64T] <;> (try simp only [decide_eq_true_eq, decide_eq_false_iff_not, beq_iff_eq, bne_iff_ne, beq_eq_false_iff_ne, bne_eq_false_iff_eq, Bool.or_eq_true, Bool.and_eq_true, Bool.or_eq_false_iff, Bool.and_eq_false_imp, Bool.not_eq_true, Bool.not_eq_false, Bool.not_true, Bool.not_false, Bool.not_eq_true', Bool.not_eq_false', Bool.or_false, Bool.false_or, Bool.or_true, Bool.true_or, Bool.and_true, Bool.true_and, reduceCtorEq] at hc) <;> (try with_reducible contradiction)))
  all_goals first | omega | (split <;> first | rfl | omega | (split <;> first | rfl | omega)) | skip
  all_goals trace_state

def plcS (x : Sp) : List Nat × Nat := (x.h, x.n)
def dupB (l : List Sp) : Bool := !decide ((l.map plcS).Nodup)
theorem spT_sz (x : Sp) : (spT x).sz = 65 := rfl
theorem idx_sp {q : Bool} {l : List Sp} {n : Int} {bk : Nat → Option Blk} {K : Eff → List Nat → Prop} {acc : List Nat} :
    (aIndexAddr Try.prog 29 (.sl q (l.map spT)) n).wpA bk K acc = ((0 ≤ n ∧ n < l.length) ∧ K ⟨.rp q (spT (l.getD n.toNat default)), [], []⟩ acc) := idx_map spT_sz rfl
attribute [go_sem] idx_sp
theorem nodup_snoc {l : List Sp} {i : Nat} (hi : i < l.length) (h1 : ((l.take i).map plcS).Nodup) (h2 : ∀ k, k < i → plcS (l.getD k default) ≠ plcS (l.getD i default)) : ((l.take (i + 1)).map plcS).Nodup := by
  rw [List.take_add_one, List.getElem?_eq_getElem hi, Option.toList_some, List.map_append, List.nodup_append]
  refine ⟨h1, by simp, fun a ha b hb => ?_⟩
  simp only [List.map_cons, List.map_nil, List.mem_singleton] at hb
  subst hb
  obtain ⟨x, hx, rfl⟩ := List.mem_map.1 ha
  obtain ⟨k, hk, rfl⟩ := List.mem_iff_getElem.1 hx
  rw [List.length_take] at hk
  have := h2 k (by omega)
  rw [List.getD_eq_getElem?_getD, List.getElem?_eq_getElem (by omega), List.getD_eq_getElem?_getD, List.getElem?_eq_getElem hi] at this
  rw [List.getElem_take]
  exact this
theorem not_nodup {l : List Sp} {i j : Nat} (hi : i < l.length) (hj : j < i) (h : plcS (l.getD i default) = plcS (l.getD j default)) : ¬ (l.map plcS).Nodup := by
  intro hn
  have h3 := (List.pairwise_iff_getElem.1 hn) j i (by simp; omega) (by simp; omega) hj
  rw [List.getD_eq_getElem?_getD, List.getElem?_eq_getElem hi, List.getD_eq_getElem?_getD, List.getElem?_eq_getElem (by omega)] at h
  simp only [List.getElem_map] at h3
  exact h3 h.symm

theorem twice_FS (q : Bool) (l : List Sp) (hl : ∀ x ∈ l, SpOk x) (hlen : l.length < 2 ^ 40) : FS Try.prog 14 [.sl q (l.map spT)] (.ret [booT (dupB l)] [none]) := by
  refine FS_of_SW (kb := [false]) Try.func14 rfl rfl (by rfl) ?_
  refine SW.weak (Weak.of [] (sls := [(0, .sl q (l.map spT))]) (bks := []) (ep := 64) (by rfl) (by repeat' (first | exact rfl | exact trivial | refine And.intro ?_ ?_)) trivial) ?_
  have hget : ∀ i, i < l.length → SpOk (l.getD i default) := fun i hi => by
    rw [List.getD_eq_getElem?_getD, List.getElem?_eq_getElem hi]
    exact hl _ (List.getElem_mem hi)
  repeat' (first
    | apply_assumption -exfalso -symm (transparency := .reducible) only [*]
    | with_reducible refine SW.stopI 1 ?_
    | (with_reducible refine And.intro ?_ ?_)
    | (refine drawIt ?_; kernel_rfl)
    | ((with_reducible refine opsF_id ?_); simp -implicitDefEqProofs only [go_sem])
    | ((with_reducible refine SW.id ?_); first | with_reducible refine SW.seqK fun K hK => ?_ | with_reducible refine SW.block ?_ | with_reducible refine SW.scope ?_ | ((first | with_reducible refine SW.skip ?_ | with_reducible refine SW.exit ?_ | with_reducible refine SW.label ?_ | with_reducible refine SW.ret ?_ | with_reducible refine SW.go MR ?_ | refine SW.goDrawF MR (by rfl) (by kernel_rfl) ?_); simp -implicitDefEqProofs only [go_sem]) | (refine SW.cond (by simp -implicitDefEqProofs only [go_sem]; rfl) (fun ht => ?_) (fun ht => ?_) <;> (try simp only [decide_eq_true_eq, decide_eq_false_iff_not, beq_iff_eq, bne_iff_ne, beq_eq_false_iff_ne, bne_eq_false_iff_eq, Bool.or_eq_true, Bool.and_eq_true, Bool.or_eq_false_iff, Bool.and_eq_false_imp, Bool.not_eq_true, Bool.not_eq_false, Bool.not_true, Bool.not_false, Bool.not_eq_true', Bool.not_eq_false', Bool.or_false, Bool.false_or, Bool.or_true, Bool.true_or, Bool.and_true, Bool.true_and, reduceCtorEq] at ht) <;> (try with_reducible contradiction)))
    | ((with_reducible refine guardSplit (fun hg => ?_) (fun hg => ?_)) <;> (try simp only [Bool.not_true, Bool.not_false] at hg) <;> (have hc := hg) <;> simp -implicitDefEqProofs only [go_sem, hg] <;> (try simp only [decide_eq_true_eq, decide_eq_false_iff_not, beq_iff_eq, bne_iff_ne, beq_eq_false_iff_ne, bne_eq_false_iff_eq, Bool.or_eq_true, Bool.and_eq_true, Bool.or_eq_false_iff, Bool.and_eq_false_imp, Bool.not_eq_true, Bool.not_eq_false, Bool.not_true, Bool.not_false, Bool.not_eq_true', Bool.not_eq_false', Bool.or_false, Bool.false_or, Bool.or_true, Bool.true_or, Bool.and_true, Bool.true_and, reduceCtorEq] at hc) <;> (try with_reducible contradiction)))
  refine Stop.go ?_
  refine SW.cutS (γ := PLift ((l.map plcS).Nodup)) (fun _ => St.of [] [] 64) (fun K hK => ?_) fun ⟨hn⟩ => ?_
  · repeat' (first
      | apply_assumption -exfalso -symm (transparency := .reducible) only [*]
      | (with_reducible refine And.intro ?_ ?_)
      | (refine drawIt ?_; kernel_rfl)
      | ((with_reducible refine opsF_id ?_); simp -implicitDefEqProofs only [go_sem])
      | ((with_reducible refine SW.id ?_); first | with_reducible refine SW.seqK fun K hK => ?_ | with_reducible refine SW.block ?_ | with_reducible refine SW.scope ?_ | ((first | with_reducible refine SW.skip ?_ | with_reducible refine SW.exit ?_ | with_reducible refine SW.label ?_ | with_reducible refine SW.ret ?_ | with_reducible refine SW.go MR ?_ | refine SW.goDrawF MR (by rfl) (by kernel_rfl) ?_); simp -implicitDefEqProofs only [go_sem]) | (refine SW.cond (by simp -implicitDefEqProofs only [go_sem]; rfl) (fun ht => ?_) (fun ht => ?_) <;> (try simp only [decide_eq_true_eq, decide_eq_false_iff_not, beq_iff_eq, bne_iff_ne, beq_eq_false_iff_ne, bne_eq_false_iff_eq, Bool.or_eq_true, Bool.and_eq_true, Bool.or_eq_false_iff, Bool.and_eq_false_imp, Bool.not_eq_true, Bool.not_eq_false, Bool.not_true, Bool.not_false, Bool.not_eq_true', Bool.not_eq_false', Bool.or_false, Bool.false_or, Bool.or_true, Bool.true_or, Bool.and_true, Bool.true_and, reduceCtorEq] at ht) <;> (try with_reducible contradiction)))
      | ((with_reducible refine guardSplit (fun hg => ?_) (fun hg => ?_)) <;> (try simp only [Bool.not_true, Bool.not_false] at hg) <;> (have hc := hg) <;> simp -implicitDefEqProofs only [go_sem, hg] <;> (try simp only [decide_eq_true_eq, decide_eq_false_iff_not, beq_iff_eq, bne_iff_ne, beq_eq_false_iff_ne, bne_eq_false_iff_eq, Bool.or_eq_true, Bool.and_eq_true, Bool.or_eq_false_iff, Bool.and_eq_false_imp, Bool.not_eq_true, Bool.not_eq_false, Bool.not_true, Bool.not_false, Bool.not_eq_true', Bool.not_eq_false', Bool.or_false, Bool.false_or, Bool.or_true, Bool.true_or, Bool.and_true, Bool.true_and, reduceCtorEq] at hc) <;> (try with_reducible contradiction)))
    refine SW.loop (α := { i : Nat // i ≤ l.length ∧ ((l.take i).map plcS).Nodup }) (fun i => St.of [(0, .sl q (l.map spT)), (3, .v (.int .i64 ((i.1 : Nat) : Int)))] [] 64) (fun i => l.length - i.1) ⟨0, by omega, by simp⟩
      (Weak.of [] (by rfl) ?_ ?_) fun ⟨i, hi, hnd⟩ => ?_
    · simp -implicitDefEqProofs only [go_sem]
      all_goals (repeat' (first | exact rfl | exact trivial | refine And.intro ?_ ?_))
    · simp -implicitDefEqProofs only [go_sem]
    · rcases Nat.lt_or_eq_of_le hi with h4 | h4
      · have hc := eq_true (show (i : Int) < (l.length : Int) by omega)
        have h5 := i64_up (a := i) (by omega)
        have oki := hget i h4
        dsimp only
        repeat' (first
          | apply_assumption -exfalso -symm (transparency := .reducible) only [*]
          | (with_reducible refine And.intro ?_ ?_)
          | (refine drawIt ?_; kernel_rfl)
          | ((with_reducible refine opsF_id ?_); simp -implicitDefEqProofs only [go_sem, hc, List.length_map])
          | ((with_reducible refine SW.id ?_); first | with_reducible refine SW.seqK fun K hK => ?_ | with_reducible refine SW.block ?_ | with_reducible refine SW.scope ?_ | ((first | with_reducible refine SW.skip ?_ | with_reducible refine SW.exit ?_ | with_reducible refine SW.label ?_ | with_reducible refine SW.ret ?_ | with_reducible refine SW.go MR ?_ | refine SW.goDrawF MR (by rfl) (by kernel_rfl) ?_); simp -implicitDefEqProofs only [go_sem, hc, List.length_map]) | (refine SW.cond (by simp -implicitDefEqProofs only [go_sem, hc, List.length_map]; rfl) (fun ht => ?_) (fun ht => ?_) <;> (try simp only [decide_eq_true_eq, decide_eq_false_iff_not, beq_iff_eq, bne_iff_ne, beq_eq_false_iff_ne, bne_eq_false_iff_eq, Bool.or_eq_true, Bool.and_eq_true, Bool.or_eq_false_iff, Bool.and_eq_false_imp, Bool.not_eq_true, Bool.not_eq_false, Bool.not_true, Bool.not_false, Bool.not_eq_true', Bool.not_eq_false', Bool.or_false, Bool.false_or, Bool.or_true, Bool.true_or, Bool.and_true, Bool.true_and, reduceCtorEq] at ht) <;> (try with_reducible contradiction)))
          | ((with_reducible refine guardSplit (fun hg => ?_) (fun hg => ?_)) <;> (try simp only [Bool.not_true, Bool.not_false] at hg) <;> (have hc := hg) <;> simp -implicitDefEqProofs only [go_sem, hg, hc, List.length_map] <;> (try simp only [decide_eq_true_eq, decide_eq_false_iff_not, beq_iff_eq, bne_iff_ne, beq_eq_false_iff_ne, bne_eq_false_iff_eq, Bool.or_eq_true, Bool.and_eq_true, Bool.or_eq_false_iff, Bool.and_eq_false_imp, Bool.not_eq_true, Bool.not_eq_false, Bool.not_true, Bool.not_false, Bool.not_eq_true', Bool.not_eq_false', Bool.or_false, Bool.false_or, Bool.or_true, Bool.true_or, Bool.and_true, Bool.true_and, reduceCtorEq] at hc) <;> (try with_reducible contradiction)))
        refine SW.loop (α := { j : Nat // j ≤ i ∧ ∀ k, k < j → plcS (l.getD k default) ≠ plcS (l.getD i default) }) (fun j => St.of [(0, .sl q (l.map spT)), (3, .v (.int .i64 ((i : Nat) : Int))), (4, .v (.int .i64 ((j.1 : Nat) : Int)))] [] 64) (fun j => i - j.1) ⟨0, by omega, fun k hk => by omega⟩
          (Weak.of [] (by rfl) ?_ ?_) fun ⟨j, hj, hne⟩ => ?_
        · simp -implicitDefEqProofs only [go_sem]
          all_goals (repeat' (first | exact rfl | exact trivial | refine And.intro ?_ ?_))
        · simp -implicitDefEqProofs only [go_sem]
        · rcases Nat.lt_or_eq_of_le hj with j4 | j4
          · have hc2 := eq_true (show (j : Int) < (i : Int) by omega)
            have h7 := i64_up (a := j) (by omega)
            have okj := hget j (by omega)
            have l1 := oki.h.len
            have l2 := okj.h.len
            have hdup : plcS (l.getD i default) = plcS (l.getD j default) → dupB l = true := fun h => by
              have := not_nodup h4 j4 h
              simp [dupB, this]
            have hnext : plcS (l.getD j default) ≠ plcS (l.getD i default) → ∀ k, k < j + 1 → plcS (l.getD k default) ≠ plcS (l.getD i default) := fun h k hk => by
              rcases Nat.lt_or_eq_of_le (Nat.le_of_lt_succ hk) with h2 | rfl
              · exact hne k h2
              · exact h
            unfold plcS at hdup hnext
            dsimp only
            clear hget oki okj hnd
            generalize hxi : l.getD i default = x at *
            generalize hyj : l.getD j default = y at *
            by_cases k1 : x.n = y.n
            · have c1 := eq_true (show (x.n : Int) = (y.n : Int) by omega)
              by_cases k2 : x.h = y.h
              · rw [hdup (by rw [k1, k2])]
                have c2 := eq_true k2
                repeat' (first
                  | apply_assumption -exfalso -symm (transparency := .reducible) only [*]
                  | (with_reducible refine And.intro ?_ ?_)
                  | (refine drawIt ?_; kernel_rfl)
                  | ((with_reducible refine opsF_id ?_); simp -implicitDefEqProofs only [go_sem, hc2, hxi, hyj, spT, u32T, keyT, booT, c1, c2, l1, l2])
                  | ((with_reducible refine SW.id ?_); first | with_reducible refine SW.seqK fun K hK => ?_ | with_reducible refine SW.block ?_ | with_reducible refine SW.scope ?_ | ((first | with_reducible refine SW.skip ?_ | with_reducible refine SW.exit ?_ | with_reducible refine SW.label ?_ | with_reducible refine SW.ret ?_ | with_reducible refine SW.go MR ?_ | refine SW.goDrawF MR (by rfl) (by kernel_rfl) ?_); simp -implicitDefEqProofs only [go_sem, hc2, hxi, hyj, spT, u32T, keyT, booT, c1, c2, l1, l2]) | (refine SW.cond (by simp -implicitDefEqProofs only [go_sem, hc2, hxi, hyj, spT, u32T, keyT, booT, c1, c2, l1, l2]; rfl) (fun ht => ?_) (fun ht => ?_) <;> (try simp only [decide_eq_true_eq, decide_eq_false_iff_not, beq_iff_eq, bne_iff_ne, beq_eq_false_iff_ne, bne_eq_false_iff_eq, Bool.or_eq_true, Bool.and_eq_true, Bool.or_eq_false_iff, Bool.and_eq_false_imp, Bool.not_eq_true, Bool.not_eq_false, Bool.not_true, Bool.not_false, Bool.not_eq_true', Bool.not_eq_false', Bool.or_false, Bool.false_or, Bool.or_true, Bool.true_or, Bool.and_true, Bool.true_and, reduceCtorEq] at ht) <;> (try with_reducible contradiction)))
                  | ((with_reducible refine guardSplit (fun hg => ?_) (fun hg => ?_)) <;> (try simp only [Bool.not_true, Bool.not_false] at hg) <;> (have hc := hg) <;> simp -implicitDefEqProofs only [go_sem, hg, hc2, hxi, hyj, spT, u32T, keyT, booT, c1, c2, l1, l2] <;> (try simp only [decide_eq_true_eq, decide_eq_false_iff_not, beq_iff_eq, bne_iff_ne, beq_eq_false_iff_ne, bne_eq_false_iff_eq, Bool.or_eq_true, Bool.and_eq_true, Bool.or_eq_false_iff, Bool.and_eq_false_imp, Bool.not_eq_true, Bool.not_eq_false, Bool.not_true, Bool.not_false, Bool.not_eq_true', Bool.not_eq_false', Bool.or_false, Bool.false_or, Bool.or_true, Bool.true_or, Bool.and_true, Bool.true_and, reduceCtorEq] at hc) <;> (try with_reducible contradiction)))
                all_goals first | omega | skip
              · have hn2 := hnext (fun h => k2 (by injection h with h1 h2; exact h1.symm))
                have c2 := eq_false k2
                repeat' (first
                  | apply_assumption -exfalso -symm (transparency := .reducible) only [*]
                  | (with_reducible refine And.intro ?_ ?_)
                  | (refine drawIt ?_; kernel_rfl)
                  | ((with_reducible refine opsF_id ?_); simp -implicitDefEqProofs only [go_sem, hc2, h7, hxi, hyj, spT, u32T, keyT, booT, c1, c2, l1, l2])
                  | ((with_reducible refine SW.id ?_); first | with_reducible refine SW.seqK fun K hK => ?_ | with_reducible refine SW.block ?_ | with_reducible refine SW.scope ?_ | ((first | with_reducible refine SW.skip ?_ | with_reducible refine SW.exit ?_ | with_reducible refine SW.label ?_ | with_reducible refine SW.ret ?_ | with_reducible refine SW.go MR ?_ | refine SW.goDrawF MR (by rfl) (by kernel_rfl) ?_); simp -implicitDefEqProofs only [go_sem, hc2, h7, hxi, hyj, spT, u32T, keyT, booT, c1, c2, l1, l2]) | (refine SW.cond (by simp -implicitDefEqProofs only [go_sem, hc2, h7, hxi, hyj, spT, u32T, keyT, booT, c1, c2, l1, l2]; rfl) (fun ht => ?_) (fun ht => ?_) <;> (try simp only [decide_eq_true_eq, decide_eq_false_iff_not, beq_iff_eq, bne_iff_ne, beq_eq_false_iff_ne, bne_eq_false_iff_eq, Bool.or_eq_true, Bool.and_eq_true, Bool.or_eq_false_iff, Bool.and_eq_false_imp, Bool.not_eq_true, Bool.not_eq_false, Bool.not_true, Bool.not_false, Bool.not_eq_true', Bool.not_eq_false', Bool.or_false, Bool.false_or, Bool.or_true, Bool.true_or, Bool.and_true, Bool.true_and, reduceCtorEq] at ht) <;> (try with_reducible contradiction)))
                  | ((with_reducible refine guardSplit (fun hg => ?_) (fun hg => ?_)) <;> (try simp only [Bool.not_true, Bool.not_false] at hg) <;> (have hc := hg) <;> simp -implicitDefEqProofs only [go_sem, hg, hc2, h7, hxi, hyj, spT, u32T, keyT, booT, c1, c2, l1, l2] <;> (try simp only [decide_eq_true_eq, decide_eq_false_iff_not, beq_iff_eq, bne_iff_ne, beq_eq_false_iff_ne, bne_eq_false_iff_eq, Bool.or_eq_true, Bool.and_eq_true, Bool.or_eq_false_iff, Bool.and_eq_false_imp, Bool.not_eq_true, Bool.not_eq_false, Bool.not_true, Bool.not_false, Bool.not_eq_true', Bool.not_eq_false', Bool.or_false, Bool.false_or, Bool.or_true, Bool.true_or, Bool.and_true, Bool.true_and, reduceCtorEq] at hc) <;> (try with_reducible contradiction)))
                all_goals first | omega | skip
                refine ⟨⟨j + 1, by omega, hn2⟩, Weak.of [] (by rfl) ?_ ?_, by dsimp only; omega⟩
                · simp -implicitDefEqProofs only [go_sem]
                  all_goals (repeat' (first | exact rfl | exact trivial | refine And.intro ?_ ?_))
                · simp -implicitDefEqProofs only [go_sem]
            · have hn2 := hnext (fun h => k1 (by injection h with h1 h2; exact h2.symm))
              have c1 := eq_false (show ¬ (x.n : Int) = (y.n : Int) by omega)
              repeat' (first
                | apply_assumption -exfalso -symm (transparency := .reducible) only [*]
                | (with_reducible refine And.intro ?_ ?_)
                | (refine drawIt ?_; kernel_rfl)
                | ((with_reducible refine opsF_id ?_); simp -implicitDefEqProofs only [go_sem, hc2, h7, hxi, hyj, spT, u32T, keyT, booT, c1, l1, l2])
                | ((with_reducible refine SW.id ?_); first | with_reducible refine SW.seqK fun K hK => ?_ | with_reducible refine SW.block ?_ | with_reducible refine SW.scope ?_ | ((first | with_reducible refine SW.skip ?_ | with_reducible refine SW.exit ?_ | with_reducible refine SW.label ?_ | with_reducible refine SW.ret ?_ | with_reducible refine SW.go MR ?_ | refine SW.goDrawF MR (by rfl) (by kernel_rfl) ?_); simp -implicitDefEqProofs only [go_sem, hc2, h7, hxi, hyj, spT, u32T, keyT, booT, c1, l1, l2]) | (refine SW.cond (by simp -implicitDefEqProofs only [go_sem, hc2, h7, hxi, hyj, spT, u32T, keyT, booT, c1, l1, l2]; rfl) (fun ht => ?_) (fun ht => ?_) <;> (try simp only [decide_eq_true_eq, decide_eq_false_iff_not, beq_iff_eq, bne_iff_ne, beq_eq_false_iff_ne, bne_eq_false_iff_eq, Bool.or_eq_true, Bool.and_eq_true, Bool.or_eq_false_iff, Bool.and_eq_false_imp, Bool.not_eq_true, Bool.not_eq_false, Bool.not_true, Bool.not_false, Bool.not_eq_true', Bool.not_eq_false', Bool.or_false, Bool.false_or, Bool.or_true, Bool.true_or, Bool.and_true, Bool.true_and, reduceCtorEq] at ht) <;> (try with_reducible contradiction)))
                | ((with_reducible refine guardSplit (fun hg => ?_) (fun hg => ?_)) <;> (try simp only [Bool.not_true, Bool.not_false] at hg) <;> (have hc := hg) <;> simp -implicitDefEqProofs only [go_sem, hg, hc2, h7, hxi, hyj, spT, u32T, keyT, booT, c1, l1, l2] <;> (try simp only [decide_eq_true_eq, decide_eq_false_iff_not, beq_iff_eq, bne_iff_ne, beq_eq_false_iff_ne, bne_eq_false_iff_eq, Bool.or_eq_true, Bool.and_eq_true, Bool.or_eq_false_iff, Bool.and_eq_false_imp, Bool.not_eq_true, Bool.not_eq_false, Bool.not_true, Bool.not_false, Bool.not_eq_true', Bool.not_eq_false', Bool.or_false, Bool.false_or, Bool.or_true, Bool.true_or, Bool.and_true, Bool.true_and, reduceCtorEq] at hc) <;> (try with_reducible contradiction)))
              all_goals first | omega | skip
              refine ⟨⟨j + 1, by omega, hn2⟩, Weak.of [] (by rfl) ?_ ?_, by dsimp only; omega⟩
              · simp -implicitDefEqProofs only [go_sem]
                all_goals (repeat' (first | exact rfl | exact trivial | refine And.intro ?_ ?_))
              · simp -implicitDefEqProofs only [go_sem]
          · have hc2 := eq_false (show ¬ (j : Int) < (i : Int) by omega)
            subst j4
            have hnd2 := nodup_snoc h4 hnd hne
            dsimp only
            repeat' (first
              | apply_assumption -exfalso -symm (transparency := .reducible) only [*]
              | (with_reducible refine And.intro ?_ ?_)
              | (refine drawIt ?_; kernel_rfl)
              | ((with_reducible refine opsF_id ?_); simp -implicitDefEqProofs only [go_sem, hc2, h5])
              | ((with_reducible refine SW.id ?_); first | with_reducible refine SW.seqK fun K hK => ?_ | with_reducible refine SW.block ?_ | with_reducible refine SW.scope ?_ | ((first | with_reducible refine SW.skip ?_ | with_reducible refine SW.exit ?_ | with_reducible refine SW.label ?_ | with_reducible refine SW.ret ?_ | with_reducible refine SW.go MR ?_ | refine SW.goDrawF MR (by rfl) (by kernel_rfl) ?_); simp -implicitDefEqProofs only [go_sem, hc2, h5]) | (refine SW.cond (by simp -implicitDefEqProofs only [go_sem, hc2, h5]; rfl) (fun ht => ?_) (fun ht => ?_) <;> (try simp only [decide_eq_true_eq, decide_eq_false_iff_not, beq_iff_eq, bne_iff_ne, beq_eq_false_iff_ne, bne_eq_false_iff_eq, Bool.or_eq_true, Bool.and_eq_true, Bool.or_eq_false_iff, Bool.and_eq_false_imp, Bool.not_eq_true, Bool.not_eq_false, Bool.not_true, Bool.not_false, Bool.not_eq_true', Bool.not_eq_false', Bool.or_false, Bool.false_or, Bool.or_true, Bool.true_or, Bool.and_true, Bool.true_and, reduceCtorEq] at ht) <;> (try with_reducible contradiction)))
              | ((with_reducible refine guardSplit (fun hg => ?_) (fun hg => ?_)) <;> (try simp only [Bool.not_true, Bool.not_false] at hg) <;> (have hc := hg) <;> simp -implicitDefEqProofs only [go_sem, hg, hc2, h5] <;> (try simp only [decide_eq_true_eq, decide_eq_false_iff_not, beq_iff_eq, bne_iff_ne, beq_eq_false_iff_ne, bne_eq_false_iff_eq, Bool.or_eq_true, Bool.and_eq_true, Bool.or_eq_false_iff, Bool.and_eq_false_imp, Bool.not_eq_true, Bool.not_eq_false, Bool.not_true, Bool.not_false, Bool.not_eq_true', Bool.not_eq_false', Bool.or_false, Bool.false_or, Bool.or_true, Bool.true_or, Bool.and_true, Bool.true_and, reduceCtorEq] at hc) <;> (try with_reducible contradiction)))
            refine ⟨⟨j + 1, by omega, hnd2⟩, Weak.of [] (by rfl) ?_ ?_, by dsimp only; omega⟩
            · simp -implicitDefEqProofs only [go_sem]
              all_goals (repeat' (first | exact rfl | exact trivial | refine And.intro ?_ ?_))
            · simp -implicitDefEqProofs only [go_sem]
      · have hc := eq_false (show ¬ (i : Int) < (l.length : Int) by omega)
        subst h4
        rw [List.take_length] at hnd
        dsimp only
        repeat' (first
          | apply_assumption -exfalso -symm (transparency := .reducible) only [*]
          | (with_reducible refine And.intro ?_ ?_)
          | (refine drawIt ?_; kernel_rfl)
          | ((with_reducible refine opsF_id ?_); simp -implicitDefEqProofs only [go_sem, hc, List.length_map])
          | ((with_reducible refine SW.id ?_); first | with_reducible refine SW.seqK fun K hK => ?_ | with_reducible refine SW.block ?_ | with_reducible refine SW.scope ?_ | ((first | with_reducible refine SW.skip ?_ | with_reducible refine SW.exit ?_ | with_reducible refine SW.label ?_ | with_reducible refine SW.ret ?_ | with_reducible refine SW.go MR ?_ | refine SW.goDrawF MR (by rfl) (by kernel_rfl) ?_); simp -implicitDefEqProofs only [go_sem, hc, List.length_map]) | (refine SW.cond (by simp -implicitDefEqProofs only [go_sem, hc, List.length_map]; rfl) (fun ht => ?_) (fun ht => ?_) <;> (try simp only [decide_eq_true_eq, decide_eq_false_iff_not, beq_iff_eq, bne_iff_ne, beq_eq_false_iff_ne, bne_eq_false_iff_eq, Bool.or_eq_true, Bool.and_eq_true, Bool.or_eq_false_iff, Bool.and_eq_false_imp, Bool.not_eq_true, Bool.not_eq_false, Bool.not_true, Bool.not_false, Bool.not_eq_true', Bool.not_eq_false', Bool.or_false, Bool.false_or, Bool.or_true, Bool.true_or, Bool.and_true, Bool.true_and, reduceCtorEq] at ht) <;> (try with_reducible contradiction)))
          | ((with_reducible refine guardSplit (fun hg => ?_) (fun hg => ?_)) <;> (try simp only [Bool.not_true, Bool.not_false] at hg) <;> (have hc := hg) <;> simp -implicitDefEqProofs only [go_sem, hg, hc, List.length_map] <;> (try simp only [decide_eq_true_eq, decide_eq_false_iff_not, beq_iff_eq, bne_iff_ne, beq_eq_false_iff_ne, bne_eq_false_iff_eq, Bool.or_eq_true, Bool.and_eq_true, Bool.or_eq_false_iff, Bool.and_eq_false_imp, Bool.not_eq_true, Bool.not_eq_false, Bool.not_true, Bool.not_false, Bool.not_eq_true', Bool.not_eq_false', Bool.or_false, Bool.false_or, Bool.or_true, Bool.true_or, Bool.and_true, Bool.true_and, reduceCtorEq] at hc) <;> (try with_reducible contradiction)))
        refine ⟨⟨hnd⟩, Weak.of [] (by rfl) ?_ ?_⟩
        · simp -implicitDefEqProofs only [go_sem]
        · simp -implicitDefEqProofs only [go_sem]
  · have hd : dupB l = false := by simp [dupB, hn]
    rw [hd]
    repeat' (first
      | apply_assumption -exfalso -symm (transparency := .reducible) only [*]
      | (with_reducible refine And.intro ?_ ?_)
      | (refine drawIt ?_; kernel_rfl)
      | ((with_reducible refine opsF_id ?_); simp -implicitDefEqProofs only [go_sem, booT])
      | ((with_reducible refine SW.id ?_); first | with_reducible refine SW.seqK fun K hK => ?_ | with_reducible refine SW.block ?_ | with_reducible refine SW.scope ?_ | ((first | with_reducible refine SW.skip ?_ | with_reducible refine SW.exit ?_ | with_reducible refine SW.label ?_ | with_reducible refine SW.ret ?_ | with_reducible refine SW.go MR ?_ | refine SW.goDrawF MR (by rfl) (by kernel_rfl) ?_); simp -implicitDefEqProofs only [go_sem, booT]) | (refine SW.cond (by simp -implicitDefEqProofs only [go_sem, booT]; rfl) (fun ht => ?_) (fun ht => ?_) <;> (try simp only [decide_eq_true_eq, decide_eq_false_iff_not, beq_iff_eq, bne_iff_ne, beq_eq_false_iff_ne, bne_eq_false_iff_eq, Bool.or_eq_true, Bool.and_eq_true, Bool.or_eq_false_iff, Bool.and_eq_false_imp, Bool.not_eq_true, Bool.not_eq_false, Bool.not_true, Bool.not_false, Bool.not_eq_true', Bool.not_eq_false', Bool.or_false, Bool.false_or, Bool.or_true, Bool.true_or, Bool.and_true, Bool.true_and, reduceCtorEq] at ht) <;> (try with_reducible contradiction)))
      | ((with_reducible refine guardSplit (fun hg => ?_) (fun hg => ?_)) <;> (try simp only [Bool.not_true, Bool.not_false] at hg) <;> (have hc := hg) <;> simp -implicitDefEqProofs only [go_sem, hg, booT] <;> (try simp only [decide_eq_true_eq, decide_eq_false_iff_not, beq_iff_eq, bne_iff_ne, beq_eq_false_iff_ne, bne_eq_false_iff_eq, Bool.or_eq_true, Bool.and_eq_true, Bool.or_eq_false_iff, Bool.and_eq_false_imp, Bool.not_eq_true, Bool.not_eq_false, Bool.not_true, Bool.not_false, Bool.not_eq_true', Bool.not_eq_false', Bool.or_false, Bool.false_or, Bool.or_true, Bool.true_or, Bool.and_true, Bool.true_and, reduceCtorEq] at hc) <;> (try with_reducible contradiction)))

theorem spO_sz (l : List Sp) : (∀ y, y ∈ l.map spT → y.sz = 65) ↔ True := sz_map spT_sz
theorem spO_closeds (l : List Sp) : closeds (l.map spT) = true := closeds_map (fun _ => rfl) l
theorem spO_nobors (l : List Sp) : nobors (l.map spT) = true := nobors_map (fun _ => rfl) l
theorem spO_noowns (l : List Sp) : noowns (l.map spT) = true := noowns_map (fun x => by simp [spT, A.noown, noowns, keyT, u32T, bA_noowns]) l
theorem spO_lnds (l : List Sp) : lnds (l.map spT) = l.map spT := lnds_map (fun x => by simp [spT, lnd, lnds, keyT, u32T]) l
theorem spO_lndOks (l : List Sp) : lndOks (l.map spT) = true := lndOks_map (fun x => by simp [spT, lndOk, lndOks, keyT, u32T, bA_noowns]) l
attribute [go_sem] spO_sz spO_closeds spO_nobors spO_noowns spO_lnds spO_lndOks
theorem copy_FS (s : StS) (q : Bool) (hl : s.spares.length < 2 ^ 36) : FS Try.prog 5 [stT s (.sl q (s.spares.map spT))] (.ret [stT s (.osl 65 (s.spares.map spT))] [none]) := by
  refine FS_of_SW (kb := [false]) (st0 := ?st) Try.func5 rfl rfl ?he ?_
  case he =>
    simp only [entrySt, stT, cfgT, keyT, u32T, i64T, booT, unfs, unf, A.noown, noowns, nA_noowns, bA_noowns, Option.map_some, if_true, reduceIte, List.nil_append, List.append_nil]
    rfl
  simp only [stT, cfgT, keyT, u32T, i64T, booT]
  refine SW.weak (Weak.of [] (sls := [(0, stT s (.sl q (s.spares.map spT)))]) (bks := []) (ep := 64) (by rfl) (by repeat' (first | exact rfl | exact trivial | refine And.intro ?_ ?_)) trivial) ?_
  repeat' (first
    | apply_assumption -exfalso -symm (transparency := .reducible) only [*]
    | (with_reducible refine And.intro ?_ ?_)
    | (refine drawIt ?_; kernel_rfl)
    | ((with_reducible refine opsF_id ?_); simp -implicitDefEqProofs only [go_sem, stT, cfgT, keyT, u32T, i64T, booT])
    | ((with_reducible refine SW.id ?_); first | with_reducible refine SW.seqK fun K hK => ?_ | with_reducible refine SW.block ?_ | with_reducible refine SW.scope ?_ | ((first | with_reducible refine SW.skip ?_ | with_reducible refine SW.exit ?_ | with_reducible refine SW.label ?_ | with_reducible refine SW.ret ?_ | with_reducible refine SW.go MR ?_ | refine SW.goDrawF MR (by rfl) (by kernel_rfl) ?_); simp -implicitDefEqProofs only [go_sem, stT, cfgT, keyT, u32T, i64T, booT]) | (refine SW.cond (by simp -implicitDefEqProofs only [go_sem, stT, cfgT, keyT, u32T, i64T, booT]; rfl) (fun ht => ?_) (fun ht => ?_) <;> (try simp only [decide_eq_true_eq, decide_eq_false_iff_not, beq_iff_eq, bne_iff_ne, beq_eq_false_iff_ne, bne_eq_false_iff_eq, Bool.or_eq_true, Bool.and_eq_true, Bool.or_eq_false_iff, Bool.and_eq_false_imp, Bool.not_eq_true, Bool.not_eq_false, Bool.not_true, Bool.not_false, Bool.not_eq_true', Bool.not_eq_false', Bool.or_false, Bool.false_or, Bool.or_true, Bool.true_or, Bool.and_true, Bool.true_and, reduceCtorEq] at ht) <;> (try with_reducible contradiction)))
    | ((with_reducible refine guardSplit (fun hg => ?_) (fun hg => ?_)) <;> (try simp only [Bool.not_true, Bool.not_false] at hg) <;> (have hc := hg) <;> simp -implicitDefEqProofs only [go_sem, hg, stT, cfgT, keyT, u32T, i64T, booT] <;> (try simp only [decide_eq_true_eq, decide_eq_false_iff_not, beq_iff_eq, bne_iff_ne, beq_eq_false_iff_ne, bne_eq_false_iff_eq, Bool.or_eq_true, Bool.and_eq_true, Bool.or_eq_false_iff, Bool.and_eq_false_imp, Bool.not_eq_true, Bool.not_eq_false, Bool.not_true, Bool.not_false, Bool.not_eq_true', Bool.not_eq_false', Bool.or_false, Bool.false_or, Bool.or_true, Bool.true_or, Bool.and_true, Bool.true_and, reduceCtorEq] at hc) <;> (try with_reducible contradiction)))
  all_goals first | exact ⟨by omega, by omega⟩ | skip
end Go.PA
