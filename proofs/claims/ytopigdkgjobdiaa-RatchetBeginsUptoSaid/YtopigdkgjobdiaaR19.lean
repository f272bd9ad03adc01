/- The state of a side. -/
import Derived.Test.YtopigdkgjobdiaaR17
namespace Go.PA
open Go.Proofs Go.Fe
set_option linter.unusedSimpArgs false
set_option linter.unusedVariables false
set_option maxRecDepth 100000
set_option maxHeartbeats 4000000
attribute [local go_sem] MR2 MR getP setP takesW
attribute [-go_sem] takeA roA

def rT (s : StS) (la lb st : A) : A := .agg [.agg [cfgT s.cfg, keyT s.root, .agg [keyT s.ownR, keyT s.ownU], keyT s.peer, booT s.hasOwn, booT s.hasPeer, booT s.turn, la, lb, keyT s.nextSend, keyT s.nextRecv, u32T s.prev], st]
section
variable {s : StS} {la lb st : A} (ha : la.sz = 33) (hb : lb.sz = 33)
include ha hb
set_option linter.unusedSectionVars false
theorem getP_r0 : getP (rT s la lb st) [.fld 0 0, .fld 0 0] = .ret (cfgT s.cfg) := by simp -implicitDefEqProofs only [go_sem, rT, cfgT, keyT, u32T, i64T, booT, ha, hb]
theorem getP_r1 : getP (rT s la lb st) [.fld 0 0, .fld 1 3] = .ret (keyT s.root) := by simp -implicitDefEqProofs only [go_sem, rT, cfgT, keyT, u32T, i64T, booT, ha, hb]
theorem getP_r2 : getP (rT s la lb st) [.fld 0 0, .fld 2 35] = .ret (.agg [keyT s.ownR, keyT s.ownU]) := by simp -implicitDefEqProofs only [go_sem, rT, cfgT, keyT, u32T, i64T, booT, ha, hb]
theorem getP_r3 : getP (rT s la lb st) [.fld 0 0, .fld 3 99] = .ret (keyT s.peer) := by simp -implicitDefEqProofs only [go_sem, rT, cfgT, keyT, u32T, i64T, booT, ha, hb]
theorem getP_r4 : getP (rT s la lb st) [.fld 0 0, .fld 4 131] = .ret (booT s.hasOwn) := by simp -implicitDefEqProofs only [go_sem, rT, cfgT, keyT, u32T, i64T, booT, ha, hb]
theorem getP_r5 : getP (rT s la lb st) [.fld 0 0, .fld 5 132] = .ret (booT s.hasPeer) := by simp -implicitDefEqProofs only [go_sem, rT, cfgT, keyT, u32T, i64T, booT, ha, hb]
theorem getP_r6 : getP (rT s la lb st) [.fld 0 0, .fld 6 133] = .ret (booT s.turn) := by simp -implicitDefEqProofs only [go_sem, rT, cfgT, keyT, u32T, i64T, booT, ha, hb]
theorem getP_r7 : getP (rT s la lb st) [.fld 0 0, .fld 7 134] = .ret (la) := by simp -implicitDefEqProofs only [go_sem, rT, cfgT, keyT, u32T, i64T, booT, ha, hb]
theorem getP_r8 : getP (rT s la lb st) [.fld 0 0, .fld 8 167] = .ret (lb) := by simp -implicitDefEqProofs only [go_sem, rT, cfgT, keyT, u32T, i64T, booT, ha, hb]
theorem getP_r9 : getP (rT s la lb st) [.fld 0 0, .fld 9 200] = .ret (keyT s.nextSend) := by simp -implicitDefEqProofs only [go_sem, rT, cfgT, keyT, u32T, i64T, booT, ha, hb]
theorem getP_r10 : getP (rT s la lb st) [.fld 0 0, .fld 10 232] = .ret (keyT s.nextRecv) := by simp -implicitDefEqProofs only [go_sem, rT, cfgT, keyT, u32T, i64T, booT, ha, hb]
theorem getP_r11 : getP (rT s la lb st) [.fld 0 0, .fld 11 264] = .ret (u32T s.prev) := by simp -implicitDefEqProofs only [go_sem, rT, cfgT, keyT, u32T, i64T, booT, ha, hb]
theorem getP_r12 : getP (rT s la lb st) [.fld 1 265] = .ret st := by simp -implicitDefEqProofs only [go_sem, rT, cfgT, keyT, u32T, i64T, booT, ha, hb]
end

def zS : StS := ⟨⟨0, 0, 0⟩, zK, zK, zK, zK, false, false, false, zK, zK, zK, 0, 0, false, zK, zK, zK, 0, false, []⟩
theorem state_FS (s : StS) (hs : StOk s) (hl : s.spares.length < 2 ^ 36) (hn : (s.spares.map plcS).Nodup) (b4 : bad4 s = false) (b5 : bad5 s = false) :
    FS Try.prog 10 [.box (ratT s)] (.ret [stT s (.osl 65 (s.spares.map spT))] [some (.box (ratT s))]) := by
  refine FS_of_SW (kb := [true]) Try.func10 rfl rfl (by rfl) ?_
  have q1 := slist_FS s.cfg.store s.spares hl hs.spares hn
  have q2 := toldY_FS false s.send s.sendHeader s.sendN
  have q3 := toldY_FS false s.recv s.recvHeader s.recvN
  have q4 := toldN_FS zK
  clear hs
  simp only [bad4, bad5] at b4 b5
  simp only [keyT, u32T, chT, booT] at q2 q3 q4
  simp only [storeT] at q1
  cases h1 : s.hasSend <;> cases h2 : s.hasRecv
  · have hr : ratT s = (rT s (.agg [.v (.pointer none), keyT zK]) (.agg [.v (.pointer none), keyT zK]) (.box (storeT s.cfg.store s.spares))) := by simp only [ratT, lineT, h1, h2, if_true, Bool.false_eq_true, if_false, rT]
    rw [hr]
    have hu : unf 1000 (rT s (.agg [.v (.pointer none), keyT zK]) (.agg [.v (.pointer none), keyT zK]) (.box (storeT s.cfg.store s.spares))) = some ((rT s (.agg [.v (.pointer none), keyT zK]) (.agg [.v (.pointer none), keyT zK]) (.ptr 1000 [])), [(1000, .var (storeT s.cfg.store s.spares))], 1001) := by
      simp only [rT, cfgT, keyT, u32T, i64T, booT, unf, unfs, noowns, A.noown, bA_noowns, Option.map_some, if_true, reduceIte, List.nil_append, List.append_nil, List.cons_append]
    simp only [h1, h2, Bool.not_true, Bool.not_false, Bool.false_and, Bool.true_and, Bool.or_eq_false_iff, Bool.not_eq_false', decide_eq_true_eq] at b4 b5
    have g0 := getP_r0 (s := s) (la := (.agg [.v (.pointer none), keyT zK])) (lb := (.agg [.v (.pointer none), keyT zK])) (st := .ptr 3 []) rfl rfl
    have g1 := getP_r1 (s := s) (la := (.agg [.v (.pointer none), keyT zK])) (lb := (.agg [.v (.pointer none), keyT zK])) (st := .ptr 3 []) rfl rfl
    have g2 := getP_r2 (s := s) (la := (.agg [.v (.pointer none), keyT zK])) (lb := (.agg [.v (.pointer none), keyT zK])) (st := .ptr 3 []) rfl rfl
    have g3 := getP_r3 (s := s) (la := (.agg [.v (.pointer none), keyT zK])) (lb := (.agg [.v (.pointer none), keyT zK])) (st := .ptr 3 []) rfl rfl
    have g4 := getP_r4 (s := s) (la := (.agg [.v (.pointer none), keyT zK])) (lb := (.agg [.v (.pointer none), keyT zK])) (st := .ptr 3 []) rfl rfl
    have g5 := getP_r5 (s := s) (la := (.agg [.v (.pointer none), keyT zK])) (lb := (.agg [.v (.pointer none), keyT zK])) (st := .ptr 3 []) rfl rfl
    have g6 := getP_r6 (s := s) (la := (.agg [.v (.pointer none), keyT zK])) (lb := (.agg [.v (.pointer none), keyT zK])) (st := .ptr 3 []) rfl rfl
    have g7 := getP_r7 (s := s) (la := (.agg [.v (.pointer none), keyT zK])) (lb := (.agg [.v (.pointer none), keyT zK])) (st := .ptr 3 []) rfl rfl
    have g8 := getP_r8 (s := s) (la := (.agg [.v (.pointer none), keyT zK])) (lb := (.agg [.v (.pointer none), keyT zK])) (st := .ptr 3 []) rfl rfl
    have g9 := getP_r9 (s := s) (la := (.agg [.v (.pointer none), keyT zK])) (lb := (.agg [.v (.pointer none), keyT zK])) (st := .ptr 3 []) rfl rfl
    have g10 := getP_r10 (s := s) (la := (.agg [.v (.pointer none), keyT zK])) (lb := (.agg [.v (.pointer none), keyT zK])) (st := .ptr 3 []) rfl rfl
    have g11 := getP_r11 (s := s) (la := (.agg [.v (.pointer none), keyT zK])) (lb := (.agg [.v (.pointer none), keyT zK])) (st := .ptr 3 []) rfl rfl
    have g12 := getP_r12 (s := s) (la := (.agg [.v (.pointer none), keyT zK])) (lb := (.agg [.v (.pointer none), keyT zK])) (st := .ptr 3 []) rfl rfl
    refine SW.weak (Weak.open3 0 1000 1001 2000 rfl rfl hu rfl (fun i hi1 hi2 => by have hi3 : i = 1000 := (by omega); rcases hi3 with rfl <;> exact ⟨rfl, by decide⟩) (Weak.of [(0, 0), (1000, 3)] (sls := [(0, .ptr 0 [])]) (bks := [(0, .var (rT s (.agg [.v (.pointer none), keyT zK]) (.agg [.v (.pointer none), keyT zK]) (.ptr 3 []))), (3, .var (storeT s.cfg.store s.spares))]) (ep := 64) (by rfl) ?_ ?_)) ?_
    · simp -implicitDefEqProofs only [go_sem]
      all_goals (repeat' (first | exact rfl | exact trivial | refine And.intro ?_ ?_))
    · simp -implicitDefEqProofs only [go_sem, cfgT, keyT, u32T, i64T, booT, chT, rT]
      all_goals (repeat' (first | exact rfl | exact trivial | refine And.intro ?_ ?_))
    · clear hu hr
      simp only [keyT] at g0 g1 g2 g3 g4 g5 g6 g7 g8 g9 g10 g11 g12
      repeat' (first
        | apply_assumption -exfalso -symm (transparency := .reducible) only [*]
        | with_reducible refine SW.stopR 2 ?_
        | (with_reducible refine callEnd_of q1 ?_ <;> (try simp -implicitDefEqProofs only [go_sem, storeT, cfgT, keyT, u32T, i64T, booT, chT, isBool_v, asBool_v, zK_eq, g0, g1, g2, g3, g4, g5, g6, g7, g8, g9, g10, g11, g12]))
        | (with_reducible refine callEnd_of q2 ?_ <;> (try simp -implicitDefEqProofs only [go_sem, storeT, cfgT, keyT, u32T, i64T, booT, chT, isBool_v, asBool_v, zK_eq, g0, g1, g2, g3, g4, g5, g6, g7, g8, g9, g10, g11, g12]))
        | (with_reducible refine callEnd_of q3 ?_ <;> (try simp -implicitDefEqProofs only [go_sem, storeT, cfgT, keyT, u32T, i64T, booT, chT, isBool_v, asBool_v, zK_eq, g0, g1, g2, g3, g4, g5, g6, g7, g8, g9, g10, g11, g12]))
        | (with_reducible refine callEnd_of q4 ?_ <;> (try simp -implicitDefEqProofs only [go_sem, storeT, cfgT, keyT, u32T, i64T, booT, chT, isBool_v, asBool_v, zK_eq, g0, g1, g2, g3, g4, g5, g6, g7, g8, g9, g10, g11, g12]))
        | (with_reducible refine And.intro ?_ ?_)
        | (refine drawIt ?_; kernel_rfl)
        | ((with_reducible refine opsF_id ?_); simp -implicitDefEqProofs only [go_sem, storeT, cfgT, keyT, u32T, i64T, booT, chT, isBool_v, asBool_v, zK_eq, g0, g1, g2, g3, g4, g5, g6, g7, g8, g9, g10, g11, g12])
        | ((with_reducible refine SW.id ?_); first | with_reducible refine SW.seqK fun K hK => ?_ | with_reducible refine SW.block ?_ | with_reducible refine SW.scope ?_ | ((first | with_reducible refine SW.skip ?_ | with_reducible refine SW.exit ?_ | with_reducible refine SW.label ?_ | with_reducible refine SW.ret ?_ | with_reducible refine SW.go MR2 ?_ | refine SW.goDrawF MR2 (by rfl) (by kernel_rfl) ?_); simp -implicitDefEqProofs only [go_sem, storeT, cfgT, keyT, u32T, i64T, booT, chT, isBool_v, asBool_v, zK_eq, g0, g1, g2, g3, g4, g5, g6, g7, g8, g9, g10, g11, g12]) | (refine SW.cond (by simp -implicitDefEqProofs only [go_sem, storeT, cfgT, keyT, u32T, i64T, booT, chT, isBool_v, asBool_v, zK_eq, g0, g1, g2, g3, g4, g5, g6, g7, g8, g9, g10, g11, g12]; rfl) (fun ht => ?_) (fun ht => ?_) <;> (try with_reducible contradiction))))
      refine Stop.go (SW.weak (Weak.of [(0, 0), (3, 3), (64, 4), (3712, 5), (3584, 6), (65, 7)] (sls := [(0, .ptr 0 []), (2, .ptr 4 []), (3, .ptr 5 [])]) (bks := [(0, .var (rT s (.agg [.v (.pointer none), keyT zK]) (.agg [.v (.pointer none), keyT zK]) (.ptr 3 []))), (3, .var (storeT s.cfg.store s.spares)), (4, .var (stT zS (.ref 7 65 0 0 false))), (5, .var (stT { s with send := zK, sendHeader := zK, sendN := 0, hasSend := false, recv := zK, recvHeader := zK, recvN := 0, hasRecv := false } (.ref 6 65 0 s.spares.length false))), (6, .row 65 (s.spares.map spT)), (7, .row 65 [])]) (ep := 64) (by rfl) ?_ ?_) ?_)
      · simp -implicitDefEqProofs only [go_sem]
        all_goals (repeat' (first | exact rfl | exact trivial | refine And.intro ?_ ?_))
      · simp -implicitDefEqProofs only [go_sem, stT, zS, cfgT, keyT, u32T, i64T, booT, chT, storeT, zK_eq]
        all_goals (repeat' (first | exact rfl | exact trivial | refine And.intro ?_ ?_))
      repeat' (first
        | apply_assumption -exfalso -symm (transparency := .reducible) only [*]
        | with_reducible refine SW.stopR 3 ?_
        | (with_reducible refine callEnd_of q1 ?_ <;> (try simp -implicitDefEqProofs only [go_sem, stT, zS, cfgT, keyT, u32T, i64T, booT, chT, isBool_v, asBool_v, zK_eq, g0, g1, g2, g3, g4, g5, g6, g7, g8, g9, g10, g11, g12]))
        | (with_reducible refine callEnd_of q2 ?_ <;> (try simp -implicitDefEqProofs only [go_sem, stT, zS, cfgT, keyT, u32T, i64T, booT, chT, isBool_v, asBool_v, zK_eq, g0, g1, g2, g3, g4, g5, g6, g7, g8, g9, g10, g11, g12]))
        | (with_reducible refine callEnd_of q3 ?_ <;> (try simp -implicitDefEqProofs only [go_sem, stT, zS, cfgT, keyT, u32T, i64T, booT, chT, isBool_v, asBool_v, zK_eq, g0, g1, g2, g3, g4, g5, g6, g7, g8, g9, g10, g11, g12]))
        | (with_reducible refine callEnd_of q4 ?_ <;> (try simp -implicitDefEqProofs only [go_sem, stT, zS, cfgT, keyT, u32T, i64T, booT, chT, isBool_v, asBool_v, zK_eq, g0, g1, g2, g3, g4, g5, g6, g7, g8, g9, g10, g11, g12]))
        | (with_reducible refine And.intro ?_ ?_)
        | (refine drawIt ?_; kernel_rfl)
        | ((with_reducible refine opsF_id ?_); simp -implicitDefEqProofs only [go_sem, stT, zS, cfgT, keyT, u32T, i64T, booT, chT, isBool_v, asBool_v, zK_eq, g0, g1, g2, g3, g4, g5, g6, g7, g8, g9, g10, g11, g12])
        | ((with_reducible refine SW.id ?_); first | with_reducible refine SW.seqK fun K hK => ?_ | with_reducible refine SW.block ?_ | with_reducible refine SW.scope ?_ | ((first | with_reducible refine SW.skip ?_ | with_reducible refine SW.exit ?_ | with_reducible refine SW.label ?_ | with_reducible refine SW.ret ?_ | with_reducible refine SW.go MR2 ?_ | refine SW.goDrawF MR2 (by rfl) (by kernel_rfl) ?_); simp -implicitDefEqProofs only [go_sem, stT, zS, cfgT, keyT, u32T, i64T, booT, chT, isBool_v, asBool_v, zK_eq, g0, g1, g2, g3, g4, g5, g6, g7, g8, g9, g10, g11, g12]) | (refine SW.cond (by simp -implicitDefEqProofs only [go_sem, stT, zS, cfgT, keyT, u32T, i64T, booT, chT, isBool_v, asBool_v, zK_eq, g0, g1, g2, g3, g4, g5, g6, g7, g8, g9, g10, g11, g12]; rfl) (fun ht => ?_) (fun ht => ?_) <;> (try with_reducible contradiction))))
      refine Stop.go (SW.weak (Weak.of [(0, 0), (3, 3), (4, 4), (5, 5), (6, 6), (7, 7)] (sls := [(0, .ptr 0 []), (2, .ptr 4 []), (3, .ptr 5 [])]) (bks := [(0, .var (rT s (.agg [.v (.pointer none), keyT zK]) (.agg [.v (.pointer none), keyT zK]) (.ptr 3 []))), (3, .var (storeT s.cfg.store s.spares)), (4, .var (stT zS (.ref 7 65 0 0 false))), (5, .var (stT { s with send := zK, sendHeader := zK, sendN := 0, hasSend := false, recv := zK, recvHeader := zK, recvN := 0, hasRecv := false } (.ref 6 65 0 s.spares.length false))), (6, .row 65 (s.spares.map spT)), (7, .row 65 [])]) (ep := 64) (by rfl) ?_ ?_) ?_)
      · simp -implicitDefEqProofs only [go_sem]
        all_goals (repeat' (first | exact rfl | exact trivial | refine And.intro ?_ ?_))
      · simp -implicitDefEqProofs only [go_sem, stT, zS, cfgT, keyT, u32T, i64T, booT, chT, storeT, zK_eq]
        all_goals (repeat' (first | exact rfl | exact trivial | refine And.intro ?_ ?_))
      repeat' (first
        | apply_assumption -exfalso -symm (transparency := .reducible) only [*]
        | with_reducible refine SW.stopR 4 ?_
        | (with_reducible refine callEnd_of q1 ?_ <;> (try simp -implicitDefEqProofs only [go_sem, stT, zS, cfgT, keyT, u32T, i64T, booT, chT, isBool_v, asBool_v, zK_eq, g0, g1, g2, g3, g4, g5, g6, g7, g8, g9, g10, g11, g12]))
        | (with_reducible refine callEnd_of q2 ?_ <;> (try simp -implicitDefEqProofs only [go_sem, stT, zS, cfgT, keyT, u32T, i64T, booT, chT, isBool_v, asBool_v, zK_eq, g0, g1, g2, g3, g4, g5, g6, g7, g8, g9, g10, g11, g12]))
        | (with_reducible refine callEnd_of q3 ?_ <;> (try simp -implicitDefEqProofs only [go_sem, stT, zS, cfgT, keyT, u32T, i64T, booT, chT, isBool_v, asBool_v, zK_eq, g0, g1, g2, g3, g4, g5, g6, g7, g8, g9, g10, g11, g12]))
        | (with_reducible refine callEnd_of q4 ?_ <;> (try simp -implicitDefEqProofs only [go_sem, stT, zS, cfgT, keyT, u32T, i64T, booT, chT, isBool_v, asBool_v, zK_eq, g0, g1, g2, g3, g4, g5, g6, g7, g8, g9, g10, g11, g12]))
        | (with_reducible refine And.intro ?_ ?_)
        | (refine drawIt ?_; kernel_rfl)
        | ((with_reducible refine opsF_id ?_); simp -implicitDefEqProofs only [go_sem, stT, zS, cfgT, keyT, u32T, i64T, booT, chT, isBool_v, asBool_v, zK_eq, g0, g1, g2, g3, g4, g5, g6, g7, g8, g9, g10, g11, g12])
        | ((with_reducible refine SW.id ?_); first | with_reducible refine SW.seqK fun K hK => ?_ | with_reducible refine SW.block ?_ | with_reducible refine SW.scope ?_ | ((first | with_reducible refine SW.skip ?_ | with_reducible refine SW.exit ?_ | with_reducible refine SW.label ?_ | with_reducible refine SW.ret ?_ | with_reducible refine SW.go MR2 ?_ | refine SW.goDrawF MR2 (by rfl) (by kernel_rfl) ?_); simp -implicitDefEqProofs only [go_sem, stT, zS, cfgT, keyT, u32T, i64T, booT, chT, isBool_v, asBool_v, zK_eq, g0, g1, g2, g3, g4, g5, g6, g7, g8, g9, g10, g11, g12]) | (refine SW.cond (by simp -implicitDefEqProofs only [go_sem, stT, zS, cfgT, keyT, u32T, i64T, booT, chT, isBool_v, asBool_v, zK_eq, g0, g1, g2, g3, g4, g5, g6, g7, g8, g9, g10, g11, g12]; rfl) (fun ht => ?_) (fun ht => ?_) <;> (try with_reducible contradiction))))
      refine Stop.go (SW.weak (Weak.of [(0, 0), (3, 3), (4, 4), (5, 5), (6, 6), (7, 7)] (sls := [(0, .ptr 0 []), (2, .ptr 4 []), (3, .ptr 5 [])]) (bks := [(0, .var (rT s (.agg [.v (.pointer none), keyT zK]) (.agg [.v (.pointer none), keyT zK]) (.ptr 3 []))), (3, .var (storeT s.cfg.store s.spares)), (4, .var (stT zS (.ref 7 65 0 0 false))), (5, .var (stT { s with send := zK, sendHeader := zK, sendN := 0, hasSend := false, recv := zK, recvHeader := zK, recvN := 0, hasRecv := false } (.ref 6 65 0 s.spares.length false))), (6, .row 65 (s.spares.map spT)), (7, .row 65 [])]) (ep := 64) (by rfl) ?_ ?_) ?_)
      · simp -implicitDefEqProofs only [go_sem]
        all_goals (repeat' (first | exact rfl | exact trivial | refine And.intro ?_ ?_))
      · simp -implicitDefEqProofs only [go_sem, stT, zS, cfgT, keyT, u32T, i64T, booT, chT, storeT, zK_eq]
        all_goals (repeat' (first | exact rfl | exact trivial | refine And.intro ?_ ?_))
      repeat' (first
        | apply_assumption -exfalso -symm (transparency := .reducible) only [*]
        | (with_reducible refine And.intro ?_ ?_)
        | (refine drawIt ?_; kernel_rfl)
        | ((with_reducible refine opsF_id ?_); simp -implicitDefEqProofs only [go_sem, storeT, cfgT, keyT, u32T, i64T, booT, chT, isBool_v, asBool_v, stT, zS, h1, h2, b4, b5, zK_eq, rT])
        | ((with_reducible refine SW.id ?_); first | with_reducible refine SW.seqK fun K hK => ?_ | with_reducible refine SW.block ?_ | with_reducible refine SW.scope ?_ | ((first | with_reducible refine SW.skip ?_ | with_reducible refine SW.exit ?_ | with_reducible refine SW.label ?_ | with_reducible refine SW.ret ?_ | with_reducible refine SW.go MR2 ?_ | refine SW.goDrawF MR2 (by rfl) (by kernel_rfl) ?_); simp -implicitDefEqProofs only [go_sem, storeT, cfgT, keyT, u32T, i64T, booT, chT, isBool_v, asBool_v, stT, zS, h1, h2, b4, b5, zK_eq, rT]) | (refine SW.cond (by simp -implicitDefEqProofs only [go_sem, storeT, cfgT, keyT, u32T, i64T, booT, chT, isBool_v, asBool_v, stT, zS, h1, h2, b4, b5, zK_eq, rT]; rfl) (fun ht => ?_) (fun ht => ?_) <;> (try with_reducible contradiction))))
      all_goals first | rfl | skip
      all_goals trace_state
  · have hr : ratT s = (rT s (.agg [.v (.pointer none), keyT zK]) (.agg [.box (chT s.recv s.recvN), keyT s.recvHeader]) (.box (storeT s.cfg.store s.spares))) := by simp only [ratT, lineT, h1, h2, if_true, Bool.false_eq_true, if_false, rT]
    rw [hr]
    have hu : unf 1000 (rT s (.agg [.v (.pointer none), keyT zK]) (.agg [.box (chT s.recv s.recvN), keyT s.recvHeader]) (.box (storeT s.cfg.store s.spares))) = some ((rT s (.agg [.v (.pointer none), keyT zK]) (.agg [.ptr 1000 [], keyT s.recvHeader]) (.ptr 1001 [])), [(1000, .var (chT s.recv s.recvN)), (1001, .var (storeT s.cfg.store s.spares))], 1002) := by
      simp only [rT, cfgT, keyT, u32T, i64T, booT, unf, unfs, noowns, A.noown, bA_noowns, Option.map_some, if_true, reduceIte, List.nil_append, List.append_nil, List.cons_append]
    simp only [h1, h2, Bool.not_true, Bool.not_false, Bool.false_and, Bool.true_and, Bool.or_eq_false_iff, Bool.not_eq_false', decide_eq_true_eq] at b4 b5
    have g0 := getP_r0 (s := s) (la := (.agg [.v (.pointer none), keyT zK])) (lb := (.agg [.ptr 2 [], keyT s.recvHeader])) (st := .ptr 3 []) rfl rfl
    have g1 := getP_r1 (s := s) (la := (.agg [.v (.pointer none), keyT zK])) (lb := (.agg [.ptr 2 [], keyT s.recvHeader])) (st := .ptr 3 []) rfl rfl
    have g2 := getP_r2 (s := s) (la := (.agg [.v (.pointer none), keyT zK])) (lb := (.agg [.ptr 2 [], keyT s.recvHeader])) (st := .ptr 3 []) rfl rfl
    have g3 := getP_r3 (s := s) (la := (.agg [.v (.pointer none), keyT zK])) (lb := (.agg [.ptr 2 [], keyT s.recvHeader])) (st := .ptr 3 []) rfl rfl
    have g4 := getP_r4 (s := s) (la := (.agg [.v (.pointer none), keyT zK])) (lb := (.agg [.ptr 2 [], keyT s.recvHeader])) (st := .ptr 3 []) rfl rfl
    have g5 := getP_r5 (s := s) (la := (.agg [.v (.pointer none), keyT zK])) (lb := (.agg [.ptr 2 [], keyT s.recvHeader])) (st := .ptr 3 []) rfl rfl
    have g6 := getP_r6 (s := s) (la := (.agg [.v (.pointer none), keyT zK])) (lb := (.agg [.ptr 2 [], keyT s.recvHeader])) (st := .ptr 3 []) rfl rfl
    have g7 := getP_r7 (s := s) (la := (.agg [.v (.pointer none), keyT zK])) (lb := (.agg [.ptr 2 [], keyT s.recvHeader])) (st := .ptr 3 []) rfl rfl
    have g8 := getP_r8 (s := s) (la := (.agg [.v (.pointer none), keyT zK])) (lb := (.agg [.ptr 2 [], keyT s.recvHeader])) (st := .ptr 3 []) rfl rfl
    have g9 := getP_r9 (s := s) (la := (.agg [.v (.pointer none), keyT zK])) (lb := (.agg [.ptr 2 [], keyT s.recvHeader])) (st := .ptr 3 []) rfl rfl
    have g10 := getP_r10 (s := s) (la := (.agg [.v (.pointer none), keyT zK])) (lb := (.agg [.ptr 2 [], keyT s.recvHeader])) (st := .ptr 3 []) rfl rfl
    have g11 := getP_r11 (s := s) (la := (.agg [.v (.pointer none), keyT zK])) (lb := (.agg [.ptr 2 [], keyT s.recvHeader])) (st := .ptr 3 []) rfl rfl
    have g12 := getP_r12 (s := s) (la := (.agg [.v (.pointer none), keyT zK])) (lb := (.agg [.ptr 2 [], keyT s.recvHeader])) (st := .ptr 3 []) rfl rfl
    refine SW.weak (Weak.open3 0 1000 1002 2000 rfl rfl hu rfl (fun i hi1 hi2 => by have hi3 : i = 1000 ∨ i = 1001 := (by omega); rcases hi3 with rfl | rfl <;> exact ⟨rfl, by decide⟩) (Weak.of [(0, 0), (1000, 2), (1001, 3)] (sls := [(0, .ptr 0 [])]) (bks := [(0, .var (rT s (.agg [.v (.pointer none), keyT zK]) (.agg [.ptr 2 [], keyT s.recvHeader]) (.ptr 3 []))), (2, .var (chT s.recv s.recvN)), (3, .var (storeT s.cfg.store s.spares))]) (ep := 64) (by rfl) ?_ ?_)) ?_
    · simp -implicitDefEqProofs only [go_sem]
      all_goals (repeat' (first | exact rfl | exact trivial | refine And.intro ?_ ?_))
    · simp -implicitDefEqProofs only [go_sem, cfgT, keyT, u32T, i64T, booT, chT, rT]
      all_goals (repeat' (first | exact rfl | exact trivial | refine And.intro ?_ ?_))
    · clear hu hr
      simp only [keyT] at g0 g1 g2 g3 g4 g5 g6 g7 g8 g9 g10 g11 g12
      repeat' (first
        | apply_assumption -exfalso -symm (transparency := .reducible) only [*]
        | with_reducible refine SW.stopR 2 ?_
        | (with_reducible refine callEnd_of q1 ?_ <;> (try simp -implicitDefEqProofs only [go_sem, storeT, cfgT, keyT, u32T, i64T, booT, chT, isBool_v, asBool_v, zK_eq, g0, g1, g2, g3, g4, g5, g6, g7, g8, g9, g10, g11, g12]))
        | (with_reducible refine callEnd_of q2 ?_ <;> (try simp -implicitDefEqProofs only [go_sem, storeT, cfgT, keyT, u32T, i64T, booT, chT, isBool_v, asBool_v, zK_eq, g0, g1, g2, g3, g4, g5, g6, g7, g8, g9, g10, g11, g12]))
        | (with_reducible refine callEnd_of q3 ?_ <;> (try simp -implicitDefEqProofs only [go_sem, storeT, cfgT, keyT, u32T, i64T, booT, chT, isBool_v, asBool_v, zK_eq, g0, g1, g2, g3, g4, g5, g6, g7, g8, g9, g10, g11, g12]))
        | (with_reducible refine callEnd_of q4 ?_ <;> (try simp -implicitDefEqProofs only [go_sem, storeT, cfgT, keyT, u32T, i64T, booT, chT, isBool_v, asBool_v, zK_eq, g0, g1, g2, g3, g4, g5, g6, g7, g8, g9, g10, g11, g12]))
        | (with_reducible refine And.intro ?_ ?_)
        | (refine drawIt ?_; kernel_rfl)
        | ((with_reducible refine opsF_id ?_); simp -implicitDefEqProofs only [go_sem, storeT, cfgT, keyT, u32T, i64T, booT, chT, isBool_v, asBool_v, zK_eq, g0, g1, g2, g3, g4, g5, g6, g7, g8, g9, g10, g11, g12])
        | ((with_reducible refine SW.id ?_); first | with_reducible refine SW.seqK fun K hK => ?_ | with_reducible refine SW.block ?_ | with_reducible refine SW.scope ?_ | ((first | with_reducible refine SW.skip ?_ | with_reducible refine SW.exit ?_ | with_reducible refine SW.label ?_ | with_reducible refine SW.ret ?_ | with_reducible refine SW.go MR2 ?_ | refine SW.goDrawF MR2 (by rfl) (by kernel_rfl) ?_); simp -implicitDefEqProofs only [go_sem, storeT, cfgT, keyT, u32T, i64T, booT, chT, isBool_v, asBool_v, zK_eq, g0, g1, g2, g3, g4, g5, g6, g7, g8, g9, g10, g11, g12]) | (refine SW.cond (by simp -implicitDefEqProofs only [go_sem, storeT, cfgT, keyT, u32T, i64T, booT, chT, isBool_v, asBool_v, zK_eq, g0, g1, g2, g3, g4, g5, g6, g7, g8, g9, g10, g11, g12]; rfl) (fun ht => ?_) (fun ht => ?_) <;> (try with_reducible contradiction))))
      refine Stop.go (SW.weak (Weak.of [(0, 0), (2, 2), (3, 3), (64, 4), (3712, 5), (3584, 6), (65, 7)] (sls := [(0, .ptr 0 []), (2, .ptr 4 []), (3, .ptr 5 [])]) (bks := [(0, .var (rT s (.agg [.v (.pointer none), keyT zK]) (.agg [.ptr 2 [], keyT s.recvHeader]) (.ptr 3 []))), (2, .var (chT s.recv s.recvN)), (3, .var (storeT s.cfg.store s.spares)), (4, .var (stT zS (.ref 7 65 0 0 false))), (5, .var (stT { s with send := zK, sendHeader := zK, sendN := 0, hasSend := false, recv := zK, recvHeader := zK, recvN := 0, hasRecv := false } (.ref 6 65 0 s.spares.length false))), (6, .row 65 (s.spares.map spT)), (7, .row 65 [])]) (ep := 64) (by rfl) ?_ ?_) ?_)
      · simp -implicitDefEqProofs only [go_sem]
        all_goals (repeat' (first | exact rfl | exact trivial | refine And.intro ?_ ?_))
      · simp -implicitDefEqProofs only [go_sem, stT, zS, cfgT, keyT, u32T, i64T, booT, chT, storeT, zK_eq]
        all_goals (repeat' (first | exact rfl | exact trivial | refine And.intro ?_ ?_))
      repeat' (first
        | apply_assumption -exfalso -symm (transparency := .reducible) only [*]
        | with_reducible refine SW.stopR 3 ?_
        | (with_reducible refine callEnd_of q1 ?_ <;> (try simp -implicitDefEqProofs only [go_sem, stT, zS, cfgT, keyT, u32T, i64T, booT, chT, isBool_v, asBool_v, zK_eq, g0, g1, g2, g3, g4, g5, g6, g7, g8, g9, g10, g11, g12]))
        | (with_reducible refine callEnd_of q2 ?_ <;> (try simp -implicitDefEqProofs only [go_sem, stT, zS, cfgT, keyT, u32T, i64T, booT, chT, isBool_v, asBool_v, zK_eq, g0, g1, g2, g3, g4, g5, g6, g7, g8, g9, g10, g11, g12]))
        | (with_reducible refine callEnd_of q3 ?_ <;> (try simp -implicitDefEqProofs only [go_sem, stT, zS, cfgT, keyT, u32T, i64T, booT, chT, isBool_v, asBool_v, zK_eq, g0, g1, g2, g3, g4, g5, g6, g7, g8, g9, g10, g11, g12]))
        | (with_reducible refine callEnd_of q4 ?_ <;> (try simp -implicitDefEqProofs only [go_sem, stT, zS, cfgT, keyT, u32T, i64T, booT, chT, isBool_v, asBool_v, zK_eq, g0, g1, g2, g3, g4, g5, g6, g7, g8, g9, g10, g11, g12]))
        | (with_reducible refine And.intro ?_ ?_)
        | (refine drawIt ?_; kernel_rfl)
        | ((with_reducible refine opsF_id ?_); simp -implicitDefEqProofs only [go_sem, stT, zS, cfgT, keyT, u32T, i64T, booT, chT, isBool_v, asBool_v, zK_eq, g0, g1, g2, g3, g4, g5, g6, g7, g8, g9, g10, g11, g12])
        | ((with_reducible refine SW.id ?_); first | with_reducible refine SW.seqK fun K hK => ?_ | with_reducible refine SW.block ?_ | with_reducible refine SW.scope ?_ | ((first | with_reducible refine SW.skip ?_ | with_reducible refine SW.exit ?_ | with_reducible refine SW.label ?_ | with_reducible refine SW.ret ?_ | with_reducible refine SW.go MR2 ?_ | refine SW.goDrawF MR2 (by rfl) (by kernel_rfl) ?_); simp -implicitDefEqProofs only [go_sem, stT, zS, cfgT, keyT, u32T, i64T, booT, chT, isBool_v, asBool_v, zK_eq, g0, g1, g2, g3, g4, g5, g6, g7, g8, g9, g10, g11, g12]) | (refine SW.cond (by simp -implicitDefEqProofs only [go_sem, stT, zS, cfgT, keyT, u32T, i64T, booT, chT, isBool_v, asBool_v, zK_eq, g0, g1, g2, g3, g4, g5, g6, g7, g8, g9, g10, g11, g12]; rfl) (fun ht => ?_) (fun ht => ?_) <;> (try with_reducible contradiction))))
      refine Stop.go (SW.weak (Weak.of [(0, 0), (2, 2), (3, 3), (4, 4), (5, 5), (6, 6), (7, 7)] (sls := [(0, .ptr 0 []), (2, .ptr 4 []), (3, .ptr 5 [])]) (bks := [(0, .var (rT s (.agg [.v (.pointer none), keyT zK]) (.agg [.ptr 2 [], keyT s.recvHeader]) (.ptr 3 []))), (2, .var (chT s.recv s.recvN)), (3, .var (storeT s.cfg.store s.spares)), (4, .var (stT zS (.ref 7 65 0 0 false))), (5, .var (stT { s with send := zK, sendHeader := zK, sendN := 0, hasSend := false, recv := zK, recvHeader := zK, recvN := 0, hasRecv := false } (.ref 6 65 0 s.spares.length false))), (6, .row 65 (s.spares.map spT)), (7, .row 65 [])]) (ep := 64) (by rfl) ?_ ?_) ?_)
      · simp -implicitDefEqProofs only [go_sem]
        all_goals (repeat' (first | exact rfl | exact trivial | refine And.intro ?_ ?_))
      · simp -implicitDefEqProofs only [go_sem, stT, zS, cfgT, keyT, u32T, i64T, booT, chT, storeT, zK_eq]
        all_goals (repeat' (first | exact rfl | exact trivial | refine And.intro ?_ ?_))
      repeat' (first
        | apply_assumption -exfalso -symm (transparency := .reducible) only [*]
        | with_reducible refine SW.stopR 4 ?_
        | (with_reducible refine callEnd_of q1 ?_ <;> (try simp -implicitDefEqProofs only [go_sem, stT, zS, cfgT, keyT, u32T, i64T, booT, chT, isBool_v, asBool_v, zK_eq, g0, g1, g2, g3, g4, g5, g6, g7, g8, g9, g10, g11, g12]))
        | (with_reducible refine callEnd_of q2 ?_ <;> (try simp -implicitDefEqProofs only [go_sem, stT, zS, cfgT, keyT, u32T, i64T, booT, chT, isBool_v, asBool_v, zK_eq, g0, g1, g2, g3, g4, g5, g6, g7, g8, g9, g10, g11, g12]))
        | (with_reducible refine callEnd_of q3 ?_ <;> (try simp -implicitDefEqProofs only [go_sem, stT, zS, cfgT, keyT, u32T, i64T, booT, chT, isBool_v, asBool_v, zK_eq, g0, g1, g2, g3, g4, g5, g6, g7, g8, g9, g10, g11, g12]))
        | (with_reducible refine callEnd_of q4 ?_ <;> (try simp -implicitDefEqProofs only [go_sem, stT, zS, cfgT, keyT, u32T, i64T, booT, chT, isBool_v, asBool_v, zK_eq, g0, g1, g2, g3, g4, g5, g6, g7, g8, g9, g10, g11, g12]))
        | (with_reducible refine And.intro ?_ ?_)
        | (refine drawIt ?_; kernel_rfl)
        | ((with_reducible refine opsF_id ?_); simp -implicitDefEqProofs only [go_sem, stT, zS, cfgT, keyT, u32T, i64T, booT, chT, isBool_v, asBool_v, zK_eq, g0, g1, g2, g3, g4, g5, g6, g7, g8, g9, g10, g11, g12])
        | ((with_reducible refine SW.id ?_); first | with_reducible refine SW.seqK fun K hK => ?_ | with_reducible refine SW.block ?_ | with_reducible refine SW.scope ?_ | ((first | with_reducible refine SW.skip ?_ | with_reducible refine SW.exit ?_ | with_reducible refine SW.label ?_ | with_reducible refine SW.ret ?_ | with_reducible refine SW.go MR2 ?_ | refine SW.goDrawF MR2 (by rfl) (by kernel_rfl) ?_); simp -implicitDefEqProofs only [go_sem, stT, zS, cfgT, keyT, u32T, i64T, booT, chT, isBool_v, asBool_v, zK_eq, g0, g1, g2, g3, g4, g5, g6, g7, g8, g9, g10, g11, g12]) | (refine SW.cond (by simp -implicitDefEqProofs only [go_sem, stT, zS, cfgT, keyT, u32T, i64T, booT, chT, isBool_v, asBool_v, zK_eq, g0, g1, g2, g3, g4, g5, g6, g7, g8, g9, g10, g11, g12]; rfl) (fun ht => ?_) (fun ht => ?_) <;> (try with_reducible contradiction))))
      refine Stop.go (SW.weak (Weak.of [(0, 0), (2, 2), (3, 3), (4, 4), (5, 5), (6, 6), (7, 7)] (sls := [(0, .ptr 0 []), (2, .ptr 4 []), (3, .ptr 5 [])]) (bks := [(0, .var (rT s (.agg [.v (.pointer none), keyT zK]) (.agg [.ptr 2 [], keyT s.recvHeader]) (.ptr 3 []))), (2, .var (chT s.recv s.recvN)), (3, .var (storeT s.cfg.store s.spares)), (4, .var (stT zS (.ref 7 65 0 0 false))), (5, .var (stT { s with send := zK, sendHeader := zK, sendN := 0, hasSend := false, recv := s.recv, recvHeader := s.recvHeader, recvN := s.recvN, hasRecv := true } (.ref 6 65 0 s.spares.length false))), (6, .row 65 (s.spares.map spT)), (7, .row 65 [])]) (ep := 64) (by rfl) ?_ ?_) ?_)
      · simp -implicitDefEqProofs only [go_sem]
        all_goals (repeat' (first | exact rfl | exact trivial | refine And.intro ?_ ?_))
      · simp -implicitDefEqProofs only [go_sem, stT, zS, cfgT, keyT, u32T, i64T, booT, chT, storeT, zK_eq]
        all_goals (repeat' (first | exact rfl | exact trivial | refine And.intro ?_ ?_))
      repeat' (first
        | apply_assumption -exfalso -symm (transparency := .reducible) only [*]
        | (with_reducible refine And.intro ?_ ?_)
        | (refine drawIt ?_; kernel_rfl)
        | ((with_reducible refine opsF_id ?_); simp -implicitDefEqProofs only [go_sem, storeT, cfgT, keyT, u32T, i64T, booT, chT, isBool_v, asBool_v, stT, zS, h1, h2, b4, b5, zK_eq, rT])
        | ((with_reducible refine SW.id ?_); first | with_reducible refine SW.seqK fun K hK => ?_ | with_reducible refine SW.block ?_ | with_reducible refine SW.scope ?_ | ((first | with_reducible refine SW.skip ?_ | with_reducible refine SW.exit ?_ | with_reducible refine SW.label ?_ | with_reducible refine SW.ret ?_ | with_reducible refine SW.go MR2 ?_ | refine SW.goDrawF MR2 (by rfl) (by kernel_rfl) ?_); simp -implicitDefEqProofs only [go_sem, storeT, cfgT, keyT, u32T, i64T, booT, chT, isBool_v, asBool_v, stT, zS, h1, h2, b4, b5, zK_eq, rT]) | (refine SW.cond (by simp -implicitDefEqProofs only [go_sem, storeT, cfgT, keyT, u32T, i64T, booT, chT, isBool_v, asBool_v, stT, zS, h1, h2, b4, b5, zK_eq, rT]; rfl) (fun ht => ?_) (fun ht => ?_) <;> (try with_reducible contradiction))))
      all_goals first | rfl | skip
      all_goals trace_state
  · have hr : ratT s = (rT s (.agg [.box (chT s.send s.sendN), keyT s.sendHeader]) (.agg [.v (.pointer none), keyT zK]) (.box (storeT s.cfg.store s.spares))) := by simp only [ratT, lineT, h1, h2, if_true, Bool.false_eq_true, if_false, rT]
    rw [hr]
    have hu : unf 1000 (rT s (.agg [.box (chT s.send s.sendN), keyT s.sendHeader]) (.agg [.v (.pointer none), keyT zK]) (.box (storeT s.cfg.store s.spares))) = some ((rT s (.agg [.ptr 1000 [], keyT s.sendHeader]) (.agg [.v (.pointer none), keyT zK]) (.ptr 1001 [])), [(1000, .var (chT s.send s.sendN)), (1001, .var (storeT s.cfg.store s.spares))], 1002) := by
      simp only [rT, cfgT, keyT, u32T, i64T, booT, unf, unfs, noowns, A.noown, bA_noowns, Option.map_some, if_true, reduceIte, List.nil_append, List.append_nil, List.cons_append]
    simp only [h1, h2, Bool.not_true, Bool.not_false, Bool.false_and, Bool.true_and, Bool.or_eq_false_iff, Bool.not_eq_false', decide_eq_true_eq] at b4 b5
    have g0 := getP_r0 (s := s) (la := (.agg [.ptr 1 [], keyT s.sendHeader])) (lb := (.agg [.v (.pointer none), keyT zK])) (st := .ptr 3 []) rfl rfl
    have g1 := getP_r1 (s := s) (la := (.agg [.ptr 1 [], keyT s.sendHeader])) (lb := (.agg [.v (.pointer none), keyT zK])) (st := .ptr 3 []) rfl rfl
    have g2 := getP_r2 (s := s) (la := (.agg [.ptr 1 [], keyT s.sendHeader])) (lb := (.agg [.v (.pointer none), keyT zK])) (st := .ptr 3 []) rfl rfl
    have g3 := getP_r3 (s := s) (la := (.agg [.ptr 1 [], keyT s.sendHeader])) (lb := (.agg [.v (.pointer none), keyT zK])) (st := .ptr 3 []) rfl rfl
    have g4 := getP_r4 (s := s) (la := (.agg [.ptr 1 [], keyT s.sendHeader])) (lb := (.agg [.v (.pointer none), keyT zK])) (st := .ptr 3 []) rfl rfl
    have g5 := getP_r5 (s := s) (la := (.agg [.ptr 1 [], keyT s.sendHeader])) (lb := (.agg [.v (.pointer none), keyT zK])) (st := .ptr 3 []) rfl rfl
    have g6 := getP_r6 (s := s) (la := (.agg [.ptr 1 [], keyT s.sendHeader])) (lb := (.agg [.v (.pointer none), keyT zK])) (st := .ptr 3 []) rfl rfl
    have g7 := getP_r7 (s := s) (la := (.agg [.ptr 1 [], keyT s.sendHeader])) (lb := (.agg [.v (.pointer none), keyT zK])) (st := .ptr 3 []) rfl rfl
    have g8 := getP_r8 (s := s) (la := (.agg [.ptr 1 [], keyT s.sendHeader])) (lb := (.agg [.v (.pointer none), keyT zK])) (st := .ptr 3 []) rfl rfl
    have g9 := getP_r9 (s := s) (la := (.agg [.ptr 1 [], keyT s.sendHeader])) (lb := (.agg [.v (.pointer none), keyT zK])) (st := .ptr 3 []) rfl rfl
    have g10 := getP_r10 (s := s) (la := (.agg [.ptr 1 [], keyT s.sendHeader])) (lb := (.agg [.v (.pointer none), keyT zK])) (st := .ptr 3 []) rfl rfl
    have g11 := getP_r11 (s := s) (la := (.agg [.ptr 1 [], keyT s.sendHeader])) (lb := (.agg [.v (.pointer none), keyT zK])) (st := .ptr 3 []) rfl rfl
    have g12 := getP_r12 (s := s) (la := (.agg [.ptr 1 [], keyT s.sendHeader])) (lb := (.agg [.v (.pointer none), keyT zK])) (st := .ptr 3 []) rfl rfl
    refine SW.weak (Weak.open3 0 1000 1002 2000 rfl rfl hu rfl (fun i hi1 hi2 => by have hi3 : i = 1000 ∨ i = 1001 := (by omega); rcases hi3 with rfl | rfl <;> exact ⟨rfl, by decide⟩) (Weak.of [(0, 0), (1000, 1), (1001, 3)] (sls := [(0, .ptr 0 [])]) (bks := [(0, .var (rT s (.agg [.ptr 1 [], keyT s.sendHeader]) (.agg [.v (.pointer none), keyT zK]) (.ptr 3 []))), (1, .var (chT s.send s.sendN)), (3, .var (storeT s.cfg.store s.spares))]) (ep := 64) (by rfl) ?_ ?_)) ?_
    · simp -implicitDefEqProofs only [go_sem]
      all_goals (repeat' (first | exact rfl | exact trivial | refine And.intro ?_ ?_))
    · simp -implicitDefEqProofs only [go_sem, cfgT, keyT, u32T, i64T, booT, chT, rT]
      all_goals (repeat' (first | exact rfl | exact trivial | refine And.intro ?_ ?_))
    · clear hu hr
      simp only [keyT] at g0 g1 g2 g3 g4 g5 g6 g7 g8 g9 g10 g11 g12
      repeat' (first
        | apply_assumption -exfalso -symm (transparency := .reducible) only [*]
        | with_reducible refine SW.stopR 2 ?_
        | (with_reducible refine callEnd_of q1 ?_ <;> (try simp -implicitDefEqProofs only [go_sem, storeT, cfgT, keyT, u32T, i64T, booT, chT, isBool_v, asBool_v, zK_eq, g0, g1, g2, g3, g4, g5, g6, g7, g8, g9, g10, g11, g12]))
        | (with_reducible refine callEnd_of q2 ?_ <;> (try simp -implicitDefEqProofs only [go_sem, storeT, cfgT, keyT, u32T, i64T, booT, chT, isBool_v, asBool_v, zK_eq, g0, g1, g2, g3, g4, g5, g6, g7, g8, g9, g10, g11, g12]))
        | (with_reducible refine callEnd_of q3 ?_ <;> (try simp -implicitDefEqProofs only [go_sem, storeT, cfgT, keyT, u32T, i64T, booT, chT, isBool_v, asBool_v, zK_eq, g0, g1, g2, g3, g4, g5, g6, g7, g8, g9, g10, g11, g12]))
        | (with_reducible refine callEnd_of q4 ?_ <;> (try simp -implicitDefEqProofs only [go_sem, storeT, cfgT, keyT, u32T, i64T, booT, chT, isBool_v, asBool_v, zK_eq, g0, g1, g2, g3, g4, g5, g6, g7, g8, g9, g10, g11, g12]))
        | (with_reducible refine And.intro ?_ ?_)
        | (refine drawIt ?_; kernel_rfl)
        | ((with_reducible refine opsF_id ?_); simp -implicitDefEqProofs only [go_sem, storeT, cfgT, keyT, u32T, i64T, booT, chT, isBool_v, asBool_v, zK_eq, g0, g1, g2, g3, g4, g5, g6, g7, g8, g9, g10, g11, g12])
        | ((with_reducible refine SW.id ?_); first | with_reducible refine SW.seqK fun K hK => ?_ | with_reducible refine SW.block ?_ | with_reducible refine SW.scope ?_ | ((first | with_reducible refine SW.skip ?_ | with_reducible refine SW.exit ?_ | with_reducible refine SW.label ?_ | with_reducible refine SW.ret ?_ | with_reducible refine SW.go MR2 ?_ | refine SW.goDrawF MR2 (by rfl) (by kernel_rfl) ?_); simp -implicitDefEqProofs only [go_sem, storeT, cfgT, keyT, u32T, i64T, booT, chT, isBool_v, asBool_v, zK_eq, g0, g1, g2, g3, g4, g5, g6, g7, g8, g9, g10, g11, g12]) | (refine SW.cond (by simp -implicitDefEqProofs only [go_sem, storeT, cfgT, keyT, u32T, i64T, booT, chT, isBool_v, asBool_v, zK_eq, g0, g1, g2, g3, g4, g5, g6, g7, g8, g9, g10, g11, g12]; rfl) (fun ht => ?_) (fun ht => ?_) <;> (try with_reducible contradiction))))
      refine Stop.go (SW.weak (Weak.of [(0, 0), (1, 1), (3, 3), (64, 4), (3712, 5), (3584, 6), (65, 7)] (sls := [(0, .ptr 0 []), (2, .ptr 4 []), (3, .ptr 5 [])]) (bks := [(0, .var (rT s (.agg [.ptr 1 [], keyT s.sendHeader]) (.agg [.v (.pointer none), keyT zK]) (.ptr 3 []))), (1, .var (chT s.send s.sendN)), (3, .var (storeT s.cfg.store s.spares)), (4, .var (stT zS (.ref 7 65 0 0 false))), (5, .var (stT { s with send := zK, sendHeader := zK, sendN := 0, hasSend := false, recv := zK, recvHeader := zK, recvN := 0, hasRecv := false } (.ref 6 65 0 s.spares.length false))), (6, .row 65 (s.spares.map spT)), (7, .row 65 [])]) (ep := 64) (by rfl) ?_ ?_) ?_)
      · simp -implicitDefEqProofs only [go_sem]
        all_goals (repeat' (first | exact rfl | exact trivial | refine And.intro ?_ ?_))
      · simp -implicitDefEqProofs only [go_sem, stT, zS, cfgT, keyT, u32T, i64T, booT, chT, storeT, zK_eq]
        all_goals (repeat' (first | exact rfl | exact trivial | refine And.intro ?_ ?_))
      repeat' (first
        | apply_assumption -exfalso -symm (transparency := .reducible) only [*]
        | with_reducible refine SW.stopR 3 ?_
        | (with_reducible refine callEnd_of q1 ?_ <;> (try simp -implicitDefEqProofs only [go_sem, stT, zS, cfgT, keyT, u32T, i64T, booT, chT, isBool_v, asBool_v, zK_eq, g0, g1, g2, g3, g4, g5, g6, g7, g8, g9, g10, g11, g12]))
        | (with_reducible refine callEnd_of q2 ?_ <;> (try simp -implicitDefEqProofs only [go_sem, stT, zS, cfgT, keyT, u32T, i64T, booT, chT, isBool_v, asBool_v, zK_eq, g0, g1, g2, g3, g4, g5, g6, g7, g8, g9, g10, g11, g12]))
        | (with_reducible refine callEnd_of q3 ?_ <;> (try simp -implicitDefEqProofs only [go_sem, stT, zS, cfgT, keyT, u32T, i64T, booT, chT, isBool_v, asBool_v, zK_eq, g0, g1, g2, g3, g4, g5, g6, g7, g8, g9, g10, g11, g12]))
        | (with_reducible refine callEnd_of q4 ?_ <;> (try simp -implicitDefEqProofs only [go_sem, stT, zS, cfgT, keyT, u32T, i64T, booT, chT, isBool_v, asBool_v, zK_eq, g0, g1, g2, g3, g4, g5, g6, g7, g8, g9, g10, g11, g12]))
        | (with_reducible refine And.intro ?_ ?_)
        | (refine drawIt ?_; kernel_rfl)
        | ((with_reducible refine opsF_id ?_); simp -implicitDefEqProofs only [go_sem, stT, zS, cfgT, keyT, u32T, i64T, booT, chT, isBool_v, asBool_v, zK_eq, g0, g1, g2, g3, g4, g5, g6, g7, g8, g9, g10, g11, g12])
        | ((with_reducible refine SW.id ?_); first | with_reducible refine SW.seqK fun K hK => ?_ | with_reducible refine SW.block ?_ | with_reducible refine SW.scope ?_ | ((first | with_reducible refine SW.skip ?_ | with_reducible refine SW.exit ?_ | with_reducible refine SW.label ?_ | with_reducible refine SW.ret ?_ | with_reducible refine SW.go MR2 ?_ | refine SW.goDrawF MR2 (by rfl) (by kernel_rfl) ?_); simp -implicitDefEqProofs only [go_sem, stT, zS, cfgT, keyT, u32T, i64T, booT, chT, isBool_v, asBool_v, zK_eq, g0, g1, g2, g3, g4, g5, g6, g7, g8, g9, g10, g11, g12]) | (refine SW.cond (by simp -implicitDefEqProofs only [go_sem, stT, zS, cfgT, keyT, u32T, i64T, booT, chT, isBool_v, asBool_v, zK_eq, g0, g1, g2, g3, g4, g5, g6, g7, g8, g9, g10, g11, g12]; rfl) (fun ht => ?_) (fun ht => ?_) <;> (try with_reducible contradiction))))
      refine Stop.go (SW.weak (Weak.of [(0, 0), (1, 1), (3, 3), (4, 4), (5, 5), (6, 6), (7, 7)] (sls := [(0, .ptr 0 []), (2, .ptr 4 []), (3, .ptr 5 [])]) (bks := [(0, .var (rT s (.agg [.ptr 1 [], keyT s.sendHeader]) (.agg [.v (.pointer none), keyT zK]) (.ptr 3 []))), (1, .var (chT s.send s.sendN)), (3, .var (storeT s.cfg.store s.spares)), (4, .var (stT zS (.ref 7 65 0 0 false))), (5, .var (stT { s with send := s.send, sendHeader := s.sendHeader, sendN := s.sendN, hasSend := true, recv := zK, recvHeader := zK, recvN := 0, hasRecv := false } (.ref 6 65 0 s.spares.length false))), (6, .row 65 (s.spares.map spT)), (7, .row 65 [])]) (ep := 64) (by rfl) ?_ ?_) ?_)
      · simp -implicitDefEqProofs only [go_sem]
        all_goals (repeat' (first | exact rfl | exact trivial | refine And.intro ?_ ?_))
      · simp -implicitDefEqProofs only [go_sem, stT, zS, cfgT, keyT, u32T, i64T, booT, chT, storeT, zK_eq]
        all_goals (repeat' (first | exact rfl | exact trivial | refine And.intro ?_ ?_))
      repeat' (first
        | apply_assumption -exfalso -symm (transparency := .reducible) only [*]
        | with_reducible refine SW.stopR 4 ?_
        | (with_reducible refine callEnd_of q1 ?_ <;> (try simp -implicitDefEqProofs only [go_sem, stT, zS, cfgT, keyT, u32T, i64T, booT, chT, isBool_v, asBool_v, zK_eq, g0, g1, g2, g3, g4, g5, g6, g7, g8, g9, g10, g11, g12]))
        | (with_reducible refine callEnd_of q2 ?_ <;> (try simp -implicitDefEqProofs only [go_sem, stT, zS, cfgT, keyT, u32T, i64T, booT, chT, isBool_v, asBool_v, zK_eq, g0, g1, g2, g3, g4, g5, g6, g7, g8, g9, g10, g11, g12]))
        | (with_reducible refine callEnd_of q3 ?_ <;> (try simp -implicitDefEqProofs only [go_sem, stT, zS, cfgT, keyT, u32T, i64T, booT, chT, isBool_v, asBool_v, zK_eq, g0, g1, g2, g3, g4, g5, g6, g7, g8, g9, g10, g11, g12]))
        | (with_reducible refine callEnd_of q4 ?_ <;> (try simp -implicitDefEqProofs only [go_sem, stT, zS, cfgT, keyT, u32T, i64T, booT, chT, isBool_v, asBool_v, zK_eq, g0, g1, g2, g3, g4, g5, g6, g7, g8, g9, g10, g11, g12]))
        | (with_reducible refine And.intro ?_ ?_)
        | (refine drawIt ?_; kernel_rfl)
        | ((with_reducible refine opsF_id ?_); simp -implicitDefEqProofs only [go_sem, stT, zS, cfgT, keyT, u32T, i64T, booT, chT, isBool_v, asBool_v, zK_eq, g0, g1, g2, g3, g4, g5, g6, g7, g8, g9, g10, g11, g12])
        | ((with_reducible refine SW.id ?_); first | with_reducible refine SW.seqK fun K hK => ?_ | with_reducible refine SW.block ?_ | with_reducible refine SW.scope ?_ | ((first | with_reducible refine SW.skip ?_ | with_reducible refine SW.exit ?_ | with_reducible refine SW.label ?_ | with_reducible refine SW.ret ?_ | with_reducible refine SW.go MR2 ?_ | refine SW.goDrawF MR2 (by rfl) (by kernel_rfl) ?_); simp -implicitDefEqProofs only [go_sem, stT, zS, cfgT, keyT, u32T, i64T, booT, chT, isBool_v, asBool_v, zK_eq, g0, g1, g2, g3, g4, g5, g6, g7, g8, g9, g10, g11, g12]) | (refine SW.cond (by simp -implicitDefEqProofs only [go_sem, stT, zS, cfgT, keyT, u32T, i64T, booT, chT, isBool_v, asBool_v, zK_eq, g0, g1, g2, g3, g4, g5, g6, g7, g8, g9, g10, g11, g12]; rfl) (fun ht => ?_) (fun ht => ?_) <;> (try with_reducible contradiction))))
      refine Stop.go (SW.weak (Weak.of [(0, 0), (1, 1), (3, 3), (4, 4), (5, 5), (6, 6), (7, 7)] (sls := [(0, .ptr 0 []), (2, .ptr 4 []), (3, .ptr 5 [])]) (bks := [(0, .var (rT s (.agg [.ptr 1 [], keyT s.sendHeader]) (.agg [.v (.pointer none), keyT zK]) (.ptr 3 []))), (1, .var (chT s.send s.sendN)), (3, .var (storeT s.cfg.store s.spares)), (4, .var (stT zS (.ref 7 65 0 0 false))), (5, .var (stT { s with send := s.send, sendHeader := s.sendHeader, sendN := s.sendN, hasSend := true, recv := zK, recvHeader := zK, recvN := 0, hasRecv := false } (.ref 6 65 0 s.spares.length false))), (6, .row 65 (s.spares.map spT)), (7, .row 65 [])]) (ep := 64) (by rfl) ?_ ?_) ?_)
      · simp -implicitDefEqProofs only [go_sem]
        all_goals (repeat' (first | exact rfl | exact trivial | refine And.intro ?_ ?_))
      · simp -implicitDefEqProofs only [go_sem, stT, zS, cfgT, keyT, u32T, i64T, booT, chT, storeT, zK_eq]
        all_goals (repeat' (first | exact rfl | exact trivial | refine And.intro ?_ ?_))
      repeat' (first
        | apply_assumption -exfalso -symm (transparency := .reducible) only [*]
        | (with_reducible refine And.intro ?_ ?_)
        | (refine drawIt ?_; kernel_rfl)
        | ((with_reducible refine opsF_id ?_); simp -implicitDefEqProofs only [go_sem, storeT, cfgT, keyT, u32T, i64T, booT, chT, isBool_v, asBool_v, stT, zS, h1, h2, b4, b5, zK_eq, rT])
        | ((with_reducible refine SW.id ?_); first | with_reducible refine SW.seqK fun K hK => ?_ | with_reducible refine SW.block ?_ | with_reducible refine SW.scope ?_ | ((first | with_reducible refine SW.skip ?_ | with_reducible refine SW.exit ?_ | with_reducible refine SW.label ?_ | with_reducible refine SW.ret ?_ | with_reducible refine SW.go MR2 ?_ | refine SW.goDrawF MR2 (by rfl) (by kernel_rfl) ?_); simp -implicitDefEqProofs only [go_sem, storeT, cfgT, keyT, u32T, i64T, booT, chT, isBool_v, asBool_v, stT, zS, h1, h2, b4, b5, zK_eq, rT]) | (refine SW.cond (by simp -implicitDefEqProofs only [go_sem, storeT, cfgT, keyT, u32T, i64T, booT, chT, isBool_v, asBool_v, stT, zS, h1, h2, b4, b5, zK_eq, rT]; rfl) (fun ht => ?_) (fun ht => ?_) <;> (try with_reducible contradiction))))
      all_goals first | rfl | skip
      all_goals trace_state
  · have hr : ratT s = (rT s (.agg [.box (chT s.send s.sendN), keyT s.sendHeader]) (.agg [.box (chT s.recv s.recvN), keyT s.recvHeader]) (.box (storeT s.cfg.store s.spares))) := by simp only [ratT, lineT, h1, h2, if_true, Bool.false_eq_true, if_false, rT]
    rw [hr]
    have hu : unf 1000 (rT s (.agg [.box (chT s.send s.sendN), keyT s.sendHeader]) (.agg [.box (chT s.recv s.recvN), keyT s.recvHeader]) (.box (storeT s.cfg.store s.spares))) = some ((rT s (.agg [.ptr 1000 [], keyT s.sendHeader]) (.agg [.ptr 1001 [], keyT s.recvHeader]) (.ptr 1002 [])), [(1000, .var (chT s.send s.sendN)), (1001, .var (chT s.recv s.recvN)), (1002, .var (storeT s.cfg.store s.spares))], 1003) := by
      simp only [rT, cfgT, keyT, u32T, i64T, booT, unf, unfs, noowns, A.noown, bA_noowns, Option.map_some, if_true, reduceIte, List.nil_append, List.append_nil, List.cons_append]
    simp only [h1, h2, Bool.not_true, Bool.not_false, Bool.false_and, Bool.true_and, Bool.or_eq_false_iff, Bool.not_eq_false', decide_eq_true_eq] at b4 b5
    have g0 := getP_r0 (s := s) (la := (.agg [.ptr 1 [], keyT s.sendHeader])) (lb := (.agg [.ptr 2 [], keyT s.recvHeader])) (st := .ptr 3 []) rfl rfl
    have g1 := getP_r1 (s := s) (la := (.agg [.ptr 1 [], keyT s.sendHeader])) (lb := (.agg [.ptr 2 [], keyT s.recvHeader])) (st := .ptr 3 []) rfl rfl
    have g2 := getP_r2 (s := s) (la := (.agg [.ptr 1 [], keyT s.sendHeader])) (lb := (.agg [.ptr 2 [], keyT s.recvHeader])) (st := .ptr 3 []) rfl rfl
    have g3 := getP_r3 (s := s) (la := (.agg [.ptr 1 [], keyT s.sendHeader])) (lb := (.agg [.ptr 2 [], keyT s.recvHeader])) (st := .ptr 3 []) rfl rfl
    have g4 := getP_r4 (s := s) (la := (.agg [.ptr 1 [], keyT s.sendHeader])) (lb := (.agg [.ptr 2 [], keyT s.recvHeader])) (st := .ptr 3 []) rfl rfl
    have g5 := getP_r5 (s := s) (la := (.agg [.ptr 1 [], keyT s.sendHeader])) (lb := (.agg [.ptr 2 [], keyT s.recvHeader])) (st := .ptr 3 []) rfl rfl
    have g6 := getP_r6 (s := s) (la := (.agg [.ptr 1 [], keyT s.sendHeader])) (lb := (.agg [.ptr 2 [], keyT s.recvHeader])) (st := .ptr 3 []) rfl rfl
    have g7 := getP_r7 (s := s) (la := (.agg [.ptr 1 [], keyT s.sendHeader])) (lb := (.agg [.ptr 2 [], keyT s.recvHeader])) (st := .ptr 3 []) rfl rfl
    have g8 := getP_r8 (s := s) (la := (.agg [.ptr 1 [], keyT s.sendHeader])) (lb := (.agg [.ptr 2 [], keyT s.recvHeader])) (st := .ptr 3 []) rfl rfl
    have g9 := getP_r9 (s := s) (la := (.agg [.ptr 1 [], keyT s.sendHeader])) (lb := (.agg [.ptr 2 [], keyT s.recvHeader])) (st := .ptr 3 []) rfl rfl
    have g10 := getP_r10 (s := s) (la := (.agg [.ptr 1 [], keyT s.sendHeader])) (lb := (.agg [.ptr 2 [], keyT s.recvHeader])) (st := .ptr 3 []) rfl rfl
    have g11 := getP_r11 (s := s) (la := (.agg [.ptr 1 [], keyT s.sendHeader])) (lb := (.agg [.ptr 2 [], keyT s.recvHeader])) (st := .ptr 3 []) rfl rfl
    have g12 := getP_r12 (s := s) (la := (.agg [.ptr 1 [], keyT s.sendHeader])) (lb := (.agg [.ptr 2 [], keyT s.recvHeader])) (st := .ptr 3 []) rfl rfl
    refine SW.weak (Weak.open3 0 1000 1003 2000 rfl rfl hu rfl (fun i hi1 hi2 => by have hi3 : i = 1000 ∨ i = 1001 ∨ i = 1002 := (by omega); rcases hi3 with rfl | rfl | rfl <;> exact ⟨rfl, by decide⟩) (Weak.of [(0, 0), (1000, 1), (1001, 2), (1002, 3)] (sls := [(0, .ptr 0 [])]) (bks := [(0, .var (rT s (.agg [.ptr 1 [], keyT s.sendHeader]) (.agg [.ptr 2 [], keyT s.recvHeader]) (.ptr 3 []))), (1, .var (chT s.send s.sendN)), (2, .var (chT s.recv s.recvN)), (3, .var (storeT s.cfg.store s.spares))]) (ep := 64) (by rfl) ?_ ?_)) ?_
    · simp -implicitDefEqProofs only [go_sem]
      all_goals (repeat' (first | exact rfl | exact trivial | refine And.intro ?_ ?_))
    · simp -implicitDefEqProofs only [go_sem, cfgT, keyT, u32T, i64T, booT, chT, rT]
      all_goals (repeat' (first | exact rfl | exact trivial | refine And.intro ?_ ?_))
    · clear hu hr
      simp only [keyT] at g0 g1 g2 g3 g4 g5 g6 g7 g8 g9 g10 g11 g12
      repeat' (first
        | apply_assumption -exfalso -symm (transparency := .reducible) only [*]
        | with_reducible refine SW.stopR 2 ?_
        | (with_reducible refine callEnd_of q1 ?_ <;> (try simp -implicitDefEqProofs only [go_sem, storeT, cfgT, keyT, u32T, i64T, booT, chT, isBool_v, asBool_v, zK_eq, g0, g1, g2, g3, g4, g5, g6, g7, g8, g9, g10, g11, g12]))
        | (with_reducible refine callEnd_of q2 ?_ <;> (try simp -implicitDefEqProofs only [go_sem, storeT, cfgT, keyT, u32T, i64T, booT, chT, isBool_v, asBool_v, zK_eq, g0, g1, g2, g3, g4, g5, g6, g7, g8, g9, g10, g11, g12]))
        | (with_reducible refine callEnd_of q3 ?_ <;> (try simp -implicitDefEqProofs only [go_sem, storeT, cfgT, keyT, u32T, i64T, booT, chT, isBool_v, asBool_v, zK_eq, g0, g1, g2, g3, g4, g5, g6, g7, g8, g9, g10, g11, g12]))
        | (with_reducible refine callEnd_of q4 ?_ <;> (try simp -implicitDefEqProofs only [go_sem, storeT, cfgT, keyT, u32T, i64T, booT, chT, isBool_v, asBool_v, zK_eq, g0, g1, g2, g3, g4, g5, g6, g7, g8, g9, g10, g11, g12]))
        | (with_reducible refine And.intro ?_ ?_)
        | (refine drawIt ?_; kernel_rfl)
        | ((with_reducible refine opsF_id ?_); simp -implicitDefEqProofs only [go_sem, storeT, cfgT, keyT, u32T, i64T, booT, chT, isBool_v, asBool_v, zK_eq, g0, g1, g2, g3, g4, g5, g6, g7, g8, g9, g10, g11, g12])
        | ((with_reducible refine SW.id ?_); first | with_reducible refine SW.seqK fun K hK => ?_ | with_reducible refine SW.block ?_ | with_reducible refine SW.scope ?_ | ((first | with_reducible refine SW.skip ?_ | with_reducible refine SW.exit ?_ | with_reducible refine SW.label ?_ | with_reducible refine SW.ret ?_ | with_reducible refine SW.go MR2 ?_ | refine SW.goDrawF MR2 (by rfl) (by kernel_rfl) ?_); simp -implicitDefEqProofs only [go_sem, storeT, cfgT, keyT, u32T, i64T, booT, chT, isBool_v, asBool_v, zK_eq, g0, g1, g2, g3, g4, g5, g6, g7, g8, g9, g10, g11, g12]) | (refine SW.cond (by simp -implicitDefEqProofs only [go_sem, storeT, cfgT, keyT, u32T, i64T, booT, chT, isBool_v, asBool_v, zK_eq, g0, g1, g2, g3, g4, g5, g6, g7, g8, g9, g10, g11, g12]; rfl) (fun ht => ?_) (fun ht => ?_) <;> (try with_reducible contradiction))))
      refine Stop.go (SW.weak (Weak.of [(0, 0), (1, 1), (2, 2), (3, 3), (64, 4), (3712, 5), (3584, 6), (65, 7)] (sls := [(0, .ptr 0 []), (2, .ptr 4 []), (3, .ptr 5 [])]) (bks := [(0, .var (rT s (.agg [.ptr 1 [], keyT s.sendHeader]) (.agg [.ptr 2 [], keyT s.recvHeader]) (.ptr 3 []))), (1, .var (chT s.send s.sendN)), (2, .var (chT s.recv s.recvN)), (3, .var (storeT s.cfg.store s.spares)), (4, .var (stT zS (.ref 7 65 0 0 false))), (5, .var (stT { s with send := zK, sendHeader := zK, sendN := 0, hasSend := false, recv := zK, recvHeader := zK, recvN := 0, hasRecv := false } (.ref 6 65 0 s.spares.length false))), (6, .row 65 (s.spares.map spT)), (7, .row 65 [])]) (ep := 64) (by rfl) ?_ ?_) ?_)
      · simp -implicitDefEqProofs only [go_sem]
        all_goals (repeat' (first | exact rfl | exact trivial | refine And.intro ?_ ?_))
      · simp -implicitDefEqProofs only [go_sem, stT, zS, cfgT, keyT, u32T, i64T, booT, chT, storeT, zK_eq]
        all_goals (repeat' (first | exact rfl | exact trivial | refine And.intro ?_ ?_))
      repeat' (first
        | apply_assumption -exfalso -symm (transparency := .reducible) only [*]
        | with_reducible refine SW.stopR 3 ?_
        | (with_reducible refine callEnd_of q1 ?_ <;> (try simp -implicitDefEqProofs only [go_sem, stT, zS, cfgT, keyT, u32T, i64T, booT, chT, isBool_v, asBool_v, zK_eq, g0, g1, g2, g3, g4, g5, g6, g7, g8, g9, g10, g11, g12]))
        | (with_reducible refine callEnd_of q2 ?_ <;> (try simp -implicitDefEqProofs only [go_sem, stT, zS, cfgT, keyT, u32T, i64T, booT, chT, isBool_v, asBool_v, zK_eq, g0, g1, g2, g3, g4, g5, g6, g7, g8, g9, g10, g11, g12]))
        | (with_reducible refine callEnd_of q3 ?_ <;> (try simp -implicitDefEqProofs only [go_sem, stT, zS, cfgT, keyT, u32T, i64T, booT, chT, isBool_v, asBool_v, zK_eq, g0, g1, g2, g3, g4, g5, g6, g7, g8, g9, g10, g11, g12]))
        | (with_reducible refine callEnd_of q4 ?_ <;> (try simp -implicitDefEqProofs only [go_sem, stT, zS, cfgT, keyT, u32T, i64T, booT, chT, isBool_v, asBool_v, zK_eq, g0, g1, g2, g3, g4, g5, g6, g7, g8, g9, g10, g11, g12]))
        | (with_reducible refine And.intro ?_ ?_)
        | (refine drawIt ?_; kernel_rfl)
        | ((with_reducible refine opsF_id ?_); simp -implicitDefEqProofs only [go_sem, stT, zS, cfgT, keyT, u32T, i64T, booT, chT, isBool_v, asBool_v, zK_eq, g0, g1, g2, g3, g4, g5, g6, g7, g8, g9, g10, g11, g12])
        | ((with_reducible refine SW.id ?_); first | with_reducible refine SW.seqK fun K hK => ?_ | with_reducible refine SW.block ?_ | with_reducible refine SW.scope ?_ | ((first | with_reducible refine SW.skip ?_ | with_reducible refine SW.exit ?_ | with_reducible refine SW.label ?_ | with_reducible refine SW.ret ?_ | with_reducible refine SW.go MR2 ?_ | refine SW.goDrawF MR2 (by rfl) (by kernel_rfl) ?_); simp -implicitDefEqProofs only [go_sem, stT, zS, cfgT, keyT, u32T, i64T, booT, chT, isBool_v, asBool_v, zK_eq, g0, g1, g2, g3, g4, g5, g6, g7, g8, g9, g10, g11, g12]) | (refine SW.cond (by simp -implicitDefEqProofs only [go_sem, stT, zS, cfgT, keyT, u32T, i64T, booT, chT, isBool_v, asBool_v, zK_eq, g0, g1, g2, g3, g4, g5, g6, g7, g8, g9, g10, g11, g12]; rfl) (fun ht => ?_) (fun ht => ?_) <;> (try with_reducible contradiction))))
      refine Stop.go (SW.weak (Weak.of [(0, 0), (1, 1), (2, 2), (3, 3), (4, 4), (5, 5), (6, 6), (7, 7)] (sls := [(0, .ptr 0 []), (2, .ptr 4 []), (3, .ptr 5 [])]) (bks := [(0, .var (rT s (.agg [.ptr 1 [], keyT s.sendHeader]) (.agg [.ptr 2 [], keyT s.recvHeader]) (.ptr 3 []))), (1, .var (chT s.send s.sendN)), (2, .var (chT s.recv s.recvN)), (3, .var (storeT s.cfg.store s.spares)), (4, .var (stT zS (.ref 7 65 0 0 false))), (5, .var (stT { s with send := s.send, sendHeader := s.sendHeader, sendN := s.sendN, hasSend := true, recv := zK, recvHeader := zK, recvN := 0, hasRecv := false } (.ref 6 65 0 s.spares.length false))), (6, .row 65 (s.spares.map spT)), (7, .row 65 [])]) (ep := 64) (by rfl) ?_ ?_) ?_)
      · simp -implicitDefEqProofs only [go_sem]
        all_goals (repeat' (first | exact rfl | exact trivial | refine And.intro ?_ ?_))
      · simp -implicitDefEqProofs only [go_sem, stT, zS, cfgT, keyT, u32T, i64T, booT, chT, storeT, zK_eq]
        all_goals (repeat' (first | exact rfl | exact trivial | refine And.intro ?_ ?_))
      repeat' (first
        | apply_assumption -exfalso -symm (transparency := .reducible) only [*]
        | with_reducible refine SW.stopR 4 ?_
        | (with_reducible refine callEnd_of q1 ?_ <;> (try simp -implicitDefEqProofs only [go_sem, stT, zS, cfgT, keyT, u32T, i64T, booT, chT, isBool_v, asBool_v, zK_eq, g0, g1, g2, g3, g4, g5, g6, g7, g8, g9, g10, g11, g12]))
        | (with_reducible refine callEnd_of q2 ?_ <;> (try simp -implicitDefEqProofs only [go_sem, stT, zS, cfgT, keyT, u32T, i64T, booT, chT, isBool_v, asBool_v, zK_eq, g0, g1, g2, g3, g4, g5, g6, g7, g8, g9, g10, g11, g12]))
        | (with_reducible refine callEnd_of q3 ?_ <;> (try simp -implicitDefEqProofs only [go_sem, stT, zS, cfgT, keyT, u32T, i64T, booT, chT, isBool_v, asBool_v, zK_eq, g0, g1, g2, g3, g4, g5, g6, g7, g8, g9, g10, g11, g12]))
        | (with_reducible refine callEnd_of q4 ?_ <;> (try simp -implicitDefEqProofs only [go_sem, stT, zS, cfgT, keyT, u32T, i64T, booT, chT, isBool_v, asBool_v, zK_eq, g0, g1, g2, g3, g4, g5, g6, g7, g8, g9, g10, g11, g12]))
        | (with_reducible refine And.intro ?_ ?_)
        | (refine drawIt ?_; kernel_rfl)
        | ((with_reducible refine opsF_id ?_); simp -implicitDefEqProofs only [go_sem, stT, zS, cfgT, keyT, u32T, i64T, booT, chT, isBool_v, asBool_v, zK_eq, g0, g1, g2, g3, g4, g5, g6, g7, g8, g9, g10, g11, g12])
        | ((with_reducible refine SW.id ?_); first | with_reducible refine SW.seqK fun K hK => ?_ | with_reducible refine SW.block ?_ | with_reducible refine SW.scope ?_ | ((first | with_reducible refine SW.skip ?_ | with_reducible refine SW.exit ?_ | with_reducible refine SW.label ?_ | with_reducible refine SW.ret ?_ | with_reducible refine SW.go MR2 ?_ | refine SW.goDrawF MR2 (by rfl) (by kernel_rfl) ?_); simp -implicitDefEqProofs only [go_sem, stT, zS, cfgT, keyT, u32T, i64T, booT, chT, isBool_v, asBool_v, zK_eq, g0, g1, g2, g3, g4, g5, g6, g7, g8, g9, g10, g11, g12]) | (refine SW.cond (by simp -implicitDefEqProofs only [go_sem, stT, zS, cfgT, keyT, u32T, i64T, booT, chT, isBool_v, asBool_v, zK_eq, g0, g1, g2, g3, g4, g5, g6, g7, g8, g9, g10, g11, g12]; rfl) (fun ht => ?_) (fun ht => ?_) <;> (try with_reducible contradiction))))
      refine Stop.go (SW.weak (Weak.of [(0, 0), (1, 1), (2, 2), (3, 3), (4, 4), (5, 5), (6, 6), (7, 7)] (sls := [(0, .ptr 0 []), (2, .ptr 4 []), (3, .ptr 5 [])]) (bks := [(0, .var (rT s (.agg [.ptr 1 [], keyT s.sendHeader]) (.agg [.ptr 2 [], keyT s.recvHeader]) (.ptr 3 []))), (1, .var (chT s.send s.sendN)), (2, .var (chT s.recv s.recvN)), (3, .var (storeT s.cfg.store s.spares)), (4, .var (stT zS (.ref 7 65 0 0 false))), (5, .var (stT { s with send := s.send, sendHeader := s.sendHeader, sendN := s.sendN, hasSend := true, recv := s.recv, recvHeader := s.recvHeader, recvN := s.recvN, hasRecv := true } (.ref 6 65 0 s.spares.length false))), (6, .row 65 (s.spares.map spT)), (7, .row 65 [])]) (ep := 64) (by rfl) ?_ ?_) ?_)
      · simp -implicitDefEqProofs only [go_sem]
        all_goals (repeat' (first | exact rfl | exact trivial | refine And.intro ?_ ?_))
      · simp -implicitDefEqProofs only [go_sem, stT, zS, cfgT, keyT, u32T, i64T, booT, chT, storeT, zK_eq]
        all_goals (repeat' (first | exact rfl | exact trivial | refine And.intro ?_ ?_))
      repeat' (first
        | apply_assumption -exfalso -symm (transparency := .reducible) only [*]
        | (with_reducible refine And.intro ?_ ?_)
        | (refine drawIt ?_; kernel_rfl)
        | ((with_reducible refine opsF_id ?_); simp -implicitDefEqProofs only [go_sem, storeT, cfgT, keyT, u32T, i64T, booT, chT, isBool_v, asBool_v, stT, zS, h1, h2, b4, b5, zK_eq, rT])
        | ((with_reducible refine SW.id ?_); first | with_reducible refine SW.seqK fun K hK => ?_ | with_reducible refine SW.block ?_ | with_reducible refine SW.scope ?_ | ((first | with_reducible refine SW.skip ?_ | with_reducible refine SW.exit ?_ | with_reducible refine SW.label ?_ | with_reducible refine SW.ret ?_ | with_reducible refine SW.go MR2 ?_ | refine SW.goDrawF MR2 (by rfl) (by kernel_rfl) ?_); simp -implicitDefEqProofs only [go_sem, storeT, cfgT, keyT, u32T, i64T, booT, chT, isBool_v, asBool_v, stT, zS, h1, h2, b4, b5, zK_eq, rT]) | (refine SW.cond (by simp -implicitDefEqProofs only [go_sem, storeT, cfgT, keyT, u32T, i64T, booT, chT, isBool_v, asBool_v, stT, zS, h1, h2, b4, b5, zK_eq, rT]; rfl) (fun ht => ?_) (fun ht => ?_) <;> (try with_reducible contradiction))))
      all_goals first | rfl | skip
      all_goals trace_state
end Go.PA
