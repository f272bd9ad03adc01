/- The store of spares: made, filled, listed. -/
import Derived.Test.YtopigdkgjobdiaaR13
import Derived.Test.YtopigdkgjobdiaaPAf
import Derived.Test.YtopigdkgjobdiaaPQ
namespace Go.PA
open Go.Proofs Go.Fe
set_option linter.unusedSimpArgs false
set_option linter.unusedVariables false
set_option maxRecDepth 100000
set_option maxHeartbeats 4000000
/-- which parameters are given and come back -/
def MR2 : FuncId → List Bool
  | 10 => [true]
  | 20 => [true]
  | 29 => [true, false]
  | 37 => [true]
  | f => MR f
attribute [local go_sem] MR2 MR getP setP takesW
attribute [-go_sem] takeA roA

def storeT (m : Int) (l : List Sp) : A := .agg [.v (.int .i64 m), .mp (l.map plT) (l.map msT), .osl 33 (l.map plT)]
theorem plT_sz (x : Sp) : (plT x).sz = 33 := rfl
theorem plO_sz (l : List Sp) : (∀ y, y ∈ l.map plT → y.sz = 33) ↔ True := sz_map plT_sz
theorem plO_closeds (l : List Sp) : closeds (l.map plT) = true := closeds_map (fun _ => rfl) l
theorem plO_nobors (l : List Sp) : nobors (l.map plT) = true := nobors_map (fun _ => rfl) l
theorem plO_noowns (l : List Sp) : noowns (l.map plT) = true := noowns_map (fun x => by simp [plT, A.noown, noowns, keyT, u32T, bA_noowns]) l
theorem msO_closeds (l : List Sp) : closeds (l.map msT) = true := closeds_map (fun _ => rfl) l
theorem msO_nobors (l : List Sp) : nobors (l.map msT) = true := nobors_map (fun _ => rfl) l
theorem rens_msT {π : Nat → Option Nat} : ∀ l : List Sp, rens π (l.map msT) = some (l.map msT)
  | [] => rfl
  | x :: l => by simp only [List.map_cons, rens, show ren π (msT x) = some (msT x) from rfl, rens_msT l]
attribute [go_sem] rens_msT plO_sz plO_closeds plO_nobors plO_noowns msO_closeds msO_nobors
theorem plT_inj {x y : Sp} (h : plT x = plT y) : plcS x = plcS y := by
  simp only [plT, keyT, u32T, A.agg.injEq, List.cons.injEq, A.arr.injEq, A.v.injEq, Value.int.injEq, and_true, true_and] at h
  have h1 := bA_inj.1 h.1
  have h2 : x.n = y.n := by omega
  unfold plcS
  rw [h1, h2]
theorem plcS_plT {x y : Sp} (h : plcS x = plcS y) : plT x = plT y := by
  unfold plcS at h
  injection h with h1 h2
  simp only [plT, h1, h2]
theorem nodup_plT {l : List Sp} (h : (l.map plcS).Nodup) : (l.map plT).Nodup := by
  rw [List.nodup_iff_pairwise_ne, List.pairwise_map] at h ⊢
  exact h.imp fun hne e => hne (plT_inj e)
def keyE : EqT := .agg (.cons 0 32 true (.ints 32 .u8) (.cons 32 1 false (.int .u32) .nil))
theorem plT_fit {x : Sp} (h : x.h.length = 32) : fitE keyE (plT x) := by
  simp only [keyE, plT, keyT, u32T, fitE, fitEs, A.sz, A.isAgg, intsOk_bA, h]
  exact ⟨⟨trivial, trivial, trivial⟩, ⟨trivial, trivial⟩, ⟨by simp, by simp, trivial⟩, trivial, trivial⟩
theorem plT_keys {l : List Sp} (h : ∀ x ∈ l, SpOk x) : keysFit keyE (l.map plT) := keysFit_map fun x hx => plT_fit (h x hx).h.len
theorem msT_vals (l : List Sp) : valsOk (l.map msT) := valsOk_map fun x _ => ⟨rfl, by simp [msT, keyT, A.noown, bA_noowns]⟩

theorem placeOf_FS (x : Sp) : FS Try.prog 36 [spT x] (.ret [plT x] [none]) := by
  refine FS_of_SW (kb := [false]) (st0 := ?st) Try.func36 rfl rfl ?he ?_
  case he =>
    simp only [entrySt, spT, keyT, u32T, unfs, unf, A.noown, noowns, nA_noowns, bA_noowns, Option.map_some, if_true, reduceIte, List.nil_append, List.append_nil]
    rfl
  refine SW.weak (Weak.of [] (sls := [(0, spT x)]) (bks := []) (ep := 64) (by rfl) (by repeat' (first | exact rfl | exact trivial | refine And.intro ?_ ?_)) trivial) ?_
  repeat' (first
    | apply_assumption -exfalso -symm (transparency := .reducible) only [*]
    | (with_reducible refine And.intro ?_ ?_)
    | (refine drawIt ?_; kernel_rfl)
    | ((with_reducible refine opsF_id ?_); simp -implicitDefEqProofs only [go_sem, spT, plT, keyT, u32T])
    | ((with_reducible refine SW.id ?_); first | with_reducible refine SW.seqK fun K hK => ?_ | with_reducible refine SW.block ?_ | with_reducible refine SW.scope ?_ | ((first | with_reducible refine SW.skip ?_ | with_reducible refine SW.exit ?_ | with_reducible refine SW.label ?_ | with_reducible refine SW.ret ?_ | with_reducible refine SW.go MR2 ?_ | refine SW.goDrawF MR2 (by rfl) (by kernel_rfl) ?_); simp -implicitDefEqProofs only [go_sem, spT, plT, keyT, u32T]) | (refine SW.cond (by simp -implicitDefEqProofs only [go_sem, spT, plT, keyT, u32T]; rfl) (fun ht => ?_) (fun ht => ?_) <;> (try with_reducible contradiction))))

theorem snew_FS (m : Int) (h0 : 0 ≤ m) (h1 : m ≤ 2000) : FS Try.prog 28 [i64T m] (.ret [.box (storeT m []), i64T 0] [none]) := by
  refine FS_of_SW (kb := [false]) Try.func28 rfl rfl (by rfl) ?_
  have c1 := eq_false (show ¬ m < 0 by omega)
  have c2 := eq_false (show ¬ m > 2000 by omega)
  refine SW.weak (Weak.of [] (sls := [(0, i64T m)]) (bks := []) (ep := 64) (by rfl) (by repeat' (first | exact rfl | exact trivial | refine And.intro ?_ ?_)) trivial) ?_
  repeat' (first
    | apply_assumption -exfalso -symm (transparency := .reducible) only [*]
    | (with_reducible refine And.intro ?_ ?_)
    | (refine drawIt ?_; kernel_rfl)
    | ((with_reducible refine opsF_id ?_); simp -implicitDefEqProofs only [go_sem, i64T, storeT, c1, c2])
    | ((with_reducible refine SW.id ?_); first | with_reducible refine SW.seqK fun K hK => ?_ | with_reducible refine SW.block ?_ | with_reducible refine SW.scope ?_ | ((first | with_reducible refine SW.skip ?_ | with_reducible refine SW.exit ?_ | with_reducible refine SW.label ?_ | with_reducible refine SW.ret ?_ | with_reducible refine SW.go MR2 ?_ | refine SW.goDrawF MR2 (by rfl) (by kernel_rfl) ?_); simp -implicitDefEqProofs only [go_sem, i64T, storeT, c1, c2]) | (refine SW.cond (by simp -implicitDefEqProofs only [go_sem, i64T, storeT, c1, c2]; rfl) (fun ht => ?_) (fun ht => ?_) <;> (try with_reducible contradiction))))

theorem Weak.open3 {st st' : St} {x y : A} {bs : List (Nat × Blk)} (d k k' j : Nat) (hb : st.bk d = some (.var x)) (hc : x.closed = true) (hu : unf k x = some (y, bs, k')) (hj : st.ids j = false)
    (hf : ∀ i, k ≤ i → i < k' → st.ids i = false ∧ i ≠ j) (h : Weak { st with bk := upd (bs.foldl (fun f q => upd f q.1 (some q.2)) st.bk) d (some (.var y)), ids := fun i => (st.ids i || i == j) || (bs.map (·.1)).contains i } st') : Weak st st' :=
  (Weak.focus Hole.var hb hc hu hj hf).trans h
theorem room_FS (m : Int) (l : List Sp) (h0 : 0 ≤ m) (h1 : m ≤ 2000) (hl : l.length < 2 ^ 40) : FS Try.prog 37 [.box (storeT m l)] (.ret [i64T (m - l.length)] [some (.box (storeT m l))]) := by
  refine FS_of_SW (kb := [true]) Try.func37 rfl rfl (by rfl) ?_
  have w : IntKind.i64.wrap (m - (l.length : Int)) = m - (l.length : Int) := IntWalk.i64_in _ (by omega)
  refine SW.weak (Weak.open3 0 100 102 200 rfl rfl rfl rfl (fun i h1 h2 => by obtain rfl | rfl : i = 100 ∨ i = 101 := by omega
                                                                              all_goals exact ⟨rfl, by decide⟩) (Weak.of [(0, 0), (100, 1), (101, 2)] (sls := [(0, .ptr 0 [])]) (bks := [(0, .var (.agg [.v (.int .i64 m), .mref 1, .ref 2 33 0 (l.map plT).length false])), (1, .mp (l.map plT) (l.map msT)), (2, .row 33 (l.map plT))]) (ep := 64) (by rfl) ?_ ?_)) ?_
  · simp -implicitDefEqProofs only [go_sem]
    all_goals (repeat' (first | exact rfl | exact trivial | refine And.intro ?_ ?_))
  · simp -implicitDefEqProofs only [go_sem]
    all_goals (repeat' (first | exact rfl | exact trivial | refine And.intro ?_ ?_))
  · repeat' (first
      | apply_assumption -exfalso -symm (transparency := .reducible) only [*]
      | (with_reducible refine And.intro ?_ ?_)
      | (refine drawIt ?_; kernel_rfl)
      | ((with_reducible refine opsF_id ?_); simp -implicitDefEqProofs only [go_sem, w, List.length_map, i64T, storeT])
      | ((with_reducible refine SW.id ?_); first | with_reducible refine SW.seqK fun K hK => ?_ | with_reducible refine SW.block ?_ | with_reducible refine SW.scope ?_ | ((first | with_reducible refine SW.skip ?_ | with_reducible refine SW.exit ?_ | with_reducible refine SW.label ?_ | with_reducible refine SW.ret ?_ | with_reducible refine SW.go MR2 ?_ | refine SW.goDrawF MR2 (by rfl) (by kernel_rfl) ?_); simp -implicitDefEqProofs only [go_sem, w, List.length_map, i64T, storeT]) | (refine SW.cond (by simp -implicitDefEqProofs only [go_sem, w, List.length_map, i64T, storeT]; rfl) (fun ht => ?_) (fun ht => ?_) <;> (try with_reducible contradiction))))

def putN (m : Int) (l : List Sp) : Int := if dupB l then 121 else if m < l.length then 120 else 0
theorem dup_of {l : List Sp} {i : Nat} (hi : i < l.length) (h : plcS (l.getD i default) ∈ (l.take i).map plcS) : dupB l = true := by
  obtain ⟨y, hy, he⟩ := List.mem_map.1 h
  obtain ⟨k, hk, rfl⟩ := List.mem_iff_getElem.1 hy
  rw [List.length_take] at hk
  rw [List.getElem_take] at he
  have : plcS (l.getD i default) = plcS (l.getD k default) := by
    rw [← he, List.getD_eq_getElem?_getD, List.getElem?_eq_getElem (by omega)]
    rfl
  simp [dupB, not_nodup hi (by omega) this]
theorem nodup_next {l : List Sp} {i : Nat} (hi : i < l.length) (h1 : ((l.take i).map plcS).Nodup) (h2 : ¬ plcS (l.getD i default) ∈ (l.take i).map plcS) : ((l.take (i + 1)).map plcS).Nodup := by
  refine nodup_snoc hi h1 fun k hk e => h2 ?_
  rw [← e]
  refine List.mem_map.2 ⟨l.getD k default, ?_, rfl⟩
  rw [List.getD_eq_getElem?_getD, List.getElem?_eq_getElem (by omega)]
  exact List.mem_iff_getElem.2 ⟨k, by rw [List.length_take]; omega, by rw [List.getElem_take]; rfl⟩
theorem take_snoc {l : List Sp} {i : Nat} (hi : i < l.length) (f : Sp → A) : (l.take i).map f ++ [f (l.getD i default)] = (l.take (i + 1)).map f := by
  rw [List.take_add_one, List.getElem?_eq_getElem hi, Option.toList_some, List.map_append, List.map_cons, List.map_nil, List.getD_eq_getElem?_getD, List.getElem?_eq_getElem hi]
  rfl
theorem ne32 : ((32 : Nat) != 1) = true := rfl
theorem restoreA_box {d : Nat} {b : A} : restoreA (.ptr d []) (.box b) = some [(d, .var b)] := by simp [restoreA]
attribute [go_sem] restoreA_box or_true true_or
theorem eqT86' : eqT Try.prog 8 86 = some keyE := eqT86

theorem put_FS (m : Int) (q : Bool) (l : List Sp) (h0 : 0 ≤ m) (h1 : m ≤ 2000) (hl : l.length < 2 ^ 36) (hok : ∀ x ∈ l, SpOk x) :
    FS Try.prog 29 [.box (storeT m []), .sl q (l.map spT)] (.ret [i64T (putN m l)] [some (.box (storeT m (if putN m l = 0 then l else []))), none]) := by
  refine FS_of_SW (kb := [true, false]) Try.func29 rfl rfl (by rfl) ?_
  have hget : ∀ i, i < l.length → SpOk (l.getD i default) := fun i hi => by
    rw [List.getD_eq_getElem?_getD, List.getElem?_eq_getElem hi]
    exact hok _ (List.getElem_mem hi)
  refine SW.weak (Weak.open3 0 100 102 200 rfl rfl rfl rfl (fun i h1 h2 => by obtain rfl | rfl : i = 100 ∨ i = 101 := by omega
                                                                              all_goals exact ⟨rfl, by decide⟩) (Weak.of [(0, 0), (100, 1), (101, 2)] (sls := [(0, .ptr 0 []), (1, .sl q (l.map spT))]) (bks := [(0, .var (.agg [.v (.int .i64 m), .mref 1, .ref 2 33 0 0 false])), (1, .mp [] []), (2, .row 33 [])]) (ep := 64) (by rfl) ?_ ?_)) ?_
  · simp -implicitDefEqProofs only [go_sem]
    all_goals (repeat' (first | exact rfl | exact trivial | refine And.intro ?_ ?_))
  · simp -implicitDefEqProofs only [go_sem]
    all_goals (repeat' (first | exact rfl | exact trivial | refine And.intro ?_ ?_))
  repeat' (first
    | apply_assumption -exfalso -symm (transparency := .reducible) only [*]
    | with_reducible refine SW.stopI 2 ?_
    | (with_reducible refine And.intro ?_ ?_)
    | (refine drawIt ?_; kernel_rfl)
    | ((with_reducible refine opsF_id ?_); simp -implicitDefEqProofs only [go_sem])
    | ((with_reducible refine SW.id ?_); first | with_reducible refine SW.seqK fun K hK => ?_ | with_reducible refine SW.block ?_ | with_reducible refine SW.scope ?_ | ((first | with_reducible refine SW.skip ?_ | with_reducible refine SW.exit ?_ | with_reducible refine SW.label ?_ | with_reducible refine SW.ret ?_ | with_reducible refine SW.go MR2 ?_ | refine SW.goDrawF MR2 (by rfl) (by kernel_rfl) ?_); simp -implicitDefEqProofs only [go_sem]) | (refine SW.cond (by simp -implicitDefEqProofs only [go_sem]; rfl) (fun ht => ?_) (fun ht => ?_) <;> (try with_reducible contradiction))))
  refine Stop.go ?_
  refine SW.cutS (γ := PLift ((l.map plcS).Nodup)) (fun _ => St.of [(0, .ptr 0 []), (1, .sl q (l.map spT))] [(0, .var (.agg [.v (.int .i64 m), .mref 1, .ref 2 33 0 0 false])), (1, .mp [] []), (2, .row 33 [])] 64) (fun K hK => ?_) fun ⟨hn⟩ => ?_
  · repeat' (first
      | apply_assumption -exfalso -symm (transparency := .reducible) only [*]
      | (with_reducible refine And.intro ?_ ?_)
      | (refine drawIt ?_; kernel_rfl)
      | ((with_reducible refine opsF_id ?_); simp -implicitDefEqProofs only [go_sem])
      | ((with_reducible refine SW.id ?_); first | with_reducible refine SW.seqK fun K hK => ?_ | with_reducible refine SW.block ?_ | with_reducible refine SW.scope ?_ | ((first | with_reducible refine SW.skip ?_ | with_reducible refine SW.exit ?_ | with_reducible refine SW.label ?_ | with_reducible refine SW.ret ?_ | with_reducible refine SW.go MR2 ?_ | refine SW.goDrawF MR2 (by rfl) (by kernel_rfl) ?_); simp -implicitDefEqProofs only [go_sem]) | (refine SW.cond (by simp -implicitDefEqProofs only [go_sem]; rfl) (fun ht => ?_) (fun ht => ?_) <;> (try with_reducible contradiction))))
    refine SW.loop (α := { i : Nat // i ≤ l.length ∧ ((l.take i).map plcS).Nodup }) (fun i => St.of [(0, .ptr 0 []), (1, .sl q (l.map spT)), (5, .mref 5), (16, .sl q (l.map spT)), (17, .v (.int .i64 ((l.length : Nat) : Int))), (18, .v (.int .i64 ((i.1 : Nat) : Int)))] [(0, .var (.agg [.v (.int .i64 m), .mref 1, .ref 2 33 0 0 false])), (1, .mp [] []), (2, .row 33 []), (5, .mp ((l.take i.1).map plT) ((l.take i.1).map msT))] 64) (fun i => l.length - i.1) ⟨0, by omega, by simp⟩
      (Weak.of [(0, 0), (1, 1), (2, 2), (128, 5)] (by rfl) ?_ ?_) fun ⟨i, hi, hnd⟩ => ?_
    · simp -implicitDefEqProofs only [go_sem, List.length_map]
      all_goals (repeat' (first | exact rfl | exact trivial | refine And.intro ?_ ?_))
    · simp -implicitDefEqProofs only [go_sem]
      all_goals (repeat' (first | exact rfl | exact trivial | refine And.intro ?_ ?_))
    · rcases Nat.lt_or_eq_of_le hi with h4 | h4
      · have hc := eq_true (show (i : Int) < (l.length : Int) by omega)
        have h5 := i64_up (a := i) (by omega)
        have okx := hget i h4
        have hks : keysFit keyE ((l.take i).map plT) := plT_keys fun x hx => hok x (List.mem_of_mem_take hx)
        have hvs := msT_vals (l.take i)
        have hdup := dup_of h4
        have hnext := nodup_next h4 hnd
        have hp1 := take_snoc h4 plT
        have hp2 := take_snoc h4 msT
        have hin : plcS (l.getD i default) ∈ (l.take i).map plcS → ∃ y : Sp, findA (plT (l.getD i default)) ((l.take i).map plT) ((l.take i).map msT) = some (msT y) := fun h => by
          obtain ⟨y, hy, he⟩ := List.mem_map.1 h
          rw [← plcS_plT he, findA_at hy (nodup_plT hnd)]
          exact ⟨_, rfl⟩
        have hout : ¬ plcS (l.getD i default) ∈ (l.take i).map plcS → plT (l.getD i default) ∉ (l.take i).map plT := fun h h2 => h (by
          obtain ⟨y, hy, he⟩ := List.mem_map.1 h2
          exact List.mem_map.2 ⟨y, hy, plT_inj he⟩)
        have hfit := plT_fit okx.h.len
        dsimp only
        clear hnd hget
        generalize hxi : l.getD i default = x at *
        have q1 := placeOf_FS x
        have e1 := eq_true hks
        have e2 := eq_true hvs
        have e3 := eq_true hfit
        have lx := okx.h.len
        clear hks hvs hfit okx
        by_cases hmem : plcS x ∈ (l.take i).map plcS
        · have hd := hdup hmem
          obtain ⟨v, hv⟩ := hin hmem
          have hpn : putN m l = 121 := by simp [putN, hd]
          rw [hpn, if_neg (by decide)]
          clear hin hout hdup hnext hp1 hp2
          simp only [spT, plT, msT, keyT, u32T] at q1 hv e3
          repeat' (first
            | apply_assumption -exfalso -symm (transparency := .reducible) only [*]
            | (refine callEnd_of q1 ?_ <;> (try simp -implicitDefEqProofs only [go_sem, hc, List.length_map, hxi, hv, e1, e2, e3, ne32, eqT86', storeT, i64T, spT, plT, msT, keyT, u32T]))
            | (with_reducible refine And.intro ?_ ?_)
            | (refine drawIt ?_; kernel_rfl)
            | ((with_reducible refine opsF_id ?_); simp -implicitDefEqProofs only [go_sem, hc, List.length_map, hxi, hv, e1, e2, e3, ne32, eqT86', storeT, i64T, spT, plT, msT, keyT, u32T])
            | ((with_reducible refine SW.id ?_); first | with_reducible refine SW.seqK fun K hK => ?_ | with_reducible refine SW.block ?_ | with_reducible refine SW.scope ?_ | ((first | with_reducible refine SW.skip ?_ | with_reducible refine SW.exit ?_ | with_reducible refine SW.label ?_ | with_reducible refine SW.ret ?_ | with_reducible refine SW.go MR2 ?_ | refine SW.goDrawF MR2 (by rfl) (by kernel_rfl) ?_); simp -implicitDefEqProofs only [go_sem, hc, List.length_map, hxi, hv, e1, e2, e3, ne32, eqT86', storeT, i64T, spT, plT, msT, keyT, u32T]) | (refine SW.cond (by simp -implicitDefEqProofs only [go_sem, hc, List.length_map, hxi, hv, e1, e2, e3, ne32, eqT86', storeT, i64T, spT, plT, msT, keyT, u32T]; rfl) (fun ht => ?_) (fun ht => ?_) <;> (try with_reducible contradiction))))
          all_goals first | omega | skip
        · have hnd2 := hnext hmem
          have hnk := hout hmem
          have hv := findA_none (vs := (l.take i).map msT) hnk
          have e4 := eq_true hnk
          clear hin hout hdup hnext hnk
          simp only [spT, plT, msT, keyT, u32T] at q1 hv e3 e4 hp1 hp2
          repeat' (first
            | apply_assumption -exfalso -symm (transparency := .reducible) only [*]
            | (refine callEnd_of q1 ?_ <;> (try simp -implicitDefEqProofs only [go_sem, hc, h5, List.length_map, hxi, hv, e1, e2, e3, e4, ne32, eqT86', storeT, i64T, spT, plT, msT, keyT, u32T]))
            | (with_reducible refine And.intro ?_ ?_)
            | (refine drawIt ?_; kernel_rfl)
            | ((with_reducible refine opsF_id ?_); simp -implicitDefEqProofs only [go_sem, hc, h5, List.length_map, hxi, hv, e1, e2, e3, e4, ne32, eqT86', storeT, i64T, spT, plT, msT, keyT, u32T])
            | ((with_reducible refine SW.id ?_); first | with_reducible refine SW.seqK fun K hK => ?_ | with_reducible refine SW.block ?_ | with_reducible refine SW.scope ?_ | ((first | with_reducible refine SW.skip ?_ | with_reducible refine SW.exit ?_ | with_reducible refine SW.label ?_ | with_reducible refine SW.ret ?_ | with_reducible refine SW.go MR2 ?_ | refine SW.goDrawF MR2 (by rfl) (by kernel_rfl) ?_); simp -implicitDefEqProofs only [go_sem, hc, h5, List.length_map, hxi, hv, e1, e2, e3, e4, ne32, eqT86', storeT, i64T, spT, plT, msT, keyT, u32T]) | (refine SW.cond (by simp -implicitDefEqProofs only [go_sem, hc, h5, List.length_map, hxi, hv, e1, e2, e3, e4, ne32, eqT86', storeT, i64T, spT, plT, msT, keyT, u32T]; rfl) (fun ht => ?_) (fun ht => ?_) <;> (try with_reducible contradiction))))
          all_goals first | omega | skip
          refine ⟨⟨i + 1, by omega, hnd2⟩, Weak.of [(0, 0), (1, 1), (2, 2), (5, 5)] (by rfl) ?_ ?_, by dsimp only; omega⟩
          · simp -implicitDefEqProofs only [go_sem]
            all_goals (repeat' (first | exact rfl | exact trivial | refine And.intro ?_ ?_))
          · simp -implicitDefEqProofs only [go_sem, hp1, hp2]
            all_goals (repeat' (first | exact rfl | exact trivial | refine And.intro ?_ ?_))
      · have hc := eq_false (show ¬ (i : Int) < (l.length : Int) by omega)
        subst h4
        rw [List.take_length] at hnd
        dsimp only
        repeat' (first
          | apply_assumption -exfalso -symm (transparency := .reducible) only [*]
          | (with_reducible refine And.intro ?_ ?_)
          | (refine drawIt ?_; kernel_rfl)
          | ((with_reducible refine opsF_id ?_); simp -implicitDefEqProofs only [go_sem, hc, List.length_map])
          | ((with_reducible refine SW.id ?_); first | with_reducible refine SW.seqK fun K hK => ?_ | with_reducible refine SW.block ?_ | with_reducible refine SW.scope ?_ | ((first | with_reducible refine SW.skip ?_ | with_reducible refine SW.exit ?_ | with_reducible refine SW.label ?_ | with_reducible refine SW.ret ?_ | with_reducible refine SW.go MR2 ?_ | refine SW.goDrawF MR2 (by rfl) (by kernel_rfl) ?_); simp -implicitDefEqProofs only [go_sem, hc, List.length_map]) | (refine SW.cond (by simp -implicitDefEqProofs only [go_sem, hc, List.length_map]; rfl) (fun ht => ?_) (fun ht => ?_) <;> (try with_reducible contradiction))))
        refine ⟨⟨hnd⟩, Weak.of [(0, 0), (1, 1), (2, 2)] (by rfl) ?_ ?_⟩
        · simp -implicitDefEqProofs only [go_sem]
          all_goals (repeat' (first | exact rfl | exact trivial | refine And.intro ?_ ?_))
        · simp -implicitDefEqProofs only [go_sem]
          all_goals (repeat' (first | exact rfl | exact trivial | refine And.intro ?_ ?_))
  · have hd : dupB l = false := by simp [dupB, hn]
    have q3 := room_FS m [] h0 h1 (by decide)
    by_cases hm : m < l.length
    · have hpn : putN m l = 120 := by simp [putN, hd, hm]
      rw [hpn]
      have c0 : ((120 : Int) = 0) = False := by decide
      have c1 := eq_true (show (l.length : Int) > m by omega)
      simp only [storeT, i64T, List.map_nil, List.length_nil, Int.natCast_zero, Int.sub_zero] at q3
      repeat' (first
        | apply_assumption -exfalso -symm (transparency := .reducible) only [*]
        | (refine callEnd_of q3 ?_ <;> (try simp -implicitDefEqProofs only [go_sem, c0, if_false, c1, List.length_map, storeT, i64T]))
        | (with_reducible refine And.intro ?_ ?_)
        | (refine drawIt ?_; kernel_rfl)
        | ((with_reducible refine opsF_id ?_); simp -implicitDefEqProofs only [go_sem, c0, if_false, c1, List.length_map, storeT, i64T])
        | ((with_reducible refine SW.id ?_); first | with_reducible refine SW.seqK fun K hK => ?_ | with_reducible refine SW.block ?_ | with_reducible refine SW.scope ?_ | ((first | with_reducible refine SW.skip ?_ | with_reducible refine SW.exit ?_ | with_reducible refine SW.label ?_ | with_reducible refine SW.ret ?_ | with_reducible refine SW.go MR2 ?_ | refine SW.goDrawF MR2 (by rfl) (by kernel_rfl) ?_); simp -implicitDefEqProofs only [go_sem, c0, if_false, c1, List.length_map, storeT, i64T]) | (refine SW.cond (by simp -implicitDefEqProofs only [go_sem, c0, if_false, c1, List.length_map, storeT, i64T]; rfl) (fun ht => ?_) (fun ht => ?_) <;> (try with_reducible contradiction))))
    · have hpn : putN m l = 0 := by simp [putN, hd, hm]
      rw [hpn, if_pos rfl]
      have c1 := eq_false (show ¬ (l.length : Int) > m by omega)
      simp only [storeT, i64T, List.map_nil, List.length_nil, Int.natCast_zero, Int.sub_zero] at q3
      repeat' (first
        | apply_assumption -exfalso -symm (transparency := .reducible) only [*]
        | with_reducible refine SW.stopI 14 ?_
        | (refine callEnd_of q3 ?_ <;> (try simp -implicitDefEqProofs only [go_sem, c1, List.length_map, storeT, i64T]))
        | (with_reducible refine And.intro ?_ ?_)
        | (refine drawIt ?_; kernel_rfl)
        | ((with_reducible refine opsF_id ?_); simp -implicitDefEqProofs only [go_sem, c1, List.length_map, storeT, i64T])
        | ((with_reducible refine SW.id ?_); first | with_reducible refine SW.seqK fun K hK => ?_ | with_reducible refine SW.block ?_ | with_reducible refine SW.scope ?_ | ((first | with_reducible refine SW.skip ?_ | with_reducible refine SW.exit ?_ | with_reducible refine SW.label ?_ | with_reducible refine SW.ret ?_ | with_reducible refine SW.go MR2 ?_ | refine SW.goDrawF MR2 (by rfl) (by kernel_rfl) ?_); simp -implicitDefEqProofs only [go_sem, c1, List.length_map, storeT, i64T]) | (refine SW.cond (by simp -implicitDefEqProofs only [go_sem, c1, List.length_map, storeT, i64T]; rfl) (fun ht => ?_) (fun ht => ?_) <;> (try with_reducible contradiction))))
      refine Stop.go ?_
      refine SW.cutS (γ := Unit) (fun _ => St.of [(0, .ptr 0 [])] [(0, .var (.agg [.v (.int .i64 m), .mref 1, .ref 2 33 0 l.length false])), (1, .mp (l.map plT) (l.map msT)), (2, .row 33 (l.map plT))] 64) (fun K hK => ?_) fun _ => ?_
      · repeat' (first
          | apply_assumption -exfalso -symm (transparency := .reducible) only [*]
          | (with_reducible refine And.intro ?_ ?_)
          | (refine drawIt ?_; kernel_rfl)
          | ((with_reducible refine opsF_id ?_); simp -implicitDefEqProofs only [go_sem, List.length_map])
          | ((with_reducible refine SW.id ?_); first | with_reducible refine SW.seqK fun K hK => ?_ | with_reducible refine SW.block ?_ | with_reducible refine SW.scope ?_ | ((first | with_reducible refine SW.skip ?_ | with_reducible refine SW.exit ?_ | with_reducible refine SW.label ?_ | with_reducible refine SW.ret ?_ | with_reducible refine SW.go MR2 ?_ | refine SW.goDrawF MR2 (by rfl) (by kernel_rfl) ?_); simp -implicitDefEqProofs only [go_sem, List.length_map]) | (refine SW.cond (by simp -implicitDefEqProofs only [go_sem, List.length_map]; rfl) (fun ht => ?_) (fun ht => ?_) <;> (try with_reducible contradiction))))
        refine SW.loop (α := { i : Nat // i ≤ l.length }) (fun i => St.of [(0, .ptr 0 []), (53, .sl q (l.map spT)), (54, .v (.int .i64 ((l.length : Nat) : Int))), (55, .v (.int .i64 ((i.1 : Nat) : Int)))] [(0, .var (.agg [.v (.int .i64 m), .mref 1, .ref 2 33 0 i.1 false])), (1, .mp ((l.take i.1).map plT) ((l.take i.1).map msT)), (2, .row 33 ((l.take i.1).map plT))] 64) (fun i => l.length - i.1) ⟨0, by omega⟩
          (Weak.open3 0 1000 1002 2000 rfl rfl rfl rfl (fun i h1 h2 => by obtain rfl | rfl : i = 1000 ∨ i = 1001 := by omega
                                                                          all_goals exact ⟨rfl, by decide⟩) (Weak.of [(0, 0), (1000, 1), (1001, 2)] (by rfl) ?_ ?_)) fun ⟨i, hi⟩ => ?_
        · simp -implicitDefEqProofs only [go_sem]
          all_goals (repeat' (first | exact rfl | exact trivial | refine And.intro ?_ ?_))
        · simp -implicitDefEqProofs only [go_sem]
          all_goals (repeat' (first | exact rfl | exact trivial | refine And.intro ?_ ?_))
        · rcases Nat.lt_or_eq_of_le hi with h4 | h4
          · have hc := eq_true (show (i : Int) < (l.length : Int) by omega)
            have h5 := i64_up (a := i) (by omega)
            have okx := hget i h4
            have hks : keysFit keyE ((l.take i).map plT) := plT_keys fun x hx => hok x (List.mem_of_mem_take hx)
            have hp1 := take_snoc h4 plT
            have hp2 := take_snoc h4 msT
            have hfit := plT_fit okx.h.len
            have hnk : plT (l.getD i default) ∉ (l.take i).map plT := fun h2 => by
              obtain ⟨y, hy, he⟩ := List.mem_map.1 h2
              have := dup_of h4 (List.mem_map.2 ⟨y, hy, plT_inj he⟩)
              rw [hd] at this
              cases this
            have e1 := eq_true hks
            have e3 := eq_true hfit
            have e4 := eq_true hnk
            have tl : (l.take i).length = i := by rw [List.length_take]; omega
            dsimp only
            clear hget hks okx hnk
            generalize hxi : l.getD i default = x at *
            have q1 := placeOf_FS x
            simp only [spT, plT, msT, keyT, u32T] at q1 e3 e4 hp1 hp2
            repeat' (first
              | apply_assumption -exfalso -symm (transparency := .reducible) only [*]
              | (refine callEnd_of q1 ?_ <;> (try simp -implicitDefEqProofs only [go_sem, hc, h5, List.length_map, hxi, e1, e3, e4, ne32, eqT86', storeT, i64T, spT, plT, msT, keyT, u32T, tl]))
              | (with_reducible refine And.intro ?_ ?_)
              | (refine drawIt ?_; kernel_rfl)
              | ((with_reducible refine opsF_id ?_); simp -implicitDefEqProofs only [go_sem, hc, h5, List.length_map, hxi, e1, e3, e4, ne32, eqT86', storeT, i64T, spT, plT, msT, keyT, u32T, tl])
              | ((with_reducible refine SW.id ?_); first | with_reducible refine SW.seqK fun K hK => ?_ | with_reducible refine SW.block ?_ | with_reducible refine SW.scope ?_ | ((first | with_reducible refine SW.skip ?_ | with_reducible refine SW.exit ?_ | with_reducible refine SW.label ?_ | with_reducible refine SW.ret ?_ | with_reducible refine SW.go MR2 ?_ | refine SW.goDrawF MR2 (by rfl) (by kernel_rfl) ?_); simp -implicitDefEqProofs only [go_sem, hc, h5, List.length_map, hxi, e1, e3, e4, ne32, eqT86', storeT, i64T, spT, plT, msT, keyT, u32T, tl]) | (refine SW.cond (by simp -implicitDefEqProofs only [go_sem, hc, h5, List.length_map, hxi, e1, e3, e4, ne32, eqT86', storeT, i64T, spT, plT, msT, keyT, u32T, tl]; rfl) (fun ht => ?_) (fun ht => ?_) <;> (try with_reducible contradiction))))
            all_goals first | omega | exact ⟨by omega, by omega⟩ | skip
            refine ⟨⟨i + 1, by omega⟩, Weak.of [(0, 0), (1, 1), (1472, 2)] (by rfl) ?_ ?_, by dsimp only; omega⟩
            · simp -implicitDefEqProofs only [go_sem]
              all_goals (repeat' (first | exact rfl | exact trivial | refine And.intro ?_ ?_))
            · simp -implicitDefEqProofs only [go_sem, hp1, hp2, tl]
              all_goals (repeat' (first | exact rfl | exact trivial | refine And.intro ?_ ?_))
          · have hc := eq_false (show ¬ (i : Int) < (l.length : Int) by omega)
            subst h4
            have ht : l.take l.length = l := List.take_length
            dsimp only
            rw [ht]
            repeat' (first
              | apply_assumption -exfalso -symm (transparency := .reducible) only [*]
              | (with_reducible refine And.intro ?_ ?_)
              | (refine drawIt ?_; kernel_rfl)
              | ((with_reducible refine opsF_id ?_); simp -implicitDefEqProofs only [go_sem, hc, List.length_map])
              | ((with_reducible refine SW.id ?_); first | with_reducible refine SW.seqK fun K hK => ?_ | with_reducible refine SW.block ?_ | with_reducible refine SW.scope ?_ | ((first | with_reducible refine SW.skip ?_ | with_reducible refine SW.exit ?_ | with_reducible refine SW.label ?_ | with_reducible refine SW.ret ?_ | with_reducible refine SW.go MR2 ?_ | refine SW.goDrawF MR2 (by rfl) (by kernel_rfl) ?_); simp -implicitDefEqProofs only [go_sem, hc, List.length_map]) | (refine SW.cond (by simp -implicitDefEqProofs only [go_sem, hc, List.length_map]; rfl) (fun ht => ?_) (fun ht => ?_) <;> (try with_reducible contradiction))))
            refine ⟨(), Weak.of [(0, 0), (1, 1), (2, 2)] (by rfl) ?_ ?_⟩
            · simp -implicitDefEqProofs only [go_sem]
              all_goals (repeat' (first | exact rfl | exact trivial | refine And.intro ?_ ?_))
            · simp -implicitDefEqProofs only [go_sem]
              all_goals (repeat' (first | exact rfl | exact trivial | refine And.intro ?_ ?_))
      · repeat' (first
          | apply_assumption -exfalso -symm (transparency := .reducible) only [*]
          | (with_reducible refine And.intro ?_ ?_)
          | (refine drawIt ?_; kernel_rfl)
          | ((with_reducible refine opsF_id ?_); simp -implicitDefEqProofs only [go_sem, storeT, i64T, List.length_map])
          | ((with_reducible refine SW.id ?_); first | with_reducible refine SW.seqK fun K hK => ?_ | with_reducible refine SW.block ?_ | with_reducible refine SW.scope ?_ | ((first | with_reducible refine SW.skip ?_ | with_reducible refine SW.exit ?_ | with_reducible refine SW.label ?_ | with_reducible refine SW.ret ?_ | with_reducible refine SW.go MR2 ?_ | refine SW.goDrawF MR2 (by rfl) (by kernel_rfl) ?_); simp -implicitDefEqProofs only [go_sem, storeT, i64T, List.length_map]) | (refine SW.cond (by simp -implicitDefEqProofs only [go_sem, storeT, i64T, List.length_map]; rfl) (fun ht => ?_) (fun ht => ?_) <;> (try with_reducible contradiction))))

theorem sfrom_FS (m : Int) (q : Bool) (l : List Sp) (h0 : 0 ≤ m) (h1 : m ≤ 2000) (hl : l.length < 2 ^ 36) (hok : ∀ x ∈ l, SpOk x) :
    FS Try.prog 15 [i64T m, .sl q (l.map spT)] (.ret [if putN m l = 0 then .box (storeT m l) else .v (.pointer none), i64T (putN m l)] [none, none]) := by
  refine FS_of_SW (kb := [false, false]) Try.func15 rfl rfl (by rfl) ?_
  have q1 := snew_FS m h0 h1
  have q2 := put_FS m q l h0 h1 hl hok
  refine SW.weak (Weak.of [] (sls := [(0, i64T m), (1, .sl q (l.map spT))]) (bks := []) (ep := 64) (by rfl) (by repeat' (first | exact rfl | exact trivial | refine And.intro ?_ ?_)) trivial) ?_
  by_cases hp : putN m l = 0
  · rw [if_pos hp]
    rw [hp, if_pos rfl] at q2
    rw [hp]
    simp only [storeT, i64T, List.map_nil] at q1 q2 ⊢
    repeat' (first
      | apply_assumption -exfalso -symm (transparency := .reducible) only [*]
      | (refine callEnd_of q1 ?_ <;> (try simp -implicitDefEqProofs only [go_sem, i64T, storeT]))
      | (refine callEnd_of q2 ?_ <;> (try simp -implicitDefEqProofs only [go_sem, i64T, storeT]))
      | (with_reducible refine And.intro ?_ ?_)
      | (refine drawIt ?_; kernel_rfl)
      | ((with_reducible refine opsF_id ?_); simp -implicitDefEqProofs only [go_sem, i64T, storeT])
      | ((with_reducible refine SW.id ?_); first | with_reducible refine SW.seqK fun K hK => ?_ | with_reducible refine SW.block ?_ | with_reducible refine SW.scope ?_ | ((first | with_reducible refine SW.skip ?_ | with_reducible refine SW.exit ?_ | with_reducible refine SW.label ?_ | with_reducible refine SW.ret ?_ | with_reducible refine SW.go MR2 ?_ | refine SW.goDrawF MR2 (by rfl) (by kernel_rfl) ?_); simp -implicitDefEqProofs only [go_sem, i64T, storeT]) | (refine SW.cond (by simp -implicitDefEqProofs only [go_sem, i64T, storeT]; rfl) (fun ht => ?_) (fun ht => ?_) <;> (try simp only [decide_eq_true_eq, decide_eq_false_iff_not, beq_iff_eq, bne_iff_ne, beq_eq_false_iff_ne, bne_eq_false_iff_eq, Bool.or_eq_true, Bool.and_eq_true, Bool.or_eq_false_iff, Bool.and_eq_false_imp, Bool.not_eq_true, Bool.not_eq_false, Bool.not_true, Bool.not_false, Bool.not_eq_true', Bool.not_eq_false', Bool.or_false, Bool.false_or, Bool.or_true, Bool.true_or, Bool.and_true, Bool.true_and, reduceCtorEq] at ht) <;> (try with_reducible contradiction)))
      | ((with_reducible refine guardSplit (fun hg => ?_) (fun hg => ?_)) <;> (try simp only [Bool.not_true, Bool.not_false] at hg) <;> (have hc := hg) <;> simp -implicitDefEqProofs only [go_sem, hg, i64T, storeT] <;> (try simp only [decide_eq_true_eq, decide_eq_false_iff_not, beq_iff_eq, bne_iff_ne, beq_eq_false_iff_ne, bne_eq_false_iff_eq, Bool.or_eq_true, Bool.and_eq_true, Bool.or_eq_false_iff, Bool.and_eq_false_imp, Bool.not_eq_true, Bool.not_eq_false, Bool.not_true, Bool.not_false, Bool.not_eq_true', Bool.not_eq_false', Bool.or_false, Bool.false_or, Bool.or_true, Bool.true_or, Bool.and_true, Bool.true_and, reduceCtorEq] at hc) <;> (try with_reducible contradiction)))
  · rw [if_neg hp]
    rw [if_neg hp] at q2
    have hp' := eq_false hp
    generalize putN m l = n at *
    simp only [storeT, i64T, List.map_nil] at q1 q2 ⊢
    repeat' (first
      | apply_assumption -exfalso -symm (transparency := .reducible) only [*]
      | (refine callEnd_of q1 ?_ <;> (try simp -implicitDefEqProofs only [go_sem, i64T, storeT, hp']))
      | (refine callEnd_of q2 ?_ <;> (try simp -implicitDefEqProofs only [go_sem, i64T, storeT, hp']))
      | (with_reducible refine And.intro ?_ ?_)
      | (refine drawIt ?_; kernel_rfl)
      | ((with_reducible refine opsF_id ?_); simp -implicitDefEqProofs only [go_sem, i64T, storeT, hp'])
      | ((with_reducible refine SW.id ?_); first | with_reducible refine SW.seqK fun K hK => ?_ | with_reducible refine SW.block ?_ | with_reducible refine SW.scope ?_ | ((first | with_reducible refine SW.skip ?_ | with_reducible refine SW.exit ?_ | with_reducible refine SW.label ?_ | with_reducible refine SW.ret ?_ | with_reducible refine SW.go MR2 ?_ | refine SW.goDrawF MR2 (by rfl) (by kernel_rfl) ?_); simp -implicitDefEqProofs only [go_sem, i64T, storeT, hp']) | (refine SW.cond (by simp -implicitDefEqProofs only [go_sem, i64T, storeT, hp']; rfl) (fun ht => ?_) (fun ht => ?_) <;> (try simp only [decide_eq_true_eq, decide_eq_false_iff_not, beq_iff_eq, bne_iff_ne, beq_eq_false_iff_ne, bne_eq_false_iff_eq, Bool.or_eq_true, Bool.and_eq_true, Bool.or_eq_false_iff, Bool.and_eq_false_imp, Bool.not_eq_true, Bool.not_eq_false, Bool.not_true, Bool.not_false, Bool.not_eq_true', Bool.not_eq_false', Bool.or_false, Bool.false_or, Bool.or_true, Bool.true_or, Bool.and_true, Bool.true_and, reduceCtorEq] at ht) <;> (try with_reducible contradiction)))
      | ((with_reducible refine guardSplit (fun hg => ?_) (fun hg => ?_)) <;> (try simp only [Bool.not_true, Bool.not_false] at hg) <;> (have hc := hg) <;> simp -implicitDefEqProofs only [go_sem, hg, i64T, storeT, hp'] <;> (try simp only [decide_eq_true_eq, decide_eq_false_iff_not, beq_iff_eq, bne_iff_ne, beq_eq_false_iff_ne, bne_eq_false_iff_eq, Bool.or_eq_true, Bool.and_eq_true, Bool.or_eq_false_iff, Bool.and_eq_false_imp, Bool.not_eq_true, Bool.not_eq_false, Bool.not_true, Bool.not_false, Bool.not_eq_true', Bool.not_eq_false', Bool.or_false, Bool.false_or, Bool.or_true, Bool.true_or, Bool.and_true, Bool.true_and, reduceCtorEq] at hc) <;> (try with_reducible contradiction)))
  all_goals trace_state

theorem getR_pl {β : Type} {xs : List Sp} {i : Nat} {bk : Nat → Option Blk} {k : A → RM β} {K : β → List Nat → Prop} {acc : List Nat} :
    ((getR (xs.map plT) 33 [.idx i 33]).bind k).wpA bk K acc = (i < xs.length ∧ (k (plT (xs.getD i default))).wpA bk K acc) := getR_map
attribute [go_sem] getR_pl
theorem idx_pl {l : List Sp} {d : Nat} {n : Int} {i : Nat} (hi : i < l.length) : (l.map plT).getD i .und = plT (l.getD i default) := getD_map hi
theorem slist_FS (m : Int) (l : List Sp) (hl : l.length < 2 ^ 36) (hok : ∀ x ∈ l, SpOk x) (hn : (l.map plcS).Nodup) : FS Try.prog 20 [.box (storeT m l)] (.ret [.osl 65 (l.map spT)] [some (.box (storeT m l))]) := by
  refine FS_of_SW (kb := [true]) Try.func20 rfl rfl (by rfl) ?_
  have hget : ∀ i, i < l.length → l.getD i default ∈ l := fun i hi => by
    rw [List.getD_eq_getElem?_getD, List.getElem?_eq_getElem hi]
    exact List.getElem_mem hi
  have hks : keysFit keyE (l.map plT) := plT_keys hok
  have hvs := msT_vals l
  have e1 := eq_true hks
  have e2 := eq_true hvs
  clear hks hvs
  refine SW.weak (Weak.open3 0 100 102 200 rfl rfl rfl rfl (fun i h1 h2 => by obtain rfl | rfl : i = 100 ∨ i = 101 := by omega
                                                                              all_goals exact ⟨rfl, by decide⟩) (Weak.of [(0, 0), (100, 1), (101, 2)] (sls := [(0, .ptr 0 [])]) (bks := [(0, .var (.agg [.v (.int .i64 m), .mref 1, .ref 2 33 0 (l.map plT).length false])), (1, .mp (l.map plT) (l.map msT)), (2, .row 33 (l.map plT))]) (ep := 64) (by rfl) ?_ ?_)) ?_
  · simp -implicitDefEqProofs only [go_sem]
    all_goals (repeat' (first | exact rfl | exact trivial | refine And.intro ?_ ?_))
  · simp -implicitDefEqProofs only [go_sem]
    all_goals (repeat' (first | exact rfl | exact trivial | refine And.intro ?_ ?_))
  repeat' (first
    | apply_assumption -exfalso -symm (transparency := .reducible) only [*]
    | with_reducible refine SW.stopI 2 ?_
    | (with_reducible refine And.intro ?_ ?_)
    | (refine drawIt ?_; kernel_rfl)
    | ((with_reducible refine opsF_id ?_); simp -implicitDefEqProofs only [go_sem, List.length_map])
    | ((with_reducible refine SW.id ?_); first | with_reducible refine SW.seqK fun K hK => ?_ | with_reducible refine SW.block ?_ | with_reducible refine SW.scope ?_ | ((first | with_reducible refine SW.skip ?_ | with_reducible refine SW.exit ?_ | with_reducible refine SW.label ?_ | with_reducible refine SW.ret ?_ | with_reducible refine SW.go MR2 ?_ | refine SW.goDrawF MR2 (by rfl) (by kernel_rfl) ?_); simp -implicitDefEqProofs only [go_sem, List.length_map]) | (refine SW.cond (by simp -implicitDefEqProofs only [go_sem, List.length_map]; rfl) (fun ht => ?_) (fun ht => ?_) <;> (try with_reducible contradiction))))
  all_goals first | omega | exact ⟨by omega, by omega⟩ | skip
  have ht2 : (l.map spT).take l.length = l.map spT := List.take_of_length_le (by simp)
  refine Stop.go ?_
  refine SW.cutS (γ := Unit) (fun _ => St.of [(0, .ptr 0 []), (3, .ref 3 65 0 l.length false)] [(0, .var (.agg [.v (.int .i64 m), .mref 1, .ref 2 33 0 l.length false])), (1, .mp (l.map plT) (l.map msT)), (2, .row 33 (l.map plT)), (3, .row 65 (l.map spT))] 64) (fun K hK => ?_) fun _ => ?_
  · repeat' (first
      | apply_assumption -exfalso -symm (transparency := .reducible) only [*]
      | (with_reducible refine And.intro ?_ ?_)
      | (refine drawIt ?_; kernel_rfl)
      | ((with_reducible refine opsF_id ?_); simp -implicitDefEqProofs only [go_sem, List.length_map])
      | ((with_reducible refine SW.id ?_); first | with_reducible refine SW.seqK fun K hK => ?_ | with_reducible refine SW.block ?_ | with_reducible refine SW.scope ?_ | ((first | with_reducible refine SW.skip ?_ | with_reducible refine SW.exit ?_ | with_reducible refine SW.label ?_ | with_reducible refine SW.ret ?_ | with_reducible refine SW.go MR2 ?_ | refine SW.goDrawF MR2 (by rfl) (by kernel_rfl) ?_); simp -implicitDefEqProofs only [go_sem, List.length_map]) | (refine SW.cond (by simp -implicitDefEqProofs only [go_sem, List.length_map]; rfl) (fun ht => ?_) (fun ht => ?_) <;> (try with_reducible contradiction))))
    refine SW.loop (α := { i : Nat // i ≤ l.length }) (fun i => St.of [(0, .ptr 0 []), (3, .ref 3 65 0 i.1 false), (15, .ref 2 33 0 l.length false), (16, .v (.int .i64 ((l.length : Nat) : Int))), (17, .v (.int .i64 ((i.1 : Nat) : Int)))] [(0, .var (.agg [.v (.int .i64 m), .mref 1, .ref 2 33 0 l.length false])), (1, .mp (l.map plT) (l.map msT)), (2, .row 33 (l.map plT)), (3, .row 65 ((l.take i.1).map spT))] 64) (fun i => l.length - i.1) ⟨0, by omega⟩
      (Weak.of [(0, 0), (1, 1), (2, 2), (448, 3)] (by rfl) ?_ ?_) fun ⟨i, hi⟩ => ?_
    · simp -implicitDefEqProofs only [go_sem]
      all_goals (repeat' (first | exact rfl | exact trivial | refine And.intro ?_ ?_))
    · simp -implicitDefEqProofs only [go_sem]
      all_goals (repeat' (first | exact rfl | exact trivial | refine And.intro ?_ ?_))
    · rcases Nat.lt_or_eq_of_le hi with h4 | h4
      · have hc := eq_true (show (i : Int) < (l.length : Int) by omega)
        have h5 := i64_up (a := i) (by omega)
        have hmem := hget i h4
        have okx := hok _ hmem
        have hv := findA_at (g := msT) hmem (nodup_plT hn)
        have hp3 := take_snoc h4 spT
        have e3 := eq_true (plT_fit okx.h.len)
        have tl : (l.take i).length = i := by rw [List.length_take]; omega
        dsimp only
        clear hmem okx hget
        generalize hxi : l.getD i default = x at *
        simp only [spT, plT, msT, keyT, u32T] at hv e3 hp3
        repeat' (first
          | apply_assumption -exfalso -symm (transparency := .reducible) only [*]
          | (with_reducible refine And.intro ?_ ?_)
          | (refine drawIt ?_; kernel_rfl)
          | ((with_reducible refine opsF_id ?_); simp -implicitDefEqProofs only [go_sem, hc, h5, List.length_map, hxi, hv, e1, e2, e3, ne32, eqT86', storeT, i64T, spT, plT, msT, keyT, u32T, tl])
          | ((with_reducible refine SW.id ?_); first | with_reducible refine SW.seqK fun K hK => ?_ | with_reducible refine SW.block ?_ | with_reducible refine SW.scope ?_ | ((first | with_reducible refine SW.skip ?_ | with_reducible refine SW.exit ?_ | with_reducible refine SW.label ?_ | with_reducible refine SW.ret ?_ | with_reducible refine SW.go MR2 ?_ | refine SW.goDrawF MR2 (by rfl) (by kernel_rfl) ?_); simp -implicitDefEqProofs only [go_sem, hc, h5, List.length_map, hxi, hv, e1, e2, e3, ne32, eqT86', storeT, i64T, spT, plT, msT, keyT, u32T, tl]) | (refine SW.cond (by simp -implicitDefEqProofs only [go_sem, hc, h5, List.length_map, hxi, hv, e1, e2, e3, ne32, eqT86', storeT, i64T, spT, plT, msT, keyT, u32T, tl]; rfl) (fun ht => ?_) (fun ht => ?_) <;> (try with_reducible contradiction))))
        all_goals first | omega | exact ⟨by omega, by omega⟩ | skip
        refine ⟨⟨i + 1, by omega⟩, Weak.of [(0, 0), (1, 1), (2, 2), (1216, 3)] (by rfl) ?_ ?_, by dsimp only; omega⟩
        · simp -implicitDefEqProofs only [go_sem]
          all_goals (repeat' (first | exact rfl | exact trivial | refine And.intro ?_ ?_))
        · simp -implicitDefEqProofs only [go_sem, hp3, tl]
          all_goals (repeat' (first | exact rfl | exact trivial | refine And.intro ?_ ?_))
      · have hc := eq_false (show ¬ (i : Int) < (l.length : Int) by omega)
        subst h4
        have ht : l.take l.length = l := List.take_length
        dsimp only
        rw [ht]
        repeat' (first
          | apply_assumption -exfalso -symm (transparency := .reducible) only [*]
          | (with_reducible refine And.intro ?_ ?_)
          | (refine drawIt ?_; kernel_rfl)
          | ((with_reducible refine opsF_id ?_); simp -implicitDefEqProofs only [go_sem, hc, List.length_map])
          | ((with_reducible refine SW.id ?_); first | with_reducible refine SW.seqK fun K hK => ?_ | with_reducible refine SW.block ?_ | with_reducible refine SW.scope ?_ | ((first | with_reducible refine SW.skip ?_ | with_reducible refine SW.exit ?_ | with_reducible refine SW.label ?_ | with_reducible refine SW.ret ?_ | with_reducible refine SW.go MR2 ?_ | refine SW.goDrawF MR2 (by rfl) (by kernel_rfl) ?_); simp -implicitDefEqProofs only [go_sem, hc, List.length_map]) | (refine SW.cond (by simp -implicitDefEqProofs only [go_sem, hc, List.length_map]; rfl) (fun ht => ?_) (fun ht => ?_) <;> (try with_reducible contradiction))))
        refine ⟨(), Weak.of [(0, 0), (1, 1), (2, 2), (3, 3)] (by rfl) ?_ ?_⟩
        · simp -implicitDefEqProofs only [go_sem]
          all_goals (repeat' (first | exact rfl | exact trivial | refine And.intro ?_ ?_))
        · simp -implicitDefEqProofs only [go_sem]
          all_goals (repeat' (first | exact rfl | exact trivial | refine And.intro ?_ ?_))
  · repeat' (first
      | apply_assumption -exfalso -symm (transparency := .reducible) only [*]
      | (with_reducible refine And.intro ?_ ?_)
      | (refine drawIt ?_; kernel_rfl)
      | ((with_reducible refine opsF_id ?_); simp -implicitDefEqProofs only [go_sem, storeT, i64T, List.length_map, ht2])
      | ((with_reducible refine SW.id ?_); first | with_reducible refine SW.seqK fun K hK => ?_ | with_reducible refine SW.block ?_ | with_reducible refine SW.scope ?_ | ((first | with_reducible refine SW.skip ?_ | with_reducible refine SW.exit ?_ | with_reducible refine SW.label ?_ | with_reducible refine SW.ret ?_ | with_reducible refine SW.go MR2 ?_ | refine SW.goDrawF MR2 (by rfl) (by kernel_rfl) ?_); simp -implicitDefEqProofs only [go_sem, storeT, i64T, List.length_map, ht2]) | (refine SW.cond (by simp -implicitDefEqProofs only [go_sem, storeT, i64T, List.length_map, ht2]; rfl) (fun ht => ?_) (fun ht => ?_) <;> (try with_reducible contradiction))))
    all_goals trace_state
end Go.PA
