/- Lists of numbers. -/
import Derived.Test.YtmacfbboiippoaaPAf
/- PA100: lists of numbers of one kind. -/
namespace Go.PA

/-- Numbers of a kind. -/
def nA (k : IntKind) (l : List Nat) : List A := l.map fun (n : Nat) => A.v (.int k (n : Int))
section
variable {k : IntKind}
theorem nA_nil : nA k [] = [] := rfl
theorem nA_length (l : List Nat) : (nA k l).length = l.length := by simp [nA]
theorem nA_append (l m : List Nat) : nA k l ++ nA k m = nA k (l ++ m) := by simp [nA]
theorem nA_snoc (l : List Nat) (n : Nat) : nA k l ++ [A.v (.int k n)] = nA k (l ++ [n]) := by simp [nA]
theorem nA_noowns (l : List Nat) : noowns (nA k l) = true := noowns_map (fun _ => rfl) l
theorem nA_nobors (l : List Nat) : nobors (nA k l) = true := nobors_map (fun _ => rfl) l
theorem nA_closeds (l : List Nat) : closeds (nA k l) = true := closeds_map (fun _ => rfl) l
theorem nA_lndOks (l : List Nat) : lndOks (nA k l) = true := lndOks_map (fun _ => rfl) l
theorem nA_lnds (l : List Nat) : lnds (nA k l) = nA k l := lnds_map (fun _ => rfl) l
theorem nA_frzOks (l : List Nat) : frzOks (nA k l) = true := frzOks_map (fun _ => rfl) l
theorem nA_frzs (l : List Nat) : frzs (nA k l) = nA k l := frzs_map (fun _ => rfl) l
theorem nA_take (l : List Nat) (i : Nat) : (nA k l).take i = nA k (l.take i) := by simp [nA, List.map_take]
theorem nA_drop (l : List Nat) (i : Nat) : (nA k l).drop i = nA k (l.drop i) := by simp [nA, List.map_drop]
theorem nA_set {l : List Nat} {i v : Nat} : (nA k l).set i (.v (.int k (v : Int))) = nA k (l.set i v) := by simp [nA, List.map_set]
theorem nA_sz {l : List Nat} : (∀ y, y ∈ nA k l → y.sz = 1) ↔ True := sz_map (f := fun (n : Nat) => A.v (.int k (n : Int))) (s := 1) fun _ => rfl
theorem nA_getD {l : List Nat} {i : Nat} (h : i < l.length) : (nA k l).getD i .und = A.v (.int k ((l.getD i 0 : Nat) : Int)) := by
  simp [nA, List.getD_eq_getElem?_getD, h]
theorem nA_szAt {l : List Nat} {i : Nat} (h : i < l.length) : szAt (nA k l) i 1 := ⟨A.v (.int k ((l.getD i 0 : Nat) : Int)), by simp [nA, List.getD_eq_getElem?_getD, h], rfl⟩
theorem nA_replicate (n x : Nat) : List.replicate n (A.v (.int k (x : Int))) = nA k (List.replicate n x) := by simp [nA]
theorem idx_nA {P : Program} {t : TypeId} {q : Bool} {xs : List Nat} {n : Int} {bk : Nat → Option Blk} {K : Eff → List Nat → Prop} {acc : List Nat} (h : (tSlice P t).map (·.2) = some 1) :
    (aIndexAddr P t (.sl q (nA k xs)) n).wpA bk K acc = ((0 ≤ n ∧ n < xs.length) ∧ K ⟨.rp q (.v (.int k ((xs.getD n.toNat 0 : Nat) : Int))), [], []⟩ acc) :=
  idx_map (f := fun (n : Nat) => A.v (.int k (n : Int))) (s := 1) (fun _ => rfl) h
theorem getR_nA {β : Type} {xs : List Nat} {i : Nat} {bk : Nat → Option Blk} {f : A → RM β} {K : β → List Nat → Prop} {acc : List Nat} :
    ((getR (nA k xs) 1 [.idx i 1]).bind f).wpA bk K acc = (i < xs.length ∧ (f (.v (.int k ((xs.getD i 0 : Nat) : Int)))).wpA bk K acc) :=
  getR_map (f := fun (n : Nat) => A.v (.int k (n : Int))) (s := 1)
end
attribute [go_sem] nA_nil nA_length nA_append nA_snoc nA_noowns nA_nobors nA_closeds nA_lndOks nA_lnds nA_frzOks nA_frzs nA_take nA_drop nA_set nA_sz idx_nA getR_nA
end Go.PA

/- PA110: calls walked in place; ranges over functions. -/
namespace Go.PA
open Classical

/-! The frame's own blocks as a list. -/
noncomputable def ownL (w : World) (Fm : Nat → List Nat) : List Nat := (List.range w.heap.size).filter fun g => decide (∃ d, g ∈ Fm d)

section
variable {P : Program} {c : Cx} {st : St} {a : Act} {w : World} {loc : Nat → Option (Option Nat)} {S : Nat → Prop} {Fm : Nat → List Nat}

theorem ownL_mem {c : Ctx} (R : RelW c st a w loc S Fm) {g : Nat} : g ∈ ownL w Fm ↔ ∃ d, g ∈ Fm d := by
  simp only [ownL, List.mem_filter, List.mem_range, decide_eq_true_eq]
  exact ⟨fun h => h.2, fun ⟨d, hd⟩ => ⟨R.fmLt hd, d, hd⟩⟩

/-- What a call that is walked in place begins with. -/
noncomputable def Cx.sub (c : Cx) (w : World) (S : Nat → Prop) (Fm : Nat → List Nat) (n : Nat) (ro : Option Nat) : Cx :=
  { w0 := w, F0 := ownL w Fm, S0 := S, B := c.B, n := n, kb := [], gh := fun _ => undef, ro := ro }

theorem RelW.sub (R : RelW c.toCtx st a w loc S Fm) {a2 : Act} {sl2 : Nat → Option A} {n2 : Nat} (ro : Option Nat) (hsz : a2.tmps.size = n2) (hd : a2.defers = [])
    (hsl : ∀ t x, sl2 t = some x → TV x (envOf c.toCtx st w loc S) (a2.tmps.getD t undef)) :
    RelW (c.sub w S Fm n2 ro).toCtx { st with sl := sl2, gs := (a.tmps, st.sl) :: st.gs } a2 w loc S Fm := by
  refine ⟨hsl, hsz, ⟨[], hd, List.nodup_nil, by simp⟩, fun p hp t x hx => ?_, R.bks, R.dead, R.known, R.nodup, R.disj, fun d g hg => ?_, ⟨fun _ _ _ => rfl, Nat.le_refl _, rfl, rfl, rfl, fun _ h => h, fun _ h => .inl h, fun g hg => R.fram.bd g hg, fun _ _ => rfl, fun _ => rfl⟩⟩
  · rcases List.mem_cons.1 hp with rfl | hp
    · exact R.slots t x hx
    · exact R.ghosts p hp t x hx
  · obtain ⟨h1, h2, h3, _⟩ := R.own d g hg
    exact ⟨h1, h2, h3, .inl ((ownL_mem R).2 ⟨d, hg⟩)⟩

theorem RelW.back (R : RelW c.toCtx st a w loc S Fm) {n2 : Nat} {ro : Option Nat} {st3 : St} {a3 : Act} {w3 : World} {loc3 : Nat → Option (Option Nat)} {S3 : Nat → Prop} {Fm3 : Nat → List Nat}
    (R3 : RelW (c.sub w S Fm n2 ro).toCtx st3 a3 w3 loc3 S3 Fm3) {sl' : Nat → Option A} {gs' : List (Array Value × (Nat → Option A))} (hgs : st3.gs = (a.tmps, sl') :: gs') :
    RelW c.toCtx { st3 with sl := sl', gs := gs' } a w3 loc3 S3 Fm3 := by
  have fr := R3.fram
  have hown : ∀ g, g ∈ ownL w Fm → ∃ d, g ∈ Fm d := fun g hg => (ownL_mem R).1 hg
  refine ⟨fun t x hx => R3.ghosts (a.tmps, sl') (by rw [hgs]; simp) t x hx, R.size, ?_, fun p hp t x hx => R3.ghosts p (by rw [hgs]; simp [hp]) t x hx, R3.bks, R3.dead, R3.known, R3.nodup, R3.disj, fun d g hg => ?_, ?_⟩
  · refine R.defers.next (fun g hg hn _ => fr.heap g hg fun h => ?_) (fun g hg => ?_) (fun d g hg => ?_) (fun g hg => by simp at hg)
    · obtain ⟨d, hd⟩ := hown g h; exact hn d hd
    · rcases fr.new g hg with h | h | h
      · exact .inl h
      · exact .inr (.inl (hown g h))
      · exact .inr (.inr (.inr h))
    · rcases (R3.own d g hg).2.2.2 with h | h
      · exact .inl (hown g h)
      · exact .inr (.inr h)
  · obtain ⟨h1, h2, h3, h4⟩ := R3.own d g hg
    refine ⟨h1, h2, h3, ?_⟩
    rcases h4 with h4 | h4
    · obtain ⟨d', h5⟩ := hown g h4
      exact (R.own d' g h5).2.2.2
    · exact .inr (Nat.le_trans R.fram.size h4)
  · have f0 := R.fram
    refine ⟨fun g hg hF => ?_, Nat.le_trans f0.size fr.size, fr.os.trans f0.os, fr.tape.trans f0.tape, fr.output.trans f0.output, fun g hg => fr.sub g (f0.sub g hg), fun g hg => ?_, fun g hg => fr.bd g hg,
      fun g hg => (fr.shp g (Nat.lt_of_lt_of_le hg f0.size)).trans (f0.shp g hg), fun x => (fr.fro x).trans (f0.fro x)⟩
    · refine (fr.heap g (Nat.lt_of_lt_of_le hg f0.size) fun h => ?_).trans (f0.heap g hg hF)
      obtain ⟨d, hd⟩ := hown g h
      rcases (R.own d g hd).2.2.2 with h | h
      · exact hF h
      · omega
    · rcases fr.new g hg with h | h | h
      · exact f0.new g h
      · obtain ⟨d, hd⟩ := hown g h
        exact .inr (R.own d g hd).2.2.2
      · exact .inr (.inr (Nat.le_trans f0.size h))

/-! One operation done in place. -/
/-- However the operation is met in this state: behind it one of the states that K2 takes. -/
def InlOp (P : Program) (N : Nat × List Bool) (ops : Array Oper) (o : Oper) (K2 : St → Prop) (st : St) : Prop :=
  ∀ (c : Cx) (a : Act) (w : World) (Q : Exit → Act → World → Prop) (K : Act → World → Prop) (i : Nat), c.N = N → Rl c st a w → ops[i]? = some o → (∀ st' a' w', K2 st' → Rl c st' a' w' → K a' w') → wpOpIn (fc c.ro) 0 P ops Q i K a w

theorem Run.soundK {M : FuncId → List Bool} {ops : Array Oper} {Q : Exit → Act → World → Prop} {rest : List Nat} {l : List (Nat × FP)} {st st' : St} (r : Run P M c.N ops l st st') :
    ∀ {a : Act} {w : World}, Rl c st a w → (∀ a' w', Rl c st' a' w' → wpOpsIn (fc c.ro) 0 P ops Q rest a' w') → wpOpsIn (fc c.ro) 0 P ops Q (l.map (·.1) ++ rest) a w := by
  induction r with
  | nil st => exact fun R hQ => hQ _ _ R
  | cons ho hd s r ih =>
    intro a w R hQ
    rw [List.map_cons, List.cons_append, wpOpsIn_cons]
    exact s.sound ho hd R fun a' w' R' => ih R' hQ

theorem opsWpL_pre {M : FuncId → List Bool} {N : Nat × List Bool} {ops : Array Oper} : ∀ {l : List Oper} {i : Nat} {K : List (Nat × FP) → St → Prop} {st : St}, (∀ j o, l[j]? = some o → ops[i + j]? = some o) → opsWpL P M N ops i l K st → opsWp P M N ops (List.range' i l.length) K st
  | [], i, K, st, hl, h => h
  | o :: l, i, K, st, hl, h => by
    have ho : ops[i]? = some o := hl 0 o rfl
    have hl' : ∀ j o, l[j]? = some o → ops[i + 1 + j]? = some o := fun j o h => by
      have := hl (j + 1) o (by simpa using h)
      rwa [show i + (j + 1) = i + 1 + j by omega] at this
    simp only [List.length_cons, List.range'_succ, opsWp, ho]
    simp only [opsWpL] at h
    refine ⟨h.1, ?_⟩
    have h2 := h.2
    cases hw : wantedA ops st o with
    | none => rw [hw] at h2; exact h2.elim
    | some g =>
      rw [hw] at h2
      exact ⟨fun e => opsWpL_pre hl' (h2.1 e), fun e => opWp_mono (fun _ _ _ _ hq => opsWpL_pre hl' hq) (h2.2 e)⟩

theorem SW.inl {N : Nat × List Bool} {Q : AExit → St → Prop} (M : FuncId → List Bool) (k : Nat) {id : Nat} {ops : Array Oper} {o : Oper} (ho : ops[k]? = some o)
    (h : opsF P M N ops (fun _ st1 => InlOp P N ops o (fun st2 => opsF P M N ops (regEnd Q (64 * ops.size)) (ops.toList.drop (k + 1)) (k + 1) [] st2) st1) (ops.toList.take k) 0 [] st) : SW P N (.region id ops false) Q st := by
  intro c a w hc R
  subst hc
  have hk : k < ops.size := (Array.getElem?_eq_some_iff.1 ho).1
  have hrange : List.range ops.size = List.range' 0 k ++ k :: List.range' (k + 1) (ops.size - (k + 1)) := by
    rw [List.range_eq_range', show ops.size = k + (1 + (ops.size - (k + 1))) by omega, ← List.range'_append_1, ← List.range'_append_1]
    simp
    omega
  refine wpIn_region ?_
  rw [hrange]
  have h1 := opsF_ok (K' := fun _ st1 => InlOp P c.N ops o (fun st2 => opsF P M c.N ops (regEnd Q (64 * ops.size)) (ops.toList.drop (k + 1)) (k + 1) [] st2) st1) (fun L st h => h) h
  have h1' : opsWp P M c.N ops (List.range' 0 k) (fun _ st1 => InlOp P c.N ops o (fun st2 => opsF P M c.N ops (regEnd Q (64 * ops.size)) (ops.toList.drop (k + 1)) (k + 1) [] st2) st1) st := by
    have := opsWpL_pre (ops := ops) (i := 0) (l := ops.toList.take k) (fun j o hj => by
      rw [List.getElem?_take] at hj
      split at hj
      · simpa using hj
      · cases hj) h1
    have hlen : (ops.toList.take k).length = k := by simp; omega
    rwa [hlen] at this
  obtain ⟨L, st1, r, hL, hI⟩ := opsWp_run h1'
  rw [← hL]
  refine r.soundK R fun a1 w1 R1 => ?_
  rw [wpOpsIn_cons]
  refine hI c a1 w1 _ _ k rfl R1 ho fun st2 a2 w2 h2 R2 => ?_
  have h3 := opsWpL_ok (i := k + 1) (l := ops.toList.drop (k + 1)) rfl (opsF_ok (K' := fun _ st' => Q .normal (st'.bump (64 * ops.size))) (fun L st h => h) h2)
  have hlen : (ops.toList.drop (k + 1)).length = ops.size - (k + 1) := by simp
  rw [hlen] at h3
  obtain ⟨L2, st3, r2, hL2, hQ⟩ := opsWp_run h3
  rw [← hL2]
  exact r2.sound R2 fun a' w' R' => ⟨_, hQ, R'.bump _⟩

/-! A call walked in place. -/
def inlQ (P : Program) (fn : Func) (tm : Array Value) (dst : Option Nat) (K2 : St → Prop) : AExit → St → Prop
  | .exit _, _ => False
  | _, st3 => match st3.gs with
    | (tm', sl') :: gs' => tm' = tm ∧ (resVarsM P st3 fn.results.toList).wp st3.bk fun xs _ => K2 (({ st3 with sl := sl', gs := gs' } : St).put dst (some (resA xs)))
    | [] => False

theorem InlOp.call {N : Nat × List Bool} {ops : Array Oper} {o : Oper} {K2 : St → Prop} {cl : Call} {x0 : Operand} {f : FuncId} {fn : Func} {code : Code} {first caps args : List A}
    (hd : okDst N o = true) (hw : wantedA ops st o = some true) (hop : o.op = .call cl) (hc : cl.callee = .value x0) (hx : aval st.sl x0 = some (.clo (.func f) first caps)) (ha : cl.args.toList.mapM (aval st.sl) = some args)
    (hgd : args.all A.good = true) (hg : goFn P f = true) (hf : P.funcs[f]? = some fn) (hb : fn.body = some code) (hn : (first ++ args ++ caps).length ≤ fn.ntmps)
    (h : ∀ tm, SW P (fn.ntmps, []) code (inlQ P fn tm o.dst K2) { st with sl := fun t => (first ++ args ++ caps)[t]?, gs := (tm, st.sl) :: st.gs }) : InlOp P N ops o K2 st := by
  intro c a w Q K i hcN ⟨⟨loc, S, Fm, R⟩, hkp⟩ ho hK
  subst hcN
  unfold wpOpIn
  rw [ho]
  dsimp only
  rw [wantedA_ok R hw]
  simp only [if_true]
  have hnd : ∀ k, o.op ≠ .defer k := fun k e => by rw [hop] at e; cases e
  refine ⟨fun _ _ => trivial, ?_⟩
  rw [Oper.semAt_eq _ _ _ hnd]
  obtain ⟨fvs, cvs, hy, h1, h2⟩ := VVs_closure (R.eval _ _ hx)
  have hargs := mapM_aval (fun x z hz => R.eval x z hz) _ _ ha
  have hav := TV_all hargs hgd
  have hvs := VVs_append (VVs_append h1 hav) h2
  simp only [List.append_nil] at hvs
  have hexec : (execOp a.eval o).run P w = .ok (.enter f (fvs ++ cl.args.toList.map a.eval ++ cvs).toArray) w := by
    have : execOp a.eval o = callFunc f (fvs.toArray ++ cl.args.map a.eval ++ cvs.toArray) := by
      simp only [execOp, hop, resolve, hc, hy, Deferred.ofValue, invoke]
      rfl
    rw [this, run_callFunc hg]
    congr 2
    simp
  rw [hexec, Oper.uponIn_enter]
  refine ⟨fc_enter, ?_⟩
  generalize hvv : fvs ++ cl.args.toList.map a.eval ++ cvs = vs at hvs
  have hvl := VVs_length hvs
  let a2 : Act := { tmps := vs.toArray ++ Array.replicate (fn.ntmps - vs.toArray.size) undef, defers := [] }
  have R2 := R.sub (c := c) (a2 := a2) (sl2 := fun t => (first ++ args ++ caps)[t]?) (n2 := fn.ntmps) none (by simp [a2]; omega) rfl (fun t x hx => by
    obtain ⟨y, hy, hyv⟩ := VVs_at _ _ _ t x hvs hx
    have : a2.tmps.getD t undef = y := by
      rw [getD_ofList, List.getD_eq_getElem?_getD, hy]
      rfl
    rw [this]
    exact (TV_good (VV_isAgg hyv)).2 hyv)
  have hwp := h a.tmps (c.sub w S Fm fn.ntmps none) a2 w rfl ⟨⟨loc, S, Fm, R2⟩, fun t ht => by simp [Cx.N, Cx.sub] at ht⟩
  have hB : ∀ g, c.B g → g < w.heap.size := fun g hg => R.fram.bd g (.inr hg)
  have hcalls : CallsIn Fence.wide 0 P f vs.toArray w fun e w' => ∃ v, e = .returned v ∧ K (a.put o.dst v) w' := by
    refine callsIn_of_wp_marks (F := Fence.wide) (n := 0) hf hb trivial (wpIn_mono hwp fun e a3 w3 hq => ?_)
    have fin : ∀ st3 (e : AExit), inlQ P fn a.tmps o.dst K2 e st3 → Rl (c.sub w S Fm fn.ntmps none) st3 a3 w3 → LeavesInM Fence.wide 0 P fn a3.tmps (fun e w' => ∃ v, e = .returned v ∧ K (a.put o.dst v) w') a3.defers .returning w3 := by
      intro st3 e hx ⟨⟨loc3, S3, Fm3, R3⟩, _⟩
      obtain ⟨Ds, hds, _⟩ := R3.defers
      refine leaves_marks (c := (c.sub w S Fm fn.ntmps none).toCtx) hB Ds R3 hds fun {a4} {w4} ht R4 => ?_
      have hx' : match st3.gs with
        | (tm', sl') :: gs' => tm' = a.tmps ∧ (resVarsM P st3 fn.results.toList).wp st3.bk fun xs _ => K2 (({ st3 with sl := sl', gs := gs' } : St).put o.dst (some (resA xs)))
        | [] => False := by cases e <;> first | exact hx | exact hx.elim
      split at hx'
      · rename_i tm' sl' gs' hgs
        obtain ⟨rfl, hx'⟩ := hx'
        obtain ⟨xs, l, r, hk2⟩ := RM.runs_of_wp hx'
        obtain ⟨rvs, g1, g2⟩ := resVars_ok R4 r
        have R5 := R.back R4 hgs
        refine ⟨_, results_ok g1, _, rfl, hK _ _ _ hk2 ⟨⟨loc3, S3, Fm3, R5.put _ _ _ (okDst_lt hd) (fun z hz => ?_)⟩, kept_put hd hkp⟩⟩
        injection hz with hz
        subst hz
        exact resRel_TV (resRel_of g2)
      · exact hx'.elim
    cases e with
    | normal => obtain ⟨st3, hx, R⟩ := hq; exact fin st3 .normal hx R
    | ret => obtain ⟨st3, hx, R⟩ := hq; exact fin st3 .ret hx R
    | exit id => obtain ⟨st3, hx, R⟩ := hq; exact hx.elim
    | goto l => exact hq.elim
    | panic ch => exact hq.elim
    | outgrown => exact hq.elim
  refine CallsIn.mono (fc_callsIn (callsIn_wide.1 hcalls)) ?_
  rintro e w' ⟨v, rfl, hk⟩
  exact hk
end
end Go.PA

/- PA111: ranges over functions. -/
namespace Go.PA
open Classical

/-- A loop's record: what stays of it. -/
structure RecI where
  ps : Array Tmp
  assign : Code
  body : Code
  n : Nat
  tm : Array Value
def RecI.loop (ri : RecI) (stt : LoopState) (pend : Option Code) (fn D : Nat) : Loop := { state := stt, pending := pend, fn := fn, tmps := ri.tm, params := ri.ps, assign := ri.assign, body := ri.body, defers := D }
def recR (ri : RecI) (stt : LoopState) (pend : Option Code) : Env → Nat → List Nat → Prop :=
  fun e l F => F = [l] ∧ ri.tm.size = ri.n ∧ ∃ fn D, e.w.heap[l]? = some (.loop (ri.loop stt pend fn D))

section
variable {P : Program} {c : Cx} {st : St} {a : Act} {w : World} {loc : Nat → Option (Option Nat)} {S : Nat → Prop} {Fm : Nat → List Nat}

theorem recR_BkR {e : Env} {d l : Nat} {ri : RecI} {stt : LoopState} {pend : Option Code} {fn D : Nat} (hl : e.loc d = some (some l)) (hn : ri.tm.size = ri.n)
    (h : e.w.heap[l]? = some (.loop (ri.loop stt pend fn D))) : BkR e d (.yld (recR ri stt pend)) [l] :=
  ⟨l, _, hl, h, by simp, fun e' he => ⟨rfl, hn, fn, D, (he.heap l (.inl (by simp))).trans h⟩⟩

/-- What a record's block holds. -/
theorem RelW.recOf (R : RelW c.toCtx st a w loc S Fm) {d : Nat} {ri : RecI} {stt : LoopState} {pend : Option Code} (hb : st.bk d = some (.yld (recR ri stt pend))) :
    ∃ l fn D, loc d = some (some l) ∧ Fm d = [l] ∧ ri.tm.size = ri.n ∧ w.heap[l]? = some (.loop (ri.loop stt pend fn D)) := by
  obtain ⟨l, o, h1, h2, h3, h4⟩ := R.bks d _ hb
  obtain ⟨h5, h6, fn, D, h7⟩ := h4 _ (Env.Le.refl _ _)
  exact ⟨l, fn, D, h1, h5, h6, h7⟩

/-- A record turns. -/
theorem RelW.setRec (R : RelW c.toCtx st a w loc S Fm) {d l : Nat} {ri : RecI} {stt stt' : LoopState} {pend pend' : Option Code} {fn D : Nat}
    (hl : loc d = some (some l)) (hF : Fm d = [l]) (hn : ri.tm.size = ri.n) (hb : st.bk d ≠ none)
    (h : w.heap[l]? = some (.loop (ri.loop stt pend fn D))) :
    RelW c.toCtx { st with bk := upd st.bk d (some (.yld (recR ri stt' pend'))) } a (w.putObj l (.loop (ri.loop stt' pend' fn D))) loc S Fm := by
  have hlt : l < w.heap.size := (Array.getElem?_eq_some_iff.1 h).1
  have hst : Step c.toCtx st w loc S Fm (fun x => x = l) { st with bk := upd st.bk d (some (.yld (recR ri stt' pend'))) } (w.putObj l (.loop (ri.loop stt' pend' fn D))) loc S Fm := by
    refine ⟨fun t => rfl, rfl, fun x hx => ⟨d, by rw [hx, hF]; simp⟩, fun x _ hx => World.putObj_heap_other hx, fun x _ => by rw [shape_put h rfl rfl], by simp, rfl, rfl, rfl, fun _ h => h, fun _ h => .inl h,
      fun x hx => by simpa using R.fram.bd x (.inl hx), fun d hd => hd, fun _ _ _ h => h, fun x => frozen_put h rfl rfl x⟩
  refine R.next hst (fun d' b hb' => ?_) (fun d' hd => ?_) (fun d' hd => ?_) R.nodup R.disj (fun d' g hg => ⟨.inl ⟨d', hg⟩, (R.own d' g hg).1, by simpa using R.fmLt hg⟩)
  · simp only [upd] at hb'
    by_cases he : d' = d
    · subst he
      simp only [if_true, Option.some.injEq] at hb'
      subst hb'
      refine .inr ?_
      rw [hF]
      exact recR_BkR hl hn (World.putObj_heap_same hlt)
    · rw [if_neg he] at hb'
      exact .inl ⟨hb', rfl, rfl, fun g hg e => R.disj d' d he g hg (by rw [hF, e]; simp)⟩
  · simp only [upd] at hd
    by_cases he : d' = d
    · subst he; simp at hd
    · rw [if_neg he] at hd; exact R.dead d' hd
  · simp only [upd] at hd
    by_cases he : d' = d
    · subst he; exact R.known _ hb
    · rw [if_neg he] at hd; exact R.known d' hd

/-- A name goes. -/
theorem RelW.forget {c : Ctx} (R : RelW c st a w loc S Fm) (d : Nat) : RelW c { st with bk := upd st.bk d none } a w (fun x => if x = d then none else loc x) S (fun x => if x = d then [] else Fm x) := by
  have hle : ∀ F, (envOf c st w loc S).Le (envOf c { st with bk := upd st.bk d none } w (fun x => if x = d then none else loc x) S) F := fun F =>
    ⟨fun _ _ => rfl, fun _ h => h, fun _ h => .inr h, fun _ h => h, fun x l _ h => by
      simp only [envOf] at h ⊢
      split at h
      · cases h
      · exact h, fun _ _ _ _ => rfl⟩
  refine ⟨fun t x hx => TV_mono (hle []) (R.slots t x hx), R.size, R.defers.next (fun _ _ _ _ => rfl) (fun g h => .inl h) (fun x g h => ?_) (fun g h => by simp at h), fun p hp t x hx => TV_mono (hle []) (R.ghosts p hp t x hx),
    fun x b hx => ?_, fun x hx => ?_, fun x hx => ?_, fun x => ?_, fun x y hxy g hg => ?_, fun x g hg => ?_, R.fram⟩
  · split at h
    · simp at h
    · exact .inl ⟨x, h⟩
  · simp only [upd] at hx
    by_cases he : x = d
    · subst he; simp at hx
    · rw [if_neg he] at hx
      simp only [if_neg he]
      exact BkR_mono (hle _) (by simp [envOf, he]) (R.bks x b hx)
  · simp only [upd] at hx
    by_cases he : x = d
    · simp [he]
    · rw [if_neg he] at hx
      simp only [if_neg he]
      exact R.dead x hx
  · simp only [upd] at hx
    by_cases he : x = d
    · subst he; simp at hx
    · rw [if_neg he] at hx; exact R.known x hx
  · split
    · exact List.nodup_nil
    · exact R.nodup x
  · split at hg
    · simp at hg
    · split
      · simp
      · exact R.disj x y hxy g hg
  · split at hg
    · simp at hg
    · exact R.own x g hg

/-- What was noted second goes, too. -/
theorem RelW.gsDrop {c : Ctx} {sl' : Nat → Option A} {p : Array Value × (Nat → Option A)} {gs' : List (Array Value × (Nat → Option A))} {st3 : St} {bk1 bk2 : Nat → Option Blk}
    (R : RelW c { st3 with sl := sl', gs := p :: gs', bk := bk1 } a w loc S Fm) (hb : bk1 = bk2) : RelW c { st3 with sl := sl', gs := gs', bk := bk2 } a w loc S Fm := by
  subst hb
  exact ⟨R.slots, R.size, R.defers, fun p hp => R.ghosts p (List.mem_cons_of_mem _ hp), R.bks, R.dead, R.known, R.nodup, R.disj, R.own, R.fram⟩

/-! A round. -/
def parSl (ps : List Tmp) (args : List A) (sl : Nat → Option A) : Nat → Option A :=
  (ps.zip args).foldl (fun f q => upd f q.1 (some q.2)) sl

def rndPend : AExit → Option Code
  | .normal => none
  | .ret => some .ret
  | .exit id => some (.exit id)
def rndSame (tmI : Array Value) (tx d : Nat) (st3 : St) : Prop := match st3.gs with
  | (tm', sl') :: _ => tm' = tmI ∧ sl' tx = some (.yref d)
  | [] => False
def rndQ (ri : RecI) (tmI : Array Value) (tx d : Nat) (dst : Option Nat) (K2 : St → Prop) (e : AExit) (st3 : St) : Prop :=
  match st3.gs with
  | (tm', sl') :: gs' => tm' = tmI ∧ sl' tx = some (.yref d) ∧ st3.bk d = some (.yld (recR ri .busy none)) ∧
      K2 (({ st3 with sl := sl', gs := gs', bk := upd st3.bk d (some (.yld (recR ri (if (rndPend e).isNone then .ready else .done) (rndPend e)))) } : St).put dst (some (.v (.bool (rndPend e).isNone))))
  | [] => False

theorem parSl_ok {e : Env} : ∀ {ps : List Tmp} {args : List A} {vals : List Value} {sl : Nat → Option A} {tm : Array Value}, VVs args e vals [] → (∀ p ∈ ps, p < tm.size) → ps.length = args.length →
    (∀ t x, sl t = some x → TV x e (tm.getD t undef)) → ∀ t x, parSl ps args sl t = some x → TV x e (((ps.zip vals).foldl (fun (tm : Array Value) q => tm.setIfInBounds q.1 q.2) tm).getD t undef)
  | [], _, _, sl, tm, _, _, _, hs, t, x, h => hs t x h
  | p :: ps, [], _, sl, tm, _, _, hl, hs, t, x, h => by simp at hl
  | p :: ps, y :: args, vals, sl, tm, hv, hp, hl, hs, t, x, h => by
    simp only [VVs] at hv
    obtain ⟨v, vs', F1, F2, rfl, hF, h1, h2⟩ := hv
    simp at hF
    obtain ⟨rfl, rfl⟩ := hF
    simp only [List.zip_cons_cons, List.foldl_cons]
    refine parSl_ok (sl := upd sl p (some y)) h2 (fun q hq => by simpa using hp q (by simp [hq])) (by simpa using hl) (fun u z hz => ?_) t x h
    rw [getD_setIfInBounds]
    simp only [upd] at hz
    by_cases hu : u = p
    · subst hu
      simp only [if_true, Option.some.injEq] at hz
      subst hz
      rw [if_pos ⟨rfl, hp _ (by simp)⟩]
      exact (TV_good (VV_isAgg h1)).2 h1
    · rw [if_neg hu] at hz
      rw [if_neg (fun h => hu h.1)]
      exact hs u z hz

theorem foldl_size (l : List (Tmp × Value)) : ∀ tm : Array Value, (l.foldl (fun (tm : Array Value) q => tm.setIfInBounds q.1 q.2) tm).size = tm.size := by
  induction l with
  | nil => exact fun _ => rfl
  | cons q l ih => intro tm; rw [List.foldl_cons, ih]; simp

theorem InlOp.yield {N : Nat × List Bool} {ops : Array Oper} {o : Oper} {K2 : St → Prop} {cl : Call} {tx d : Nat} {args : List A} {ps : Array Tmp} {assign body : Code} {n : Nat} {tm : Array Value} {ri : RecI} {slL : Nat → Option A} {gsr : List (Array Value × (Nat → Option A))}
    (hd : okDst N o = true) (hw : wantedA ops st o = some true) (hop : o.op = .call cl) (hc : cl.callee = .value (.tmp tx)) (hx : st.sl tx = some (.yref d)) (ha : cl.args.toList.mapM (aval st.sl) = some args)
    (hgd : args.all A.good = true) (hb : st.bk d = some (.yld (recR ri .ready none))) (hgs : st.gs = (tm, slL) :: gsr) (hri : ri = ⟨ps, assign, body, n, tm⟩) (hps : ps.size = args.length) (hpn : ∀ p ∈ ps.toList, p < n)
    (h : ∀ tmI, SW P (n, roundKb) assign (AExit.then (fun st1 => rndSame tmI tx d st1 ∧ st1.bk d = some (.yld (recR ri .ready none)) ∧
      SW P (n, roundKb) body (rndQ ri tmI tx d o.dst K2) { st1 with bk := upd st1.bk d (some (.yld (recR ri .busy none))) }) (fun _ _ => False))
      { st with sl := parSl ps.toList args slL, gs := (tmI, st.sl) :: (tm, slL) :: gsr }) : InlOp P N ops o K2 st := by
  intro c a w Q K i hcN ⟨⟨loc, S, Fm, R⟩, hkp⟩ ho hK
  subst hcN
  unfold wpOpIn
  rw [ho]
  dsimp only
  rw [wantedA_ok R hw]
  simp only [if_true]
  have hnd : ∀ k, o.op ≠ .defer k := fun k e => by rw [hop] at e; cases e
  refine ⟨fun _ _ => trivial, ?_⟩
  rw [Oper.semAt_eq _ _ _ hnd]
  have e1 : ri.ps = ps := by rw [hri]
  have e2 : ri.assign = assign := by rw [hri]
  have e3 : ri.body = body := by rw [hri]
  have e4 : ri.n = n := by rw [hri]
  have e5 : ri.tm = tm := by rw [hri]
  obtain ⟨l, fnR, D, hl, hFd, hn, hrec⟩ := R.recOf hb
  rw [e4, e5] at hn
  have hy : a.eval (.tmp tx) = .func (.yield l) #[] #[] := by
    have := R.slots _ _ hx
    rw [TV_good rfl, VV_mk rfl] at this
    simp only [VR] at this
    obtain ⟨_, _, g, hg, h2⟩ := this
    have := h2 _ hl
    injection this with this
    subst this
    exact (List.cons.inj hg).1
  have hargs := mapM_aval (fun x z hz => R.eval x z hz) _ _ ha
  have hav := TV_all hargs hgd
  have hvl := VVs_length hav
  have hyield := run_yield (P := P) (args := cl.args.map a.eval) hrec (by
    have : (ri.loop .ready none fnR D).params = ps := e1
    rw [this]
    simp at hvl ⊢; omega)
  have hexec : (execOp a.eval o).run P w = .ok (.round l fnR ((ps.zip (cl.args.map a.eval)).foldl (fun tmps (t, a) => tmps.setIfInBounds t a) tm) assign body) w := by
    have : execOp a.eval o = Instr.yield l (cl.args.map a.eval) := by
      simp only [execOp, hop, resolve, hc, hy, Deferred.ofValue, invoke]
      simp
    rw [this, hyield]
    simp only [RecI.loop, e1, e2, e3, e5]
  rw [hexec, Oper.uponIn_round]
  refine ⟨fc_enter, ?_⟩
  have htm : (ps.zip (cl.args.map a.eval)).foldl (fun tmps (t, a) => tmps.setIfInBounds t a) tm = (ps.toList.zip (cl.args.toList.map a.eval)).foldl (fun (tm : Array Value) q => tm.setIfInBounds q.1 q.2) tm := by
    rw [← Array.foldl_toList]
    simp [Array.toList_zip]
  rw [htm]
  let a2 : Act := { tmps := (ps.toList.zip (cl.args.toList.map a.eval)).foldl (fun (tm : Array Value) q => tm.setIfInBounds q.1 q.2) tm, defers := [] }
  have R2 := R.sub (c := c) (a2 := a2) (sl2 := parSl ps.toList args slL) (n2 := n) (some l) (by simp [a2, foldl_size, hn]) rfl
    (parSl_ok hav (fun p hp => by rw [hn]; exact hpn p hp) (by simp [hps]) (fun t x hx => R.ghosts (tm, slL) (by rw [hgs]; simp) t x hx))
  rw [hgs] at R2
  have hwp := h a.tmps (c.sub w S Fm n (some l)) a2 w rfl ⟨⟨loc, S, Fm, R2⟩, fun t ht => absurd ht (by show ¬ roundKb.getD t false = true; rw [roundKb_getD]; simp)⟩
  have same : ∀ {st3 : St} {a3 : Act} {w3 : World} {loc3 : Nat → Option (Option Nat)} {S3 : Nat → Prop} {Fm3 : Nat → List Nat} {sl' : Nat → Option A} {gs' : List (Array Value × (Nat → Option A))} {l3 : Nat}, RelW (c.sub w S Fm n (some l)).toCtx st3 a3 w3 loc3 S3 Fm3 →
      st3.gs = (a.tmps, sl') :: gs' → sl' tx = some (.yref d) → loc3 d = some (some l3) → l3 = l := by
    intro st3 a3 w3 loc3 S3 Fm3 sl' gs' l3 R3 hg hs hl3
    have := R3.ghosts (a.tmps, sl') (by rw [hg]; simp) tx _ hs
    rw [TV_good rfl, VV_mk rfl] at this
    simp only [VR] at this
    obtain ⟨_, _, g, hg', h2⟩ := this
    have h3 := h2 _ hl3
    injection h3 with h3
    subst h3
    have hy' : a.tmps.getD tx undef = .func (.yield l) #[] #[] := hy
    rw [hy'] at hg'
    simp only [List.cons.injEq, Value.func.injEq, Fn.yield.injEq, and_true] at hg'
    exact hg'.symm
  refine RoundIn.mono (R := fun e w' => ∃ v, e = .returned v ∧ K (a.put o.dst v) w') (roundIn_of_wpIn (F := fc c.ro) trivial (wpIn_mono hwp fun e a3 w3 hq => ?_)) ?_
  · cases e with
    | normal =>
      obtain ⟨st3, ⟨hsm, hb3, hSW⟩, ⟨⟨loc3, S3, Fm3, R3⟩, hk3⟩⟩ := hq
      obtain ⟨l3, fn3, D3, hl3, hF3, hn3, hrec3⟩ := R3.recOf hb3
      have hll : l3 = l := by
        unfold rndSame at hsm
        split at hsm
        · rename_i tm' sl' gs' hg
          obtain ⟨rfl, hs⟩ := hsm
          exact same R3 hg hs hl3
        · exact hsm.elim
      subst hll
      refine ⟨_, run_beginRound hrec3 rfl, ?_⟩
      have R4 := R3.setRec (stt' := .busy) (pend' := none) hl3 hF3 hn3 (by rw [hb3]; simp) hrec3
      have hwp2 := hSW (c.sub w S Fm n (some l3)) a3 _ rfl ⟨⟨loc3, S3, Fm3, R4⟩, hk3⟩
      refine wpIn_mono hwp2 fun e a5 w5 hq5 => ?_
      have fin : ∀ (e : AExit) st5, rndQ ri a.tmps tx d o.dst K2 e st5 → Rl (c.sub w S Fm n (some l3)) st5 a5 w5 →
          ∃ v w', (Instr.endRound l3 (rndPend e)).run P w5 = .ok v w' ∧ ∃ v', Ending.returned v = .returned v' ∧ K (a.put o.dst v') w' := by
        intro e st5 hx ⟨⟨loc5, S5, Fm5, R5⟩, _⟩
        unfold rndQ at hx
        split at hx
        · rename_i tm' sl' gs' hg
          obtain ⟨rfl, hs, hb5, hk2⟩ := hx
          obtain ⟨l5, fn5, D5, hl5, hF5, hn5, hrec5⟩ := R5.recOf hb5
          obtain rfl := same R5 hg hs hl5
          refine ⟨_, _, run_endRound (rndPend e) hrec5, _, rfl, ?_⟩
          have R6 := R5.setRec (stt' := if (rndPend e).isNone then .ready else .done) (pend' := rndPend e) hl5 hF5 hn5 (by rw [hb5]; simp) hrec5
          have R7 := R.back R6 hg
          refine hK _ _ _ hk2 ⟨⟨loc5, S5, Fm5, R7.put _ _ _ (okDst_lt hd) (fun z hz => ?_)⟩, kept_put hd hkp⟩
          injection hz with hz
          subst hz
          exact TV_v.2 ⟨rfl, rfl⟩
        · exact hx.elim
      cases e with
      | normal => obtain ⟨st5, hx, R5⟩ := hq5; exact fin .normal st5 hx R5
      | ret => obtain ⟨st5, hx, R5⟩ := hq5; exact fin .ret st5 hx R5
      | exit id => obtain ⟨st5, hx, R5⟩ := hq5; exact fin (.exit id) st5 hx R5
      | goto l => exact hq5.elim
      | panic ch => exact hq5.elim
      | outgrown => exact hq5.elim
    | ret => obtain ⟨st3, hx, _⟩ := hq; exact hx.elim
    | exit id => obtain ⟨st3, hx, _⟩ := hq; exact hx.elim
    | goto l => exact hq.elim
    | panic ch => exact hq.elim
    | outgrown => exact hq.elim
  · rintro e w' ⟨v, rfl, hk⟩
    exact hk

/-- Not wanted. -/
theorem InlOp.skip {N : Nat × List Bool} {ops : Array Oper} {o : Oper} {K2 : St → Prop} (hd : okDst N o = true) (hw : wantedA ops st o = some false) (h : K2 (st.go o.dst .und [] [])) : InlOp P N ops o K2 st := by
  intro c a w Q K i hcN ⟨⟨loc, S, Fm, R⟩, hkp⟩ ho hK
  subst hcN
  unfold wpOpIn
  rw [ho]
  dsimp only
  rw [wantedA_ok R hw]
  simp only [Bool.false_eq_true, if_false]
  refine ⟨fun _ _ => trivial, hK _ _ _ h ⟨⟨loc, S, Fm, ?_⟩, kept_put hd hkp⟩⟩
  unfold St.go
  rw [St.app_nil]
  exact R.put _ _ _ (okDst_lt hd) (fun z hz => by injection hz with hz; subst hz; rfl)

theorem go_gs {st : St} {dst : Option Nat} {z : A} {up : List (Nat × Option Blk)} {nw : List Nat} : (st.go dst z up nw).gs = st.gs := by cases dst <;> rfl
theorem bump_gs {st : St} {k : Nat} : (st.bump k).gs = st.gs := rfl
theorem putS_sl {st : St} {d : Option Nat} {z : Option A} {t : Nat} : (st.put d z).sl t = if d = some t then z else st.sl t := put_sl
theorem putS_gs {st : St} {d : Option Nat} {z : Option A} : (st.put d z).gs = st.gs := by cases d <;> rfl
attribute [go_sem] go_gs bump_gs putS_sl putS_gs put_bk put_ids put_ep roundKb_getD rndPend Option.isNone_none Option.isNone_some

/-! The statement. -/
def rngQ (P : Program) (N : Nat × List Bool) (ri : RecI) (tm tmY : Array Value) (Q : AExit → St → Prop) : AExit → St → Prop
  | .exit _, _ => False
  | _, st3 => match st3.gs with
    | (tm', sl') :: (tmY', sy) :: gs' => tm' = tm ∧ tmY' = tmY ∧ ∃ dl stt pend, sy 0 = some (.yref dl) ∧ stt ≠ .busy ∧ st3.bk dl = some (.yld (recR ri stt pend)) ∧
        match pend with
        | none => Q .normal { st3 with sl := sl', gs := gs', bk := upd st3.bk dl none }
        | some c => SW P N c Q { st3 with sl := sl', gs := gs', bk := upd st3.bk dl none }
    | _ => False

theorem alloc_frozen {w : World} {o : Obj} (ho : o.isCells = false) (a : Addr) : (w.alloc o).frozen? a = w.frozen? a := by
  rcases Nat.lt_trichotomy a.block w.heap.size with h | h | h
  · exact frozen_heap (heapOld _ _ _ h)
  · rw [frozen_none (w := w) (by rw [h]; simp)]
    unfold World.frozen?
    rw [h, World.alloc_heap_new]
    cases o <;> simp_all [Obj.isCells]
  · rw [frozen_none (w := w) (by simp; omega), frozen_none (by simp; omega)]

theorem SW.range {N : Nat × List Bool} {Q : AExit → St → Prop} {g : Operand} {ps : Array Tmp} {assign body : Code} {f : FuncId} {fn : Func} {code : Code} {caps : List A} (dl : Nat)
    (hN : N.2.length < 1000) (hg : aval st.sl g = some (.clo (.func f) [] caps)) (hgd : caps.all A.good = true) (hgo : goFn P f = true) (hf : P.funcs[f]? = some fn) (hb : fn.body = some code) (hn : caps.length + 1 ≤ fn.ntmps)
    (hres : fn.results.toList = []) (hdl : st.ids dl = false)
    (h : ∀ tm tmY ri, ri = ⟨ps, assign, body, N.1, tm⟩ → SW P (fn.ntmps, []) code (rngQ P N ri tm tmY Q) { st with sl := fun t => (A.yref dl :: caps)[t]?, bk := upd st.bk dl (some (.yld (recR ri .ready none))), ids := fun d => st.ids d || d == dl, gs := (tm, st.sl) :: (tmY, fun t => if t = 0 then some (.yref dl) else none) :: st.gs }) :
    SW P N (.rangeFunc g ps assign body) Q st := by
  intro c a w hc ⟨⟨loc, S, Fm, R⟩, hkp⟩
  subst hc
  have hro := Cx.ro_none hN
  have hrf : (fc c.ro) = Fence.wide := by rw [hro]; rfl
  rw [hrf]
  refine wpIn_rangeFunc fun fnR _ => ?_
  obtain ⟨ri, hri⟩ : ∃ r : RecI, r = ⟨ps, assign, body, c.N.1, a.tmps⟩ := ⟨_, rfl⟩
  obtain ⟨rec, hrec⟩ : ∃ r : Loop, r = ri.loop .ready none fnR w.heap.size := ⟨_, rfl⟩
  obtain ⟨w1, hw1⟩ : ∃ w1, w1 = (w.alloc (.deferred (some []))).alloc (.loop rec) := ⟨_, rfl⟩
  have hdb : st.bk dl = none := by
    cases hx : st.bk dl with
    | none => rfl
    | some b => have := R.known dl (by rw [hx]; simp); rw [hdl] at this; cases this
  have hsz : w1.heap.size = w.heap.size + 2 := by rw [hw1]; simp
  have hold : ∀ x, x < w.heap.size → w1.heap[x]? = w.heap[x]? := fun x hx => by
    rw [hw1, heapOld _ _ _ (by simp; omega), heapOld _ _ _ hx]
  have hL : w1.heap[w.heap.size + 1]? = some (.loop rec) := by
    rw [hw1]
    have := World.alloc_heap_new (w.alloc (.deferred (some []))) (.loop rec)
    rwa [World.size_alloc] at this
  have hD : w1.heap[w.heap.size]? = some (.deferred (some [])) := by
    rw [hw1, heapOld _ _ _ (by simp)]
    exact World.alloc_heap_new _ _
  -- the record gets its name
  let st1 : St := { st with bk := upd st.bk dl (some (.yld (recR ri .ready none))), ids := fun d => st.ids d || d == dl }
  let loc1 : Nat → Option (Option Nat) := fun x => if x = dl then some (some (w.heap.size + 1)) else loc x
  let Fm1 : Nat → List Nat := fun x => if x = dl then [w.heap.size + 1] else Fm x
  have hne : ∀ x, st.ids x = true → x ≠ dl := fun x hx e => by subst e; rw [hdl] at hx; cases hx
  have hst : Step c.toCtx st w loc S Fm (fun _ => False) st1 w1 loc1 S Fm1 := by
    refine ⟨fun t => rfl, rfl, fun x h => h.elim, fun x hx _ => hold x hx, fun x hx => by rw [shape_of_heap (hold x hx)], by omega, by rw [hw1]; rfl, by rw [hw1]; rfl, by rw [hw1]; rfl, fun _ h => h, fun _ h => .inl h,
      fun x hx => by have := R.fram.bd x (.inl hx); omega, fun d hd => by simp [st1, hd], fun d l hd hl => ?_, fun x => ?_⟩
    · simp only [loc1, if_neg (hne d hd)] at hl
      exact hl
    · rw [hw1, alloc_frozen rfl, alloc_frozen rfl]
  have R1 : RelW c.toCtx st1 a w1 loc1 S Fm1 := by
    refine R.next hst (fun d b hb' => ?_) (fun d hd => ?_) (fun d hd => ?_) (fun d => ?_) (fun d d' hdd x hx => ?_) (fun d x hx => ?_)
    · simp only [st1, upd] at hb'
      by_cases he : d = dl
      · subst he
        simp only [if_true, Option.some.injEq] at hb'
        subst hb'
        refine .inr ?_
        simp only [Fm1, if_true]
        exact recR_BkR (by simp [envOf, loc1]) (by rw [hri]; exact R.size) (by rw [← hrec]; exact hL)
      · rw [if_neg he] at hb'
        exact .inl ⟨hb', by simp [loc1, he], by simp [Fm1, he], fun _ _ h => h⟩
    · simp only [st1, upd] at hd
      by_cases he : d = dl
      · subst he; simp at hd
      · rw [if_neg he] at hd
        simp only [Fm1, loc1, if_neg he]
        exact R.dead d hd
    · simp only [st1, upd] at hd
      by_cases he : d = dl
      · simp [st1, he]
      · rw [if_neg he] at hd
        simp [st1, R.known d hd]
    · simp only [Fm1]
      split
      · simp
      · exact R.nodup d
    · simp only [Fm1] at hx ⊢
      by_cases he : d = dl
      · rw [if_pos he] at hx
        rw [if_neg (fun h => hdd (he.trans h.symm))]
        simp at hx
        subst hx
        intro h2
        have := R.fmLt h2
        omega
      · rw [if_neg he] at hx
        split
        · have := R.fmLt hx
          simp; omega
        · exact R.disj d d' hdd x hx
    · simp only [Fm1] at hx
      by_cases he : d = dl
      · rw [if_pos he] at hx
        simp at hx
        subst hx
        exact ⟨.inr (by omega), fun hS => by have := R.fram.bd _ (.inl hS); omega, by omega⟩
      · rw [if_neg he] at hx
        exact ⟨.inl ⟨d, hx⟩, (R.own d x hx).1, by have := R.fmLt hx; omega⟩
  -- the mark
  let a1 : Act := { a with defers := [mark w.heap.size] ++ a.defers }
  have R1a : RelW c.toCtx st1 a1 w1 loc1 S Fm1 := by
    refine { R1 with defers := ?_ }
    obtain ⟨Ds, g1, g2, g3⟩ := R1.defers
    obtain ⟨Ds', g1', _, g3'⟩ := R.defers
    have hDs : Ds' = Ds := by
      have : Ds'.map mark = Ds.map mark := g1'.symm.trans g1
      exact (List.map_inj_right (fun x y hxy => by simpa [mark] using hxy)).1 this
    subst hDs
    refine ⟨w.heap.size :: Ds', by simp [a1, g1], List.nodup_cons.2 ⟨fun h => ?_, g2⟩, fun D hD' => ?_⟩
    · have := (Array.getElem?_eq_some_iff.1 (g3' _ h).2.1).1
      omega
    · rcases List.mem_cons.1 hD' with rfl | h
      · refine ⟨R.fram.size, hD, fun hS => by have := R.fram.bd _ (.inl hS); omega, fun d hd => ?_, by simp⟩
        simp only [Fm1] at hd
        split at hd
        · simp at hd
        · have := R.fmLt hd; omega
      · exact g3 D h
  obtain ⟨fvs, cvs, hy, h1, h2⟩ := VVs_closure (R1.eval _ _ (show aval st1.sl g = some (.clo (.func f) [] caps) from hg))
  simp only [VVs] at h1
  obtain ⟨rfl, _⟩ := h1
  let l := w.heap.size + 1
  have hyr : VVs (A.yref dl :: caps) (envOf c.toCtx st1 w1 loc1 S) (.func (.yield l) #[] #[] :: cvs) [] := by
    simp only [VVs]
    refine ⟨_, _, [], [], rfl, rfl, .inr ⟨rfl, ?_⟩, h2⟩
    simp only [VR]
    exact ⟨trivial, by simp [envOf, st1], l, rfl, fun l' hl' => by simp [envOf, loc1] at hl'; exact hl'.symm⟩
  have hvl := VVs_length hyr
  let a2 : Act := { tmps := (.func (.yield l) #[] #[] :: cvs).toArray ++ Array.replicate (fn.ntmps - (.func (.yield l) #[] #[] :: cvs).toArray.size) undef, defers := [] }
  have R2 := R1a.sub (c := c) (a2 := a2) (sl2 := fun t => (A.yref dl :: caps)[t]?) (n2 := fn.ntmps) none (by simp [a2] at hvl ⊢; omega) rfl (fun t x hx => by
    obtain ⟨y, hy, hyv⟩ := VVs_at _ _ _ t x hyr hx
    have : a2.tmps.getD t undef = y := by
      rw [getD_ofList, List.getD_eq_getElem?_getD, hy]
      rfl
    rw [this]
    exact (TV_good (VV_isAgg hyv)).2 hyv)
  have R2b : RelW (c.sub w1 S Fm1 fn.ntmps none).toCtx { st1 with sl := fun t => (A.yref dl :: caps)[t]?, gs := (a.tmps, st.sl) :: (#[.func (.yield l) #[] #[]], fun t => if t = 0 then some (.yref dl) else none) :: st.gs } a2 w1 loc1 S Fm1 := by
    refine { R2 with ghosts := fun p hp t x hx => ?_ }
    rcases List.mem_cons.1 hp with rfl | hp
    · exact R2.ghosts _ (List.mem_cons_self ..) t x hx
    · rcases List.mem_cons.1 hp with rfl | hp
      · simp only at hx
        split at hx
        · rename_i ht
          subst ht
          injection hx with hx
          subst hx
          simp only [VVs] at hyr
          obtain ⟨v, _, F1, F2, e1, e2, e3, _⟩ := hyr
          simp at e2
          obtain ⟨rfl, rfl⟩ := e2
          injection e1 with e1 _
          subst e1
          exact (TV_good rfl).2 e3
        · cases hx
      · exact R2.ghosts p (List.mem_cons_of_mem _ hp) t x hx
  have hwp := h a.tmps #[.func (.yield l) #[] #[]] ri hri (c.sub w1 S Fm1 fn.ntmps none) a2 w1 rfl ⟨⟨loc1, S, Fm1, R2b⟩, fun t ht => by simp [Cx.N, Cx.sub] at ht⟩
  have hB : ∀ g, c.B g → g < w1.heap.size := fun g hg => by have := R.fram.bd g (.inr hg); omega
  refine ⟨l, [mark w.heap.size], w1, { target := .fn (.func f) cvs.toArray, args := #[.func (.yield l) #[] #[]] }, w1, f, (.func (.yield l) #[] #[] :: cvs).toArray, w1, ?_, ?_, fun _ _ => trivial, ?_, fun h => (by cases h), ?_⟩
  · have hr : Fence.wide.round = none := rfl
    rw [hr, hw1, hrec, hri]
    exact run_enterLoop_outer _ _ _ _ _
  · simp only [resolve, hy]
    simp [go_sem]
  · have : invoke (.fn (.func f) cvs.toArray) #[.func (.yield l) #[] #[]] = callFunc f (#[.func (.yield l) #[] #[]] ++ cvs.toArray) := rfl
    rw [this, run_callFunc hgo]
    simp
  · refine callsIn_of_wp_marks (F := Fence.wide) (n := 0) hf hb trivial (wpIn_mono hwp fun e a3 w3 hq => ?_)
    have fin : ∀ st3 (e : AExit), rngQ P c.N ri a.tmps #[.func (.yield l) #[] #[]] Q e st3 → Rl (c.sub w1 S Fm1 fn.ntmps none) st3 a3 w3 →
        LeavesInM Fence.wide 0 P fn a3.tmps (rangePost Fence.wide 0 P l (liftQ c Q) a1) a3.defers .returning w3 := by
      intro st3 e hx ⟨⟨loc3, S3, Fm3, R3⟩, _⟩
      obtain ⟨Ds, hds, _⟩ := R3.defers
      refine leaves_marks (c := (c.sub w1 S Fm1 fn.ntmps none).toCtx) hB Ds R3 hds fun {a4} {w4} ht R4 => ?_
      have hres' : (results fn a4.tmps).run P w4 = .ok (oneV []) w4 := by
        refine results_ok ?_
        rw [hres]
        rfl
      refine ⟨_, hres', ?_⟩
      have hx' : match st3.gs with
        | (tm', sl') :: (tmY', sy) :: gs' => tm' = a.tmps ∧ tmY' = #[.func (.yield l) #[] #[]] ∧ ∃ dl stt pend, sy 0 = some (.yref dl) ∧ stt ≠ .busy ∧ st3.bk dl = some (.yld (recR ri stt pend)) ∧
            match pend with
            | none => Q .normal { st3 with sl := sl', gs := gs', bk := upd st3.bk dl none }
            | some k => SW P c.N k Q { st3 with sl := sl', gs := gs', bk := upd st3.bk dl none }
        | _ => False := by cases e <;> first | exact hx | exact hx.elim
      split at hx'
      · rename_i tm' sl' tmY' sy gs' hgs
        obtain ⟨rfl, rfl, dl, stt, pend, hsy, hbusy, hb3, hk2⟩ := hx'
        obtain ⟨l3, fn3, D3, hl3, hF3, hn3, hrec3⟩ := R4.recOf hb3
        have hll : l3 = l := by
          have := R4.ghosts (#[.func (.yield l) #[] #[]], sy) (by rw [hgs]; simp) 0 _ hsy
          rw [TV_good rfl, VV_mk rfl] at this
          simp only [VR] at this
          obtain ⟨_, _, g, hg', h2⟩ := this
          have h3 := h2 _ hl3
          injection h3 with h3
          subst h3
          simp at hg'
          exact hg'.symm
        subst hll
        have R5 := R4.setRec (stt' := .exhausted) (pend' := pend) hl3 hF3 hn3 (by rw [hb3]; simp) hrec3
        have R6 := R1a.back R5 hgs
        have R7 := R6.forget dl
        have hbk : upd (upd st3.bk dl (some (.yld (recR ri .exhausted pend)))) dl none = upd st3.bk dl none := by
          funext x
          simp only [upd]
          split <;> rfl
        have R8 : RelW c.toCtx { st3 with sl := sl', gs := gs', bk := upd st3.bk dl none } a1 _ _ S3 _ := R7.gsDrop hbk
        refine ⟨pend, _, run_endLoop hrec3 hbusy, ?_⟩
        cases pend with
        | none => exact ⟨_, hk2, ⟨_, _, _, R8⟩, hkp⟩
        | some k =>
          have := hk2 c a1 _ rfl ⟨⟨_, _, _, R8⟩, hkp⟩
          rwa [hrf] at this
      · exact hx'.elim
    cases e with
    | normal => obtain ⟨st3, hx, R⟩ := hq; exact fin st3 .normal hx R
    | ret => obtain ⟨st3, hx, R⟩ := hq; exact fin st3 .ret hx R
    | exit id => obtain ⟨st3, hx, R⟩ := hq; exact hx.elim
    | goto l => exact hq.elim
    | panic ch => exact hq.elim
    | outgrown => exact hq.elim
end
end Go.PA

/- PA112: an append to a row that others go on using. -/
namespace Go.PA
section
variable {P : Program} {st : St}

theorem InlOp.append2 {N : Nat × List Bool} {ops : Array Oper} {o : Oper} {K2 : St → Prop} {k : Call} {x y : Operand} {t e : TypeId} {n d s len eb : Nat} {z q : A} {xs ys : List A}
    (hd : okDst N o = true) (hw : wantedA ops st o = some true) (ho : o.op = .call k) (hk : k.callee = .builtin .append) (hargs : k.args = #[x, y]) (hT : k.argTypes = #[t, t])
    (hx : aval st.sl x = some (.ref d s 0 len false)) (hy : aval st.sl y = some q) (hb : st.bk d = some (.row s xs)) (hno : noowns xs = true) (hlen : len = xs.length)
    (hq : (appSrc q).wp st.bk fun ys' _ => ys' = ys) (hne : ys ≠ []) (hys : ∀ y ∈ ys, y.sz = s) (hr : roomy len ys.length eb) (ht : tSlice P t = some (e, s)) (hs : 0 < s) (heb : tBytes P e = some eb) (hz : tZero P e = some z) (hzs : z.sz = s)
    (hn : st.ids n = false)
    (h1 : K2 (st.go o.dst (.ref d s 0 (len + ys.length) false) [(d, some (.row s (xs ++ ys)))] []))
    (h2 : K2 (st.go o.dst (.ref n s 0 (len + ys.length) false) [(n, some (.row s (xs ++ ys)))] [n])) : InlOp P N ops o K2 st := by
  intro c a w Q K i hcN ⟨⟨loc, S, Fm, R⟩, hkp⟩ hoi hK
  subst hcN hlen
  unfold wpOpIn
  rw [hoi]
  dsimp only
  rw [wantedA_ok R hw]
  simp only [if_true]
  have hnd : ∀ k, o.op ≠ .defer k := fun k e => by rw [ho] at e; cases e
  refine ⟨fun _ _ => trivial, ?_⟩
  rw [Oper.semAt_eq _ _ _ hnd]
  obtain ⟨hu, hes⟩ := tSlice_some ht
  obtain ⟨i, v, hi, hv, hV⟩ := tZero_info hz
  have hsz : i.size = s := by
    obtain ⟨i', hi', h⟩ := tSize_some hes
    rw [hi] at hi'; injection hi' with hi'; subst hi'; exact h
  have hby : i.bytes = eb := by
    simp [tBytes, hi] at heb; exact heb
  have hvs : v.cells.size = s := by
    have := VR_len _ _ _ _ (hV (envOf c.toCtx st w loc S))
    rw [hzs] at this
    simpa using this
  obtain ⟨ys', rd, r1, rfl⟩ := RM.runs_of_wp hq
  have hxv := R.eval _ _ hx
  obtain ⟨b, k', us, hyv, hus, hcell⟩ := appSrc_sound R (R.eval _ _ hy) r1
  obtain ⟨ad, rfl, hcell2⟩ := hcell hne
  rw [TV_good rfl, VV_mk rfl] at hxv
  simp only [VR] at hxv
  obtain ⟨_, hid, bx, kx, hxv, h3, hnex, _, h5⟩ := hxv
  injection hxv with hxv
  have hpos : 0 < ys'.length := List.length_pos_iff.2 hne
  have husl : us.length = ys'.length * i.size := by rw [VRs_len _ _ _ _ hus, szs_const hys, hsz]
  obtain ⟨hr1, hr2⟩ := hr
  have h63 : xs.length + ys'.length ≤ maxLen := by simp [maxLen]; omega
  obtain ⟨h0, hss, hB⟩ := R.bks d _ hb
  have hall : ∀ z ∈ xs ++ ys', z.sz = s := fun z hz => by
    rcases List.mem_append.1 hz with hz | hz
    · exact hss z hz
    · exact hys z hz
  have fin : ∀ {y : Value} {w' : World} {zz : A} {up : List (Nat × Option Blk)} {nw : List Nat} {loc' : Nat → Option (Option Nat)} {S' : Nat → Prop} {Fm' : Nat → List Nat}, (execOp a.eval o).run P w = .ok (.value y) w' → K2 (st.go o.dst zz up nw) →
      RelW c.toCtx (st.app ⟨zz, up, nw⟩) a w' loc' S' Fm' → TV zz (envOf c.toCtx (st.app ⟨zz, up, nw⟩) w' loc' S') y → Oper.uponIn (fc c.ro) 0 P o a K Q ((execOp a.eval o).run P w) := by
    intro y w' zz up nw loc' S' Fm' hrun hk2 R' ht'
    rw [hrun, Oper.uponIn_value]
    exact hK _ _ _ hk2 ⟨⟨loc', S', Fm', R'.put _ _ _ (okDst_lt hd) (fun z hz => by injection hz with hz; subst hz; exact ht')⟩, kept_put hd hkp⟩
  rcases hB with ⟨hl1, hx1, hF1⟩ | ⟨g, cs, ty, kc, usx, Fx, hl1, hkc, hkm, hg, hcs, hxs, htake, hF⟩
  · -- the row is nil
    subst hx1
    have := h5 _ hl1
    simp only at this
    obtain ⟨_, _, rfl, rfl⟩ := this
    have hr2' : ys'.length * i.bytes ≤ 281474976710656 := by rw [hby]; simp at hr2; omega
    have hrun := run_append_nil (P := P) w t o.type e i v hu hi hv ad ys'.length k' us husl hcell2 hpos (by omega) hr2'
    have hge := grownCap_ge w ys'.length 0 e
    have hcm := grownCap_le_maxLen w ys'.length 0 e (by simp [maxLen]; omega)
    have hcsz : (us.toArray ++ Builtin.zeroCells v.cells (grownCap w ys'.length 0 e - ys'.length)).size = grownCap w ys'.length 0 e * s := by
      simp only [Array.size_append, List.size_toArray, size_zero, hvs, husl, hsz, ← Nat.add_mul]
      congr 1; omega
    have hnew : (w.drew.alloc (.cells (us.toArray ++ Builtin.zeroCells v.cells (grownCap w ys'.length 0 e - ys'.length)) e)).heap[w.heap.size]? = some (.cells (us.toArray ++ Builtin.zeroCells v.cells (grownCap w ys'.length 0 e - ys'.length)) e (0, 0)) := World.alloc_heap_new w.drew _
    refine fin (exec_append ho hk hargs hT (by rw [hxv, hyv]; exact hrun)) h2 (R.alloc hn _ _ _ w.drew rfl rfl rfl rfl _ fun e' he1 he2 he3 _ => ?_) ?_
    · refine ⟨hs, by simpa using hys, .inr ⟨w.heap.size, _, e, grownCap w ys'.length 0 e, us, [], he2, by simpa using hge, hcm, by rw [he1]; exact hnew, hcsz, ?_, by simp, rfl⟩⟩
      simpa using VRs_mono _ _ _ _ _ he3 hus
    · simpa using TV_newRow (n := n) (s := s) (len := ys'.length) (by simp [envOf, St.app]) (by simp [envOf]) hge hnew hcsz
  · have hFx : Fx = [] := VRs_noown _ _ _ _ hno hxs
    subst hFx
    have := h5 _ hl1
    simp only [ne_eq, not_true_eq_false, and_false, false_or, Nat.zero_mul, Nat.zero_add] at this
    obtain ⟨hbx, hshape⟩ := this
    subst hbx
    have hshape' := hshape trivial
    have hsh2 : ((envOf c.toCtx st w loc S).w.shape? g).map (·.2) = some cs.size := by
      have : (envOf c.toCtx st w loc S).w.shape? g = some (ty, cs.size) := shape_cells hg
      rw [this]; rfl
    rw [hsh2] at hshape'
    injection hshape' with hcs2
    have hkk : kx = kc := by
      rw [hcs] at hcs2
      exact (Nat.eq_of_mul_eq_mul_right hs hcs2).symm
    subst hkk
    have husx : usx.length = xs.length * i.size := by rw [VRs_len _ _ _ _ hxs, szs_const hss, hsz]
    by_cases hroom : xs.length + ys'.length ≤ kx
    · have hfit : xs.length * i.size + us.length ≤ cs.size := by rw [husl, hcs, hsz, ← Nat.add_mul]; exact Nat.mul_le_mul_right _ hroom
      have h1c := VRs_one _ _ _ _ hus
      have hrun := run_append_in (P := P) (ty := o.type) (n := xs.length) (k := kx) (k' := k') hu hi hg husl hcell2 h1c hroom hfit
      have htk : cs.toList.take (xs.length * i.size) = usx := by rw [← husx]; exact htake
      rw [htk] at hrun
      obtain ⟨rest, hrest⟩ : ∃ rest, rest = cs.toList.drop (xs.length * i.size + us.length) := ⟨_, rfl⟩
      rw [← hrest] at hrun
      have hrl : rest.length = cs.size - (xs.length * i.size + us.length) := by rw [hrest]; simp
      have hnsz : (usx ++ us ++ rest).toArray.size = cs.size := by simp [husx, hrl]; omega
      have R1 := R.rewrite (d := d) (g := g) (b' := .row s (xs ++ ys')) (cs' := (usx ++ us ++ rest).toArray) (F' := [g]) (by rw [hb]; simp) hg (by rw [hF]; simp) hnsz (by rw [hF]; simp) (hF ▸ R.nodup d) (.ref d s 0 (xs.length + ys'.length) false)
        (fun e' he1 he2 he3 => by
          refine ⟨hs, hall, .inr ⟨g, _, ty, kx, usx ++ us, [], by rw [he2]; exact hl1, by simpa using hroom, hkm, by rw [he1]; exact setRow_cells _ hg, by rw [hnsz, hcs], ?_, ?_, rfl⟩⟩
          · have hle := he3 [] (by simp)
            have h1 := VRs_mono _ _ _ _ _ hle hxs
            have h2 := VRs_mono _ _ _ _ _ hle hus
            simpa using VRs_append _ _ _ _ _ _ _ h1 h2
          · rw [List.toList_toArray]
            exact List.take_left' rfl)
      refine fin (exec_append ho hk hargs hT (by rw [hxv, hyv]; exact hrun)) h1 R1 ?_
      rw [TV_good rfl, VV_mk rfl]
      simp only [VR]
      refine ⟨trivial, by simp [envOf, St.app]; exact hid, _, _, rfl, hroom, fun _ => ⟨_, rfl⟩, by simp, fun l hl => ?_⟩
      have hl1' : loc d = some (some g) := hl1
      simp only [envOf] at hl
      rw [hl1'] at hl
      injection hl with hl
      subst hl
      refine .inr ⟨by simp, fun _ => ?_⟩
      have : (w.setRow g (usx ++ us ++ rest).toArray).shape? g = some (ty, (usx ++ us ++ rest).toArray.size) := shape_cells (setRow_cells _ hg)
      simp only [envOf]
      rw [this, hnsz, hcs]; simp
    · have holds : ∀ j u, usx[j]? = some u → w.cell? ((⟨g, 0, none⟩ : Addr).add j) = some u := by
        obtain ⟨rest, hrest⟩ := take_append_drop' htake
        exact cells_at (pre := []) (post := []) hg ⟨rest, by simpa using hrest⟩ rfl
      have hr2' : (xs.length + ys'.length) * i.bytes ≤ 140737488355328 := by rw [hby]; exact hr2
      have hrun := run_append_grow (P := P) w t o.type e i v hu hi hv ⟨g, 0, none⟩ xs.length kx usx husx holds ad ys'.length k' us husl hcell2 (by omega) (by omega) (growslice_fits (by omega) hr2')
      have hge := grownCap_ge w (xs.length + ys'.length) kx e
      have hcm := grownCap_le_maxLen w (xs.length + ys'.length) kx e h63
      generalize hK' : grownCap w (xs.length + ys'.length) kx e = K' at hrun hge hcm
      have hcsz : (usx.toArray ++ us.toArray ++ Builtin.zeroCells v.cells (K' - (xs.length + ys'.length))).size = K' * s := by
        simp only [Array.size_append, List.size_toArray, size_zero, hvs, husl, husx, hsz, ← Nat.add_mul]
        congr 1; omega
      have hnew : (w.drew.alloc (.cells (usx.toArray ++ us.toArray ++ Builtin.zeroCells v.cells (K' - (xs.length + ys'.length))) e)).heap[w.heap.size]? = some (.cells (usx.toArray ++ us.toArray ++ Builtin.zeroCells v.cells (K' - (xs.length + ys'.length))) e (0, 0)) := World.alloc_heap_new w.drew _
      refine fin (exec_append ho hk hargs hT (by rw [hxv, hyv]; exact hrun)) h2 (R.alloc hn _ _ _ w.drew rfl rfl rfl rfl _ fun e' he1 he2 he3 _ => ?_) ?_
      · refine ⟨hs, hall, .inr ⟨w.heap.size, _, e, K', usx ++ us, [], he2, by simpa using hge, hcm, by rw [he1]; exact hnew, hcsz, ?_, by simp only [Array.toList_append]; exact List.take_left' rfl, rfl⟩⟩
        have h1 := VRs_mono _ _ _ _ _ he3 hxs
        have h2 := VRs_mono _ _ _ _ _ he3 hus
        simpa using VRs_append _ _ _ _ _ _ _ h1 h2
      · exact TV_newRow (n := n) (s := s) (len := xs.length + ys'.length) (by simp [envOf, St.app]) (by simp [envOf]) hge hnew hcsz

/-- One operation of a region in place; what follows it has a name. -/
theorem SW.inlK {N : Nat × List Bool} {Q : AExit → St → Prop} (M : FuncId → List Bool) (k : Nat) {id : Nat} {ops : Array Oper} {o : Oper} (ho : (ops.toList.drop k).head? = some o)
    (h : ∀ K2 : St → Prop, (∀ st2, opsF P M N ops (regEnd Q (64 * ops.size)) (ops.toList.drop (k + 1)) (k + 1) [] st2 → K2 st2) → opsF P M N ops (fun _ st1 => InlOp P N ops o K2 st1) (ops.toList.take k) 0 [] st) : SW P N (.region id ops false) Q st :=
  SW.inl M k (by rw [List.head?_drop] at ho; simpa using ho) (h _ fun _ h => h)
theorem inlEnd {N : Nat × List Bool} {ops : Array Oper} {o : Oper} {K2 : St → Prop} {L : List (Nat × FP)} {st1 : St} (h : InlOp P N ops o K2 st1) : (fun (_ : List (Nat × FP)) st1 => InlOp P N ops o K2 st1) L st1 := h
theorem opsF_id {M : FuncId → List Bool} {n : Nat × List Bool} {ops : Array Oper} {K : List (Nat × FP) → St → Prop} {l : List Oper} {i : Nat} {acc : List (Nat × FP)} (h : opsF P M n ops K l i acc st) : opsF P M n ops K l i acc st := h
theorem aval_nilFunc {sl : Nat → Option A} : aval sl (.const .nilFunc) = some (.v .nilFunc) := rfl
theorem aval_nilPtr {sl : Nat → Option A} : aval sl (.const (.pointer none)) = some (.v (.pointer none)) := rfl
theorem aval_nilIface {sl : Nat → Option A} : aval sl (.const .nilIface) = some (.v .nilIface) := rfl
theorem aval_nilMap {sl : Nat → Option A} : aval sl (.const (.map none)) = some (.v (.map none)) := rfl
theorem aval_str {sl : Nat → Option A} {s : ByteArray} : aval sl (.const (.string s)) = some (.v (.string s)) := rfl
attribute [go_sem] List.drop_succ_cons aval_nilFunc aval_nilPtr aval_nilIface aval_nilMap aval_str inlQ rngQ rndQ rndSame parSl List.zip_cons_cons List.zip_nil_left List.foldl_cons List.foldl_nil upd_app
end
end Go.PA
