/- More operations in place. -/
import Derived.Test.YtmacfbboiippoaaPAg
/- PA113: a function's value beside nil. -/
namespace Go.PA
open Classical
section
variable {P : Program} {st : St}

def tFunc (P : Program) (t : TypeId) : Bool := match P.underlying t with
  | some (.func _ _ _) => true
  | _ => false

theorem run_equal_funcNil {t : TypeId} {f : Fn} {a b : Array Value} (ht : tFunc P t = true) (w : World) : (Op.equal t (.func f a b) .nilFunc).run P w = .ok false w := by
  have h : ∀ d, (Op.equalIn (d + 1) t (.func f a b) .nilFunc).run P w = .ok false w := by
    intro d
    unfold tFunc at ht
    split at ht
    · rename_i hu
      simp only [Op.equalIn, Sem.run_bind, run_underlying hu, Result.andThen_ok, Sem.run_pure]
    · cases ht
  exact h 9999

theorem InlOp.funcNil {N : Nat × List Bool} {ops : Array Oper} {o : Oper} {K2 : St → Prop} {t t' : TypeId} {x y : Operand} {f : FuncId} {first caps : List A}
    (hd : okDst N o = true) (hw : wantedA ops st o = some true) (ho : o.op = .binOp .eql t x y t') (hx : aval st.sl x = some (.clo (.func f) first caps)) (hy : aval st.sl y = some (.v .nilFunc)) (ht : tFunc P t = true)
    (h : K2 (st.go o.dst (.v (.bool false)) [] [])) : InlOp P N ops o K2 st := by
  intro c a w Q K i hcN ⟨⟨loc, S, Fm, R⟩, hkp⟩ hoi hK
  subst hcN
  unfold wpOpIn
  rw [hoi]
  dsimp only
  rw [wantedA_ok R hw]
  simp only [if_true]
  have hnd : ∀ k, o.op ≠ .defer k := fun k e => by rw [ho] at e; cases e
  refine ⟨fun _ _ => trivial, ?_⟩
  rw [Oper.semAt_eq _ _ _ hnd]
  have hxv := R.eval _ _ hx
  have hyv := R.eval _ _ hy
  rw [TV_v] at hyv
  obtain ⟨fvs, cvs, hev, _, _⟩ := VVs_closure hxv
  have hrun : (execOp a.eval o).run P w = .ok (.value (.bool false)) w := by
    refine exec_binOp ho hev hyv.2 rfl ?_
    simp only [binOp, Sem.run_bind, run_equal_funcNil ht, Result.andThen_ok, Sem.run_pure]
  rw [hrun, Oper.uponIn_value]
  refine hK _ _ _ h ⟨⟨loc, S, Fm, ?_⟩, kept_put hd hkp⟩
  unfold St.go
  rw [St.app_nil]
  exact R.put _ _ _ (okDst_lt hd) (fun z hz => by injection hz with hz; subst hz; exact TV_v.2 ⟨rfl, rfl⟩)
/-- A yield from a call within the iterator. -/
theorem InlOp.yieldM {N : Nat × List Bool} {ops : Array Oper} {o : Oper} {K2 : St → Prop} {cl : Call} {tx d : Nat} {args : List A} {ps : Array Tmp} {assign body : Code} {n : Nat} {tm : Array Value} {ri : RecI} {slL : Nat → Option A}
    (hd : okDst N o = true) (hw : wantedA ops st o = some true) (hop : o.op = .call cl) (hc : cl.callee = .value (.tmp tx)) (hx : st.sl tx = some (.yref d)) (ha : cl.args.toList.mapM (aval st.sl) = some args)
    (hgd : args.all A.good = true) (hb : st.bk d = some (.yld (recR ri .ready none))) (hgs : (tm, slL) ∈ st.gs) (hri : ri = ⟨ps, assign, body, n, tm⟩) (hps : ps.size = args.length) (hpn : ∀ p ∈ ps.toList, p < n)
    (h : ∀ tmI, SW P (n, roundKb) assign (AExit.then (fun st1 => rndSame tmI tx d st1 ∧ st1.bk d = some (.yld (recR ri .ready none)) ∧
      SW P (n, roundKb) body (rndQ ri tmI tx d o.dst K2) { st1 with bk := upd st1.bk d (some (.yld (recR ri .busy none))) }) (fun _ _ => False))
      { st with sl := parSl ps.toList args slL, gs := (tmI, st.sl) :: st.gs }) : InlOp P N ops o K2 st := by
  intro c a w Q K i hcN ⟨⟨loc, S, Fm, R⟩, hkp⟩ ho hK
  subst hcN
  unfold wpOpIn
  rw [ho]
  dsimp only
  rw [wantedA_ok R hw]
  simp only [if_true]
  have hnd : ∀ k, o.op ≠ .defer k := fun k e => by rw [hop] at e; cases e
  refine ⟨fun _ _ => trivial, ?_⟩
  rw [Oper.semAt_eq _ _ _ hnd]
  have e1 : ri.ps = ps := by rw [hri]
  have e2 : ri.assign = assign := by rw [hri]
  have e3 : ri.body = body := by rw [hri]
  have e4 : ri.n = n := by rw [hri]
  have e5 : ri.tm = tm := by rw [hri]
  obtain ⟨l, fnR, D, hl, hFd, hn, hrec⟩ := R.recOf hb
  rw [e4, e5] at hn
  have hy : a.eval (.tmp tx) = .func (.yield l) #[] #[] := by
    have := R.slots _ _ hx
    rw [TV_good rfl, VV_mk rfl] at this
    simp only [VR] at this
    obtain ⟨_, _, g, hg, h2⟩ := this
    have := h2 _ hl
    injection this with this
    subst this
    exact (List.cons.inj hg).1
  have hargs := mapM_aval (fun x z hz => R.eval x z hz) _ _ ha
  have hav := TV_all hargs hgd
  have hvl := VVs_length hav
  have hyield := run_yield (P := P) (args := cl.args.map a.eval) hrec (by
    have : (ri.loop .ready none fnR D).params = ps := e1
    rw [this]
    simp at hvl ⊢; omega)
  have hexec : (execOp a.eval o).run P w = .ok (.round l fnR ((ps.zip (cl.args.map a.eval)).foldl (fun tmps (t, a) => tmps.setIfInBounds t a) tm) assign body) w := by
    have : execOp a.eval o = Instr.yield l (cl.args.map a.eval) := by
      simp only [execOp, hop, resolve, hc, hy, Deferred.ofValue, invoke]
      simp
    rw [this, hyield]
    simp only [RecI.loop, e1, e2, e3, e5]
  rw [hexec, Oper.uponIn_round]
  refine ⟨fc_enter, ?_⟩
  have htm : (ps.zip (cl.args.map a.eval)).foldl (fun tmps (t, a) => tmps.setIfInBounds t a) tm = (ps.toList.zip (cl.args.toList.map a.eval)).foldl (fun (tm : Array Value) q => tm.setIfInBounds q.1 q.2) tm := by
    rw [← Array.foldl_toList]
    simp [Array.toList_zip]
  rw [htm]
  let a2 : Act := { tmps := (ps.toList.zip (cl.args.toList.map a.eval)).foldl (fun (tm : Array Value) q => tm.setIfInBounds q.1 q.2) tm, defers := [] }
  have R2 := R.sub (c := c) (a2 := a2) (sl2 := parSl ps.toList args slL) (n2 := n) (some l) (by simp [a2, foldl_size, hn]) rfl
    (parSl_ok hav (fun p hp => by rw [hn]; exact hpn p hp) (by simp [hps]) (fun t x hx => R.ghosts (tm, slL) hgs t x hx))
  have hwp := h a.tmps (c.sub w S Fm n (some l)) a2 w rfl ⟨⟨loc, S, Fm, R2⟩, fun t ht => absurd ht (by show ¬ roundKb.getD t false = true; rw [roundKb_getD]; simp)⟩
  have same : ∀ {st3 : St} {a3 : Act} {w3 : World} {loc3 : Nat → Option (Option Nat)} {S3 : Nat → Prop} {Fm3 : Nat → List Nat} {sl' : Nat → Option A} {gs' : List (Array Value × (Nat → Option A))} {l3 : Nat}, RelW (c.sub w S Fm n (some l)).toCtx st3 a3 w3 loc3 S3 Fm3 →
      st3.gs = (a.tmps, sl') :: gs' → sl' tx = some (.yref d) → loc3 d = some (some l3) → l3 = l := by
    intro st3 a3 w3 loc3 S3 Fm3 sl' gs' l3 R3 hg hs hl3
    have := R3.ghosts (a.tmps, sl') (by rw [hg]; simp) tx _ hs
    rw [TV_good rfl, VV_mk rfl] at this
    simp only [VR] at this
    obtain ⟨_, _, g, hg', h2⟩ := this
    have h3 := h2 _ hl3
    injection h3 with h3
    subst h3
    have hy' : a.tmps.getD tx undef = .func (.yield l) #[] #[] := hy
    rw [hy'] at hg'
    simp only [List.cons.injEq, Value.func.injEq, Fn.yield.injEq, and_true] at hg'
    exact hg'.symm
  refine RoundIn.mono (R := fun e w' => ∃ v, e = .returned v ∧ K (a.put o.dst v) w') (roundIn_of_wpIn (F := fc c.ro) trivial (wpIn_mono hwp fun e a3 w3 hq => ?_)) ?_
  · cases e with
    | normal =>
      obtain ⟨st3, ⟨hsm, hb3, hSW⟩, ⟨⟨loc3, S3, Fm3, R3⟩, hk3⟩⟩ := hq
      obtain ⟨l3, fn3, D3, hl3, hF3, hn3, hrec3⟩ := R3.recOf hb3
      have hll : l3 = l := by
        unfold rndSame at hsm
        split at hsm
        · rename_i tm' sl' gs' hg
          obtain ⟨rfl, hs⟩ := hsm
          exact same R3 hg hs hl3
        · exact hsm.elim
      subst hll
      refine ⟨_, run_beginRound hrec3 rfl, ?_⟩
      have R4 := R3.setRec (stt' := .busy) (pend' := none) hl3 hF3 hn3 (by rw [hb3]; simp) hrec3
      have hwp2 := hSW (c.sub w S Fm n (some l3)) a3 _ rfl ⟨⟨loc3, S3, Fm3, R4⟩, hk3⟩
      refine wpIn_mono hwp2 fun e a5 w5 hq5 => ?_
      have fin : ∀ (e : AExit) st5, rndQ ri a.tmps tx d o.dst K2 e st5 → Rl (c.sub w S Fm n (some l3)) st5 a5 w5 →
          ∃ v w', (Instr.endRound l3 (rndPend e)).run P w5 = .ok v w' ∧ ∃ v', Ending.returned v = .returned v' ∧ K (a.put o.dst v') w' := by
        intro e st5 hx ⟨⟨loc5, S5, Fm5, R5⟩, _⟩
        unfold rndQ at hx
        split at hx
        · rename_i tm' sl' gs' hg
          obtain ⟨rfl, hs, hb5, hk2⟩ := hx
          obtain ⟨l5, fn5, D5, hl5, hF5, hn5, hrec5⟩ := R5.recOf hb5
          obtain rfl := same R5 hg hs hl5
          refine ⟨_, _, run_endRound (rndPend e) hrec5, _, rfl, ?_⟩
          have R6 := R5.setRec (stt' := if (rndPend e).isNone then .ready else .done) (pend' := rndPend e) hl5 hF5 hn5 (by rw [hb5]; simp) hrec5
          have R7 := R.back R6 hg
          refine hK _ _ _ hk2 ⟨⟨loc5, S5, Fm5, R7.put _ _ _ (okDst_lt hd) (fun z hz => ?_)⟩, kept_put hd hkp⟩
          injection hz with hz
          subst hz
          exact TV_v.2 ⟨rfl, rfl⟩
        · exact hx.elim
      cases e with
      | normal => obtain ⟨st5, hx, R5⟩ := hq5; exact fin .normal st5 hx R5
      | ret => obtain ⟨st5, hx, R5⟩ := hq5; exact fin .ret st5 hx R5
      | exit id => obtain ⟨st5, hx, R5⟩ := hq5; exact fin (.exit id) st5 hx R5
      | goto l => exact hq5.elim
      | panic ch => exact hq5.elim
      | outgrown => exact hq5.elim
    | ret => obtain ⟨st3, hx, _⟩ := hq; exact hx.elim
    | exit id => obtain ⟨st3, hx, _⟩ := hq; exact hx.elim
    | goto l => exact hq.elim
    | panic ch => exact hq.elim
    | outgrown => exact hq.elim
  · rintro e w' ⟨v, rfl, hk⟩
    exact hk

end
end Go.PA

/- PA114: what is lent or given, by cases. -/
namespace Go.PA

section
variable {n : Nat} {rm : List Nat}
theorem roA_v {x : Value} : roA rm (n + 1) (.v x) = .ret (.v x) := rfl
theorem roA_sl {p : Bool} {xs : List A} : roA rm (n + 1) (.sl p xs) = .ret (.sl p xs) := rfl
theorem roA_rp {p : Bool} {a : A} : roA rm (n + 1) (.rp p a) = .ret (.rp p a) := rfl
theorem roA_arr {t : Nat} {xs : List A} : roA rm (n + 1) (.arr t xs) = if noowns xs then .ret (.arr t xs) else .fail := rfl
def roDeep (rm : List Nat) (n s off len : Nat) (xs : List A) : RM A := (rosW (roA rm n) xs).bind fun ys => .req (off + len ≤ xs.length ∧ noowns xs = true ∧ closeds ys = true ∧ ∀ y ∈ ys, y.sz = s) (.ret (.sl false ((ys.drop off).take len)))
def roRow (rm : List Nat) (n s off len : Nat) (xs : List A) : Bool → RM A
  | true => if lndOks xs = true then .req (off + len ≤ xs.length) (.ret (.sl false (((lnds xs).drop off).take len))) else .fail
  | false => roDeep rm n s off len xs
def roRef (rm : List Nat) (n s off len : Nat) : Blk → RM A
  | .row s' xs => if s = s' then roRow rm n s off len xs (closeds xs) else .fail
  | .froz s' xs => if s = s' then .req (off + len ≤ xs.length) (.ret (.sl true ((xs.drop off).take len))) else .fail
  | _ => .fail
theorem roRef_row {s off len s' : Nat} {xs : List A} : roRef rm n s off len (.row s' xs) = if s = s' then roRow rm n s off len xs (closeds xs) else .fail := rfl
theorem roRef_froz {s off len s' : Nat} {xs : List A} : roRef rm n s off len (.froz s' xs) = if s = s' then .req (off + len ≤ xs.length) (.ret (.sl true ((xs.drop off).take len))) else .fail := rfl
theorem roRow_true {s off len : Nat} {xs : List A} : roRow rm n s off len xs true = if lndOks xs = true then .req (off + len ≤ xs.length) (.ret (.sl false (((lnds xs).drop off).take len))) else .fail := rfl
theorem roRow_false {s off len : Nat} {xs : List A} : roRow rm n s off len xs false = (rosW (roA rm n) xs).bind fun ys => .req (off + len ≤ xs.length ∧ noowns xs = true ∧ closeds ys = true ∧ ∀ y ∈ ys, y.sz = s) (.ret (.sl false ((ys.drop off).take len))) := rfl
theorem roA_ref {d s off len : Nat} {full : Bool} : roA rm (n + 1) (.ref d s off len full) = if rm.contains d then .fail else .rd d (roRef rm n s off len) := by
  simp only [roA]
  congr 2
  funext b
  cases b <;> try rfl
  simp only [roRef]
  split
  · rename_i s' xs h
    cases hc : closeds xs <;> simp [roRow, roDeep]
  · rfl
def roArr (s off len : Nat) : A → RM A
  | .arr _ xs => .req (off + len ≤ xs.length ∧ noowns xs = true ∧ ∀ x ∈ xs, x.sz = s) (.ret (.sl false ((xs.drop off).take len)))
  | _ => .fail
def roAref (p : List PS) (s off len : Nat) : Blk → RM A
  | .var a => (getP a p).bind (roArr s off len)
  | _ => .fail
theorem roArr_arr {s off len t : Nat} {xs : List A} : roArr s off len (.arr t xs) = .req (off + len ≤ xs.length ∧ noowns xs = true ∧ ∀ x ∈ xs, x.sz = s) (.ret (.sl false ((xs.drop off).take len))) := rfl
theorem roAref_var {p : List PS} {s off len : Nat} {a : A} : roAref p s off len (.var a) = (getP a p).bind (roArr s off len) := rfl
theorem roA_aref {d : Nat} {p : List PS} {s off len : Nat} : roA rm (n + 1) (.aref d p s off len) = if rm.contains d then .fail else .rd d (roAref p s off len) := by
  simp only [roA]
  congr 2
def roPtr (p : List PS) : Blk → RM A
  | .var a => (getP a p).bind fun x => if x.noown && x.closed then .ret (.rp false x) else .fail
  | .row s xs => (getR xs s p).bind fun x => if x.noown && x.closed then .ret (.rp false x) else .fail
  | .froz s xs => (getR xs s p).bind fun x => .ret (.rp true x)
  | _ => .fail
theorem roPtr_var {p : List PS} {a : A} : roPtr p (.var a) = (getP a p).bind fun x => if x.noown && x.closed then .ret (.rp false x) else .fail := rfl
theorem roPtr_row {p : List PS} {s : Nat} {xs : List A} : roPtr p (.row s xs) = (getR xs s p).bind fun x => if x.noown && x.closed then .ret (.rp false x) else .fail := rfl
theorem roPtr_froz {p : List PS} {s : Nat} {xs : List A} : roPtr p (.froz s xs) = (getR xs s p).bind fun x => .ret (.rp true x) := rfl
theorem roA_ptr {d : Nat} {p : List PS} : roA rm (n + 1) (.ptr d p) = if rm.contains d then .fail else .rd d (roPtr p) := by
  simp only [roA]
  congr 2
theorem roA_agg {xs : List A} : roA rm (n + 1) (.agg xs) = (rosW (roA rm n) xs).bind fun ys => .ret (.agg ys) := rfl
theorem roA_clo {f : Fn} {a c : List A} : roA rm (n + 1) (.clo f a c) = (rosW (roA rm n) a).bind fun a' => (rosW (roA rm n) c).bind fun c' => .ret (.clo f a' c') := rfl
theorem roA_ifc {t : TypeId} {a : A} : roA rm (n + 1) (.ifc t a) = (roA rm n a).bind fun a' => .ret (.ifc t a') := rfl
theorem inBlock_exit {id id' : Nat} {Q : AExit → St → Prop} {st : St} : AExit.inBlock id Q (.exit id') st = if id' = id then Q .normal st else Q (.exit id') st := by
  by_cases h : id' = id
  · subst h; rw [inBlock_same, if_pos rfl]
  · rw [inBlock_other h, if_neg h]
attribute [go_sem] inBlock_exit
attribute [go_sem] roA_v roA_sl roA_rp roA_arr roRef_row roRef_froz roRow_true roRow_false roA_ref roArr_arr roAref_var roA_aref roPtr_var roPtr_row roPtr_froz roA_ptr roA_agg roA_clo roA_ifc
end
end Go.PA
