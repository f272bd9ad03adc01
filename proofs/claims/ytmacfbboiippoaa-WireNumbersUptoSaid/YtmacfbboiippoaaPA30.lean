/- PA30: one operation is sound; runs of operations are. -/
import Derived.Test.YtmacfbboiippoaaPA29
namespace Go.PA
structure Cx extends Ctx where
  kb : List Bool
  gh : Nat → Value

def Cx.N (c : Cx) : Nat × List Bool := (c.n, c.kb)

/-- The state stands for the frame and the world. -/
def Rl (c : Cx) (st : St) (a : Act) (w : World) : Prop := Rel c.toCtx st a w ∧ ∀ t, c.kb.getD t false = true → a.tmps.getD t undef = c.gh t

theorem okDst_lt {n : Nat × List Bool} {o : Oper} (h : okDst n o = true) (d : Nat) (hd : o.dst = some d) : d < n.1 := by
  simp only [okDst, hd, Bool.and_eq_true, decide_eq_true_eq] at h
  exact h.1

theorem kept_put {c : Cx} {a : Act} {o : Oper} {v : Value} (h : okDst c.N o = true) (hk : ∀ t, c.kb.getD t false = true → a.tmps.getD t undef = c.gh t) :
    ∀ t, c.kb.getD t false = true → (a.put o.dst v).tmps.getD t undef = c.gh t := by
  intro t ht
  cases hd : o.dst with
  | none => exact hk t ht
  | some d =>
    simp only [okDst, hd, Bool.and_eq_true, Bool.not_eq_true', Cx.N] at h
    simp only [Act.put, getD_setIfInBounds]
    rw [if_neg (fun e => ?_)]
    · exact hk t ht
    · rw [← e.1, ht] at h
      cases h.2

section
variable {P : Program} {M : FuncId → List Bool} {ops : Array Oper} {c : Cx} {st : St} {a : Act} {w : World} {Q : Exit → Act → World → Prop}

theorem VVs_length : ∀ {xs : List A} {e : Env} {vs : List Value} {F : List Nat}, VVs xs e vs F → vs.length = xs.length
  | [], e, vs, F, h => by
    simp only [VVs] at h
    simp [h.1]
  | x :: xs, e, vs, F, h => by
    simp only [VVs] at h
    obtain ⟨y, vs', F1, F2, rfl, rfl, h1, h2⟩ := h
    simp [VVs_length h2]

theorem TV_all {e : Env} {f : Operand → Value} : ∀ {l : List Operand} {xs : List A}, All2 (fun x z => TV z e (f x)) l xs → xs.all A.good = true → VVs xs e (l.map f) [] := VVs_of_All2

theorem VVs_closure {e : Env} {f : Fn} {first caps : List A} {y : Value} (h : TV (.clo f first caps) e y) :
    ∃ fvs cvs, y = .func f fvs.toArray cvs.toArray ∧ VVs first e fvs [] ∧ VVs caps e cvs [] := by
  rw [TV_good rfl, VV_mk rfl] at h
  simp only [VR] at h
  obtain ⟨fvs, cvs, Ff, Fc, hv, hF, h1, h2⟩ := h
  simp at hv hF
  obtain ⟨rfl, rfl⟩ := hF
  exact ⟨fvs, cvs, hv, h1, h2⟩

theorem Stp.sound {i : Nat} {o : Oper} {z : A} {up : List (Nat × Option Blk)} {nw rs : List Nat} (ho : ops[i]? = some o) (hd : okDst c.N o = true)
    (s : Stp P M c.N ops i o st z up nw rs) (R : Rl c st a w) {K : Act → World → Prop} (hK : ∀ a' w', Rl c (st.go o.dst z up nw) a' w' → K a' w') : wpOp P ops Q i K a w := by
  obtain ⟨⟨loc, S, Fm, R⟩, hkp⟩ := R
  unfold wpOp
  rw [ho]
  dsimp only
  cases s with
  | skip hw =>
    rw [wantedA_ok R hw]
    simp only [Bool.false_eq_true, if_false]
    refine hK _ _ ⟨⟨loc, S, Fm, ?_⟩, kept_put hd hkp⟩
    unfold St.go
    rw [St.app_nil]
    exact R.put _ _ _ (okDst_lt hd) (fun z hz => by injection hz with hz; subst hz; rfl)
  | plain hw hx hn r =>
    rename_i xs eff
    rw [wantedA_ok R hw]
    simp only [if_true]
    refine .inl ?_
    obtain ⟨nx, y, w', loc', S', Fm', hrun, hnx, R', ht⟩ := aeff_sound R (mapM_aval (fun x z hz => R.eval x z hz) _ _ hx) hn r
    unfold Oper.wp
    rw [hrun]
    rcases hnx with rfl | ⟨rfl, rfl⟩
    · exact hK _ _ ⟨⟨loc', S', Fm', R'.put _ _ _ (okDst_lt hd) (fun z hz => by injection hz with hz; subst hz; exact ht)⟩, kept_put hd hkp⟩
    · exact hK _ _ ⟨⟨loc', S', Fm', R'.put _ _ _ (okDst_lt hd) (fun z hz => by injection hz with hz; subst hz; exact ht)⟩, kept_put hd hkp⟩
  | call hw hop hc hx ha hgd hg hlen r hf he hfr =>
    rename_i cl x0 f first caps args q res back ys
    rw [wantedA_ok R hw]
    simp only [if_true]
    refine .inl ?_
    obtain ⟨fvs, cvs, hy, h1, h2⟩ := VVs_closure (R.eval _ _ hx)
    have hargs := mapM_aval (fun x z hz => R.eval x z hz) _ _ ha
    have hav := TV_all hargs hgd
    have hvs := VVs_append (VVs_append h1 hav) h2
    simp only [List.append_nil] at hvs
    have hvs' := hvs
    rw [← zip_snd hlen] at hvs'
    obtain ⟨F, hq, T⟩ := handOver_sound R hvs' r
    have hown : ∀ g ∈ F, ¬ S g ∧ ¬ lentB c.toCtx Fm ((M f).zip (first ++ args ++ caps)) q.2 g ∧ g < w.heap.size := fun g hg => by
      rcases T.sub g hg with h | ⟨d, hd1, _, hd2⟩
      · simp at h
      · obtain ⟨o1, o2, o3, _⟩ := R.own d g hd2
        refine ⟨o1, fun hl => ?_, o3⟩
        unfold lentB at hl
        split at hl
        · rcases hl with hl | ⟨d', h3, h4⟩
          · exact o2 hl
          · exact R.disj d d' (fun e => h3 (e ▸ hd1)) g hd2 h4
        · exact o2 hl
    have hbd : ∀ g, S g ∨ lentB c.toCtx Fm ((M f).zip (first ++ args ++ caps)) q.2 g → g < w.heap.size := fun g hg => by
      rcases hg with hg | hg
      · exact R.fram.bd g (.inl hg)
      · unfold lentB at hg
        split at hg
        · rcases hg with hg | ⟨d, _, hd⟩
          · exact R.fram.bd g (.inr hg)
          · exact (R.own d g hd).2.2.1
        · exact R.fram.bd g (.inr hg)
    have hcall := hf w S _ _ F hq T.nodup hown hbd
    have hexec : (execOp a.eval o).run P w = .ok (.enter f (fvs ++ cl.args.toList.map a.eval ++ cvs).toArray) w := by
      have : execOp a.eval o = callFunc f (fvs.toArray ++ cl.args.map a.eval ++ cvs.toArray) := by
        simp only [execOp, hop, resolve, hc, hy, Deferred.ofValue, invoke]
        rfl
      rw [this, run_callFunc hg]
      congr 2
      simp
    unfold Oper.wp
    rw [hexec, Oper.upon_enter]
    refine Calls.mono hcall fun e w' ⟨S', F', hfr', hnd, hF', hm⟩ => ?_
    cases e with
    | returned v =>
      obtain ⟨Fr, Fb, hFF, hres, hback⟩ := hm
      obtain ⟨rvs, hrv, hback2⟩ := resRel_vals hres
      obtain ⟨loc', Fm', R', hV⟩ := call_after (z := resA ys) R hvs' T hfr' hnd hF' hFF hrv hback he hfr
      refine hK _ _ ⟨⟨loc', S', Fm', R'.put _ _ _ (okDst_lt hd) (fun z hz => ?_)⟩, kept_put hd hkp⟩
      injection hz with hz
      subst hz
      exact resRel_TV (hback2 (by rw [← VVs_length hV, VVs_length hrv]) hV)
    | panicked ch => exact hm.elim
    | outgrown => exact hm.elim

theorem Run.sound {l : List (Nat × FP)} {st st' : St} (r : Run P M c.N ops l st st') : ∀ {a : Act} {w : World}, Rl c st a w → (∀ a' w', Rl c st' a' w' → Q .normal a' w') → wpOps P ops Q (l.map (·.1)) a w := by
  induction r with
  | nil st => exact fun R hQ => hQ _ _ R
  | cons ho hd s r ih =>
    intro a w R hQ
    rw [List.map_cons, wpOps_cons]
    exact s.sound ho hd R fun a' w' R' => ih R' hQ

end
end Go.PA
