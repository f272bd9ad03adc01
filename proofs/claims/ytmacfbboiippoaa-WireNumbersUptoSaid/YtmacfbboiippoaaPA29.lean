/- PA29: runs of operations. -/
import Derived.Test.YtmacfbboiippoaaPA28
namespace Go.PA

/-- What an operation looked at and wrote: blocks read, blocks written, new names. -/
structure FP where
  rs : List Nat
  ws : List Nat
  nw : List Nat

def goFn (P : Program) (f : FuncId) : Bool :=
  match P.funcs[f]? with
  | some fn => !(fn.name == "runtime.NumGoroutine") && fn.body.isSome
  | none => false

def wantedA (ops : Array Oper) (st : St) (o : Oper) : Option Bool :=
  match o.guard with
  | none => some true
  | some (j, want) => match (ops[j]?).bind (·.dst) with
    | some t => match st.sl t with
      | some (.v (.bool b)) => some (b == want)
      | some .und => some false
      | _ => none
    | none => none

def resA : List A → A
  | [z] => z
  | zs => .tup zs

def St.go (st : St) (dst : Option Nat) (z : A) (up : List (Nat × Option Blk)) (nw : List Nat) : St := (st.app ⟨z, up, nw⟩).put dst (some z)

/-- The slot written is the frame's, and none of those that are kept. -/
def okDst (n : Nat × List Bool) (o : Oper) : Bool :=
  match o.dst with
  | some d => decide (d < n.1) && !n.2.getD d false
  | none => true

/-- One operation. -/
inductive Stp (P : Program) (M : FuncId → List Bool) (n : Nat × List Bool) (ops : Array Oper) (i : Nat) (o : Oper) (st : St) : A → List (Nat × Option Blk) → List Nat → List Nat → Prop
  | skip (hw : wantedA ops st o = some false) : Stp P M n ops i o st .und [] [] []
  | plain (hw : wantedA ops st o = some true) {xs : List A} (hx : o.op.operands.toList.mapM (aval st.sl) = some xs) (hn : allocs o.op = true → st.ids (st.ep + 64 * i) = false)
      {eff : Eff} {rd : List Nat} (r : RM.Runs st.bk (aeff P (st.ep + 64 * i) o xs) eff rd) : Stp P M n ops i o st eff.val eff.up eff.new rd
  | call (hw : wantedA ops st o = some true) {cl : Call} {x0 : Operand} (ho : o.op = .call cl) (hc : cl.callee = .value x0) {f : FuncId} {first caps args : List A}
      (hx : aval st.sl x0 = some (.clo (.func f) first caps)) (ha : cl.args.toList.mapM (aval st.sl) = some args) (hgd : args.all A.good = true) (hg : goFn P f = true) (hlen : (M f).length = (first ++ args ++ caps).length)
      {q : List A × List Nat} {rd : List Nat} (r : RM.Runs st.bk (handOver 64 ((M f).zip (first ++ args ++ caps))) q rd) {res : List A} {back : List (Option A)} (hf : FS P f q.1 (.ret res back))
      {ys : List A} {up : List (Nat × Option Blk)} {nw : List Nat} (he : aCallEff (st.ep + 64 * i) ((M f).zip (first ++ args ++ caps)) q.2 res back = some (ys, up, nw)) (hfr : ∀ d ∈ nw, st.ids d = false) : Stp P M n ops i o st (resA ys) up nw rd

inductive Run (P : Program) (M : FuncId → List Bool) (n : Nat × List Bool) (ops : Array Oper) : List (Nat × FP) → St → St → Prop
  | nil (st : St) : Run P M n ops [] st st
  | cons {i : Nat} {o : Oper} {st st' : St} {z : A} {up : List (Nat × Option Blk)} {nw rs : List Nat} {l : List (Nat × FP)} (ho : ops[i]? = some o) (hd : okDst n o = true)
      (s : Stp P M n ops i o st z up nw rs) (r : Run P M n ops l (st.go o.dst z up nw) st') : Run P M n ops ((i, ⟨rs, up.map (·.1), nw⟩) :: l) st st'

section
variable {P : Program} {M : FuncId → List Bool} {ops : Array Oper} {c : Ctx} {st : St} {a : Act} {w : World}

theorem wantedA_ok {loc : Nat → Option (Option Nat)} {S : Nat → Prop} {Fm : Nat → List Nat} (R : RelW c st a w loc S Fm) {o : Oper} {b : Bool} (h : wantedA ops st o = some b) : Region.wanted o (yielded ops a.tmps) = b := by
  unfold wantedA at h
  unfold Region.wanted
  split at h
  · rename_i hg
    injection h with h
    rw [hg, ← h]
  · rename_i j want hg
    rw [hg]
    dsimp only
    split at h
    · rename_i t ht
      unfold yielded
      rw [ht]
      simp only [Option.bind_some]
      split at h
      · rename_i b' hs
        injection h with h
        have := R.slots t _ hs
        rw [TV_v] at this
        have h2 := this.2
        rw [Array.getD_eq_getD_getElem?] at h2
        cases hq : a.tmps[t]? with
        | none => rw [hq] at h2; simp [undef] at h2
        | some v =>
          rw [hq] at h2
          simp only [Option.getD_some] at h2
          subst h2 h
          cases b' <;> cases want <;> rfl
      · rename_i hs
        injection h with h
        have h2 : a.tmps.getD t undef = undef := R.slots t _ hs
        rw [Array.getD_eq_getD_getElem?] at h2
        cases hq : a.tmps[t]? with
        | none => subst h; rfl
        | some v =>
          rw [hq] at h2
          simp only [Option.getD_some] at h2
          subst h2 h
          rfl
      · cases h
    · cases h

theorem run_callFunc {f : FuncId} {args : Array Value} (h : goFn P f = true) : (callFunc f args).run P w = .ok (.enter f args) w := by
  unfold goFn at h
  split at h
  · rename_i fn hf
    simp only [Bool.and_eq_true, Bool.not_eq_true', beq_eq_false_iff_ne] at h
    have h2 : fn.body ≠ none := by
      intro hb
      rw [hb] at h
      simp at h
    simp [callFunc, hf, h.1, h2]
  · cases h

theorem VVs_append : ∀ {xs ys : List A} {e : Env} {vs us : List Value} {F G : List Nat}, VVs xs e vs F → VVs ys e us G → VVs (xs ++ ys) e (vs ++ us) (F ++ G)
  | [], ys, e, vs, us, F, G, h, h' => by
    simp only [VVs] at h
    obtain ⟨rfl, rfl⟩ := h
    simpa using h'
  | x :: xs, ys, e, vs, us, F, G, h, h' => by
    simp only [VVs] at h
    obtain ⟨y, vs', F1, F2, rfl, rfl, h1, h2⟩ := h
    simp only [List.cons_append, VVs]
    exact ⟨y, vs' ++ us, F1, F2 ++ G, rfl, by simp, h1, VVs_append h2 h'⟩

theorem zip_snd {ms : List Bool} {xs : List A} (h : ms.length = xs.length) : (ms.zip xs).map (·.2) = xs := by
  induction ms generalizing xs with
  | nil => cases xs with
    | nil => rfl
    | cons => simp at h
  | cons m ms ih => cases xs with
    | nil => simp at h
    | cons x xs => simp at h; simp [ih h]

theorem resRel_TV {e : Env} {ys : List A} {v : Value} (h : resRel e ys v []) : TV (resA ys) e v := by
  match ys, h with
  | [z], h => exact (TV_good (VV_isAgg h)).2 h
  | [], ⟨vs, hv, h2⟩ => exact ⟨vs, hv, h2⟩
  | z :: z' :: zs, ⟨vs, hv, h2⟩ => exact ⟨vs, hv, h2⟩

/-- The results as values one by one. -/
theorem resRel_vals {e : Env} {ys : List A} {v : Value} {F : List Nat} (h : resRel e ys v F) : ∃ vs, VVs ys e vs F ∧ ∀ {e' : Env} {zs : List A}, zs.length = ys.length → VVs zs e' vs [] → resRel e' zs v [] := by
  unfold resRel at h
  split at h
  · rename_i r
    refine ⟨[v], ?_, fun {e' zs} hl hz => ?_⟩
    · simp only [VVs]
      exact ⟨v, [], F, [], rfl, by simp, h, rfl, rfl⟩
    · match zs, hl with
      | [z], _ =>
        simp only [VVs] at hz
        obtain ⟨y, vs', F1, F2, hv, hF, h1, h2, h3⟩ := hz
        simp at hF hv
        obtain ⟨rfl, rfl⟩ := hF
        obtain ⟨rfl, rfl⟩ := hv
        exact h1
  · rename_i hne
    obtain ⟨vs, rfl, h2⟩ := h
    refine ⟨vs, h2, fun {e' zs} hl hz => ?_⟩
    unfold resRel
    split
    · rename_i r
      match ys, hl with
      | [y], _ => exact (hne y rfl).elim
    · exact ⟨vs, rfl, hz⟩

end
end Go.PA
