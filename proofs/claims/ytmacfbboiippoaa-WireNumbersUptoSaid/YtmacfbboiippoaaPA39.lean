/- PA39: the walk. -/
import Derived.Test.YtmacfbboiippoaaPA38
namespace Go.PA

/-- Whatever the state stands for, the code shows 'Q'. -/
def SW (P : Program) (N : Nat × List Bool) (code : Code) (Q : AExit → St → Prop) (st : St) : Prop :=
  ∀ (c : Cx) (a : Act) (w : World), c.N = N → Rl c st a w → code.wp P (liftQ c Q) a w

section
variable {P : Program} {N : Nat × List Bool} {Q Q' : AExit → St → Prop} {st st' : St}

theorem SW.awp {code : Code} (M : FuncId → List Bool) (h : awp P M N code Q st) : SW P N code Q st := by
  intro c a w hc R
  subst hc
  exact awp_sound code h R

theorem liftQ_mono {c : Cx} (h : ∀ e st, Q e st → Q' e st) {e : Exit} {a : Act} {w : World} (hq : liftQ c Q e a w) : liftQ c Q' e a w := by
  cases e with
  | normal => exact hq.imp fun _ h' => ⟨h _ _ h'.1, h'.2⟩
  | exit id => exact hq.imp fun _ h' => ⟨h _ _ h'.1, h'.2⟩
  | ret => exact hq.imp fun _ h' => ⟨h _ _ h'.1, h'.2⟩
  | goto l => exact hq
  | panic ch => exact hq
  | outgrown => exact hq

theorem SW.mono {code : Code} (h : SW P N code Q st) (hq : ∀ e st, Q e st → Q' e st) : SW P N code Q' st :=
  fun c a w hc R => wp_mono (h c a w hc R) fun _ _ _ hq' => liftQ_mono hq hq'

theorem SW.weak {code : Code} (hw : Weak st st') (h : SW P N code Q st') : SW P N code Q st := fun c a w hc R => h c a w hc (R.weak hw)

theorem SW.region {id : Nat} {ops : Array Oper} {draw : Bool} (M : FuncId → List Bool) (h : regWp P M N ops draw (Q .normal) st) : SW P N (.region id ops draw) Q st := SW.awp M h

theorem SW.seq {x y : Code} (h : SW P N x (AExit.then (SW P N y Q) Q) st) : SW P N (.seq x y) Q st :=
  fun c a w hc R => wp_seq (wp_mono (h c a w hc R) fun _ _ _ hq => liftQ_then (fun _ _ _ hk R => hk c _ _ hc R) hq)

theorem SW.cond {x : Operand} {p q : Code} {t : Bool} (ht : aval st.sl x = some (.v (.bool t))) (h1 : t = true → SW P N p Q st) (h2 : t = false → SW P N q Q st) : SW P N (.cond x p q) Q st := by
  intro c a w hc R
  obtain ⟨⟨loc, S, Fm, R'⟩, hk⟩ := R
  have := R'.eval _ _ ht
  rw [TV_v] at this
  exact wp_cond_split this.2 (fun e => h1 e c a w hc ⟨⟨loc, S, Fm, R'⟩, hk⟩) (fun e => h2 e c a w hc ⟨⟨loc, S, Fm, R'⟩, hk⟩)

theorem SW.skip (h : Q .normal st) : SW P N .skip Q st := fun _ _ _ _ R => wp_skip ⟨st, h, R⟩
theorem SW.label {l : Nat} (h : Q .normal st) : SW P N (.label l) Q st := fun _ _ _ _ R => wp_label ⟨st, h, R⟩
theorem SW.exit {id : Nat} (h : Q (.exit id) st) : SW P N (.exit id) Q st := fun _ _ _ _ R => wp_exit ⟨st, h, R⟩
theorem SW.ret (h : Q .ret st) : SW P N .ret Q st := fun _ _ _ _ R => wp_ret ⟨st, h, R⟩

theorem SW.block {id : Nat} {body : Code} (h : SW P N body (AExit.inBlock id Q) st) : SW P N (.block id body) Q st := by
  intro c a w hc R
  refine wp_block (wp_mono (h c a w hc R) fun e a w hq => ?_)
  cases e with
  | normal => exact hq
  | exit id' =>
    obtain ⟨st, hk, R⟩ := hq
    simp only [AExit.inBlock] at hk
    simp only [Exit.inBlock]
    split at hk
    · rename_i he
      rw [if_pos he]
      exact ⟨st, hk, R⟩
    · rename_i he
      rw [if_neg he]
      exact ⟨st, hk, R⟩
  | ret => exact hq
  | goto l => exact hq
  | panic ch => exact hq
  | outgrown => exact hq

theorem SW.scope {body : Code} (h : SW P N body Q st) : SW P N (.scope body) Q st := by
  intro c a w hc R
  refine wp_scope_straight (wp_mono (h c a w hc R) fun e a w hq => ?_)
  cases e with
  | goto l => exact hq.elim
  | normal => exact hq
  | exit id => exact hq
  | ret => exact hq
  | panic ch => exact hq
  | outgrown => exact hq

theorem SW.loop {body : Code} {α : Type} (I : α → St) (μ : α → Nat) (x0 : α) (h0 : Weak st (I x0)) (hr : ∀ x, SW P N body (AExit.then (fun st2 => ∃ x', Weak st2 (I x') ∧ μ x' < μ x) Q) (I x)) : SW P N (.loop body) Q st := by
  intro c a w hc R
  refine wp_loop (fun a w => ∃ x, Rl c (I x) a w) (fun a w => least fun m => ∃ x, Rl c (I x) a w ∧ μ x = m) ⟨x0, R.weak h0⟩ fun a w hx => ?_
  have hex : ∃ m x, Rl c (I x) a w ∧ μ x = m := by
    obtain ⟨x, hx⟩ := hx
    exact ⟨μ x, x, hx, rfl⟩
  obtain ⟨⟨x, hRx, hμ⟩, _⟩ := least_spec hex
  refine wp_mono (hr x c a w hc hRx) fun e a' w' hq => liftQ_then (fun st2 a' w' hk R' => ?_) hq
  obtain ⟨x', hwk, hlt⟩ := hk
  have hR' := R'.weak hwk
  refine ⟨⟨x', hR'⟩, ?_⟩
  have hex' : ∃ m x, Rl c (I x) a' w' ∧ μ x = m := ⟨μ x', x', hR', rfl⟩
  have := (least_spec hex').2 (μ x') ⟨x', hR', rfl⟩
  omega

theorem FS_of_SW {f : FuncId} {fn : Func} {code : Code} {args : List A} {kb : List Bool} {out : Out} {st0 : St} (hf : P.funcs[f]? = some fn) (hb : fn.body = some code) (hok : fnOk fn args kb = true)
    (he : entrySt args = some st0) (h : SW P (fn.ntmps, kb) code (exitQ P fn kb out) st0) : FS P f args out :=
  FS_ofW hf hb hok he h

end
end Go.PA
