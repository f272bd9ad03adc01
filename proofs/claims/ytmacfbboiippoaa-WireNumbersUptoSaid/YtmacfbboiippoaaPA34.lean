/- PA34: what a body of code does is what it does to the frame's state. -/
import Derived.Test.YtmacfbboiippoaaPA33
namespace Go.PA

theorem exists_least {p : Nat → Prop} (h : ∃ m, p m) : ∃ m, p m ∧ ∀ k, p k → m ≤ k := by
  obtain ⟨m, hm⟩ := h
  induction m using Nat.strongRecOn with
  | _ m ih =>
    by_cases h : ∃ k, k < m ∧ p k
    · obtain ⟨k, hk, hp⟩ := h
      exact ih k hk hp
    · exact ⟨m, hm, fun k hk => Nat.le_of_not_lt fun hlt => h ⟨k, hlt, hk⟩⟩

open Classical in
noncomputable def least (p : Nat → Prop) : Nat := if h : ∃ m, p m then Classical.choose (exists_least h) else 0

theorem least_spec {p : Nat → Prop} (h : ∃ m, p m) : p (least p) ∧ ∀ k, p k → least p ≤ k := by
  unfold least
  rw [dif_pos h]
  exact Classical.choose_spec (exists_least h)

section
variable {P : Program} {M : FuncId → List Bool} {ops : Array Oper} {c : Cx} {st : St} {a : Act} {w : World}

theorem Rl.drawn (R : Rl c st a w) (d : Nat) : Rl c st a { w with drawn := d } := by
  obtain ⟨⟨loc, S, Fm, R⟩, hk⟩ := R
  have hle : ∀ F, (envOf c.toCtx st w loc S).Le (envOf c.toCtx st { w with drawn := d } loc S) F := fun F => ⟨fun _ _ => rfl, fun _ h => h, fun _ h => .inr h, fun _ h => h, fun _ _ _ h => h, fun _ _ _ _ => rfl⟩
  exact ⟨⟨loc, S, Fm, fun t x hx => TV_mono (hle []) (R.slots t x hx), R.size, R.defers, fun d b hb => BkR_mono (hle _) rfl (R.bks d b hb), R.dead, R.known, R.nodup, R.disj, R.own, R.fram.drawn⟩, hk⟩

theorem Rl.bump (R : Rl c st a w) (k : Nat) : Rl c (st.bump k) a w := by
  obtain ⟨⟨loc, S, Fm, R⟩, hk⟩ := R
  exact ⟨⟨loc, S, Fm, R.slots, R.size, R.defers, R.bks, R.dead, R.known, R.nodup, R.disj, R.own, R.fram⟩, hk⟩

theorem Rl.weak {st' : St} (R : Rl c st a w) (h : Weak st st') : Rl c st' a w := ⟨h _ a w R.1, R.2⟩

theorem liftQ_then {K : St → Prop} {Q : AExit → St → Prop} {K' : Act → World → Prop} (hK : ∀ st a w, K st → Rl c st a w → K' a w) {e : Exit} {a : Act} {w : World} (h : liftQ c (AExit.then K Q) e a w) : Exit.then K' (liftQ c Q) e a w := by
  cases e with
  | normal =>
    obtain ⟨st, hk, R⟩ := h
    exact hK st a w hk R
  | exit id => exact h
  | ret => exact h
  | goto l => exact h.elim
  | panic ch => exact h.elim
  | outgrown => exact h.elim

theorem awp_sound : ∀ (code : Code) {Q : AExit → St → Prop} {st : St} {a : Act} {w : World}, awp P M c.N code Q st → Rl c st a w → code.wp P (liftQ c Q) a w
  | .skip, Q, st, a, w, h, R => wp_skip ⟨st, h, R⟩
  | .label _, Q, st, a, w, h, R => wp_label ⟨st, h, R⟩
  | .exit id, Q, st, a, w, h, R => wp_exit ⟨st, h, R⟩
  | .ret, Q, st, a, w, h, R => wp_ret ⟨st, h, R⟩
  | .region id ops draw, Q, st, a, w, h, R => by
    simp only [awp, regWp] at h
    obtain ⟨L, st', r, hL, hd, hQ⟩ := opsWp_run h
    have fin : ∀ a' w', Rl c st' a' w' → liftQ c Q .normal a' w' := fun a' w' R' => ⟨_, hQ, R'.bump _⟩
    cases draw with
    | false =>
      refine wp_region ?_
      rw [← hL]
      exact r.sound R fin
    | true =>
      obtain ⟨h1, h2, h3⟩ := hd rfl
      refine wp_region_draw fun t => ?_
      obtain ⟨L', r', hL'⟩ := r.schedule h1 h3 hL h2 t
      rw [← hL']
      exact r'.sound (R.drawn _) fin
  | .seq x y, Q, st, a, w, h, R => by
    simp only [awp] at h
    exact wp_seq (wp_mono (awp_sound x h R) fun e a w hq => liftQ_then (fun st a w hk R => awp_sound y hk R) hq)
  | .cond x p q, Q, st, a, w, h, R => by
    simp only [awp] at h
    split at h
    · rename_i t ht
      obtain ⟨⟨loc, S, Fm, R'⟩, hk⟩ := R
      have := R'.eval _ _ ht
      rw [TV_v] at this
      exact wp_cond_split this.2 (fun e => awp_sound p (h.1 e) ⟨⟨loc, S, Fm, R'⟩, hk⟩) (fun e => awp_sound q (h.2 e) ⟨⟨loc, S, Fm, R'⟩, hk⟩)
    · exact h.elim
  | .block id body, Q, st, a, w, h, R => by
    simp only [awp] at h
    refine wp_block (wp_mono (awp_sound body h R) fun e a w hq => ?_)
    cases e with
    | normal => exact hq
    | exit id' =>
      obtain ⟨st, hk, R⟩ := hq
      simp only [AExit.inBlock] at hk
      simp only [Exit.inBlock]
      split at hk
      · rename_i he
        rw [if_pos he]
        exact ⟨st, hk, R⟩
      · rename_i he
        rw [if_neg he]
        exact ⟨st, hk, R⟩
    | ret => exact hq
    | goto l => exact hq
    | panic ch => exact hq
    | outgrown => exact hq
  | .scope body, Q, st, a, w, h, R => by
    simp only [awp] at h
    refine wp_scope_straight (wp_mono (awp_sound body h R) fun e a w hq => ?_)
    cases e with
    | goto l => exact hq.elim
    | normal => exact hq
    | exit id => exact hq
    | ret => exact hq
    | panic ch => exact hq
    | outgrown => exact hq
  | .loop body, Q, st, a, w, h, R => by
    simp only [awp] at h
    obtain ⟨α, I, μ, x0, hw0, hround⟩ := h
    refine wp_loop (fun a w => ∃ x, Rl c (I x) a w) (fun a w => least fun m => ∃ x, Rl c (I x) a w ∧ μ x = m) ⟨x0, R.weak hw0⟩ fun a w hx => ?_
    have hex : ∃ m x, Rl c (I x) a w ∧ μ x = m := by
      obtain ⟨x, hx⟩ := hx
      exact ⟨μ x, x, hx, rfl⟩
    obtain ⟨⟨x, hRx, hμ⟩, _⟩ := least_spec hex
    refine wp_mono (awp_sound body (hround x) hRx) fun e a' w' hq => liftQ_then (fun st2 a' w' hk R' => ?_) hq
    obtain ⟨x', hwk, hlt⟩ := hk
    have hR' := R'.weak hwk
    refine ⟨⟨x', hR'⟩, ?_⟩
    have hex' : ∃ m x, Rl c (I x) a' w' ∧ μ x = m := ⟨μ x', x', hR', rfl⟩
    have := (least_spec hex').2 (μ x') ⟨x', hR', rfl⟩
    omega
  | .rangeFunc .., Q, st, a, w, h, R => by simp [awp] at h
  | .goto _, Q, st, a, w, h, R => by simp [awp] at h
  | .refuse _, Q, st, a, w, h, R => by simp [awp] at h

theorem rm_mono {α : Type} {bk : Nat → Option Blk} {m : RM α} : ∀ {K K' : α → List Nat → Prop}, (∀ a l, K a l → K' a l) → m.wp bk K → m.wp bk K' := by
  induction m with
  | ret a => exact fun h => h a []
  | fail => exact fun _ h => h
  | rd d k ih =>
    intro K K' h hw
    simp only [RM.wp] at hw ⊢
    split at hw
    · exact ih _ (fun a l => h a _) hw
    · exact hw.elim
  | req p k ih => exact fun h hw => ⟨hw.1, ih h hw.2⟩

theorem opWp_mono {nid : Nat} {o : Oper} {K K' : A → List (Nat × Option Blk) → List Nat → List Nat → Prop} (hk : ∀ z up nw rd, K z up nw rd → K' z up nw rd) (h : opWp P M nid o st K) : opWp P M nid o st K' := by
  have plain : plainWp P nid o st K → plainWp P nid o st K' := by
    intro h
    unfold plainWp at h ⊢
    split at h
    · exact ⟨h.1, rm_mono (fun _ _ => hk _ _ _ _) h.2⟩
    · exact h.elim
  unfold opWp at h ⊢
  split
  · split
    · unfold callWp at h ⊢
      simp only [*] at h
      split at h
      · refine ⟨h.1, h.2.1, h.2.2.1, rm_mono (fun q rd hq => ?_) h.2.2.2⟩
        obtain ⟨res, back, hf, hm⟩ := hq
        refine ⟨res, back, hf, ?_⟩
        split at hm
        · exact ⟨hm.1, hk _ _ _ _ hm.2⟩
        · exact hm.elim
      · exact h.elim
    · rename_i hne
      simp only [*] at h
      exact plain h
  · rename_i hne
    split at h
    · rename_i cl hx; exact (hne cl hx).elim
    · exact plain h

theorem opsWp_mono {n : Nat × List Bool} : ∀ {l : List Nat} {K K' : List (Nat × FP) → St → Prop} {st : St}, (∀ L st, K L st → K' L st) → opsWp P M n ops l K st → opsWp P M n ops l K' st
  | [], K, K', st, hk, h => hk _ _ h
  | i :: l, K, K', st, hk, h => by
    simp only [opsWp] at h ⊢
    split at h
    · exact h.elim
    · refine ⟨h.1, ?_⟩
      have h2 := h.2
      split at h2
      · exact h2.elim
      · exact ⟨fun e => opsWp_mono (fun L st => hk _ st) (h2.1 e), fun e => opWp_mono (fun _ _ _ _ hq => opsWp_mono (fun L st => hk _ st) hq) (h2.2 e)⟩

theorem AExit.then_mono {K K' : St → Prop} {Q Q' : AExit → St → Prop} (hK : ∀ st, K st → K' st) (hQ : ∀ e st, Q e st → Q' e st) (e : AExit) (st : St) (h : AExit.then K Q e st) : AExit.then K' Q' e st := by
  cases e
  · exact hK _ h
  · exact hQ _ _ h
  · exact hQ _ _ h
theorem AExit.inBlock_mono {id : Nat} {Q Q' : AExit → St → Prop} (hQ : ∀ e st, Q e st → Q' e st) (e : AExit) (st : St) (h : AExit.inBlock id Q e st) : AExit.inBlock id Q' e st := by
  cases e with
  | normal => exact hQ _ _ h
  | exit id' =>
    simp only [AExit.inBlock] at h ⊢
    split at h
    · rename_i he; rw [if_pos he]; exact hQ _ _ h
    · rename_i he; rw [if_neg he]; exact hQ _ _ h
  | ret => exact hQ _ _ h

theorem awp_mono {n : Nat × List Bool} : ∀ (code : Code) {Q Q' : AExit → St → Prop} {st : St}, (∀ e st, Q e st → Q' e st) → awp P M n code Q st → awp P M n code Q' st
  | .skip, Q, Q', st, hq, h => hq _ _ h
  | .label _, Q, Q', st, hq, h => hq _ _ h
  | .exit _, Q, Q', st, hq, h => hq _ _ h
  | .ret, Q, Q', st, hq, h => hq _ _ h
  | .region _ ops draw, Q, Q', st, hq, h => opsWp_mono (fun L st hk => ⟨hk.1, hq _ _ hk.2⟩) h
  | .seq x y, Q, Q', st, hq, h => by
    simp only [awp] at h ⊢
    exact awp_mono x (AExit.then_mono (fun st h => awp_mono y hq h) hq) h
  | .cond x p q, Q, Q', st, hq, h => by
    simp only [awp] at h ⊢
    split at h
    · exact ⟨fun e => awp_mono p hq (h.1 e), fun e => awp_mono q hq (h.2 e)⟩
    · exact h.elim
  | .block id body, Q, Q', st, hq, h => by
    simp only [awp] at h ⊢
    exact awp_mono body (AExit.inBlock_mono hq) h
  | .scope body, Q, Q', st, hq, h => by
    simp only [awp] at h ⊢
    exact awp_mono body hq h
  | .loop body, Q, Q', st, hq, h => by
    simp only [awp] at h ⊢
    obtain ⟨α, I, μ, x0, h0, hr⟩ := h
    exact ⟨α, I, μ, x0, h0, fun x => awp_mono body (AExit.then_mono (fun _ h => h) hq) (hr x)⟩
  | .rangeFunc .., Q, Q', st, hq, h => by simp [awp] at h
  | .goto _, Q, Q', st, hq, h => by simp [awp] at h
  | .refuse _, Q, Q', st, hq, h => by simp [awp] at h

/-- A cut: what the one shows, the other begins with. -/
theorem awp_seq_cut {n : Nat × List Bool} {x y : Code} {Q Q1 : AExit → St → Prop} {st : St} (h : awp P M n x Q1 st) (h1 : ∀ st, Q1 .normal st → awp P M n y Q st) (h2 : ∀ e st, e ≠ .normal → Q1 e st → Q e st) :
    awp P M n (.seq x y) Q st := by
  simp only [awp]
  refine awp_mono x (fun e st hq => ?_) h
  cases e with
  | normal => exact h1 st hq
  | exit id => exact h2 _ _ (by simp) hq
  | ret => exact h2 _ _ (by simp) hq

end
end Go.PA
