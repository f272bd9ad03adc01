/- PA38: states as they are written down. -/
import Derived.Test.YtmacfbboiippoaaPA37
namespace Go.PA

def alook {α : Type} : List (Nat × α) → Nat → Option α
  | [], _ => none
  | q :: l, t => if t = q.1 then some q.2 else alook l t

theorem alook_mem {α : Type} {l : List (Nat × α)} {t : Nat} {x : α} (h : alook l t = some x) : (t, x) ∈ l := by
  induction l with
  | nil => simp [alook] at h
  | cons q l ih =>
    simp only [alook] at h
    split at h
    · rename_i he
      injection h with h
      subst he h
      simp
    · exact List.mem_cons_of_mem _ (ih h)

theorem alook_of_mem {α : Type} {l : List (Nat × α)} (hn : (l.map (·.1)).Nodup) {t : Nat} {x : α} (h : (t, x) ∈ l) : alook l t = some x := by
  induction l with
  | nil => simp at h
  | cons q l ih =>
    simp only [List.map_cons, List.nodup_cons] at hn
    simp only [alook]
    rcases List.mem_cons.1 h with h | h
    · subst h; simp
    · rw [if_neg (fun e => hn.1 (List.mem_map.2 ⟨_, h, e⟩))]
      exact ih hn.2 h

def St.of (sls : List (Nat × A)) (bks : List (Nat × Blk)) (ep : Nat) : St := ⟨alook sls, alook bks, fun d => decide (d < ep), ep⟩

theorem St.of_sl (sls : List (Nat × A)) (bks : List (Nat × Blk)) (ep : Nat) : (St.of sls bks ep).sl = alook sls := rfl
theorem St.of_bk (sls : List (Nat × A)) (bks : List (Nat × Blk)) (ep : Nat) : (St.of sls bks ep).bk = alook bks := rfl
theorem St.of_ep (sls : List (Nat × A)) (bks : List (Nat × Blk)) (ep : Nat) : (St.of sls bks ep).ep = ep := rfl
theorem St.of_ids (sls : List (Nat × A)) (bks : List (Nat × Blk)) (ep d : Nat) : (St.of sls bks ep).ids d = decide (d < ep) := rfl

def slsOk (π : Nat → Option Nat) (sl : Nat → Option A) : List (Nat × A) → Prop
  | [] => True
  | q :: l => (sl q.1).bind (ren π) = some q.2 ∧ slsOk π sl l
def bksOk (π σ : Nat → Option Nat) (bk : Nat → Option Blk) : List (Nat × Blk) → Prop
  | [] => True
  | q :: l => ((σ q.1).bind bk).bind (renB π) = some q.2 ∧ bksOk π σ bk l

def nodupB : List Nat → Bool
  | [] => true
  | x :: l => !l.contains x && nodupB l
theorem nodupB_ok : ∀ {l : List Nat}, nodupB l = true → l.Nodup
  | [], _ => List.nodup_nil
  | x :: l, h => by
    simp only [nodupB, Bool.and_eq_true, Bool.not_eq_true', List.contains_eq_mem, decide_eq_false_iff_not] at h
    exact List.nodup_cons.2 ⟨h.1, nodupB_ok h.2⟩

def pairsOk (L : List (Nat × Nat)) (ep : Nat) : Bool := nodupB (L.map (·.1)) && nodupB (L.map (·.2)) && L.all fun q => decide (q.2 < ep)

theorem slsOk_mem {π : Nat → Option Nat} {sl : Nat → Option A} {l : List (Nat × A)} (h : slsOk π sl l) {t : Nat} {x : A} (hm : (t, x) ∈ l) : (sl t).bind (ren π) = some x := by
  induction l with
  | nil => simp at hm
  | cons q l ih =>
    rcases List.mem_cons.1 hm with hm | hm
    · subst hm; exact h.1
    · exact ih h.2 hm
theorem bksOk_mem {π σ : Nat → Option Nat} {bk : Nat → Option Blk} {l : List (Nat × Blk)} (h : bksOk π σ bk l) {t : Nat} {x : Blk} (hm : (t, x) ∈ l) : ((σ t).bind bk).bind (renB π) = some x := by
  induction l with
  | nil => simp at hm
  | cons q l ih =>
    rcases List.mem_cons.1 hm with hm | hm
    · subst hm; exact h.1
    · exact ih h.2 hm

/-- A state written down anew. -/
theorem Weak.of {st : St} (L : List (Nat × Nat)) {sls : List (Nat × A)} {bks : List (Nat × Blk)} {ep : Nat} (hp : pairsOk L ep = true) (hs : slsOk (alook L) st.sl sls)
    (hb : bksOk (alook L) (alook (L.map fun q => (q.2, q.1))) st.bk bks) : Weak st (St.of sls bks ep) := by
  simp only [pairsOk, Bool.and_eq_true, List.all_eq_true, decide_eq_true_eq] at hp
  obtain ⟨⟨n1, n2⟩, n3⟩ := hp
  have n1' := nodupB_ok n1
  have n2' : ((L.map fun q => (q.2, q.1)).map (·.1)).Nodup := by
    rw [List.map_map]
    exact nodupB_ok n2
  refine Weak.ren (π := alook L) (σ := alook (L.map fun q => (q.2, q.1))) (fun d d' h => ?_) (fun d d' h => ?_) (fun t x' hx => ?_) (fun d' b' hb' => ?_) (fun d d' h => ?_)
  · exact alook_of_mem n2' (List.mem_map.2 ⟨_, alook_mem h, rfl⟩)
  · obtain ⟨q, hq, he⟩ := List.mem_map.1 (alook_mem h)
    injection he with h1 h2
    subst h1 h2
    exact alook_of_mem n1' hq
  · have := slsOk_mem hs (alook_mem hx)
    rw [Option.bind_eq_some_iff] at this
    exact this
  · have := bksOk_mem hb (alook_mem hb')
    rw [Option.bind_eq_some_iff] at this
    obtain ⟨b, h1, h2⟩ := this
    rw [Option.bind_eq_some_iff] at h1
    obtain ⟨d, h3, h4⟩ := h1
    exact ⟨d, b, h3, h4, h2⟩
  · simp only [St.of_ids, decide_eq_true_eq]
    exact n3 _ (alook_mem h)

/-- The state may be written down anew anywhere. -/
theorem awp_weak {P : Program} {M : FuncId → List Bool} {c : Cx} {code : Code} {Q : AExit → St → Prop} {st st' : St} {a : Act} {w : World} (hw : Weak st st') (h : awp P M c.N code Q st') (R : Rl c st a w) : code.wp P (liftQ c Q) a w :=
  awp_sound code h (R.weak hw)

end Go.PA
