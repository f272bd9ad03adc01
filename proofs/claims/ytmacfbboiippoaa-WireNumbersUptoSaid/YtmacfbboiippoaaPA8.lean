/- PA8: how the state's meaning goes on from world to world. -/
import Derived.Test.YtmacfbboiippoaaPA7
namespace Go.PA
section
variable {P : Program} {c : Ctx} {st : St} {a : Act} {w : World} {loc : Nat → Option (Option Nat)} {S : Nat → Prop} {Fm : Nat → List Nat}

theorem BkR_mono {e e' : Env} {d : Nat} {b : Blk} {F : List Nat} (hl : e.Le e' F) (hloc : e'.loc d = e.loc d) (h : BkR e d b F) : BkR e' d b F := by
  cases b with
  | row s xs =>
    refine ⟨h.1, h.2.1, h.2.2.imp (fun ⟨h1, h2⟩ => ⟨hloc.trans h1, h2⟩) ?_⟩
    rintro ⟨g, cs, ty, k, us, Fx, h1, h2, h3, h4, h5, h6, h7, rfl⟩
    exact ⟨g, cs, ty, k, us, Fx, hloc.trans h1, h2, h3, (hl.heap g (.inl (by simp))).trans h4, h5, VRs_mono xs _ _ us Fx (hl.sub (fun x hx => by simp [hx])).shut h6, h7, rfl⟩
  | froz s xs =>
    obtain ⟨rfl, h1, h2, h3⟩ := h
    refine ⟨rfl, h1, h2, h3.imp (fun ⟨h1, h2⟩ => ⟨hloc.trans h1, h2⟩) ?_⟩
    rintro ⟨g, cs, ty, us, h4, h5, h6, h7, h8, h9⟩
    exact ⟨g, cs, ty, us, hloc.trans h4, hl.S g h5, (hl.heap g (.inr (.inl h5))).trans h6, h7, VRs_mono xs _ _ us [] hl.shut h8, h9⟩
  | var a =>
    obtain ⟨g, cs, ty, Fx, h1, h2, h3, rfl⟩ := h
    exact ⟨g, cs, ty, Fx, hloc.trans h1, (hl.heap g (.inl (by simp))).trans h2, VR_mono a e e' _ Fx (hl.sub (fun x hx => by simp [hx])) h3, rfl⟩

theorem BkR_lt {e : Env} {d : Nat} {b : Blk} {F : List Nat} (h : BkR e d b F) {g : Nat} (hg : e.loc d = some (some g)) : g < e.w.heap.size := by
  have key : ∀ {g' : Nat} {o : Obj}, e.loc d = some (some g') → e.w.heap[g']? = some o → g < e.w.heap.size := by
    intro g' o h1 h2
    rw [hg] at h1
    injection h1 with h1; injection h1 with h1; subst h1
    exact (Array.getElem?_eq_some_iff.1 h2).1
  cases b with
  | row s xs =>
    rcases h.2.2 with ⟨h1, _⟩ | ⟨g', cs, ty, k, us, Fx, h1, h2, h3, h4, _⟩
    · rw [hg] at h1; cases h1
    · exact key h1 h4
  | froz s xs =>
    rcases h.2.2.2 with ⟨h1, _⟩ | ⟨g', cs, ty, us, h1, h2, h4, _⟩
    · rw [hg] at h1; cases h1
    · exact key h1 h4
  | var a =>
    obtain ⟨g', cs, ty, Fx, h1, h2, h3, rfl⟩ := h
    exact key h1 h2

theorem RelW.locLt (R : RelW c st a w loc S Fm) {d g : Nat} (h : loc d = some (some g)) : g < w.heap.size := by
  cases hb : st.bk d with
  | none => have := (R.dead d hb).2; rw [h] at this; cases this
  | some b => exact BkR_lt (R.bks d b hb) h
theorem RelW.fmLt (R : RelW c st a w loc S Fm) {d g : Nat} (h : g ∈ Fm d) : g < w.heap.size := (R.own d g h).2.2.1
theorem RelW.live (R : RelW c st a w loc S Fm) {d : Nat} {l : Option Nat} (h : loc d = some l) : ∃ b, st.bk d = some b := by
  cases hb : st.bk d with
  | none => have := (R.dead d hb).2; rw [h] at this; cases this
  | some b => exact ⟨b, rfl⟩

structure Step (c : Ctx) (st : St) (w : World) (loc : Nat → Option (Option Nat)) (S : Nat → Prop) (Fm : Nat → List Nat) (T : Nat → Prop)
    (st' : St) (w' : World) (loc' : Nat → Option (Option Nat)) (S' : Nat → Prop) (Fm' : Nat → List Nat) : Prop where
  sl : ∀ t, st'.sl t = st.sl t
  touch : ∀ g, T g → ∃ d, g ∈ Fm d
  heap : ∀ g, g < w.heap.size → ¬ T g → w'.heap[g]? = w.heap[g]?
  shp : ∀ g, g < w.heap.size → (w'.shape? g).map (·.2) = (w.shape? g).map (·.2)
  size : w.heap.size ≤ w'.heap.size
  os : w'.os = w.os
  tape : w'.tape = w.tape
  output : w'.output = w.output
  sta : ∀ g, S g → S' g
  sta' : ∀ g, S' g → S g ∨ (∃ d, g ∈ Fm d) ∨ w.heap.size ≤ g
  stbd : ∀ g, S' g → g < w'.heap.size
  kn : ∀ d, st.ids d = true → st'.ids d = true
  lc : ∀ d l, st.ids d = true → loc' d = some l → loc d = some l
  fro : ∀ a, w'.frozen? a = w.frozen? a

theorem Step.le {T : Nat → Prop} {st' : St} {w' : World} {loc' : Nat → Option (Option Nat)} {S' : Nat → Prop} {Fm' : Nat → List Nat}
    (R : RelW c st a w loc S Fm) (h : Step c st w loc S Fm T st' w' loc' S' Fm') {F : List Nat} (hF : ∀ g ∈ F, g < w.heap.size ∧ ¬ T g) :
    (envOf c st w loc S).Le (envOf c st' w' loc' S') F := by
  have hSB : ∀ g, S g ∨ c.B g → g < w.heap.size ∧ ¬ T g := by
    intro g hg
    refine ⟨R.fram.bd g hg, fun ht => ?_⟩
    obtain ⟨d, hd⟩ := h.touch g ht
    have := R.own d g hd
    exact hg.elim this.1 this.2.1
  refine ⟨fun g hg => ?_, h.sta, fun g hg => .inr hg, h.kn, h.lc, fun d g hd hl => ?_⟩
  · have : g < w.heap.size ∧ ¬ T g := by
      rcases hg with hg | hg
      · exact hF g hg
      · exact hSB g hg
    exact h.heap g this.1 this.2
  · exact h.shp g (R.locLt (h.lc d _ hd hl))

/-- The state goes on: what is not touched stays. -/
theorem RelW.next {T : Nat → Prop} {st' : St} {w' : World} {loc' : Nat → Option (Option Nat)} {S' : Nat → Prop} {Fm' : Nat → List Nat}
    (R : RelW c st a w loc S Fm) (h : Step c st w loc S Fm T st' w' loc' S' Fm')
    (hbk : ∀ d b, st'.bk d = some b → (st.bk d = some b ∧ loc' d = loc d ∧ Fm' d = Fm d ∧ ∀ g ∈ Fm d, ¬ T g) ∨ BkR (envOf c st' w' loc' S') d b (Fm' d))
    (hdead : ∀ d, st'.bk d = none → Fm' d = [] ∧ loc' d = none)
    (hknown : ∀ d, st'.bk d ≠ none → st'.ids d = true)
    (hnodup : ∀ d, (Fm' d).Nodup)
    (hdisj : ∀ d d', d ≠ d' → ∀ g, g ∈ Fm' d → g ∉ Fm' d')
    (hown : ∀ d g, g ∈ Fm' d → ((∃ d0, g ∈ Fm d0) ∨ w.heap.size ≤ g) ∧ ¬ S' g ∧ g < w'.heap.size) : RelW c st' a w' loc' S' Fm' := by
  refine ⟨fun t x hx => ?_, R.size, R.defers, fun d b hb => ?_, hdead, hknown, hnodup, hdisj, fun d g hg => ?_, ?_⟩
  · rw [h.sl] at hx
    exact TV_mono (h.le R (F := []) (by simp)) (R.slots t x hx)
  · rcases hbk d b hb with ⟨h1, h2, h3, h4⟩ | h1
    · rw [h3]
      exact BkR_mono (h.le R fun g hg => ⟨R.fmLt hg, h4 g hg⟩) h2 (R.bks d b h1)
    · exact h1
  · obtain ⟨h1, h2, h3⟩ := hown d g hg
    have hw : g ∈ c.F0 ∨ c.w0.heap.size ≤ g := by
      rcases h1 with ⟨d0, h1⟩ | h1
      · exact (R.own d0 g h1).2.2.2
      · exact .inr (Nat.le_trans R.fram.size h1)
    refine ⟨h2, fun hB => ?_, h3, hw⟩
    rcases h1 with ⟨d0, h1⟩ | h1
    · exact (R.own d0 g h1).2.1 hB
    · have := R.fram.bd g (.inr hB); omega
  · refine ⟨fun g hg hF => ?_, Nat.le_trans R.fram.size h.size, h.os.trans R.fram.os, h.tape.trans R.fram.tape, h.output.trans R.fram.output,
      fun g hg => h.sta g (R.fram.sub g hg), fun g hg => ?_, fun g hg => ?_, fun g hg => (h.shp g (Nat.lt_of_lt_of_le hg R.fram.size)).trans (R.fram.shp g hg), fun x => (h.fro x).trans (R.fram.fro x)⟩
    · have hlt : g < w.heap.size := Nat.lt_of_lt_of_le hg R.fram.size
      refine (h.heap g hlt fun ht => ?_).trans (R.fram.heap g hg hF)
      obtain ⟨d, hd⟩ := h.touch g ht
      rcases (R.own d g hd).2.2.2 with hx | hx
      · exact hF hx
      · omega
    · rcases h.sta' g hg with hx | ⟨d, hd⟩ | hx
      · exact R.fram.new g hx
      · exact .inr (R.own d g hd).2.2.2
      · exact .inr (.inr (Nat.le_trans R.fram.size hx))
    · rcases hg with hx | hx
      · exact h.stbd g hx
      · exact Nat.lt_of_lt_of_le (R.fram.bd g (.inr hx)) h.size

theorem frozen_heap {w w' : World} {a : Addr} (h : w'.heap[a.block]? = w.heap[a.block]?) : w'.frozen? a = w.frozen? a := by unfold World.frozen?; rw [h]
theorem frozen_plain {w : World} {a : Addr} {cs : Array Value} {ty : TypeId} (h : w.heap[a.block]? = some (.cells cs ty (0, 0))) : w.frozen? a = false := by
  unfold World.frozen?
  rw [h]
  simp
theorem frozen_none {w : World} {a : Addr} (h : w.heap[a.block]? = none) : w.frozen? a = false := by
  unfold World.frozen?
  rw [h]
theorem frozen_alloc {w w1 : World} {cs : Array Value} {ty : TypeId} (hw : w1.heap = w.heap) (a : Addr) : (w1.alloc (.cells cs ty)).frozen? a = w.frozen? a := by
  rcases Nat.lt_trichotomy a.block w.heap.size with h | h | h
  · exact frozen_heap (by rw [heap_alloc_old _ _ _ (by rw [hw]; exact h), hw])
  · rw [frozen_none (w := w) (by rw [h]; simp)]
    refine frozen_plain (cs := cs) (ty := ty) ?_
    rw [h, ← hw]
    exact heap_alloc_new _ _
  · rw [frozen_none (w := w) (Array.getElem?_eq_none (by omega))]
    refine frozen_none (Array.getElem?_eq_none ?_)
    rw [World.size_alloc, hw]
    omega

theorem shape_of_heap {w w' : World} {g : Nat} (h : w'.heap[g]? = w.heap[g]?) : w'.shape? g = w.shape? g := by unfold World.shape?; rw [h]

/-- A new block under a new name. -/
theorem RelW.alloc (R : RelW c st a w loc S Fm) {n : Nat} (hn : st.ids n = false) (b : Blk) (cs : Array Value) (ty : TypeId) (w1 : World)
    (hw : w1.heap = w.heap) (hos : w1.os = w.os) (ht : w1.tape = w.tape) (ho : w1.output = w.output) (z : A)
    (hb : ∀ e, e.w = w1.alloc (.cells cs ty) → e.loc n = some (some w.heap.size) → (envOf c st w loc S).Le e [] → e.B = c.B → BkR e n b [w.heap.size]) :
    RelW c (st.app ⟨z, [(n, some b)], [n]⟩) a (w1.alloc (.cells cs ty)) (fun d => if d = n then some (some w.heap.size) else loc d) S (fun d => if d = n then [w.heap.size] else Fm d) := by
  have hsz : (w1.alloc (.cells cs ty)).heap.size = w.heap.size + 1 := by rw [World.size_alloc, hw]
  have hold : ∀ g, g < w.heap.size → (w1.alloc (.cells cs ty)).heap[g]? = w.heap[g]? := fun g hg => by
    rw [heap_alloc_old _ _ _ (by rw [hw]; exact hg), hw]
  have hst : Step c st w loc S Fm (fun _ => False) (st.app ⟨z, [(n, some b)], [n]⟩) (w1.alloc (.cells cs ty)) (fun d => if d = n then some (some w.heap.size) else loc d) S (fun d => if d = n then [w.heap.size] else Fm d) := by
    refine ⟨fun t => rfl, fun g h => h.elim, fun g hg _ => hold g hg, fun g hg => by rw [shape_of_heap (hold g hg)], by omega, hos, ht, ho, fun _ h => h, fun _ h => .inl h,
      fun g hg => by have := R.fram.bd g (.inl hg); omega, fun d hd => by simp [St.app, hd], fun d l hd hl => ?_, frozen_alloc hw⟩
    have hne : d ≠ n := fun e => by subst e; rw [hn] at hd; cases hd
    simpa [hne] using hl
  refine R.next hst (fun d b' hb' => ?_) (fun d hd => ?_) (fun d hd => ?_) (fun d => ?_) (fun d d' hne g hg => ?_) (fun d g hg => ?_)
  · by_cases hd : d = n
    · subst hd
      simp only [St.app, List.foldl_cons, List.foldl_nil, upd, if_true] at hb'
      injection hb' with hb'
      subst hb'
      right
      simp only [if_true]
      exact hb _ rfl (by simp [envOf]) (hst.le R (by simp)) rfl
    · simp only [St.app, List.foldl_cons, List.foldl_nil, upd, if_neg hd] at hb'
      exact .inl ⟨hb', by simp [hd], by simp [hd], by simp⟩
  · have hne : d ≠ n := fun e => by subst e; simp [St.app, upd] at hd
    simp only [St.app, List.foldl_cons, List.foldl_nil, upd, if_neg hne] at hd
    simpa [hne] using R.dead d hd
  · by_cases hdn : d = n
    · simp [St.app, hdn]
    · simp only [St.app, List.foldl_cons, List.foldl_nil, upd, if_neg hdn] at hd
      simp [St.app, R.known d hd]
  · by_cases hdn : d = n <;> simp [hdn, R.nodup d]
  · have hlt : ∀ d g, g ∈ Fm d → g < w.heap.size := fun d g h => R.fmLt h
    by_cases h1 : d = n <;> by_cases h2 : d' = n <;> simp only [h1, h2, if_true, if_false, List.mem_singleton] at hg ⊢
    · exact absurd (h1.trans h2.symm) hne
    · intro h; have := hlt _ _ h; omega
    · have := hlt _ _ hg; omega
    · exact R.disj d d' hne g hg
  · by_cases hdn : d = n
    · simp only [hdn, if_true, List.mem_singleton] at hg
      subst hg
      exact ⟨.inr (Nat.le_refl _), fun hS => by have := R.fram.bd _ (.inl hS); omega, by omega⟩
    · simp only [if_neg hdn] at hg
      exact ⟨.inl ⟨d, hg⟩, (R.own d g hg).1, by have := R.fmLt hg; omega⟩

/-- A new name for a row that is nil. -/
theorem RelW.nilRow (R : RelW c st a w loc S Fm) {n s : Nat} (hn : st.ids n = false) (hs : 0 < s) (z : A) :
    RelW c (st.app ⟨z, [(n, some (.row s []))], [n]⟩) a w (fun d => if d = n then some none else loc d) S (fun d => if d = n then [] else Fm d) := by
  have hst : Step c st w loc S Fm (fun _ => False) (st.app ⟨z, [(n, some (.row s []))], [n]⟩) w (fun d => if d = n then some none else loc d) S (fun d => if d = n then [] else Fm d) := by
    refine ⟨fun t => rfl, fun g h => h.elim, fun g hg _ => rfl, fun g hg => rfl, Nat.le_refl _, rfl, rfl, rfl, fun _ h => h, fun _ h => .inl h,
      fun g hg => R.fram.bd g (.inl hg), fun d hd => by simp [St.app, hd], fun d l hd hl => ?_, fun _ => rfl⟩
    have hne : d ≠ n := fun e => by subst e; rw [hn] at hd; cases hd
    simpa [hne] using hl
  refine R.next hst (fun d b' hb' => ?_) (fun d hd => ?_) (fun d hd => ?_) (fun d => ?_) (fun d d' hne g hg => ?_) (fun d g hg => ?_)
  · by_cases hd : d = n
    · subst hd
      simp only [St.app, List.foldl_cons, List.foldl_nil, upd, if_true] at hb'
      injection hb' with hb'
      subst hb'
      right
      exact ⟨hs, by simp, .inl ⟨by simp [envOf], rfl, by simp⟩⟩
    · simp only [St.app, List.foldl_cons, List.foldl_nil, upd, if_neg hd] at hb'
      exact .inl ⟨hb', by simp [hd], by simp [hd], by simp⟩
  · have hne : d ≠ n := fun e => by subst e; simp [St.app, upd] at hd
    simp only [St.app, List.foldl_cons, List.foldl_nil, upd, if_neg hne] at hd
    simpa [hne] using R.dead d hd
  · by_cases hdn : d = n
    · simp [St.app, hdn]
    · simp only [St.app, List.foldl_cons, List.foldl_nil, upd, if_neg hdn] at hd
      simp [St.app, R.known d hd]
  · by_cases hdn : d = n <;> simp [hdn, R.nodup d]
  · by_cases h1 : d = n <;> by_cases h2 : d' = n <;> simp only [h1, h2, if_true, if_false] at hg ⊢
    · cases hg
    · cases hg
    · simp
    · exact R.disj d d' hne g hg
  · by_cases hdn : d = n
    · simp [hdn] at hg
    · simp only [if_neg hdn] at hg
      exact ⟨.inl ⟨d, hg⟩, (R.own d g hg).1, R.fmLt hg⟩

end
end Go.PA
