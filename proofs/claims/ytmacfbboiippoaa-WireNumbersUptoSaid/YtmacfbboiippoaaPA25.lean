/- PA25: behind a call. -/
import Derived.Test.YtmacfbboiippoaaPA24
namespace Go.PA

/-- Like RelW; the names in Z keep their place though their blocks are gone; X are blocks of the frame's own that no name has. -/
structure RelG (c : Ctx) (st : St) (a : Act) (w : World) (loc : Nat → Option (Option Nat)) (S : Nat → Prop) (Fm : Nat → List Nat) (Z X : List Nat) : Prop where
  slots : ∀ t x, st.sl t = some x → TV x (envOf c st w loc S) (a.tmps.getD t undef)
  size : a.tmps.size = c.n
  defers : a.defers = []
  bks : ∀ d b, st.bk d = some b → BkR (envOf c st w loc S) d b (Fm d)
  dead : ∀ d, st.bk d = none → Fm d = [] ∧ (loc d = none ∨ d ∈ Z)
  known : ∀ d, st.bk d ≠ none → st.ids d = true
  lt : ∀ d g, loc d = some (some g) → g < w.heap.size
  nodup : ∀ d, (Fm d).Nodup
  disj : ∀ d d', d ≠ d' → ∀ g, g ∈ Fm d → g ∉ Fm d'
  own : ∀ d g, g ∈ Fm d → ¬ S g ∧ ¬ c.B g ∧ g < w.heap.size ∧ (g ∈ c.F0 ∨ c.w0.heap.size ≤ g)
  fram : Fram c w S
  xnd : X.Nodup
  xfm : ∀ g ∈ X, ∀ d, g ∉ Fm d
  xown : ∀ g ∈ X, ¬ S g ∧ ¬ c.B g ∧ g < w.heap.size ∧ (g ∈ c.F0 ∨ c.w0.heap.size ≤ g)

section
variable {P : Program} {c : Ctx} {st : St} {a : Act} {w : World} {loc : Nat → Option (Option Nat)} {S : Nat → Prop} {Fm : Nat → List Nat}

theorem RelW.toG (R : RelW c st a w loc S Fm) : RelG c st a w loc S Fm [] [] :=
  ⟨R.slots, R.size, R.defers, R.bks, fun d hd => ⟨(R.dead d hd).1, .inl (R.dead d hd).2⟩, R.known, fun _ _ h => R.locLt h, R.nodup, R.disj, R.own, R.fram, List.nodup_nil, by simp, by simp⟩
theorem RelG.toW {X : List Nat} (R : RelG c st a w loc S Fm [] X) : RelW c st a w loc S Fm :=
  ⟨R.slots, R.size, R.defers, R.bks, fun d hd => ⟨(R.dead d hd).1, (R.dead d hd).2.resolve_right (by simp)⟩, R.known, R.nodup, R.disj, R.own, R.fram⟩
theorem RelG.drop {Z X X' : List Nat} (R : RelG c st a w loc S Fm Z X) (hs : ∀ g ∈ X', g ∈ X) (hn : X'.Nodup) : RelG c st a w loc S Fm Z X' :=
  { R with xnd := hn, xfm := fun g hg => R.xfm g (hs g hg), xown := fun g hg => R.xown g (hs g hg) }

/-- A new world, the frame's own blocks as they were but for those that were handed over. -/
theorem RelW.called (R : RelW c st a w loc S Fm) {rm F F' : List Nat} {w' : World} {S' B' : Nat → Prop} (T : Took st Fm [] [] rm F) (hB' : ∀ g, c.B g → B' g)
    (hf : Fram ⟨w, F, S, B', 0⟩ w' S') (hnd : F'.Nodup)
    (hF' : ∀ g ∈ F', ¬ S' g ∧ ¬ B' g ∧ g < w'.heap.size ∧ (g ∈ F ∨ w.heap.size ≤ g)) :
    RelG c { st with bk := fun d => if d ∈ rm then none else st.bk d } a w' loc S' (fun d => if d ∈ rm then [] else Fm d) rm F' := by
  have hFrm : ∀ g ∈ F, ∃ d, d ∈ rm ∧ g ∈ Fm d := fun g hg => by
    rcases T.sub g hg with h | ⟨d, h1, _, h2⟩
    · simp at h
    · exact ⟨d, h1, h2⟩
  have hkeep : ∀ d, d ∉ rm → ∀ g ∈ Fm d, g ∉ F := fun d hd g hg hgF => by
    obtain ⟨d', h1, h2⟩ := hFrm g hgF
    exact R.disj d d' (fun e => hd (e ▸ h1)) g hg h2
  have hSB : ∀ g, S g ∨ c.B g → g < w.heap.size ∧ g ∉ F := fun g hg => by
    refine ⟨R.fram.bd g hg, fun hgF => ?_⟩
    obtain ⟨d', h1, h2⟩ := hFrm g hgF
    have := R.own d' g h2
    exact hg.elim this.1 this.2.1
  have hle : ∀ (G : List Nat), (∀ g ∈ G, g < w.heap.size ∧ g ∉ F) → (envOf c st w loc S).Le (envOf c { st with bk := fun d => if d ∈ rm then none else st.bk d } w' loc S') G := fun G hG =>
    ⟨fun g hg => by
      have : g < w.heap.size ∧ g ∉ F := by
        rcases hg with hg | hg
        · exact hG g hg
        · exact hSB g hg
      exact hf.heap g this.1 this.2, hf.sub, fun g hg => .inr hg, fun d hd => hd, fun d l _ h => h, fun d g _ hl => hf.shp g (R.locLt hl)⟩
  have hSw : ∀ d, d ∉ rm → ∀ g ∈ Fm d, ¬ S' g := fun d hd g hg hS => by
    rcases hf.new g hS with h | h | h
    · exact (R.own d g hg).1 h
    · exact hkeep d hd g hg h
    · have := R.fmLt hg; simp only at h; omega
  refine ⟨fun t x hx => TV_mono (hle [] (by simp)) (R.slots t x hx), R.size, R.defers, fun d b hb => ?_, fun d hd => ?_, fun d hd => ?_, fun d g hl => Nat.lt_of_lt_of_le (R.locLt hl) hf.size, fun d => ?_, fun d d' hne g hg => ?_,
    fun d g hg => ?_, ?_, hnd, fun g hg d => ?_, fun g hg => ?_⟩
  · simp only at hb
    by_cases hd : d ∈ rm
    · simp [hd] at hb
    · simp only [if_neg hd] at hb ⊢
      exact BkR_mono (hle _ fun g hg => ⟨R.fmLt hg, hkeep d hd g hg⟩) rfl (R.bks d b hb)
  · simp only at hd ⊢
    by_cases hdr : d ∈ rm
    · simp [hdr]
    · simp only [if_neg hdr] at hd ⊢
      exact ⟨(R.dead d hd).1, .inl (R.dead d hd).2⟩
  · simp only at hd
    by_cases hdr : d ∈ rm
    · simp [hdr] at hd
    · simp only [if_neg hdr] at hd
      exact R.known d hd
  · by_cases hdr : d ∈ rm <;> simp [hdr, R.nodup d]
  · by_cases h1 : d ∈ rm
    · simp [h1] at hg
    · simp only [if_neg h1] at hg
      by_cases h2 : d' ∈ rm
      · simp [h2]
      · simp only [if_neg h2]; exact R.disj d d' hne g hg
  · by_cases h1 : d ∈ rm
    · simp [h1] at hg
    · simp only [if_neg h1] at hg
      have := R.own d g hg
      exact ⟨hSw d h1 g hg, this.2.1, Nat.lt_of_lt_of_le this.2.2.1 hf.size, this.2.2.2⟩
  · refine ⟨fun g hg hgF => ?_, Nat.le_trans R.fram.size hf.size, hf.os.trans R.fram.os, hf.tape.trans R.fram.tape, hf.output.trans R.fram.output, fun g hg => hf.sub g (R.fram.sub g hg), fun g hg => ?_, fun g hg => ?_,
      fun g hg => (hf.shp g (Nat.lt_of_lt_of_le hg R.fram.size)).trans (R.fram.shp g hg), fun x => (hf.fro x).trans (R.fram.fro x)⟩
    · refine (hf.heap g (Nat.lt_of_lt_of_le hg R.fram.size) fun h => ?_).trans (R.fram.heap g hg hgF)
      obtain ⟨d', _, h2⟩ := hFrm g h
      rcases (R.own d' g h2).2.2.2 with h3 | h3
      · exact hgF h3
      · omega
    · rcases hf.new g hg with h | h | h
      · exact R.fram.new g h
      · obtain ⟨d', _, h2⟩ := hFrm g h
        exact .inr (R.own d' g h2).2.2.2
      · exact .inr (.inr (Nat.le_trans R.fram.size h))
    · rcases hg with h | h
      · exact hf.bd g (.inl h)
      · exact hf.bd g (.inr (hB' g h))
  · by_cases h1 : d ∈ rm
    · simp [h1]
    · simp only [if_neg h1]
      intro h
      rcases (hF' g hg).2.2.2 with h4 | h4
      · exact hkeep d h1 g h h4
      · have := R.fmLt h; omega
  · obtain ⟨h1, h2, h3, h4⟩ := hF' g hg
    refine ⟨h1, fun h => h2 (hB' g h), h3, ?_⟩
    rcases h4 with h4 | h4
    · obtain ⟨d', _, h5⟩ := hFrm g h4
      exact (R.own d' g h5).2.2.2
    · exact .inr (Nat.le_trans R.fram.size h4)

/-- A name that kept its place gets a block again. -/
theorem RelG.restore {Z X F1 X2 : List Nat} (R : RelG c st a w loc S Fm Z X) {d : Nat} {b : Blk} (hd : st.bk d = none) (hid : st.ids d = true) (hB : BkR (envOf c st w loc S) d b F1)
    (h1 : ∀ g ∈ F1, g ∈ X) (h2 : ∀ g ∈ X2, g ∈ X) (hn1 : F1.Nodup) (hn2 : X2.Nodup) (hdj : ∀ g ∈ F1, g ∉ X2) :
    RelG c { st with bk := upd st.bk d (some b) } a w loc S (fun x => if x = d then F1 else Fm x) Z X2 := by
  have he : envOf c { st with bk := upd st.bk d (some b) } w loc S = envOf c st w loc S := rfl
  refine ⟨fun t x hx => R.slots t x hx, R.size, R.defers, fun x y hy => ?_, fun x hx => ?_, fun x hx => ?_, R.lt, fun x => ?_, fun x y hne g hg => ?_, fun x g hg => ?_, R.fram, hn2, fun g hg x => ?_, fun g hg => R.xown g (h2 g hg)⟩
  · simp only [upd] at hy
    rw [he]
    by_cases hxd : x = d
    · subst hxd
      simp only [if_true] at hy ⊢
      injection hy with hy
      subst hy
      exact hB
    · simp only [if_neg hxd] at hy ⊢
      exact R.bks x y hy
  · simp only [upd] at hx
    by_cases hxd : x = d
    · simp [hxd] at hx
    · simp only [if_neg hxd] at hx ⊢
      exact R.dead x hx
  · simp only [upd] at hx
    by_cases hxd : x = d
    · subst hxd; exact hid
    · simp only [if_neg hxd] at hx
      exact R.known x hx
  · by_cases hxd : x = d <;> simp [hxd, hn1, R.nodup x]
  · by_cases hx : x = d
    · subst hx
      simp only [if_true] at hg
      simp only [if_neg (fun e => hne e.symm : ¬ y = x)]
      exact R.xfm g (h1 g hg) y
    · simp only [if_neg hx] at hg
      by_cases hy : y = d
      · simp only [hy, if_true]
        exact fun h => R.xfm g (h1 g h) x hg
      · simp only [if_neg hy]; exact R.disj x y hne g hg
  · by_cases hx : x = d
    · simp only [hx, if_true] at hg; exact R.xown g (h1 g hg)
    · simp only [if_neg hx] at hg; exact R.own x g hg
  · by_cases hx : x = d
    · simp only [hx, if_true]; exact fun h => hdj g h hg
    · simp only [if_neg hx]; exact R.xfm g (h2 g hg) x

/-- The names that kept their place for nothing lose it. -/
theorem RelG.kill {Z X : List Nat} (R : RelG c st a w loc S Fm Z X) : RelG c st a w (fun d => if (st.bk d).isSome then loc d else none) S Fm [] X := by
  have hle : ∀ F, (envOf c st w loc S).Le (envOf c st w (fun d => if (st.bk d).isSome then loc d else none) S) F := fun F =>
    ⟨fun _ _ => rfl, fun _ h => h, fun _ h => .inr h, fun _ h => h, (fun d l _ h => by
      simp only [envOf] at h ⊢
      split at h
      · exact h
      · cases h), fun _ _ _ _ => rfl⟩
  refine ⟨fun t x hx => TV_mono (hle []) (R.slots t x hx), R.size, R.defers, fun x y hy => ?_, fun x hx => ⟨(R.dead x hx).1, .inl (by simp [hx])⟩, R.known, fun d g h => ?_, R.nodup, R.disj, R.own, R.fram, R.xnd, R.xfm, R.xown⟩
  · exact BkR_mono (hle _) (by simp [envOf, hy]) (R.bks x y hy)
  · split at h
    · exact R.lt d g h
    · cases h

/-- A new name. -/
theorem RelG.fresh {X F1 X2 : List Nat} (R : RelG c st a w loc S Fm [] X) {d : Nat} {b : Blk} {l : Option Nat} (hid : st.ids d = false)
    (hB : ∀ e : Env, e.w = w → e.S = S → e.loc d = some l → (∀ g, c.B g → e.B g) → BkR e d b F1) (hl : ∀ g, l = some g → g < w.heap.size)
    (h1 : ∀ g ∈ F1, g ∈ X) (h2 : ∀ g ∈ X2, g ∈ X) (hn1 : F1.Nodup) (hn2 : X2.Nodup) (hdj : ∀ g ∈ F1, g ∉ X2) :
    RelG c { st with bk := upd st.bk d (some b), ids := fun x => st.ids x || x == d } a w (fun x => if x = d then some l else loc x) S (fun x => if x = d then F1 else Fm x) [] X2 := by
  have hle : ∀ F, (envOf c st w loc S).Le (envOf c { st with bk := upd st.bk d (some b), ids := fun x => st.ids x || x == d } w (fun x => if x = d then some l else loc x) S) F := fun F =>
    ⟨fun _ _ => rfl, fun _ h => h, fun _ h => .inr h, fun x h => by simp only [envOf] at h ⊢; simp [h], fun x m hx h => by
      have hne : x ≠ d := fun e => by subst e; simp only [envOf] at hx; rw [hid] at hx; cases hx
      simpa [envOf, hne] using h, fun _ _ _ _ => rfl⟩
  refine ⟨fun t x hx => TV_mono (hle []) (R.slots t x hx), R.size, R.defers, fun x y hy => ?_, fun x hx => ?_, fun x hx => ?_, fun x g h => ?_, fun x => ?_, fun x y hne g hg => ?_, fun x g hg => ?_, R.fram, hn2, fun g hg x => ?_, fun g hg => R.xown g (h2 g hg)⟩
  · simp only [upd] at hy
    by_cases hxd : x = d
    · subst hxd
      simp only [if_true] at hy ⊢
      injection hy with hy
      subst hy
      exact hB _ rfl rfl (by simp [envOf]) (fun _ h => h)
    · simp only [if_neg hxd] at hy ⊢
      exact BkR_mono (hle _) (by simp [envOf, hxd]) (R.bks x y hy)
  · simp only [upd] at hx
    by_cases hxd : x = d
    · simp [hxd] at hx
    · simp only [if_neg hxd] at hx ⊢
      exact R.dead x hx
  · simp only [upd] at hx
    by_cases hxd : x = d
    · simp [hxd]
    · simp only [if_neg hxd] at hx
      simp [R.known x hx]
  · by_cases hxd : x = d
    · simp only [hxd, if_true] at h; injection h with h; exact hl g h
    · simp only [if_neg hxd] at h; exact R.lt x g h
  · by_cases hxd : x = d <;> simp [hxd, hn1, R.nodup x]
  · by_cases hx : x = d
    · subst hx
      simp only [if_true] at hg
      simp only [if_neg (fun e => hne e.symm : ¬ y = x)]
      exact R.xfm g (h1 g hg) y
    · simp only [if_neg hx] at hg
      by_cases hy : y = d
      · simp only [hy, if_true]
        exact fun h => R.xfm g (h1 g h) x hg
      · simp only [if_neg hy]; exact R.disj x y hne g hg
  · by_cases hx : x = d
    · simp only [hx, if_true] at hg; exact R.xown g (h1 g hg)
    · simp only [if_neg hx] at hg; exact R.own x g hg
  · by_cases hx : x = d
    · simp only [hx, if_true]; exact fun h => hdj g h hg
    · simp only [if_neg hx]; exact R.xfm g (h2 g hg) x

end
end Go.PA
