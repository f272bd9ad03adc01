/- PA17: what is built. -/
import Derived.Test.YtmacfbboiippoaaPA16
import Derived.Laws.MakeOwn
namespace Go.PA
section
variable {P : Program} {c : Ctx} {st : St} {a : Act} {w : World} {loc : Nat → Option (Option Nat)} {S : Nat → Prop} {Fm : Nat → List Nat}

theorem splice_list (off : Nat) : ∀ (xs : List Value) (k : Nat) (cs : Array Value) (pre us post : List Value), cs.toList = pre ++ us ++ post → pre.length = off + k → us.length = xs.length →
    ((xs.zipIdx k).foldl (fun (cs : Array Value) (q : Value × Nat) => cs.setIfInBounds (off + q.2) q.1) cs).toList = pre ++ xs ++ post
  | [], k, cs, pre, us, post, h, hp, hu => by
    have : us = [] := List.eq_nil_of_length_eq_zero hu
    subst this
    simpa using h
  | x :: xs, k, cs, pre, us, post, h, hp, hu => by
    cases us with
    | nil => simp at hu
    | cons u us =>
      simp only [List.zipIdx_cons, List.foldl_cons]
      have := splice_list off xs (k + 1) (cs.setIfInBounds (off + k) x) (pre ++ [x]) us post (by
        rw [Array.toList_setIfInBounds, h, ← hp]
        simp) (by simp [hp]; omega) (by simpa using hu)
      simpa using this

theorem splice_arr (off : Nat) (xs cs : Array Value) (pre us post : List Value) (h : cs.toList = pre ++ us ++ post) (hp : pre.length = off) (hu : us.length = xs.size) :
    (xs.zipIdx.foldl (fun (cs : Array Value) (q : Value × Nat) => cs.setIfInBounds (off + q.2) q.1) cs).toList = pre ++ xs.toList ++ post := by
  rw [← Array.foldl_toList, Array.toList_zipIdx]
  exact splice_list off xs.toList 0 cs pre us post h (by simpa using hp) (by simpa using hu)

theorem putParts_sound {e : Env} {pl : Nat → Option (Nat × Nat)} : ∀ (ps : List (Nat × A)) (vs : List (Nat × Value)) (zs xs : List A) (cs : Array Value), putParts pl zs ps = some xs →
    All2 (fun (q : Nat × A) (v : Nat × Value) => q.1 = v.1 ∧ VV q.2 e v.2 []) ps vs → VRs zs e cs.toList [] → ∃ cs', Instr.fill pl cs vs = some cs' ∧ VRs xs e cs'.toList [] ∧ xs.length = zs.length
  | [], vs, zs, xs, cs, h, ha, hz => by
    cases ha
    simp only [putParts] at h
    injection h with h
    subst h
    exact ⟨cs, rfl, hz, rfl⟩
  | (i, x) :: ps, vs, zs, xs, cs, h, ha, hz => by
    cases ha with
    | @cons _ v _ vs h1 h2 =>
      obtain ⟨hi, hv⟩ := h1
      obtain ⟨i', v⟩ := v
      simp only at hi hv
      subst hi
      simp only [putParts] at h
      split at h
      · rename_i z off s hzi hpl
        split at h
        · rename_i hc
          obtain ⟨h3, h4, h5, h6⟩ := hc
          obtain ⟨hvc, hvs⟩ := VV_cells hv
          obtain ⟨pre, us, post, F1, Fx, F2, e1, e2, h7, h8, h9⟩ := VRs_at zs e cs.toList [] i z hz hzi
          simp at e2
          obtain ⟨rfl, rfl, rfl⟩ := e2
          have hus : us.length = v.cells.size := by rw [VR_len _ _ _ _ h8, h3, hvs]
          have hsp := splice_arr off v.cells cs pre us post e1 (h7.trans h5.symm) hus
          have hnew := h9 x v.cells.toList [] hvc
          simp only [List.append_nil] at hnew
          obtain ⟨cs', h10, h11, h12⟩ := putParts_sound ps vs (zs.set i x) xs (v.cells.zipIdx.foldl (fun cs q => cs.setIfInBounds (off + q.2) q.1) cs) h h2 (by rw [hsp]; exact hnew)
          refine ⟨cs', ?_, h11, by simpa using h12⟩
          have hsz : cs.size = pre.length + us.length + post.length := by rw [← Array.length_toList, e1]; simp; omega
          have hc1 : ¬ (v.cells.size ≠ s) := by rw [hvs, h4]; simp
          have hc2 : ¬ (off + v.cells.size > cs.size) := by rw [hsz, ← hus, ← h5.trans h7.symm]; omega
          simp only [Instr.fill, hpl]
          rw [if_neg (by simp only [Bool.or_eq_true, decide_eq_true_eq, not_or]; exact ⟨hc1, hc2⟩)]
          exact h10
        · simp at h
      · simp at h

theorem tZero_info {t : TypeId} {z : A} (h : tZero P t = some z) : ∃ i v, P.info? t = some i ∧ i.zero = some v ∧ (∀ e, VR z e v.cells.toList []) := by
  unfold tZero at h
  split at h
  · rename_i z' v h1 h2
    split at h
    · rename_i cs h3
      split at h
      · rename_i h4
        injection h with h
        subst h
        cases hi : P.info? t with
        | none => simp [hi] at h2
        | some i =>
          simp only [hi, Option.bind_some] at h2
          exact ⟨i, v, rfl, h2, fun e => by rw [← eqPlains_eq h4]; exact zFlat_VR e _ _ h3⟩
      · simp at h
    · simp at h
  · simp at h

theorem zip_all2 {e : Env} {f : Operand → Value} : ∀ (l : List (Nat × Operand)) (xs : List A), All2 (fun x z => TV z e (f x)) (l.map (·.2)) xs → (∀ x ∈ partsOf l xs, x.2.good = true) →
    All2 (fun (q : Nat × A) (v : Nat × Value) => q.1 = v.1 ∧ VV q.2 e v.2 []) (partsOf l xs) (l.map fun q => (q.1, f q.2))
  | [], xs, h, hg => by cases h; exact .nil
  | (i, o) :: l, xs, h, hg => by
    cases h with
    | @cons _ z _ zs h1 h2 =>
      refine .cons ⟨rfl, (TV_good ?_).1 h1⟩ (zip_all2 l zs h2 fun x hx => hg x (by simp [partsOf] at hx ⊢; exact .inr hx))
      exact hg (i, z) (by simp [partsOf])

theorem putParts_good {pl : Nat → Option (Nat × Nat)} : ∀ (ps : List (Nat × A)) (zs xs : List A), putParts pl zs ps = some xs → ∀ q ∈ ps, q.2.good = true
  | [], zs, xs, h => by simp
  | (i, x) :: ps, zs, xs, h => by
    simp only [putParts] at h
    split at h
    · split at h
      · rename_i hc
        intro q hq
        rcases List.mem_cons.1 hq with rfl | hq
        · exact hc.2.2.2
        · exact putParts_good ps _ _ h q hq
      · simp at h
    · simp at h

theorem putParts_sizes {pl : Nat → Option (Nat × Nat)} : ∀ (ps : List (Nat × A)) (zs xs : List A), putParts pl zs ps = some xs → szs xs = szs zs ∧ ∀ y ∈ xs, ∃ z, z ∈ zs ∧ y.sz = z.sz
  | [], zs, xs, h => by
    simp only [putParts] at h
    injection h with h
    subst h
    exact ⟨rfl, fun y hy => ⟨y, hy, rfl⟩⟩
  | (i, x) :: ps, zs, xs, h => by
    simp only [putParts] at h
    split at h
    · rename_i z off s hzi hpl
      split at h
      · rename_i hc
        obtain ⟨h1, h2⟩ := putParts_sizes ps _ xs h
        refine ⟨h1.trans (szs_set hzi hc.1.symm), fun y hy => ?_⟩
        obtain ⟨q, hq, hqs⟩ := h2 y hy
        rcases List.mem_or_eq_of_mem_set hq with hq | hq
        · exact ⟨q, hq, hqs⟩
        · subst hq
          exact ⟨z, List.mem_of_getElem? hzi, hqs.trans hc.1.symm⟩
      · simp at h
    · simp at h

theorem aBuild_sound {o : Oper} {t : TypeId} {ps : Array (Nat × Operand)} {xs : List A} {eff : Eff} {l : List Nat} (ho : o.op = .build t ps) (R : RelW c st a w loc S Fm)
    (hx : All2 (fun x z => TV z (envOf c st w loc S) (a.eval x)) (ps.toList.map (·.2)) xs) (r : RM.Runs st.bk (aBuild P t (partsOf ps.toList xs)) eff l) : Done P c (st.app eff) a o w eff.val := by
  have hexec : ∀ cs, P.built t (ps.toList.map fun q => (q.1, a.eval q.2)) = some cs → (execOp a.eval o).run P w = .ok (.value (.agg cs)) w := by
    intro cs h
    have := run_build (P := P) w t (ps.map fun (i, x) => (i, a.eval x)) cs (by simpa using h)
    simp [execOp, ho, this]
  unfold aBuild at r
  split at r
  · rename_i zs hz
    split at r
    · rename_i pl hpl
      split at r
      · rename_i ys hp
        obtain ⟨i, v, hi, hv, hV⟩ := tZero_info hz
        have hV' := hV (envOf c st w loc S)
        simp only [VR] at hV'
        obtain ⟨cs', h1, h2, _⟩ := putParts_sound (e := envOf c st w loc S) _ _ zs ys v.cells hp (zip_all2 _ _ hx (putParts_good _ _ _ hp)) hV'
        refine done_effV R r (hexec cs' ?_) ?_
        · unfold tPlaces at hpl
          split at hpl
          · rename_i fs hu
            simp only [Program.built, hi, hu, hv, hpl]
            rw [← h1]
            congr 1
            funext k
            simp
          · simp at hpl
        · rw [TV_good rfl, VV_mk_agg rfl]
          exact ⟨cs', rfl, by simpa only [VR] using h2⟩
      · exact (runs_fail r).elim
    · exact (runs_fail r).elim
  · rename_i n zs hz
    split at r
    · rename_i q e s ht
      split at r
      · rename_i ys hp
        split at r
        · rename_i hall
          obtain ⟨i, v, hi, hv, hV⟩ := tZero_info hz
          have hV' := hV (envOf c st w loc S)
          simp only [VR] at hV'
          obtain ⟨h0, ⟨s0, hs0⟩, hV'⟩ := hV'
          have hA := zip_all2 _ _ hx (putParts_good _ _ _ hp)
          have hA' : All2 (fun (q : Nat × A) (v : Nat × Value) => q.1 = v.1 ∧ VV q.2 (envOf c st w loc S).shut v.2 []) (partsOf ps.toList xs) (ps.toList.map fun q => (q.1, a.eval q.2)) := by
            have key : ∀ (qs : List (Nat × A)) (vs : List (Nat × Value)), (∀ q ∈ qs, (q.2.closed && q.2.nobor) = true) → All2 (fun (q : Nat × A) (v : Nat × Value) => q.1 = v.1 ∧ VV q.2 (envOf c st w loc S) v.2 []) qs vs →
                All2 (fun (q : Nat × A) (v : Nat × Value) => q.1 = v.1 ∧ VV q.2 (envOf c st w loc S).shut v.2 []) qs vs := by
              intro qs
              induction qs with
              | nil => intro vs _ h; cases h; exact .nil
              | cons q qs ih =>
                intro vs hc h
                cases h with
                | cons h1 h2 =>
                  have hq := hc q (by simp)
                  simp only [Bool.and_eq_true] at hq
                  exact .cons ⟨h1.1, h1.2.imp (fun ⟨x, cs, y, z⟩ => ⟨x, cs, y, VR_shut hq.1 hq.2 z⟩) (fun ⟨x, y⟩ => ⟨x, VR_shut hq.1 hq.2 y⟩)⟩ (ih _ (fun q hq => hc q (by simp [hq])) h2)
            exact key _ _ (fun q hq => List.all_eq_true.1 hall q hq) hA
          obtain ⟨cs', h1, h2, h3⟩ := putParts_sound (e := (envOf c st w loc S).shut) _ _ zs ys v.cells hp hA' hV'
          obtain ⟨hu, hes⟩ := tArr_some ht
          obtain ⟨ie, hie, hie2⟩ := tSize_some hes
          refine done_effV R r (hexec cs' ?_) ?_
          · simp only [Program.built, hi, hu, hv, hie, hie2]
            exact h1
          · rw [TV_good rfl, VV_mk_agg rfl]
            refine ⟨cs', rfl, ?_⟩
            simp only [VR]
            have hsz := putParts_sizes _ _ _ hp
            refine ⟨?_, ⟨s0, fun y hy => ?_⟩, h2⟩
            · rw [← h0, VRs_len _ _ _ _ h2, VRs_len _ _ _ _ hV', hsz.1]
            · obtain ⟨z', hz', hzz⟩ := hsz.2 y hy
              rw [hzz]; exact hs0 z' hz'
        · exact (runs_fail r).elim
      · exact (runs_fail r).elim
    · exact (runs_fail r).elim
  · exact (runs_fail r).elim

end
end Go.PA
