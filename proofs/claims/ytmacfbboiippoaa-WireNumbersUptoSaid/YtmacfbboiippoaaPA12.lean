/- PA12: stores are sound; allocations. -/
import Derived.Test.YtmacfbboiippoaaPA11
namespace Go.PA
section
variable {P : Program} {c : Ctx} {st : St} {a : Act} {w : World} {loc : Nat → Option (Option Nat)} {S : Nat → Prop} {Fm : Nat → List Nat}

theorem shape_cells {w : World} {g : Nat} {cs : Array Value} {ty : TypeId} {fr : Nat × Nat} (h : w.heap[g]? = some (.cells cs ty fr)) : w.shape? g = some (ty, cs.size) := by
  simp [World.shape?, h]

/-- A block of the frame's own is written over. -/
theorem RelW.rewrite (R : RelW c st a w loc S Fm) {d g : Nat} {b' : Blk} {cs cs' : Array Value} {ty : TypeId} {F' : List Nat}
    (hlive : st.bk d ≠ none) (hg : w.heap[g]? = some (.cells cs ty (0, 0))) (hgF : g ∈ Fm d) (hsz : cs'.size = cs.size) (hF' : ∀ x ∈ F', x ∈ Fm d) (hnd : F'.Nodup) (z : A)
    (hB : ∀ e', e'.w = w.setRow g cs' → e'.loc = loc → (∀ F : List Nat, (∀ x ∈ F, x < w.heap.size ∧ x ≠ g) → (envOf c st w loc S).Le e' F) → BkR e' d b' F') :
    RelW c (st.app ⟨z, [(d, some b')], []⟩) a (w.setRow g cs') loc S (fun d' => if d' = d then F' else Fm d') := by
  have hother : ∀ x, x ≠ g → (w.setRow g cs').heap[x]? = w.heap[x]? := fun x hx => setRow_other w g x cs' hx
  have hst : Step c st w loc S Fm (fun x => x = g) (st.app ⟨z, [(d, some b')], []⟩) (w.setRow g cs') loc S (fun d' => if d' = d then F' else Fm d') := by
    refine ⟨fun t => rfl, fun x hx => ⟨d, by rw [hx]; exact hgF⟩, fun x _ hx => hother x hx, fun x hx => ?_, by simp, rfl, rfl, rfl, fun _ h => h, fun _ h => .inl h,
      fun x hx => by simpa using R.fram.bd x (.inl hx), fun d hd => by simp [St.app, hd], fun _ _ _ h => h, fun x => ?_⟩
    rotate_left
    · by_cases hxg : x.block = g
      · rw [frozen_plain (cs := cs') (ty := ty) (by rw [hxg]; exact setRow_cells cs' hg), frozen_plain (cs := cs) (ty := ty) (by rw [hxg]; exact hg)]
      · exact frozen_heap (hother _ hxg)
    by_cases hxg : x = g
    · subst hxg
      rw [shape_cells hg, shape_cells (setRow_cells cs' hg), hsz]
    · rw [shape_of_heap (hother x hxg)]
  refine R.next hst (fun d' b hb' => ?_) (fun d' hd => ?_) (fun d' hd => ?_) (fun d' => ?_) (fun d1 d2 hne x hx => ?_) (fun d' x hx => ?_)
  · by_cases hd : d' = d
    · subst hd
      simp only [St.app, List.foldl_cons, List.foldl_nil, upd, if_true] at hb'
      injection hb' with hb'
      subst hb'
      right
      simp only [if_true]
      exact hB _ rfl rfl fun F hF => hst.le R hF
    · simp only [St.app, List.foldl_cons, List.foldl_nil, upd, if_neg hd] at hb'
      exact .inl ⟨hb', rfl, by simp [hd], fun x hx hxg => R.disj d' d hd x hx (hxg ▸ hgF)⟩
  · have hne : d' ≠ d := fun e => by subst e; simp [St.app, upd] at hd
    simp only [St.app, List.foldl_cons, List.foldl_nil, upd, if_neg hne] at hd
    simpa [hne] using R.dead d' hd
  · by_cases hdn : d' = d
    · subst hdn; simp [St.app, R.known d' hlive]
    · simp only [St.app, List.foldl_cons, List.foldl_nil, upd, if_neg hdn] at hd
      simp [St.app, R.known d' hd]
  · by_cases hdn : d' = d <;> simp [hdn, R.nodup d', hnd]
  · by_cases h1 : d1 = d <;> by_cases h2 : d2 = d <;> simp only [h1, h2, if_true, if_false] at hx ⊢
    · exact absurd (h1.trans h2.symm) hne
    · exact R.disj d d2 (fun e => h2 e.symm) x (hF' x hx)
    · exact fun h => R.disj d1 d h1 x hx (hF' x h)
    · exact R.disj d1 d2 hne x hx
  · by_cases hdn : d' = d
    · simp only [hdn, if_true] at hx
      exact ⟨.inl ⟨d, hF' x hx⟩, (R.own d x (hF' x hx)).1, by simpa using R.fmLt (hF' x hx)⟩
    · simp only [if_neg hdn] at hx
      exact ⟨.inl ⟨d', hx⟩, (R.own d' x hx).1, by simpa using R.fmLt hx⟩

theorem exec_store {o : Oper} {t : TypeId} {x v : Operand} {ad : Addr} {y : Value} {w' : World} (ho : o.op = .store t x v) (hx : a.eval x = .pointer (some ad)) (hv : a.eval v = y) (hr : (storeVar t ad y).run P w = .ok () w') :
    (execOp a.eval o).run P w = .ok .skip w' := by
  simp [execOp, ho, hx, hv, Instr.storeAt, Instr.sureAddr, hr]

theorem done_skip {o : Oper} {st' : St} {w' : World} {loc' : Nat → Option (Option Nat)} {S' : Nat → Prop} {Fm' : Nat → List Nat} (h : (execOp a.eval o).run P w = .ok .skip w') (R : RelW c st' a w' loc' S' Fm') : Done P c st' a o w .und :=
  ⟨_, undef, w', loc', S', Fm', h, .inr ⟨rfl, rfl⟩, R, by simp [TV]⟩

theorem setR_sound {bk : Nat → Option Blk} {e : Env} {xs : List A} {s : Nat} {ps : List PS} {b : A} {xs' : List A} {l : List Nat} {us : List Value} {F : List Nat} (hs : ∀ x ∈ xs, x.sz = s)
    (h : VRs xs e.shut us F) (r : RM.Runs bk (setR xs s b ps) xs' l) : ∃ pre u0 post F1 Fx F2, us = pre ++ u0 ++ post ∧ F = F1 ++ Fx ++ F2 ∧ pre.length = offP ps ∧ u0.length = b.sz ∧ (∀ x ∈ xs', x.sz = s) ∧ xs'.length = xs.length ∧
      ∀ us' Fy, VR b e.shut us' Fy → VRs xs' e.shut (pre ++ us' ++ post) (F1 ++ Fy ++ F2) := by
  cases ps with
  | nil => simp only [setR] at r; exact (runs_fail r).elim
  | cons p ps =>
    cases p with
    | fld k off => simp only [setR] at r; exact (runs_fail r).elim
    | idx i s' =>
      simp only [setR] at r
      split at r
      · rename_i hss
        subst hss
        obtain ⟨hi, r⟩ := runs_req r
        obtain ⟨y, l1, l2, r1, r2, _⟩ := RM.runs_bind r
        obtain ⟨rfl, _⟩ := runs_ret r2
        have hx : xs[i]? = some (xs.getD i .und) := by
          simp [List.getD_eq_getElem?_getD, List.getElem?_eq_getElem hi]
        obtain ⟨pre, u1, post, F1, Fx, F2, rfl, rfl, h1, h2, h3⟩ := VRs_at xs e.shut us F i _ h hx
        obtain ⟨pre', us', post', G1, Gx, G2, x, rfl, rfl, h4, h5, h6, h7, h8, h9⟩ := setP_sound ps _ b e.shut _ _ y l1 h2 r1
        rw [szs_take_const hs (Nat.le_of_lt hi)] at h1
        refine ⟨pre ++ pre', us', post' ++ post, F1 ++ G1, Gx, G2 ++ F2, by simp, by simp, by simp [offP, PS.off, h1, h4], h5, fun z hz => ?_, by simp, fun us'' Fy hy => ?_⟩
        · rcases List.mem_or_eq_of_mem_set hz with hz | hz
          · exact hs z hz
          · subst hz; rw [h7]; exact hs _ (List.mem_of_getElem? hx)
        · have := h3 y _ _ (h9 us'' Fy hy)
          simpa using this
      · exact (runs_fail r).elim

theorem nodup_mid {F1 Fx F2 : List Nat} {g : Nat} (h : (g :: (F1 ++ Fx ++ F2)).Nodup) : (g :: (F1 ++ F2)).Nodup := by
  simp only [List.nodup_cons, List.mem_append, List.nodup_append] at h ⊢
  grind

theorem aStore_sound {o : Oper} {t : TypeId} {x v : Operand} {p z : A} {eff : Eff} {l : List Nat} (ho : o.op = .store t x v) (R : RelW c st a w loc S Fm)
    (hx : TV p (envOf c st w loc S) (a.eval x)) (hv : TV z (envOf c st w loc S) (a.eval v)) (r : RM.Runs st.bk (aStore P t p z) eff l) : Done P c (st.app eff) a o w eff.val := by
  unfold aStore at r
  split at r
  · rename_i hty
    rw [TV_good hty.2] at hv
    obtain ⟨hvc, hvs⟩ := VV_cells hv
    have h1c := VR_one _ _ _ _ hvc
    split at r
    · rename_i d ps
      obtain ⟨hid, ad, hy, hloc⟩ := TV_ptr hx
      obtain ⟨b, l', hb, r, _⟩ := runs_rd r
      have hB := R.bks d b hb
      cases b with
      | var q =>
        obtain ⟨q', l1, l2, r1, r2, _⟩ := RM.runs_bind r
        obtain ⟨rfl, _⟩ := runs_ret r2
        obtain ⟨g, cs, ty, Fx, h1, h2, h3, h4⟩ := hB
        obtain ⟨g', hg', rfl⟩ := hloc _ h1
        injection hg' with hg'; subst hg'
        obtain ⟨pre, us, post, F1, Fy, F2, x', e1, e2, h5, h6, h7, h8, h9, h10⟩ := setP_sound ps _ z _ _ _ q' l1 h3 r1
        have hsz : cs.size = pre.length + us.length + post.length := by rw [← Array.length_toList, e1]; simp; omega
        have hnew : cs.toList.take (offP ps) ++ (a.eval v).cells.toList ++ cs.toList.drop (offP ps + z.sz) = pre ++ (a.eval v).cells.toList ++ post := by
          rw [e1, ← h5, ← h6]
          simp
        have hrun := run_storeVar (P := P) (off := offP ps) hty.1 hvs h1c h2 (by omega)
        rw [hnew] at hrun
        subst e2
        refine done_skip (exec_store ho hy rfl hrun) (R.rewrite (F' := g :: (F1 ++ F2)) (by rw [hb]; simp) h2 (by rw [h4]; simp) ?_ (fun x hx => ?_) (nodup_mid (h4 ▸ R.nodup d)) _ fun e' he1 he2 he3 => ?_)
        · simp [hsz, hvs, h6]; omega
        · rw [h4]; simp at hx ⊢; rcases hx with hx | hx | hx <;> simp [hx]
        · have hnd := h4 ▸ R.nodup d
          refine ⟨g, _, ty, F1 ++ F2, by rw [he2]; exact h1, by rw [he1]; exact setRow_cells _ h2, ?_, rfl⟩
          have := h10 _ [] hvc
          simp only [List.append_nil] at this
          refine VR_mono _ _ _ _ _ (he3 _ fun x hx => ⟨R.fmLt (d := d) (by rw [h4]; simp at hx ⊢; rcases hx with hx | hx <;> simp [hx]), fun hxg => ?_⟩) this
          subst hxg
          simp only [List.nodup_cons, List.mem_append] at hnd
          simp at hx
          rcases hx with hx | hx <;> simp [hx] at hnd
      | row s xs =>
        dsimp only at r
        split at r
        · rename_i hcl
          simp only [Bool.and_eq_true] at hcl
          obtain ⟨xs', l1, l2, r1, r2, _⟩ := RM.runs_bind r
          obtain ⟨rfl, _⟩ := runs_ret r2
          obtain ⟨h0, hss, ⟨_, hnil, _⟩ | ⟨g, cs, ty, k, us, Fx, h1, h2, h3, h4, h5, h6, h7, h8⟩⟩ := hB
          · subst hnil
            cases ps with
            | nil => simp only [setR] at r1; exact (runs_fail r1).elim
            | cons p ps =>
              cases p <;> simp only [setR] at r1
              · exact (runs_fail r1).elim
              · split at r1
                · have := (runs_req r1).1; simp at this
                · exact (runs_fail r1).elim
          · obtain ⟨g', hg', rfl⟩ := hloc _ h1
            injection hg' with hg'; subst hg'
            obtain ⟨pre, u0, post, F1, Fy, F2, e1, e2, h9, h10, h11, h12, h13⟩ := setR_sound hss h6 r1
            obtain ⟨rest, hrest⟩ := take_append_drop' h7
            have hsz : cs.size = pre.length + u0.length + post.length + rest.length := by rw [← Array.length_toList, hrest, e1]; simp; omega
            have hnew : cs.toList.take (offP ps) ++ (a.eval v).cells.toList ++ cs.toList.drop (offP ps + z.sz) = pre ++ (a.eval v).cells.toList ++ post ++ rest := by
              rw [hrest, e1, ← h9, ← h10]
              simp
            have hrun := run_storeVar (P := P) (off := offP ps) hty.1 hvs h1c h4 (by omega)
            rw [hnew] at hrun
            subst e2
            refine done_skip (exec_store ho hy rfl hrun) (R.rewrite (F' := g :: (F1 ++ F2)) (by rw [hb]; simp) h4 (by rw [h8]; simp) ?_ (fun x hx => ?_) (nodup_mid (h8 ▸ R.nodup d)) _ fun e' he1 he2 he3 => ?_)
            · simp [hsz, hvs, h10]; omega
            · rw [h8]; simp at hx ⊢; rcases hx with hx | hx | hx <;> simp [hx]
            · have hnd := h8 ▸ R.nodup d
              have := h13 _ [] (VR_shut hcl.1 hcl.2 hvc)
              simp only [List.append_nil] at this
              refine ⟨h0, h11, .inr ⟨g, _, ty, k, pre ++ (a.eval v).cells.toList ++ post, F1 ++ F2, by rw [he2]; exact h1, by omega, h3, by rw [he1]; exact setRow_cells _ h4, ?_, ?_, ?_, rfl⟩⟩
              · simp [← h5, hsz, hvs, h10]; omega
              · refine VRs_mono _ _ _ _ _ (he3 _ fun x hx => ⟨R.fmLt (d := d) (by rw [h8]; simp at hx ⊢; rcases hx with hx | hx <;> simp [hx]), fun hxg => ?_⟩).shut this
                subst hxg
                simp only [List.nodup_cons, List.mem_append] at hnd
                simp at hx
                rcases hx with hx | hx <;> simp [hx] at hnd
              · rw [List.toList_toArray]
                exact List.take_left' rfl
        · exact (runs_fail r).elim
      | froz s xs => exact (runs_fail r).elim
    · exact (runs_fail r).elim
  · exact (runs_fail r).elim

end
end Go.PA
