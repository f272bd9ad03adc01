/- PA11: loads and stores are sound. -/
import Derived.Test.YtmacfbboiippoaaPA10
namespace Go.PA
section
variable {P : Program} {c : Ctx} {st : St} {a : Act} {w : World} {loc : Nat → Option (Option Nat)} {S : Nat → Prop} {Fm : Nat → List Nat}

theorem VV_TV {x : A} {e : Env} {y : Value} (h : VV x e y []) : TV x e y := (TV_good (VV_isAgg h)).2 h

theorem VV_open {x : A} {e : Env} {y : Value} {F : List Nat} (h : VV x e.shut y F) : VV x e y F := VV_mono (e.shut_le F) h

theorem aLoad_sound {o : Oper} {t : TypeId} {x : Operand} {p : A} {eff : Eff} {l : List Nat} (ho : o.op = .load t x) (R : RelW c st a w loc S Fm)
    (hx : TV p (envOf c st w loc S) (a.eval x)) (r : RM.Runs st.bk (aLoad P t p) eff l) : Done P c (st.app eff) a o w eff.val := by
  unfold aLoad at r
  split at r
  · rename_i d ps
    obtain ⟨hid, ad, hy, hloc⟩ := TV_ptr hx
    obtain ⟨b, l', hb, r, _⟩ := runs_rd r
    have hB := R.bks d b hb
    cases b with
    | var z =>
      obtain ⟨z1, l1, l2, r1, r, _⟩ := RM.runs_bind r
      split at r
      · rename_i hty
        obtain ⟨z2, l3, l4, r2, r3, _⟩ := RM.runs_bind r
        have := shaped_eq r2; subst this; clear r
        split at r3
        · rename_i hno
          obtain ⟨g, cs, ty, Fx, h1, h2, h3, h4⟩ := hB
          obtain ⟨pre, us, post, Fy, h5, h6, h7, h8⟩ := getP_sound ps _ _ _ _ _ h3 r1
          obtain ⟨g', hg', rfl⟩ := hloc _ h1
          injection hg' with hg'; subst hg'
          obtain ⟨y, hr, hv⟩ := run_load_VV (P := P) (w := w) hty.1 hty.2 h7 (cells_at h2 ⟨[], by simpa using h5⟩ h6)
          obtain rfl := VR_noown _ _ _ _ hno h7
          exact done_effV R r3 (exec_load ho hy hr) (VV_TV hv)
        · exact (runs_fail r3).elim
      · exact (runs_fail r).elim
    | row s xs =>
      obtain ⟨z1, l1, l2, r1, r, _⟩ := RM.runs_bind r
      obtain ⟨z2, l3, l4, r2, r3, _⟩ := RM.runs_bind r
      have := shaped_eq r2; subst this; clear r
      split at r3
      · rename_i hty
        obtain ⟨h0, hss, ⟨_, h2, _⟩ | ⟨g, cs, ty, k, us, Fx, h1, h2, h3, h4, h5, h6, h7, h8⟩⟩ := hB
        · subst h2
          cases ps with
          | nil => simp only [getR] at r1; exact (runs_fail r1).elim
          | cons p ps =>
            cases p <;> simp only [getR] at r1
            · exact (runs_fail r1).elim
            · split at r1
              · have := (runs_req r1).1; simp at this
              · exact (runs_fail r1).elim
        · obtain ⟨pre, us', post, Fy, h9, h10, h11, h12⟩ := getR_sound hss h6 r1
          obtain ⟨g', hg', rfl⟩ := hloc _ h1
          injection hg' with hg'; subst hg'
          obtain ⟨rest, hrest⟩ := take_append_drop' h7
          obtain ⟨y, hr, hv⟩ := run_load_VV (P := P) (w := w) hty.1 hty.2.1 h11 (cells_at h4 ⟨rest, by rw [hrest, h9]⟩ h10)
          obtain rfl := VR_noown _ _ _ _ hty.2.2 h11
          exact done_effV R r3 (exec_load ho hy hr) (VV_TV (VV_open hv))
      · exact (runs_fail r3).elim
    | froz s xs =>
      obtain ⟨z1, l1, l2, r1, r, _⟩ := RM.runs_bind r
      obtain ⟨z2, l3, l4, r2, r3, _⟩ := RM.runs_bind r
      have := shaped_eq r2; subst this; clear r
      split at r3
      · rename_i hty
        obtain ⟨h0, h00, hss, ⟨_, h2⟩ | ⟨g, cs, ty, us, h1, h3, h4, h5, h6, h7⟩⟩ := hB
        · subst h2
          cases ps with
          | nil => simp only [getR] at r1; exact (runs_fail r1).elim
          | cons p ps =>
            cases p <;> simp only [getR] at r1
            · exact (runs_fail r1).elim
            · split at r1
              · have := (runs_req r1).1; simp at this
              · exact (runs_fail r1).elim
        · obtain ⟨pre, us', post, Fy, h9, h10, h11, h12⟩ := getR_sound hss h6 r1
          obtain ⟨g', hg', rfl⟩ := hloc _ h1
          injection hg' with hg'; subst hg'
          obtain ⟨rest, hrest⟩ := take_append_drop' h7
          obtain ⟨y, hr, hv⟩ := run_load_VV (P := P) (w := w) hty.1 hty.2.1 h11 (cells_at h4 ⟨rest, by rw [hrest, h9]⟩ h10)
          obtain rfl := VR_noown _ _ _ _ hty.2.2 h11
          exact done_effV R r3 (exec_load ho hy hr) (VV_TV (VV_open hv))
      · exact (runs_fail r3).elim
  · rename_i q z
    obtain ⟨z2, l3, l4, r2, r3, _⟩ := RM.runs_bind r
    have := shaped_eq r2; subst this; clear r
    split at r3
    · rename_i hty
      rw [TV_good rfl, VV_mk rfl] at hx
      simp only [VR] at hx
      obtain ⟨_, ad, us, hy, hok, hz, hcell⟩ := hx
      injection hy with hy
      obtain ⟨y, hr, hv⟩ := run_load_VV (P := P) (w := w) hty.1 hty.2.1 hz hcell
      refine done_effV R r3 (exec_load ho hy hr) (VV_TV (VV_mono ?_ hv))
      cases q
      · exact Env.close_le _ _
      · exact Env.shut_le _ _
    · exact (runs_fail r3).elim
  · exact (runs_fail r).elim

/-! stores -/
theorem plain_oneCell {x : Value} (h : plainV x = true) : x.oneCell' = true := by cases x <;> simp_all [plainV, Value.oneCell']
mutual
theorem VR_one : ∀ (x : A) (e : Env) (us : List Value) (F : List Nat), VR x e us F → ∀ u ∈ us, u.oneCell' = true
  | .v x, e, us, F, h => by simp only [VR] at h; obtain ⟨h1, rfl, _⟩ := h; simp [plain_oneCell h1]
  | .und, e, us, F, h => by simp [VR] at h
  | .agg xs, e, us, F, h => by simp only [VR] at h; exact VRs_one xs e us F h
  | .arr tot xs, e, us, F, h => by simp only [VR] at h; exact VRs_one xs _ us F h.2.2
  | .sl p xs, e, us, F, h => by simp only [VR] at h; obtain ⟨_, a, k, ws, rfl, _⟩ := h; simp [Value.oneCell']
  | .osl s xs, e, us, F, h => by
    simp only [VR] at h
    rcases h with ⟨_, _, ⟨_, rfl, _⟩ | ⟨g, cs, ty, k, ws, Fx, rfl, _⟩⟩ <;> simp [Value.oneCell']
  | .rp p a, e, us, F, h => by simp only [VR] at h; obtain ⟨_, ad, ws, rfl, _⟩ := h; simp [Value.oneCell']
  | .box a, e, us, F, h => by simp only [VR] at h; obtain ⟨g, cs, ty, Fx, rfl, _⟩ := h; simp [Value.oneCell']
  | .ref .., e, us, F, h => by simp only [VR] at h; obtain ⟨_, _, a, k, rfl, _⟩ := h; simp [Value.oneCell']
  | .aref .., e, us, F, h => by simp only [VR] at h; obtain ⟨_, _, a, k, rfl, _⟩ := h; simp [Value.oneCell']
  | .ptr .., e, us, F, h => by simp only [VR] at h; obtain ⟨_, _, a, rfl, _⟩ := h; simp [Value.oneCell']
  | .clo .., e, us, F, h => by simp only [VR] at h; obtain ⟨_, _, _, _, rfl, _⟩ := h; simp [Value.oneCell']
  | .ifc .., e, us, F, h => by simp only [VR] at h; obtain ⟨_, rfl, _⟩ := h; simp [Value.oneCell']
  | .tup _, e, us, F, h => by simp [VR] at h
  | .mp .., e, us, F, h => by simp [VR] at h
  | .mref _, e, us, F, h => by simp [VR] at h
theorem VRs_one : ∀ (xs : List A) (e : Env) (us : List Value) (F : List Nat), VRs xs e us F → ∀ u ∈ us, u.oneCell' = true
  | [], e, us, F, h => by simp only [VRs] at h; simp [h.1]
  | x :: xs, e, us, F, h => by
    simp only [VRs] at h
    obtain ⟨us1, us2, F1, F2, rfl, rfl, h1, h2⟩ := h
    intro u hu
    rcases List.mem_append.1 hu with hu | hu
    · exact VR_one x e us1 F1 h1 u hu
    · exact VRs_one xs e us2 F2 h2 u hu
end

theorem VV_cells {x : A} {e : Env} {y : Value} {F : List Nat} (h : VV x e y F) : VR x e y.cells.toList F ∧ y.cells.size = x.sz := by
  rcases h with ⟨h1, cs, rfl, h2⟩ | ⟨h1, h2⟩
  · exact ⟨h2, by have := VR_len _ _ _ _ h2; simpa [Value.cells] using this⟩
  · have hone := VR_one _ _ _ _ h2 y (by simp)
    have hc : y.cells = #[y] := by cases y <;> first | rfl | (simp [Value.oneCell'] at hone)
    rw [hc]
    exact ⟨h2, by have := VR_len _ _ _ _ h2; simpa using this⟩

theorem setRow_cells {w : World} {g : Nat} {cs : Array Value} {ty : TypeId} (cs' : Array Value) (hg : w.heap[g]? = some (.cells cs ty (0, 0))) : (w.setRow g cs').heap[g]? = some (.cells cs' ty (0, 0)) :=
  setRow_heap w g cs cs' ty _ hg

theorem run_storeVar {t : TypeId} {y : Value} {n g off : Nat} {cs : Array Value} {ty : TypeId} (hs : tSize P t = some n) (hy : y.cells.size = n) (h1 : ∀ u ∈ y.cells.toList, u.oneCell' = true)
    (hg : w.heap[g]? = some (.cells cs ty (0, 0))) (hfit : off + n ≤ cs.size) :
    (storeVar t ⟨g, off, none⟩ y).run P w = .ok () (w.setRow g (cs.toList.take off ++ y.cells.toList ++ cs.toList.drop (off + n)).toArray) := by
  have hst := run_storeCells_at P g off ty y.cells.toList 0 cs w hg (by simp; omega) h1
  simp only [Nat.add_zero] at hst
  have ha : (⟨g, off, none⟩ : Addr) = (⟨g, 0, none⟩ : Addr).add off := by rw [add_cell]; simp
  simp only [storeVar, Sem.run_bind, run_sizeOf hs, Result.andThen_ok, hy, ne_eq, not_true_eq_false, if_false]
  rw [hst]
  simp [hy]

end
end Go.PA
