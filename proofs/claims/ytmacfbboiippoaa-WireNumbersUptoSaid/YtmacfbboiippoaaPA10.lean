/- PA10: loads. -/
import Derived.Test.YtmacfbboiippoaaPA9
namespace Go.PA
section
variable {P : Program} {c : Ctx} {st : St} {a : Act} {w : World} {loc : Nat → Option (Option Nat)} {S : Nat → Prop} {Fm : Nat → List Nat}

theorem tSize_some {t : TypeId} {n : Nat} (h : tSize P t = some n) : ∃ i, P.info? t = some i ∧ i.size = n := by
  unfold tSize at h
  cases hi : P.info? t with
  | none => simp [hi] at h
  | some i => exact ⟨i, rfl, by simpa [hi] using h⟩
theorem run_sizeOf {t : TypeId} {n : Nat} (h : tSize P t = some n) (w : World) : (sizeOf t).run P w = .ok n w := by
  obtain ⟨i, h1, rfl⟩ := tSize_some h
  simp [sizeOf, typeInfo, h1]
theorem run_isAgg {t : TypeId} {b : Bool} (h : tAgg P t = some b) (w : World) : (isAgg t).run P w = .ok b w := by
  unfold tAgg at h
  cases hu : P.underlying t with
  | none => simp [hu] at h
  | some d =>
    simp [hu] at h
    subst h
    unfold isAgg
    rw [Sem.run_bind, run_underlying hu w]
    cases d <;> rfl

theorem run_load_VV {x : A} {e : Env} {t : TypeId} {us : List Value} {Fx : List Nat} {ad : Addr} (hs : tSize P t = some x.sz) (ha : tAgg P t = some x.isAgg) (hx : VR x e us Fx)
    (hc : ∀ j u, us[j]? = some u → w.cell? (ad.add j) = some u) : ∃ y, (loadVar t ad).run P w = .ok y w ∧ VV x e y Fx := by
  have hl := VR_len x e us Fx hx
  cases hag : x.isAgg with
  | true =>
    rw [hag] at ha
    have := run_loadCells_list (P := P) w ad us hc
    rw [hl] at this
    refine ⟨.agg us.toArray, ?_, (VV_mk_agg hag).2 ⟨_, rfl, by simpa using hx⟩⟩
    simp [loadVar, run_isAgg ha, run_sizeOf hs, this]
  | false =>
    rw [hag] at ha
    have h1 : us.length = 1 := by
      rw [hl]
      cases x <;> simp_all [A.isAgg, A.sz, VR]
    obtain ⟨u, rfl⟩ : ∃ u, us = [u] := List.length_eq_one_iff.1 h1
    have h0 := hc 0 u (by simp)
    have hadd : ad.add 0 = ad := by simp [Addr.add]
    rw [hadd] at h0
    refine ⟨u, ?_, (VV_mk hag).2 hx⟩
    simp [loadVar, run_isAgg ha, h0]

theorem shaped_eq {bk : Nat → Option Blk} {k : TK} {x y : A} {l : List Nat} (r : RM.Runs bk (shaped k x) y l) : y = x := by
  cases k <;> simp only [shaped] at r
  case int k => obtain ⟨⟨n, rfl⟩, r⟩ := runs_req r; obtain ⟨rfl, _⟩ := runs_ret r; rfl
  case bool => obtain ⟨⟨n, rfl⟩, r⟩ := runs_req r; obtain ⟨rfl, _⟩ := runs_ret r; rfl
  case str => obtain ⟨⟨n, rfl⟩, r⟩ := runs_req r; obtain ⟨rfl, _⟩ := runs_ret r; rfl
  case other => obtain ⟨rfl, _⟩ := runs_ret r; rfl

theorem exec_load {o : Oper} {t : TypeId} {x : Operand} {ad : Addr} {y : Value} (ho : o.op = .load t x) (hx : a.eval x = .pointer (some ad)) (hr : (loadVar t ad).run P w = .ok y w) :
    (execOp a.eval o).run P w = .ok (.value y) w := by
  simp [execOp, ho, hx, Instr.loadAt, Instr.sureAddr, hr]

theorem add_cell {g o j : Nat} : (⟨g, o, none⟩ : Addr).add j = ⟨g, o + j, none⟩ := by
  unfold Addr.add; split <;> simp_all

theorem cells_at {cs : Array Value} {g : Nat} {ty : TypeId} {pre us post : List Value} {o : Nat} (hg : w.heap[g]? = some (.cells cs ty (0, 0))) (hcs : ∃ rest, cs.toList = pre ++ us ++ post ++ rest) (hp : pre.length = o) :
    ∀ j u, us[j]? = some u → w.cell? ((⟨g, o, none⟩ : Addr).add j) = some u := by
  intro j u hu
  obtain ⟨rest, hcs⟩ := hcs
  rw [add_cell, cell_of_row w g _ cs ty _ hg, ← Array.getElem?_toList, hcs, ← hp, List.append_assoc, List.append_assoc, List.getElem?_append_right (by omega)]
  have hj : j < us.length := (List.getElem?_eq_some_iff.1 hu).1
  rw [show pre.length + j - pre.length = j by omega, List.getElem?_append_left hj]
  exact hu

theorem TV_ptr {d : Nat} {p : List PS} {e : Env} {y : Value} (h : TV (.ptr d p) e y) : e.ids d = true ∧ ∃ ad, y = .pointer (some ad) ∧ ∀ l, e.loc d = some l → ∃ g, l = some g ∧ ad = ⟨g, offP p, none⟩ := by
  rw [TV_good rfl, VV_mk rfl] at h
  simp only [VR] at h
  obtain ⟨_, hi, ad, h1, h2⟩ := h
  injection h1 with h1
  exact ⟨hi, ad, h1, h2⟩

/-- What a row's path leads to. -/
theorem getR_sound {bk : Nat → Option Blk} {e : Env} {xs : List A} {s : Nat} {ps : List PS} {x : A} {l : List Nat} {us : List Value} {F : List Nat} (hs : ∀ x ∈ xs, x.sz = s)
    (h : VRs xs e.shut us F) (r : RM.Runs bk (getR xs s ps) x l) : ∃ pre us' post Fx, us = pre ++ us' ++ post ∧ pre.length = offP ps ∧ VR x e.shut us' Fx ∧ ∀ g ∈ Fx, g ∈ F := by
  cases ps with
  | nil => simp only [getR] at r; exact (runs_fail r).elim
  | cons p ps =>
    cases p with
    | fld k off => simp only [getR] at r; exact (runs_fail r).elim
    | idx i s' =>
      simp only [getR] at r
      split at r
      · rename_i hss
        subst hss
        obtain ⟨hi, r⟩ := runs_req r
        have hx : xs[i]? = some (xs.getD i .und) := by
          simp [List.getD_eq_getElem?_getD, List.getElem?_eq_getElem hi]
        obtain ⟨pre, u1, post, F1, Fx, F2, rfl, rfl, h1, h2, _⟩ := VRs_at xs e.shut us F i _ h hx
        obtain ⟨pre', us', post', Fx', rfl, h3, h4, h5⟩ := getP_sound ps _ _ _ x l h2 r
        refine ⟨pre ++ pre', us', post' ++ post, Fx', by simp, ?_, h4, fun g hg => by simp [h5 g hg]⟩
        rw [szs_take_const hs (Nat.le_of_lt hi)] at h1
        simp [offP, PS.off, h1, h3]
      · exact (runs_fail r).elim

theorem take_append_drop' {cs : List Value} {us : List Value} (h : cs.take us.length = us) : ∃ rest, cs = us ++ rest :=
  ⟨cs.drop us.length, by conv => lhs; rw [← List.take_append_drop us.length cs, h]⟩

end
end Go.PA
