/- PA14: addresses, parts, slices. -/
import Derived.Test.YtmacfbboiippoaaPA13
namespace Go.PA
section
variable {P : Program} {c : Ctx} {st : St} {a : Act} {w : World} {loc : Nat → Option (Option Nat)} {S : Nat → Prop} {Fm : Nat → List Nat}

theorem offP_append (p q : List PS) : offP (p ++ q) = offP p + offP q := by
  induction p with
  | nil => simp [offP]
  | cons x p ih => simp [offP, ih]; omega

theorem TV_mkptr {d : Nat} {p : List PS} {e : Env} {ad : Addr} (hi : e.ids d = true) (h : ∀ l, e.loc d = some l → ∃ g, l = some g ∧ ad = ⟨g, offP p, none⟩) : TV (.ptr d p) e (.pointer (some ad)) := by
  rw [TV_good rfl, VV_mk rfl]
  simp only [VR]
  exact ⟨trivial, hi, ad, rfl, h⟩

theorem tFld_some {t ft : TypeId} {k off fs : Nat} (h : tFld P t k = some (off, ft, fs)) : ∃ fields f, P.underlying t = some (.struct fields) ∧ fields[k]? = some f ∧ f.offset = off ∧ f.type = ft ∧ tSize P ft = some fs := by
  unfold tFld at h
  split at h
  · rename_i fields hu
    cases hf : fields[k]? with
    | none => simp [hf] at h
    | some f =>
      simp only [hf, Option.bind_some] at h
      cases hi : P.info? f.type with
      | none => simp [hi] at h
      | some i =>
        simp only [hi, Option.map_some, Option.some.injEq, Prod.mk.injEq] at h
        obtain ⟨h1, h2, h3⟩ := h
        exact ⟨fields, f, hu, hf, h1, h2, by simp [tSize, ← h2, hi, h3]⟩
  · simp at h

theorem exec_fieldAddr {o : Oper} {t ft : TypeId} {x : Operand} {k off fs : Nat} {ad : Addr} (ho : o.op = .fieldAddr t x k) (ht : tFld P t k = some (off, ft, fs)) (hfs : fs ≠ 0) (hx : a.eval x = .pointer (some ad)) :
    (execOp a.eval o).run P w = .ok (.value (.pointer (some (ad.add off)))) w := by
  obtain ⟨fields, f, hu, hf, rfl, rfl, hsz⟩ := tFld_some ht
  simp [execOp, ho, hx, Instr.fieldAt, run_underlying hu, hf, Instr.sureAddr, fieldPlace, run_sizeOf hsz, hfs]

theorem aFieldAddr_sound {o : Oper} {t : TypeId} {x : Operand} {k : Nat} {p : A} {eff : Eff} {l : List Nat} (ho : o.op = .fieldAddr t x k) (R : RelW c st a w loc S Fm)
    (hx : TV p (envOf c st w loc S) (a.eval x)) (r : RM.Runs st.bk (aFieldAddr P t p k) eff l) : Done P c (st.app eff) a o w eff.val := by
  unfold aFieldAddr at r
  split at r
  · rename_i off ft fs ht
    split at r
    · exact (runs_fail r).elim
    · rename_i hfs
      split at r
      · rename_i d ps
        obtain ⟨hid, ad, hy, hloc⟩ := TV_ptr hx
        refine done_effV R r (exec_fieldAddr ho ht hfs hy) (TV_mkptr hid fun l hl => ?_)
        obtain ⟨g, h1, rfl⟩ := hloc l hl
        exact ⟨g, h1, by rw [add_cell, offP_append]; simp [offP, PS.off]⟩
      · rename_i q xs
        split at r
        · rename_i y hy
          split at r
          · rename_i hoff
            rw [TV_good rfl, VV_mk rfl] at hx
            simp only [VR] at hx
            obtain ⟨_, ad, us, hv, hok, hz, hcell⟩ := hx
            injection hv with hv
            obtain ⟨pre, u1, post, F1, Fx, F2, rfl, e2, h1, h2, _⟩ := VRs_at xs _ us [] k y hz hy
            simp at e2
            obtain ⟨rfl, rfl, rfl⟩ := e2
            refine done_effV R r (exec_fieldAddr ho ht hfs hv) ?_
            rw [TV_good rfl, VV_mk rfl]
            simp only [VR]
            refine ⟨trivial, ad.add off, u1, rfl, by rw [block_add]; exact hok, h2, fun j u hu => ?_⟩
            have hadd : (ad.add off).add j = ad.add (off + j) := by
              unfold Addr.add
              by_cases h0 : off = 0 <;> by_cases h00 : j = 0 <;> simp [h0, h00, Nat.add_assoc]
            rw [hadd]
            refine hcell (off + j) u ?_
            have hj : j < u1.length := (List.getElem?_eq_some_iff.1 hu).1
            rw [← hoff, ← h1, List.append_assoc, List.getElem?_append_right (by omega), show pre.length + j - pre.length = j by omega, List.getElem?_append_left hj]
            exact hu
          · exact (runs_fail r).elim
        · exact (runs_fail r).elim
      · exact (runs_fail r).elim
  · exact (runs_fail r).elim

theorem addr_add_add (ad : Addr) (i j : Nat) : (ad.add i).add j = ad.add (i + j) := by
  unfold Addr.add
  by_cases h0 : i = 0 <;> by_cases h00 : j = 0 <;> simp [h0, h00, Nat.add_assoc]

/-- A part of a read-only thing. -/
theorem TV_rp {q : Bool} {e : Env} {ad : Addr} {off : Nat} {us pre u1 post : List Value} {y : A} (hok : e.ok q ad.block) (hus : us = pre ++ u1 ++ post) (hp : pre.length = off)
    (hcell : ∀ j u, us[j]? = some u → e.w.cell? (ad.add j) = some u) (h : VR y (e.cl q) u1 []) : TV (.rp q y) e (.pointer (some (ad.add off))) := by
  rw [TV_good rfl, VV_mk rfl]
  simp only [VR]
  refine ⟨trivial, ad.add off, u1, rfl, by rw [block_add]; exact hok, h, fun j u hu => ?_⟩
  rw [addr_add_add]
  refine hcell (off + j) u ?_
  have hj : j < u1.length := (List.getElem?_eq_some_iff.1 hu).1
  rw [hus, ← hp, List.append_assoc, List.getElem?_append_right (by omega), show pre.length + j - pre.length = j by omega, List.getElem?_append_left hj]
  exact hu

theorem part_run {t : TypeId} {x : A} {e : Env} {cs : Array Value} {pre us post : List Value} {off : Nat} (hcs : cs.toList = pre ++ us ++ post) (hp : pre.length = off) (hx : VR x e us [])
    (hs : tSize P t = some x.sz) (ha : tAgg P t = some x.isAgg) : ∃ y, (part t cs off).run P w = .ok y w ∧ VV x e y [] := by
  have hl := VR_len _ _ _ _ hx
  cases hag : x.isAgg with
  | true =>
    rw [hag] at ha
    refine ⟨.agg us.toArray, ?_, (VV_mk_agg hag).2 ⟨_, rfl, by simpa using hx⟩⟩
    simp only [part, Sem.run_bind, run_isAgg ha, Result.andThen_ok, if_true, run_sizeOf hs, Sem.run_pure]
    congr 2
    apply Array.toList_inj.1
    simp [Array.toList_extract, hcs, ← hp, ← hl]
  | false =>
    rw [hag] at ha
    have h1 : us.length = 1 := by
      rw [hl]
      cases x <;> simp_all [A.isAgg, A.sz, VR]
    obtain ⟨u, rfl⟩ : ∃ u, us = [u] := List.length_eq_one_iff.1 h1
    refine ⟨u, ?_, (VV_mk hag).2 hx⟩
    have hget : cs[off]? = some u := by
      rw [← Array.getElem?_toList, hcs, ← hp]
      simp
    simp [part, run_isAgg ha, hget]

theorem aField_sound {o : Oper} {t : TypeId} {x : Operand} {k : Nat} {p : A} {eff : Eff} {l : List Nat} (ho : o.op = .field t x k) (R : RelW c st a w loc S Fm)
    (hx : TV p (envOf c st w loc S) (a.eval x)) (r : RM.Runs st.bk (aField P t p k) eff l) : Done P c (st.app eff) a o w eff.val := by
  unfold aField at r
  split at r
  · rename_i off ft fs xs ht
    split at r
    · rename_i y hy
      split at r
      · rename_i hoff
        obtain ⟨y2, l1, l2, r1, r2, _⟩ := RM.runs_bind r
        have := shaped_eq r1; subst this
        split at r2
        · rename_i hag
          rw [TV_good rfl, VV_mk_agg rfl] at hx
          obtain ⟨cs, hv, hx⟩ := hx
          simp only [VR] at hx
          obtain ⟨pre, u1, post, F1, Fx, F2, e1, e2, h1, h2, _⟩ := VRs_at xs _ _ [] k _ hx hy
          simp at e2
          obtain ⟨rfl, rfl, rfl⟩ := e2
          obtain ⟨fields, f, hu, hf, rfl, rfl, hsz⟩ := tFld_some ht
          obtain ⟨z, hr, hz⟩ := part_run (P := P) (w := w) e1 (h1.trans hoff.1) h2 (by rw [hoff.2]; exact hsz) hag
          refine done_effV R r2 ?_ (VV_TV hz)
          simp [execOp, ho, hv, Instr.field, run_underlying hu, hf, asAgg, hr]
        · exact (runs_fail r2).elim
      · exact (runs_fail r).elim
    · exact (runs_fail r).elim
  · exact (runs_fail r).elim

theorem aLen_sound {o : Oper} {k : Call} {x : Operand} {p : A} {eff : Eff} {l : List Nat} (ho : o.op = .call k) (hk : k.callee = .builtin .len) (hargs : k.args = #[x]) (R : RelW c st a w loc S Fm)
    (hx : TV p (envOf c st w loc S) (a.eval x)) {t : TypeId} (hT : k.argTypes[0]? = some t) (r : RM.Runs st.bk (aLen P t p) eff l) : Done P c (st.app eff) a o w eff.val := by
  have hexec : ∀ y, (Builtin.len_ k.argTypes o.type #[a.eval x]).run P w = .ok y w → (execOp a.eval o).run P w = .ok (.value y) w := by
    intro y hy
    simp only [execOp, ho, resolve, hk, hargs, invoke, builtin, Sem.run_bind, Sem.run_pure, Result.andThen_ok, List.map_toArray, List.map_cons, List.map_nil, hy]
  unfold aLen at r
  split at r
  · rename_i s hu
    rw [TV_v] at hx
    refine done_effV R r (hexec _ ?_) (by rw [TV_v]; exact ⟨rfl, rfl⟩)
    simp [Builtin.len_, hT, hx.2, run_underlying hu, goInt]
  · rename_i n e hu
    refine done_effV R r (hexec _ ?_) (by rw [TV_v]; exact ⟨rfl, rfl⟩)
    simp [Builtin.len_, hT, run_underlying hu, goInt]
  · rename_i e q xs hu
    rw [TV_good rfl, VV_mk rfl] at hx
    simp only [VR] at hx
    obtain ⟨_, b, k', us, hv, _⟩ := hx
    injection hv with hv
    refine done_effV R r (hexec _ ?_) (by rw [TV_v]; exact ⟨rfl, rfl⟩)
    simp [Builtin.len_, hT, hv, run_underlying hu, goInt]
  · rename_i e s xs hu
    rw [TV_good rfl, VV_mk rfl] at hx
    simp only [VR] at hx
    refine done_effV R r (hexec (.int .i64 xs.length) ?_) (by rw [TV_v]; exact ⟨rfl, rfl⟩)
    rcases hx with ⟨_, _, ⟨h1, h2, _⟩ | ⟨g, cs, ty, k', us, Fx, h2, _⟩⟩
    · injection h2 with h2
      simp [Builtin.len_, hT, h2, run_underlying hu, goInt, h1]
    · injection h2 with h2
      simp [Builtin.len_, hT, h2, run_underlying hu, goInt]
  · rename_i e d s off len full hu
    rw [TV_good rfl, VV_mk rfl] at hx
    simp only [VR] at hx
    obtain ⟨_, _, b, k', hv, _⟩ := hx
    injection hv with hv
    refine done_effV R r (hexec _ ?_) (by rw [TV_v]; exact ⟨rfl, rfl⟩)
    simp [Builtin.len_, hT, hv, run_underlying hu, goInt]
  · rename_i e d p' s off len hu
    rw [TV_good rfl, VV_mk rfl] at hx
    simp only [VR] at hx
    obtain ⟨_, _, b, k', hv, _⟩ := hx
    injection hv with hv
    refine done_effV R r (hexec _ ?_) (by rw [TV_v]; exact ⟨rfl, rfl⟩)
    simp [Builtin.len_, hT, hv, run_underlying hu, goInt]
  · exact (runs_fail r).elim

end
end Go.PA
