/- PA18: rows that are made, and appended to. -/
import Derived.Test.YtmacfbboiippoaaPA17
namespace Go.PA
section
variable {P : Program} {c : Ctx} {st : St} {a : Act} {w : World} {loc : Nat → Option (Option Nat)} {S : Nat → Prop} {Fm : Nat → List Nat}

theorem runs_effN {bk : Nat → Option Blk} {z : A} {d : Nat} {b : Blk} {y : Eff} {l : List Nat} (h : RM.Runs bk (effN z d b) y l) : y = ⟨z, [(d, some b)], [d]⟩ := (runs_ret h).1

theorem VRs_replicate {z : A} {e : Env} {us : List Value} (h : VR z e us []) : ∀ n : Nat, VRs (List.replicate n z) e (List.replicate n us).flatten []
  | 0 => by simp [VRs]
  | n + 1 => by
    have := VRs_cons h (VRs_replicate h n)
    simpa [List.replicate_succ] using this

theorem madeCells_flat (z : Array Value) (hz : 0 < z.size) (n : Nat) : (madeCells z (n * z.size)).toList = (List.replicate n z.toList).flatten := by
  induction n with
  | zero => simp [madeCells]
  | succ n ih =>
    rw [List.replicate_succ', List.flatten_append, ← ih]
    simp only [madeCells, List.flatten_singleton]
    apply List.ext_getElem?
    intro i
    rw [Array.toList_map, Array.toList_map, Array.toList_range, Array.toList_range, List.getElem?_map]
    by_cases h1 : i < n * z.size
    · rw [List.getElem?_append_left (by simpa using h1), List.getElem?_map, List.getElem?_range h1, List.getElem?_range (by rw [Nat.add_mul]; omega)]
    · rw [List.getElem?_append_right (by simpa using Nat.le_of_not_lt h1)]
      simp only [List.length_map, List.length_range]
      by_cases h2 : i < (n + 1) * z.size
      · rw [List.getElem?_range h2]
        have h3 : i - n * z.size < z.size := by rw [Nat.add_mul] at h2; omega
        have h4 : i % z.size = i - n * z.size := by
          have h5 : i = (i - n * z.size) + n * z.size := by omega
          conv => lhs; rw [h5, Nat.add_mul_mod_self_right]
          exact Nat.mod_eq_of_lt h3
        simp only [Option.map_some, h4]
        rw [getElem!_pos z _ h3, Array.getElem?_toList, Array.getElem?_eq_getElem h3]
      · rw [List.getElem?_eq_none (by simpa using Nat.le_of_not_lt h2)]
        simp only [Option.map_none]
        rw [List.getElem?_eq_none]
        simp; rw [Nat.add_mul] at h2; omega

theorem aMake_sound {o : Oper} {t : TypeId} {x y : Operand} {n : Nat} {k k' : IntKind} {l m : Int} {eff : Eff} {rd : List Nat} (ho : o.op = .makeSlice t x y) (R : RelW c st a w loc S Fm) (hn : st.ids n = false)
    (hx : a.eval x = .int k l) (hy : a.eval y = .int k' m) (r : RM.Runs st.bk (aMake P n t l m) eff rd) : Done P c (st.app eff) a o w eff.val := by
  unfold aMake at r
  split at r
  · rename_i e s ht
    split at r
    · rename_i z eb hz heb
      split at r
      · rename_i hs
        obtain ⟨⟨h0, h1, h2, h3⟩, r⟩ := runs_req r
        obtain rfl := runs_effN r
        obtain ⟨hu, hes⟩ := tSlice_some ht
        obtain ⟨i, v, hi, hv, hV⟩ := tZero_info hz
        have hsz : i.size = s := by
          obtain ⟨i', hi', h⟩ := tSize_some hes
          rw [hi] at hi'; injection hi' with hi'; subst hi'; exact h
        have hby : i.bytes = eb := by
          simp [tBytes, hi] at heb; exact heb
        have hvs : v.cells.size = s := by
          have := VR_len _ _ _ _ (hV (envOf c st w loc S))
          rw [hs.1] at this
          simpa using this
        have hrun := run_make (P := P) w t e i v hu hi hv k k' l m h0 h1 (by rw [hby]; exact h3) h2
        have hcells : (madeCells v.cells (m.toNat * i.size)).toList = (List.replicate m.toNat v.cells.toList).flatten := by
          rw [hsz, ← hvs]; exact madeCells_flat _ (by omega) _
        refine done_row (s := s) (k := m.toNat) (us := (List.replicate l.toNat v.cells.toList).flatten) R hn rfl rfl rfl rfl hs.2 (fun x hx => ?_) (VRs_replicate (hV _) _) ?_ ?_ ?_ ?_ ?_
          (cs := madeCells v.cells (m.toNat * i.size)) (ty := e)
        · rw [List.eq_of_mem_replicate hx]; exact hs.1
        · simp; omega
        · simp [maxLen]; omega
        · rw [size_madeCells, hsz]
        · rw [hcells]
          have : m.toNat = l.toNat + (m.toNat - l.toNat) := by omega
          rw [this, ← List.replicate_append_replicate, List.flatten_append]
          exact List.take_left
        · have e1 : (List.replicate l.toNat z).length = l.toNat := by simp
          rw [e1]
          simp only [execOp, ho, hx, hy, Sem.run_bind, hrun, Result.andThen_ok, Sem.run_pure]
      · exact (runs_fail r).elim
    · exact (runs_fail r).elim
  · exact (runs_fail r).elim

theorem parts_shut {e : Env} : ∀ (qs : List (Nat × A)) (vs : List (Nat × Value)), (∀ q ∈ qs, (q.2.closed && q.2.nobor) = true) → All2 (fun (q : Nat × A) (v : Nat × Value) => q.1 = v.1 ∧ VV q.2 e v.2 []) qs vs →
    All2 (fun (q : Nat × A) (v : Nat × Value) => q.1 = v.1 ∧ VV q.2 e.shut v.2 []) qs vs := by
  intro qs
  induction qs with
  | nil => intro vs _ h; cases h; exact .nil
  | cons q qs ih =>
    intro vs hc h
    cases h with
    | cons h1 h2 =>
      have hq := hc q (by simp)
      simp only [Bool.and_eq_true] at hq
      exact .cons ⟨h1.1, h1.2.imp (fun ⟨x, cs, y, z⟩ => ⟨x, cs, y, VR_shut hq.1 hq.2 z⟩) (fun ⟨x, y⟩ => ⟨x, VR_shut hq.1 hq.2 y⟩)⟩ (ih _ (fun q hq => hc q (by simp [hq])) h2)

theorem aBuildSlice_sound {o : Oper} {t : TypeId} {len n : Nat} {ps : Array (Nat × Operand)} {xs : List A} {eff : Eff} {l : List Nat} (ho : o.op = .buildSlice t len ps) (R : RelW c st a w loc S Fm) (hn : st.ids n = false)
    (hx : All2 (fun x z => TV z (envOf c st w loc S) (a.eval x)) (ps.toList.map (·.2)) xs) (r : RM.Runs st.bk (aBuildSlice P n t len (partsOf ps.toList xs)) eff l) : Done P c (st.app eff) a o w eff.val := by
  unfold aBuildSlice at r
  split at r
  · rename_i e s ht
    split at r
    · rename_i z hz
      split at r
      · rename_i hs
        split at r
        · rename_i ys hp
          split at r
          · rename_i hall
            obtain rfl := runs_effN r
            obtain ⟨hu, hes⟩ := tSlice_some ht
            obtain ⟨i, v, hi, hv, hV⟩ := tZero_info hz
            have hsz : i.size = s := by
              obtain ⟨i', hi', h⟩ := tSize_some hes
              rw [hi] at hi'; injection hi' with hi'; subst hi'; exact h
            have hvs : v.cells.size = s := by
              have := VR_len _ _ _ _ (hV (envOf c st w loc S))
              rw [hs.1] at this
              simpa using this
            have hcells : (madeCells v.cells (len * s)).toList = (List.replicate len v.cells.toList).flatten := by
              rw [← hvs]; exact madeCells_flat _ (by omega) _
            have hA := parts_shut _ _ (fun q hq => List.all_eq_true.1 hall q hq) (zip_all2 _ _ hx (putParts_good _ _ _ hp))
            obtain ⟨cs', h1, h2, h3⟩ := putParts_sound (e := (envOf c st w loc S).shut) _ _ _ ys (madeCells v.cells (len * s)) hp hA (by rw [hcells]; exact VRs_replicate (hV _) _)
            have hps := putParts_sizes _ _ _ hp
            have hlen : ys.length = len := by rw [h3]; simp
            have hall' : ∀ y ∈ ys, y.sz = s := fun y hy => by
              obtain ⟨q, hq, hqs⟩ := hps.2 y hy
              rw [hqs, List.eq_of_mem_replicate hq]; exact hs.1
            have hcs : cs'.size = len * s := by
              rw [← Array.length_toList, VRs_len _ _ _ _ h2, szs_const hall', hlen]
            refine done_row (s := s) (k := len) (us := cs'.toList) R hn rfl rfl rfl rfl hs.2.1 hall' h2 (by omega) ?_ hcs (List.take_length) (cs := cs') (ty := e) ?_
            · have : len ≤ len * s := Nat.le_mul_of_pos_right _ hs.2.1
              simp [maxLen]; omega
            · have hbig : ¬ (len * s > 2 ^ 24) := by omega
              rw [hlen]
              by_cases hl0 : len * s = 0
              · have h1' : Instr.fill (fun i => some (i * s, s)) #[] (ps.toList.map fun q => (q.1, a.eval q.2)) = some cs' := by
                  rw [← h1, hl0]
                  simp [madeCells, Array.range_zero']
                simp [execOp, ho, Instr.buildSlice, run_underlying hu, sizeOf, typeInfo, hi, hsz, hl0, newRow, Array.range_zero', h1']
              · simp [execOp, ho, Instr.buildSlice, run_underlying hu, sizeOf, typeInfo, hi, hsz, hbig, hl0, zeroValue, hv, newRow]
                have h1' : Instr.fill (fun i => some (i * s, s)) (((Array.range (len * s)).map (v.cells[· % v.cells.size]!))) (ps.toList.map fun q => (q.1, a.eval q.2)) = some cs' := h1
                simp [h1']
          · exact (runs_fail r).elim
        · exact (runs_fail r).elim
      · exact (runs_fail r).elim
    · exact (runs_fail r).elim
  · exact (runs_fail r).elim

end
end Go.PA
