/- PA32: whatever the order drawn. -/
import Derived.Test.YtmacfbboiippoaaPA31
namespace Go.PA

section
variable {ops : Array Oper}

theorem inner_bits {acc : Array Nat} {i : Nat} : ∀ {l : List Edge} {s : Nat}, (l.foldl (fun s e => if Region.binds .any e then s ||| 2 ^ e.on ||| acc.getD e.on 0 else s) s).testBit i = true →
    s.testBit i = true ∨ ∃ e ∈ l, Region.binds .any e = true ∧ (e.on = i ∨ (acc.getD e.on 0).testBit i = true)
  | [], s, h => .inl h
  | e :: l, s, h => by
    simp only [List.foldl_cons] at h
    rcases inner_bits h with h | ⟨e', he', h1, h2⟩
    · split at h
      · rename_i hb
        rw [Nat.testBit_or, Nat.testBit_or, Bool.or_eq_true, Bool.or_eq_true] at h
        rcases h with (h | h) | h
        · exact .inl h
        · refine .inr ⟨e, by simp, hb, .inl ?_⟩
          rw [Nat.testBit_two_pow] at h
          simpa using h
        · exact .inr ⟨e, by simp, hb, .inr h⟩
      · exact .inl h
    · exact .inr ⟨e', by simp [he'], h1, h2⟩

theorem before_fold {L : Nat → Prop} (hcl : ∀ j o, L j → ops[j]? = some o → ∀ e ∈ o.after, Region.binds .any e = true → L e.on) :
    ∀ (l : List Oper) (acc : Array Nat), ops.toList.drop acc.size = l → (∀ j o, ops[j]? = some o → (∀ e ∈ o.after, Region.binds .any e = true → L e.on) → ∀ i, (acc.getD j 0).testBit i = true → L i) →
      ∀ j o, ops[j]? = some o → (∀ e ∈ o.after, Region.binds .any e = true → L e.on) → ∀ i,
        ((l.foldl (fun acc o => acc.push (o.after.foldl (fun s e => if Region.binds .any e then s ||| 2 ^ e.on ||| acc.getD e.on 0 else s) 0)) acc).getD j 0).testBit i = true → L i
  | [], acc, _, h => h
  | o' :: l, acc, hl, h => by
    simp only [List.foldl_cons]
    have ho' : ops[acc.size]? = some o' := by
      have := congrArg List.head? hl
      rw [List.head?_drop] at this
      simpa using this
    refine before_fold hcl l _ ?_ ?_
    · rw [Array.size_push, ← List.drop_drop, hl]
      rfl
    · intro j o ho hj i hb
      rw [Array.getD_eq_getD_getElem?, Array.getElem?_push] at hb
      split at hb
      · rename_i hjs
        subst hjs
        rw [ho] at ho'
        injection ho' with ho'
        subst ho'
        simp only [Option.getD_some, ← Array.foldl_toList] at hb
        rcases inner_bits hb with hb | ⟨e, he, h1, h2⟩
        · simp at hb
        · have he' : e ∈ o.after := by simpa using he
          rcases h2 with h2 | h2
          · rw [← h2]; exact hj e he' h1
          · have hLe := hj e he' h1
            cases hoe : ops[e.on]? with
            | some oe => exact h e.on oe hoe (fun e' he' hb' => hcl e.on oe hLe hoe e' he' hb') i h2
            | none =>
              exfalso
              have hsz : ops.size ≤ e.on := by simpa using hoe
              have : acc.size < ops.size := by
                have := congrArg List.length hl
                simp at this
                omega
              rw [Array.getD_eq_getD_getElem?, Array.getElem?_eq_none (by omega)] at h2
              simp at h2
      · refine h j o ho hj i ?_
        rw [Array.getD_eq_getD_getElem?]
        exact hb

theorem before_spec {L : Nat → Prop} (hcl : ∀ j o, L j → ops[j]? = some o → ∀ e ∈ o.after, Region.binds .any e = true → L e.on) {j i : Nat} {o : Oper} (ho : ops[j]? = some o)
    (hj : ∀ e ∈ o.after, Region.binds .any e = true → L e.on) (hb : ((Region.before ops).getD j 0).testBit i = true) : L i := by
  refine before_fold hcl ops.toList #[] (by simp) (fun j o ho hj i h => by simp at h) j o ho hj i ?_
  rw [Array.foldl_toList]
  exact hb

/-- Edges lead back. -/
def edgesBack (ops : Array Oper) : Bool := (List.range ops.size).all fun i => ((ops[i]?).map fun o => o.after.all fun e => !Region.binds .any e || decide (e.on < i)).getD false

/-- Every two operations are in a given order, or apart. -/
def drawOk (ops : Array Oper) (ep : Nat) : List (Nat × FP) → Bool
  | [] => true
  | x :: l => (l.all fun y => ((Region.before ops).getD y.1 0).testBit x.1 || indep ops ep x y) && drawOk ops ep l

end
section
variable {P : Program} {M : FuncId → List Bool} {n : Nat × List Bool} {ops : Array Oper} {st st' : St}

theorem drawOk_split : ∀ {pre : List (Nat × FP)} {x : Nat × FP} {post : List (Nat × FP)} {ep : Nat}, drawOk ops ep (pre ++ x :: post) = true →
    (∀ y ∈ pre, ((Region.before ops).getD x.1 0).testBit y.1 = true ∨ indep ops ep y x = true) ∧ drawOk ops ep (pre ++ post) = true
  | [], x, post, ep, h => by
    simp only [List.nil_append, drawOk, Bool.and_eq_true] at h ⊢
    exact ⟨by simp, h.2⟩
  | y :: pre, x, post, ep, h => by
    simp only [List.cons_append, drawOk, Bool.and_eq_true, List.all_eq_true] at h ⊢
    obtain ⟨h1, h2⟩ := drawOk_split h.2
    refine ⟨fun z hz => ?_, fun z hz => h.1 z ?_, h2⟩
    · rcases List.mem_cons.1 hz with rfl | hz
      · exact (Bool.or_eq_true_iff).1 (h.1 x (by simp))
      · exact h1 z hz
    · simp only [List.mem_append, List.mem_cons] at hz ⊢
      exact hz.imp id .inr

theorem linearise_go (fuel t : Nat) (listed : Array Bool) : Region.linearise.go .any ops (fuel + 1) t listed [] =
    match (Region.ready .any ops listed)[t % (Region.ready .any ops listed).length]? with
    | some i => i :: Region.linearise.go .any ops fuel (t / (Region.ready .any ops listed).length) (listed.setIfInBounds i true) []
    | none => [] := by
  simp only [Region.linearise.go]
  change (match (Region.ready .any ops listed)[t % (Region.ready .any ops listed).length]? with
      | some i => Region.linearise.go .any ops fuel (t / (Region.ready .any ops listed).length) (listed.setIfInBounds i true) [i]
      | none => [].reverse) = _
  split
  · rw [linearise_go_acc, List.reverse_singleton, List.singleton_append]
  · rfl

/-- The least operation not yet done is ready. -/
theorem ready_ne {listed : Array Bool} (hb : edgesBack ops = true) (hs : listed.size = ops.size) {i : Nat} (hi : listed.getD i true = false) : Region.ready .any ops listed ≠ [] := by
  induction i using Nat.strongRecOn with
  | _ i ih =>
    have hlt : i < ops.size := by
      rcases Nat.lt_or_ge i ops.size with h | h
      · exact h
      · rw [Array.getD_eq_getD_getElem?, Array.getElem?_eq_none (by omega)] at hi
        simp at hi
    by_cases hr : i ∈ Region.ready .any ops listed
    · intro he
      rw [he] at hr
      simp at hr
    · rw [mem_ready] at hr
      simp only [hi, true_and, not_exists, not_and, Classical.not_forall] at hr
      have ho : ops[i]? = some ops[i] := by simp [hlt]
      obtain ⟨e, he, hbd, hne⟩ := hr _ ho
      have hlti : e.on < i := by
        simp only [edgesBack, List.all_eq_true, List.mem_range] at hb
        have := hb i hlt
        rw [ho] at this
        simp only [Option.map_some, Option.getD_some, Array.all_eq_true_iff_forall_mem] at this
        have := this e he
        simpa [hbd] using this
      refine ih e.on hlti ?_
      have h2 : e.on < listed.size := by omega
      rw [Array.getD_eq_getD_getElem?] at hne ⊢
      rw [Array.getElem?_eq_getElem h2] at hne ⊢
      simpa using hne

theorem Run.drawn (hb : edgesBack ops = true) : ∀ (fuel t : Nat) (listed : Array Bool) (L : List (Nat × FP)) (st : St), L.length = fuel → listed.size = ops.size → (∀ i, i ∈ L.map (·.1) ↔ listed.getD i true = false) → (L.map (·.1)).Nodup →
    (∀ j o, listed.getD j false = true → ops[j]? = some o → ∀ e ∈ o.after, Region.binds .any e = true → listed.getD e.on false = true) → drawOk ops st.ep L = true → Run P M n ops L st st' →
    ∃ L', Run P M n ops L' st st' ∧ L'.map (·.1) = Region.linearise.go .any ops fuel t listed []
  | 0, t, listed, L, st, hl, hs, hi, hn, hc, hd, r => ⟨L, r, by cases L <;> simp_all [Region.linearise.go]⟩
  | fuel + 1, t, listed, L, st, hl, hs, hi, hn, hc, hd, r => by
    rw [linearise_go]
    obtain ⟨x, L0, rfl⟩ := List.exists_cons_of_length_eq_add_one hl
    have hne := ready_ne hb hs ((hi x.1).1 (by simp))
    cases hk : (Region.ready .any ops listed)[t % (Region.ready .any ops listed).length]? with
    | none =>
      exfalso
      have hlt : t % (Region.ready .any ops listed).length < (Region.ready .any ops listed).length := Nat.mod_lt _ (List.length_pos_iff.2 hne)
      simp at hk
      omega
    | some i =>
      dsimp only
      have hir := List.mem_of_getElem? hk
      rw [mem_ready] at hir
      obtain ⟨hnl, o, ho, hrd⟩ := hir
      obtain ⟨y, hy, hyi⟩ := List.mem_map.1 ((hi i).2 hnl)
      obtain ⟨pre, post, hpp⟩ := List.append_of_mem hy
      rw [hpp] at r hd hn
      obtain ⟨hd1, hd2⟩ := drawOk_split hd
      have hcl : ∀ j o, listed.getD j false = true → ops[j]? = some o → ∀ e ∈ o.after, Region.binds .any e = true → listed.getD e.on false = true := hc
      have hpre : ∀ z ∈ pre, indep ops st.ep z y = true := fun z hz => by
        rcases hd1 z hz with h | h
        · exfalso
          have h3 : listed.getD z.1 false = true := before_spec (L := fun j => listed.getD j false = true) hcl (j := y.1) (o := o) (by rw [hyi]; exact ho) hrd h
          have h4 : listed.getD z.1 true = false := (hi z.1).1 (by rw [hpp]; simp only [List.map_append, List.mem_append]; exact .inl (List.mem_map.2 ⟨z, hz, rfl⟩))
          rw [Array.getD_eq_getD_getElem?] at h3 h4
          cases hz : listed[z.1]? <;> simp_all
        · exact h
      have r2 := r.front hpre
      cases r2 with
      | cons ho' hd' s' r2 =>
        rename_i i' o' z up nw rs
        simp only at hyi
        subst hyi
        have hn2 : ((pre ++ post).map (·.1)).Nodup ∧ i' ∉ (pre ++ post).map (·.1) := by
          simp only [List.map_append, List.map_cons] at hn ⊢
          have hp := (List.perm_middle.nodup_iff).1 hn
          rw [List.nodup_cons] at hp
          exact ⟨hp.2, hp.1⟩
        have hils : i' < listed.size := by
          rw [hs]
          exact (Array.getElem?_eq_some_iff.1 ho).1
        obtain ⟨L', rL, hL⟩ := Run.drawn hb fuel (t / (Region.ready .any ops listed).length) (listed.setIfInBounds i' true) (pre ++ post) _ (by
            have := congrArg List.length hpp
            simp at this hl ⊢
            omega) (by simpa using hs) (fun j => by
            have hj := hi j
            rw [hpp] at hj
            simp only [List.map_append, List.map_cons, List.mem_append, List.mem_cons] at hj ⊢
            by_cases hji : j = i'
            · subst hji
              have h5 : (listed.setIfInBounds j true).getD j true = true := by simp [Array.getD_eq_getD_getElem?, hils]
              rw [h5]
              have h6 := hn2.2
              simp only [List.map_append, List.mem_append] at h6
              exact ⟨fun h => (h6 h).elim, fun h => by cases h⟩
            · rw [getD_set_ne true (fun e => hji e.symm), ← hj]
              simp [hji]) hn2.1 (fun j o2 hj ho2 e he hbd => by
            by_cases hji : j = i'
            · subst hji
              rw [ho] at ho2
              injection ho2 with ho2
              subst ho2
              exact getD_set_true (hrd e he hbd)
            · rw [getD_set_ne false (fun e => hji e.symm)] at hj
              exact getD_set_true (hc j o2 hj ho2 e he hbd)) (by rw [go_ep]; exact hd2) r2
        exact ⟨_, .cons ho' hd' s' rL, by rw [List.map_cons, hL]⟩

/-- What the text's order shows, every order drawn shows. -/
theorem Run.schedule {L : List (Nat × FP)} (hb : edgesBack ops = true) (hm : P.follows .mixedOrders = true) (hL : L.map (·.1) = List.range ops.size) (hd : drawOk ops st.ep L = true) (r : Run P M n ops L st st') (t : Nat) :
    ∃ L', Run P M n ops L' st st' ∧ L'.map (·.1) = Region.schedule (P.follows .mixedOrders) ops t := by
  have hlen : L.length = ops.size := by
    have := congrArg List.length hL
    simpa using this
  obtain ⟨L', r', h'⟩ := r.drawn hb ops.size t (Array.replicate ops.size false) L _ hlen (by simp) (fun i => by
    rw [hL, List.mem_range, Array.getD_eq_getD_getElem?]
    rcases Nat.lt_or_ge i ops.size with h | h
    · simp [h]
    · rw [Array.getElem?_eq_none (by simpa using h)]
      simp; omega) (by rw [hL]; exact List.nodup_range) (fun j o hj => by
    rw [Array.getD_eq_getD_getElem?, Array.getElem?_replicate] at hj
    split at hj <;> simp at hj) hd
  refine ⟨L', r', ?_⟩
  rw [h']
  simp [Region.schedule, hm, Region.linearise]

end
end Go.PA
