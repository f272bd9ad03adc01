/- PA44: the order drawn, looked at quickly. -/
import Derived.Test.YtmacfbboiippoaaPA43
import Derived.CheckFast
namespace Go.PA

def edgesBackL : Nat → List Oper → Bool
  | _, [] => true
  | i, o :: l => (o.after.toList.all fun e => !Region.binds .any e || Nat.blt e.on i) && edgesBackL (i + 1) l

theorem edgesBackL_ok {ops : Array Oper} : ∀ {l : List Oper} {i : Nat}, ops.toList.drop i = l → edgesBackL i l = true → ∀ j, i ≤ j → j < ops.size → ((ops[j]?).map fun o => o.after.all fun e => !Region.binds .any e || decide (e.on < j)).getD false = true
  | [], i, hl, h, j, h1, h2 => by
    have := congrArg List.length hl
    simp at this
    omega
  | o :: l, i, hl, h, j, h1, h2 => by
    simp only [edgesBackL, Bool.and_eq_true] at h
    have ho : ops[i]? = some o := by
      have := congrArg List.head? hl
      rw [List.head?_drop] at this
      simpa using this
    rcases Nat.eq_or_lt_of_le h1 with he | hlt
    · subst he
      rw [ho]
      simp only [Option.map_some, Option.getD_some]
      rw [← Array.all_toList]
      have h3 := h.1
      simp only [List.all_eq_true] at h3 ⊢
      intro e he
      have := h3 e he
      simpa [Nat.blt_eq] using this
    · exact edgesBackL_ok (by rw [← List.drop_drop, hl]; rfl) h.2 j hlt h2

theorem edgesBack_of {ops : Array Oper} (h : edgesBackL 0 ops.toList = true) : edgesBack ops = true := by
  simp only [edgesBack, List.all_eq_true, List.mem_range]
  exact fun j hj => edgesBackL_ok rfl h j (Nat.zero_le _) hj

def maskOf : List Nat → Nat → Nat
  | [], m => m
  | t :: l, m => maskOf l (m ||| 2 ^ t)
theorem maskOf_keep : ∀ {l : List Nat} {m t : Nat}, m.testBit t = true → (maskOf l m).testBit t = true
  | [], _, _, h => h
  | u :: l, m, t, h => by
    simp only [maskOf]
    exact maskOf_keep (by rw [Nat.testBit_or, h]; rfl)
theorem maskOf_mem : ∀ {l : List Nat} {m t : Nat}, t ∈ l → (maskOf l m).testBit t = true
  | u :: l, m, t, h => by
    simp only [maskOf]
    rcases List.mem_cons.1 h with h | h
    · subst h
      exact maskOf_keep (by rw [Nat.testBit_or, Nat.testBit_two_pow]; simp)
    · exact maskOf_mem h

def dstM (o : Oper) : Nat := match o.dst with
  | some d => 2 ^ d
  | none => 0
def looksM (ops : Array Oper) (o : Oper) : Nat := maskOf (o.looksAt ops) 0

def apartM (x y : Nat × Nat) : Bool := Nat.beq (Nat.land x.1 (Nat.lor y.1 y.2)) 0 && Nat.beq (Nat.land y.1 x.2) 0

theorem land_test {a b t : Nat} (h : Nat.beq (Nat.land a b) 0 = true) (ha : a.testBit t = true) : b.testBit t = false := by
  have h1 : a &&& b = 0 := Nat.eq_of_beq_eq_true h
  have h2 : (a &&& b).testBit t = false := by rw [h1, Nat.zero_testBit]
  rw [Nat.testBit_and, ha] at h2
  simpa using h2

theorem apartM_ok {ops : Array Oper} {x y : Oper} (h : apartM (dstM x, looksM ops x) (dstM y, looksM ops y) = true) : x.apart ops y = true := by
  simp only [apartM, Bool.and_eq_true] at h
  obtain ⟨h1, h2⟩ := h
  unfold Oper.apart
  rw [Bool.and_eq_true]
  constructor
  · cases hx : x.dst with
    | none => rfl
    | some d =>
      have hb : (dstM x).testBit d = true := by simp [dstM, hx]
      have h3 := land_test h1 hb
      have h4 : (dstM y ||| looksM ops y).testBit d = false := h3
      rw [Nat.testBit_or, Bool.or_eq_false_iff] at h4
      simp only [Bool.and_eq_true, Bool.not_eq_true', List.contains_eq_mem, decide_eq_false_iff_not, bne_iff_ne, ne_eq]
      refine ⟨fun hm => ?_, fun he => ?_⟩
      · have := maskOf_mem (m := 0) hm
        unfold looksM at h4
        rw [h4.2] at this
        cases this
      · have : (dstM y).testBit d = true := by simp [dstM, he]
        rw [h4.1] at this
        cases this
  · cases hy : y.dst with
    | none => rfl
    | some d =>
      have hb : (dstM y).testBit d = true := by simp [dstM, hy]
      have h3 := land_test h2 hb
      simp only [Bool.not_eq_true', List.contains_eq_mem, decide_eq_false_iff_not]
      intro hm
      have := maskOf_mem (m := 0) hm
      unfold looksM at h3
      rw [h3] at this
      cases this

def fpOk (ep : Nat) (x y : Nat × FP) : Bool :=
  x.2.ws.all (fun d => !(y.2.rs.contains d || y.2.ws.contains d)) && y.2.ws.all (fun d => !x.2.rs.contains d) &&
      x.2.nw.all (fun d => !(y.2.nw.contains d || d == ep + 64 * y.1)) && y.2.nw.all (fun d => !(d == ep + 64 * x.1))

def pairOk (E : List (Nat × Nat)) (B : List Nat) (ep : Nat) (x y : Nat × FP) : Bool :=
  (B.getD y.1 0).testBit x.1 || (match E[x.1]?, E[y.1]? with
    | some a, some b => apartM a b
    | _, _ => false) && fpOk ep x y

def drawChk (E : List (Nat × Nat)) (B : List Nat) (ep : Nat) : List (Nat × FP) → Bool
  | [] => true
  | x :: l => (l.all fun y => pairOk E B ep x y) && drawChk E B ep l

def beforeK : List Oper → Nat → List Nat → (List Nat → Bool) → Bool
  | [], _, acc, k => k acc.reverse
  | o :: rest, j, acc, k => CheckFast.force (CheckFast.one (fun i => if i < j then acc.getD (j - 1 - i) 0 else 0) o) fun v => beforeK rest (j + 1) (v :: acc) k

theorem beforeK_eq : ∀ {l : List Oper} {j : Nat} {acc : List Nat} {k : List Nat → Bool}, beforeK l j acc k = k (CheckFast.beforeL l j acc)
  | [], _, _, _ => rfl
  | o :: rest, j, acc, k => by
    simp only [beforeK, CheckFast.beforeL, CheckFast.force_eq]
    exact beforeK_eq

def entK (ops : Array Oper) : List Oper → List (Nat × Nat) → (List (Nat × Nat) → Bool) → Bool
  | [], acc, k => k acc.reverse
  | o :: rest, acc, k => CheckFast.force (dstM o) fun d => CheckFast.force (looksM ops o) fun m => entK ops rest ((d, m) :: acc) k

theorem entK_eq {ops : Array Oper} : ∀ {l : List Oper} {acc : List (Nat × Nat)} {k : List (Nat × Nat) → Bool}, entK ops l acc k = k (acc.reverse ++ l.map fun o => (dstM o, looksM ops o))
  | [], acc, k => by simp [entK]
  | o :: rest, acc, k => by
    simp only [entK, CheckFast.force_eq]
    rw [entK_eq]
    simp

def drawF (ops : Array Oper) (ep : Nat) (L : List (Nat × FP)) : Bool := beforeK ops.toList 0 [] fun B => entK ops ops.toList [] fun E => drawChk E B ep L

theorem pairOk_ok {ops : Array Oper} {ep : Nat} {x y : Nat × FP} (h : pairOk (ops.toList.map fun o => (dstM o, looksM ops o)) (CheckFast.beforeL ops.toList 0 []) ep x y = true) :
    (((Region.before ops).getD y.1 0).testBit x.1 || indep ops ep x y) = true := by
  have hB : ∀ i, (Region.before ops).getD i 0 = (CheckFast.beforeL ops.toList 0 []).getD i 0 := fun i => by
    rw [← CheckFast.beforeF_eq]
    simp [CheckFast.beforeF, Array.getD_eq_getD_getElem?, List.getD_eq_getElem?_getD]
  unfold pairOk at h
  rw [Bool.or_eq_true] at h ⊢
  rw [hB]
  rcases h with h | h
  · exact .inl h
  · refine .inr ?_
    rw [Bool.and_eq_true] at h
    obtain ⟨h1, h2⟩ := h
    unfold indep
    simp only [List.getElem?_map, Array.getElem?_toList] at h1
    cases hx : ops[x.1]? with
    | none => rw [hx] at h1; simp at h1
    | some ox =>
      cases hy : ops[y.1]? with
      | none => rw [hx, hy] at h1; simp at h1
      | some oy =>
        rw [hx, hy] at h1
        simp only [Option.map_some] at h1
        have h3 := apartM_ok h1
        unfold fpOk at h2
        simp only [Bool.and_eq_true] at h2 ⊢
        exact ⟨⟨⟨⟨h3, h2.1.1.1⟩, h2.1.1.2⟩, h2.1.2⟩, h2.2⟩

theorem drawChk_ok {ops : Array Oper} {ep : Nat} : ∀ {L : List (Nat × FP)}, drawChk (ops.toList.map fun o => (dstM o, looksM ops o)) (CheckFast.beforeL ops.toList 0 []) ep L = true → drawOk ops ep L = true
  | [], _ => rfl
  | x :: l, h => by
    simp only [drawChk, drawOk, Bool.and_eq_true, List.all_eq_true] at h ⊢
    exact ⟨fun y hy => pairOk_ok (h.1 y hy), drawChk_ok h.2⟩

theorem drawF_ok {ops : Array Oper} {ep : Nat} {L : List (Nat × FP)} (h : drawF ops ep L = true) : drawOk ops ep L = true := by
  unfold drawF at h
  rw [beforeK_eq, entK_eq] at h
  exact drawChk_ok (by simpa using h)

section
variable {P : Program} {M : FuncId → List Bool} {N : Nat × List Bool} {Q : AExit → St → Prop} {st : St}

def drawEndF (Q : AExit → St → Prop) (ops : Array Oper) (ep : Nat) : List (Nat × FP) → St → Prop := fun L st' => drawF ops ep L = true ∧ Q .normal (st'.bump (64 * ops.size))
theorem drawEndF_app {ops : Array Oper} {ep : Nat} {L : List (Nat × FP)} : drawEndF Q ops ep L st = (drawF ops ep L = true ∧ Q .normal (st.bump (64 * ops.size))) := rfl

theorem SW.goDrawF {id : Nat} {ops : Array Oper} (M : FuncId → List Bool) (hm : P.follows .mixedOrders = true) (he : edgesBackL 0 ops.toList = true) (h : opsF P M N ops (drawEndF Q ops st.ep) ops.toList 0 [] st) : SW P N (.region id ops true) Q st :=
  SW.regDraw M hm (edgesBack_of he) (opsF_ok (fun L st' h => by
    rw [List.nil_append] at h
    exact ⟨drawF_ok h.1, h.2⟩) h)
end

attribute [go_sem] drawEndF_app
end Go.PA
