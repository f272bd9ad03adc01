/- PA35: from a body of code to the contract. -/
import Derived.Test.YtmacfbboiippoaaPA34
namespace Go.PA

def resVarM (P : Program) (st : St) : ResultVar → RM A
  | .tmp t => match st.sl t with
    | some x => if x.good then .ret x else .fail
    | none => .fail
  | .cell a t => match st.sl a with
    | some (.ptr d []) => .rd d fun b => match b with
      | .var x => if tSize P t = some x.sz ∧ tAgg P t = some x.isAgg ∧ x.noown then .ret x else .fail
      | _ => .fail
    | _ => .fail

def resVarsM (P : Program) (st : St) : List ResultVar → RM (List A)
  | [] => .ret []
  | r :: rs => (resVarM P st r).bind fun x => (resVarsM P st rs).bind fun xs => .ret (x :: xs)

def backPass (m : Nat) (st : St) : Nat → List Bool → List Nat → RM (List (Option A) × List Nat)
  | _, [], rm => .ret ([], rm)
  | i, b :: ms, rm => match b with
    | true => match st.sl i with
      | some x => if x.good then (takeA true m x rm).bind fun q => (backPass m st (i + 1) ms q.2).bind fun q' => .ret (some q.1 :: q'.1, q'.2) else .fail
      | none => .fail
    | false => (backPass m st (i + 1) ms rm).bind fun q' => .ret (none :: q'.1, q'.2)

def takeAll (m : Nat) : List A → List Nat → RM (List A × List Nat)
  | [], rm => .ret ([], rm)
  | x :: xs, rm => (takeA true m x rm).bind fun q => (takeAll m xs q.2).bind fun q' => .ret (q.1 :: q'.1, q'.2)

/-- What a body leaves behind. -/
def exitM (P : Program) (rvs : List ResultVar) (kb : List Bool) (st : St) : RM (List A × List (Option A)) :=
  (resVarsM P st rvs).bind fun rs => (takeAll 64 rs []).bind fun q => .req (nobors q.1 = true) ((backPass 64 st 0 kb q.2).bind fun q2 => .ret (q.1, q2.1))

def St.none (k : Nat) : St := { sl := fun _ => Option.none, bk := fun _ => Option.none, ids := fun _ => false, ep := k }

/-- What a body begins with. -/
def entrySt (args : List A) : Option St :=
  match unfs 0 args with
  | some (ys, bs, k) => some { (St.none k).addBks bs with sl := fun t => ys[t]? }
  | none => none

def fnOk (fn : Func) (args : List A) (kb : List Bool) : Bool := decide (args.length ≤ fn.ntmps) && decide (kb.length = args.length)

def exitQ (P : Program) (fn : Func) (kb : List Bool) (out : Out) : AExit → St → Prop
  | .exit _, _ => False
  | _, st => (exitM P fn.results.toList kb st).wp st.bk fun q _ => out = .ret q.1 q.2

section
variable {P : Program} {M : FuncId → List Bool} {c : Ctx} {st : St} {a : Act} {w : World} {loc : Nat → Option (Option Nat)} {S : Nat → Prop} {Fm : Nat → List Nat}

theorem resVar_ok (R : RelW c st a w loc S Fm) {r : ResultVar} {x : A} {l : List Nat} (h : RM.Runs st.bk (resVarM P st r) x l) :
    ∃ v, ((match r with | .tmp t => pure (a.tmps.getD t undef) | .cell a' t => do loadVar t (← asAddr (a.tmps.getD a' undef)) : Sem Value)).run P w = .ok v w ∧ VV x (envOf c st w loc S) v [] := by
  cases r with
  | tmp t =>
    simp only [resVarM] at h
    split at h
    · rename_i y hy
      split at h
      · rename_i hg
        obtain ⟨rfl, _⟩ := runs_ret h
        exact ⟨_, by simp, (TV_good hg).1 (R.slots t _ hy)⟩
      · exact (runs_fail h).elim
    · exact (runs_fail h).elim
  | cell a' t =>
    simp only [resVarM] at h
    split at h
    · rename_i d hy
      obtain ⟨b, l', hb, h, _⟩ := runs_rd h
      split at h
      · rename_i y
        split at h
        · rename_i hc
          obtain ⟨rfl, _⟩ := runs_ret h
          have ht := R.slots a' _ hy
          obtain ⟨hid, ad, hv, hloc⟩ := TV_ptr ht
          obtain ⟨g, cs, ty, Fx, hl, hh, hvr, hF⟩ := R.bks d _ hb
          obtain ⟨g', hg', had⟩ := hloc _ hl
          injection hg' with hg'
          subst hg'
          subst had
          have hFx : Fx = [] := VR_noown _ _ _ _ hc.2.2 hvr
          subst hFx
          obtain ⟨v, hr, hvv⟩ := run_load_VV (P := P) (w := w) (ad := ⟨g, offP [], Option.none⟩) hc.1 hc.2.1 hvr (cells_at (pre := []) (post := []) hh ⟨[], by simp⟩ rfl)
          refine ⟨v, ?_, hvv⟩
          change (do let x ← asAddr (a.tmps.getD a' undef); loadVar t x : Sem Value).run P w = _
          rw [hv]
          simp [asAddr, hr]
        · exact (runs_fail h).elim
      · exact (runs_fail h).elim
    · exact (runs_fail h).elim

theorem takeA_VV (R : RelW c st a w loc S Fm) (m : Nat) {x : A} {v : Value} {rm : List Nat} {q : A × List Nat} {l : List Nat} (h : VV x (envOf c st w loc S) v []) (r : RM.Runs st.bk (takeA true m x rm) q l) :
    ∃ G, VV q.1 (envOf c st w loc S).close v G ∧ Took st Fm [] rm q.2 G := by
  rcases h with ⟨hg, cs, hy, hv⟩ | ⟨hg, hv⟩
  · obtain ⟨he, G1, h3, T1⟩ := takeA_ok R true m x _ [] rm q l hv r List.nodup_nil (by simp)
    exact ⟨G1, .inl ⟨he ▸ hg, cs, hy, h3⟩, T1⟩
  · obtain ⟨he, G1, h3, T1⟩ := takeA_ok R true m x _ [] rm q l hv r List.nodup_nil (by simp)
    exact ⟨G1, .inr ⟨he ▸ hg, h3⟩, T1⟩

theorem resVars_ok (R : RelW c st a w loc S Fm) : ∀ {rs : List ResultVar} {xs : List A} {l : List Nat}, RM.Runs st.bk (resVarsM P st rs) xs l →
    ∃ vs : List Value, (rs.mapM (fun | .tmp t => pure (a.tmps.getD t undef) | .cell a' t => do loadVar t (← asAddr (a.tmps.getD a' undef)) : ResultVar → Sem Value)).run P w = .ok vs w ∧ VVs xs (envOf c st w loc S) vs []
  | [], xs, l, h => by
    simp only [resVarsM] at h
    obtain ⟨rfl, _⟩ := runs_ret h
    exact ⟨[], by simp, by simp [VVs]⟩
  | r :: rs, xs, l, h => by
    simp only [resVarsM] at h
    obtain ⟨x, l1, l2, r1, r2, _⟩ := RM.runs_bind h
    obtain ⟨xs', l3, l4, r3, r4, _⟩ := RM.runs_bind r2
    obtain ⟨rfl, _⟩ := runs_ret r4
    obtain ⟨v, h1, h2⟩ := resVar_ok R r1
    obtain ⟨vs, h3, h4⟩ := resVars_ok R r3
    refine ⟨v :: vs, ?_, ?_⟩
    · rw [List.mapM_cons]
      simp only [Sem.run_bind]
      rw [h1]
      simp only [Result.andThen]
      rw [h3]
      rfl
    · simp only [VVs]
      exact ⟨v, vs, [], [], rfl, rfl, h2, h4⟩

def oneV : List Value → Value
  | [v] => v
  | vs => .tuple vs.toArray

theorem results_ok {fn : Func} {vs : List Value} (h : (fn.results.toList.mapM (fun | .tmp t => pure (a.tmps.getD t undef) | .cell a' t => do loadVar t (← asAddr (a.tmps.getD a' undef)) : ResultVar → Sem Value)).run P w = .ok vs w) :
    (results fn a.tmps).run P w = .ok (oneV vs) w := by
  have h' : (fn.results.mapM (fun | .tmp t => pure (a.tmps.getD t undef) | .cell a' t => do loadVar t (← asAddr (a.tmps.getD a' undef)) : ResultVar → Sem Value)).run P w = .ok vs.toArray w := by
    rw [Array.mapM_eq_mapM_toList, Sem.run_map, h]
    rfl
  unfold results
  rw [Sem.run_bind]
  erw [h']
  match vs with
  | [] => rfl
  | [v] => rfl
  | v :: v' :: vs => rfl

theorem takeAll_ok (R : RelW c st a w loc S Fm) (m : Nat) : ∀ (xs : List A) (vs : List Value) (rm : List Nat) (q : List A × List Nat) (l : List Nat),
    VVs xs (envOf c st w loc S) vs [] → RM.Runs st.bk (takeAll m xs rm) q l → ∃ F, VVs q.1 (envOf c st w loc S).close vs F ∧ Took st Fm [] rm q.2 F
  | [], vs, rm, q, l, h, r => by
    simp only [takeAll] at r
    obtain ⟨rfl, _⟩ := runs_ret r
    simp only [VVs] at h
    exact ⟨[], by simp [VVs, h.1], .refl List.nodup_nil⟩
  | x :: xs, vs, rm, q, l, h, r => by
    simp only [takeAll] at r
    obtain ⟨q1, l1, l2, r1, r2, _⟩ := RM.runs_bind r
    obtain ⟨q2, l3, l4, r3, r4, _⟩ := RM.runs_bind r2
    obtain ⟨rfl, _⟩ := runs_ret r4
    simp only [VVs] at h
    obtain ⟨y, vs', F1, F2, rfl, hF, h1, h2⟩ := h
    simp at hF
    obtain ⟨rfl, rfl⟩ := hF
    obtain ⟨G1, h3, T1⟩ := takeA_VV R m h1 r1
    obtain ⟨G2, h4, T2⟩ := takeAll_ok R m xs vs' q1.2 q2 l3 h2 r3
    refine ⟨G1 ++ G2, ?_, Took.append (F1 := []) (F2 := []) R T1 T2 (by simp) (by simp)⟩
    simp only [VVs]
    exact ⟨y, vs', G1, G2, rfl, rfl, h3, h4⟩

theorem backPass_ok (R : RelW c st a w loc S Fm) (m : Nat) : ∀ (ms : List Bool) (i : Nat) (vs : List Value) (rm : List Nat) (q : List (Option A) × List Nat) (l : List Nat),
    ms.length = vs.length → (∀ j, ms.getD j false = true → a.tmps.getD (i + j) undef = vs.getD j undef) → RM.Runs st.bk (backPass m st i ms rm) q l → ∃ F, backRel (envOf c st w loc S).close q.1 vs F ∧ Took st Fm [] rm q.2 F
  | [], i, vs, rm, q, l, hl, hv, r => by
    simp only [backPass] at r
    obtain ⟨rfl, _⟩ := runs_ret r
    cases vs with
    | nil => exact ⟨[], rfl, .refl List.nodup_nil⟩
    | cons => simp at hl
  | b :: ms, i, vs, rm, q, l, hl, hv, r => by
    cases vs with
    | nil => simp at hl
    | cons v vs =>
      have hv' : ∀ j, ms.getD j false = true → a.tmps.getD (i + 1 + j) undef = vs.getD j undef := fun j hj => by
        have := hv (j + 1) (by simpa using hj)
        rw [show i + 1 + j = i + (j + 1) by omega]
        simpa using this
      have hl' : ms.length = vs.length := by simpa using hl
      cases b with
      | true =>
        simp only [backPass] at r
        split at r
        · rename_i x hx
          split at r
          · rename_i hg
            obtain ⟨q1, l1, l2, r1, r2, _⟩ := RM.runs_bind r
            obtain ⟨q2, l3, l4, r3, r4, _⟩ := RM.runs_bind r2
            obtain ⟨rfl, _⟩ := runs_ret r4
            have h0 := (TV_good hg).1 (R.slots i x hx)
            have h00 := hv 0 (by simp)
            simp only [Nat.add_zero, List.getD_cons_zero] at h00
            rw [h00] at h0
            obtain ⟨G1, h3, T1⟩ := takeA_VV R m h0 r1
            obtain ⟨G2, h4, T2⟩ := backPass_ok R m ms (i + 1) vs q1.2 q2 l3 hl' hv' r3
            exact ⟨G1 ++ G2, ⟨G1, G2, rfl, h3, h4⟩, Took.append (F1 := []) (F2 := []) R T1 T2 (by simp) (by simp)⟩
          · exact (runs_fail r).elim
        · exact (runs_fail r).elim
      | false =>
        simp only [backPass] at r
        obtain ⟨q2, l3, l4, r3, r4, _⟩ := RM.runs_bind r
        obtain ⟨rfl, _⟩ := runs_ret r4
        obtain ⟨G2, h4, T2⟩ := backPass_ok R m ms (i + 1) vs rm q2 l3 hl' hv' r3
        exact ⟨G2, h4, T2⟩

end
end Go.PA
