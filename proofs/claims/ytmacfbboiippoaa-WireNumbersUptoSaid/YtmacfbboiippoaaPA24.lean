/- PA24: what a function does: its contract; calls. -/
import Derived.Test.YtmacfbboiippoaaPA23
namespace Go.PA

inductive Out where
  | ret (res : List A) (back : List (Option A))
  | pan (x : A) (back : List (Option A))

def cEnv (w : World) (S B : Nat → Prop) : Env := ⟨w, fun _ => none, fun _ => false, S, B⟩

def resRel (e : Env) (res : List A) (v : Value) (F : List Nat) : Prop :=
  match res with
  | [r] => VV r e v F
  | rs => ∃ vs : List Value, v = .tuple vs.toArray ∧ VVs rs e vs F

def backRel (e : Env) : List (Option A) → List Value → List Nat → Prop
  | [], [], F => F = []
  | none :: bs, _ :: vs, F => backRel e bs vs F
  | some a :: bs, v :: vs, F => ∃ F1 F2, F = F1 ++ F2 ∧ VV a e v F1 ∧ backRel e bs vs F2
  | _, _, _ => False

/-- The contract: handed 'args', the function comes to 'out'. -/
def FS (P : Program) (f : FuncId) (args : List A) (out : Out) : Prop :=
  ∀ (w : World) (S B : Nat → Prop) (vs : List Value) (F : List Nat), VVs args (cEnv w S B) vs F → F.Nodup → (∀ g ∈ F, ¬ S g ∧ ¬ B g ∧ g < w.heap.size) → (∀ g, S g ∨ B g → g < w.heap.size) →
    Calls P f vs.toArray w fun e w' => ∃ (S' : Nat → Prop) (F' : List Nat), Fram ⟨w, F, S, B, 0⟩ w' S' ∧ F'.Nodup ∧
      (∀ g ∈ F', ¬ S' g ∧ ¬ B g ∧ g < w'.heap.size ∧ (g ∈ F ∨ w.heap.size ≤ g)) ∧
      match out, e with
      | .ret res back, .returned v => ∃ Fr Fb, F' = Fr ++ Fb ∧ resRel (cEnv w' S' fun _ => False) res v Fr ∧ backRel (cEnv w' S' B) back vs Fb
      | .pan x back, .panicked chain => ∃ v Fr Fb, chain = [{ v, recovered := false }] ∧ F' = Fr ++ Fb ∧ VV x (cEnv w' S' fun _ => False) v Fr ∧ backRel (cEnv w' S' B) back vs Fb
      | _, _ => False

/-! handing over -/
def ownPass (m : Nat) : List (Bool × A) → List Nat → RM (List (Option A) × List Nat)
  | [], rm => .ret ([], rm)
  | (b, x) :: r, rm => match b with
    | true => (takeA true m x rm).bind fun q => (ownPass m r q.2).bind fun q' => .ret (some q.1 :: q'.1, q'.2)
    | false => (ownPass m r rm).bind fun q' => .ret (none :: q'.1, q'.2)

def roPass (m : Nat) (rm : List Nat) : List (Bool × A) → List (Option A) → RM (List A)
  | [], [] => .ret []
  | q :: r, o :: ys => match o with
    | some y => (roPass m rm r ys).bind fun zs => .ret (y :: zs)
    | none => (roA rm m q.2).bind fun y => (roPass m rm r ys).bind fun zs => .ret (y :: zs)
  | _, _ => .fail

/-- Is a block of the frame's own lent? -/
def lends (xs : List (Bool × A)) : Bool := xs.any fun q => !q.1 && !q.2.closed

def plainPass : List (Bool × A) → List (Option A) → List A
  | q :: r, o :: ys => o.getD q.2 :: plainPass r ys
  | _, _ => []

/-- The arguments as the callee gets them, and what the frame gave away. -/
def handOver (m : Nat) (xs : List (Bool × A)) : RM (List A × List Nat) :=
  (ownPass m xs []).bind fun q => if lends xs then (roPass m q.2 xs q.1).bind fun args => .ret (args, q.2) else .ret (plainPass xs q.1, q.2)

section
variable {P : Program} {c : Ctx} {st : St} {a : Act} {w : World} {loc : Nat → Option (Option Nat)} {S : Nat → Prop} {Fm : Nat → List Nat}

theorem backRel_mono {e e' : Env} : ∀ {ys : List (Option A)} {vs : List Value} {F : List Nat}, e.Le e' F → backRel e ys vs F → backRel e' ys vs F
  | [], [], F, _, h => h
  | [], _ :: _, F, _, h => h.elim
  | none :: ys, [], F, _, h => h.elim
  | some _ :: ys, [], F, _, h => h.elim
  | none :: ys, v :: vs, F, hl, h => backRel_mono (ys := ys) (vs := vs) hl h
  | some y :: ys, v :: vs, F, hl, h => by
    obtain ⟨F1, F2, rfl, h1, h2⟩ := h
    exact ⟨F1, F2, rfl, VV_mono (hl.sub fun g hg => by simp [hg]) h1, backRel_mono (hl.sub fun g hg => by simp [hg]) h2⟩

theorem ownPass_sound (R : RelW c st a w loc S Fm) (m : Nat) : ∀ (xs : List (Bool × A)) (vs : List Value) (rm : List Nat) (q : List (Option A) × List Nat) (l : List Nat),
    VVs (xs.map (·.2)) (envOf c st w loc S) vs [] → RM.Runs st.bk (ownPass m xs rm) q l → ∃ F, backRel (envOf c st w loc S).close q.1 vs F ∧ Took st Fm [] rm q.2 F
  | [], vs, rm, q, l, h, r => by
    simp only [ownPass] at r
    obtain ⟨rfl, _⟩ := runs_ret r
    simp only [List.map_nil, VVs] at h
    obtain ⟨rfl, _⟩ := h
    exact ⟨[], rfl, .refl List.nodup_nil⟩
  | (true, x) :: xs, vs, rm, q, l, h, r => by
    simp only [ownPass] at r
    obtain ⟨q1, l1, l2, r1, r2, _⟩ := RM.runs_bind r
    obtain ⟨q2, l3, l4, r3, r4, _⟩ := RM.runs_bind r2
    obtain ⟨rfl, _⟩ := runs_ret r4
    simp only [List.map_cons, VVs] at h
    obtain ⟨y, vs', F1, F2, rfl, hF, h1, h2⟩ := h
    simp at hF
    obtain ⟨rfl, rfl⟩ := hF
    have key : ∃ G1, VV q1.1 (envOf c st w loc S).close y G1 ∧ Took st Fm [] rm q1.2 G1 := by
      rcases h1 with ⟨hg, cs, hy, hv⟩ | ⟨hg, hv⟩
      · obtain ⟨he, G1, h3, T1⟩ := takeA_ok R true m x _ [] rm q1 l1 hv r1 List.nodup_nil (by simp)
        exact ⟨G1, .inl ⟨he ▸ hg, cs, hy, h3⟩, T1⟩
      · obtain ⟨he, G1, h3, T1⟩ := takeA_ok R true m x _ [] rm q1 l1 hv r1 List.nodup_nil (by simp)
        exact ⟨G1, .inr ⟨he ▸ hg, h3⟩, T1⟩
    obtain ⟨G1, h3, T1⟩ := key
    obtain ⟨G2, h4, T2⟩ := ownPass_sound R m xs vs' q1.2 q2 l3 h2 r3
    exact ⟨G1 ++ G2, ⟨G1, G2, rfl, h3, h4⟩, Took.append (F1 := []) (F2 := []) R T1 T2 (by simp) (by simp)⟩
  | (false, x) :: xs, vs, rm, q, l, h, r => by
    simp only [ownPass] at r
    obtain ⟨q2, l3, l4, r3, r4, _⟩ := RM.runs_bind r
    obtain ⟨rfl, _⟩ := runs_ret r4
    simp only [List.map_cons, VVs] at h
    obtain ⟨y, vs', F1, F2, rfl, hF, h1, h2⟩ := h
    simp at hF
    obtain ⟨rfl, rfl⟩ := hF
    obtain ⟨G2, h4, T2⟩ := ownPass_sound R m xs vs' rm q2 l3 h2 r3
    exact ⟨G2, h4, T2⟩

theorem roPass_sound (R : RelW c st a w loc S Fm) (m : Nat) (rm : List Nat) : ∀ (xs : List (Bool × A)) (ys : List (Option A)) (vs : List Value) (F : List Nat) (args : List A) (l : List Nat),
    VVs (xs.map (·.2)) (envOf c st w loc S) vs [] → backRel (envOf c st w loc S).close ys vs F → RM.Runs st.bk (roPass m rm xs ys) args l → VVs args (lendEnv c w S Fm rm) vs F
  | [], [], vs, F, args, l, h, hb, r => by
    simp only [roPass] at r
    obtain ⟨rfl, _⟩ := runs_ret r
    simp only [List.map_nil, VVs] at h
    obtain ⟨rfl, _⟩ := h
    simp only [backRel] at hb
    simp [VVs, hb]
  | [], _ :: _, vs, F, args, l, h, hb, r => by simp only [roPass] at r; exact (runs_fail r).elim
  | _ :: _, [], vs, F, args, l, h, hb, r => by simp only [roPass] at r; exact (runs_fail r).elim
  | x :: xs, some y :: ys, vs, F, args, l, h, hb, r => by
    simp only [roPass] at r
    obtain ⟨q2, l3, l4, r3, r4, _⟩ := RM.runs_bind r
    obtain ⟨rfl, _⟩ := runs_ret r4
    simp only [List.map_cons, VVs] at h
    obtain ⟨v, vs', F1, F2, rfl, hF, h1, h2⟩ := h
    simp at hF
    obtain ⟨rfl, rfl⟩ := hF
    obtain ⟨G1, G2, rfl, h3, h4⟩ := hb
    have := roPass_sound R m rm xs ys vs' G2 q2 l3 h2 h4 r3
    simp only [VVs]
    exact ⟨v, vs', G1, G2, rfl, rfl, VV_mono (close_lend rm _) h3, this⟩
  | x :: xs, none :: ys, vs, F, args, l, h, hb, r => by
    simp only [roPass] at r
    obtain ⟨q1, l1, l2, r1, r2, _⟩ := RM.runs_bind r
    obtain ⟨q2, l3, l4, r3, r4, _⟩ := RM.runs_bind r2
    obtain ⟨rfl, _⟩ := runs_ret r4
    simp only [List.map_cons, VVs] at h
    obtain ⟨v, vs', F1, F2, rfl, hF, h1, h2⟩ := h
    simp at hF
    obtain ⟨rfl, rfl⟩ := hF
    have := roPass_sound R m rm xs ys vs' F q2 l3 h2 hb r3
    simp only [VVs]
    refine ⟨v, vs', [], F, rfl, rfl, ?_, this⟩
    rcases h1 with ⟨hg, cs, hy, hv⟩ | ⟨hg, hv⟩
    · obtain ⟨he, hv'⟩ := roA_ok R rm m x.2 _ q1 l1 hv r1
      exact .inl ⟨he ▸ hg, cs, hy, hv'⟩
    · obtain ⟨he, hv'⟩ := roA_ok R rm m x.2 _ q1 l1 hv r1
      exact .inr ⟨he ▸ hg, hv'⟩

theorem plainPass_sound : ∀ (m : Nat) (xs : List (Bool × A)) (rm : List Nat) (q : List (Option A) × List Nat) (l : List Nat) (vs : List Value) (F : List Nat), lends xs = false → RM.Runs st.bk (ownPass m xs rm) q l →
    VVs (xs.map (·.2)) (envOf c st w loc S) vs [] → backRel (envOf c st w loc S).close q.1 vs F → VVs (plainPass xs q.1) (envOf c st w loc S).close vs F
  | m, [], rm, q, l, vs, F, hl, r, h, hb => by
    simp only [ownPass] at r
    obtain ⟨rfl, _⟩ := runs_ret r
    simp only [List.map_nil, VVs] at h
    obtain ⟨rfl, _⟩ := h
    simp only [backRel] at hb
    simp [plainPass, VVs, hb]
  | m, (b, x) :: xs, rm, q, l, vs, F, hl, r, h, hb => by
    simp only [lends, List.any_cons, Bool.or_eq_false_iff, Bool.and_eq_false_iff, Bool.not_eq_false'] at hl
    simp only [List.map_cons, VVs] at h
    obtain ⟨v, vs', F1, F2, rfl, hF, h1, h2⟩ := h
    simp at hF
    obtain ⟨rfl, rfl⟩ := hF
    cases b with
    | true =>
      simp only [ownPass] at r
      obtain ⟨q1, l1, l2, r1, r2, _⟩ := RM.runs_bind r
      obtain ⟨q2, l3, l4, r3, r4, _⟩ := RM.runs_bind r2
      obtain ⟨rfl, _⟩ := runs_ret r4
      obtain ⟨G1, G2, rfl, h3, h4⟩ := hb
      simp only [plainPass, Option.getD_some, VVs]
      exact ⟨v, vs', G1, G2, rfl, rfl, h3, plainPass_sound m xs q1.2 q2 l3 vs' G2 hl.2 r3 h2 h4⟩
    | false =>
      simp only [ownPass] at r
      obtain ⟨q2, l3, l4, r3, r4, _⟩ := RM.runs_bind r
      obtain ⟨rfl, _⟩ := runs_ret r4
      simp only [plainPass, Option.getD_none, VVs]
      have hcl : x.closed = true := by
        rcases hl.1 with h | h
        · cases h
        · exact h
      exact ⟨v, vs', [], F, rfl, rfl, (VV_close hcl).1 h1, plainPass_sound m xs rm q2 l3 vs' F hl.2 r3 h2 hb⟩

/-- What is borrowed behind the call's beginning. -/
def lentB (c : Ctx) (Fm : Nat → List Nat) (xs : List (Bool × A)) (rm : List Nat) : Nat → Prop :=
  if lends xs then fun g => c.B g ∨ ∃ d, d ∉ rm ∧ g ∈ Fm d else c.B

theorem handOver_sound (R : RelW c st a w loc S Fm) {m : Nat} {xs : List (Bool × A)} {vs : List Value} {q : List A × List Nat} {l : List Nat}
    (h : VVs (xs.map (·.2)) (envOf c st w loc S) vs []) (r : RM.Runs st.bk (handOver m xs) q l) : ∃ F, VVs q.1 (cEnv w S (lentB c Fm xs q.2)) vs F ∧ Took st Fm [] [] q.2 F := by
  unfold handOver at r
  obtain ⟨q1, l1, l2, r1, r2, _⟩ := RM.runs_bind r
  obtain ⟨F, h1, T⟩ := ownPass_sound R m xs vs [] q1 l1 h r1
  split at r2
  · rename_i hl
    obtain ⟨q2, l3, l4, r3, r4, _⟩ := RM.runs_bind r2
    obtain ⟨rfl, _⟩ := runs_ret r4
    refine ⟨F, ?_, T⟩
    have := roPass_sound R m q1.2 xs q1.1 vs F q2 l3 h h1 r3
    simpa [lentB, hl, cEnv, lendEnv] using this
  · rename_i hl
    obtain ⟨rfl, _⟩ := runs_ret r2
    refine ⟨F, ?_, T⟩
    have := plainPass_sound m xs [] q1 l1 vs F (by simpa using hl) r1 h h1
    simpa [lentB, hl, cEnv, envOf, Env.close] using this

end
end Go.PA
