/- wire.Size; same. -/
import Derived.Test.YtmacfbboiippoaaW2
namespace Go.PA
open Go.Proofs
set_option linter.unusedSimpArgs false
set_option linter.unusedVariables false
attribute [local go_sem] MM

theorem size_FS (n : Nat) (hn : n < 2 ^ 64) : FS Try.prog 20 [.v (.int .u64 n)] (.ret [.v (.int .i64 (enc 9 n).length)] [none]) := by
  refine FS_of_SW (kb := [false]) Try.func20 rfl rfl (by rfl) ?_
  refine SW.weak (Weak.of [] (sls := [(0, .v (.int .u64 n))]) (bks := []) (ep := 64) (by rfl) ⟨rfl, trivial⟩ trivial) ?_
  refine SW.seqK fun K hK => SW.go MM ?_
  simp only [go_sem]
  apply hK
  refine SW.seqK fun K hK => SW.go MM ?_
  simp only [go_sem]
  apply hK
  refine SW.seqK fun K hK => SW.block ?_
  refine SW.loop (α := { x : Nat × Nat // x.1 < 2 ^ 64 ∧ ∃ j, j < 10 ∧ x.1 < 128 ^ (j + 1) ∧ x.2 + j = 10 ∧ x.2 + (enc j x.1).length = 1 + (enc 9 n).length })
    (fun x => St.of [(0, .v (.int .u64 x.1.1)), (3, .v (.int .i64 x.1.2))] [] 64) (fun x => x.1.1) ⟨(n, 1), hn, 9, by omega, by dsimp only; omega, rfl, rfl⟩ ?_ fun ⟨x, hx, j, hj, hxj, hk, hs⟩ => ?_
  · refine Weak.of [] (by rfl) ?_ trivial
    simp only [go_sem]
    rfl
  · refine SW.seqK fun K1 hK1 => ?_
    refine SW.seqK fun K2 hK2 => SW.go MM ?_
    simp only [go_sem]
    apply hK2
    refine SW.cond (t := ?_) ?_ ?_ ?_
    rotate_left
    · simp only [go_sem]
      rfl
    · intro ht
      have ht' : 128 ≤ x.1 := by have : (x.1 : Int) ≥ 128 := by simpa using ht
                                 omega
      refine SW.skip ?_
      simp only [go_sem]
      apply hK1
      refine SW.seqK fun K3 hK3 => SW.block (SW.go MM ?_)
      simp only [go_sem]
      apply hK3
      refine SW.go MM ?_
      simp only [go_sem]
      cases j with
      | zero => omega
      | succ j =>
        refine ⟨by decide, ⟨(x.1 / 128, x.2 + 1), by dsimp only; omega, j, by omega, ?_, by dsimp only; omega, ?_⟩, Weak.of [] (by rfl) ?_ trivial, by dsimp only; omega⟩
        · dsimp only
          rw [Nat.pow_succ] at hxj
          omega
        · dsimp only
          rw [← hs]
          simp only [enc]
          rw [if_neg (by omega)]
          simp only [List.length_cons]
          omega
        · simp only [go_sem]
          rw [show IntKind.u64.wrap ((x.1 : Int).tdiv 128) = ((x.1 / 128 : Nat) : Int) from u64_div x.1 128 hx (by omega), IntWalk.i64_in _ (by omega)]
          simp
    · intro ht
      have ht' : x.1 < 128 := by have : ¬ (x.1 : Int) ≥ 128 := by simpa using ht
                                 omega
      refine SW.exit ?_
      simp only [go_sem]
      apply hK
      refine SW.seqK fun K3 hK3 => SW.go MM ?_
      simp only [go_sem]
      apply hK3
      refine SW.ret ?_
      simp only [go_sem]
      have hj : (enc j x.1).length = 1 := by
        cases j with
        | zero => rfl
        | succ j => simp only [enc]; rw [if_pos ht']; rfl
      omega

theorem take_succ_eq {a b : List Nat} {x : Nat} (ha : x < a.length) (hb : x < b.length) (he : a.take x = b.take x) (hx : a.getD x 0 = b.getD x 0) : a.take (x + 1) = b.take (x + 1) := by
  rw [List.take_add_one, List.take_add_one, he]
  simp only [List.getD_eq_getElem?_getD, List.getElem?_eq_getElem ha, List.getElem?_eq_getElem hb, Option.getD_some] at hx
  simp [ha, hb, hx]

theorem same_FS (p q : Bool) (a b : List Nat) (ha : a.length < 2 ^ 40) (hb : b.length < 2 ^ 40) : FS Try.prog 18 [.sl p (bA a), .sl q (bA b)] (.ret [.v (.bool (decide (a = b)))] [none, none]) := by
  refine FS_of_SW (kb := [false, false]) Try.func18 rfl rfl (by rfl) ?_
  refine SW.weak (Weak.of [] (sls := [(0, .sl p (bA a)), (1, .sl q (bA b))]) (bks := []) (ep := 64) (by rfl) ⟨rfl, rfl, trivial⟩ trivial) ?_
  refine SW.seqK fun K0 hK0 => ?_
  refine SW.go MM ?_
  simp only [go_sem]
  apply hK0
  refine SW.seqK fun K1 hK1 => ?_
  refine SW.seqK fun K2 hK2 => ?_
  refine SW.go MM ?_
  simp only [go_sem]
  apply hK2
  refine SW.cond (t := ?_) ?_ ?_ ?_   -- t10
  rotate_left
  · simp only [go_sem]
    rfl
  · intro ht
    have hl : (a.length : Int) ≠ b.length := by simpa using ht
    refine SW.seqK fun K3 hK3 => ?_
    refine SW.go MM ?_
    simp only [go_sem]
    apply hK3
    refine SW.ret ?_
    simp only [go_sem]
    rw [decide_eq_false_iff_not]
    intro e
    rw [e] at hl
    exact hl rfl
  · intro ht
    have hl : a.length = b.length := by
      have : (a.length : Int) = b.length := by simpa using ht
      omega
    refine SW.skip ?_
    simp only [go_sem]
    apply hK1
    refine SW.seqK fun K4 hK4 => ?_
    refine SW.seqK fun K5 hK5 => ?_
    refine SW.go MM ?_
    simp only [go_sem]
    apply hK5
    refine SW.block ?_
    refine SW.loop (α := { i : Nat // i ≤ a.length ∧ a.take i = b.take i }) (fun x => St.of [(0, .sl p (bA a)), (1, .sl q (bA b)), (5, .v (.int .i64 x.1))] [] 64) (fun x => a.length - x.1) ⟨0, by omega, rfl⟩ ?_ fun ⟨x, hx, he⟩ => ?_
    · refine Weak.of [] (by rfl) ?_ trivial
      simp only [go_sem]
      rfl
    · refine SW.seqK fun K7 hK7 => ?_
      refine SW.seqK fun K8 hK8 => ?_
      refine SW.go MM ?_
      simp only [go_sem]
      apply hK8
      refine SW.cond (t := ?_) ?_ ?_ ?_   -- t14
      rotate_left
      · simp only [go_sem]
        rfl
      · intro ht
        have hlt : x < a.length := by
          have : (x : Int) < a.length := by simpa using ht
          omega
        refine SW.skip ?_
        simp only [go_sem]
        apply hK7
        refine SW.seqK fun K9 hK9 => ?_
        refine SW.block ?_
        refine SW.seqK fun K10 hK10 => ?_
        refine SW.goDrawF MM (by rfl) (by kernel_rfl) ?_
        simp only [go_sem]
        refine ⟨⟨by omega, by omega⟩, ⟨by omega, by omega⟩, by kernel_rfl, ?_⟩
        apply hK10
        refine SW.cond (t := ?_) ?_ ?_ ?_   -- t25
        rotate_left
        · simp only [go_sem]
          rfl
        · intro ht
          have hne : a.getD x 0 ≠ b.getD x 0 := fun e => by rw [e] at ht; simp at ht
          refine SW.seqK fun K11 hK11 => ?_
          refine SW.go MM ?_
          simp only [go_sem]
          apply hK11
          refine SW.ret ?_
          simp only [go_sem]
          rw [decide_eq_false_iff_not]
          intro e
          rw [e] at hne
          exact hne rfl
        · intro ht
          have hne : a.getD x 0 = b.getD x 0 := by
            have : ((a.getD x 0 : Nat) : Int) = ((b.getD x 0 : Nat) : Int) := by simpa using ht
            omega
          refine SW.skip ?_
          simp only [go_sem]
          apply hK9
          refine SW.go MM ?_
          simp only [go_sem]
          refine ⟨⟨x + 1, by omega, take_succ_eq hlt (by omega) he hne⟩, Weak.of [] (by rfl) ?_ trivial, by dsimp only; omega⟩
          simp only [go_sem]
          rw [IntWalk.i64_in _ (by omega)]
          simp
      · intro ht
        have hge : x = a.length := by
          have : ¬ (x : Int) < a.length := by simpa using ht
          omega
        refine SW.exit ?_   -- 0
        simp only [go_sem]
        apply hK4
        refine SW.seqK fun K12 hK12 => ?_
        refine SW.go MM ?_
        simp only [go_sem]
        apply hK12
        refine SW.ret ?_
        simp only [go_sem]
        subst hge
        rw [List.take_length, hl, List.take_length] at he
        simp [he]
end Go.PA
