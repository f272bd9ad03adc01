/- full; lent. -/
import Derived.Test.YtmacfbboiippoaaW3
namespace Go.PA
open Go.Proofs
set_option linter.unusedSimpArgs false
set_option linter.unusedVariables false
attribute [local go_sem] MM

theorem full_FS (b : List Nat) (m : Nat) (hb : b.length < 2 ^ 39) : FS Try.prog 22 [.osl 1 (bA b), .v (.int .u8 m)] (.ret [] [none, none]) := by
  refine FS_of_SW (kb := [false, false]) Try.func22 rfl rfl (by rfl) ?_
  refine SW.weak (Weak.of [(0, 0)] (sls := [(0, .ref 0 1 0 (bA b).length false), (1, .v (.int .u8 m))]) (bks := [(0, .row 1 (bA b))]) (ep := 64) (by rfl) ⟨rfl, rfl, trivial⟩ ⟨renB_row (bA_closeds _), trivial⟩) ?_
  refine SW.seqK fun K0 hK0 => ?_
  refine SW.seqK fun K1 hK1 => ?_
  refine SW.go MM ?_
  simp only [go_sem]
  apply hK1
  refine SW.block ?_
  refine SW.loop (α := { x : List Nat × Nat // x.1.length = b.length ∧ x.2 ≤ b.length })
    (fun x => St.of [(0, .ref 0 1 0 b.length false), (1, .v (.int .u8 m)), (4, .v (.int .i64 x.1.2))] [(0, .row 1 (bA x.1.1))] 64) (fun x => b.length - x.1.2) ⟨(b, 0), rfl, by dsimp only; omega⟩ ?_ fun ⟨x, hl, hi⟩ => ?_
  · refine Weak.of [(0, 0)] (by rfl) ?_ ?_
    · simp only [go_sem]
      rfl
    · simp only [go_sem]
  · refine SW.seqK fun K3 hK3 => ?_
    refine SW.seqK fun K4 hK4 => ?_
    refine SW.go MM ?_
    simp only [go_sem]
    apply hK4
    refine SW.cond (t := ?_) ?_ ?_ ?_   -- t9
    rotate_left
    · simp only [go_sem]
      rfl
    · intro ht
      have hlt : x.2 < b.length := by
        have : (x.2 : Int) < b.length := by simpa using ht
        omega
      refine SW.skip ?_
      simp only [go_sem]
      apply hK3
      refine SW.seqK fun K5 hK5 => ?_
      refine SW.block ?_
      refine SW.go MM ?_
      simp only [go_sem]
      refine ⟨⟨by omega, by omega⟩, by omega, ?_⟩
      apply hK5
      refine SW.go MM ?_
      simp only [go_sem]
      refine ⟨⟨(x.1.set x.2 m, x.2 + 1), by simpa using hl, by dsimp only; omega⟩, Weak.of [(0, 0)] (by rfl) ?_ ?_, by dsimp only; omega⟩
      · simp only [go_sem]
        rw [IntWalk.i64_in _ (by omega)]
        simp
      · simp only [go_sem, bA_set]
    · intro ht
      refine SW.exit ?_   -- 0
      simp only [go_sem]
      apply hK0
      refine SW.seqK fun K6 hK6 => ?_
      refine SW.go MM ?_
      simp only [go_sem]
      apply hK6
      refine SW.block ?_
      refine SW.loop (α := { x : List Nat × Nat // x.1.length = b.length + x.2 ∧ x.2 ≤ 90 })
        (fun x => St.of [(0, .ref 0 1 0 x.1.1.length false), (1, .v (.int .u8 m)), (5, .v (.int .i64 x.1.2))] [(0, .row 1 (bA x.1.1))] 64) (fun x => 90 - x.1.2) ⟨(x.1, 0), hl, by dsimp only; omega⟩ ?_ fun ⟨y, hyl, hyi⟩ => ?_
      · refine Weak.of [(0, 0)] (by rfl) ?_ ?_
        · simp only [go_sem]
          rw [hl]
          simp
        · simp only [go_sem]
      · refine SW.seqK fun K8 hK8 => ?_
        refine SW.seqK fun K9 hK9 => ?_
        refine SW.go MM ?_
        simp only [go_sem]
        apply hK9
        refine SW.cond (t := ?_) ?_ ?_ ?_   -- t17
        rotate_left
        · simp only [go_sem]
          rfl
        · intro ht
          have hlt : y.2 < 90 := by
            have : (y.2 : Int) < 90 := by simpa using ht
            omega
          refine SW.skip ?_
          simp only [go_sem]
          apply hK8
          refine SW.seqK fun K10 hK10 => ?_
          refine SW.block ?_
          refine SW.go MM ?_
          simp only [go_sem]
          refine ⟨roomy_of (by omega) (by decide), ?_⟩
          apply hK10
          refine SW.go MM ?_
          simp only [go_sem]
          refine ⟨⟨(y.1 ++ [m], y.2 + 1), by simp; omega, by dsimp only; omega⟩, Weak.of [(384, 0)] (by rfl) ?_ ?_, by dsimp only; omega⟩
          · simp only [go_sem]
            rw [IntWalk.i64_in _ (by omega)]
            simp
          · simp only [go_sem]
            rw [bA_one, bA_append]
        · intro ht
          refine SW.exit ?_   -- 2
          simp only [go_sem]

def room : Nat → List Nat
  | 0 => []
  | k + 1 => room k ++ [171 + k % 60]
theorem room_length (k : Nat) : (room k).length = k := by
  induction k with
  | zero => rfl
  | succ k ih => simp [room, ih]

theorem byte_room (i : Nat) : IntKind.u8.wrap (IntKind.i64.wrap (171 + ((i : Int).tmod 60))) = ((171 + i % 60 : Nat) : Int) := by
  rw [Int.tmod_eq_emod_of_nonneg (by omega), IntWalk.i64_in _ (by omega), IntKind.wrap_u8]; omega

theorem lent_FS (p : Bool) (b : List Nat) (hb : b.length < 2 ^ 39) : FS Try.prog 15 [.sl p (bA b)] (.ret [.sl true (bA b), .sl true (bA (b ++ room 80))] [none]) := by
  refine FS_of_SW (kb := [false]) Try.func15 rfl rfl (by rfl) ?_
  refine SW.weak (Weak.of [] (sls := [(0, .sl p (bA b))]) (bks := []) (ep := 64) (by rfl) ⟨rfl, trivial⟩ trivial) ?_
  refine SW.seqK fun K0 hK0 => ?_
  refine SW.go MM ?_
  simp only [go_sem]
  apply hK0
  refine SW.seqK fun K1 hK1 => ?_
  refine SW.go MM ?_
  simp only [go_sem]
  have hw : IntKind.i64.wrap ((b.length : Int) + 80) = ((b.length + 80 : Nat) : Int) := by rw [IntWalk.i64_in _ (by omega)]; omega
  rw [hw]
  refine ⟨by omega, ?_⟩
  apply hK1
  refine SW.seqK fun K2 hK2 => ?_
  refine SW.go MM ?_
  simp only [go_sem]
  refine ⟨roomy_of (by omega) (by decide), ?_⟩
  apply hK2
  refine SW.seqK fun K3 hK3 => ?_
  refine SW.seqK fun K4 hK4 => ?_
  refine SW.go MM ?_
  simp only [go_sem]
  apply hK4
  refine SW.block ?_
  refine SW.loop (α := { i : Nat // i ≤ 80 }) (fun i => St.of [(0, .sl p (bA b)), (4, .ref 0 1 0 (b.length + i.1) false), (5, .v (.int .i64 i.1))] [(0, .row 1 (bA (b ++ room i.1)))] 64) (fun i => 80 - i.1) ⟨0, by decide⟩ ?_ fun ⟨i, hi⟩ => ?_
  · refine Weak.of [(640, 0)] (by rfl) ?_ ?_
    · simp only [go_sem]
      rfl
    · simp only [go_sem]
      simp [room]
  · refine SW.seqK fun K6 hK6 => ?_
    refine SW.seqK fun K7 hK7 => ?_
    refine SW.go MM ?_
    simp only [go_sem]
    apply hK7
    refine SW.cond (t := ?_) ?_ ?_ ?_   -- t14
    rotate_left
    · simp only [go_sem]
      rfl
    · intro ht
      have hlt : i < 80 := by
        have : (i : Int) < 80 := by simpa using ht
        omega
      refine SW.skip ?_
      simp only [go_sem]
      apply hK6
      refine SW.seqK fun K8 hK8 => ?_
      refine SW.block ?_
      refine SW.go MM ?_
      simp only [go_sem]
      refine ⟨by decide, ⟨by simp [room_length], roomy_of (by omega) (by decide)⟩, ?_⟩
      apply hK8
      refine SW.go MM ?_
      simp only [go_sem]
      refine ⟨⟨i + 1, by omega⟩, Weak.of [(576, 0)] (by rfl) ?_ ?_, by dsimp only; omega⟩
      · simp only [go_sem]
        rw [IntWalk.i64_in _ (by omega)]
        simp
        omega
      · simp only [go_sem]
        rw [byte_room, bA_one, bA_append, List.append_assoc]
        rfl
    · intro ht
      have hge : i = 80 := by
        have : ¬ (i : Int) < 80 := by simpa using ht
        omega
      refine SW.exit ?_   -- 0
      simp only [go_sem]
      apply hK3
      refine SW.seqK fun K9 hK9 => ?_
      refine SW.go MM ?_
      subst hge
      simp only [go_sem]
      refine ⟨⟨by omega, by omega⟩, ?_⟩
      apply hK9
      refine SW.weak (Weak.of [(0, 0)] (sls := [(2, .ref 0 1 0 b.length false), (3, .ref 0 1 0 (b.length + 80) false)]) (bks := [(0, .row 1 (bA (b ++ room 80)))]) (ep := 64) (by rfl) ?_ ?_) ?_
      · simp only [go_sem]
      · simp only [go_sem]
      refine SW.weak (Weak.freeze (d := 0) (s := 1) (xs := bA (b ++ room 80)) rfl (bA_noowns _) (bA_closeds _) (bA_nobors _)) ?_
      refine SW.ret ?_
      simp only [go_sem]
      have hr : (room 80).length = 80 := room_length 80
      refine ⟨by simp, by simp [hr], ?_, ?_⟩
      · rw [List.take_left']
        rfl
      · rw [List.take_of_length_le (by simp [hr])]
end Go.PA
