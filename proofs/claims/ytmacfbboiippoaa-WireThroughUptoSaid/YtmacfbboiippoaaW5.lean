/- kept. -/
import Derived.Test.YtmacfbboiippoaaW4
namespace Go.PA
open Go.Proofs
set_option linter.unusedSimpArgs false
set_option linter.unusedVariables false
set_option maxRecDepth 100000
attribute [local go_sem] MM

theorem getD_app_left {l r : List Nat} {x : Nat} (h : x < l.length) : (l ++ r).getD x 0 = l.getD x 0 := by
  simp [List.getD_eq_getElem?_getD, List.getElem?_append_left h]
theorem getD_app_right {l r : List Nat} {x : Nat} (h : l.length ≤ x) : (l ++ r).getD x 0 = r.getD (x - l.length) 0 := by
  simp [List.getD_eq_getElem?_getD, List.getElem?_append_right h]
theorem room_getD (k i : Nat) (h : i < k) : (room k).getD i 0 = 171 + i % 60 := by
  induction k with
  | zero => omega
  | succ k ih =>
    simp only [room]
    rcases Nat.lt_or_ge i k with h1 | h1
    · rw [getD_app_left (by rw [room_length]; exact h1)]
      exact ih h1
    · have : i = k := by omega
      subst this
      rw [getD_app_right (by rw [room_length]; omega), room_length]
      simp

theorem kept_FS (p q : Bool) (b : List Nat) (hb : b.length < 2 ^ 39) : FS Try.prog 19 [.sl p (bA (b ++ room 80)), .sl q (bA b)] (.ret [.v (.bool true)] [none, none]) := by
  refine FS_of_SW (kb := [false, false]) Try.func19 rfl rfl (by rfl) ?_
  have hlen : (b ++ room 80).length = b.length + 80 := by rw [List.length_append, room_length]
  have hget1 : ∀ x, x < b.length → (b ++ room 80).getD x 0 = b.getD x 0 := fun x h => getD_app_left h
  have hget2 : ∀ x, b.length ≤ x → x < b.length + 80 → (b ++ room 80).getD x 0 = 171 + (x - b.length) % 60 := fun x h h2 => by
    rw [getD_app_right h, room_getD _ _ (by omega)]
  generalize b ++ room 80 = al at *
  refine SW.weak (Weak.of [] (sls := [(0, .sl p (bA al)), (1, .sl q (bA b))]) (bks := []) (ep := 64) (by rfl) ⟨rfl, rfl, trivial⟩ trivial) ?_
  refine SW.seqK fun K0 hK0 => ?_
  refine SW.go MM ?_
  simp only [go_sem]
  apply hK0
  refine SW.seqK fun K1 hK1 => ?_
  refine SW.seqK fun K2 hK2 => ?_
  refine SW.go MM ?_
  simp only [go_sem]
  apply hK2
  refine SW.block ?_
  refine SW.loop (α := { i : Nat // i ≤ al.length }) (fun x => St.of [(0, .sl p (bA al)), (1, .sl q (bA b)), (5, .v (.int .i64 x.1))] [] 64) (fun x => al.length - x.1) ⟨0, by omega⟩ ?_ fun ⟨x, hx⟩ => ?_
  · refine Weak.of [] (by rfl) ?_ trivial
    simp only [go_sem]
    rfl
  · refine SW.seqK fun K4 hK4 => ?_
    refine SW.seqK fun K5 hK5 => ?_
    refine SW.go MM ?_
    simp only [go_sem]
    apply hK5
    refine SW.cond (t := ?_) ?_ ?_ ?_   -- t9
    rotate_left
    · simp only [go_sem]
      rfl
    · intro ht
      have hlt : x < al.length := by
        have : (x : Int) < al.length := by simpa using ht
        omega
      refine SW.skip ?_
      simp only [go_sem]
      apply hK4
      refine SW.seqK fun K6 hK6 => ?_
      refine SW.block ?_
      refine SW.seqK fun K7 hK7 => ?_
      refine SW.goDrawF MM (by rfl) (by kernel_rfl) ?_
      -- GUARDS
      have fin : ∀ st, (st.sl 46 = some (.v (.bool false)) ∧ st.sl 0 = some (.sl p (bA al)) ∧ st.sl 1 = some (.sl q (bA b)) ∧ st.sl 5 = some (.v (.int .i64 x)) ) → K7 st := by
        intro st ⟨h46, h0, h1, h5⟩
        apply hK7
        refine SW.weak (Weak.of [] (sls := [(46, .v (.bool false)), (0, .sl p (bA al)), (1, .sl q (bA b)), (5, .v (.int .i64 x))]) (bks := []) (ep := 64) (by rfl) ?_ trivial) ?_
        · simp only [go_sem, h46, h0, h1, h5]
        refine SW.cond (t := false) ?_ ?_ ?_   -- t46
        · simp only [go_sem]
        · intro ht
          cases ht
        · intro ht
          refine SW.skip ?_
          simp only [go_sem]
          apply hK6
          refine SW.go MM ?_
          simp only [go_sem]
          refine ⟨⟨x + 1, by omega⟩, Weak.of [] (by rfl) ?_ trivial, by dsimp only; omega⟩
          simp only [go_sem]
          rw [IntWalk.i64_in _ (by omega)]
          simp
      by_cases hxb : x < b.length
      · have hd : decide ((x : Int) < (b.length : Int)) = true := by simp; omega
        have hd2 : decide ((x : Int) ≥ (b.length : Int)) = false := by simp; omega
        have hne : (((al.getD x 0 : Nat) : Int) != ((b.getD x 0 : Nat) : Int)) = false := by rw [hget1 x hxb]; simp
        simp -implicitDefEqProofs only [go_sem, hd, hd2, hne]
        refine ⟨by omega, by omega, by kernel_rfl, fin _ ?_⟩
        simp only [go_sem]
      · have hd : decide ((x : Int) < (b.length : Int)) = false := by simp; omega
        have hd2 : decide ((x : Int) ≥ (b.length : Int)) = true := by simp; omega
        have hne : (((al.getD x 0 : Nat) : Int) != IntKind.u8.wrap (IntKind.i64.wrap (171 + (IntKind.i64.wrap ((x : Int) - b.length)).tmod 60))) = false := by
          rw [IntWalk.i64_in ((x : Int) - b.length) (by omega), hget2 x (by omega) (by omega), show (x : Int) - b.length = ((x - b.length : Nat) : Int) by omega, byte_room]
          simp
        simp -implicitDefEqProofs only [go_sem, hd, hd2, hne]
        refine ⟨by omega, by decide, by kernel_rfl, fin _ ?_⟩
        simp only [go_sem]
    · intro ht
      refine SW.exit ?_   -- 0
      simp only [go_sem]
      apply hK1
      refine SW.seqK fun K9 hK9 => ?_
      refine SW.go MM ?_
      simp only [go_sem]
      apply hK9
      refine SW.ret ?_
      simp only [go_sem]
end Go.PA
