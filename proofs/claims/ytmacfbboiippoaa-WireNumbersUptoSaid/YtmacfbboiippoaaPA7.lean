/- PA7: the operations are sound: values, on. -/
import Derived.Test.YtmacfbboiippoaaPA6
import Derived.Tactics
namespace Go.PA
section
variable {P : Program} {c : Ctx} {st : St} {a : Act} {w : World} {loc : Nat → Option (Option Nat)} {S : Nat → Prop} {Fm : Nat → List Nat}

theorem exec_value {o : Oper} {x : Operand} (h : o.op = .move x ∨ o.op = .assign x) : (execOp a.eval o).run P w = .ok (.value (a.eval x)) w := by
  rcases h with h | h <;> simp [execOp, h]

def noEq : Value → Bool
  | .agg _ | .nilIface => false
  | _ => true
theorem eqGuard_other {op : BinOp} {t : TypeId} {x y : Operand} {u v : Value} (h : noEq u = true) : (eqGuard op t x y u v).run P w = .ok () w := by
  cases u <;> first | (simp [noEq] at h; done) | (cases op <;> rfl)

theorem exec_binOp {o : Oper} {op : BinOp} {t t' : TypeId} {x y : Operand} {u v z : Value} (ho : o.op = .binOp op t x y t') (hu : a.eval x = u) (hv : a.eval y = v)
    (h : noEq u = true) (hr : (binOp op t u v).run P w = .ok z w) : (execOp a.eval o).run P w = .ok (.value z) w := by
  simp only [execOp, ho, hu, hv, Sem.run_bind, eqGuard_other h, Result.andThen_ok, hr, Sem.run_pure]

theorem run_equal_bool {t : TypeId} {n m : Bool} (hu : P.underlying t = some .bool) (w : World) : (Op.equal t (.bool n) (.bool m)).run P w = .ok (n == m) w := by
  have h : ∀ d, (Op.equalIn (d + 1) t (.bool n) (.bool m)).run P w = .ok (n == m) w := by
    intro d
    simp only [Op.equalIn, Sem.run_bind, run_underlying hu, Result.andThen_ok, Sem.run_pure]
  exact h 9999

theorem aBin_sound {o : Oper} {op : BinOp} {t t' : TypeId} {x y : Operand} {u v : A} {eff : Eff} {l : List Nat} (ho : o.op = .binOp op t x y t') (R : RelW c st a w loc S Fm)
    (hx : TV u (envOf c st w loc S) (a.eval x)) (hy : TV v (envOf c st w loc S) (a.eval y)) (r : RM.Runs st.bk (aBin P op t u v) eff l) : Done P c (st.app eff) a o w eff.val := by
  unfold aBin at r
  split at r
  · rename_i k n k' m
    rw [TV_v] at hx hy
    have ex : ∀ z, (binOp op t (.int k n) (.int k' m)).run P w = .ok z w → (execOp a.eval o).run P w = .ok (.value z) w := fun z hz =>
      exec_binOp ho hx.2 hy.2 rfl hz
    split at r
    · obtain ⟨h0, r⟩ := runs_req r
      refine done_effV R r (ex _ ?_) (by rw [TV_v]; exact ⟨rfl, rfl⟩)
      simp [binOp, Op.shift, ishl, Int.not_lt.2 h0]
    · obtain ⟨h0, r⟩ := runs_req r
      refine done_effV R r (ex _ ?_) (by rw [TV_v]; exact ⟨rfl, rfl⟩)
      simp [binOp, Op.shift, ishr, Int.not_lt.2 h0]
    · split at r
      · rename_i hk
        subst hk
        obtain ⟨z, rfl, hz, hr⟩ := run_intBin (P := P) r
        have hb := hr w
        refine done_val R (ex z ?_) (by rw [TV_v]; exact ⟨hz, rfl⟩)
        rw [← hb.1]
        cases op <;> first | rfl | (exact absurd rfl hb.2.1) | (exact absurd rfl hb.2.2)
      · exact (runs_fail r).elim
  · rename_i n m
    rw [TV_v] at hx hy
    have ex : ∀ z, (binOp op t (.string n) (.string m)).run P w = .ok z w → (execOp a.eval o).run P w = .ok (.value z) w := fun z hz =>
      exec_binOp ho hx.2 hy.2 rfl hz
    cases op <;> simp only [strBin] at r <;> first
      | exact (runs_fail r).elim
      | (refine done_effV R r (ex _ ?_) (by rw [TV_v]; exact ⟨rfl, rfl⟩); simp [binOp, Op.stringOp]; done)
      | (obtain ⟨h0, r⟩ := runs_req r
         refine done_effV R r (ex _ ?_) (by rw [TV_v]; exact ⟨rfl, rfl⟩)
         have h1 : ¬ (((n.size + m.size : Nat) : Int) > IntKind.i64.max) := by
           have : IntKind.i64.max = 9223372036854775807 := by decide
           omega
         simp only [binOp, Op.stringOp, if_neg h1, Sem.run_pure])
  · rename_i n m
    rw [TV_v] at hx hy
    have ex : ∀ z, (binOp op t (.bool n) (.bool m)).run P w = .ok z w → (execOp a.eval o).run P w = .ok (.value z) w := fun z hz =>
      exec_binOp ho hx.2 hy.2 rfl hz
    split at r
    · rename_i hu
      refine done_effV R r (ex _ ?_) (by rw [TV_v]; exact ⟨rfl, rfl⟩)
      simp only [binOp, Sem.run_bind, run_equal_bool hu, Result.andThen_ok, Sem.run_pure]
    · rename_i hu
      refine done_effV R r (ex _ ?_) (by rw [TV_v]; exact ⟨rfl, rfl⟩)
      simp only [binOp, Sem.run_bind, run_equal_bool hu, Result.andThen_ok, Sem.run_pure]
    · exact (runs_fail r).elim
  · exact (runs_fail r).elim

theorem aUn_sound {o : Oper} {op : UnOp} {t : TypeId} {x : Operand} {u : A} {eff : Eff} {l : List Nat} (ho : o.op = .unOp op t x) (R : RelW c st a w loc S Fm)
    (hx : TV u (envOf c st w loc S) (a.eval x)) (r : RM.Runs st.bk (aUn op u) eff l) : Done P c (st.app eff) a o w eff.val := by
  unfold aUn at r
  split at r
  · rw [TV_v] at hx
    refine done_effV R r ?_ (by rw [TV_v]; exact ⟨rfl, rfl⟩)
    simp [execOp, ho, hx.2, Op.unary]
  · rw [TV_v] at hx
    refine done_effV R r ?_ (by rw [TV_v]; exact ⟨rfl, rfl⟩)
    simp [execOp, ho, hx.2, Op.unary, Op.intArith]
  · rw [TV_v] at hx
    refine done_effV R r ?_ (by rw [TV_v]; exact ⟨rfl, rfl⟩)
    simp [execOp, ho, hx.2, Op.unary, Op.intBits, ixor]
  · exact (runs_fail r).elim

theorem aConv_sound {o : Oper} {s d : TypeId} {x : Operand} {u : A} {eff : Eff} {l : List Nat} (ho : o.op = .convert s d x) (R : RelW c st a w loc S Fm)
    (hx : TV u (envOf c st w loc S) (a.eval x)) (r : RM.Runs st.bk (aConv P s d u) eff l) : Done P c (st.app eff) a o w eff.val := by
  unfold aConv at r
  split at r
  · rename_i k' k _ n hk' hk
    rw [TV_v] at hx
    have hs : P.underlying s = some (.int k') := by
      unfold tInt at hk'; split at hk' <;> simp_all
    have hd : P.underlying d = some (.int k) := by
      unfold tInt at hk; split at hk <;> simp_all
    refine done_effV R r ?_ (by rw [TV_v]; exact ⟨rfl, rfl⟩)
    simp [execOp, ho, hx.2, convert, run_underlying hs, run_underlying hd, Conv.intToInt]
  · exact (runs_fail r).elim
end
end Go.PA
