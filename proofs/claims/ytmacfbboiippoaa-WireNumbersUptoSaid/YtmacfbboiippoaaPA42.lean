/- PA42: the walk's words. -/
import Derived.Test.YtmacfbboiippoaaPA41
import Derived.Attr
import Derived.IntWalk
namespace Go.PA

/-- Bytes. -/
def bA (l : List Nat) : List A := l.map fun (k : Nat) => A.v (.int .u8 (k : Int))
theorem bA_length (l : List Nat) : (bA l).length = l.length := by simp [bA]
theorem bA_append (l m : List Nat) : bA l ++ bA m = bA (l ++ m) := by simp [bA]
theorem bA_nil : bA [] = [] := rfl
theorem bA_one (k : Nat) : [A.v (.int .u8 k)] = bA [k] := rfl
theorem bA_sz {l : List Nat} {y : A} (h : y ∈ bA l) : y.sz = 1 := by
  simp only [bA, List.mem_map] at h
  obtain ⟨k, _, rfl⟩ := h
  rfl
theorem bA_noowns : ∀ (l : List Nat), noowns (bA l) = true
  | [] => rfl
  | k :: l => by
    have := bA_noowns l
    simp only [bA, List.map_cons, noowns, A.noown, Bool.true_and] at this ⊢
    exact this
theorem bA_nobors : ∀ (l : List Nat), nobors (bA l) = true
  | [] => rfl
  | k :: l => by
    have := bA_nobors l
    simp only [bA, List.map_cons, nobors, A.nobor, Bool.true_and] at this ⊢
    exact this
theorem bA_take (l : List Nat) (k : Nat) : (bA l).take k = bA (l.take k) := by simp [bA, List.map_take]
theorem bA_drop (l : List Nat) (k : Nat) : (bA l).drop k = bA (l.drop k) := by simp [bA, List.map_drop]
theorem bA_get (l : List Nat) (k : Nat) (d : A) (h : k < l.length) : (bA l).getD k d = A.v (.int .u8 ((l.getD k 0 : Nat) : Int)) := by
  simp [bA, List.getD_eq_getElem?_getD, h]
theorem bA_szs (l : List Nat) : szs (bA l) = l.length := by
  induction l with
  | nil => rfl
  | cons k l ih =>
    simp only [bA, List.map_cons, szs, List.length_cons] at ih ⊢
    rw [ih]
    simp [A.sz]
    omega

/-- goes on, whatever the range's list. -/
theorem true_eq_false_imp {p : Prop} : ((true = false) → p) ↔ True := by simp

attribute [go_sem] wantedA_none okDst_some okDst_none aeff effV effN RM.wp RM.bind allocs Op.operands aval_tmp aval_int aval_bool aval_func aval_nil mapM_nil' mapM_cons' Option.bind_some Option.bind_none List.size_toArray
  List.length_cons List.length_nil Nat.zero_add go_sl go_bk bump_sl bump_bk bump_ids bump_ep go_ids go_ep St.of_sl St.of_bk St.of_ids St.of_ep alook Nat.reduceLT Nat.reduceMul Nat.reduceAdd Nat.reduceSub decide_true decide_false Bool.true_and Bool.and_true
  List.getD_cons_succ List.getD_cons_zero List.getD_nil Bool.not_false Bool.not_true true_and and_true true_imp_iff reduceCtorEq false_imp_iff reduceIte List.contains_nil Bool.or_false Bool.false_or Option.some.injEq Nat.reduceEqDiff aBin intBin aConv aUn aMake aAppend aSlice aBuild aBuildSlice aBuiltin aLen aIndex aField aFieldAddr aLoad aStore
  appSrc putParts partsOf then_normal then_exit then_ret inBlock_normal inBlock_ret inBlock_same Option.map_some Option.map_none slsOk bksOk ren renB exitQ exitM resVarsM resVarM takeAll takeA backPass nobors A.nobor A.good Out.ret.injEq List.cons.injEq A.v.injEq Value.int.injEq Value.bool.injEq Int.toNat_natCast Int.reduceToNat Nat.sub_zero
  List.foldl_cons List.foldl_nil upd_app List.map_cons List.map_nil Array.toList_append List.zip_cons_cons List.zip_nil_left List.contains_cons Nat.reduceBEq Bool.or_true Bool.true_or and_self

end Go.PA
