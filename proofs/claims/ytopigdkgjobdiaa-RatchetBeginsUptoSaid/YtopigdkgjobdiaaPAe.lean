/- Arguments that came in. -/
import Derived.Test.YtopigdkgjobdiaaPAd
import Derived.WalkKit
import Derived.ProofKit
import Derived.OpenShut
import Derived.ShutString
import Derived.ChangeOld
import Derived.JoinedCond
import Derived.Below
import Derived.DataElems
set_option linter.unusedSimpArgs false
set_option linter.unusedVariables false
/- PA70: arguments that came in, as trees: of any type without maps, functions, interfaces. -/
namespace Go.PA
open Go.ChangeShapes Go.RowKit

/-- A type's form. -/
inductive TC where
  | bool
  | int (k : IntKind)
  | str
  | slice (e : TC)
  | struct (fs : List TC)
  | arr (n : Nat) (e : TC)
  | ptr (e : TC)

mutual
def TC.sz : TC → Nat
  | .bool | .int _ | .str | .slice _ | .ptr _ => 1
  | .struct fs => tcSzs fs
  | .arr n e => n * e.sz
def tcSzs : List TC → Nat
  | [] => 0
  | c :: l => c.sz + tcSzs l
end

mutual
def tcOk (P : Program) : TC → TypeId → Bool
  | .bool, t => match P.underlying t with | some .bool => true | _ => false
  | .int k, t => match P.underlying t with | some (.int k') => decide (k' = k) | _ => false
  | .str, t => match P.underlying t with | some .string => true | _ => false
  | .slice e, t => match P.underlying t with | some (.slice te) => decide (P.cellsOf te = e.sz) && decide (0 < e.sz) && tcOk P e te | _ => false
  | .ptr e, t => match P.underlying t with | some (.pointer te) => decide (P.cellsOf te = e.sz) && decide (0 < e.sz) && tcOk P e te | _ => false
  | .arr n e, t => match P.underlying t with | some (.array n' te) => decide (n' = n) && decide (P.cellsOf te = e.sz) && decide (P.cellsOf t = n * e.sz) && tcOk P e te | _ => false
  | .struct fs, t => match P.underlying t with | some (.struct a) => decide (P.cellsOf t = tcSzs fs) && tcOks P fs 0 a.toList | _ => false
def tcOks (P : Program) : List TC → Nat → List Field → Bool
  | [], _, [] => true
  | c :: cs, off, f :: l => decide (f.offset = off) && decide (P.cellsOf f.type = c.sz) && tcOk P c f.type && tcOks P cs (off + c.sz) l
  | _, _, _ => false
end

mutual
/-- A datum and its tree. -/
inductive DA {H : Type} : TC → DataW H → A → Prop
  | bool (b : Bool) : DA .bool (.lit (.bool b)) (.v (.bool b))
  | int (k : IntKind) (n : Int) (h : (Lit.int k n).wf = true) : DA (.int k) (.lit (.int k n)) (.v (.int k n))
  | str (s : ByteArray) : DA .str (.lit (.string s.data.toList)) (.v (.string s))
  | nil (e : TC) : DA (.slice e) .nil (.sl true [])
  | slice (e : TC) (ds rest : List (DataW H)) (as : List A) (h : DAl e ds as) : DA (.slice e) (.slice ds rest) (.sl true as)
  | struct (fs : List TC) (ds : List (DataW H)) (as : List A) (h : DAs fs ds as) : DA (.struct fs) (.agg ds) (.agg as)
  | arr (n : Nat) (e : TC) (ds : List (DataW H)) (as : List A) (h : DAl e ds as) (hn : ds.length = n) : DA (.arr n e) (.agg ds) (.arr (n * e.sz) as)
  | pnil (e : TC) : DA (.ptr e) .nil (.v (.pointer none))
  | ptr (e : TC) (d : DataW H) (a : A) (h : DA e d a) : DA (.ptr e) (.ptr d) (.rp true a)
inductive DAl {H : Type} : TC → List (DataW H) → List A → Prop
  | nil (e : TC) : DAl e [] []
  | cons (e : TC) (d : DataW H) (ds : List (DataW H)) (a : A) (as : List A) (h : DA e d a) (hs : DAl e ds as) : DAl e (d :: ds) (a :: as)
inductive DAs {H : Type} : List TC → List (DataW H) → List A → Prop
  | nil : DAs [] [] []
  | cons (e : TC) (es : List TC) (d : DataW H) (ds : List (DataW H)) (a : A) (as : List A) (h : DA e d a) (hs : DAs es ds as) : DAs (e :: es) (d :: ds) (a :: as)
end

mutual
theorem DA.sz {H : Type} : ∀ {c : TC} {d : DataW H} {a : A}, DA c d a → a.sz = c.sz
  | _, _, _, .bool _ => rfl
  | _, _, _, .int _ _ _ => rfl
  | _, _, _, .str _ => rfl
  | _, _, _, .nil _ => rfl
  | _, _, _, .slice _ _ _ _ _ => rfl
  | _, _, _, .struct fs ds as h => by simp only [A.sz, TC.sz]; exact DAs.sz h
  | _, _, _, .arr n e ds as h hn => by simp only [A.sz, TC.sz]
  | _, _, _, .pnil _ => rfl
  | _, _, _, .ptr _ _ _ _ => rfl
theorem DAs.sz {H : Type} : ∀ {cs : List TC} {ds : List (DataW H)} {as : List A}, DAs cs ds as → szs as = tcSzs cs
  | _, _, _, .nil => rfl
  | _, _, _, .cons e es d ds a as h hs => by simp only [szs, tcSzs, h.sz, hs.sz]
end
theorem DAl.sz {H : Type} : ∀ {c : TC} {ds : List (DataW H)} {as : List A}, DAl c ds as → ∀ x ∈ as, x.sz = c.sz
  | _, _, _, .nil _ => by simp
  | _, _, _, .cons e d ds a as h hs => by
    intro x hx
    rcases List.mem_cons.1 hx with rfl | hx
    · exact h.sz
    · exact DAl.sz hs x hx
theorem DAl.len {H : Type} : ∀ {c : TC} {ds : List (DataW H)} {as : List A}, DAl c ds as → as.length = ds.length
  | _, _, _, .nil _ => rfl
  | _, _, _, .cons e d ds a as h hs => by simp [hs.len]

theorem shut_eq {e : Env} {w : World} (h : e.w = w) : e.shut.w = w := h

section
variable {H : Type} {enc : TypeId × Value → H} {P : Program} {w : World} {base : Nat} {sp : Nat → Bool} {held : Bool}

theorem cell_lt {a : Addr} {v : Value} (h : w.cell? a = some v) : a.block < w.heap.size := by
  refine Nat.lt_of_not_le fun hle => ?_
  have h2 : w.heap[a.block]? = none := Array.getElem?_eq_none hle
  unfold World.cell? at h
  simp [h2] at h

/-- What stands at a tree's place. -/
def ReadsAs (w : World) (a : A) (cs : List Value) : Prop := ∀ e : Env, e.w = w → (∀ g, g < w.heap.size → e.S g) → VR a e cs []
def ReadsAll (w : World) (as : List A) (cs : List Value) : Prop := ∀ e : Env, e.w = w → (∀ g, g < w.heap.size → e.S g) → VRs as e cs []

theorem elems_tree {c : TC} {te : TypeId} {a : Addr} {k n : Nat} (hk : k = c.sz)
    (ih : ∀ cs x, DataW.trod enc P w base sp held n te cs = some x → ∃ a, DA c x.1 a ∧ ReadsAs w a cs) :
    ∀ (l : List (DataW H × List MemPlace)) (i0 : Nat), (∀ i, i < l.length → (w.cells? base (a.add ((i0 + i) * k)) k).bind (DataW.trod enc P w base sp held n te) = l[i]?) →
      ∃ as us, DAl c (l.map (·.1)) as ∧ ReadsAll w as us ∧ us.length = l.length * k ∧ ∀ j u, us[j]? = some u → w.cell? (a.add (i0 * k + j)) = some u
  | [], i0, _ => ⟨[], [], .nil _, fun e _ _ => by simp [VRs], by simp, by simp⟩
  | y :: l, i0, h => by
    have h0 := h 0 (by simp)
    simp only [Nat.add_zero, List.getElem?_cons_zero, Option.bind_eq_some_iff] at h0
    obtain ⟨cs, hcs, hy⟩ := h0
    obtain ⟨t, hda, hr⟩ := ih cs y hy
    obtain ⟨as, us, hdl, hrl, hlen, hcell⟩ := elems_tree hk ih l (i0 + 1) fun i hi => by
      have := h (i + 1) (by simpa using hi)
      rw [List.getElem?_cons_succ] at this
      rw [← this, show i0 + 1 + i = i0 + (i + 1) by omega]
    obtain ⟨_, hl, hc⟩ := World.cells?_some hcs
    refine ⟨t :: as, cs ++ us, .cons _ _ _ _ _ hda hdl, fun e h1 h2 => VRs_cons (F := []) (G := []) (hr e h1 h2) (hrl e h1 h2), by simp [hl, hlen, Nat.succ_mul, Nat.add_comm], fun j u hu => ?_⟩
    rcases Nat.lt_or_ge j cs.length with hj | hj
    · rw [List.getElem?_append_left hj] at hu
      have := hc j (by omega)
      rw [hu, Addr.add_add] at this
      exact this
    · rw [List.getElem?_append_right hj] at hu
      have := hcell _ u hu
      rw [show (i0 + 1) * k + (j - cs.length) = i0 * k + j by rw [Nat.succ_mul]; omega] at this
      exact this

theorem arr_tree {c : TC} {te : TypeId} {k n : Nat}
    (ih : ∀ cs x, DataW.trod enc P w base sp held n te cs = some x → ∃ a, DA c x.1 a ∧ ReadsAs w a cs) :
    ∀ (l : List (DataW H × List MemPlace)) (i0 : Nat) (cs : List Value), cs.length = (i0 + l.length) * k → (∀ i, i < l.length → DataW.trod enc P w base sp held n te ((cs.drop ((i0 + i) * k)).take k) = l[i]?) →
      ∃ as, DAl c (l.map (·.1)) as ∧ ReadsAll w as (cs.drop (i0 * k))
  | [], i0, cs, hl, _ => ⟨[], .nil _, fun e _ _ => by simp only [VRs, and_true]; rw [List.drop_of_length_le]; simp at hl; omega⟩
  | y :: l, i0, cs, hl, h => by
    have h0 := h 0 (by simp)
    simp only [Nat.add_zero, List.getElem?_cons_zero] at h0
    obtain ⟨t, hda, hr⟩ := ih _ y h0
    obtain ⟨as, hdl, hrl⟩ := arr_tree ih l (i0 + 1) cs (by rw [hl, List.length_cons]; congr 1; omega) fun i hi => by
      have := h (i + 1) (by simpa using hi)
      rw [List.getElem?_cons_succ] at this
      rw [← this, show i0 + 1 + i = i0 + (i + 1) by omega]
    refine ⟨t :: as, .cons _ _ _ _ _ hda hdl, fun e h1 h2 => ?_⟩
    have := VRs_cons (F := []) (G := []) (hr e h1 h2) (hrl e h1 h2)
    rw [Nat.succ_mul, ← List.drop_drop, List.take_append_drop] at this
    exact this

mutual
theorem open_tree : ∀ (c : TC) (t : TypeId) (fuel : Nat) (cs : List Value) (x : DataW H × List MemPlace), tcOk P c t = true → DataW.trod enc P w base sp held fuel t cs = some x →
    ∃ a, DA c x.1 a ∧ ReadsAs w a cs
  | .bool, t, fuel, cs, x, ht, h => by
    unfold tcOk at ht
    split at ht
    · rename_i hu
      obtain ⟨b, rfl, rfl⟩ := DataW.trod_bool hu h
      exact ⟨_, .bool b, fun e _ _ => by simp [VR, plainV]⟩
    · simp at ht
  | .int k, t, fuel, cs, x, ht, h => by
    unfold tcOk at ht
    split at ht
    · rename_i k' hu
      obtain rfl := of_decide_eq_true ht
      obtain ⟨b, rfl, rfl, hw⟩ := DataW.trod_int hu h
      exact ⟨_, .int _ b hw, fun e _ _ => by simp [VR, plainV]⟩
    · simp at ht
  | .str, t, fuel, cs, x, ht, h => by
    unfold tcOk at ht
    split at ht
    · rename_i hu
      obtain ⟨b, rfl, rfl, hw⟩ := DataW.trod_string hu h
      exact ⟨_, .str b, fun e _ _ => by simp [VR, plainV]⟩
    · simp at ht
  | .slice c, t, fuel, cs, x, ht, h => by
    unfold tcOk at ht
    split at ht
    · rename_i te hu
      rw [Bool.and_eq_true, Bool.and_eq_true] at ht
      have hk := of_decide_eq_true ht.1.1
      have hp := of_decide_eq_true ht.1.2
      rcases DataW.trod_slice hu h with ⟨rfl, rfl⟩ | ⟨a, len, cap, elems, rest, n, rfl, rfl, rfl, _, hlc, _, hel, he, _, _⟩
      · exact ⟨_, .nil c, fun e _ _ => by
          simp only [VR]
          exact ⟨trivial, none, 0, [], rfl, by simp, ⟨0, by simp⟩, by simp [VRs], by simp⟩⟩
      · obtain ⟨as, us, hda, hr, hlen, hcell⟩ := elems_tree (a := a) hk (fun cs x h => open_tree c te n cs x ht.2 h) elems 0 (fun i hi => by
          rw [Nat.zero_add]
          exact he i (by omega))
        refine ⟨_, .slice c _ _ as hda, fun e h1 h2 => ?_⟩
        have hal : as.length = len := by rw [hda.len, List.length_map, hel]
        simp only [VR]
        refine ⟨trivial, some a, cap, us, by rw [hal], by rw [hal]; exact hlc, ⟨c.sz, hda.sz⟩, hr _ h1 h2, fun hne => ⟨a, rfl, ?_, fun j u hu => by rw [h1]; simpa using hcell j u hu⟩⟩
        have h0 : 0 < us.length := by
          have h5 : 0 < as.length := List.length_pos_iff.2 hne
          rw [hlen, hel, ← hal, hk]
          exact Nat.mul_pos h5 hp
        have h3 := hcell 0 us[0] (by rw [List.getElem?_eq_getElem h0])
        have h4 := cell_lt h3
        rw [PA.block_add] at h4
        exact .inl (h2 _ h4)
    · simp at ht
  | .ptr c, t, fuel, cs, x, ht, h => by
    unfold tcOk at ht
    split at ht
    · rename_i te hu
      rw [Bool.and_eq_true, Bool.and_eq_true] at ht
      have hk := of_decide_eq_true ht.1.1
      have hp := of_decide_eq_true ht.1.2
      rcases DataW.trod_pointer hu h with ⟨rfl, rfl⟩ | ⟨a, cs', y, n, rfl, rfl, rfl, hcs, hy⟩
      · exact ⟨_, .pnil c, fun e _ _ => by simp [VR, plainV]⟩
      · obtain ⟨b, hda, hr⟩ := open_tree c te n cs' y ht.2 hy
        obtain ⟨_, hl, hc⟩ := World.cells?_some hcs
        refine ⟨_, .ptr c _ b hda, fun e h1 h2 => ?_⟩
        simp only [VR]
        refine ⟨trivial, a, cs', rfl, .inl (h2 _ ?_), hr _ h1 h2, fun j u hu => ?_⟩
        · have h3 := hc 0 (by omega)
          rw [List.getElem?_eq_getElem (by omega)] at h3
          have h4 := cell_lt h3
          rwa [PA.block_add] at h4
        · have hj := (List.getElem?_eq_some_iff.1 hu).1
          rw [h1, hc j (by omega), hu]
    · simp at ht
  | .arr n c, t, fuel, cs, x, ht, h => by
    unfold tcOk at ht
    split at ht
    · rename_i n' te hu
      simp only [Bool.and_eq_true] at ht
      obtain ⟨⟨⟨h1, h2⟩, h3⟩, h4⟩ := ht
      have h1 := of_decide_eq_true h1
      have h2 := of_decide_eq_true h2
      have h3 := of_decide_eq_true h3
      subst h1
      obtain ⟨xs, m, rfl, rfl, hl, hxs, he⟩ := DataW.trod_array hu h
      obtain ⟨as, hda, hr⟩ := arr_tree (k := P.cellsOf te) (fun cs x h => open_tree c te m cs x h4 h) xs 0 cs (by rw [hl, h3, ← h2, hxs, Nat.zero_add]) (fun i hi => by
          rw [Nat.zero_add]
          exact he i (by omega))
      refine ⟨_, .arr _ c _ as hda (by simp [hxs]), fun e h5 h6 => ?_⟩
      simp only [VR]
      refine ⟨by rw [hl, h3], ⟨c.sz, hda.sz⟩, ?_⟩
      have := hr e.shut h5 h6
      simpa using this
    · simp at ht
  | .struct fs, t, fuel, cs, x, ht, h => by
    unfold tcOk at ht
    split at ht
    · rename_i a hu
      rw [Bool.and_eq_true] at ht
      have hk := of_decide_eq_true ht.1
      obtain ⟨xs, n, rfl, rfl, hl, hxs, he⟩ := DataW.trod_struct hu h
      obtain ⟨as, hda, hr⟩ := open_trees fs 0 a.toList n cs xs ht.2 (by simp [hxs]) (by rw [hl, hk, Nat.zero_add]) (fun i f hf => he i f (by simpa using hf))
      exact ⟨_, .struct fs _ as hda, fun e h5 h6 => by simpa [VR] using hr e h5 h6⟩
    · simp at ht
theorem open_trees : ∀ (fs : List TC) (off : Nat) (l : List Field) (n : Nat) (cs : List Value) (xs : List (DataW H × List MemPlace)), tcOks P fs off l = true → xs.length = l.length → cs.length = off + tcSzs fs →
    (∀ (i : Nat) (f : Field), l[i]? = some f → DataW.trod enc P w base sp held n f.type ((cs.drop f.offset).take (P.cellsOf f.type)) = xs[i]?) →
    ∃ as, DAs fs (xs.map (·.1)) as ∧ ReadsAll w as (cs.drop off)
  | [], off, [], n, cs, xs, ht, hl, hc, h => by
    have : xs = [] := List.eq_nil_of_length_eq_zero (by simpa using hl)
    subst this
    exact ⟨[], .nil, fun e _ _ => by simp only [VRs, and_true]; rw [List.drop_of_length_le]; simp [tcSzs] at hc; omega⟩
  | c :: fs, off, f :: l, n, cs, [], ht, hl, hc, h => by simp at hl
  | c :: fs, off, f :: l, n, cs, y :: xs, ht, hl, hc, h => by
    unfold tcOks at ht
    simp only [Bool.and_eq_true] at ht
    obtain ⟨⟨⟨h1, h2⟩, h3⟩, h4⟩ := ht
    have h1 := of_decide_eq_true h1
    have h2 := of_decide_eq_true h2
    have h0 := h 0 f (by simp)
    rw [List.getElem?_cons_zero, h1, h2] at h0
    obtain ⟨t, hda, hr⟩ := open_tree c f.type n _ y h3 h0
    simp only [tcSzs] at hc
    obtain ⟨as, hdl, hrl⟩ := open_trees fs (off + c.sz) l n cs xs h4 (by simpa using hl) (by omega) fun i g hg => by
      have := h (i + 1) g (by simpa using hg)
      rwa [List.getElem?_cons_succ] at this
    refine ⟨t :: as, .cons _ _ _ _ _ _ hda hdl, fun e h5 h6 => ?_⟩
    have := VRs_cons (F := []) (G := []) (hr e h5 h6) (hrl e h5 h6)
    rw [← List.drop_drop, List.take_append_drop] at this
    exact this
  | [], off, f :: l, n, cs, xs, ht, hl, hc, h => by simp [tcOks] at ht
  | c :: fs, off, [], n, cs, xs, ht, hl, hc, h => by simp [tcOks] at ht
end
end
end Go.PA

/- PA71: a law's row: the arguments are trees, the law is called, nothing that was there has turned. -/
namespace Go.PA
open Go.ChangeShapes Go.RowKit

/-- What is there when a law is called: nothing of it turns. -/
def lawEnv (W : World) : Env := cEnv W (fun g => g < W.heap.size) (fun _ => False)

theorem law_below {P : Program} {f : FuncId} {args : List A} {back : List (Option A)} {vs : List Value} {W : World} (h : FS P f args (.ret [.v (.bool true)] back)) (hv : VVs args (lawEnv W) vs []) :
    Calls P f vs.toArray W fun e W' => e = .returned (.bool true) ∧ Below W.heap.size W W' := by
  refine (h W (fun g => g < W.heap.size) (fun _ => False) vs [] hv List.nodup_nil (fun g hg => by simp at hg) (fun g hg => hg.resolve_right id)).mono fun e W' ⟨S', F', hf, _, _, hm⟩ => ?_
  cases e with
  | returned v =>
    obtain ⟨Fr, Fb, _, hr, _⟩ := hm
    refine ⟨?_, hf.os, hf.tape, hf.output, hf.size, fun k hk => hf.heap k hk (by simp)⟩
    simp only [resRel] at hr
    rw [VV_mk rfl] at hr
    simp only [VR] at hr
    have h2 := hr.2.1
    simp only [List.cons.injEq, and_true] at h2
    rw [h2]
  | panicked ch => exact hm.elim
  | outgrown => exact hm.elim

section
variable {H : Type} {enc : TypeId × Value → H} {P : Program} {W : World} {base : Nat} {sp : Nat → Bool} {held : Bool}

theorem cell_one {t : TypeId} {r : Reach} {b : Nat} {v : Value} (h : Cell.okWide P W r b t v) : v.cells = #[v] := by
  cases v with
  | agg cs =>
    exfalso
    unfold Cell.okWide at h
    split at h
    all_goals first
      | (unfold Cell.ok at h; split at h <;> simp_all)
      | simp_all
  | _ => rfl

theorem value_tree {c : TC} {t : TypeId} {v : Value} {d : DataW H} {ps : List MemPlace} {b1 : Nat} (hok : tcOk P c t = true) (hv : Value.okWide P W .any b1 t v) (h : DataW.Trod enc P W base sp held t v d ps) :
    ∃ a, DA c d a ∧ ((a.isAgg = true ∧ ∃ cs, v = .agg cs ∧ VR a (lawEnv W) cs.toList []) ∨ (a.isAgg = false ∧ VR a (lawEnv W) [v] [])) := by
  obtain ⟨fuel, h⟩ := h
  obtain ⟨a, hda, hr⟩ := open_tree c t fuel _ _ hok h
  refine ⟨a, hda, ?_⟩
  have hvr := hr (lawEnv W) rfl (fun g hg => hg)
  have plain : (∀ fs, P.underlying t ≠ some (.struct fs)) → (∀ n e, P.underlying t ≠ some (.array n e)) → v.cells = #[v] := fun h1 h2 => by
    unfold Value.okWide at hv
    split at hv
    · rename_i fs hu; exact absurd hu (h1 fs)
    · rename_i n e hu; exact absurd hu (h2 n e)
    · exact cell_one hv
  have agg : ∀ {x}, P.underlying t = some x → (∃ fs, x = .struct fs) ∨ (∃ n e, x = .array n e) → ∃ cs, v = .agg cs := fun hu hx => by
    unfold Value.okWide at hv
    rcases hx with ⟨fs, rfl⟩ | ⟨n, e, rfl⟩ <;> (rw [hu] at hv; obtain ⟨cs, rfl, _⟩ := hv; exact ⟨cs, rfl⟩)
  cases c with
  | struct fs =>
    unfold tcOk at hok
    split at hok
    · rename_i a' hu
      obtain ⟨cs, rfl⟩ := agg hu (.inl ⟨_, rfl⟩)
      cases hda
      exact .inl ⟨rfl, cs, rfl, hvr⟩
    · simp at hok
  | arr n e =>
    unfold tcOk at hok
    split at hok
    · rename_i n' te hu
      obtain ⟨cs, rfl⟩ := agg hu (.inr ⟨_, _, rfl⟩)
      cases hda
      exact .inl ⟨rfl, cs, rfl, hvr⟩
    · simp at hok
  | _ =>
    unfold tcOk at hok
    split at hok
    · rename_i hu
      have hp := plain (by intro fs hf; rw [hu] at hf; cases hf) (by intro n e hf; rw [hu] at hf; cases hf)
      rw [hp] at hvr
      cases hda <;> exact .inr ⟨rfl, hvr⟩
    · simp at hok

def tcAll (P : Program) : List TC → List TypeId → Bool
  | [], [] => true
  | c :: cs, t :: ts => tcOk P c t && tcAll P cs ts
  | _, _ => false

theorem values_tree {b1 : Nat} : ∀ {cs : List TC} {ts : List TypeId} {vs : List Value} {ds : List (DataW H)} {ps : List MemPlace}, tcAll P cs ts = true →
    (∀ (j : Nat) t v, ts[j]? = some t → vs[j]? = some v → Value.okWide P W .any b1 t v) → DataW.TrodAll enc P W base sp held ts vs ds ps → ∃ as, DAs cs ds as ∧ VVs as (lawEnv W) vs []
  | [], [], [], [], _, _, _, _ => ⟨[], .nil, by simp [VVs]⟩
  | c :: cs, t :: ts, v :: vs, d :: ds, ps, hok, hv, h => by
    obtain ⟨p, q, h1, h2, _⟩ := h
    simp only [tcAll, Bool.and_eq_true] at hok
    obtain ⟨a, hda, hr⟩ := value_tree hok.1 (hv 0 t v rfl rfl) h1
    obtain ⟨as, hdl, hrl⟩ := values_tree (cs := cs) hok.2 (fun j t v ht hvj => hv (j + 1) t v (by simpa using ht) (by simpa using hvj)) h2
    refine ⟨a :: as, .cons _ _ _ _ _ _ hda hdl, ?_⟩
    simp only [VVs]
    exact ⟨v, vs, [], [], rfl, rfl, hr, hrl⟩
  | [], t :: ts, _, _, _, hok, _, _ => by simp [tcAll] at hok
  | c :: cs, [], _, _, _, hok, _, _ => by simp [tcAll] at hok
  | _, _ :: _, [], _, _, _, _, h => by simp [DataW.TrodAll] at h
  | _, _ :: _, _ :: _, [], _, _, _, h => by simp [DataW.TrodAll] at h
  | _, [], _ :: _, _, _, _, _, h => by simp [DataW.TrodAll] at h
  | _, [], [], _ :: _, _, _, _, h => by simp [DataW.TrodAll] at h

/-- Behind the call the arguments read as they did. -/
theorem trodAll_below {ts : List TypeId} (hl : laidOutB P = true) (hr : ts.all (fun t => P.readableRec t && decide (t < P.types.size)) = true) {W' : World} :
    ∀ {vs : List Value} {ds : List (DataW H)} {ps : List MemPlace}, DataW.TrodAll enc P W 0 (fun _ => true) true ts vs ds ps → Below W.heap.size W W' → DataW.TrodAll enc P W' 0 (fun b => decide (b < W.heap.size)) true ts vs ds ps := by
  induction ts with
  | nil => intro vs ds ps h _; exact (by cases vs <;> cases ds <;> simp [DataW.TrodAll] at h ⊢; exact h)
  | cons t ts ih =>
    intro vs ds ps h hb
    cases vs with
    | nil => simp [DataW.TrodAll] at h
    | cons v vs =>
      cases ds with
      | nil => simp [DataW.TrodAll] at h
      | cons d ds =>
        obtain ⟨p, q, h1, h2, rfl⟩ := h
        simp only [List.all_cons, Bool.and_eq_true] at hr
        have hlt : ∀ x ∈ p, x.block < W.heap.size := by obtain ⟨m, hm⟩ := h1; exact DataW.trod_lt m _ _ _ hm
        exact ⟨p, q, Below.trod hl hr.1.1 (of_decide_eq_true hr.1.2) h1 hb hlt, ih (by simpa using hr.2) h2 hb, rfl⟩
end

/-- A law, called. -/
theorem law_calls {H : Type} {enc : TypeId × Value → H} {P : Program} {W : World} {f : FuncId} {cs : List TC} {ts : List TypeId} {args : Array Value} {ds : List (DataW H)} {ps : List MemPlace} {b1 : Nat}
    (hl : laidOutB P = true) (hr : ts.all (fun t => P.readableRec t && decide (t < P.types.size)) = true) (hok : tcAll P cs ts = true)
    (hv : ∀ (j : Nat) t v, ts[j]? = some t → args[j]? = some v → Value.okWide P W .any b1 t v) (h : DataW.TrodAll enc P W 0 (fun _ => true) true ts args.toList ds ps)
    (law : ∀ as, DAs cs ds as → ∃ back, FS P f as (.ret [.v (.bool true)] back)) :
    Calls P f args W fun e W' => e = .returned (.bool true) ∧ Below W.heap.size W W' ∧ DataW.TrodAll enc P W' 0 (fun b => decide (b < W.heap.size)) true ts args.toList ds ps := by
  obtain ⟨as, hda, hvv⟩ := values_tree hok (fun j t v ht hvj => hv j t v ht (by simpa using hvj)) h
  obtain ⟨back, hfs⟩ := law as hda
  refine (law_below hfs hvv).mono fun e W' ⟨h1, h2⟩ => ⟨h1, h2, trodAll_below hl hr h h2⟩

end Go.PA

/- PA72: what came in, by its type's form; its bulk. -/
namespace Go.PA

mutual
/-- The bulk of a datum, as far as we look. -/
def dBulk {H : Type} : DataW H → Nat
  | .lit (.string b) => b.length + 1
  | .lit _ => 1
  | .nil => 1
  | .ptr d => dBulk d + 1
  | .slice es _ => dBulks es + 1
  | .agg ps => dBulks ps + 1
  | _ => 0
def dBulks {H : Type} : List (DataW H) → Nat
  | [] => 0
  | d :: r => dBulk d + dBulks r
end

section
variable {H : Type} {d : DataW H} {ds : List (DataW H)} {a : A} {as : List A}

theorem DAl.map {α : Type} {e : TC} {f : α → A} {m : α → Nat} {good : α → Prop} (h : ∀ (d : DataW H) (a : A), DA e d a → ∃ y, a = f y ∧ m y ≤ dBulk d ∧ good y) :
    ∀ {ds : List (DataW H)} {as : List A}, DAl e ds as → ∃ l : List α, as = l.map f ∧ (l.map m).sum ≤ dBulks ds ∧ (∀ y ∈ l, good y) ∧ l.length = ds.length
  | _, _, .nil _ => ⟨[], rfl, by simp [dBulks], by simp, rfl⟩
  | _, _, .cons _ d ds a as hd hs => by
    obtain ⟨y, rfl, h1, h2⟩ := h d a hd
    obtain ⟨l, rfl, h3, h4, h5⟩ := DAl.map h hs
    refine ⟨y :: l, rfl, ?_, ?_, by simp [h5]⟩
    · simp only [List.map_cons, List.sum_cons, dBulks]; omega
    · intro z hz
      rcases List.mem_cons.1 hz with rfl | hz
      · exact h2
      · exact h4 z hz

theorem DA.slice_map {α : Type} {e : TC} {f : α → A} {m : α → Nat} {good : α → Prop} (h : ∀ (d : DataW H) (a : A), DA e d a → ∃ y, a = f y ∧ m y ≤ dBulk d ∧ good y) (hd : DA (.slice e) d a) :
    ∃ l : List α, a = .sl true (l.map f) ∧ (l.map m).sum + 1 ≤ dBulk d ∧ (∀ y ∈ l, good y) := by
  cases hd with
  | nil => exact ⟨[], rfl, by simp [dBulk], by simp⟩
  | slice _ ds rest as hs =>
    obtain ⟨l, rfl, h1, h2, _⟩ := DAl.map h hs
    exact ⟨l, rfl, by simp only [dBulk]; omega, h2⟩

theorem DA.int_inv {k : IntKind} (h : DA (.int k) d a) : ∃ n, d = .lit (.int k n) ∧ a = .v (.int k n) ∧ k.min ≤ n ∧ n ≤ k.max := by
  cases h with
  | int _ n hw =>
    simp only [Lit.wf, Bool.and_eq_true, decide_eq_true_eq] at hw
    exact ⟨n, rfl, rfl, hw.1, hw.2⟩
theorem DA.bool_inv (h : DA .bool d a) : ∃ b, d = .lit (.bool b) ∧ a = .v (.bool b) := by
  cases h with
  | bool b => exact ⟨b, rfl, rfl⟩
theorem DA.nat_inv {k : IntKind} (hk : k.min = 0) (h : DA (.int k) d a) : ∃ n : Nat, a = .v (.int k n) ∧ (n : Int) ≤ k.max ∧ 1 ≤ dBulk d := by
  obtain ⟨n, rfl, rfl, h1, h2⟩ := h.int_inv
  rw [hk] at h1
  exact ⟨n.toNat, by rw [Int.toNat_of_nonneg h1], by rw [Int.toNat_of_nonneg h1]; exact h2, by simp [dBulk]⟩
theorem DA.byte_inv (h : DA (.int .u8) d a) : ∃ n : Nat, a = .v (.int .u8 n) ∧ 1 ≤ dBulk d ∧ n < 256 := by
  obtain ⟨n, h1, h2, h3⟩ := h.nat_inv (k := .u8) rfl
  have : IntKind.max .u8 = 255 := rfl
  exact ⟨n, h1, h3, by omega⟩

theorem sum_ones {α : Type} (l : List α) : (l.map fun _ => 1).sum = l.length := by
  induction l with
  | nil => rfl
  | cons x l ih => simp only [List.map_cons, List.sum_cons, List.length_cons, ih]; omega

theorem DA.bytes_inv (h : DA (.slice (.int .u8)) d a) : ∃ b : List Nat, a = .sl true (bA b) ∧ b.length + 1 ≤ dBulk d ∧ ∀ x ∈ b, x < 256 := by
  obtain ⟨l, h1, h2, h3⟩ := DA.slice_map (f := fun k : Nat => .v (.int .u8 k)) (m := fun _ => 1) (good := fun k => k < 256) (fun d a h => h.byte_inv) h
  rw [sum_ones] at h2
  exact ⟨l, h1, h2, h3⟩

theorem DA.items_inv (h : DA (.slice (.slice (.int .u8))) d a) : ∃ l : List (List Nat), a = .sl true (l.map (iT true)) ∧ (l.map (fun x => x.length + 1)).sum + 1 ≤ dBulk d ∧ ∀ y ∈ l, ∀ x ∈ y, x < 256 :=
  DA.slice_map (fun _ _ h => h.bytes_inv) h

theorem DAs.cons_inv {e : TC} {es : List TC} (h : DAs (e :: es) ds as) : ∃ d ds' a as', ds = d :: ds' ∧ as = a :: as' ∧ DA e d a ∧ DAs es ds' as' := by
  cases h with
  | cons _ _ d ds a as hd hs => exact ⟨d, ds, a, as, rfl, rfl, hd, hs⟩
theorem DAs.nil_inv (h : DAs [] ds as) : ds = [] ∧ as = [] := by
  cases h
  exact ⟨rfl, rfl⟩
theorem DA.struct_inv {fs : List TC} (h : DA (.struct fs) d a) : ∃ ds as, d = .agg ds ∧ a = .agg as ∧ DAs fs ds as := by
  cases h with
  | struct _ ds as h => exact ⟨ds, as, rfl, rfl, h⟩
theorem DA.arr_inv {n : Nat} {e : TC} (h : DA (.arr n e) d a) : ∃ ds as, d = .agg ds ∧ a = .arr (n * e.sz) as ∧ DAl e ds as ∧ ds.length = n := by
  cases h with
  | arr _ _ ds as h hn => exact ⟨ds, as, rfl, rfl, h, hn⟩
end
end Go.PA
