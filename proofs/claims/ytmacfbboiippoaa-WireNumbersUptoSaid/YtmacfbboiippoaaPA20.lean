/- PA20: append, on. -/
import Derived.Test.YtmacfbboiippoaaPA19
namespace Go.PA
section
variable {P : Program} {c : Ctx} {st : St} {a : Act} {w : World} {loc : Nat → Option (Option Nat)} {S : Nat → Prop} {Fm : Nat → List Nat}

theorem VRs_shutB {xs : List A} {e : Env} {us : List Value} (hb : nobors xs = true) (h : VRs xs e.close us []) : VRs xs e.shut us [] := by
  have := VRs_noB xs _ _ _ hb h
  rwa [close_noB] at this

theorem row_src {e : Env} {d s off len k : Nat} {full : Bool} {b : Option Addr} {xs : List A} {g : Nat} {cs : Array Value} {ty : TypeId} {us : List Value}
    (hss : ∀ x ∈ xs, x.sz = s) (hl : e.loc d = some (some g)) (hg : e.w.heap[g]? = some (.cells cs ty (0, 0))) (hx : VRs xs e.shut us []) (ht : cs.toList.take us.length = us) (hfit : off + len ≤ xs.length)
    (hk : len ≤ k) (h5 : ∀ l, e.loc d = some l → match l with
        | none => off = 0 ∧ len = 0 ∧ b = none ∧ k = 0
        | some g => (k = 0 ∧ off ≠ 0) ∨ (b = some ⟨g, off * s, none⟩ ∧ (full = false → (e.w.shape? g).map (·.2) = some ((off + k) * s)))) :
    ∃ us', VRs ((xs.drop off).take len) e.shut us' [] ∧ ((xs.drop off).take len ≠ [] → ∃ ad, b = some ad ∧ ∀ j u, us'[j]? = some u → e.w.cell? (ad.add j) = some u) := by
  obtain ⟨pre, mid, post, rfl, h7, h8⟩ := VRs_drop_take hss hx off len hfit
  refine ⟨mid, h8, fun hne => ?_⟩
  have hlen : ((xs.drop off).take len).length = len := by simp; omega
  have hpos : 0 < len := by rw [← hlen]; exact List.length_pos_iff.2 hne
  rcases h5 _ hl with ⟨h, _⟩ | ⟨h, _⟩
  · omega
  · obtain ⟨rest, hrest⟩ := take_append_drop' ht
    exact ⟨_, h, cells_at hg ⟨rest, hrest⟩ h7⟩

theorem appSrc_sound {x : A} {y : Value} {ys : List A} {rd : List Nat} (R : RelW c st a w loc S Fm) (hx : TV x (envOf c st w loc S) y) (r : RM.Runs st.bk (appSrc x) ys rd) :
    ∃ b k us, y = .slice b ys.length k ∧ VRs ys (envOf c st w loc S).shut us [] ∧ (ys ≠ [] → ∃ ad, b = some ad ∧ ∀ j u, us[j]? = some u → w.cell? (ad.add j) = some u) := by
  unfold appSrc at r
  split at r
  · rename_i p xs
    rw [TV_good rfl, VV_mk rfl] at hx
    simp only [VR] at hx
    obtain ⟨_, b, k, us, hv, h3, hss, h5, h6⟩ := hx
    injection hv with hv
    cases p with
    | true =>
      simp only [if_true] at r
      obtain ⟨rfl, _⟩ := runs_ret r
      exact ⟨b, k, us, hv, h5, fun hne => let ⟨ad, h, _, hc⟩ := h6 hne; ⟨ad, h, hc⟩⟩
    | false =>
      simp only [Bool.false_eq_true, if_false] at r
      obtain ⟨hb, r⟩ := runs_req r
      obtain ⟨rfl, _⟩ := runs_ret r
      exact ⟨b, k, us, hv, VRs_shutB hb h5, fun hne => let ⟨ad, h, _, hc⟩ := h6 hne; ⟨ad, h, hc⟩⟩
  · rename_i d s off len full
    rw [TV_good rfl, VV_mk rfl] at hx
    simp only [VR] at hx
    obtain ⟨_, hid, b, k, hv, h3, hne, h4, h5⟩ := hx
    injection hv with hv
    obtain ⟨blk, l', hb, r, _⟩ := runs_rd r
    have hB := R.bks d blk hb
    cases blk with
    | row s' xs =>
      dsimp only at r
      split at r
      · rename_i hss'
        subst hss'
        obtain ⟨⟨hfit, hno⟩, r⟩ := runs_req r
        obtain ⟨rfl, _⟩ := runs_ret r
        have hlen : ((xs.drop off).take len).length = len := by simp; omega
        obtain ⟨h0, hss, ⟨h1, h2, _⟩ | ⟨g, cs, ty, k', us, Fx, h1, h2, h3', h4', h5', h6, h7, h8⟩⟩ := hB
        · subst h2
          have hl0 : len = 0 := by simp at hfit; omega
          refine ⟨b, k, [], by rw [hlen]; exact hv, by simp [VRs], by simp⟩
        · obtain rfl := VRs_noown _ _ _ _ hno h6
          obtain ⟨us', h9, h10⟩ := row_src (e := envOf c st w loc S) hss h1 h4' h6 h7 hfit h3 h5
          exact ⟨b, k, us', by rw [hlen]; exact hv, h9, h10⟩
      · exact (runs_fail r).elim
    | froz s' xs =>
      dsimp only at r
      split at r
      · rename_i hss'
        subst hss'
        obtain ⟨hfit, r⟩ := runs_req r
        obtain ⟨rfl, _⟩ := runs_ret r
        have hlen : ((xs.drop off).take len).length = len := by simp; omega
        obtain ⟨_, h0, hss, ⟨h1, h2⟩ | ⟨g, cs, ty, us, h1, h2, h4', h5', h6, h7⟩⟩ := hB
        · subst h2
          refine ⟨b, k, [], by rw [hlen]; exact hv, by simp [VRs], by simp⟩
        · obtain ⟨us', h9, h10⟩ := row_src (e := envOf c st w loc S) hss h1 h4' h6 h7 hfit h3 h5
          exact ⟨b, k, us', by rw [hlen]; exact hv, h9, h10⟩
      · exact (runs_fail r).elim
    | var z => exact (runs_fail r).elim
  · rename_i d p s off len
    rw [TV_good rfl, VV_mk rfl] at hx
    simp only [VR] at hx
    obtain ⟨_, hid, b, k, hv, h3, hne, h5⟩ := hx
    injection hv with hv
    obtain ⟨blk, l', hb, r, _⟩ := runs_rd r
    have hB := R.bks d blk hb
    cases blk with
    | row s' xs => exact (runs_fail r).elim
    | froz s' xs => exact (runs_fail r).elim
    | var z =>
      obtain ⟨z1, l1, l2, r1, r2, _⟩ := RM.runs_bind r
      split at r2
      · rename_i tot xs
        obtain ⟨⟨hfit, hno, hss⟩, r2⟩ := runs_req r2
        obtain ⟨rfl, _⟩ := runs_ret r2
        have hlen : ((xs.drop off).take len).length = len := by simp; omega
        obtain ⟨g, cs, ty, Fx, h1, h2, h3', h4⟩ := hB
        obtain ⟨pre, us, post, Fy, h6, h7, h8, h9⟩ := getP_sound p _ _ _ _ _ h3' r1
        simp only [VR] at h8
        obtain ⟨_, _, h8⟩ := h8
        obtain rfl := VRs_noown _ _ _ _ hno h8
        obtain ⟨pre', mid, post', rfl, h10, h11⟩ := VRs_drop_take hss h8 off len hfit
        refine ⟨b, k, mid, by rw [hlen]; exact hv, h11, fun hne' => ?_⟩
        have hpos : 0 < len := by rw [← hlen]; exact List.length_pos_iff.2 hne'
        obtain ⟨g', hg', ⟨h, _⟩ | h⟩ := h5 _ h1
        · omega
        · injection hg' with hg'; subst hg'
          exact ⟨_, h, cells_at h2 (pre := pre ++ pre') (post := post' ++ post) ⟨[], by rw [h6]; simp⟩ (by simp [h7, h10])⟩
      · exact (runs_fail r2).elim
  · exact (runs_fail r).elim

theorem run_append_zero {t ty e : TypeId} {i : TypeInfo} {b b' : Option Addr} {n k k' : Nat} (ht : P.underlying t = some (.slice e)) (hi : P.info? e = some i) (hk : n ≤ k) :
    (Builtin.append_ #[t, t] ty #[.slice b n k, .slice b' 0 k']).run P w = .ok (.slice b n k) w := by
  have h1 : (Builtin.firstCells i.size 0 (.slice b' 0 k')).run P w = .ok #[] w := by
    cases b' <;> simp [Builtin.firstCells, loadCells, loadCellsFrom]
  cases b with
  | none => simp [Builtin.append_, run_underlying ht, sizeOf, typeInfo, hi, Builtin.lenOf, hk, h1]
  | some ad => simp [Builtin.append_, run_underlying ht, sizeOf, typeInfo, hi, Builtin.lenOf, hk, h1, storeCells]

theorem run_append_in {t ty e ty' : TypeId} {i : TypeInfo} {g n k m k' : Nat} {cur : Array Value} {ad : Addr} {news : List Value} (ht : P.underlying t = some (.slice e)) (hi : P.info? e = some i)
    (hg : w.heap[g]? = some (.cells cur ty' (0, 0))) (hl : news.length = m * i.size) (hnews : ∀ j u, news[j]? = some u → w.cell? (ad.add j) = some u) (h1 : ∀ u ∈ news, u.oneCell' = true)
    (hroom : n + m ≤ k) (hfit : n * i.size + news.length ≤ cur.size) :
    (Builtin.append_ #[t, t] ty #[.slice (some ⟨g, 0, none⟩) n k, .slice (some ad) m k']).run P w =
      .ok (.slice (some ⟨g, 0, none⟩) (n + m) k) (w.setRow g (cur.toList.take (n * i.size) ++ news ++ cur.toList.drop (n * i.size + news.length)).toArray) := by
  have hf := run_firstCells_some (P := P) w i.size m ad m k' news hl hnews
  have hst := run_storeCells_at P g (n * i.size) ty' news 0 cur w hg (by simpa using hfit) h1
  simp only [Nat.add_zero] at hst
  simp [Builtin.append_, run_underlying ht, sizeOf, typeInfo, hi, Builtin.lenOf, hroom, hf, Addr.add_lit, hst]

theorem exec_append {o : Oper} {k : Call} {x y : Operand} {t : TypeId} {v : Value} {w' : World} (ho : o.op = .call k) (hk : k.callee = .builtin .append) (hargs : k.args = #[x, y]) (hT : k.argTypes = #[t, t])
    (hr : (Builtin.append_ #[t, t] o.type #[a.eval x, a.eval y]).run P w = .ok v w') : (execOp a.eval o).run P w = .ok (.value v) w' := by
  simp only [execOp, ho, resolve, hk, hargs, hT, invoke, builtin, Sem.run_bind, Sem.run_pure, Result.andThen_ok, List.map_toArray, List.map_cons, List.map_nil, hr]

theorem size_zero {z : Array Value} {n : Nat} : (Builtin.zeroCells z n).size = n * z.size := size_zeroCells z n

theorem aAppend_sound {o : Oper} {k : Call} {x y : Operand} {t : TypeId} {n : Nat} {nilC : Bool} {p q : A} {eff : Eff} {rd : List Nat} (ho : o.op = .call k) (hk : k.callee = .builtin .append) (hargs : k.args = #[x, y]) (hT : k.argTypes = #[t, t])
    (R : RelW c st a w loc S Fm) (hn : st.ids n = false) (hnil : nilC = true → a.eval x = .slice none 0 0)
    (hx : TV p (envOf c st w loc S) (a.eval x)) (hy : TV q (envOf c st w loc S) (a.eval y))
    (r : RM.Runs st.bk (aAppend P n nilC t p q) eff rd) : Done P c (st.app eff) a o w eff.val := by
  unfold aAppend at r
  split at r
  · rename_i e s ht
    split at r
    · rename_i hs
      split at r
      · rename_i eb z heb hz
        split at r
        case isFalse => exact (runs_fail r).elim
        rename_i hzs
        obtain ⟨hu, hes⟩ := tSlice_some ht
        obtain ⟨i, v, hi, hv, hV⟩ := tZero_info hz
        have hsz : i.size = s := by
          obtain ⟨i', hi', h⟩ := tSize_some hes
          rw [hi] at hi'; injection hi' with hi'; subst hi'; exact h
        have hby : i.bytes = eb := by
          simp [tBytes, hi] at heb; exact heb
        have hvs : v.cells.size = s := by
          have := VR_len _ _ _ _ (hV (envOf c st w loc S))
          rw [hzs] at this
          simpa using this
        split at r
        · rename_i hnilC
          have hx0 := hnil hnilC
          obtain ⟨ys, l1, l2, r1, r2, _⟩ := RM.runs_bind r
          obtain ⟨⟨hys, hr1, hr2⟩, r2⟩ := runs_req r2
          obtain rfl := runs_effN r2
          obtain ⟨b, k', us, hyv, hus, hcell⟩ := appSrc_sound R hy r1
          by_cases hne : ys = []
          · subst hne
            have hrun : (execOp a.eval o).run P w = .ok (.value (.slice none 0 0)) w := by
              refine exec_append ho hk hargs hT ?_
              rw [hx0, hyv]
              exact run_append_zero hu hi (Nat.le_refl _)
            refine ⟨_, _, _, _, _, _, hrun, .inl rfl, R.nilRow hn hs _, ?_⟩
            rw [TV_good rfl, VV_mk rfl]
            simp only [VR]
            exact ⟨trivial, by simp [envOf, St.app], none, 0, by simp, by simp, by simp, by simp, fun l hl => by simp [envOf] at hl; subst hl; simp⟩
          · obtain ⟨ad, rfl, hcell2⟩ := hcell hne
            have hlen : 0 < ys.length := List.length_pos_iff.2 hne
            have husl : us.length = ys.length * i.size := by rw [VRs_len _ _ _ _ hus, szs_const hys, hsz]
            have hr2' : ys.length * i.bytes ≤ 281474976710656 := by rw [hby]; simp at hr2; omega
            have hrun := run_append_nil (P := P) w t o.type e i v hu hi hv ad ys.length k' us husl hcell2 hlen (by omega) hr2'
            have hge := grownCap_ge w ys.length 0 e
            have hcm := grownCap_le_maxLen w ys.length 0 e (by simp [maxLen]; omega)
            refine done_row (s := s) (w1 := w.drew) (k := grownCap w ys.length 0 e) (us := us) R hn rfl rfl rfl rfl hs hys hus hge hcm ?_ ?_ (exec_append ho hk hargs hT (by rw [hx0, hyv]; exact hrun))
            · simp only [Array.size_append, List.size_toArray, size_zero, hvs, husl, hsz, ← Nat.add_mul]
              congr 1; omega
            · simp
        · split at r
          · rename_i d s' off len full
            split at r
            · rename_i hc
              obtain ⟨rfl, rfl, rfl⟩ := hc
              obtain ⟨blk, l', hb, r, _⟩ := runs_rd r
              cases blk with
              | froz s' xs => exact (runs_fail r).elim
              | var z => exact (runs_fail r).elim
              | row s2 xs =>
                dsimp only at r
                split at r
                · rename_i hs2
                  subst hs2
                  obtain ⟨ys, l1, l2, r1, r2, _⟩ := RM.runs_bind r
                  obtain ⟨⟨hlenx, hys, hr1, hr2⟩, r2⟩ := runs_req r2
                  obtain ⟨rfl, _⟩ := runs_ret r2
                  subst hlenx
                  obtain ⟨b, k', us, hyv, hus, hcell⟩ := appSrc_sound R hy r1
                  rw [TV_good rfl, VV_mk rfl] at hx
                  simp only [VR] at hx
                  obtain ⟨_, hid, bx, kx, hxv, h3, hnex, _, h5⟩ := hx
                  injection hxv with hxv
                  have hB := R.bks d _ hb
                  have hdn : d ≠ n := fun e => by
                    subst e
                    have := R.known d (by rw [hb]; simp)
                    rw [hn] at this; cases this
                  obtain ⟨h0, hss, hB⟩ := hB
                  have hall : ∀ z ∈ xs ++ ys, z.sz = s2 := fun z hz => by
                    rcases List.mem_append.1 hz with hz | hz
                    · exact hss z hz
                    · exact hys z hz
                  by_cases hne : ys = []
                  · -- nothing is put behind
                    subst hne
                    have hrun : (execOp a.eval o).run P w = .ok (.value (.slice bx xs.length kx)) w := by
                      refine exec_append ho hk hargs hT ?_
                      rw [hxv, hyv]
                      exact run_append_zero hu hi h3
                    refine ⟨_, _, _, _, _, _, hrun, .inl rfl, R.rename (n := n) hb hn _ (by intro t; rfl) (fun x => ?_) (fun x => ?_), ?_⟩
                    · simp [St.app, upd]
                    · simp [St.app]
                      by_cases hxn : x = n <;> simp [hxn]
                    · rw [TV_good rfl, VV_mk rfl]
                      simp only [VR]
                      refine ⟨trivial, by simp [envOf, St.app], bx, kx, by simp, by simpa using h3, by simpa using hnex, by simp, fun l hl => ?_⟩
                      simp [envOf] at hl
                      have := h5 l hl
                      cases l with
                      | none => simpa using this
                      | some g => simp at this ⊢; exact this
                  · obtain ⟨ad, rfl, hcell2⟩ := hcell hne
                    have hlen : 0 < ys.length := List.length_pos_iff.2 hne
                    have husl : us.length = ys.length * i.size := by rw [VRs_len _ _ _ _ hus, szs_const hys, hsz]
                    have h63 : xs.length + ys.length ≤ maxLen := by simp [maxLen]; omega
                    rcases hB with ⟨hl1, hx1, hF1⟩ | ⟨g, cs, ty, kc, usx, Fx, hl1, hkc, hkm, hg, hcs, hxs, htake, hF⟩
                    · -- the row is nil
                      subst hx1
                      have := h5 _ hl1
                      simp only at this
                      obtain ⟨_, _, rfl, rfl⟩ := this
                      have hr2' : ys.length * i.bytes ≤ 281474976710656 := by rw [hby]; simp at hr2; omega
                      have hrun := run_append_nil (P := P) w t o.type e i v hu hi hv ad ys.length k' us husl hcell2 hlen (by omega) hr2'
                      have hge := grownCap_ge w ys.length 0 e
                      have hcm := grownCap_le_maxLen w ys.length 0 e (by simp [maxLen]; omega)
                      have hcsz : (us.toArray ++ Builtin.zeroCells v.cells (grownCap w ys.length 0 e - ys.length)).size = grownCap w ys.length 0 e * s2 := by
                        simp only [Array.size_append, List.size_toArray, size_zero, hvs, husl, hsz, ← Nat.add_mul]
                        congr 1; omega
                      have hnew : (w.drew.alloc (.cells (us.toArray ++ Builtin.zeroCells v.cells (grownCap w ys.length 0 e - ys.length)) e)).heap[w.heap.size]? = some (.cells (us.toArray ++ Builtin.zeroCells v.cells (grownCap w ys.length 0 e - ys.length)) e (0, 0)) := heap_alloc_new w.drew _
                      refine ⟨_, _, _, _, _, _, exec_append ho hk hargs hT (by rw [hxv, hyv]; exact hrun), .inl rfl,
                        R.regrow (n := n) hb hn _ (.row s2 ([] ++ ys)) (by intro t; rfl) (fun x => ?_) (fun x => ?_) _ e w.drew rfl rfl rfl rfl [] (by simp) List.nodup_nil (fun e' he1 he2 he3 => ?_), ?_⟩
                      · simp [St.app, upd]
                      · simp [St.app]
                        by_cases hxn : x = n <;> simp [hxn]
                      · refine ⟨hs, by simpa using hys, .inr ⟨w.heap.size, _, e, grownCap w ys.length 0 e, us, [], he2, by simpa using hge, hcm, by rw [he1]; exact hnew, hcsz, ?_, by simp, rfl⟩⟩
                        simpa using VRs_mono _ _ _ _ _ (he3 [] (by simp)).shut hus
                      · simpa using TV_newRow (n := n) (s := s2) (len := ys.length) (by simp [envOf, St.app]) (by simp [envOf]) hge hnew hcsz
                    · -- the row is a block
                      have := h5 _ hl1
                      simp only [ne_eq, not_true_eq_false, and_false, false_or, Nat.zero_mul, Nat.zero_add] at this
                      obtain ⟨hbx, hshape⟩ := this
                      subst hbx
                      have hshape' := hshape trivial
                      have hsh2 : ((envOf c st w loc S).w.shape? g).map (·.2) = some cs.size := by
                        have : (envOf c st w loc S).w.shape? g = some (ty, cs.size) := shape_cells hg
                        rw [this]; rfl
                      rw [hsh2] at hshape'
                      injection hshape' with hcs2
                      have hkk : kx = kc := by
                        rw [hcs] at hcs2
                        exact (Nat.eq_of_mul_eq_mul_right hs hcs2).symm
                      subst hkk
                      have husx : usx.length = xs.length * i.size := by rw [VRs_len _ _ _ _ hxs, szs_const hss, hsz]
                      by_cases hroom : xs.length + ys.length ≤ kx
                      · have hfit : xs.length * i.size + us.length ≤ cs.size := by rw [husl, hcs, hsz, ← Nat.add_mul]; exact Nat.mul_le_mul_right _ hroom
                        have h1c := VRs_one _ _ _ _ hus
                        have hrun := run_append_in (P := P) (ty := o.type) (n := xs.length) (k := kx) (k' := k') hu hi hg husl hcell2 h1c hroom hfit
                        have htk : cs.toList.take (xs.length * i.size) = usx := by rw [← husx]; exact htake
                        rw [htk] at hrun
                        obtain ⟨rest, hrest⟩ : ∃ rest, rest = cs.toList.drop (xs.length * i.size + us.length) := ⟨_, rfl⟩
                        rw [← hrest] at hrun
                        have hrl : rest.length = cs.size - (xs.length * i.size + us.length) := by rw [hrest]; simp
                        have hnsz : (usx ++ us ++ rest).toArray.size = cs.size := by simp [husx, hrl]; omega
                        have R1 := R.rewrite (d := d) (g := g) (b' := .row s2 (xs ++ ys)) (cs' := (usx ++ us ++ rest).toArray) (F' := g :: Fx) (by rw [hb]; simp) hg (by rw [hF]; simp) hnsz (by rw [hF]; simp) (hF ▸ R.nodup d) A.und
                          (fun e' he1 he2 he3 => by
                            have hnd := hF ▸ R.nodup d
                            refine ⟨hs, hall, .inr ⟨g, _, ty, kx, usx ++ us, Fx, by rw [he2]; exact hl1, by simpa using hroom, hkm, by rw [he1]; exact setRow_cells _ hg, by rw [hnsz, hcs], ?_, ?_, rfl⟩⟩
                            · have hle := he3 Fx fun x hx => ⟨R.fmLt (d := d) (by rw [hF]; simp [hx]), fun hxg => by subst hxg; simp [hx] at hnd⟩
                              have h1 := VRs_mono _ _ _ _ _ hle.shut hxs
                              have h2 := VRs_mono _ _ _ _ _ (hle.sub (F' := []) (by simp)).shut hus
                              simpa using VRs_append _ _ _ _ _ _ _ h1 h2
                            · rw [List.toList_toArray]
                              exact List.take_left' rfl)
                        have hn1 : (st.app ⟨A.und, [(d, some (.row s2 (xs ++ ys)))], []⟩).ids n = false := by simp [St.app, hn]
                        refine ⟨_, _, _, _, _, _, exec_append ho hk hargs hT (by rw [hxv, hyv]; exact hrun), .inl rfl,
                          R1.rename (n := n) (d := d) (s := s2) (xs := xs ++ ys) (by simp [St.app, upd]) hn1 _ (by intro t; rfl) (fun x => ?_) (fun x => ?_), ?_⟩
                        · simp only [St.app, upd, List.foldl_cons, List.foldl_nil]
                          by_cases hxn : x = n
                          · simp [hxn]
                          · by_cases hxd : x = d <;> simp [hxn, hxd]
                        · simp [St.app]
                          by_cases hxn : x = n <;> simp [hxn]
                        · rw [TV_good rfl, VV_mk rfl]
                          simp only [VR]
                          refine ⟨trivial, by simp [envOf, St.app], _, _, rfl, hroom, fun _ => ⟨_, rfl⟩, by simp, fun l hl => ?_⟩
                          simp only [envOf, if_true] at hl
                          have hl1' : loc d = some (some g) := hl1
                          rw [hl1'] at hl
                          injection hl with hl
                          subst hl
                          refine .inr ⟨by simp, fun _ => ?_⟩
                          have : (envOf c (st.app ⟨.ref n s2 0 (xs.length + ys.length) false, [(d, none), (n, some (.row s2 (xs ++ ys)))], [n]⟩) (w.setRow g (usx ++ us ++ rest).toArray) (fun x => if x = n then loc d else if x = d then none else loc x) S).w.shape? g = some (ty, (usx ++ us ++ rest).toArray.size) :=
                            shape_cells (setRow_cells _ hg)
                          rw [this, hnsz, hcs]; simp
                      · -- a new block
                        have holds : ∀ j u, usx[j]? = some u → w.cell? ((⟨g, 0, none⟩ : Addr).add j) = some u := by
                          obtain ⟨rest, hrest⟩ := take_append_drop' htake
                          exact cells_at (pre := []) (post := []) hg ⟨rest, by simpa using hrest⟩ rfl
                        have hr2' : (xs.length + ys.length) * i.bytes ≤ 140737488355328 := by rw [hby]; exact hr2
                        have hrun := run_append_grow (P := P) w t o.type e i v hu hi hv ⟨g, 0, none⟩ xs.length kx usx husx holds ad ys.length k' us husl hcell2 (by omega) (by omega) (growslice_fits (by omega) hr2')
                        have hge := grownCap_ge w (xs.length + ys.length) kx e
                        have hcm := grownCap_le_maxLen w (xs.length + ys.length) kx e h63
                        generalize hK : grownCap w (xs.length + ys.length) kx e = K at hrun hge hcm
                        have hcsz : (usx.toArray ++ us.toArray ++ Builtin.zeroCells v.cells (K - (xs.length + ys.length))).size = K * s2 := by
                          simp only [Array.size_append, List.size_toArray, size_zero, hvs, husl, husx, hsz, ← Nat.add_mul]
                          congr 1; omega
                        have hnew : (w.drew.alloc (.cells (usx.toArray ++ us.toArray ++ Builtin.zeroCells v.cells (K - (xs.length + ys.length))) e)).heap[w.heap.size]? = some (.cells (usx.toArray ++ us.toArray ++ Builtin.zeroCells v.cells (K - (xs.length + ys.length))) e (0, 0)) := heap_alloc_new w.drew _
                        have hnd := hF ▸ R.nodup d
                        refine ⟨_, _, _, _, _, _, exec_append ho hk hargs hT (by rw [hxv, hyv]; exact hrun), .inl rfl,
                          R.regrow (n := n) hb hn _ (.row s2 (xs ++ ys)) (by intro t; rfl) (fun x => ?_) (fun x => ?_) _ e w.drew rfl rfl rfl rfl Fx (fun x hx => by rw [hF]; simp [hx]) (List.nodup_cons.1 hnd).2 (fun e' he1 he2 he3 => ?_), ?_⟩
                        · simp [St.app, upd]
                        · simp [St.app]
                          by_cases hxn : x = n <;> simp [hxn]
                        · refine ⟨hs, hall, .inr ⟨w.heap.size, _, e, K, usx ++ us, Fx, he2, by simpa using hge, hcm, by rw [he1]; exact hnew, hcsz, ?_, by simp only [Array.toList_append]; exact List.take_left' rfl, rfl⟩⟩
                          have hle := he3 Fx fun x hx => R.fmLt (d := d) (by rw [hF]; simp [hx])
                          have h1 := VRs_mono _ _ _ _ _ hle.shut hxs
                          have h2 := VRs_mono _ _ _ _ _ (hle.sub (F' := []) (by simp)).shut hus
                          simpa using VRs_append _ _ _ _ _ _ _ h1 h2
                        · exact TV_newRow (n := n) (s := s2) (len := xs.length + ys.length) (by simp [envOf, St.app]) (by simp [envOf]) hge hnew hcsz
                · exact (runs_fail r).elim
            · exact (runs_fail r).elim
          · exact (runs_fail r).elim
      · exact (runs_fail r).elim
    · exact (runs_fail r).elim
  · exact (runs_fail r).elim

end
end Go.PA
