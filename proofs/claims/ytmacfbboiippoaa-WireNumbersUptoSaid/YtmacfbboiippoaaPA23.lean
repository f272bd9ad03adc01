/- PA23: what is lent to a call. -/
import Derived.Test.YtmacfbboiippoaaPA22
namespace Go.PA
section
variable {P : Program} {c : Ctx} {st : St} {a : Act} {w : World} {loc : Nat → Option (Option Nat)} {S : Nat → Prop} {Fm : Nat → List Nat}

/-- The callee's world: what of the frame is not handed over is lent. -/
def lendEnv (c : Ctx) (w : World) (S : Nat → Prop) (Fm : Nat → List Nat) (rm : List Nat) : Env :=
  ⟨w, fun _ => none, fun _ => false, S, fun g => c.B g ∨ ∃ d, d ∉ rm ∧ g ∈ Fm d⟩

theorem close_lend (rm : List Nat) (F : List Nat) : (envOf c st w loc S).close.Le (lendEnv c w S Fm rm) F :=
  ⟨fun _ _ => rfl, fun _ h => h, fun _ h => .inr (.inl h), fun _ h => by simp [Env.close] at h, fun _ _ h => by simp [Env.close] at h, fun _ _ h => by simp [Env.close] at h⟩
theorem shut_lend (rm : List Nat) (F : List Nat) : (envOf c st w loc S).shut.Le (lendEnv c w S Fm rm).shut F :=
  ⟨fun _ _ => rfl, fun _ h => h, fun _ h => h.elim, fun _ h => by simp [Env.shut] at h, fun _ _ h => by simp [Env.shut] at h, fun _ _ h => by simp [Env.shut] at h⟩

def RoOk (bk : Nat → Option Blk) (e e' : Env) (f : A → RM A) : Prop :=
  ∀ (x : A) (vs : List Value) (y : A) (l : List Nat), VR x e vs [] → RM.Runs bk (f x) y l → x.isAgg = y.isAgg ∧ VR y e' vs []

theorem rosW_VRs {bk : Nat → Option Blk} {e e' : Env} {f : A → RM A} (hf : RoOk bk e e' f) : ∀ (xs : List A) (vs : List Value) (ys : List A) (l : List Nat), VRs xs e vs [] → RM.Runs bk (rosW f xs) ys l → VRs ys e' vs []
  | [], vs, ys, l, h, r => by
    simp only [rosW] at r
    obtain ⟨rfl, _⟩ := runs_ret r
    simpa only [VRs] using h
  | x :: xs, vs, ys, l, h, r => by
    simp only [rosW] at r
    obtain ⟨y, l1, l2, r1, r2, _⟩ := RM.runs_bind r
    obtain ⟨ys', l3, l4, r3, r4, _⟩ := RM.runs_bind r2
    obtain ⟨rfl, _⟩ := runs_ret r4
    simp only [VRs] at h
    obtain ⟨us, vs', F1, F2, rfl, hF, h1, h2⟩ := h
    simp at hF
    obtain ⟨rfl, rfl⟩ := hF
    exact VRs_cons (hf x us y l1 h1 r1).2 (rosW_VRs hf xs vs' ys' l3 h2 r3)
theorem rosW_VVs {bk : Nat → Option Blk} {e e' : Env} {f : A → RM A} (hf : RoOk bk e e' f) : ∀ (xs : List A) (vs : List Value) (ys : List A) (l : List Nat), VVs xs e vs [] → RM.Runs bk (rosW f xs) ys l → VVs ys e' vs []
  | [], vs, ys, l, h, r => by
    simp only [rosW] at r
    obtain ⟨rfl, _⟩ := runs_ret r
    simpa only [VVs] using h
  | x :: xs, vs, ys, l, h, r => by
    simp only [rosW] at r
    obtain ⟨y, l1, l2, r1, r2, _⟩ := RM.runs_bind r
    obtain ⟨ys', l3, l4, r3, r4, _⟩ := RM.runs_bind r2
    obtain ⟨rfl, _⟩ := runs_ret r4
    simp only [VVs] at h ⊢
    obtain ⟨u, vs', F1, F2, rfl, hF, h1, h2⟩ := h
    simp at hF
    obtain ⟨rfl, rfl⟩ := hF
    refine ⟨u, vs', [], [], rfl, rfl, ?_, rosW_VVs hf xs vs' ys' l3 h2 r3⟩
    rcases h1 with ⟨hg, cs, hy, hv⟩ | ⟨hg, hv⟩
    · obtain ⟨he, hv'⟩ := hf x _ y l1 hv r1
      exact .inl ⟨he ▸ hg, cs, hy, hv'⟩
    · obtain ⟨he, hv'⟩ := hf x _ y l1 hv r1
      exact .inr ⟨he ▸ hg, hv'⟩

theorem ro_slice {e' : Env} {p : Bool} {b : Option Addr} {k len s g : Nat} {ys : List A} {us : List Value} (hlen : ys.length = len) (hk : len ≤ k) (hs : ∀ x ∈ ys, x.sz = s) (hx : VRs ys (e'.cl p) us [])
    (hc : ys ≠ [] → ∃ ad, b = some ad ∧ ad.block = g ∧ ∀ j u, us[j]? = some u → e'.w.cell? (ad.add j) = some u) (hok : e'.ok p g) : VR (.sl p ys) e' [.slice b len k] [] := by
  simp only [VR]
  refine ⟨trivial, b, k, us, by rw [hlen], by rw [hlen]; exact hk, ⟨s, hs⟩, hx, fun hne => ?_⟩
  obtain ⟨ad, h1, h2, h3⟩ := hc hne
  exact ⟨ad, h1, h2 ▸ hok, h3⟩

theorem roA_ok (R : RelW c st a w loc S Fm) (rm : List Nat) : ∀ n, RoOk st.bk (envOf c st w loc S) (lendEnv c w S Fm rm) (roA rm n) := by
  intro n
  induction n with
  | zero => intro x vs y l h r; simp only [roA] at r; exact (runs_fail r).elim
  | succ n ih =>
    intro x vs y l h r
    have keep : ∀ {z : A}, z.closed = true → VR z (envOf c st w loc S) vs [] → RM.Runs st.bk (.ret z) y l → z.isAgg = y.isAgg ∧ VR y (lendEnv c w S Fm rm) vs [] := by
      intro z hc hz r
      obtain ⟨rfl, _⟩ := runs_ret r
      exact ⟨rfl, VR_mono _ _ _ _ _ (close_lend rm _) ((VR_close y _ _ _ hc).1 hz)⟩
    simp only [roA] at r
    cases x <;> (try dsimp only at r)
    case v x => exact keep rfl h r
    case und => exact (runs_fail r).elim
    case arr t xs =>
      split at r
      · exact keep rfl h r
      · exact (runs_fail r).elim
    case osl s xs => exact (runs_fail r).elim
    case tup xs => exact (runs_fail r).elim
    case mp k v => exact (runs_fail r).elim
    case mref d => exact (runs_fail r).elim
    case box a => exact (runs_fail r).elim
    case sl p xs => exact keep rfl h r
    case rp p a => exact keep rfl h r
    case ref d s off len full =>
      split at r
      · exact (runs_fail r).elim
      · rename_i hrm
        obtain ⟨b, l', hb, rr, _⟩ := runs_rd r
        clear r
        have hB := R.bks d b hb
        simp only [VR] at h
        obtain ⟨_, hid, bx, k, rfl, h1, h2, h3, h4⟩ := h
        cases b with
        | row s' xs =>
          dsimp only at rr
          split at rr
          · rename_i hc
            subst hc
            obtain ⟨⟨hle, hno⟩, r2⟩ := runs_req rr
            obtain ⟨rfl, _⟩ := runs_ret r2
            refine ⟨rfl, ?_⟩
            have hlen : ((xs.drop off).take len).length = len := by simp; omega
            obtain ⟨h0, hss, ⟨h5, h6, h7⟩ | ⟨g, cs, ty, kc, us, Fx, h5, h6, h7, h8, h9, h10, h11, h12⟩⟩ := hB
            · subst h6
              have hl0 : len = 0 := by simp at hle; omega
              subst hl0
              simp only [VR]
              exact ⟨trivial, bx, k, [], by simp, by simp, ⟨0, by simp⟩, by simp [VRs], by simp⟩
            · obtain rfl := VRs_noown _ _ _ _ hno h10
              obtain ⟨us', h13, h14⟩ := row_src (e := envOf c st w loc S) hss h5 h8 h10 h11 hle h1 h4
              refine ro_slice (p := false) (g := g) hlen h1 (fun x hx => hss x (List.mem_of_mem_drop (List.mem_of_mem_take hx))) (us := us') ?_ (fun hne => ?_) (.inr ⟨rfl, .inr ⟨d, by simpa using hrm, by rw [h12]; simp⟩⟩)
              · exact VRs_mono _ _ _ _ _ (Env.shut_le _ _) (VRs_mono _ _ _ _ _ (shut_lend rm _) h13)
              · obtain ⟨ad, rfl, hcell⟩ := h14 hne
                have hpos : 0 < len := by rw [← hlen]; exact List.length_pos_iff.2 hne
                refine ⟨ad, rfl, ?_, hcell⟩
                rcases h4 _ h5 with ⟨h, _⟩ | ⟨h, _⟩
                · omega
                · injection h with h; rw [h]
          · exact (runs_fail rr).elim
        | froz s' xs =>
          dsimp only at rr
          split at rr
          · rename_i hc
            subst hc
            obtain ⟨hle, r2⟩ := runs_req rr
            obtain ⟨rfl, _⟩ := runs_ret r2
            refine ⟨rfl, ?_⟩
            have hlen : ((xs.drop off).take len).length = len := by simp; omega
            obtain ⟨_, h0, hss, ⟨h5, h6⟩ | ⟨g, cs, ty, us, h5, h6, h7, h8, h9, h10⟩⟩ := hB
            · subst h6
              have hl0 : len = 0 := by simp at hle; omega
              subst hl0
              simp only [VR]
              exact ⟨trivial, bx, k, [], by simp, by simp, ⟨0, by simp⟩, by simp [VRs], by simp⟩
            · obtain ⟨us', h13, h14⟩ := row_src (e := envOf c st w loc S) hss h5 h7 h9 h10 hle h1 h4
              refine ro_slice (p := true) (g := g) hlen h1 (fun x hx => hss x (List.mem_of_mem_drop (List.mem_of_mem_take hx))) (us := us') (VRs_mono _ _ _ _ _ (shut_lend rm _) h13) (fun hne => ?_) (.inl h6)
              obtain ⟨ad, rfl, hcell⟩ := h14 hne
              have hpos : 0 < len := by rw [← hlen]; exact List.length_pos_iff.2 hne
              refine ⟨ad, rfl, ?_, hcell⟩
              rcases h4 _ h5 with ⟨h, _⟩ | ⟨h, _⟩
              · omega
              · injection h with h; rw [h]
          · exact (runs_fail rr).elim
        | var z => exact (runs_fail rr).elim
    case aref d p s off len =>
      split at r
      · exact (runs_fail r).elim
      · rename_i hrm
        obtain ⟨b, l', hb, rr, _⟩ := runs_rd r
        clear r
        have hB := R.bks d b hb
        simp only [VR] at h
        obtain ⟨_, hid, bx, k, rfl, h1, h2, h4⟩ := h
        cases b with
        | row s' xs => exact (runs_fail rr).elim
        | froz s' xs => exact (runs_fail rr).elim
        | var z =>
          obtain ⟨z1, l1, l2, r1, r2, _⟩ := RM.runs_bind rr
          split at r2
          · rename_i tot xs
            obtain ⟨⟨hfit, hno, hss⟩, r2⟩ := runs_req r2
            obtain ⟨rfl, _⟩ := runs_ret r2
            refine ⟨rfl, ?_⟩
            have hlen : ((xs.drop off).take len).length = len := by simp; omega
            obtain ⟨g, cs, ty, Fx, h5, h6, h7, h8⟩ := hB
            obtain ⟨pre, us, post, Fy, h9, h10, h11, h12⟩ := getP_sound p _ _ _ _ _ h7 r1
            simp only [VR] at h11
            obtain ⟨_, _, h11⟩ := h11
            obtain rfl := VRs_noown _ _ _ _ hno h11
            obtain ⟨pre', mid, post', rfl, h13, h14⟩ := VRs_drop_take hss h11 off len hfit
            refine ro_slice (p := false) (g := g) hlen h1 (fun x hx => hss x (List.mem_of_mem_drop (List.mem_of_mem_take hx))) (us := mid) ?_ (fun hne => ?_) (.inr ⟨rfl, .inr ⟨d, by simpa using hrm, by rw [h8]; simp⟩⟩)
            · exact VRs_mono _ _ _ _ _ (Env.shut_le _ _) (VRs_mono _ _ _ _ _ (shut_lend rm _) h14)
            · have hpos : 0 < len := by rw [← hlen]; exact List.length_pos_iff.2 hne
              obtain ⟨g', hg', ⟨h, _⟩ | h⟩ := h4 _ h5
              · omega
              · injection hg' with hg'; subst hg'
                exact ⟨_, h, rfl, cells_at h6 (pre := pre ++ pre') (post := post' ++ post) ⟨[], by rw [h9]; simp⟩ (by simp [h10, h13])⟩
          · exact (runs_fail r2).elim
    case ptr d p =>
      split at r
      · exact (runs_fail r).elim
      · rename_i hrm
        obtain ⟨b, l', hb, rr, _⟩ := runs_rd r
        clear r
        have hB := R.bks d b hb
        simp only [VR] at h
        obtain ⟨_, hid, ad, rfl, h1⟩ := h
        cases b with
        | var z =>
          obtain ⟨z1, l1, l2, r1, r2, _⟩ := RM.runs_bind rr
          split at r2
          · rename_i hc
            simp only [Bool.and_eq_true] at hc
            obtain ⟨rfl, _⟩ := runs_ret r2
            refine ⟨rfl, ?_⟩
            obtain ⟨g, cs, ty, Fx, h5, h6, h7, h8⟩ := hB
            obtain ⟨pre, us, post, Fy, h9, h10, h11, h12⟩ := getP_sound p _ _ _ _ _ h7 r1
            obtain rfl := VR_noown _ _ _ _ hc.1 h11
            obtain ⟨g', hg', rfl⟩ := h1 _ h5
            injection hg' with hg'; subst hg'
            simp only [VR]
            refine ⟨trivial, _, us, rfl, .inr ⟨rfl, .inr ⟨d, by simpa using hrm, by rw [h8]; simp⟩⟩, VR_mono _ _ _ _ _ ?_ ((VR_close _ _ _ _ hc.2).1 h11), cells_at (post := post) h6 ⟨[], by rw [h9]; simp⟩ h10⟩
            exact (close_lend (st := st) (loc := loc) rm _).closed
          · exact (runs_fail r2).elim
        | row s xs =>
          obtain ⟨z1, l1, l2, r1, r2, _⟩ := RM.runs_bind rr
          split at r2
          · rename_i hno
            obtain ⟨rfl, _⟩ := runs_ret r2
            refine ⟨rfl, ?_⟩
            obtain ⟨h0, hss, ⟨_, h6, _⟩ | ⟨g, cs, ty, kc, us, Fx, h5, h6, h7, h8, h9, h10, h11, h12⟩⟩ := hB
            · subst h6
              cases p with
              | nil => simp only [getR] at r1; exact (runs_fail r1).elim
              | cons p ps =>
                cases p <;> simp only [getR] at r1
                · exact (runs_fail r1).elim
                · split at r1
                  · have := (runs_req r1).1; simp at this
                  · exact (runs_fail r1).elim
            · obtain ⟨pre, us', post, Fy, h13, h14, h15, h16⟩ := getR_sound hss h10 r1
              obtain rfl := VR_noown _ _ _ _ hno h15
              obtain ⟨g', hg', rfl⟩ := h1 _ h5
              injection hg' with hg'; subst hg'
              obtain ⟨rest, hrest⟩ := take_append_drop' h11
              simp only [VR]
              exact ⟨trivial, _, us', rfl, .inr ⟨rfl, .inr ⟨d, by simpa using hrm, by rw [h12]; simp⟩⟩, VR_mono _ _ _ _ _ (Env.shut_le _ _) (VR_mono _ _ _ _ _ (shut_lend rm _) h15), cells_at h8 ⟨rest, by rw [hrest, h13]⟩ h14⟩
          · exact (runs_fail r2).elim
        | froz s xs =>
          obtain ⟨z1, l1, l2, r1, r2, _⟩ := RM.runs_bind rr
          obtain ⟨rfl, _⟩ := runs_ret r2
          refine ⟨rfl, ?_⟩
          obtain ⟨_, h0, hss, ⟨h5, h6⟩ | ⟨g, cs, ty, us, h5, h6, h7, h8, h9, h10⟩⟩ := hB
          · subst h6
            cases p with
            | nil => simp only [getR] at r1; exact (runs_fail r1).elim
            | cons p ps =>
              cases p <;> simp only [getR] at r1
              · exact (runs_fail r1).elim
              · split at r1
                · have := (runs_req r1).1; simp at this
                · exact (runs_fail r1).elim
          · obtain ⟨pre, us', post, Fy, h13, h14, h15, h16⟩ := getR_sound hss h9 r1
            have hFy : Fy = [] := List.eq_nil_iff_forall_not_mem.2 fun x hx => by simpa using h16 x hx
            subst hFy
            obtain ⟨g', hg', rfl⟩ := h1 _ h5
            injection hg' with hg'; subst hg'
            obtain ⟨rest, hrest⟩ := take_append_drop' h10
            simp only [VR]
            exact ⟨trivial, _, us', rfl, .inl h6, VR_mono _ _ _ _ _ (shut_lend rm _) h15, cells_at h7 ⟨rest, by rw [hrest, h13]⟩ h14⟩
    case agg xs =>
      obtain ⟨ys, l1, l2, r1, r2, _⟩ := RM.runs_bind r
      obtain ⟨rfl, _⟩ := runs_ret r2
      simp only [VR] at h
      exact ⟨rfl, by simpa only [VR] using rosW_VRs ih xs vs ys l1 h r1⟩
    case clo f fa ca =>
      obtain ⟨fa', l1, l2, r1, r2, _⟩ := RM.runs_bind r
      obtain ⟨ca', l3, l4, r3, r4, _⟩ := RM.runs_bind r2
      obtain ⟨rfl, _⟩ := runs_ret r4
      simp only [VR] at h
      obtain ⟨fvs, cvs, Ff, Fc, rfl, hF, h1, h2⟩ := h
      simp at hF
      obtain ⟨rfl, rfl⟩ := hF
      refine ⟨rfl, ?_⟩
      simp only [VR]
      exact ⟨fvs, cvs, [], [], rfl, rfl, rosW_VVs ih fa fvs fa' l1 h1 r1, rosW_VVs ih ca cvs ca' l3 h2 r3⟩
    case ifc t z =>
      obtain ⟨z', l1, l2, r1, r2, _⟩ := RM.runs_bind r
      obtain ⟨rfl, _⟩ := runs_ret r2
      simp only [VR] at h
      obtain ⟨x, rfl, h⟩ := h
      refine ⟨rfl, ?_⟩
      simp only [VR]
      refine ⟨x, rfl, ?_⟩
      rcases h with ⟨hg, cs, hy, hv⟩ | ⟨hg, hv⟩
      · obtain ⟨he, hv'⟩ := ih z _ z' l1 hv r1
        exact .inl ⟨he ▸ hg, cs, hy, hv'⟩
      · obtain ⟨he, hv'⟩ := ih z _ z' l1 hv r1
        exact .inr ⟨he ▸ hg, hv'⟩

end
end Go.PA
