/- Knowing less; code; functions. -/
import Derived.Deep.LoopGhost
import Derived.Test.YteamklllllembaaDoorFlo
namespace Go.Dk

theorem tag_le_iv {r m r' m' : Nat} {nd nd' : Bool} {o o' : Own} (h : (Tag.iv r m nd o).le (.iv r' m' nd' o') = true) :
    subM (c3 r) r' = true ∧ subM (c3 m) m' = true ∧ (nd' = true → nd = true) ∧ o.le o' = true := by
  simp only [Tag.le] at h
  obtain ⟨h1, _, h2⟩ := and3_eq.1 h
  obtain ⟨h3, h4, h5⟩ := and3_eq.1 h1
  exact ⟨h3, h4, fun e => by subst e; exact h5, h2⟩
theorem wk2_cases {u u' : AV} (hl : wk2 u u') : (∃ fs gs, u = .st fs ∧ u' = .st gs ∧ wk1L fs gs) ∨ u' = .top ∨ ((∀ fs, u ≠ .st fs) ∧ (∀ fs, u' ≠ .st fs) ∧ wk1 u u') := by
  cases u' <;> first | exact .inr (.inl rfl) | skip
  all_goals (cases u <;> first | exact hl.elim | exact .inl ⟨_, _, rfl, rfl, hl⟩ | exact .inr (.inr ⟨nofun, nofun, hl⟩))
theorem wk3_cases {u u' : AV} (hl : wk3 u u') : (∃ fs gs, u = .tup fs ∧ u' = .tup gs ∧ wk2L fs gs) ∨ u' = .top ∨ (∃ a, u = .newp a) ∨ ((∀ fs, u ≠ .tup fs) ∧ (∀ fs, u' ≠ .tup fs) ∧ wk2 u u') := by
  cases u' <;> first | exact .inr (.inl rfl) | skip
  all_goals (cases u <;> first | exact hl.elim | exact .inl ⟨_, _, rfl, rfl, hl⟩ | exact .inr (.inr (.inl ⟨_, rfl⟩)) | exact .inr (.inr (.inr ⟨nofun, nofun, hl⟩)))
/-- What is known is known at moment 2. -/
structure Wk (γ : Gh) (now : Nat) (γ' : Gh) : Prop where
  lim : γ'.lim = γ.lim
  loc : γ'.loc = γ.loc
  ow : γ'.ow = γ.ow
  vid : γ'.vid = γ.vid
  H2 : γ'.H 2 = γ.H 2
  mono : ∀ e e', e ≤ e' → e' < now → γ.H e ≤ γ.H e'
  two : 3 ≤ now

section
variable {C : Fr} {γ γ' : Gh} {now : Nat} {w : World} (W : Wk γ now γ')
include W

theorem InM.c3 {x b : Nat} (h : InM C γ now w x b) (hb : b < w.heap.size) : InM C γ' 3 w (c3 x) b := by
  obtain ⟨e, h1, h2⟩ := h
  have h3 := W.two
  have low : ∀ k, k < 2 → x.testBit k = true → (Nat.land x 3).testBit k = true := fun k hk ht => by
    have e : Nat.land x 3 = x &&& 3 := rfl
    rw [e, Nat.testBit_and, ht]
    match k, hk with
    | 0, _ => rfl
    | 1, _ => rfl
  rcases h2 with ⟨rfl, g1, g2⟩ | ⟨rfl, g1, g2⟩ | ⟨g0, g1, g2, g3⟩
  · exact InM.or.2 (.inl ⟨0, low 0 (by omega) h1, .inl ⟨rfl, by rw [W.H2]; exact g1, g2⟩⟩)
  · exact InM.or.2 (.inl ⟨1, low 1 (by omega) h1, .inr (.inl ⟨rfl, by rw [W.H2]; exact g1, g2⟩)⟩)
  · have hne : Nat.beq (Nat.shiftRight x 2) 0 = false := by
      cases hb : Nat.beq (Nat.shiftRight x 2) 0 with
      | false => rfl
      | true =>
        have h0 : x >>> 2 = 0 := Nat.eq_of_beq_eq_true hb
        have := congrArg (fun n => Nat.testBit n (e - 2)) h0
        simp only [Nat.testBit_shiftRight, Nat.zero_testBit] at this
        rw [show 2 + (e - 2) = e by omega, h1] at this
        cases this
    unfold Dk.c3
    rw [hne]
    refine InM.or.2 (.inr ⟨2, rfl, .inr (.inr ⟨by omega, by omega, ?_, ?_⟩)⟩)
    · rw [W.H2]; exact Nat.le_trans (W.mono 2 e g0 g1) g2
    · unfold bnd; rw [if_neg (by omega)]; exact hb
theorem RtOk.wk {r m r' m' : Nat} {nd nd' : Bool} {fp : List Nat} (h : RtOk C γ now w r m nd fp) (hfp : ∀ b ∈ fp, b < w.heap.size) (h1 : subM (Dk.c3 r) r' = true) (h2 : subM (Dk.c3 m) m' = true) (h3 : nd' = true → nd = true) : RtOk C γ' 3 w r' m' nd' fp :=
  ⟨fun b hb => ((h.1 b hb).c3 W (hfp b (List.mem_of_mem_head? hb))).mono h1, fun b hb => ((h.2.1 b hb).c3 W (hfp b (List.mem_of_mem_tail hb))).mono h2, fun e => h.2.2 (h3 e)⟩
theorem OwnOk.wk {es : Nat} {a : Option Addr} {len cap : Nat} {o o' : Own} (h : OwnOk γ w es a len cap o) (hl : o.le o' = true) : OwnOk γ' w es a len cap o' := by
  cases o' with
  | no => trivial
  | full => cases o <;> simp [Own.le] at hl; exact h
  | tok k =>
    cases o with
    | no => simp [Own.le] at hl
    | full => intro hlt; have h : cap = len := h; omega
    | tok j =>
      have e : j = k := Nat.eq_of_beq_eq_true hl
      subst e
      intro hlt
      obtain ⟨h0, b, c, ty, k1, k2, k3, k4, k5⟩ := h hlt
      exact ⟨h0, b, c, ty, k1, by rw [W.ow]; exact k2, k3, k4, by rw [W.lim]; exact k5⟩
    | id j =>
      have e : j = k := Nat.eq_of_beq_eq_true hl
      subst e
      intro hlt
      obtain ⟨h0, b, c, ty, k1, k2, k3, k4, k5⟩ := h.2 hlt
      exact ⟨h0, b, c, ty, k1, by rw [W.ow]; exact k2, k3, k4, by rw [W.lim]; exact k5⟩
  | id k =>
    cases o with
    | no => simp [Own.le] at hl
    | full => simp [Own.le] at hl
    | tok j => simp [Own.le] at hl
    | id j =>
      have e : j = k := Nat.eq_of_beq_eq_true hl
      subst e
      refine ⟨by rw [W.vid]; exact h.1, fun hlt => ?_⟩
      obtain ⟨h0, b, c, ty, k1, k2, k3, k4, k5⟩ := h.2 hlt
      exact ⟨h0, b, c, ty, k1, by rw [W.ow]; exact k2, k3, k4, by rw [W.lim]; exact k5⟩
theorem TagOk.wk {es : Nat} {a : Option Addr} {len cap : Nat} {fp : List Nat} {g g' : Tag} (h : TagOk C γ now w es a len cap fp g) (hfp : ∀ b ∈ fp, b < w.heap.size) (hl : g.le g' = true) : TagOk C γ' 3 w es a len cap fp g' := by
  cases g' with
  | any => trivial
  | el m nd o => cases g <;> simp [Tag.le] at hl
  | arg j =>
    cases g <;> simp only [Tag.le] at hl <;> try cases hl
    rename_i i
    have e : i = j := Nat.eq_of_beq_eq_true hl
    subst e
    exact ⟨h.1, fun b hb => InM.two.2 (by rw [W.H2]; exact InM.two.1 (h.2 b hb))⟩
  | iv r' m' nd' o' =>
    cases g <;> simp only [Tag.le] at hl <;> first | (cases hl; done) | skip
    · rename_i r m nd o
      obtain ⟨k1, k2, k3, k4⟩ := tag_le_iv hl
      exact ⟨RtOk.wk W h.1 hfp k1 k2 k3, OwnOk.wk W h.2 k4⟩
    · obtain ⟨k1, k2, k3⟩ := and3_eq.1 hl
      split at k3
      case h_2 => cases k3
      have hb : ∀ b ∈ fp, InM C γ' 3 w 2 b := fun b hb => InM.two.2 (by rw [W.H2]; exact InM.two.1 (h.2 b hb))
      exact ⟨⟨fun b hm => (hb b (List.mem_of_mem_head? hm)).mono k1, fun b hm => (hb b (List.mem_of_mem_tail hm)).mono k2, nofun⟩, trivial⟩
theorem RelS.wk {u u' : AV} {v : Value} (h : RelS C γ now w u v) (hl : wk1 u u') : RelS C γ' 3 w u' v := by
  cases u' <;> first | trivial | skip
  all_goals (cases u <;> simp only [wk1] at hl <;> first | exact hl.elim | skip)
  · obtain ⟨rfl, rfl⟩ := hl; exact h
  · subst hl; exact h
  · subst hl; exact h
  · obtain ⟨rfl, hl⟩ := hl
    obtain ⟨a, cap, fp, h1, h2, h3, h4⟩ := h
    exact ⟨a, cap, fp, h1, h2, by rw [W.lim]; exact h3, TagOk.wk W h4 h3.lt hl⟩
  · obtain ⟨rfl, rfl, hl⟩ := hl
    obtain ⟨a, cap, fp, h1, h2, h3, h4⟩ := h
    exact ⟨a, cap, fp, h1, h2, by rw [W.lim]; exact h3, TagOk.wk W h4 h3.lt hl⟩
  · subst hl
    obtain ⟨a, cap, h1, h2, h3⟩ := h
    exact ⟨a, cap, h1, h2, by rw [W.lim]; exact h3⟩
  · exact h
  · exact h
  · subst hl; show v = .pointer (some ⟨γ'.loc _, 0, none⟩); rw [W.loc]; exact h
  · subst hl; exact h
  · obtain ⟨rfl, rfl⟩ := hl; show v = .pointer (some ⟨γ'.loc _, _, none⟩); rw [W.loc]; exact h
  · obtain ⟨rfl, rfl⟩ := hl; exact h
  · obtain ⟨rfl, rfl⟩ := hl
    obtain ⟨vs, h1, h2⟩ := h
    refine ⟨vs, h1, h2.mono fun a b hab => ?_⟩
    cases a <;> simp only [PtrV] at hab ⊢ <;> first | exact hab | (rw [W.loc]; exact hab)
theorem RelSL.wk : ∀ {fs gs : List AV} {cs : List Value}, All2 (RelS C γ now w) fs cs → wk1L fs gs → All2 (RelS C γ' 3 w) gs cs
  | [], [], [], _, _ => trivial
  | [], _ :: _, _, _, h => h.elim
  | _ :: _, [], _, _, h => h.elim
  | [], [], _ :: _, h, _ => h.elim
  | _ :: _, _ :: _, [], h, _ => h.elim
  | _ :: _, _ :: _, _ :: _, ⟨h1, h2⟩, ⟨k1, k2⟩ => ⟨RelS.wk W h1 k1, RelSL.wk h2 k2⟩
theorem Rel2.wk {u u' : AV} {v : Value} (h : Rel2 C γ now w u v) (hl : wk2 u u') : Rel2 C γ' 3 w u' v := by
  rcases wk2_cases hl with ⟨fs, gs, rfl, rfl, hl⟩ | rfl | ⟨h1, h2, hl⟩
  · obtain ⟨cs, k1, k2⟩ := h; exact ⟨cs, k1, RelSL.wk W k2 hl⟩
  · trivial
  · rw [Rel2_eq h2]; rw [Rel2_eq h1] at h; exact RelS.wk W h hl
theorem Rel2L.wk : ∀ {fs gs : List AV} {cs : List Value}, All2 (Rel2 C γ now w) fs cs → wk2L fs gs → All2 (Rel2 C γ' 3 w) gs cs
  | [], [], [], _, _ => trivial
  | [], _ :: _, _, _, h => h.elim
  | _ :: _, [], _, _, h => h.elim
  | [], [], _ :: _, h, _ => h.elim
  | _ :: _, _ :: _, [], h, _ => h.elim
  | _ :: _, _ :: _, _ :: _, ⟨h1, h2⟩, ⟨k1, k2⟩ => ⟨Rel2.wk W h1 k1, Rel2L.wk h2 k2⟩
theorem Rel3.wk {u u' : AV} {v : Value} (h : Rel3 C γ now w u v) (hl : wk3 u u') : Rel3 C γ' 3 w u' v := by
  rcases wk3_cases hl with ⟨fs, gs, rfl, rfl, hl⟩ | rfl | ⟨x, rfl⟩ | ⟨h1, h2, hl⟩
  · obtain ⟨cs, k1, k2⟩ := h; exact ⟨cs, k1, Rel2L.wk W k2 hl⟩
  · trivial
  · exact (show False from h).elim
  · rw [Rel3_eq h2]; rw [Rel3_eq h1] at h; exact Rel2.wk W h hl
theorem FlatR.wk {u u' : AV} {cs : List Value} (h : FlatR C γ now w u cs) (hl : wkF u u') : FlatR C γ' 3 w u' cs := by
  cases u with
  | st fs => cases u' <;> first | exact hl.elim | exact RelSL.wk W h hl
  | _ =>
    have hu' : ∀ fs, u' ≠ .st fs := fun fs e => by subst e; exact hl.elim
    rw [FlatR_eq (by nofun)] at h
    rw [FlatR_eq hu']
    obtain ⟨v, h1, h2⟩ := h
    exact ⟨v, h1, RelS.wk W h2 hl⟩
theorem VarR.wk {b : Nat} {u u' : AV} (h : VarR C γ now w b u) (hl : wkF u u') : VarR C γ' 3 w b u' := by
  obtain ⟨cs, ty, h1, h2⟩ := h
  exact ⟨cs, ty, h1, FlatR.wk W h2 hl⟩
end
theorem wkFL_get : ∀ {l l' : List AV}, wkFL l l' → ∀ (i : Nat) u', l'[i]? = some u' → ∃ u, l[i]? = some u ∧ wkF u u'
  | [], [], _, i, u', h => by simp at h
  | [], _ :: _, h, _, _, _ => h.elim
  | _ :: _, [], h, _, _, _ => h.elim
  | a :: l, a' :: l', ⟨h1, _⟩, 0, u', h => by simp at h; subst h; exact ⟨a, rfl, h1⟩
  | _ :: l, _ :: l', ⟨_, h2⟩, i + 1, u', h => by simpa using wkFL_get h2 i u' (by simpa using h)
theorem wkFL_length : ∀ {l l' : List AV}, wkFL l l' → l.length = l'.length
  | [], [], _ => rfl
  | [], _ :: _, h => h.elim
  | _ :: _, [], h => h.elim
  | _ :: l, _ :: l', ⟨_, h2⟩ => by simp [wkFL_length h2]
theorem lk_cases {f : Nat → AV} : ∀ {l : List (Nat × AV)} (i : Nat), subL f l → lk l i = .top ∨ wk3 (f i) (lk l i)
  | [], i, _ => .inl rfl
  | (j, v) :: r, i, ⟨h1, h2⟩ => by
    simp only [lk]
    cases hb : Nat.beq i j with
    | true => have e : i = j := Nat.eq_of_beq_eq_true hb; subst e; exact .inr h1
    | false => exact lk_cases i h2
theorem wk3_top {u : AV} (h : wk3 .top u) : u = .top := by cases u <;> first | rfl | exact h.elim
theorem wkF_of_wk3 {C : Fr} {γ : Gh} {now : Nat} {w : World} {b : Nat} {u u' : AV} (hv : VarR C γ now w b u) (h : wk3 u u') (hu : u' ≠ .top) : wkF u u' := by
  obtain ⟨cs, ty, _, hf⟩ := hv
  cases u with
  | tup fs => obtain ⟨v, _, h⟩ := hf; exact h.elim
  | newp fs => obtain ⟨v, _, h⟩ := hf; exact h.elim
  | st fs => cases u' <;> first | exact absurd rfl hu | exact h
  | _ => cases u' <;> first | exact absurd rfl hu | exact h.elim | exact h

section
variable {C : Fr} {n : Nat} {γ : Gh} {s : AS} {a : Act} {w : World}
def Gh.setV (γ : Gh) (d : Nat) (v : Value) : Gh := { γ with vid := fun i => if i = d then v else γ.vid i }
theorem Rel.setV (R : Rel C n γ s a w) (v : Value) (d : Nat) : Rel C n (γ.setV d v) ⟨fun i => (s.t i).cl (is1 d) is0, fun i => (s.h i).cl (is1 d) is0, clL (is1 d) is0 s.fh, s.now⟩ a w := by
  have S : Step γ s.now w (γ.setV d v) s.now w (is1 d) is0 :=
    { lim := fun _ => Nat.le_refl _, cell := fun _ _ _ _ h => h, size := Nat.le_refl _, two := R.two, le := Nat.le_refl _, Hlt := fun _ _ => rfl, Hge := fun e h1 h2 => by omega,
      loc := fun _ _ => rfl, ow := fun _ _ h _ => ⟨h, rfl, rfl⟩, vid := fun i hi => if_neg (is1_ne hi) }
  exact R.grow S (fun i _ => ⟨rfl, rfl⟩) (fun b _ ho => ⟨rfl, rfl, ho⟩) R.plain R.ow R.limz rfl rfl rfl (fun e h1 h2 => by omega)
def Gh.ren (γ : Gh) (d i : Nat) (v : Value) : Gh := { γ with ow := fun b => if γ.ow b = some d then some i else γ.ow b, vid := fun k => if k = i then v else γ.vid k }
theorem Rel.ren (R : Rel C n γ s a w) (v : Value) (d i : Nat) : Rel C n (γ.ren d i v) ⟨fun x => (s.t x).cl (is2 d i) is0, fun x => (s.h x).cl (is2 d i) is0, clL (is2 d i) is0 s.fh, s.now⟩ a w := by
  have k2 : ∀ k, is2 d i k = false → k ≠ d ∧ k ≠ i := fun k hk => by
    simp only [is2] at hk
    split at hk
    · cases hk
    · rename_i hb
      exact ⟨fun e => by subst e; simp at hb, fun e => by subst e; simp at hk⟩
  have S : Step γ s.now w (γ.ren d i v) s.now w (is2 d i) is0 :=
    { lim := fun _ => Nat.le_refl _, cell := fun _ _ _ _ h => h, size := Nat.le_refl _, two := R.two, le := Nat.le_refl _, Hlt := fun _ _ => rfl, Hge := fun e h1 h2 => by omega,
      loc := fun _ _ => rfl
      ow := fun b k h hk => ⟨by show (if γ.ow b = some d then some i else γ.ow b) = some k; rw [if_neg (by rw [h]; intro e; cases e; exact (k2 _ hk).1 rfl)]; exact h, rfl, rfl⟩
      vid := fun k hk => if_neg (k2 k hk).2 }
  refine R.grow S (fun i _ => ⟨rfl, rfl⟩) (fun b _ ho => ⟨rfl, rfl, ?_⟩) R.plain (fun b k hb => ?_) R.limz rfl rfl rfl (fun e h1 h2 => by omega)
  · show (if γ.ow b = some d then some i else γ.ow b) = none
    rw [if_neg (by rw [ho]; nofun)]; exact ho
  · have hb : (if γ.ow b = some d then some i else γ.ow b) = some k := hb
    split at hb
    · rename_i h; exact R.ow b d h
    · exact R.ow b k hb
theorem own_ren {es : Nat} {a' : Option Addr} {len cap d i : Nat} (h : OwnOk γ w es a' len cap (.tok d)) : OwnOk (γ.ren d i (.slice a' len cap)) w es a' len cap (.id i) :=
  ⟨if_pos rfl, fun hlt => by
    obtain ⟨h0, b, c, ty, h1, h2, h3, h4, h5⟩ := h hlt
    exact ⟨h0, b, c, ty, h1, if_pos h2, h3, h4, h5⟩⟩
theorem Rel.retag (R : Rel C n γ s a w) {j : Nat} {K : AS → Prop} (h : retagP s j K) : ∃ γ' s', Rel C n γ' s' a w ∧ K s' := by
  have ut : ∀ {γ' : Gh} {s' : AS} {u : AV}, Rel C n γ' s' a w → Rel3 C γ' s'.now w u (a.tmps.getD j undef) → ∀ i, Rel3 C γ' s'.now w (upd s'.t j u i) (a.tmps.getD i undef) := fun {γ'} {s'} {u} R' hu i => by
    by_cases e : i = j
    · subst e; rw [upd_same]; exact hu
    · rw [upd_ne e]; exact R'.t i
  have put : ∀ {γ' : Gh} {s' : AS} {u : AV}, Rel C n γ' s' a w → Rel3 C γ' s'.now w u (a.tmps.getD j undef) → Rel C n γ' ⟨upd s'.t j u, s'.h, s'.fh, s'.now⟩ a w := fun R' hu => { R' with t := ut R' hu }
  have hv := R.t j
  unfold retagP at h
  split at h
  case h_4 => exact h.elim
  case h_3 i ht =>
    split at h
    case h_2 => exact h.elim
    rename_i k1 x k2 y ts r m nd o hh
    have h : ∃ d, (o = .tok d ∨ o = .id d) ∧ K ⟨fun x => (s.t x).cl (is2 d i) is0, upd (fun x => (s.h x).cl (is2 d i) is0) i (.st [.int k1 x, .int k2 y, .slc ts (.iv r m nd (.id i))]), clL (is2 d i) is0 s.fh, s.now⟩ := by
      split at h
      · exact ⟨_, .inl rfl, h⟩
      · exact ⟨_, .inr rfl, h⟩
      · exact h.elim
    obtain ⟨d, ho, h⟩ := h
    obtain ⟨g1, g2⟩ := R.h i (by rw [hh]; nofun)
    rw [hh] at g1
    obtain ⟨cs, ty, e1, e2⟩ := g1
    match cs, e2 with
    | [c1, c2, c3], ⟨q1, q2, ⟨a', cap, fp, h1, h2, h3, h4, h5⟩, q4⟩ =>
      have h5' : OwnOk γ w 3 a' ts.length cap (.tok d) := by
        rcases ho with rfl | rfl
        · exact h5
        · exact h5.2
      have R' := R.ren (.slice a' ts.length cap) d i
      have hi : (s.h i).cl (is2 d i) is0 ≠ .top := by rw [hh]; nofun
      have hn : ∀ j, upd (fun x => (s.h x).cl (is2 d i) is0) i (.st [.int k1 x, .int k2 y, .slc ts (.iv r m nd (.id i))]) j ≠ .top → (s.h j).cl (is2 d i) is0 ≠ .top := fun j hj => by
        by_cases e : j = i
        · rw [e]; exact hi
        · rw [upd_ne e] at hj; exact hj
      have key : Rel C n (γ.ren d i (.slice a' ts.length cap)) ⟨fun x => (s.t x).cl (is2 d i) is0, upd (fun x => (s.h x).cl (is2 d i) is0) i (.st [.int k1 x, .int k2 y, .slc ts (.iv r m nd (.id i))]), clL (is2 d i) is0 s.fh, s.now⟩ a w := by
        refine { R' with h := fun j hj => ?_, inj := fun j j' hj hj' => R'.inj j j' (hn j hj) (hn j' hj') }
        by_cases e : j = i
        · subst e
          refine ⟨⟨_, ty, e1, ?_⟩, (R'.h j hi).2⟩
          show FlatR C _ s.now w (upd (fun x => (s.h x).cl (is2 d j) is0) j (.st [.int k1 x, .int k2 y, .slc ts (.iv r m nd (.id j))]) j) _
          rw [upd_same]
          exact ⟨q1, q2, ⟨a', cap, fp, h1, h2, h3, h4, own_ren h5'⟩, q4⟩
        · have := R'.h j (hn j hj)
          show VarR C _ s.now w _ (upd (fun x => (s.h x).cl (is2 d i) is0) i (.st [.int k1 x, .int k2 y, .slc ts (.iv r m nd (.id i))]) j) ∧ _
          rw [upd_ne e]
          exact this
      exact ⟨_, _, key, h⟩
  case h_1 k ns r m nd o ht =>
    have h : ∃ d, (o = .tok d ∨ o = .id d) ∧ K ⟨upd (fun i => (s.t i).cl (is2 d j) is0) j (.ints k ns (.iv r m nd (.id j))), fun i => (s.h i).cl (is2 d j) is0, clL (is2 d j) is0 s.fh, s.now⟩ := by
      split at h
      · exact ⟨_, .inl rfl, h⟩
      · exact ⟨_, .inr rfl, h⟩
      · exact h.elim
    obtain ⟨d, ho, h⟩ := h
    rw [ht] at hv
    obtain ⟨a', cap, fp, h1, h2, h3, h4, h5⟩ := hv
    have h5' : OwnOk γ w 1 a' ns.length cap (.tok d) := by
      rcases ho with rfl | rfl
      · exact h5
      · exact h5.2
    exact ⟨_, _, put (u := .ints k ns (.iv r m nd (.id j))) (R.ren (.slice a' ns.length cap) d j) ⟨a', cap, fp, h1, h2, h3, h4, own_ren h5'⟩, h⟩
  case h_2 ts r m nd o ht =>
    have h : ∃ d, (o = .tok d ∨ o = .id d) ∧ K ⟨upd (fun i => (s.t i).cl (is2 d j) is0) j (.slc ts (.iv r m nd (.id j))), fun i => (s.h i).cl (is2 d j) is0, clL (is2 d j) is0 s.fh, s.now⟩ := by
      split at h
      · exact ⟨_, .inl rfl, h⟩
      · exact ⟨_, .inr rfl, h⟩
      · exact h.elim
    obtain ⟨d, ho, h⟩ := h
    rw [ht] at hv
    obtain ⟨a', cap, fp, h1, h2, h3, h4, h5⟩ := hv
    have h5' : OwnOk γ w 3 a' ts.length cap (.tok d) := by
      rcases ho with rfl | rfl
      · exact h5
      · exact h5.2
    exact ⟨_, _, put (u := .slc ts (.iv r m nd (.id j))) (R.ren (.slice a' ts.length cap) d j) ⟨a', cap, fp, h1, h2, h3, h4, own_ren h5'⟩, h⟩
end
section
variable {P : Program} {C : Fr} {n : Nat} {TY : Nat → TyI} {G : List (Nat × Con)}
def Gh.low (γ : Gh) : Gh := { γ with H := fun e => if e < 3 then γ.H e else 0 }

/- What is evaluated says what is meant. -/
theorem we1_ok {u v : AV} {A : Prop} (h : we1 u v A) : wk1 u v ∧ A := by
  unfold we1 at h
  split at h
  case h_15 => exact h.elim
  all_goals first
    | exact ⟨trivial, h⟩
    | exact ⟨h.1, h.2⟩
    | (obtain ⟨e, h⟩ := h; subst e; exact ⟨rfl, h⟩)
    | (split at h
       case h_2 => exact h.elim
       rename_i h1 h2
       first
         | exact ⟨⟨ikEq_iff.1 h1, h.1, h2⟩, h.2⟩
         | exact ⟨⟨Nat.eq_of_beq_eq_true h1, capsEq_eq h2⟩, h⟩
         | exact ⟨⟨Nat.eq_of_beq_eq_true h1, Nat.eq_of_beq_eq_true h2⟩, h⟩)
    | (split at h
       case h_2 => exact h.elim
       rename_i h1
       first
         | exact ⟨⟨ikEq_iff.1 h1, h.1⟩, h.2⟩
         | exact ⟨⟨h.1, h1⟩, h.2⟩
         | exact ⟨Nat.eq_of_beq_eq_true h1, h⟩)
theorem we1L_ok : ∀ {l l' : List AV} {A : Prop}, we1L l l' A → wk1L l l' ∧ A
  | [], [], _, h => ⟨trivial, h⟩
  | [], _ :: _, _, h => h.elim
  | _ :: _, [], _, h => h.elim
  | u :: r, v :: r', A, h => by
    obtain ⟨e1, k1⟩ := we1_ok h
    obtain ⟨e2, k2⟩ := we1L_ok k1
    exact ⟨⟨e1, e2⟩, k2⟩
theorem wk2_of {u v : AV} (h : wk1 u v) (hv : ∀ fs gs, u = .st fs → v = .st gs → False) : wk2 u v := by
  cases u <;> cases v <;> first | exact h | exact (hv _ _ rfl rfl).elim
theorem we2_ok {u v : AV} {A : Prop} (h : we2 u v A) : wk2 u v ∧ A := by
  unfold we2 at h
  split at h
  · exact we1L_ok h
  · rename_i hn
    obtain ⟨e, k⟩ := we1_ok h
    exact ⟨wk2_of e hn, k⟩
theorem we2L_ok : ∀ {l l' : List AV} {A : Prop}, we2L l l' A → wk2L l l' ∧ A
  | [], [], _, h => ⟨trivial, h⟩
  | [], _ :: _, _, h => h.elim
  | _ :: _, [], _, h => h.elim
  | u :: r, v :: r', A, h => by
    obtain ⟨e1, k1⟩ := we2_ok h
    obtain ⟨e2, k2⟩ := we2L_ok k1
    exact ⟨⟨e1, e2⟩, k2⟩
theorem weF_ok {u v : AV} {A : Prop} (h : weF u v A) : wkF u v ∧ A := by
  unfold weF at h
  split at h
  · exact we1L_ok h
  · exact h.elim
  · rename_i h1 h2
    obtain ⟨e, k⟩ := we1_ok h
    refine ⟨?_, k⟩
    cases u <;> cases v <;> first | exact e | exact (h1 _ rfl).elim | exact (h2 _ rfl).elim | exact (h1 _ _ rfl rfl).elim | exact (h2 _ _ rfl rfl).elim
theorem weFL_ok : ∀ {l l' : List AV} {A : Prop}, weFL l l' A → wkFL l l' ∧ A
  | [], [], _, h => ⟨trivial, h⟩
  | [], _ :: _, _, h => h.elim
  | _ :: _, [], _, h => h.elim
  | u :: r, v :: r', A, h => by
    obtain ⟨e1, k1⟩ := weF_ok h
    obtain ⟨e2, k2⟩ := weFL_ok k1
    exact ⟨⟨e1, e2⟩, k2⟩
theorem we3_ok {u v : AV} {A : Prop} (h : we3 u v A) : wk3 u v ∧ A := by
  unfold we3 at h
  split at h
  · exact we2L_ok h
  · exact weF_ok h
  · rename_i h1 h2
    obtain ⟨e, k⟩ := we2_ok h
    refine ⟨?_, k⟩
    cases u <;> cases v <;> first | exact e | exact (h1 _ _ rfl rfl).elim | exact (h2 _ _ rfl rfl).elim
theorem seL_ok {f : Nat → AV} : ∀ {l : List (Nat × AV)} {A : Prop}, seL f l A → subL f l ∧ A
  | [], _, h => ⟨trivial, h⟩
  | (i, v) :: r, A, h => by
    obtain ⟨e1, k1⟩ := we3_ok h
    obtain ⟨e2, k2⟩ := seL_ok k1
    exact ⟨⟨e1, e2⟩, k2⟩
theorem seS_ok {s : AS} {tl hl : List (Nat × AV)} {fh : List AV} {A : Prop} (h : seS s tl hl fh A) : subS s tl hl fh ∧ A := by
  obtain ⟨e1, k1⟩ := seL_ok h
  obtain ⟨e2, k2⟩ := seL_ok k1
  obtain ⟨e3, k3⟩ := weFL_ok k2
  exact ⟨⟨e1, e2, e3⟩, k3⟩
theorem Rel.wk {s : AS} {γ : Gh} {a : Act} {w : World} (R : Rel C n γ s a w) : Wk γ s.now γ.low :=
  { lim := rfl, loc := rfl, ow := rfl, vid := rfl, H2 := rfl, mono := R.Hmono, two := R.two }
theorem Rel.sub {s : AS} {γ : Gh} {a : Act} {w : World} (R : Rel C n γ s a w) {tl hl : List (Nat × AV)} {fh : List AV} (h : subS s tl hl fh) : Rel C n γ.low (ofL tl hl fh) a w := by
  obtain ⟨h1, h2, h3⟩ := h
  have W := R.wk
  have hh : ∀ i, lk hl i ≠ .top → wk3 (s.h i) (lk hl i) ∧ s.h i ≠ .top := fun i hi => by
    have := (lk_cases i h2).resolve_left hi
    exact ⟨this, fun e => hi (by rw [e] at this; exact wk3_top this)⟩
  have h2n := R.two
  refine { R with t := fun i => ?_, h := fun i hi => ?_, inj := fun i j hi hj e => R.inj i j (hh i hi).2 (hh j hj).2 e, fl := by rw [← R.fl]; exact (wkFL_length h3).symm, f := fun i u hu => ?_, two := Nat.le_refl _, Hle := fun e he => ?_, Hmono := fun e e' h he => ?_, H2 := R.H2 }
  · show Rel3 C γ.low 3 w (lk tl i) _
    rcases lk_cases i h1 with e | e
    · rw [e]; trivial
    · exact Rel3.wk W (R.t i) e
  · obtain ⟨k1, k2⟩ := hh i hi
    obtain ⟨g1, g2⟩ := R.h i k2
    exact ⟨VarR.wk W g1 (wkF_of_wk3 g1 k1 hi), g2⟩
  · obtain ⟨u0, k1, k2⟩ := wkFL_get h3 i u hu
    obtain ⟨g1, g2⟩ := R.f i u0 k1
    exact ⟨VarR.wk W g1 k2, g2⟩
  · have he : e < 3 := he
    show (if e < 3 then γ.H e else 0) ≤ _
    rw [if_pos he]; exact R.Hle e (by omega)
  · have he : e' < 3 := he
    show (if e < 3 then γ.H e else 0) ≤ (if e' < 3 then γ.H e' else 0)
    rw [if_pos he, if_pos (by omega)]; exact R.Hmono e e' h (by omega)

theorem setB_id {s : AS} {c : Operand} {t b : Bool} (h : s.get c = .bool t) (e : t = b) : setB s c b = s := by
  subst e
  cases c with
  | tmp i =>
    obtain ⟨st, sh, sf, sn⟩ := s
    have h : st i = .bool t := h
    show (⟨upd st i (.bool t), sh, sf, sn⟩ : AS) = _
    rw [← h, upd_eta]
  | _ => rfl
def Ex.toExit : Ex → Exit
  | .normal => .normal
  | .exit i => .exit i
  | .ret => .ret

theorem code_wp {A : List (Nat × LA)} (hm : P.follows .mixedOrders = true) (hG : ∀ p ∈ G, Sound P p.1 p.2) (hT : TyOk P TY) : ∀ (c : Code) (Q' : Ex → AS → Prop) (Q : Exit → Act → World → Prop),
    (∀ e s' γ' a' w', Q' e s' → Rel C n γ' s' a' w' → Q e.toExit a' w') → ∀ (s : AS) (γ : Gh) (a : Act) (w : World), awp G TY A n c Q' s → Rel C n γ s a w → c.wp P Q a w := by
  intro c
  induction c with
  | skip => exact fun Q' Q hq s γ a w h R => wp_skip (hq .normal _ _ _ _ h R)
  | label l => exact fun Q' Q hq s γ a w h R => wp_label (hq .normal _ _ _ _ h R)
  | exit id => exact fun Q' Q hq s γ a w h R => wp_exit (hq (.exit id) _ _ _ _ h R)
  | ret => exact fun Q' Q hq s γ a w h R => wp_ret (hq .ret _ _ _ _ h R)
  | seq x y ihx ihy =>
    intro Q' Q hq s γ a w h R
    refine wp_seq (ihx _ _ (fun e s' γ' a' w' h' R' => ?_) s γ a w h R)
    cases e with
    | normal => exact ihy _ _ hq s' γ' a' w' h' R'
    | exit i => exact hq (.exit i) _ _ _ _ h' R'
    | ret => exact hq .ret _ _ _ _ h' R'
  | region id ops dr =>
    intro Q' Q hq s γ a w h R
    have key : ∀ (F : AS → Prop), (∀ s' γ' a' w', F s' → Rel C n γ' s' a' w' → Q .normal a' w') → ∀ (s : AS) (γ : Gh), Rel C n γ s a w → regP G TY A n id ops dr F s → (Code.region id ops dr).wp P Q a w := by
      intro F hF s γ R h
      unfold regP at h
      cases dr with
      | false => exact region_wp hG hT (fun s' γ' a' w' h' R' => hF _ _ _ _ h' R') R h
      | true =>
        simp only at h
        split at h
        · exact draw_wp hm hG hT (fun s' γ' a' w' h' R' => hF _ _ _ _ h' R') R h
        · split at h
          · obtain ⟨h1, h2⟩ := h
            refine draw_wp_plan hm hG hT (fun s' γ' a' w' h' R' => ?_) R h1
            obtain ⟨x, okx, k1⟩ := h'
            exact hF _ _ _ _ (h2 x okx) (R'.sub (seS_ok k1).1)
          · exact draw_wp_plan hm hG hT (fun s' γ' a' w' h' R' => hF _ _ _ _ h' R') R h
          · exact draw_wp_plan hm hG hT (fun s' γ' a' w' h' R' => by cases h') R h
    have h0 : ∀ s' γ' a' w', Q' .normal s' → Rel C n γ' s' a' w' → Q .normal a' w' := fun s' γ' a' w' h' R' => hq .normal _ _ _ _ h' R'
    have h1 : ∀ (M : LA) s' γ' a' w', retagP s' M.re (Q' .normal) → Rel C n γ' s' a' w' → Q .normal a' w' := fun M s' γ' a' w' h' R' => by
      obtain ⟨γ2, s2, R2, h2⟩ := R'.retag h'
      exact h0 _ _ _ _ h2 R2
    simp only [awp] at h
    split at h
    · exact key _ h0 s γ R h
    · obtain ⟨γ', s', R', h'⟩ := R.retag h
      exact key _ h0 s' γ' R' h'
    · exact key _ (h1 _) s γ R h
    · obtain ⟨γ', s', R', h'⟩ := R.retag h
      exact key _ (h1 _) s' γ' R' h'
  | cond x p q ihp ihq =>
    intro Q' Q hq s γ a w h R
    simp only [awp] at h
    split at h
    case h_2 => exact h.elim
    rename_i t ht
    exact wp_cond_split (rel_bool (R.get x) ht) (fun e => ihp _ _ hq s γ a w (setB_id ht e ▸ Br.t h e) R) (fun e => ihq _ _ hq s γ a w (setB_id ht e ▸ Br.f h e) R)
  | block id x ih =>
    intro Q' Q hq s γ a w h R
    refine wp_block (ih _ _ (fun e s' γ' a' w' h' R' => ?_) s γ a w h R)
    cases e with
    | normal => exact hq .normal _ _ _ _ h' R'
    | ret => exact hq .ret _ _ _ _ h' R'
    | exit i =>
      show (if i = id then Q .normal a' w' else Q (.exit i) a' w')
      simp only at h'
      split at h'
      · rename_i hb
        rw [if_pos (Nat.eq_of_beq_eq_true hb)]
        exact hq .normal _ _ _ _ h' R'
      · rename_i hb
        rw [if_neg (by intro e; subst e; simp at hb)]
        exact hq (.exit i) _ _ _ _ h' R'
  | loop x ih =>
    intro Q' Q hq s γ a w h R
    simp only [awp] at h
    split at h
    case h_2 => cases h
    rename_i L _
    obtain ⟨⟨x0, ok0, h0⟩, hr⟩ := h
    refine wp_loop_ghost (fun k a w => ∃ y γ, L.ok y ∧ L.μ y = k ∧ Rel C n γ (ofL (L.tl y) (L.hl y) (L.fh y)) a w) (L.μ x0) ⟨x0, _, ok0, rfl, R.sub (seS_ok h0).1⟩ ?_
    rintro k a w ⟨y, γ, oky, rfl, R⟩
    refine ih _ _ (fun e s' γ' a' w' h' R' => ?_) _ γ a w (hr y oky) R
    cases e with
    | normal =>
      obtain ⟨z, okz, k1⟩ := h'
      obtain ⟨k1, k2⟩ := seS_ok k1
      exact ⟨L.μ z, k2, z, _, okz, rfl, R'.sub k1⟩
    | exit i => exact hq (.exit i) _ _ _ _ h' R'
    | ret => exact hq .ret _ _ _ _ h' R'
  | _ => exact fun Q' Q hq s γ a w h R => (show False from h).elim
end
end Go.Dk
