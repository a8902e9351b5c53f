/- Knowing less; code; functions. -/
import Derived.Deep.LoopGhost
import Derived.Test.YtlfddfmoifjenaaDraw5
namespace Go.Dk

theorem tag_le_iv {lo hi lo' hi' : Nat} {nd nd' : Bool} {o o' : Own} (h : (Tag.iv lo hi nd o).le (.iv lo' hi' nd' o') = true) :
    (lo' = 0 ∨ (lo' = 1 ∧ 1 ≤ lo)) ∧ (hi' = 2 ∨ (hi' = 1 ∧ hi ≤ 1)) ∧ (nd' = true → nd = true) ∧ o.le o' = true := by
  simp only [Tag.le] at h
  refine ⟨?_, ?_, ?_, ?_⟩
  · cases h1 : Nat.beq lo' 0 with
    | true => exact .inl (Nat.eq_of_beq_eq_true h1)
    | false =>
      cases h2 : (Nat.beq lo' 1 && Nat.ble 1 lo) with
      | true => simp only [Bool.and_eq_true] at h2; exact .inr ⟨Nat.eq_of_beq_eq_true h2.1, Nat.le_of_ble_eq_true h2.2⟩
      | false => simp [h1, h2] at h
  · cases h1 : Nat.beq hi' 2 with
    | true => exact .inl (Nat.eq_of_beq_eq_true h1)
    | false =>
      cases h2 : (Nat.beq hi' 1 && Nat.ble hi 1) with
      | true => simp only [Bool.and_eq_true] at h2; exact .inr ⟨Nat.eq_of_beq_eq_true h2.1, Nat.le_of_ble_eq_true h2.2⟩
      | false => simp [h1, h2] at h
  · intro e; subst e
    simp only [Bool.and_eq_true] at h
    exact h.1.2
  · simp only [Bool.and_eq_true] at h
    exact h.2
theorem wk2_cases {u u' : AV} (hl : wk2 u u') : (∃ fs gs, u = .st fs ∧ u' = .st gs ∧ wk1L fs gs) ∨ u' = .top ∨ ((∀ fs, u ≠ .st fs) ∧ (∀ fs, u' ≠ .st fs) ∧ wk1 u u') := by
  cases u' <;> first | exact .inr (.inl rfl) | skip
  all_goals (cases u <;> first | exact hl.elim | exact .inl ⟨_, _, rfl, rfl, hl⟩ | exact .inr (.inr ⟨nofun, nofun, hl⟩))
theorem wk3_cases {u u' : AV} (hl : wk3 u u') : (∃ fs gs, u = .tup fs ∧ u' = .tup gs ∧ wk2L fs gs) ∨ u' = .top ∨ (∃ a, u = .newp a) ∨ ((∀ fs, u ≠ .tup fs) ∧ (∀ fs, u' ≠ .tup fs) ∧ wk2 u u') := by
  cases u' <;> first | exact .inr (.inl rfl) | skip
  all_goals (cases u <;> first | exact hl.elim | exact .inl ⟨_, _, rfl, rfl, hl⟩ | exact .inr (.inr (.inl ⟨_, rfl⟩)) | exact .inr (.inr (.inr ⟨nofun, nofun, hl⟩)))
/-- What is known is known at moment 2. -/
structure Wk (γ : Gh) (now : Nat) (γ' : Gh) : Prop where
  lim : γ'.lim = γ.lim
  loc : γ'.loc = γ.loc
  ow : γ'.ow = γ.ow
  H0 : γ.H 0 = 0 ∧ γ'.H 0 = 0
  H1 : γ'.H 1 = γ.H 1
  mono : ∀ e e', e ≤ e' → e' < now → γ.H e ≤ γ.H e'
  two : 2 ≤ now

section
variable {C : Fr} {γ γ' : Gh} {now : Nat} {w : World} (W : Wk γ now γ')
include W

theorem IvOk.wk {lo hi lo' hi' : Nat} {nd nd' : Bool} {fp : List Nat} (h : IvOk γ now w lo hi nd fp) (hfp : ∀ b ∈ fp, b < w.heap.size)
    (h1 : lo' = 0 ∨ (lo' = 1 ∧ 1 ≤ lo)) (h2 : hi' = 2 ∨ (hi' = 1 ∧ hi ≤ 1)) (h3 : nd' = true → nd = true) : IvOk γ' 2 w lo' hi' nd' fp := by
  obtain ⟨g0, g1, g2, g3⟩ := h
  have h2n := W.two
  refine ⟨by omega, fun b hb => ?_, fun b hb => ?_, fun e => g3 (h3 e)⟩
  · rcases h1 with rfl | ⟨rfl, hl⟩
    · rw [W.H0.2]; exact Nat.zero_le _
    · rw [W.H1]; exact Nat.le_trans (W.mono 1 lo hl g0) (g1 b hb)
  · rcases h2 with rfl | ⟨rfl, hl⟩
    · show b < (if 2 < 2 then _ else w.heap.size)
      rw [if_neg (by omega)]; exact hfp b hb
    · show b < (if 1 < 2 then γ'.H 1 else _)
      rw [if_pos (by omega), W.H1]
      have := g2 b hb
      unfold bnd at this
      rw [if_pos (by omega)] at this
      exact Nat.lt_of_lt_of_le this (W.mono hi 1 hl (by omega))
theorem OwnOk.wk {es : Nat} {a : Option Addr} {len cap : Nat} {o o' : Own} (h : OwnOk γ w es a len cap o) (hl : o.le o' = true) : OwnOk γ' w es a len cap o' := by
  cases o' with
  | no => trivial
  | full => cases o <;> simp [Own.le] at hl; exact h
  | tok k =>
    cases o with
    | no => simp [Own.le] at hl
    | full => intro hlt; have h : cap = len := h; omega
    | tok j =>
      have e : j = k := Nat.eq_of_beq_eq_true hl
      subst e
      intro hlt
      obtain ⟨h0, b, c, ty, k1, k2, k3, k4, k5⟩ := h hlt
      exact ⟨h0, b, c, ty, k1, by rw [W.ow]; exact k2, k3, k4, by rw [W.lim]; exact k5⟩
theorem TagOk.wk {es : Nat} {a : Option Addr} {len cap : Nat} {fp : List Nat} {g g' : Tag} (h : TagOk C γ now w es a len cap fp g) (hfp : ∀ b ∈ fp, b < w.heap.size) (hl : g.le g' = true) : TagOk C γ' 2 w es a len cap fp g' := by
  cases g' with
  | any => trivial
  | el lo hi nd => cases g <;> simp [Tag.le] at hl
  | arg j =>
    cases g <;> simp only [Tag.le] at hl <;> try cases hl
    rename_i i
    have e : i = j := Nat.eq_of_beq_eq_true hl
    subst e
    exact ⟨h.1, by rw [W.H1]; exact h.2⟩
  | iv lo' hi' nd' o' =>
    cases g <;> simp only [Tag.le] at hl <;> try cases hl
    rename_i lo hi nd o
    obtain ⟨k1, k2, k3, k4⟩ := tag_le_iv hl
    exact ⟨IvOk.wk W h.1 hfp k1 k2 k3, OwnOk.wk W h.2 k4⟩
theorem OwnTag.wk {es : Nat} {a : Option Addr} {len cap : Nat} {g g' : Tag} (h : OwnTag C γ w es a len cap g) (hl : g.le g' = true) : OwnTag C γ' w es a len cap g' := by
  cases g' with
  | any => trivial
  | el lo hi nd => trivial
  | arg j =>
    cases g <;> simp only [Tag.le] at hl <;> try cases hl
    rename_i i
    have e : i = j := Nat.eq_of_beq_eq_true hl
    subst e
    exact h
  | iv lo' hi' nd' o' =>
    cases g <;> simp only [Tag.le] at hl <;> try cases hl
    exact OwnOk.wk W h (tag_le_iv hl).2.2.2
theorem RelS.wk {u u' : AV} {v : Value} (h : RelS C γ now w u v) (hl : wk1 u u') : RelS C γ' 2 w u' v := by
  cases u' <;> first | trivial | skip
  all_goals (cases u <;> simp only [wk1] at hl <;> first | exact hl.elim | skip)
  · obtain ⟨rfl, rfl⟩ := hl; exact h
  · subst hl; exact h
  · subst hl; exact h
  · obtain ⟨rfl, hl⟩ := hl
    obtain ⟨a, cap, fp, h1, h2, h3, h4⟩ := h
    exact ⟨a, cap, fp, h1, h2, by rw [W.lim]; exact h3, TagOk.wk W h4 h3.lt hl⟩
  · obtain ⟨rfl, rfl, hl⟩ := hl
    obtain ⟨a, cap, h1, h2, h3, h4⟩ := h
    exact ⟨a, cap, h1, h2, by rw [W.lim]; exact h3, OwnTag.wk W h4 hl⟩
  · subst hl
    obtain ⟨a, cap, h1, h2, h3⟩ := h
    exact ⟨a, cap, h1, h2, by rw [W.lim]; exact h3⟩
  · exact h
  · exact h
  · subst hl; show v = .pointer (some ⟨γ'.loc _, 0, none⟩); rw [W.loc]; exact h
  · subst hl; exact h
  · obtain ⟨rfl, rfl⟩ := hl; show v = .pointer (some ⟨γ'.loc _, _, none⟩); rw [W.loc]; exact h
  · obtain ⟨rfl, rfl⟩ := hl; exact h
  · obtain ⟨rfl, rfl⟩ := hl
    obtain ⟨vs, h1, h2⟩ := h
    refine ⟨vs, h1, h2.mono fun a b hab => ?_⟩
    cases a <;> simp only [PtrV] at hab ⊢ <;> first | exact hab | (rw [W.loc]; exact hab)
theorem RelSL.wk : ∀ {fs gs : List AV} {cs : List Value}, All2 (RelS C γ now w) fs cs → wk1L fs gs → All2 (RelS C γ' 2 w) gs cs
  | [], [], [], _, _ => trivial
  | [], _ :: _, _, _, h => h.elim
  | _ :: _, [], _, _, h => h.elim
  | [], [], _ :: _, h, _ => h.elim
  | _ :: _, _ :: _, [], h, _ => h.elim
  | _ :: _, _ :: _, _ :: _, ⟨h1, h2⟩, ⟨k1, k2⟩ => ⟨RelS.wk W h1 k1, RelSL.wk h2 k2⟩
theorem Rel2.wk {u u' : AV} {v : Value} (h : Rel2 C γ now w u v) (hl : wk2 u u') : Rel2 C γ' 2 w u' v := by
  rcases wk2_cases hl with ⟨fs, gs, rfl, rfl, hl⟩ | rfl | ⟨h1, h2, hl⟩
  · obtain ⟨cs, k1, k2⟩ := h; exact ⟨cs, k1, RelSL.wk W k2 hl⟩
  · trivial
  · rw [Rel2_eq h2]; rw [Rel2_eq h1] at h; exact RelS.wk W h hl
theorem Rel2L.wk : ∀ {fs gs : List AV} {cs : List Value}, All2 (Rel2 C γ now w) fs cs → wk2L fs gs → All2 (Rel2 C γ' 2 w) gs cs
  | [], [], [], _, _ => trivial
  | [], _ :: _, _, _, h => h.elim
  | _ :: _, [], _, _, h => h.elim
  | [], [], _ :: _, h, _ => h.elim
  | _ :: _, _ :: _, [], h, _ => h.elim
  | _ :: _, _ :: _, _ :: _, ⟨h1, h2⟩, ⟨k1, k2⟩ => ⟨Rel2.wk W h1 k1, Rel2L.wk h2 k2⟩
theorem Rel3.wk {u u' : AV} {v : Value} (h : Rel3 C γ now w u v) (hl : wk3 u u') : Rel3 C γ' 2 w u' v := by
  rcases wk3_cases hl with ⟨fs, gs, rfl, rfl, hl⟩ | rfl | ⟨x, rfl⟩ | ⟨h1, h2, hl⟩
  · obtain ⟨cs, k1, k2⟩ := h; exact ⟨cs, k1, Rel2L.wk W k2 hl⟩
  · trivial
  · exact (show False from h).elim
  · rw [Rel3_eq h2]; rw [Rel3_eq h1] at h; exact Rel2.wk W h hl
theorem FlatR.wk {u u' : AV} {cs : List Value} (h : FlatR C γ now w u cs) (hl : wkF u u') : FlatR C γ' 2 w u' cs := by
  cases u with
  | st fs => cases u' <;> first | exact hl.elim | exact RelSL.wk W h hl
  | _ =>
    have hu' : ∀ fs, u' ≠ .st fs := fun fs e => by subst e; exact hl.elim
    rw [FlatR_eq (by nofun)] at h
    rw [FlatR_eq hu']
    obtain ⟨v, h1, h2⟩ := h
    exact ⟨v, h1, RelS.wk W h2 hl⟩
theorem VarR.wk {b : Nat} {u u' : AV} (h : VarR C γ now w b u) (hl : wkF u u') : VarR C γ' 2 w b u' := by
  obtain ⟨cs, ty, h1, h2⟩ := h
  exact ⟨cs, ty, h1, FlatR.wk W h2 hl⟩
end
theorem wkFL_get : ∀ {l l' : List AV}, wkFL l l' → ∀ (i : Nat) u', l'[i]? = some u' → ∃ u, l[i]? = some u ∧ wkF u u'
  | [], [], _, i, u', h => by simp at h
  | [], _ :: _, h, _, _, _ => h.elim
  | _ :: _, [], h, _, _, _ => h.elim
  | a :: l, a' :: l', ⟨h1, _⟩, 0, u', h => by simp at h; subst h; exact ⟨a, rfl, h1⟩
  | _ :: l, _ :: l', ⟨_, h2⟩, i + 1, u', h => by simpa using wkFL_get h2 i u' (by simpa using h)
theorem wkFL_length : ∀ {l l' : List AV}, wkFL l l' → l.length = l'.length
  | [], [], _ => rfl
  | [], _ :: _, h => h.elim
  | _ :: _, [], h => h.elim
  | _ :: l, _ :: l', ⟨_, h2⟩ => by simp [wkFL_length h2]
theorem lk_cases {f : Nat → AV} : ∀ {l : List (Nat × AV)} (i : Nat), subL f l → lk l i = .top ∨ wk3 (f i) (lk l i)
  | [], i, _ => .inl rfl
  | (j, v) :: r, i, ⟨h1, h2⟩ => by
    simp only [lk]
    cases hb : Nat.beq i j with
    | true => have e : i = j := Nat.eq_of_beq_eq_true hb; subst e; exact .inr h1
    | false => exact lk_cases i h2
theorem wk3_top {u : AV} (h : wk3 .top u) : u = .top := by cases u <;> first | rfl | exact h.elim
theorem wkF_of_wk3 {C : Fr} {γ : Gh} {now : Nat} {w : World} {b : Nat} {u u' : AV} (hv : VarR C γ now w b u) (h : wk3 u u') (hu : u' ≠ .top) : wkF u u' := by
  obtain ⟨cs, ty, _, hf⟩ := hv
  cases u with
  | tup fs => obtain ⟨v, _, h⟩ := hf; exact h.elim
  | newp fs => obtain ⟨v, _, h⟩ := hf; exact h.elim
  | st fs => cases u' <;> first | exact absurd rfl hu | exact h
  | _ => cases u' <;> first | exact absurd rfl hu | exact h.elim | exact h

section
variable {P : Program} {C : Fr} {n : Nat} {TY : Nat → TyI} {G : List (Nat × Con)}
def Gh.low (γ : Gh) : Gh := { γ with H := fun e => if e < 2 then γ.H e else 0 }
theorem Rel.wk {s : AS} {γ : Gh} {a : Act} {w : World} (R : Rel C n γ s a w) : Wk γ s.now γ.low :=
  { lim := rfl, loc := rfl, ow := rfl, H0 := ⟨R.H0, R.H0⟩, H1 := rfl, mono := R.Hmono, two := R.two }
theorem Rel.sub {s : AS} {γ : Gh} {a : Act} {w : World} (R : Rel C n γ s a w) {tl hl : List (Nat × AV)} {fh : List AV} (h : subS s tl hl fh) : Rel C n γ.low (ofL tl hl fh) a w := by
  obtain ⟨h1, h2, h3⟩ := h
  have W := R.wk
  have hh : ∀ i, lk hl i ≠ .top → wk3 (s.h i) (lk hl i) ∧ s.h i ≠ .top := fun i hi => by
    have := (lk_cases i h2).resolve_left hi
    exact ⟨this, fun e => hi (by rw [e] at this; exact wk3_top this)⟩
  have h2n := R.two
  refine { R with t := fun i => ?_, h := fun i hi => ?_, inj := fun i j hi hj e => R.inj i j (hh i hi).2 (hh j hj).2 e, fl := by rw [← R.fl]; exact (wkFL_length h3).symm, f := fun i u hu => ?_, two := Nat.le_refl _, Hle := fun e he => ?_, Hmono := fun e e' h he => ?_, H0 := R.H0, H1 := R.H1 }
  · show Rel3 C γ.low 2 w (lk tl i) _
    rcases lk_cases i h1 with e | e
    · rw [e]; trivial
    · exact Rel3.wk W (R.t i) e
  · obtain ⟨k1, k2⟩ := hh i hi
    obtain ⟨g1, g2⟩ := R.h i k2
    exact ⟨VarR.wk W g1 (wkF_of_wk3 g1 k1 hi), g2⟩
  · obtain ⟨u0, k1, k2⟩ := wkFL_get h3 i u hu
    obtain ⟨g1, g2⟩ := R.f i u0 k1
    exact ⟨VarR.wk W g1 k2, g2⟩
  · have he : e < 2 := he
    show (if e < 2 then γ.H e else 0) ≤ _
    rw [if_pos he]; exact R.Hle e (by omega)
  · have he : e' < 2 := he
    show (if e < 2 then γ.H e else 0) ≤ (if e' < 2 then γ.H e' else 0)
    rw [if_pos he, if_pos (by omega)]; exact R.Hmono e e' h (by omega)

def Ex.toExit : Ex → Exit
  | .normal => .normal
  | .exit i => .exit i
  | .ret => .ret

theorem code_wp (hm : P.follows .mixedOrders = true) (hG : ∀ p ∈ G, Sound P p.1 p.2) (hT : TyOk P TY) : ∀ (c : Code) (Q' : Ex → AS → Prop) (Q : Exit → Act → World → Prop),
    (∀ e s' γ' a' w', Q' e s' → Rel C n γ' s' a' w' → Q e.toExit a' w') → ∀ (s : AS) (γ : Gh) (a : Act) (w : World), awp G TY n c Q' s → Rel C n γ s a w → c.wp P Q a w := by
  intro c
  induction c with
  | skip => exact fun Q' Q hq s γ a w h R => wp_skip (hq .normal _ _ _ _ h R)
  | label l => exact fun Q' Q hq s γ a w h R => wp_label (hq .normal _ _ _ _ h R)
  | exit id => exact fun Q' Q hq s γ a w h R => wp_exit (hq (.exit id) _ _ _ _ h R)
  | ret => exact fun Q' Q hq s γ a w h R => wp_ret (hq .ret _ _ _ _ h R)
  | seq x y ihx ihy =>
    intro Q' Q hq s γ a w h R
    refine wp_seq (ihx _ _ (fun e s' γ' a' w' h' R' => ?_) s γ a w h R)
    cases e with
    | normal => exact ihy _ _ hq s' γ' a' w' h' R'
    | exit i => exact hq (.exit i) _ _ _ _ h' R'
    | ret => exact hq .ret _ _ _ _ h' R'
  | region id ops dr =>
    intro Q' Q hq s γ a w h R
    cases dr with
    | false => exact region_wp hG hT (fun s' γ' a' w' h' R' => hq .normal _ _ _ _ h' R') R h
    | true => exact draw_wp hm hG hT (fun s' γ' a' w' h' R' => hq .normal _ _ _ _ h' R') R h
  | cond x p q ihp ihq =>
    intro Q' Q hq s γ a w h R
    simp only [awp] at h
    split at h
    case h_2 => exact h.elim
    rename_i t ht
    exact wp_cond_split (rel_bool (R.get x) ht) (fun e => ihp _ _ hq s γ a w (h.1 e) R) (fun e => ihq _ _ hq s γ a w (h.2 e) R)
  | block id x ih =>
    intro Q' Q hq s γ a w h R
    refine wp_block (ih _ _ (fun e s' γ' a' w' h' R' => ?_) s γ a w h R)
    cases e with
    | normal => exact hq .normal _ _ _ _ h' R'
    | ret => exact hq .ret _ _ _ _ h' R'
    | exit i =>
      show (if i = id then Q .normal a' w' else Q (.exit i) a' w')
      simp only at h'
      split at h'
      · rename_i hb
        rw [if_pos (Nat.eq_of_beq_eq_true hb)]
        exact hq .normal _ _ _ _ h' R'
      · rename_i hb
        rw [if_neg (by intro e; subst e; simp at hb)]
        exact hq (.exit i) _ _ _ _ h' R'
  | loop x ih =>
    intro Q' Q hq s γ a w h R
    obtain ⟨ι, tl, hl, fh, μ, x0, h0, hr⟩ := h
    refine wp_loop_ghost (fun k a w => ∃ y γ, μ y = k ∧ Rel C n γ (ofL (tl y) (hl y) (fh y)) a w) (μ x0) ⟨x0, _, rfl, R.sub h0⟩ ?_
    rintro k a w ⟨y, γ, rfl, R⟩
    refine ih _ _ (fun e s' γ' a' w' h' R' => ?_) _ γ a w (hr y) R
    cases e with
    | normal =>
      obtain ⟨z, k1, k2⟩ := h'
      exact ⟨μ z, k2, z, _, rfl, R'.sub k1⟩
    | exit i => exact hq (.exit i) _ _ _ _ h' R'
    | ret => exact hq .ret _ _ _ _ h' R'
  | _ => exact fun Q' Q hq s γ a w h R => (show False from h).elim
end
end Go.Dk
