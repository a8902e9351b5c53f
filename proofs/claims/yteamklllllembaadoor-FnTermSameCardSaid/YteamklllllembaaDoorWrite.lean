/- Writes into a slice's own elements. -/
import Derived.Test.YteamklllllembaaDoorOps2
import Derived.Laws.CopyRow
namespace Go.Dk

/-- Some blocks' cells have changed. -/
structure WStep (γ : Gh) (now : Nat) (w : World) (γ' : Gh) (now' : Nat) (w' : World) (B : Nat → Prop) : Prop where
  lim : γ'.lim = γ.lim
  loc : γ'.loc = γ.loc
  ow : γ'.ow = γ.ow
  vid : γ'.vid = γ.vid
  other : ∀ b, ¬ B b → w'.heap[b]? = w.heap[b]?
  self : ∀ b, B b → ∃ c c' ty, w.heap[b]? = some (.cells c ty (0, 0)) ∧ w'.heap[b]? = some (.cells c' ty (0, 0)) ∧ c'.size = c.size
  pos : ∀ b, B b → 0 < γ.lim b
  size : w'.heap.size = w.heap.size
  two : 3 ≤ now
  le : now ≤ now'
  Hlt : ∀ e, e < now → γ'.H e = γ.H e
  Hge : ∀ e, now ≤ e → e < now' → γ'.H e = w.heap.size
  os : w'.os = w.os
  tape : w'.tape = w.tape
  output : w'.output = w.output

section
set_option linter.unusedSectionVars false
variable {lim : Nat → Nat} {w w' : World} {B : Nat → Prop} (ho : ∀ b, ¬ B b → w'.heap[b]? = w.heap[b]?)
include ho
mutual
theorem TAt.wstep : ∀ (t : T) (b off : Nat) (fp : List Nat), TAt lim w t b off fp → ¬ B b → (∀ x ∈ fp, ¬ B x) → TAt lim w' t b off fp
  | .mk k n ts, b, off, fp, ⟨h0, h1, h2, a, cap, h3, h4, h5⟩, hb, hf => by
    refine ⟨h0, by rw [cell_block (ho b hb)]; exact h1, by rw [cell_block (ho b hb)]; exact h2, a, cap, by rw [cell_block (ho b hb)]; exact h3, h4, ?_⟩
    rcases h5 with h5 | ⟨b', off', fp', h6, h7, h8, h9⟩
    · exact .inl h5
    · subst h8
      exact .inr ⟨b', off', fp', h6, h7, rfl, Arr.wstep ts b' off' fp' h9 (hf b' (by simp)) fun x hx => hf x (by simp [hx])⟩
theorem Arr.wstep : ∀ (ts : List T) (b off : Nat) (fp : List Nat), Arr lim w ts b off fp → ¬ B b → (∀ x ∈ fp, ¬ B x) → Arr lim w' ts b off fp
  | [], _, _, _, h, _, _ => h
  | t :: ts, b, off, _, ⟨f1, f2, h1, h2, h3⟩, hb, hf => by
    subst h1
    exact ⟨f1, f2, rfl, TAt.wstep t b off f1 h2 hb fun x hx => hf x (by simp [hx]), Arr.wstep ts b (off + 3) f2 h3 hb fun x hx => hf x (by simp [hx])⟩
end
theorem Els.wstep {ts : List T} {a : Option Addr} {fp : List Nat} (h : Els lim w ts a fp) (hf : ∀ x ∈ fp, ¬ B x) : Els lim w' ts a fp := by
  rcases h with h | ⟨b, off, fp', h1, h2, h3, h4⟩
  · exact .inl h
  · subst h3
    exact .inr ⟨b, off, fp', h1, h2, rfl, Arr.wstep ho _ _ _ _ h4 (hf b (by simp)) fun x hx => hf x (by simp [hx])⟩
theorem InI.wstep {k : IntKind} {ns : List Int} {a : Option Addr} {fp : List Nat} (h : InI lim w k ns a fp) (hf : ∀ x ∈ fp, ¬ B x) : InI lim w' k ns a fp := by
  rcases h with h | ⟨b, off, h1, h2, h3, h4⟩
  · exact .inl h
  · subst h3
    exact .inr ⟨b, off, h1, h2, rfl, fun j hj => ⟨by rw [cell_block (ho b (hf b (by simp)))]; exact (h4 j hj).1, (h4 j hj).2⟩⟩
end
theorem InI.keep8 {lim : Nat → Nat} {w w' : World} (hk : Keep8 w w') {ns : List Int} {a : Option Addr} {fp : List Nat} (h : InI lim w .u8 ns a fp) : InI lim w' .u8 ns a fp := by
  rcases h with h | ⟨b, off, h1, h2, h3, h4⟩
  · exact .inl h
  · exact .inr ⟨b, off, h1, h2, h3, fun j hj => ⟨hk _ _ _ (h4 j hj).1, (h4 j hj).2⟩⟩

section
set_option linter.unusedSectionVars false
variable {C : Fr} {γ γ' : Gh} {now now' : Nat} {w w' : World} {B : Nat → Prop} (S : WStep γ now w γ' now' w' B)
include S
theorem WStep.cls {e b : Nat} (h : Cls C γ now w e b) : Cls C γ' now' w' e b := by
  have h3 := S.two
  rcases h with ⟨h1, h2, h4⟩ | ⟨h1, h2, h4⟩ | ⟨h0, h1, h2, h4⟩
  · exact .inl ⟨h1, by rw [S.Hlt 2 (by omega)]; exact h2, h4⟩
  · exact .inr (.inl ⟨h1, by rw [S.Hlt 2 (by omega)]; exact h2, h4⟩)
  · refine .inr (.inr ⟨h0, Nat.lt_of_lt_of_le h1 S.le, by rw [S.Hlt e h1]; exact h2, ?_⟩)
    unfold bnd at *
    by_cases hh : e + 1 < now
    · rw [if_pos hh] at h4; rw [if_pos (Nat.lt_of_lt_of_le hh S.le), S.Hlt _ hh]; exact h4
    · rw [if_neg hh] at h4
      by_cases hh' : e + 1 < now'
      · rw [if_pos hh', S.Hge _ (by omega) hh']; exact h4
      · rw [if_neg hh', S.size]; exact h4
theorem WStep.inM {m b : Nat} (h : InM C γ now w m b) : InM C γ' now' w' m b := let ⟨e, h1, h2⟩ := h; ⟨e, h1, S.cls h2⟩
theorem WStep.rt {r m : Nat} {nd : Bool} {fp : List Nat} (h : RtOk C γ now w r m nd fp) : RtOk C γ' now' w' r m nd fp := ⟨fun b hb => S.inM (h.1 b hb), fun b hb => S.inM (h.2.1 b hb), h.2.2⟩
theorem WStep.el {m : Nat} {nd : Bool} {fp : List Nat} (h : ElOk C γ now w m nd fp) : ElOk C γ' now' w' m nd fp := ⟨fun b hb => S.inM (h.1 b hb), h.2⟩
theorem WStep.own {es : Nat} {a : Option Addr} {len cap : Nat} {o : Own} (h : OwnOk γ w es a len cap o) : OwnOk γ' w' es a len cap o := by
  cases o with
  | no => trivial
  | full => exact h
  | tok k =>
    intro hlt
    obtain ⟨h0, b, c, ty, h1, h2, h3, h4, h5⟩ := h hlt
    by_cases hb : B b
    · obtain ⟨c1, c2, ty2, e1, e2, e3⟩ := S.self b hb
      rw [e1] at h3
      cases h3
      exact ⟨h0, b, c2, _, h1, by rw [S.ow]; exact h2, e2, by rw [e3]; exact h4, by rw [S.lim]; exact h5⟩
    · exact ⟨h0, b, c, ty, h1, by rw [S.ow]; exact h2, by rw [S.other b hb]; exact h3, h4, by rw [S.lim]; exact h5⟩
  | id k =>
    refine ⟨by rw [S.vid]; exact h.1, fun hlt => ?_⟩
    obtain ⟨h0, b, c, ty, h1, h2, h3, h4, h5⟩ := h.2 hlt
    by_cases hb : B b
    · obtain ⟨c1, c2, ty2, e1, e2, e3⟩ := S.self b hb
      rw [e1] at h3
      cases h3
      exact ⟨h0, b, c2, _, h1, by rw [S.ow]; exact h2, e2, by rw [e3]; exact h4, by rw [S.lim]; exact h5⟩
    · exact ⟨h0, b, c, ty, h1, by rw [S.ow]; exact h2, by rw [S.other b hb]; exact h3, h4, by rw [S.lim]; exact h5⟩
theorem WStep.tag {es : Nat} {a : Option Addr} {len cap : Nat} {fp : List Nat} {g : Tag} (h : TagOk C γ now w es a len cap fp g) : TagOk C γ' now' w' es a len cap fp g := by
  cases g with
  | any => trivial
  | iv r m nd o => exact ⟨S.rt h.1, S.own h.2⟩
  | el m nd o => exact ⟨S.el h.1, S.own h.2⟩
  | arg i => exact ⟨h.1, fun b hb => S.inM (h.2 b hb)⟩

variable {d W : Nat} {nv : AV} (hW : noBits W 3 = true) (hH : ∀ e e', e ≤ e' → e' < now → γ.H e ≤ γ.H e')
  (hB : ∀ b, B b → InM C γ now w W b) (hnv : RelS C γ' now' w' nv (γ.vid d)) (h8 : ∀ us h, nv = .slc us h → Keep8 w w')
include hW hH hB
theorem WStep.dj {es : Nat} {a : Option Addr} {len cap : Nat} {fp : List Nat} {g : Tag} (h : TagOk C γ now w es a len cap fp g) (hg : g.dj W = true) : ∀ x ∈ fp, ¬ B x := by
  intro x hx hbx
  have h1 := hB x hbx
  cases g with
  | any => cases hg
  | el => cases hg
  | arg i =>
    have h2 : InM C γ now w 3 x := by
      have e : (3 : Nat) = Nat.lor 1 2 := rfl
      rw [e]; exact InM.or.2 (.inr (h.2 x hx))
    exact InM.disj hH hW h1 h2
  | iv r m nd o => exact InM.disj hH hg (h.1.all.1 x hx) h1
include hnv h8
theorem WStep.relS {u : AV} {v : Value} (h : RelS C γ now w u v) : RelS C γ' now' w' (u.ws1 d W nv) v := by
  cases u <;> first | (simp only [AV.ws1]; first | exact h | trivial) | skip
  · rename_i ts g
    obtain ⟨a, cap, fp, h1, h2, h3, h4⟩ := h
    simp only [AV.ws1]
    split
    · rename_i ht
      split
      · rename_i us h'
        cases g with
        | iv lo' hi' nd o =>
          cases o with
          | id k =>
            have e : k = d := Nat.eq_of_beq_eq_true ht
            subst e
            have := h4.2.1
            rw [h1, ← this]; exact hnv
          | _ => cases ht
        | _ => cases ht
      · trivial
    · split
      · rename_i hd
        exact ⟨a, cap, fp, h1, h2, by rw [S.lim]; exact h3.wstep S.other (S.dj hW hH hB h4 hd), S.tag h4⟩
      · trivial
  · rename_i k ns g
    obtain ⟨a, cap, fp, h1, h2, h3, h4⟩ := h
    simp only [AV.ws1]
    split
    · rename_i ht
      split
      · rename_i us h'
        cases g with
        | iv lo' hi' nd o =>
          cases o with
          | id k =>
            have e : k = d := Nat.eq_of_beq_eq_true ht
            subst e
            have := h4.2.1
            rw [h1, ← this]; exact hnv
          | _ => cases ht
        | _ => cases ht
      · trivial
    · split
      · rename_i hd
        exact ⟨a, cap, fp, h1, h2, by rw [S.lim]; exact h3.wstep S.other (S.dj hW hH hB h4 hd), S.tag h4⟩
      · split
        · split
          · exact ⟨a, cap, fp, h1, h2, by rw [S.lim]; exact h3.keep8 (h8 _ _ rfl), S.tag h4⟩
          · trivial
        · trivial
  · rename_i i
    show v = .pointer (some ⟨γ'.loc i, 0, none⟩)
    rw [S.loc]; exact h
  · rename_i i j
    show v = .pointer (some ⟨γ'.loc i, j, none⟩)
    rw [S.loc]; exact h
  · obtain ⟨vs, h1, h2⟩ := h
    refine ⟨vs, h1, h2.mono fun a b hab => ?_⟩
    cases a <;> simp only [PtrV] at hab ⊢ <;> first | exact hab | (rw [S.loc]; exact hab)
theorem WStep.relSL : ∀ {fs : List AV} {cs : List Value}, All2 (RelS C γ now w) fs cs → All2 (RelS C γ' now' w') (ws1L d W nv fs) cs
  | [], [], _ => trivial
  | _ :: _, _ :: _, ⟨h1, h2⟩ => ⟨S.relS hW hH hB hnv h8 h1, WStep.relSL h2⟩
end
theorem ws1_ne_st {d W : Nat} {nv : AV} {u : AV} (hu : ∀ fs, u ≠ .st fs) : ∀ fs, u.ws1 d W nv ≠ .st fs := by
  intro fs h
  cases u <;> simp only [AV.ws1] at h <;> first | exact hu _ h | cases h | (split at h <;> split at h <;> first | cases h | (split at h <;> first | cases h | (split at h <;> cases h)))
theorem ws2_ne_tup {d W : Nat} {nv : AV} {u : AV} (hu : ∀ fs, u ≠ .tup fs) : ∀ fs, u.ws2 d W nv ≠ .tup fs := by
  intro fs h
  cases u <;> simp only [AV.ws2, AV.ws1] at h <;> first | exact hu _ h | cases h | (split at h <;> split at h <;> first | cases h | (split at h <;> first | cases h | (split at h <;> cases h)))
theorem ws2_eq {d W : Nat} {nv : AV} {u : AV} (hu : ∀ fs, u ≠ .st fs) : u.ws2 d W nv = u.ws1 d W nv := by
  cases u <;> first | rfl | exact absurd rfl (hu _)
theorem ws_eq {d W : Nat} {nv : AV} {u : AV} (hu : ∀ fs, u ≠ .tup fs) : u.ws d W nv = u.ws2 d W nv := by
  cases u <;> first | rfl | exact absurd rfl (hu _)
theorem wsL_get {d W : Nat} {nv : AV} : ∀ (l : List AV) (i : Nat), (wsL d W nv l)[i]? = (l[i]?).map (·.ws d W nv)
  | [], i => by simp [wsL]
  | v :: r, 0 => by simp [wsL]
  | v :: r, i + 1 => by simpa [wsL] using wsL_get r i
theorem wsL_length {d W : Nat} {nv : AV} : ∀ (l : List AV), (wsL d W nv l).length = l.length
  | [] => rfl
  | v :: r => by simp [wsL, wsL_length r]
theorem ne_top_of_ws {d W : Nat} {nv : AV} {u : AV} (h : u.ws d W nv ≠ .top) : u ≠ .top := fun e => h (by rw [e])

section
set_option linter.unusedSectionVars false
variable {C : Fr} {γ γ' : Gh} {now now' : Nat} {w w' : World} {B : Nat → Prop} (S : WStep γ now w γ' now' w' B)
variable {d W : Nat} {nv : AV} (hW : noBits W 3 = true) (hH : ∀ e e', e ≤ e' → e' < now → γ.H e ≤ γ.H e')
  (hB : ∀ b, B b → InM C γ now w W b) (hnv : RelS C γ' now' w' nv (γ.vid d)) (h8 : ∀ us h, nv = .slc us h → Keep8 w w')
include S hW hH hB hnv h8 h8
theorem WStep.rel2 {u : AV} {v : Value} (h : Rel2 C γ now w u v) : Rel2 C γ' now' w' (u.ws2 d W nv) v := by
  by_cases hu : ∃ fs, u = .st fs
  · obtain ⟨fs, rfl⟩ := hu; obtain ⟨cs, h1, h2⟩ := h; exact ⟨cs, h1, S.relSL hW hH hB hnv h8 h2⟩
  · have hu : ∀ fs, u ≠ .st fs := fun fs e => hu ⟨fs, e⟩
    rw [ws2_eq hu, Rel2_eq (ws1_ne_st hu)]; rw [Rel2_eq hu] at h; exact S.relS hW hH hB hnv h8 h
theorem WStep.rel2L : ∀ {fs : List AV} {cs : List Value}, All2 (Rel2 C γ now w) fs cs → All2 (Rel2 C γ' now' w') (ws2L d W nv fs) cs
  | [], [], _ => trivial
  | _ :: _, _ :: _, ⟨h1, h2⟩ => ⟨S.rel2 hW hH hB hnv h8 h1, WStep.rel2L h2⟩
theorem WStep.rel3 {u : AV} {v : Value} (h : Rel3 C γ now w u v) : Rel3 C γ' now' w' (u.ws d W nv) v := by
  by_cases hu : ∃ fs, u = .tup fs
  · obtain ⟨fs, rfl⟩ := hu; obtain ⟨cs, h1, h2⟩ := h; exact ⟨cs, h1, S.rel2L hW hH hB hnv h8 h2⟩
  · have hu : ∀ fs, u ≠ .tup fs := fun fs e => hu ⟨fs, e⟩
    rw [ws_eq hu, Rel3_eq (ws2_ne_tup hu)]; rw [Rel3_eq hu] at h; exact S.rel2 hW hH hB hnv h8 h
theorem WStep.flat {u : AV} {cs : List Value} (h : FlatR C γ now w u cs) : FlatR C γ' now' w' (u.ws d W nv) cs := by
  by_cases hu : ∃ fs, u = .st fs
  · obtain ⟨fs, rfl⟩ := hu; exact S.relSL hW hH hB hnv h8 h
  · have hu : ∀ fs, u ≠ .st fs := fun fs e => hu ⟨fs, e⟩
    rw [FlatR_eq hu] at h
    obtain ⟨v, h1, h2⟩ := h
    have ht : ∀ fs, u ≠ .tup fs := fun fs e => by subst e; exact h2
    rw [ws_eq ht, ws2_eq hu, FlatR_eq (ws1_ne_st hu)]
    exact ⟨v, h1, S.relS hW hH hB hnv h8 h2⟩
theorem WStep.var {b : Nat} {u : AV} (h : VarR C γ now w b u) (hb : γ.lim b = 0) : VarR C γ' now' w' b (u.ws d W nv) := by
  obtain ⟨cs, ty, h1, h2⟩ := h
  exact ⟨cs, ty, by rw [S.other b fun hB => by have := S.pos b hB; omega]; exact h1, S.flat hW hH hB hnv h8 h2⟩
end

section
variable {P : Program} {C : Fr} {n : Nat} {γ : Gh} {s : AS} {a : Act} {w : World}
theorem Rel.write (R : Rel C n γ s a w) {γ' : Gh} {now' : Nat} {w' : World} {B : Nat → Prop} (S : WStep γ s.now w γ' now' w' B) {d W : Nat} {nv : AV} (hW : noBits W 3 = true)
    (hB : ∀ b, B b → InM C γ s.now w W b) (hnv : RelS C γ' now' w' nv (γ.vid d)) (h8 : ∀ us h, nv = .slc us h → Keep8 w w') :
    Rel C n γ' ⟨fun j => (s.t j).ws d W nv, fun j => (s.h j).ws d W nv, wsL d W nv s.fh, now'⟩ a w' := by
  have h2 := R.two
  have hle := S.le
  have old : ∀ b, b < C.w0.heap.size → ¬ B b := fun b hb hb' => by
    refine InM.disj R.Hmono hW (hB b hb') ?_
    have e : (3 : Nat) = Nat.lor (bit 0) (bit 1) := rfl
    rw [e]
    rw [← R.H2] at hb
    by_cases ha : C.am b
    · exact InM.or.2 (.inr (InM.bit (.inr (.inl ⟨rfl, hb, ha⟩))))
    · exact InM.or.2 (.inl (InM.bit (.inl ⟨rfl, hb, ha⟩)))
  exact
    { tn := R.tn
      t := fun i => S.rel3 hW R.Hmono hB hnv h8 (R.t i)
      d := R.d
      h := fun i hi => by
        obtain ⟨h1, h3, h4, h5⟩ := R.h i (ne_top_of_ws hi)
        show VarR C γ' now' w' (γ'.loc i) _ ∧ _
        rw [S.loc, S.lim, S.ow]
        exact ⟨S.var hW R.Hmono hB hnv h8 h1 h4, h3, h4, h5⟩
      inj := fun i j hi hj e => R.inj i j (ne_top_of_ws hi) (ne_top_of_ws hj) (by rw [S.loc] at e; exact e)
      fl := by show (wsL d W nv s.fh).length = _; rw [wsL_length]; exact R.fl
      f := fun i v hv => by
        rw [wsL_get] at hv
        cases hf : s.fh[i]? with
        | none => simp [hf] at hv
        | some u =>
          simp [hf] at hv
          obtain ⟨h1, h3, h4⟩ := R.f i u hf
          rw [← hv, S.lim]
          exact ⟨S.var hW R.Hmono hB hnv h8 h1 h3, h3, h4⟩
      finj := R.finj
      two := Nat.le_trans h2 hle
      H2 := by rw [S.Hlt 2 (by omega)]; exact R.H2
      plain := fun b h3 h4 h5 => by
        by_cases hb : B b
        · obtain ⟨c, c', ty, e1, e2, e3⟩ := S.self b hb
          exact ⟨c', ty, e2⟩
        · rw [S.size] at h4; exact (R.plain b h3 h4 (by rw [S.lim] at h5; exact h5)).of (S.other b hb)
      Hle := fun e he => by
        rw [S.size]
        by_cases hlt : e < s.now
        · rw [S.Hlt e hlt]; exact R.Hle e hlt
        · rw [S.Hge e (by omega) he]; exact Nat.le_refl _
      Hmono := fun e e' hee he => by
        have he : e' < now' := he
        by_cases hlt' : e' < s.now
        · rw [S.Hlt e (by omega), S.Hlt e' hlt']; exact R.Hmono e e' hee hlt'
        · rw [S.Hge e' (by omega) he]
          by_cases hlt : e < s.now
          · rw [S.Hlt e hlt]; exact R.Hle e hlt
          · rw [S.Hge e (by omega) (by omega)]; exact Nat.le_refl _
      lim0 := fun b hb => by rw [S.lim]; exact R.lim0 b hb
      limz := fun b hb => by rw [S.lim]; exact R.limz b (by rw [← S.size]; exact hb)
      ow := fun b k hb => by rw [S.size]; exact R.ow b k (by rw [← S.ow]; exact hb)
      kept := ⟨S.os.trans R.kept.os, S.tape.trans R.kept.tape, S.output.trans R.kept.output, by rw [S.size]; exact R.kept.size, fun b hb hf => by rw [S.other b (old b hb)]; exact R.kept.block b hb hf⟩ }
end
end Go.Dk
