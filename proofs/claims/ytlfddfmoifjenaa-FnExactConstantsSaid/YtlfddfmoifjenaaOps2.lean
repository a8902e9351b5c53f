/- Loads, stores, addresses, variables. -/
import Derived.Test.YtlfddfmoifjenaaOps
namespace Go.Dk
section
variable {P : Program} {C : Fr} {n : Nat} {γ : Gh} {s : AS} {a : Act} {w : World} {TY : Nat → TyI} {G : List (Nat × Con)} {dr : Bool} {o : Oper} {K : AV → AS → Prop}

theorem relS_of_relE {now : Nat} {u : AV} {v : Value} (h : RelE C γ now w u v) : RelS C γ now w u v := by
  cases u <;> first | exact h | exact h.elim
theorem shape_not_top {k : TyK} (h : shape k .top = true) : False := by
  rcases shape_cases h with ⟨zs, fs, _, e, _⟩ | ⟨z, _, e⟩ <;> cases e

def PlaceR (C : Fr) (γ : Gh) (now : Nat) (w : World) (u : AV) (b off : Nat) : Prop :=
  ∃ cs, FlatR C γ now w u cs ∧ ∀ (j : Nat) v, cs[j]? = some v → w.cell? ⟨b, off + j, none⟩ = some v
theorem VarR.place {now b : Nat} {u : AV} (h : VarR C γ now w b u) : PlaceR C γ now w u b 0 := by
  obtain ⟨cs, ty, h1, h2⟩ := h
  exact ⟨cs, h2, fun j v hv => by rw [Nat.zero_add, cell_of_row w b j _ ty _ h1]; simpa using hv⟩
theorem getD_some {l : List AV} {j : Nat} {u : AV} (h : l.getD j .top = u) (hu : u ≠ .top) : l[j]? = some u := by
  rw [List.getD_eq_getElem?_getD] at h
  cases hj : l[j]? with
  | none => rw [hj] at h; exact absurd h.symm hu
  | some x => rw [hj] at h; simp at h; rw [h]
theorem PlaceR.fld {now b : Nat} {fs : List AV} {j : Nat} (h : PlaceR C γ now w (.st fs) b 0) {k : TyK} (hs : shape k (fs.getD j .top) = true) : PlaceR C γ now w (fs.getD j .top) b j := by
  obtain ⟨cs, h1, h2⟩ := h
  have h1 : All2 (RelS C γ now w) fs cs := h1
  have hne : fs.getD j .top ≠ .top := fun e => by rw [e] at hs; exact shape_not_top hs
  obtain ⟨v, hv, hr⟩ := h1.get j _ (getD_some rfl hne)
  have hf : flat (fs.getD j .top) = true := by
    rcases shape_cases hs with ⟨zs, gs, _, e, _⟩ | ⟨z, _, e⟩
    · rw [e] at hr; exact hr.elim
    · exact e
  refine ⟨[v], by rw [flatR_flat hf]; exact ⟨v, rfl, hr⟩, fun i u hu => ?_⟩
  cases i with
  | zero => simp at hu; subst hu; have := h2 j v hv; simpa using this
  | succ i => simp at hu
theorem cel_place {now b off : Nat} {u : AV} (h : CelR C γ now w u b off) {k : TyK} (hs : shape k u = true) : PlaceR C γ now w u b off := by
  rcases shape_cases hs with ⟨zs, fs, _, rfl, hl⟩ | ⟨z, _, hf⟩
  · have h : ∀ j, j < fs.length → ∃ v, w.cell? ⟨b, off + j, none⟩ = some v ∧ off + j < γ.lim b ∧ RelE C γ now w (fs.getD j .top) v := h
    clear hl hs
    have key : ∀ (gs : List AV) (o : Nat), (∀ j, j < gs.length → ∃ v, w.cell? ⟨b, o + j, none⟩ = some v ∧ RelE C γ now w (gs.getD j .top) v) →
        ∃ cs, All2 (RelS C γ now w) gs cs ∧ ∀ (j : Nat) v, cs[j]? = some v → w.cell? ⟨b, o + j, none⟩ = some v := by
      intro gs
      induction gs with
      | nil => intro o _; exact ⟨[], trivial, fun j v hv => by simp at hv⟩
      | cons g gs ih =>
        intro o hg
        obtain ⟨cs, h1, h2⟩ := ih (o + 1) fun j hj => by
          obtain ⟨v, hv, hr⟩ := hg (j + 1) (by simp; omega)
          exact ⟨v, by rw [← hv]; congr 2; omega, by simpa using hr⟩
        obtain ⟨v, hv, hr⟩ := hg 0 (by simp)
        refine ⟨v :: cs, ⟨relS_of_relE (by simpa using hr), h1⟩, fun j u hu => ?_⟩
        cases j with
        | zero => simp at hu; subst hu; simpa using hv
        | succ j => have := h2 j u (by simpa using hu); rw [← this]; congr 2; omega
    exact key fs off fun j hj => let ⟨v, h1, _, h2⟩ := h j hj; ⟨v, h1, h2⟩
  · have h : ∃ v, w.cell? ⟨b, off, none⟩ = some v ∧ off < γ.lim b ∧ RelE C γ now w u v := by cases u <;> first | exact h | cases hf
    obtain ⟨v, h1, _, h2⟩ := h
    refine ⟨[v], by rw [flatR_flat hf]; exact ⟨v, rfl, relS_of_relE h2⟩, fun j x hx => ?_⟩
    cases j with
    | zero => simp at hx; subst hx; simpa using h1
    | succ j => simp at hx

theorem deref_ok (R : Rel C n γ s a w) {p : AV} {v : Value} (hp : Rel3 C γ s.now w p v) {K' : AV → Prop} (h : deref s p K') :
    ∃ u b off, K' u ∧ v = .pointer (some ⟨b, off, none⟩) ∧ ∀ k, shape k u = true → PlaceR C γ s.now w u b off := by
  cases p <;> simp only [deref] at h <;> try exact h.elim
  case ptr i => exact ⟨_, _, 0, h, hp, fun k hk => (R.h i (fun e => by rw [e] at hk; exact shape_not_top hk)).1.place⟩
  case fptr i => exact ⟨_, _, 0, h, hp, fun k hk => (R.f i _ (getD_some rfl (fun e => by rw [e] at hk; exact shape_not_top hk))).1.place⟩
  case fld i j =>
    split at h
    case h_2 => exact h.elim
    rename_i fs hfs
    exact ⟨_, _, j, h, hp, fun k hk => by
      have := (R.h i (fun e => by rw [hfs] at e; cases e)).1.place
      rw [hfs] at this
      exact this.fld hk⟩
  case ffld i j =>
    split at h
    case h_2 => exact h.elim
    rename_i fs hfs
    exact ⟨_, _, j, h, hp, fun k hk => by
      have := (R.f i _ (getD_some hfs (fun e => by cases e))).1.place
      exact this.fld hk⟩
  case cel u =>
    obtain ⟨_, b, off, h1, h2⟩ := hp
    exact ⟨u, b, off, h, h1, fun k hk => cel_place h2 hk⟩

theorem load_run (hT : TyOk P TY) {ty : Nat} {u : AV} (hs : shape (TY ty).k u = true) {b off : Nat} {now : Nat} (h : PlaceR C γ now w u b off) :
    ∃ v, (loadVar ty ⟨b, off, none⟩).run P w = .ok v w ∧ Rel3 C γ now w u v := by
  obtain ⟨cs, h1, h2⟩ := h
  rcases shape_cases hs with ⟨zs, fs, hk, rfl, hl⟩ | ⟨z, hk, hf⟩
  · have h1 : All2 (RelS C γ now w) fs cs := h1
    exact ⟨_, loadVar_ag hT hk (by rw [← h1.length, flatL_length hl]) h2, ⟨cs, rfl, h1⟩⟩
  · rw [flatR_flat hf] at h1
    obtain ⟨v, rfl, hr⟩ := h1
    exact ⟨v, loadVar_sc hT hk (by simpa using h2 0 v rfl), by rw [rel3_flat hf]; exact hr⟩

theorem load_ok (hT : TyOk P TY) (R : Rel C n γ s a w) {ty : Nat} {x : Operand} (ho : o.op = .load ty x) (h : aop G TY dr s o K) : OpOk P C n a w o K := by
  simp only [aop, ho] at h
  obtain ⟨u, b, off, hK, hv, hp⟩ := deref_ok R (R.get x) h
  split at hK
  case h_2 => exact hK.elim
  rename_i hs
  obtain ⟨v, hr, hv'⟩ := load_run hT hs (hp _ hs)
  exact .pure R hK hv' (by simp [execOp, ho, Instr.loadAt, hv, Instr.sureAddr, hr])

/-- A value of the type's shape as cells. -/
theorem shape_cells {now : Nat} {k : TyK} {u : AV} {v : Value} (hs : shape k u = true) (h : Rel3 C γ now w u v) :
    ∃ cs, v.cells = cs.toArray ∧ FlatR C γ now w u cs ∧ (∀ c ∈ cs, c.oneCell' = true) ∧ ((∃ zs fs, k = .ag zs ∧ u = .st fs ∧ cs.length = zs.length ∧ v = .agg cs.toArray) ∨ (∃ z, k = .sc z ∧ flat u = true ∧ cs = [v])) := by
  rcases shape_cases hs with ⟨zs, fs, hk, rfl, hl⟩ | ⟨z, hk, hf⟩
  · obtain ⟨cs, rfl, h1⟩ := h
    exact ⟨cs, rfl, h1, all2_oneCell h1 (flatL_all hl), .inl ⟨zs, fs, hk, rfl, by rw [← h1.length, flatL_length hl], rfl⟩⟩
  · rw [rel3_flat hf] at h
    obtain ⟨h1, h2⟩ := flat_cells hf h
    exact ⟨[v], by rw [h1], by rw [flatR_flat hf]; exact ⟨v, rfl, h⟩, by simpa using h2, .inr ⟨z, hk, hf, rfl⟩⟩

theorem size_of_ag (hT : TyOk P TY) {ty : Nat} {zs : List AV} (hk : (TY ty).k = .ag zs) : (P.info? ty).map (·.size) = some zs.length := by
  have h := hT ty
  rw [hk] at h
  obtain ⟨_, i, _, _, _, h3, h4, _⟩ := h
  simp [h3, h4]
theorem size_of_sc (hT : TyOk P TY) {ty : Nat} {z : AV} (hk : (TY ty).k = .sc z) : (P.info? ty).map (·.size) = some 1 := by
  have h := hT ty
  rw [hk] at h
  obtain ⟨_, i, _, _, _, h3, h4, _⟩ := h
  simp [h3, h4]

/-- A store into a variable's block: the whole variable. -/
theorem store_whole (hT : TyOk P TY) {ty : Nat} {u u0 : AV} {v : Value} {b now : Nat} (hs : shape (TY ty).k u = true) (hs0 : shape (TY ty).k u0 = true) (hv : Rel3 C γ now w u v) (h0 : VarR C γ now w b u0) :
    ∃ w' cs, (storeVar ty ⟨b, 0, none⟩ v).run P w = .ok () w' ∧ Put w w' b cs ∧ FlatR C γ now w u cs := by
  obtain ⟨cs, h1, h2, h3, h4⟩ := shape_cells hs hv
  obtain ⟨ds, ty', hb, hd⟩ := h0
  rcases h4 with ⟨zs, fs, hk, rfl, hl, rfl⟩ | ⟨z, hk, hf, rfl⟩
  · rcases shape_cases hs0 with ⟨zs', fs', hk', rfl, hl'⟩ | ⟨z', hk', _⟩
    · have hd : All2 (RelS C γ now w) fs' ds := hd
      rw [hk] at hk'; cases hk'
      have e : ds.length = zs.length := by rw [← hd.length, flatL_length hl']
      refine ⟨w.setRow b cs.toArray, cs, run_storeVar_row w b ty' ty ds.toArray cs.toArray hb (by rw [size_of_ag hT hk]; simp [hl]) (by simp; omega) ?_, Put.ofSetRow hb cs, h2⟩
      rw [Array.all_eq_true_iff_forall_mem]; intro x hx; exact h3 x (by simpa using hx)
    · rw [hk] at hk'; cases hk'
  · rcases shape_cases hs0 with ⟨zs', fs', hk', _, _⟩ | ⟨z', hk', hf'⟩
    · rw [hk] at hk'; cases hk'
    · rw [flatR_flat hf'] at hd
      obtain ⟨d, rfl, _⟩ := hd
      have hsz := size_of_sc hT hk
      have hc : w.cell? ⟨b, 0, none⟩ = some d := by rw [cell_of_row w b 0 _ ty' _ hb]; rfl
      have hfz : w.frozen? ⟨b, 0, none⟩ = false := frozen_of_row w b 0 _ ty' hb
      refine ⟨w.setCell ⟨b, 0, none⟩ v, [v], ?_, Put.ofSetCell hb v, h2⟩
      cases hq : P.info? ty with
      | none => simp [hq] at hsz
      | some i =>
        have hsz : i.size = 1 := by simpa [hq] using hsz
        simp [storeVar, sizeOf, typeInfo, hq, h1, hsz, storeCells, run_store P w _ v .plain (h3 v (by simp)), Addr.add_zero', hc, hfz]
theorem store_field (hT : TyOk P TY) {ty : Nat} {u : AV} {v : Value} {b j now : Nat} {fs : List AV} (hs : shape (TY ty).k u = true) (hs0 : shape (TY ty).k (fs.getD j .top) = true) (hv : Rel3 C γ now w u v) (h0 : VarR C γ now w b (.st fs)) :
    ∃ w' cs, (storeVar ty ⟨b, j, none⟩ v).run P w = .ok () w' ∧ Put w w' b cs ∧ FlatR C γ now w (.st (fs.set j u)) cs := by
  obtain ⟨cs, h1, h2, h3, h4⟩ := shape_cells hs hv
  obtain ⟨ds, ty', hb, hd⟩ := h0
  have hd : All2 (RelS C γ now w) fs ds := hd
  have hne : fs.getD j .top ≠ .top := fun e => by rw [e] at hs0; exact shape_not_top hs0
  obtain ⟨d, hdj, hdr⟩ := hd.get j _ (getD_some rfl hne)
  rcases h4 with ⟨zs, gs, hk, rfl, hl, rfl⟩ | ⟨z, hk, hf, rfl⟩
  · rcases shape_cases hs0 with ⟨zs', fs', hk', e, hl'⟩ | ⟨z', hk', _⟩
    · rw [e] at hdr; exact hdr.elim
    · rw [hk] at hk'; cases hk'
  · have hsz := size_of_sc hT hk
    have hc : w.cell? ⟨b, j, none⟩ = some d := by rw [cell_of_row w b j _ ty' _ hb]; simpa using hdj
    have hfz : w.frozen? ⟨b, j, none⟩ = false := frozen_of_row w b j _ ty' hb
    refine ⟨w.setCell ⟨b, j, none⟩ v, ds.set j v, ?_, Put.ofSetCell hb v, hd.set (by rw [← rel3_flat hf]; exact hv) j⟩
    cases hq : P.info? ty with
    | none => simp [hq] at hsz
    | some i =>
      have hsz : i.size = 1 := by simpa [hq] using hsz
      simp [storeVar, sizeOf, typeInfo, hq, h1, hsz, storeCells, run_store P w _ v .plain (h3 v (by simp)), Addr.add_zero', hc, hfz]

theorem store_ok (hT : TyOk P TY) (R : Rel C n γ s a w) {ty : Nat} {x y : Operand} (ho : o.op = .store ty x y) (h : aop G TY dr s o K) : OpOk P C n a w o K := by
  simp only [aop, ho] at h
  split at h
  case h_2 => exact h.elim
  rename_i hs
  have hx := R.get x
  have hy := R.get y
  revert h
  generalize s.get x = p at hx
  generalize s.get y = u at hy hs
  intro h
  have done : ∀ {w' : World} {s' : AS}, (∃ b off, a.eval x = .pointer (some ⟨b, off, none⟩) ∧ (storeVar ty ⟨b, off, none⟩ (a.eval y)).run P w = .ok () w') → K .top s' → Rel C n γ s' a w' → OpOk P C n a w o K := by
    intro w' s' ⟨b, off, h1, h2⟩ hK hR
    exact ⟨.skip, undef, w', .top, s', γ, by simp [execOp, ho, Instr.storeAt, h1, Instr.sureAddr, h2], .inr ⟨rfl, rfl⟩, hK, hR, trivial⟩
  cases p <;> simp only [deref, setH] at h <;> try exact h.elim
  case ptr i =>
    split at h
    case h_2 => exact h.elim
    rename_i hs0
    have hne : s.h i ≠ .top := fun e => by rw [e] at hs0; exact shape_not_top hs0
    obtain ⟨w', cs, h1, h2, h3⟩ := store_whole hT hs hs0 hy (R.h i hne).1
    exact done ⟨_, 0, hx, h1⟩ h (R.setLocal hne h2 h3)
  case fptr i =>
    split at h
    case h_2 => exact h.elim
    rename_i hs0
    have hg := getD_some (l := s.fh) (j := i) rfl (fun e => by rw [e] at hs0; exact shape_not_top hs0)
    obtain ⟨w', cs, h1, h2, h3⟩ := store_whole hT hs hs0 hy (R.f i _ hg).1
    exact done ⟨_, 0, hx, h1⟩ h (R.setForeign hg h2 h3)
  case fld i j =>
    split at h
    case h_2 => exact h.elim
    rename_i fs hfs
    split at h
    case h_2 => exact h.elim
    rename_i hs0
    have hne : s.h i ≠ .top := fun e => by rw [hfs] at e; cases e
    have hv := (R.h i hne).1
    rw [hfs] at hv
    obtain ⟨w', cs, h1, h2, h3⟩ := store_field hT hs hs0 hy hv
    exact done ⟨_, j, hx, h1⟩ h (R.setLocal hne h2 h3)
  case ffld i j =>
    split at h
    case h_2 => exact h.elim
    rename_i fs hfs
    split at h
    case h_2 => exact h.elim
    rename_i hs0
    have hg := getD_some hfs (fun e => by cases e)
    obtain ⟨w', cs, h1, h2, h3⟩ := store_field hT hs hs0 hy (R.f i _ hg).1
    exact done ⟨_, j, hx, h1⟩ h (R.setForeign hg h2 h3)
  case cel u =>
    split at h <;> exact h.elim
end
end Go.Dk
