/- Loads, stores, addresses, variables. -/
import Derived.Test.YteamklllllembaaDoorOps
namespace Go.Dk
section
variable {P : Program} {C : Fr} {n : Nat} {γ : Gh} {s : AS} {a : Act} {w : World} {TY : Nat → TyI} {G : List (Nat × Con)} {dr : Bool} {o : Oper} {K : AV → AS → Prop}

theorem relS_of_relE {now : Nat} {u : AV} {v : Value} (h : RelE C γ now w u v) : RelS C γ now w u v := by
  cases u <;> first | exact h | exact h.elim
theorem shape_not_top {k : TyK} (h : shape k .top = true) : False := by
  rcases shape_cases h with ⟨zs, fs, _, e, _⟩ | ⟨z, _, e⟩ <;> cases e

def PlaceR (C : Fr) (γ : Gh) (now : Nat) (w : World) (u : AV) (b off : Nat) : Prop :=
  ∃ cs, FlatR C γ now w u cs ∧ ∀ (j : Nat) v, cs[j]? = some v → w.cell? ⟨b, off + j, none⟩ = some v
theorem VarR.place {now b : Nat} {u : AV} (h : VarR C γ now w b u) : PlaceR C γ now w u b 0 := by
  obtain ⟨cs, ty, h1, h2⟩ := h
  exact ⟨cs, h2, fun j v hv => by rw [Nat.zero_add, cell_of_row w b j _ ty _ h1]; simpa using hv⟩
theorem getD_some {l : List AV} {j : Nat} {u : AV} (h : l.getD j .top = u) (hu : u ≠ .top) : l[j]? = some u := by
  rw [List.getD_eq_getElem?_getD] at h
  cases hj : l[j]? with
  | none => rw [hj] at h; exact absurd h.symm hu
  | some x => rw [hj] at h; simp at h; rw [h]
theorem PlaceR.fld {now b : Nat} {fs : List AV} {j : Nat} (h : PlaceR C γ now w (.st fs) b 0) {k : TyK} (hs : shape k (fs.getD j .top) = true) : PlaceR C γ now w (fs.getD j .top) b j := by
  obtain ⟨cs, h1, h2⟩ := h
  have h1 : All2 (RelS C γ now w) fs cs := h1
  have hne : fs.getD j .top ≠ .top := fun e => by rw [e] at hs; exact shape_not_top hs
  obtain ⟨v, hv, hr⟩ := h1.get j _ (getD_some rfl hne)
  have hf : flat (fs.getD j .top) = true := by
    rcases shape_cases hs with ⟨zs, gs, _, e, _⟩ | ⟨z, _, e⟩
    · rw [e] at hr; exact hr.elim
    · exact e
  refine ⟨[v], by rw [flatR_flat hf]; exact ⟨v, rfl, hr⟩, fun i u hu => ?_⟩
  cases i with
  | zero => simp at hu; subst hu; have := h2 j v hv; simpa using this
  | succ i => simp at hu
theorem Arr.get {lim : Nat → Nat} {w : World} : ∀ (ts : List T) (b off : Nat) (fp : List Nat), Arr lim w ts b off fp → ∀ i, i < ts.length →
    ∃ f f1 f2, TAt lim w (ts.getD i default) b (off + i * 3) f ∧ fp = f1 ++ f ++ f2
  | [], _, _, _, _, i, hi => by simp at hi
  | t :: ts, b, off, fp, ⟨f1, f2, h1, h2, h3⟩, 0, _ => ⟨f1, [], f2, by simpa using h2, by simpa using h1⟩
  | t :: ts, b, off, fp, ⟨f1, f2, h1, h2, h3⟩, i + 1, hi => by
    obtain ⟨f, g1, g2, h4, h5⟩ := Arr.get ts b (off + 3) f2 h3 i (by simpa using hi)
    refine ⟨f, f1 ++ g1, g2, ?_, by rw [h1, h5]; simp [List.append_assoc]⟩
    have : off + (i + 1) * 3 = off + 3 + i * 3 := by omega
    rw [this]; simpa using h4
theorem TagOk.child {now es es' : Nat} {a a' : Option Addr} {len cap len' cap' : Nat} {b : Nat} {fp f1 f f2 : List Nat} {g : Tag}
    (h : TagOk C γ now w es a len cap (b :: fp) g) (e : fp = f1 ++ f ++ f2) : TagOk C γ now w es' a' len' cap' f g.child := by
  cases g with
  | any => trivial
  | iv r m nd o => exact ⟨(h.1.el.sub e).rt, trivial⟩
  | el m nd o => exact ⟨(h.1.sub e).rt, trivial⟩
  | arg i => exact ⟨ElOk.rt ⟨fun x hx => h.2 x (by rw [e]; simp [hx]), nofun⟩, trivial⟩
/-- An element, where it lies. -/
theorem ElR.at_ {now i j : Nat} {ts : List T} {g : Tag} {v : Value} (h : ElR C γ now w (.slc ts g) 3 i j v) :
    ∃ b off f, v = .pointer (some ⟨b, off + i * 3 + j, none⟩) ∧ i < ts.length ∧ TAt γ.lim w (ts.getD i default) b (off + i * 3) f ∧ ∀ a len cap, TagOk C γ now w 3 a len cap f g.child := by
  obtain ⟨b, off, len, cap, ⟨a', cap', fp, e, h3, h4, h5⟩, h6, h7⟩ := h
  simp only [Value.slice.injEq] at e
  obtain ⟨rfl, rfl, rfl⟩ := e
  rcases h4 with ⟨rfl, _⟩ | ⟨b', off', fp', hne, e, rfl, harr⟩
  · simp at h6
  · cases e
    obtain ⟨f, f1, f2, ha, hf⟩ := Arr.get _ _ _ _ harr i h6
    exact ⟨b, off, f, h7, h6, ha, fun _ _ _ => TagOk.child h5 hf⟩
theorem ElR.atI {now i j : Nat} {k : IntKind} {ns : List Int} {g : Tag} {v : Value} (h : ElR C γ now w (.ints k ns g) 1 i j v) :
    ∃ b off, v = .pointer (some ⟨b, off + i * 1 + j, none⟩) ∧ i < ns.length ∧ w.cell? ⟨b, off + i, none⟩ = some (.int k (ns.getD i 0)) := by
  obtain ⟨b, off, len, cap, ⟨a', cap', fp, e, h3, h4, h5⟩, h6, h7⟩ := h
  simp only [Value.slice.injEq] at e
  obtain ⟨rfl, rfl, rfl⟩ := e
  rcases h4 with ⟨rfl, _⟩ | ⟨b', off', hne, e, rfl, harr⟩
  · simp at h6
  · cases e
    exact ⟨b, off, h7, h6, (harr i h6).1⟩
theorem TAt.place {now b off : Nat} {t : T} {f : List Nat} {g : Tag} (h : TAt γ.lim w t b off f) (hg : ∀ a len cap, TagOk C γ now w 3 a len cap f g) :
    ∃ a cap, w.cell? ⟨b, off, none⟩ = some (.int .i64 t.k) ∧ w.cell? ⟨b, off + 1, none⟩ = some (.int .i64 t.n) ∧ w.cell? ⟨b, off + 2, none⟩ = some (.slice a t.kids.length cap) ∧ RelE C γ now w (.slc t.kids g) (.slice a t.kids.length cap) := by
  cases t with
  | mk k n ts =>
    obtain ⟨h0, h1, h2, a, cap, h3, h4, h5⟩ := h
    exact ⟨a, cap, h1, h2, h3, a, cap, f, rfl, h4, h5, hg _ _ _⟩

theorem deref_ok (R : Rel C n γ s a w) {p : AV} {v : Value} (hp : Rel3 C γ s.now w p v) {K' : AV → Prop} (h : deref s p K') :
    ∃ u b off, K' u ∧ v = .pointer (some ⟨b, off, none⟩) ∧ ∀ k, shape k u = true → PlaceR C γ s.now w u b off := by
  cases p <;> simp only [deref] at h <;> try exact h.elim
  case ptr i => exact ⟨_, _, 0, h, hp, fun k hk => (R.h i (fun e => by rw [e] at hk; exact shape_not_top hk)).1.place⟩
  case fptr i => exact ⟨_, _, 0, h, hp, fun k hk => (R.f i _ (getD_some rfl (fun e => by rw [e] at hk; exact shape_not_top hk))).1.place⟩
  case fld i j =>
    split at h
    case h_2 => exact h.elim
    rename_i fs hfs
    exact ⟨_, _, j, h, hp, fun k hk => by
      have := (R.h i (fun e => by rw [hfs] at e; cases e)).1.place
      rw [hfs] at this
      exact this.fld hk⟩
  case ffld i j =>
    split at h
    case h_2 => exact h.elim
    rename_i fs hfs
    exact ⟨_, _, j, h, hp, fun k hk => by
      have := (R.f i _ (getD_some hfs (fun e => by cases e))).1.place
      exact this.fld hk⟩
  case cel u =>
    obtain ⟨⟨l, rfl⟩, b, off, x, h1, h2, _, h4⟩ := hp
    exact ⟨_, b, off, h, h1, fun k hk => ⟨[x], ⟨x, rfl, h4⟩, fun j y hy => by
      cases j with
      | zero => simp at hy; subst hy; simpa using h2
      | succ j => simp at hy⟩⟩
  case elp ts g i =>
    obtain ⟨b, off, f, hv, _, ht, hg⟩ := ElR.at_ hp
    obtain ⟨a', cap, c1, c2, c3, c4⟩ := ht.place hg
    refine ⟨_, b, off + i * 3, h, hv, fun k hk => ⟨[.int .i64 _, .int .i64 _, _], ⟨rfl, rfl, c4, trivial⟩, fun j y hy => ?_⟩⟩
    match j, hy with
    | 0, hy => simp at hy; subst hy; exact c1
    | 1, hy => simp at hy; subst hy; exact c2
    | 2, hy => simp at hy; subst hy; exact c3
    | j + 3, hy => simp at hy
  case elf ts g i j =>
    obtain ⟨b, off, f, hv, _, ht, hg⟩ := ElR.at_ hp
    obtain ⟨a', cap, c1, c2, c3, c4⟩ := ht.place hg
    split at h
    case h_4 => exact h.elim
    case h_1 =>
      refine ⟨_, b, off + i * 3, h, hv, fun k hk => ⟨[.int .i64 _], ⟨_, rfl, rfl⟩, fun j y hy => ?_⟩⟩
      cases j with
      | zero => simp at hy; subst hy; exact c1
      | succ j => simp at hy
    case h_2 =>
      refine ⟨_, b, off + i * 3 + 1, h, hv, fun k hk => ⟨[.int .i64 _], ⟨_, rfl, rfl⟩, fun j y hy => ?_⟩⟩
      cases j with
      | zero => simp at hy; subst hy; exact c2
      | succ j => simp at hy
    case h_3 =>
      refine ⟨_, b, off + i * 3 + 2, h, hv, fun k hk => ⟨[_], ⟨_, rfl, c4⟩, fun j y hy => ?_⟩⟩
      cases j with
      | zero => simp at hy; subst hy; exact c3
      | succ j => simp at hy
  case eli k ns g i =>
    obtain ⟨b, off, hv, _, hc⟩ := ElR.atI hp
    refine ⟨_, b, off + i * 1 + 0, h, hv, fun k hk => ⟨[.int _ _], ⟨_, rfl, rfl⟩, fun j y hy => ?_⟩⟩
    cases j with
    | zero => simp at hy; subst hy; simpa using hc
    | succ j => simp at hy

theorem load_run (hT : TyOk P TY) {ty : Nat} {u : AV} (hs : shape (TY ty).k u = true) {b off : Nat} {now : Nat} (h : PlaceR C γ now w u b off) :
    ∃ v, (loadVar ty ⟨b, off, none⟩).run P w = .ok v w ∧ Rel3 C γ now w u v := by
  obtain ⟨cs, h1, h2⟩ := h
  rcases shape_cases hs with ⟨zs, fs, hk, rfl, hl⟩ | ⟨z, hk, hf⟩
  · have h1 : All2 (RelS C γ now w) fs cs := h1
    exact ⟨_, loadVar_ag hT hk (by rw [← h1.length, flatL_length hl]) h2, ⟨cs, rfl, h1⟩⟩
  · rw [flatR_flat hf] at h1
    obtain ⟨v, rfl, hr⟩ := h1
    exact ⟨v, loadVar_sc hT hk (by simpa using h2 0 v rfl), by rw [rel3_flat hf]; exact hr⟩

theorem load_ok (hT : TyOk P TY) (R : Rel C n γ s a w) {ty : Nat} {x : Operand} (ho : o.op = .load ty x) (h : aop G TY dr s o K) : OpOk P C n a w o K := by
  simp only [aop, ho] at h
  obtain ⟨u, b, off, hK, hv, hp⟩ := deref_ok R (R.get x) h
  split at hK
  case h_2 => exact hK.elim
  rename_i hs
  obtain ⟨v, hr, hv'⟩ := load_run hT hs (hp _ hs)
  exact .pure R hK hv' (by simp [execOp, ho, Instr.loadAt, hv, Instr.sureAddr, hr])

/-- A value of the type's shape as cells. -/
theorem shape_cells {now : Nat} {k : TyK} {u : AV} {v : Value} (hs : shape k u = true) (h : Rel3 C γ now w u v) :
    ∃ cs, v.cells = cs.toArray ∧ FlatR C γ now w u cs ∧ (∀ c ∈ cs, c.oneCell' = true) ∧ ((∃ zs fs, k = .ag zs ∧ u = .st fs ∧ cs.length = zs.length ∧ v = .agg cs.toArray) ∨ (∃ z, k = .sc z ∧ flat u = true ∧ cs = [v])) := by
  rcases shape_cases hs with ⟨zs, fs, hk, rfl, hl⟩ | ⟨z, hk, hf⟩
  · obtain ⟨cs, rfl, h1⟩ := h
    exact ⟨cs, rfl, h1, all2_oneCell h1 (flatL_all hl), .inl ⟨zs, fs, hk, rfl, by rw [← h1.length, flatL_length hl], rfl⟩⟩
  · rw [rel3_flat hf] at h
    obtain ⟨h1, h2⟩ := flat_cells hf h
    exact ⟨[v], by rw [h1], by rw [flatR_flat hf]; exact ⟨v, rfl, h⟩, by simpa using h2, .inr ⟨z, hk, hf, rfl⟩⟩

theorem size_of_ag (hT : TyOk P TY) {ty : Nat} {zs : List AV} (hk : (TY ty).k = .ag zs) : (P.info? ty).map (·.size) = some zs.length := by
  have h := hT.ty ty
  rw [hk] at h
  obtain ⟨_, i, _, _, _, h3, h4, _⟩ := h
  simp [h3, h4]
theorem size_of_sc (hT : TyOk P TY) {ty : Nat} {z : AV} (hk : (TY ty).k = .sc z) : (P.info? ty).map (·.size) = some 1 := by
  have h := hT.ty ty
  rw [hk] at h
  obtain ⟨_, i, _, _, _, h3, h4, _⟩ := h
  simp [h3, h4]

/-- A store into a variable's block: the whole variable. -/
theorem store_whole (hT : TyOk P TY) {ty : Nat} {u u0 : AV} {v : Value} {b now : Nat} (hs : shape (TY ty).k u = true) (hs0 : shape (TY ty).k u0 = true) (hv : Rel3 C γ now w u v) (h0 : VarR C γ now w b u0) :
    ∃ w' cs, (storeVar ty ⟨b, 0, none⟩ v).run P w = .ok () w' ∧ Put w w' b cs ∧ FlatR C γ now w u cs := by
  obtain ⟨cs, h1, h2, h3, h4⟩ := shape_cells hs hv
  obtain ⟨ds, ty', hb, hd⟩ := h0
  rcases h4 with ⟨zs, fs, hk, rfl, hl, rfl⟩ | ⟨z, hk, hf, rfl⟩
  · rcases shape_cases hs0 with ⟨zs', fs', hk', rfl, hl'⟩ | ⟨z', hk', _⟩
    · have hd : All2 (RelS C γ now w) fs' ds := hd
      rw [hk] at hk'; cases hk'
      have e : ds.length = zs.length := by rw [← hd.length, flatL_length hl']
      refine ⟨w.setRow b cs.toArray, cs, run_storeVar_row w b ty' ty ds.toArray cs.toArray hb (by rw [size_of_ag hT hk]; simp [hl]) (by simp; omega) ?_, Put.ofSetRow hb cs, h2⟩
      rw [Array.all_eq_true_iff_forall_mem]; intro x hx; exact h3 x (by simpa using hx)
    · rw [hk] at hk'; cases hk'
  · rcases shape_cases hs0 with ⟨zs', fs', hk', _, _⟩ | ⟨z', hk', hf'⟩
    · rw [hk] at hk'; cases hk'
    · rw [flatR_flat hf'] at hd
      obtain ⟨d, rfl, _⟩ := hd
      have hsz := size_of_sc hT hk
      have hc : w.cell? ⟨b, 0, none⟩ = some d := by rw [cell_of_row w b 0 _ ty' _ hb]; rfl
      have hfz : w.frozen? ⟨b, 0, none⟩ = false := frozen_of_row w b 0 _ ty' hb
      refine ⟨w.setCell ⟨b, 0, none⟩ v, [v], ?_, Put.ofSetCell hb v, h2⟩
      cases hq : P.info? ty with
      | none => simp [hq] at hsz
      | some i =>
        have hsz : i.size = 1 := by simpa [hq] using hsz
        simp [storeVar, sizeOf, typeInfo, hq, h1, hsz, storeCells, run_store P w _ v .plain (h3 v (by simp)), Addr.add_zero', hc, hfz]
theorem store_field (hT : TyOk P TY) {ty : Nat} {u : AV} {v : Value} {b j now : Nat} {fs : List AV} (hs : shape (TY ty).k u = true) (hs0 : shape (TY ty).k (fs.getD j .top) = true) (hv : Rel3 C γ now w u v) (h0 : VarR C γ now w b (.st fs)) :
    ∃ w' cs, (storeVar ty ⟨b, j, none⟩ v).run P w = .ok () w' ∧ Put w w' b cs ∧ FlatR C γ now w (.st (fs.set j u)) cs := by
  obtain ⟨cs, h1, h2, h3, h4⟩ := shape_cells hs hv
  obtain ⟨ds, ty', hb, hd⟩ := h0
  have hd : All2 (RelS C γ now w) fs ds := hd
  have hne : fs.getD j .top ≠ .top := fun e => by rw [e] at hs0; exact shape_not_top hs0
  obtain ⟨d, hdj, hdr⟩ := hd.get j _ (getD_some rfl hne)
  rcases h4 with ⟨zs, gs, hk, rfl, hl, rfl⟩ | ⟨z, hk, hf, rfl⟩
  · rcases shape_cases hs0 with ⟨zs', fs', hk', e, hl'⟩ | ⟨z', hk', _⟩
    · rw [e] at hdr; exact hdr.elim
    · rw [hk] at hk'; cases hk'
  · have hsz := size_of_sc hT hk
    have hc : w.cell? ⟨b, j, none⟩ = some d := by rw [cell_of_row w b j _ ty' _ hb]; simpa using hdj
    have hfz : w.frozen? ⟨b, j, none⟩ = false := frozen_of_row w b j _ ty' hb
    refine ⟨w.setCell ⟨b, j, none⟩ v, ds.set j v, ?_, Put.ofSetCell hb v, hd.set (by rw [← rel3_flat hf]; exact hv) j⟩
    cases hq : P.info? ty with
    | none => simp [hq] at hsz
    | some i =>
      have hsz : i.size = 1 := by simpa [hq] using hsz
      simp [storeVar, sizeOf, typeInfo, hq, h1, hsz, storeCells, run_store P w _ v .plain (h3 v (by simp)), Addr.add_zero', hc, hfz]

end
end Go.Dk
