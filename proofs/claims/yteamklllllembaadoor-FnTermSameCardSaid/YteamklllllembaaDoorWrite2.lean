/- Stores. -/
import Derived.Test.YteamklllllembaaDoorWrite
namespace Go.Dk

section
variable {lim : Nat → Nat} {w w' : World} {b : Nat} (ho : ∀ x, x ≠ b → w'.heap[x]? = w.heap[x]?)
include ho
theorem TAt.setw {t : T} {off : Nat} {fp : List Nat} (h : TAt lim w t b off fp) (hb : b ∉ fp) (hc : ∀ j v, j < 3 → w.cell? ⟨b, off + j, none⟩ = some v → w'.cell? ⟨b, off + j, none⟩ = some v) : TAt lim w' t b off fp := by
  cases t with
  | mk k n ts =>
    obtain ⟨h0, h1, h2, a, cap, h3, h4, h5⟩ := h
    refine ⟨h0, hc 0 _ (by omega) h1, hc 1 _ (by omega) h2, a, cap, hc 2 _ (by omega) h3, h4, ?_⟩
    have h5 : Els lim w ts a fp := h5
    exact h5.wstep (B := fun x => x = b) (fun x hx => ho x hx) (fun x hx e => hb (e ▸ hx))
theorem Arr.setw {t' : T} {f' : List Nat} : ∀ (ts : List T) (off i : Nat) (fp : List Nat), i < ts.length → Arr lim w ts b off fp → b ∉ fp →
    (∀ j v, j < off + i * 3 ∨ off + i * 3 + 3 ≤ j → w.cell? ⟨b, j, none⟩ = some v → w'.cell? ⟨b, j, none⟩ = some v) → TAt lim w' t' b (off + i * 3) f' →
    ∃ f1 f f2, fp = f1 ++ f ++ f2 ∧ Arr lim w' (ts.set i t') b off (f1 ++ f' ++ f2)
  | [], _, i, _, hi, _, _, _, _ => by simp at hi
  | t :: ts, off, 0, fp, _, ⟨f1, f2, h1, h2, h3⟩, hb, hc, ht => by
    subst h1
    refine ⟨[], f1, f2, by simp, f', f2, by simp, by simpa using ht, ?_⟩
    clear h2 ht
    have hb2 : b ∉ f2 := fun h => hb (by simp [h])
    have : ∀ (us : List T) (o : Nat) (g : List Nat), off + 3 ≤ o → Arr lim w us b o g → b ∉ g → Arr lim w' us b o g := by
      intro us
      induction us with
      | nil => intro o g _ h _; exact h
      | cons u us ih =>
        rintro o g ho' ⟨g1, g2, e, k1, k2⟩ hg
        subst e
        exact ⟨g1, g2, rfl, TAt.setw ho k1 (fun h => hg (by simp [h])) fun j v _ hv => hc _ v (.inr (by omega)) hv, ih (o + 3) g2 (by omega) k2 fun h => hg (by simp [h])⟩
    exact this ts (off + 3) f2 (by omega) h3 hb2
  | t :: ts, off, i + 1, fp, hi, ⟨f1, f2, h1, h2, h3⟩, hb, hc, ht => by
    subst h1
    obtain ⟨g1, g, g2, e, h4⟩ := Arr.setw ts (off + 3) i f2 (by simpa using hi) h3 (fun h => hb (by simp [h]))
      (fun j v hj hv => hc j v (by omega) hv) (by have e : off + 3 + i * 3 = off + (i + 1) * 3 := by omega
                                                  rw [e]; exact ht)
    subst e
    exact ⟨f1 ++ g1, g, g2, by simp, f1, g1 ++ f' ++ g2, by simp, TAt.setw ho h2 (fun h => hb (by simp [h])) fun j v hj hv => hc _ v (.inl (by omega)) hv, h4⟩
end

section
variable {P : Program} {C : Fr} {n : Nat} {γ : Gh} {s : AS} {a : Act} {w : World} {TY : Nat → TyI} {G : List (Nat × Con)} {dr : Bool} {o : Oper} {K : AV → AS → Prop}

theorem Rel.young (R : Rel C n γ s a w) {W b : Nat} (hW : noBits W 3 = true) (h : InM C γ s.now w W b) : C.w0.heap.size ≤ b := by
  apply Nat.le_of_not_lt
  intro hb
  refine InM.disj R.Hmono hW h ?_
  have e : (3 : Nat) = Nat.lor (bit 0) (bit 1) := rfl
  rw [e]
  rw [← R.H2] at hb
  by_cases ha : C.am b
  · exact InM.or.2 (.inr (InM.bit (.inr (.inl ⟨rfl, hb, ha⟩))))
  · exact InM.or.2 (.inl (InM.bit (.inl ⟨rfl, hb, ha⟩)))

/-- Cells stored in the middle of a block. -/
structure Mid (w w' : World) (b o : Nat) (vs : List Value) : Prop where
  other : ∀ x, x ≠ b → w'.heap[x]? = w.heap[x]?
  self : ∃ c c' ty, w.heap[b]? = some (.cells c ty (0, 0)) ∧ w'.heap[b]? = some (.cells c' ty (0, 0)) ∧ c'.size = c.size
  size : w'.heap.size = w.heap.size
  keep : ∀ j v, j < o ∨ o + vs.length ≤ j → w.cell? ⟨b, j, none⟩ = some v → w'.cell? ⟨b, j, none⟩ = some v
  new : ∀ (j : Nat) v, vs[j]? = some v → w'.cell? ⟨b, o + j, none⟩ = some v
  os : w'.os = w.os
  tape : w'.tape = w.tape
  output : w'.output = w.output
theorem store_mid {b o : Nat} {c : Array Value} {ty0 : TypeId} {vs : List Value} (hb : w.heap[b]? = some (.cells c ty0 (0, 0))) (hl : o + vs.length ≤ c.size) (h1 : ∀ v ∈ vs, v.oneCell' = true) :
    ∃ w', (storeCells ⟨b, o, none⟩ vs).run P w = .ok () w' ∧ Mid w w' b o vs := by
  have hrun := run_storeCells_at P b o ty0 vs 0 c w hb (by simpa using hl) h1
  simp only [Nat.add_zero] at hrun
  refine ⟨_, hrun, ?_⟩
  have hself : (w.setRow b (c.toList.take o ++ vs ++ c.toList.drop (o + vs.length)).toArray).heap[b]? = some (.cells (c.toList.take o ++ vs ++ c.toList.drop (o + vs.length)).toArray ty0 (0, 0)) := setRow_heap w b c _ ty0 _ hb
  have ht : (c.toList.take o).length = o := by simp; omega
  refine ⟨fun x hx => setRow_other w b x _ hx, ⟨c, _, ty0, hb, hself, by simp; omega⟩, by simp, fun j v hj hv => ?_, fun j v hv => ?_, rfl, rfl, rfl⟩
  · rw [cell_of_row _ b j _ ty0 _ hself]
    rw [cell_of_row w b j _ ty0 _ hb] at hv
    simp only [List.getElem?_toArray, List.append_assoc]
    rcases hj with hj | hj
    · rw [List.getElem?_append_left (by omega), List.getElem?_take, if_pos hj]; simpa using hv
    · rw [List.getElem?_append_right (by omega), List.getElem?_append_right (by omega), List.getElem?_drop, ht]
      have e : o + vs.length + (j - o - vs.length) = j := by omega
      rw [e]; simpa using hv
  · have hj := (List.getElem?_eq_some_iff.1 hv).1
    rw [cell_of_row _ b _ _ ty0 _ hself]
    simp only [List.getElem?_toArray, List.append_assoc]
    rw [List.getElem?_append_right (by omega), ht, List.getElem?_append_left (by omega)]
    rw [← hv]; congr 1; omega
theorem Mid.wstep {w' : World} {b o : Nat} {vs : List Value} (M : Mid w w' b o vs) (R : Rel C n γ s a w) (hl : 0 < γ.lim b) : WStep γ s.now w γ s.now w' (fun x => x = b) :=
  { lim := rfl, loc := rfl, ow := rfl, vid := rfl, other := fun x hx => M.other x hx, self := fun x hx => by subst hx; exact M.self, pos := fun x hx => by subst hx; exact hl, size := M.size, two := R.two,
    le := Nat.le_refl _, Hlt := fun _ _ => rfl, Hge := fun e h1 h2 => by omega, os := M.os, tape := M.tape, output := M.output }

theorem store_elp (hT : TyOk P TY) (R : Rel C n γ s a w) {ty : Nat} {p v : Value} {ts us : List T} {k nn : Int} {r m d i m' : Nat} {nd nd' : Bool} {h : Tag} (hs : shape (TY ty).k (.st [.int .i64 k, .int .i64 nn, .slc us h]) = true)
    (hp : ElR C γ s.now w (.slc ts (.iv r m nd (.id d))) 3 i 0 p) (hv : Rel3 C γ s.now w (.st [.int .i64 k, .int .i64 nn, .slc us h]) v) (hh : h.whole = some (m', nd')) (hr : noBits r 3 = true)
    (hnr : nd = true ∨ noBits r m = true) (hrm : noBits r m' = true) :
    ∃ b off w', p = .pointer (some ⟨b, off, none⟩) ∧ (storeVar ty ⟨b, off, none⟩ v).run P w = .ok () w' ∧
      Rel C n γ ⟨fun j => (s.t j).ws d r (.slc (ts.set i (.mk k nn us)) (.iv r (Nat.lor m m') (and3 nd nd' (noBits (Nat.lor r m) m')) (.id d))),
        fun j => (s.h j).ws d r (.slc (ts.set i (.mk k nn us)) (.iv r (Nat.lor m m') (and3 nd nd' (noBits (Nat.lor r m) m')) (.id d))),
        wsL d r (.slc (ts.set i (.mk k nn us)) (.iv r (Nat.lor m m') (and3 nd nd' (noBits (Nat.lor r m) m')) (.id d))) s.fh, s.now⟩ a w' := by
  obtain ⟨b, off, len, cap, ⟨a0, cap0, fp, e, hcap, hels, hrt, hown⟩, hi, rfl⟩ := hp
  simp only [Value.slice.injEq] at e
  obtain ⟨rfl, rfl, rfl⟩ := e
  rcases hels with ⟨rfl, _⟩ | ⟨b0, off0, fp', hne, e, rfl, harr⟩
  · simp at hi
  cases e
  have hrb : InM C γ s.now w r b := hrt.1 b (by simp)
  have hyoung := R.young hr hrb
  have hbl := harr.block hne
  obtain ⟨c, ty0, hb⟩ := R.plain b hyoung hbl ((Arr.pos _ _ _ _ harr).1 hne)
  obtain ⟨f0, g1, g2, hat, hfe⟩ := Arr.get _ _ _ _ harr i hi
  have hnb : b ∉ fp' := by
    intro hm
    rcases hnr with rfl | hnr
    · exact (List.nodup_cons.1 (hrt.2.2 rfl)).1 hm
    · exact InM.disj R.Hmono hnr hrb (hrt.2.1 b hm)
  obtain ⟨cs, rfl, hc0, hc1, hc2⟩ : ∃ c2, v = .agg #[.int .i64 k, .int .i64 nn, c2] ∧ RelE C γ s.now w (.slc us h) c2 ∧ True ∧ True := by
    obtain ⟨cs, rfl, hall⟩ := hv
    match cs, hall with
    | [u0, u1, u2], ⟨e0, e1, e2, _⟩ =>
      have e0 : u0 = .int .i64 k := e0
      have e1 : u1 = .int .i64 nn := e1
      subst e0 e1
      exact ⟨u2, rfl, e2, trivial, trivial⟩
  obtain ⟨ax, cx, f', rfl, hcx, hex, htx⟩ := hc0
  have hel : ElOk C γ s.now w m' nd' f' := by
    cases h <;> simp only [Tag.whole] at hh <;> first | (cases hh; done) | skip
    · cases hh; exact htx.1.all
    · cases hh; exact ⟨htx.2, nofun⟩
  have hbf : b ∉ f' := fun hm => InM.disj R.Hmono hrm hrb (hel.1 b hm)
  have hsz : off + i * 3 + 3 ≤ c.size := by
    obtain ⟨_, _, _, _, _, _, h3, _⟩ : ∃ _ : True, ∃ _ : True, ∃ _ : True, ∃ _ : True, ∃ a2 c2, w.cell? ⟨b, off + i * 3 + 2, none⟩ = some (.slice a2 (ts.getD i default).kids.length c2) ∧ True := by
      revert hat; generalize ts.getD i default = t; intro hat
      cases t with
      | mk k n us => obtain ⟨_, _, _, a2, c2, q, _⟩ := hat; exact ⟨trivial, trivial, trivial, trivial, a2, c2, q, trivial⟩
    rw [cell_of_row w b _ _ ty0 _ hb] at h3
    have := (Array.getElem?_eq_some_iff.1 h3).1
    omega
  have h3s : (P.info? ty).map (·.size) = some 3 := by
    rcases shape_cases hs with ⟨zs, fs, hk, e, hl⟩ | ⟨z, _, hf⟩
    · cases e
      rw [size_of_ag hT hk, ← flatL_length hl]; rfl
    · cases hf
  obtain ⟨w1, hrun, M⟩ := store_mid (P := P) (w := w) (o := off + i * 3) (vs := [.int .i64 k, .int .i64 nn, .slice ax us.length cx]) hb hsz (by intro x hx; simp at hx; rcases hx with rfl | rfl | rfl <;> rfl)
  have hlim : 0 < γ.lim b := by
    revert hat; generalize ts.getD i default = t; intro hat
    cases t with
    | mk k n us => have := hat.1; omega
  have S := M.wstep R hlim
  have hnew : TAt γ.lim w1 (.mk k nn us) b (off + i * 3) f' := by
    refine ⟨?_, M.new 0 _ rfl, M.new 1 _ rfl, ax, cx, M.new 2 _ rfl, hcx, ?_⟩
    · revert hat; generalize ts.getD i default = t; intro hat
      cases t with
      | mk k n us => exact hat.1
    · have hex : Els γ.lim w us ax f' := hex
      exact hex.wstep (B := fun x => x = b) (fun x hx => M.other x hx) (fun x hx e => hbf (e ▸ hx))
  obtain ⟨q1, q0, q2, hq, harr'⟩ := Arr.setw M.other ts off i fp' hi harr hnb (fun j v hj hv => M.keep j v (by simpa using hj) hv) hnew
  have h8 : Keep8 w w1 := by
    intro x o nn' hx
    by_cases hxb : x = b
    · subst hxb
      by_cases ho : o < off + i * 3 ∨ off + i * 3 + 3 ≤ o
      · exact M.keep o _ (by simpa using ho) hx
      · exfalso
        revert hat; generalize ts.getD i default = t; intro hat
        cases t with
        | mk k n us =>
          obtain ⟨_, q0, q1, a2, c2, q2, _⟩ := hat
          have : o = off + i * 3 ∨ o = off + i * 3 + 1 ∨ o = off + i * 3 + 2 := by omega
          rcases this with e | e | e
          · rw [e, q0] at hx; cases hx
          · rw [e, q1] at hx; cases hx
          · rw [e, q2] at hx; cases hx
    · rw [cell_block (M.other x hxb)]; exact hx
  refine ⟨b, off + i * 3, w1, by simp, ?_, R.write S hr (fun x (hx : x = b) => hx ▸ hrb) ?_ (fun _ _ _ => h8)⟩
  · cases hq' : P.info? ty with
    | none => simp [hq'] at h3s
    | some j =>
      have h3s : j.size = 3 := by simpa [hq'] using h3s
      simpa [storeVar, sizeOf, typeInfo, hq', h3s, Value.cells] using hrun
  · refine ⟨some ⟨b, off, none⟩, cap, b :: (q1 ++ f' ++ q2), ?_, by simpa using hcap, .inr ⟨b, off, _, by simp [hne], rfl, rfl, harr'⟩, ⟨fun x hx => ?_, fun x hx => ?_, fun hn => ?_⟩, ?_⟩
    · rw [hown.1]; simp
    · simp at hx; subst hx; exact S.inM hrb
    · refine S.inM (InM.or.2 ?_)
      rcases List.mem_append.1 hx with hx | hx
      · rcases List.mem_append.1 hx with hx | hx
        · exact .inl (hrt.2.1 x (by simp [hq, hx]))
        · exact .inr (hel.1 x hx)
      · exact .inl (hrt.2.1 x (by simp [hq, hx]))
    · obtain ⟨n1, n2, n3⟩ := and3_eq.1 hn
      have hd := hrt.2.2 n1
      rw [hq] at hd
      have hall := hrt.all.1
      have dis : ∀ x, x ∈ b :: fp' → x ∉ f' := fun x hx hx' => InM.disj R.Hmono n3 (hall x hx) (hel.1 x hx')
      rw [hq] at dis
      obtain ⟨d1, d2⟩ := List.nodup_cons.1 hd
      obtain ⟨d3, d4, d5⟩ := List.nodup_append.1 d2
      obtain ⟨d6, d7, d8⟩ := List.nodup_append.1 d3
      refine List.nodup_cons.2 ⟨fun hm => ?_, List.nodup_append.2 ⟨List.nodup_append.2 ⟨d6, hel.2 n2, fun x hx y hy e => ?_⟩, d4, fun x hx y hy e => ?_⟩⟩
      · rcases List.mem_append.1 hm with hm | hm
        · rcases List.mem_append.1 hm with hm | hm
          · exact d1 (by simp [hm])
          · exact hbf hm
        · exact d1 (by simp [hm])
      · subst e; exact dis x (by simp [hx]) hy
      · subst e
        rcases List.mem_append.1 hx with hx | hx
        · exact d5 x (by simp [hx]) x hy rfl
        · exact dis x (by simp [hy]) hx
    · have := S.own hown
      simpa using this

theorem store_eli (hT : TyOk P TY) (R : Rel C n γ s a w) {ty : Nat} {p v : Value} {kk : IntKind} {ns : List Int} {r m d i : Nat} {x : Int} {nd : Bool} (hs : shape (TY ty).k (.int kk x) = true)
    (hp : ElR C γ s.now w (.ints kk ns (.iv r m nd (.id d))) 1 i 0 p) (hv : Rel3 C γ s.now w (.int kk x) v) (hr : noBits r 3 = true) :
    ∃ b off w', p = .pointer (some ⟨b, off, none⟩) ∧ (storeVar ty ⟨b, off, none⟩ v).run P w = .ok () w' ∧
      Rel C n γ ⟨fun j => (s.t j).ws d r (.ints kk (ns.set i x) (.iv r m nd (.id d))), fun j => (s.h j).ws d r (.ints kk (ns.set i x) (.iv r m nd (.id d))),
        wsL d r (.ints kk (ns.set i x) (.iv r m nd (.id d))) s.fh, s.now⟩ a w' := by
  obtain ⟨b, off, len, cap, ⟨a0, cap0, fp, e, hcap, hels, hrt, hown⟩, hi, rfl⟩ := hp
  simp only [Value.slice.injEq] at e
  obtain ⟨rfl, rfl, rfl⟩ := e
  have hv : v = .int kk x := hv
  subst hv
  rcases hels with ⟨rfl, _⟩ | ⟨b0, off0, hne, e, rfl, harr⟩
  · simp at hi
  cases e
  have hrb : InM C γ s.now w r b := hrt.1 b (by simp)
  have hyoung := R.young hr hrb
  have hbl := block_lt (harr i hi).1
  obtain ⟨c, ty0, hb⟩ := R.plain b hyoung hbl (by have := (harr i hi).2; omega)
  have hsz : off + i + 1 ≤ c.size := by
    have h3 := (harr i hi).1
    rw [cell_of_row w b _ _ ty0 _ hb] at h3
    have := (Array.getElem?_eq_some_iff.1 h3).1
    omega
  have h3s : (P.info? ty).map (·.size) = some 1 := by
    rcases shape_cases hs with ⟨zs, fs, hk, e, hl⟩ | ⟨z, hk, hf⟩
    · cases e
    · exact size_of_sc hT hk
  obtain ⟨w1, hrun, M⟩ := store_mid (P := P) (w := w) (o := off + i) (vs := [.int kk x]) hb hsz (by intro x hx; simp at hx; subst hx; rfl)
  have hlim : 0 < γ.lim b := by have := (harr i hi).2; omega
  have S := M.wstep R hlim
  refine ⟨b, off + i, w1, by simp, ?_, R.write S hr (fun x (hx : x = b) => hx ▸ hrb) ?_ (fun _ _ e => by cases e)⟩
  · cases hq' : P.info? ty with
    | none => simp [hq'] at h3s
    | some j =>
      have h3s : j.size = 1 := by simpa [hq'] using h3s
      simpa [storeVar, sizeOf, typeInfo, hq', h3s, Value.cells] using hrun
  · refine ⟨some ⟨b, off, none⟩, cap, [b], ?_, by simpa using hcap, .inr ⟨b, off, by simp [hne], rfl, rfl, fun j hj => ?_⟩, S.rt hrt, by have := S.own hown; simpa using this⟩
    · rw [hown.1]; simp
    · have hj : j < ns.length := by simpa using hj
      refine ⟨?_, (harr j hj).2⟩
      by_cases e : j = i
      · subst e
        have := M.new 0 _ rfl
        simp only [Nat.add_zero] at this
        rw [this, List.getD_eq_getElem?_getD, List.getElem?_set_self hi]; rfl
      · have := M.keep (off + j) _ (by simp; omega) (harr j hj).1
        rw [this]
        simp [List.getD_eq_getElem?_getD, List.getElem?_set_ne (Ne.symm e)]
theorem store_ok (hT : TyOk P TY) (R : Rel C n γ s a w) {ty : Nat} {x y : Operand} (ho : o.op = .store ty x y) (h : aop G TY dr s o K) : OpOk P C n a w o K := by
  simp only [aop, ho] at h
  split at h
  case h_2 => exact h.elim
  rename_i hs
  have hx := R.get x
  have hy := R.get y
  revert h
  generalize s.get x = p at hx
  generalize s.get y = u at hy hs
  intro h
  have done : ∀ {w' : World} {s' : AS}, (∃ b off, a.eval x = .pointer (some ⟨b, off, none⟩) ∧ (storeVar ty ⟨b, off, none⟩ (a.eval y)).run P w = .ok () w') → K .top s' → Rel C n γ s' a w' → OpOk P C n a w o K := by
    intro w' s' ⟨b, off, h1, h2⟩ hK hR
    exact ⟨.skip, undef, w', .top, s', γ, by simp [execOp, ho, Instr.storeAt, h1, Instr.sureAddr, h2], .inr ⟨rfl, rfl⟩, hK, hR, trivial⟩
  cases p <;> simp only [deref, setH] at h <;> try exact h.elim
  case ptr i =>
    split at h
    case h_2 => exact h.elim
    rename_i hs0
    have hne : s.h i ≠ .top := fun e => by rw [e] at hs0; exact shape_not_top hs0
    obtain ⟨w', cs, h1, h2, h3⟩ := store_whole hT hs hs0 hy (R.h i hne).1
    exact done ⟨_, 0, hx, h1⟩ h (R.setLocal hne h2 h3)
  case fptr i =>
    split at h
    case h_2 => exact h.elim
    rename_i hs0
    have hg := getD_some (l := s.fh) (j := i) rfl (fun e => by rw [e] at hs0; exact shape_not_top hs0)
    obtain ⟨w', cs, h1, h2, h3⟩ := store_whole hT hs hs0 hy (R.f i _ hg).1
    exact done ⟨_, 0, hx, h1⟩ h (R.setForeign hg h2 h3)
  case fld i j =>
    split at h
    case h_2 => exact h.elim
    rename_i fs hfs
    split at h
    case h_2 => exact h.elim
    rename_i hs0
    have hne : s.h i ≠ .top := fun e => by rw [hfs] at e; cases e
    have hv := (R.h i hne).1
    rw [hfs] at hv
    obtain ⟨w', cs, h1, h2, h3⟩ := store_field hT hs hs0 hy hv
    exact done ⟨_, j, hx, h1⟩ h (R.setLocal hne h2 h3)
  case ffld i j =>
    split at h
    case h_2 => exact h.elim
    rename_i fs hfs
    split at h
    case h_2 => exact h.elim
    rename_i hs0
    have hg := getD_some hfs (fun e => by cases e)
    obtain ⟨w', cs, h1, h2, h3⟩ := store_field hT hs hs0 hy (R.f i _ hg).1
    exact done ⟨_, j, hx, h1⟩ h (R.setForeign hg h2 h3)
  case cel u =>
    split at h <;> exact h.elim
  case elf ts g i j =>
    split at h
    case h_4 => exact h.elim
    all_goals (split at h <;> exact h.elim)
  case elp ts g i =>
    split at h
    case h_2 => exact h.elim
    split at h
    case h_2 => exact h.elim
    rename_i r m nd d k nn us h' _ 
    split at h
    case h_2 => exact h.elim
    rename_i m' nd' hw hr hnr
    split at h
    case h_2 => exact h.elim
    rename_i hrm
    have hnr : nd = true ∨ noBits r m = true := by cases nd <;> first | exact .inl rfl | exact .inr hnr
    obtain ⟨b, off, w', q1, q2, q3⟩ := store_elp hT R hs hx hy hw hr hnr hrm
    exact done ⟨b, off, q1, q2⟩ h q3
  case eli k ns g i =>
    split at h
    case h_2 => exact h.elim
    split at h
    case h_2 => exact h.elim
    rename_i r m nd d k' x
    split at h
    case h_2 => exact h.elim
    rename_i hr hkk
    obtain rfl := ikEq_iff.1 hkk
    obtain ⟨b, off, w', q1, q2, q3⟩ := store_eli hT R hs hx hy hr
    exact done ⟨b, off, q1, q2⟩ h q3
end
end Go.Dk
