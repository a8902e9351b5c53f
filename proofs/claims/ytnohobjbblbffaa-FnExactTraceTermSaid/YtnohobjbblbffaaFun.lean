/- A function's body answers: its contract is sound. -/
import Derived.Test.YtnohobjbblbffaaCode
set_option linter.unusedSimpArgs false
set_option linter.unusedVariables false
namespace Go.Dk
section
variable {P : Program} {C : Fr} {n : Nat} {TY : Nat → TyI} {G : List (Nat × Con)} {s : AS} {γ : Gh} {a : Act} {w : World}

/-- The end of a call: the one slice that may keep its spare is number 0. -/
def Gh.fin (γ : Gh) (k : Option Nat) : Gh :=
  { lim := γ.lim, loc := γ.loc, ow := fun b => match k with | some k => (if γ.ow b = some k then some 0 else none) | none => none, vid := fun j => match k with | some k => γ.vid k | none => γ.vid j, H := fun e => if e < 3 then γ.H e else 0 }
section
variable (k : Option Nat)
theorem InM.fin (R : Rel C n γ s a w) {x b : Nat} (h : InM C γ s.now w x b) (hb : b < w.heap.size) : InM C (γ.fin k) 3 w (Dk.c3 x) b := by
  obtain ⟨e, h1, h2⟩ := InM.c3 (γ' := γ.low) R.wk h hb
  exact ⟨e, h1, h2⟩
theorem own_out (R : Rel C n γ s a w) {es : Nat} {x : Option Addr} {len cap : Nat} {o : Own} (h : OwnOk γ w es x len cap o) : OwnOk (γ.fin k) w es x len cap (o.out k) := by
  have key : ∀ j, (len < cap → 0 < len ∧ ∃ b c ty, x = some ⟨b, 0, none⟩ ∧ γ.ow b = some j ∧ w.heap[b]? = some (.cells c ty (0, 0)) ∧ c.size = cap * es ∧ γ.lim b = len * es) →
      OwnOk (γ.fin k) w es x len cap (match k with | some k => (match Nat.beq j k with | true => .tok 0 | false => .no) | none => .no) := by
    intro j h
    cases k with
    | none => trivial
    | some k =>
      cases hb : Nat.beq j k with
      | false => simp only [hb]; trivial
      | true =>
        have e : j = k := Nat.eq_of_beq_eq_true hb
        subst e
        simp only [hb]
        intro hlt
        obtain ⟨h0, b, c, ty, h1, h2, h3, h4, h5⟩ := h hlt
        exact ⟨h0, b, c, ty, h1, if_pos h2, h3, h4, h5⟩
  cases o with
  | no => trivial
  | full => exact h
  | tok j => exact key j h
  | id j => exact key j h.2
theorem tag_out {es : Nat} {x : Option Addr} {len cap : Nat} {fp : List Nat} {g : Tag} (R : Rel C n γ s a w) (h : TagOk C γ s.now w es x len cap fp g) (hfp : ∀ b ∈ fp, b < w.heap.size) : TagOk C (γ.fin k) 3 w es x len cap fp (g.out k) := by
  cases g with
  | any => trivial
  | el m nd o => trivial
  | arg i =>
    refine ⟨h.1, fun b hb => ?_⟩
    have := InM.two.1 (h.2 b hb)
    exact InM.two.2 ⟨this.1, this.2⟩
  | iv r m nd o =>
    exact ⟨⟨fun b hb => InM.fin k R (h.1.1 b hb) (hfp b (List.mem_of_mem_head? hb)), fun b hb => InM.fin k R (h.1.2.1 b hb) (hfp b (List.mem_of_mem_tail hb)), h.1.2.2⟩, own_out k R h.2⟩
theorem relS_out (R : Rel C n γ s a w) {u : AV} {v : Value} (h : RelS C γ s.now w u v) : RelS C (γ.fin k) 3 w (out1 k u) v := by
  cases u <;> first | trivial | exact h | skip
  · obtain ⟨x, cap, fp, h1, h2, h3, h4⟩ := h
    exact ⟨x, cap, fp, h1, h2, h3, tag_out k R h4 h3.lt⟩
  · obtain ⟨x, cap, fp, h1, h2, h3, h4⟩ := h
    exact ⟨x, cap, fp, h1, h2, h3, tag_out k R h4 h3.lt⟩
theorem relSL_out (R : Rel C n γ s a w) : ∀ {fs : List AV} {cs : List Value}, All2 (RelS C γ s.now w) fs cs → All2 (RelS C (γ.fin k) 3 w) (out1L k fs) cs
  | [], [], _ => trivial
  | _ :: _, _ :: _, ⟨h1, h2⟩ => ⟨relS_out k R h1, relSL_out R h2⟩
theorem out2_eq {u : AV} (hu : ∀ fs, u ≠ .st fs) : out2 k u = out1 k u := by cases u <;> first | rfl | exact absurd rfl (hu _)
theorem out1_ne {u : AV} (hu : ∀ fs, u ≠ .st fs) : ∀ fs, out1 k u ≠ .st fs := by cases u <;> first | nofun | exact absurd rfl (hu _)
theorem rel2_out (R : Rel C n γ s a w) {u : AV} {v : Value} (h : Rel2 C γ s.now w u v) : Rel2 C (γ.fin k) 3 w (out2 k u) v := by
  by_cases hu : ∃ fs, u = .st fs
  · obtain ⟨fs, rfl⟩ := hu; obtain ⟨cs, h1, h2⟩ := h; exact ⟨cs, h1, relSL_out k R h2⟩
  · have hu : ∀ fs, u ≠ .st fs := fun fs e => hu ⟨fs, e⟩
    rw [out2_eq k hu, Rel2_eq (out1_ne k hu)]; rw [Rel2_eq hu] at h; exact relS_out k R h
theorem rel2L_out (R : Rel C n γ s a w) : ∀ {fs : List AV} {cs : List Value}, All2 (Rel2 C γ s.now w) fs cs → All2 (Rel2 C (γ.fin k) 3 w) (out2L k fs) cs
  | [], [], _ => trivial
  | _ :: _, _ :: _, ⟨h1, h2⟩ => ⟨rel2_out k R h1, rel2L_out R h2⟩
theorem flat_out (R : Rel C n γ s a w) {u : AV} {cs : List Value} (h : FlatR C γ s.now w u cs) : FlatR C (γ.fin k) 3 w (out2 none u) cs := by
  have key : ∀ {u : AV} {v : Value}, RelS C γ s.now w u v → RelS C (γ.fin k) 3 w (out1 none u) v := by
    intro u v h
    have hO : ∀ {es : Nat} {x : Option Addr} {len cap : Nat} {o : Own}, OwnOk γ w es x len cap o → OwnOk (γ.fin k) w es x len cap (o.out none) := by
      intro es x len cap o h
      cases o <;> first | trivial | exact h
    have hT : ∀ {es : Nat} {x : Option Addr} {len cap : Nat} {fp : List Nat} {g : Tag}, TagOk C γ s.now w es x len cap fp g → (∀ b ∈ fp, b < w.heap.size) → TagOk C (γ.fin k) 3 w es x len cap fp (g.out none) := by
      intro es x len cap fp g h hfp
      have := tag_out k R h hfp
      cases g with
      | any => trivial
      | el m nd o => trivial
      | arg i => exact this
      | iv r m nd o => exact ⟨this.1, hO h.2⟩
    cases u <;> first | trivial | exact h | skip
    · obtain ⟨x, cap, fp, h1, h2, h3, h4⟩ := h
      exact ⟨x, cap, fp, h1, h2, h3, hT h4 h3.lt⟩
    · obtain ⟨x, cap, fp, h1, h2, h3, h4⟩ := h
      exact ⟨x, cap, fp, h1, h2, h3, hT h4 h3.lt⟩
  have keyL : ∀ {fs : List AV} {cs : List Value}, All2 (RelS C γ s.now w) fs cs → All2 (RelS C (γ.fin k) 3 w) (out1L none fs) cs := by
    intro fs
    induction fs with
    | nil => intro cs h; cases cs <;> exact h
    | cons u r ih => intro cs h; cases cs with
      | nil => exact h.elim
      | cons c cs => exact ⟨key h.1, ih h.2⟩
  by_cases hu : ∃ fs, u = .st fs
  · obtain ⟨fs, rfl⟩ := hu; exact keyL h
  · have hu : ∀ fs, u ≠ .st fs := fun fs e => hu ⟨fs, e⟩
    rw [out2_eq none hu, FlatR_eq (out1_ne none hu)]; rw [FlatR_eq hu] at h
    obtain ⟨v, h1, h2⟩ := h
    exact ⟨v, h1, key h2⟩
theorem var_out (R : Rel C n γ s a w) {b : Nat} {u : AV} (h : VarR C γ s.now w b u) : VarR C (γ.fin k) 3 w b (out2 none u) := by
  obtain ⟨cs, ty, h1, h2⟩ := h
  exact ⟨cs, ty, h1, flat_out k R h2⟩
end
theorem out2L_get {k : Option Nat} : ∀ (l : List AV) (i : Nat), (out2L k l)[i]? = (l[i]?).map (out2 k)
  | [], i => by simp [out2L]
  | v :: r, 0 => by simp [out2L]
  | v :: r, i + 1 => by simpa [out2L] using out2L_get r i
theorem out2L_length {k : Option Nat} : ∀ (l : List AV), (out2L k l).length = l.length
  | [] => rfl
  | v :: r => by simp [out2L, out2L_length r]

/-- The results, one by one. -/
theorem resL_ok (hT : TyOk P TY) (R : Rel C n γ s a w) : ∀ (rs : List ResultVar) (K : List AV → Prop), resL TY s rs K →
    ∃ avs vs, K avs ∧ (rs.mapM (m := Sem) (fun | .tmp t => pure (a.tmps.getD t undef) | .cell x t => do loadVar t (← asAddr (a.tmps.getD x undef)))).run P w = .ok vs w ∧ All2 (Rel3 C γ s.now w) avs vs ∧
      ∀ j, .ptr j ∈ avs → s.h j ≠ .top
  | [], K, h => ⟨[], [], h, by simp, trivial, fun j hj => by simp at hj⟩
  | .tmp i :: rs, K, h => by
    have key : ∃ v, resL TY s rs (fun vs => K (v :: vs)) ∧ s.t i = v ∧ (∀ j, v = .ptr j → s.h j ≠ .top) := by
      simp only [resL, resAV] at h
      split at h
      · rename_i j hj
        split at h
        · rename_i hf
          exact ⟨_, h, hj, fun k e => by cases e; intro e; rw [e] at hf; cases hf⟩
        · exact h.elim
      · rename_i hn
        exact ⟨_, h, rfl, fun j e => absurd e (hn j)⟩
    obtain ⟨v, h1, h2, h3⟩ := key
    obtain ⟨avs, vs, k1, k2, k3, k4⟩ := resL_ok hT R rs _ h1
    refine ⟨v :: avs, _ :: vs, k1, ?_, ⟨h2 ▸ R.t i, k3⟩, fun j hj => ?_⟩
    · simp only [List.mapM_cons, Sem.run_bind, Sem.run_pure, Result.andThen_ok, k2]
    · rcases List.mem_cons.1 hj with e | hj
      · exact h3 j e.symm
      · exact k4 j hj
  | .cell i ty :: rs, K, h => by
    have key : ∃ j, s.t i = .ptr j ∧ shape (TY ty).k (s.h j) = true ∧ (∀ k, s.h j ≠ .ptr k) ∧ resL TY s rs (fun vs => K (s.h j :: vs)) := by
      simp only [resL, resAV] at h
      split at h
      · rename_i j hj
        split at h
        · rename_i hs
          split at h
          · exact h.elim
          · rename_i hn; exact ⟨j, hj, hs, hn, h⟩
        · exact h.elim
      · exact h.elim
    obtain ⟨j, hj, hs, hn, h1⟩ := key
    obtain ⟨avs, vs, k1, k2, k3, k4⟩ := resL_ok hT R rs _ h1
    have hp := R.t i
    rw [hj] at hp
    have hp : a.tmps.getD i undef = .pointer (some ⟨γ.loc j, 0, none⟩) := hp
    obtain ⟨v, g1, g2⟩ := load_run hT hs (R.h j (fun e => by rw [e] at hs; exact shape_not_top hs)).1.place
    have ha : (asAddr (a.tmps.getD i undef)).run P w = .ok ⟨γ.loc j, 0, none⟩ w := by rw [hp]; rfl
    refine ⟨s.h j :: avs, v :: vs, k1, ?_, ⟨g2, k3⟩, fun k hk => ?_⟩
    · simp only [List.mapM_cons, Sem.run_bind, ha, Sem.run_pure, Result.andThen_ok, g1, k2]
    · rcases List.mem_cons.1 hk with e | hk
      · exact absurd e.symm (hn k)
      · exact k4 k hk

theorem Rel.fin_wk (R : Rel C n γ s a w) (k : Option Nat) : Wk (γ.fin k) 3 (γ.fin k) :=
  { lim := rfl, loc := rfl, ow := rfl, vid := rfl, H2 := rfl, two := Nat.le_refl _, mono := fun e e' h he => by
      show (if e < 3 then γ.H e else 0) ≤ (if e' < 3 then γ.H e' else 0)
      have := R.two
      rw [if_pos he, if_pos (by omega)]; exact R.Hmono e e' h (by omega) }
theorem relOut_wk (W : Wk γ 3 γ) {r r' : AV} {v : Value} (h : RelOut C γ w r v) (hl : wk3 r r') : RelOut C γ w r' v := by
  by_cases e : ∃ x, r = .newp x
  · obtain ⟨x, rfl⟩ := e
    cases r' with
    | newp y =>
      obtain ⟨b, k1, k2, k3, k5, k4⟩ := h
      exact ⟨b, k1, k2, k3, k5, VarR.wk W k4 hl⟩
    | top => trivial
    | _ => exact (show False from hl).elim
  · have e1 : RelOut C γ w r v = Rel3 C γ 3 w r v := by cases r <;> first | rfl | exact absurd ⟨_, rfl⟩ e
    rw [e1] at h
    have := Rel3.wk W h hl
    cases r' <;> first | exact this | exact (show False from this).elim
theorem rel3_out2 (R : Rel C n γ s a w) (k : Option Nat) {u : AV} {v : Value} (h : Rel3 C γ s.now w u v) : Rel2 C (γ.fin k) 3 w (out2 k u) v := by
  by_cases hu : ∃ fs, u = .tup fs
  · obtain ⟨fs, rfl⟩ := hu; trivial
  · rw [Rel3_eq fun fs e => hu ⟨fs, e⟩] at h; exact rel2_out k R h
theorem rel3L_out2 (R : Rel C n γ s a w) (k : Option Nat) : ∀ {fs : List AV} {cs : List Value}, All2 (Rel3 C γ s.now w) fs cs → All2 (Rel2 C (γ.fin k) 3 w) (out2L k fs) cs
  | [], [], _ => trivial
  | _ :: _, _ :: _, ⟨h1, h2⟩ => ⟨rel3_out2 R k h1, rel3L_out2 R k h2⟩

/-- A body that answers as its contract says. -/
theorem body_calls (hm : P.follows .mixedOrders = true) (hG : ∀ p ∈ G, Sound P p.1 p.2) (hT : TyOk P TY) {f : Nat} {fn : Func} {c : Code} (hf : P.funcs[f]? = some fn) (hb : fn.body = some c)
    {args hs : List AV} {K : AV → List AV → Prop} (hl : args.length ≤ fn.ntmps) {A : List (Nat × LA)} (h : bodyP G TY A fn c args hs K) {C : Fr} {vals : List Value} (hC : FrOk C) (hn : C.nf = hs.length)
    (ha : All2 (Rel3 C C.g0 3 C.w0) args vals) (hh : ∀ (i : Nat) u, hs[i]? = some u → VarR C C.g0 3 C.w0 (C.floc i) u) :
    Calls P f vals.toArray C.w0 fun e w' => ∃ r hs' v γ', e = .returned v ∧ K r hs' ∧ OutOk C γ' w' r v hs' := by
  have hvl : vals.length = args.length := ha.length.symm
  have getL_get : ∀ (l : List AV) (i : Nat), getL l i = l.getD i .top := by
    intro l
    induction l with
    | nil => intro i; simp [getL]
    | cons v r ih => intro i; cases i with
      | zero => rfl
      | succ i => simpa [getL] using ih i
  have R0 : Rel C fn.ntmps C.g0 (init args hs) { tmps := vals.toArray ++ Array.replicate (fn.ntmps - vals.toArray.size) undef, defers := [] } C.w0 :=
    { tn := by simp; omega
      t := fun i => by
        show Rel3 C C.g0 3 C.w0 (getL args i) _
        rw [getL_get, List.getD_eq_getElem?_getD]
        cases hi : args[i]? with
        | none => trivial
        | some u =>
          obtain ⟨v, h1, h2⟩ := ha.get i u hi
          have hlt : i < vals.length := (List.getElem?_eq_some_iff.1 h1).1
          rw [Array.getD_eq_getD_getElem?, Array.getElem?_append_left (by simpa using hlt)]
          simp only [List.getElem?_toArray, h1]
          exact h2
      d := rfl
      h := fun i hi => absurd rfl hi
      inj := fun i j hi => absurd rfl hi
      fl := hn.symm
      f := fun i u hu => by
        have hi : i < C.nf := by rw [hn]; exact (List.getElem?_eq_some_iff.1 hu).1
        obtain ⟨h1, h2⟩ := hC.lt i hi
        exact ⟨hh i u hu, h2, h1⟩
      finj := hC.inj
      two := Nat.le_refl _
      H2 := rfl
      plain := fun b h1 h2 => by omega
      Hle := fun e _ => by
        show (if e < 2 then 0 else C.w0.heap.size) ≤ _
        split <;> omega
      Hmono := fun e e' he _ => by
        show (if e < 2 then 0 else C.w0.heap.size) ≤ (if e' < 2 then 0 else C.w0.heap.size)
        split <;> split <;> omega
      lim0 := fun _ _ => rfl
      limz := hC.limz
      ow := fun b k hk => by cases hk
      kept := ⟨rfl, rfl, rfl, Nat.le_refl _, fun _ _ _ => rfl⟩ }
  refine calls_of_wp hf hb (code_wp hm hG hT c _ _ (fun e s γ a w hq R => ?_) _ _ _ _ h R0)
  have key : resP TY fn.results.toList K s → a.defers = [] ∧ ∃ v, (results fn a.tmps).run P w = .ok v w ∧ ∃ r hs' v' γ', Ending.returned v = .returned v' ∧ K r hs' ∧ OutOk C γ' w r v' hs' := by
    intro hr
    obtain ⟨avs, vs, k1, k2, k3, k4⟩ := resL_ok hT R _ _ hr
    have hrun : (results fn a.tmps).run P w = .ok (if h : vs.toArray.size = 1 then vs.toArray[0] else .tuple vs.toArray) w := by
      have e : (fn.results.mapM (m := Sem) (fun | .tmp t => pure (a.tmps.getD t undef) | .cell x t => do loadVar t (← asAddr (a.tmps.getD x undef)))).run P w = .ok vs.toArray w := by
        rw [Array.mapM_eq_mapM_toList]
        simp only [map_eq_pure_bind, Sem.run_bind, k2, Result.andThen_ok, Sem.run_pure]
      unfold results
      rw [Sem.run_bind]
      exact (congrArg (fun r => Result.andThen r _) e).trans rfl
    have fin : ∀ (k : Option Nat) (r : AV) (v : Value), RelOut C (γ.fin k) w r v → Ret K r (out2L none s.fh) → ∃ r hs' v' γ', Ending.returned v = .returned v' ∧ K r hs' ∧ OutOk C γ' w r v' hs' := by
      rintro k r v hrel ⟨⟨r', hs', q1, q2, q3⟩⟩
      have W2 := R.fin_wk k
      have hlen := wkFL_length q2
      rw [out2L_length] at hlen
      refine ⟨r', hs', v, γ.fin k, rfl, q3, R.lim0, R.limz, R.H2, R.plain, fun b j hb => ?_, R.kept, relOut_wk W2 hrel q1, by rw [← hlen]; exact R.fl, fun i u hu => ?_⟩
      · cases k with
        | none => cases hb
        | some k =>
          have hb : (if γ.ow b = some k then some 0 else none) = some j := hb
          split at hb
          · rename_i h0; exact R.ow b k h0
          · cases hb
      obtain ⟨u0, g1, g2⟩ := wkFL_get q2 i u hu
      rw [out2L_get] at g1
      cases hfi : s.fh[i]? with
      | none => rw [hfi] at g1; cases g1
      | some u1 =>
        rw [hfi] at g1
        cases g1
        exact VarR.wk W2 (var_out k R (R.f i u1 hfi).1) g2
    have hlen := k3.length
    refine ⟨R.d, _, hrun, ?_⟩
    split at k1
    · rename_i av
      rw [force_eq] at k1
      match vs, k3, hlen with
      | [v], ⟨h1, _⟩, _ =>
        by_cases hp : ∃ j, av = .ptr j
        · obtain ⟨j, rfl⟩ := hp
          have hj := k4 j (by simp)
          obtain ⟨g1, g2, g3, g4⟩ := R.h j hj
          exact fin none (.newp (out2 none (s.h j))) v ⟨γ.loc j, h1, g2, g3, rfl, var_out none R g1⟩ k1
        · by_cases ht : ∃ fs, av = .tup fs
          · obtain ⟨fs, rfl⟩ := ht
            obtain ⟨us, e1, e2⟩ := h1
            exact fin (tokN3 (.tup fs)) (.tup (out2L (tokN3 (.tup fs)) fs)) v ⟨us, e1, rel2L_out _ R e2⟩ k1
          · have ht : ∀ fs, av ≠ .tup fs := fun fs e => ht ⟨fs, e⟩
            rw [Rel3_eq ht] at h1
            have h2 := rel2_out (tokN2 av) R h1
            have e : out3 s av = out2 (tokN2 av) av := by cases av <;> first | rfl | exact absurd rfl (ht _) | exact absurd ⟨_, rfl⟩ hp
            refine fin (tokN2 av) _ v ?_ k1
            rw [e]
            have h3 : ∀ fs, out2 (tokN2 av) av ≠ .tup fs := by cases av <;> first | nofun | exact absurd rfl (ht _)
            have h4 : ∀ x, out2 (tokN2 av) av ≠ .newp x := by cases av <;> nofun
            rw [← Rel3_eq h3] at h2
            revert h2 h4
            generalize out2 (tokN2 av) av = q
            intro h2 h4
            cases q <;> first | exact h2 | exact absurd rfl (h4 _)
    · rename_i hne
      rw [force_eq] at k1
      have hsz : vs.toArray.size ≠ 1 := by
        intro e
        match avs, vs, k3, hne, e with
        | [], [], _, _, e => simp at e
        | [a], [v], _, hne, _ => exact hne a rfl
        | _ :: _ :: _, _ :: _ :: _, _, _, e => simp at e
      rw [dif_neg hsz]
      exact fin (tokN3 (.tup avs)) (.tup (out2L (tokN3 (.tup avs)) avs)) (.tuple vs.toArray) ⟨vs, rfl, rel3L_out2 R _ k3⟩ k1
  cases e with
  | normal => exact key hq
  | ret => exact key hq
  | exit i => exact (show False from hq).elim
theorem sound_of_body (hm : P.follows .mixedOrders = true) (hG : ∀ p ∈ G, Sound P p.1 p.2) (hT : TyOk P TY) {f : Nat} {fn : Func} {c : Code} {con : Con} (hf : P.funcs[f]? = some fn) (hname : (fn.name == "runtime.NumGoroutine") = false) (hb : fn.body = some c)
    (h : ∀ args hs K, con args hs K → args.length ≤ fn.ntmps ∧ ∃ A, bodyP G TY A fn c args hs K) : Sound P f con :=
  ⟨⟨fn, hf, hname, by rw [hb]; rfl⟩, fun args hs K hc C vals hC hn ha hh => by
    obtain ⟨h1, A, h2⟩ := h args hs K hc
    exact body_calls hm hG hT hf hb h1 h2 hC hn ha hh⟩
theorem sound_union {f : Nat} {c : Nat → Con} (h : ∀ k, Sound P f (c k)) : Sound P f fun args hs K => ∃ k, c k args hs K :=
  ⟨(h 0).1, fun args hs K ⟨k, hk⟩ => (h k).2 args hs K hk⟩
end
end Go.Dk
