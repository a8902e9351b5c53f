/- A call, as an operation. -/
import Derived.Test.YteamklllllembaaDoorCall
namespace Go.Dk
section
variable {P : Program} {C : Fr} {n : Nat} {γ : Gh} {s : AS} {a : Act} {w : World} {TY : Nat → TyI} {G : List (Nat × Con)} {dr : Bool} {o : Oper} {K : AV → AS → Prop}

theorem wb_ok (now al : Nat) (X Y : Nat → AV → Prop) : ∀ (ps : List (Bool × Nat)) (hs : List AV) (s : AS) (K : AS → Prop), wb now al ps hs s K →
    (∀ (j : Nat) p v, ps[j]? = some p → hs[j]? = some v → (p.1 = true → X p.2 (ret2 false now al none [] v)) ∧ (p.1 = false → Y p.2 (ret2 false now al none [] v))) →
    (∀ i, s.h i ≠ .top → (true, i) ∉ ps → X i (s.h i)) → (∀ (i : Nat) v, s.fh[i]? = some v → (false, i) ∉ ps → Y i v) →
    ∃ s', K s' ∧ s'.t = s.t ∧ s'.now = s.now ∧ s'.fh.length = s.fh.length ∧ (∀ i, s'.h i ≠ .top → X i (s'.h i)) ∧ (∀ (i : Nat) v, s'.fh[i]? = some v → Y i v)
  | [], hs, s, K, h, _, h2, h3 => by
    have h : K s := by cases hs <;> exact h
    exact ⟨s, h, rfl, rfl, rfl, fun i hi => h2 i hi (by simp), fun i v hv => h3 i v hv (by simp)⟩
  | (b, i) :: r, [], s, K, h, _, _, _ => by cases b <;> exact h.elim
  | (true, i) :: r, v :: hs, s, K, h, h1, h2, h3 => by
    simp only [wb, force_eq] at h
    obtain ⟨s', k1, k2, k3, k4, k5, k6⟩ := wb_ok now al X Y r hs _ K h (fun j p u hp hu => h1 (j + 1) p u (by simpa using hp) (by simpa using hu))
      (fun j hj hm => by
        by_cases e : j = i
        · subst e
          show X j (upd s.h j (ret2 false now al none [] v) j)
          rw [upd_same]
          exact (h1 0 (true, j) v rfl rfl).1 rfl
        · have hj : upd s.h i (ret2 false now al none [] v) j ≠ .top := hj
          show X j (upd s.h i (ret2 false now al none [] v) j)
          rw [upd_ne e] at hj ⊢
          exact h2 j hj (by simp [hm, e]))
      (fun j u hu hm => h3 j u hu (by simp [hm]))
    exact ⟨s', k1, k2, k3, k4, k5, k6⟩
  | (false, i) :: r, v :: hs, s, K, h, h1, h2, h3 => by
    simp only [wb, force_eq] at h
    obtain ⟨s', k1, k2, k3, k4, k5, k6⟩ := wb_ok now al X Y r hs _ K h (fun j p u hp hu => h1 (j + 1) p u (by simpa using hp) (by simpa using hu))
      (fun j hj hm => h2 j hj (by simp [hm]))
      (fun j u hu hm => by
        have hu : (s.fh.set i (ret2 false now al none [] v))[j]? = some u := hu
        by_cases e : j = i
        · subst e
          have hl : j < s.fh.length := by have := (List.getElem?_eq_some_iff.1 hu).1; simpa using this
          rw [List.getElem?_set_self hl] at hu
          cases hu
          exact (h1 0 (false, j) v rfl rfl).2 rfl
        · rw [List.getElem?_set_ne (Ne.symm e)] at hu
          exact h3 j u hu (by simp [hm, e]))
    exact ⟨s', k1, k2, k3, by rw [k4]; simp, k5, k6⟩

theorem svIn_cl {kt kp : Nat → Bool} : ∀ (fs : List AV) (cs : List Value), svIn (cl1L kt kp fs) cs = svIn fs cs
  | [], [] => rfl
  | [], _ :: _ => rfl
  | u :: fs, [] => by cases u <;> simp only [cl1L, AV.cl1, svIn] <;> (split <;> rfl)
  | u :: fs, c :: cs => by
    have ih := svIn_cl fs cs (kt := kt) (kp := kp)
    cases u <;> simp only [cl1L, AV.cl1] <;> first | rfl | exact ih | (split <;> exact ih)
theorem svOf_cl {kt kp : Nat → Bool} (u : AV) (v : Value) : svOf (u.cl kt kp) v = svOf u v := by
  cases u <;> simp only [AV.cl] <;> first | rfl | (split <;> rfl) | (cases v <;> first | rfl | exact svIn_cl _ _)
theorem okRet {now : Nat} {u : AV} {v : Value} {x : AV} (h : Rel3 C γ now w u v) (e : u = x) : Rel3 C γ now w x v := e ▸ h
theorem allRel_cl {now now' : Nat} {γ' : Gh} {w' : World} {kt kp : Nat → Bool} (S : Step γ now w γ' now' w' kt kp) : ∀ {args : List AV} {vals : List Value}, All2 (Rel3 C γ now w) args vals → All2 (Rel3 C γ' now' w') (clL kt kp args) vals
  | [], [], _ => trivial
  | _ :: _, _ :: _, ⟨h1, h2⟩ => ⟨Rel3.step S h1, allRel_cl S h2⟩
theorem acall_sound (hG : ∀ p ∈ G, Sound P p.1 p.2) (R : Rel C n γ s a w) {d : Option Nat} {f : Nat} {args : List AV} {vals : List Value} (hargs : All2 (Rel3 C γ s.now w) args vals) (h : acall G dr s d f args K) :
    HasFn P f ∧ Calls P f vals.toArray w fun e w' => ∃ av s' γ' v, e = .returned v ∧ K av s' ∧ Rel C n γ' s' a w' ∧ Rel3 C γ' s'.now w' av v := by
  unfold acall at h
  split at h
  case h_1 => exact h.elim
  case h_2 => exact h.elim
  rename_i hnd hok
  obtain ⟨c, hc, h⟩ := lkC_mem h
  obtain ⟨hfn, hs⟩ := hG _ hc
  refine ⟨hfn, ?_⟩
  have hall := okConts_all hok
  have hnd := nodupP_nodup hnd
  have hlen := hargs.length
  have hsz0 : NG ≤ w.heap.size := Nat.le_trans C.ng R.kept.size
  have hinv : Inv w := C.inv.of fun b hb => R.kept.block b (Nat.lt_of_lt_of_le hb C.ng) fun i hi e => by have := C.nfl i hi; omega
  have hnfl : ∀ p ∈ ptrsL args, NG ≤ bl C γ p := fun p hp => bl_glob R (hall p hp)
  let C' := calleeFr C γ s.now w args vals hinv hsz0 hnfl
  have hfl : ∀ (i : Nat) p, (ptrsL args)[i]? = some p → C'.floc i = bl C γ p := fun i p hp => by simp [C', calleeFr, hp]
  have hget : ∀ i, i < (ptrsL args).length → ∃ p, (ptrsL args)[i]? = some p ∧ p ∈ ptrsL args := fun i hi => ⟨_, List.getElem?_eq_getElem hi, List.getElem_mem hi⟩
  have hav : ∀ (i : Nat) u v, args[i]? = some u → vals[i]? = some v → C'.av i = svOf u v := fun i u v hu hv => by simp [C', calleeFr, hu, hv]
  have ham : ∀ b, C'.am b → InM C γ s.now w (allL s.now args) b := fun b hb => hb
  have hFr : FrOk C' :=
    { inj := fun i j hi hj e => by
        obtain ⟨p, hp, hpm⟩ := hget i hi
        obtain ⟨q, hq, hqm⟩ := hget j hj
        rw [hfl i p hp, hfl j q hq] at e
        have := bl_inj R (hall p hpm) (hall q hqm) e
        subst this
        exact (List.getElem?_inj hi hnd).1 (hp.trans hq.symm)
      lt := fun i hi => by
        obtain ⟨p, hp, hpm⟩ := hget i hi
        rw [hfl i p hp]
        obtain ⟨h1, h2, _⟩ := bl_facts R (hall p hpm)
        exact ⟨h1.lt, h2⟩
      limz := R.limz }
  have hg0 : C'.g0.H 2 = w.heap.size := rfl
  have hA := argsL_ok (C := C) (γ := γ) (C' := C') (γ' := C'.g0) R.two (rfl : C'.g0.lim = γ.lim) hg0 0 0 (fun b hb => hb) hargs (fun i q hq => by rw [Nat.zero_add]; exact hfl i q hq) (fun i u v hu hv => by rw [Nat.zero_add]; exact hav i u v hu hv)
  have hcon : ∀ (i : Nat) u, (conts s (ptrsL args))[i]? = some u → VarR C' C'.g0 3 w (C'.floc i) u := fun i u hu => by
    obtain ⟨b, j, h1, rfl⟩ := conts_get _ i u hu
    obtain ⟨⟨cs, ty, g1, g2⟩, _⟩ := bl_facts R (hall (b, j) (List.mem_of_getElem? h1))
    rw [hfl i _ h1]
    exact ⟨cs, ty, g1, cel2_flat (C := C) (γ := γ) (C' := C') (γ' := C'.g0) rfl g2⟩
  refine (hs _ _ _ h C' vals hFr (by rw [conts_length]; rfl) hA hcon).mono fun e w' ⟨r, hs', v, γ', he, hK, ho⟩ => ?_
  have hH2 : γ'.H 2 = w.heap.size := ho.H2
  have how : ∀ b k, γ'.ow b = some k → w.heap.size ≤ b := fun b k hb => (ho.ow b k hb).1
  have h2 := R.two
  have old : ∀ b, b < w.heap.size → (∀ i, i < C'.nf → b ≠ C'.floc i) → w'.heap[b]? = w.heap[b]? := ho.kept.block
  have nf : ∀ b, (γ.lim b ≠ 0 ∨ γ.ow b ≠ none) → ∀ i, i < C'.nf → b ≠ C'.floc i := fun b hb i hi e => by
    obtain ⟨p, hp, hpm⟩ := hget i hi
    rw [hfl i p hp] at e
    obtain ⟨_, h2, h3⟩ := bl_facts R (hall p hpm)
    rw [e] at hb
    rcases hb with hb | hb
    · exact hb h2
    · exact hb h3
  have S : ∀ (t : Option Nat) (q : Bool), Step γ s.now w (γ.back γ' w s.now t q (hdr3 r v)) (s.now + 1) w' (ktO t q) is0 := fun t q =>
      { lim := fun b => by
          show γ.lim b ≤ γ'.lim b
          by_cases hb : b < w.heap.size
          · rw [ho.lim0 b hb]; exact Nat.le_refl _
          · rw [R.limz b (by omega)]; exact Nat.zero_le _
        cell := fun b off hlt x hx => by
          have hb := block_lt hx
          rw [cell_block (old b hb (nf b (.inl (by omega))))]; exact hx
        size := ho.kept.size
        two := R.two
        le := by omega
        Hlt := fun e he => if_neg (by omega)
        Hge := fun e h1 h2 => by
          have : e = s.now := by omega
          show _ ≤ if e = s.now then _ else _
          rw [if_pos this]; exact Nat.le_refl _
        loc := fun _ _ => rfl
        ow := fun b k hb _ => by
          have hlt := (R.ow b k hb).2
          exact ⟨by show (if b < w.heap.size then _ else _) = _; rw [if_pos hlt]; exact hb, old b hlt (nf b (.inr (by rw [hb]; nofun))), ho.lim0 b hlt⟩
        vid := fun k hk => if_neg fun e => by obtain ⟨rfl, e⟩ := e; subst e; simp [ktO, is1] at hk }
  have hsz : w.heap.size ≤ w'.heap.size := ho.kept.size
  have hk0 := R.kept
  -- what stands in the variables
  have main : ∀ (t : Option Nat) (q : Bool) (KK : AS → Prop), wb s.now (allL s.now args) (ptrsL args) hs' { s with now := s.now + 1 } KK → ∃ s1, KK s1 ∧ s1.now = s.now + 1 ∧
      Rel C n (γ.back γ' w s.now t q (hdr3 r v)) ⟨fun j => (s1.t j).cl (ktO t q) is0, fun j => (s1.h j).cl (ktO t q) is0, clL (ktO t q) is0 s1.fh, s1.now⟩ a w' ∧ (∀ i, s1.h i ≠ .top → s.h i ≠ .top) := by
    intro t q KK hKK
    obtain ⟨s1, k1, k2, k3, k4, k5, k6⟩ := wb_ok s.now (allL s.now args) (fun i u => s.h i ≠ .top ∧ VarR C (γ.back γ' w s.now t q (hdr3 r v)) (s.now + 1) w' (γ.loc i) (u.cl (ktO t q) is0)) (fun i u => i < s.fh.length ∧ VarR C (γ.back γ' w s.now t q (hdr3 r v)) (s.now + 1) w' (C.floc i) (u.cl (ktO t q) is0)) _ _ _ _ hKK
      (fun j p u hp hu => by
        obtain ⟨cs, ty, g1, g2⟩ := ho.f j u hu
        have g3 := ret2_flat (C := C) (args := []) (vals := []) (S t q) hH2 how trivial (fun i u v hu _ => by simp at hu) ham g2
        rw [ret2_noneq q] at g3
        have hcl : (ret2 false s.now (allL s.now args) none [] u).cl (ktO t q) is0 = ret2 false s.now (allL s.now args) none [] u := by
          have hone : ∀ u, (ret1 false s.now (allL s.now args) none [] u).cl1 (ktO t q) is0 = ret1 false s.now (allL s.now args) none [] u := by
            intro u
            have e0 : ∀ o : Own, (o.ret false none).cl (ktO t q) = o.ret false none := by intro o; cases o <;> first | rfl | (rename_i j; cases j <;> rfl)
            have e2 : ∀ g : Tag, (g.ret false s.now (allL s.now args) none []).cl (ktO t q) = g.ret false s.now (allL s.now args) none [] := by
              intro g; cases g <;> first | rfl | simp only [Tag.ret, Tag.cl, e0]
            have e3 : ∀ g : Tag, (g.retI false s.now (allL s.now args) none []).cl (ktO t q) = g.retI false s.now (allL s.now args) none [] := by
              intro g; cases g <;> first | rfl | simp only [Tag.retI, Tag.cl, e0]
            cases u <;> first | rfl | exact congrArg (AV.slc _) (e2 _) | exact congrArg (AV.ints _ _) (e3 _)
          have hL : ∀ l, cl1L (ktO t q) is0 (ret1L false s.now (allL s.now args) none [] l) = ret1L false s.now (allL s.now args) none [] l := by
            intro l; induction l with
            | nil => rfl
            | cons x r ih => rw [ret1L_none]; simp only [cl1L, hone, ih]
          by_cases hu : ∃ fs, u = .st fs
          · obtain ⟨fs, rfl⟩ := hu; simp only [ret2, AV.cl, hL]
          · have hu : ∀ fs, u ≠ .st fs := fun fs e => hu ⟨fs, e⟩
            have e1 : ret2 false s.now (allL s.now args) none [] u = ret1 false s.now (allL s.now args) none [] u := by cases u <;> first | rfl | exact absurd rfl (hu _)
            have e2 : ∀ fs, ret1 false s.now (allL s.now args) none [] u ≠ .st fs := by cases u <;> first | nofun | exact absurd rfl (hu _)
            have e3 : ∀ fs, ret1 false s.now (allL s.now args) none [] u ≠ .tup fs := by cases u <;> first | nofun | exact absurd rfl (hu _)
            rw [e1, cl_eq e3, cl2_eq e2, hone]
        rw [hfl j p hp] at g1
        obtain ⟨b, i⟩ := p
        have hm := hall (b, i) (List.mem_of_getElem? hp)
        refine ⟨fun hb => ⟨hm.1 hb, cs, ty, ?_, by rw [hcl]; exact g3⟩, fun hb => ⟨(List.getElem?_eq_some_iff.1 (getD_some rfl (hm.2 hb))).1, cs, ty, ?_, by rw [hcl]; exact g3⟩⟩
        · have hb : b = true := hb
          subst hb; exact g1
        · have hb : b = false := hb
          subst hb; exact g1)
      (fun i hi hm => by
        obtain ⟨h1, h2, h3, h4⟩ := R.h i hi
        refine ⟨hi, VarR.step (S t q) h1 (ho.kept.block _ h1.lt fun j hj e => ?_)⟩
        obtain ⟨p, hp, hpm⟩ := hget j hj
        rw [hfl j p hp] at e
        have := bl_inj R (p := (true, i)) (q := p) ⟨fun _ => hi, nofun⟩ (hall p hpm) e
        exact hm (this ▸ hpm))
      (fun i u hu hm => by
        obtain ⟨h1, h2, h3⟩ := R.f i u hu
        have hil : i < s.fh.length := (List.getElem?_eq_some_iff.1 hu).1
        refine ⟨hil, VarR.step (S t q) h1 (ho.kept.block _ h1.lt fun j hj e => ?_)⟩
        obtain ⟨p, hp, hpm⟩ := hget j hj
        rw [hfl j p hp] at e
        have hne : s.fh.getD i .top ≠ .top := by
          intro e0
          have e1 : s.fh.getD i .top = u := by simp [List.getD_eq_getElem?_getD, hu]
          rw [e1] at e0
          subst e0
          obtain ⟨b, i'⟩ := p
          cases b
          · have := R.finj i i' (by have := R.fl; omega) (by have := (List.getElem?_eq_some_iff.1 (getD_some rfl ((hall _ hpm).2 rfl))).1; have := R.fl; omega) e
            subst this
            exact (hall _ hpm).2 rfl e1
          · have := (R.h i' ((hall _ hpm).1 rfl)).2.1
            have e : C.floc i = γ.loc i' := e
            omega
        have := bl_inj R (p := (false, i)) (q := p) ⟨nofun, fun _ => hne⟩ (hall p hpm) e
        exact hm (this ▸ hpm))
    have k3 : s1.now = s.now + 1 := k3
    refine ⟨s1, k1, k3, ?_, fun i hi => (k5 i hi).1⟩
    exact
    { tn := R.tn
      t := fun i => by
        show Rel3 C _ s1.now w' ((s1.t i).cl (ktO t q) is0) _
        rw [k2, k3]; exact Rel3.step (S t q) (R.t i)
      d := R.d
      h := fun i hi => by
        have hi := ne_top_of_cl hi
        obtain ⟨g1, g2⟩ := k5 i hi
        obtain ⟨h1, h3, h4, h5⟩ := R.h i g1
        refine ⟨by show VarR C _ s1.now w' (γ.loc i) _; rw [k3]; exact g2, h3, ?_, ?_⟩
        · show γ'.lim (γ.loc i) = 0
          rw [ho.lim0 _ h1.lt]; exact h4
        · show (if γ.loc i < w.heap.size then _ else _) = _
          rw [if_pos h1.lt]; exact h5
      inj := fun i j hi hj e => R.inj i j (k5 i (ne_top_of_cl hi)).1 (k5 j (ne_top_of_cl hj)).1 e
      fl := by show (clL _ _ s1.fh).length = _; rw [clL_length, ← R.fl]; exact k4
      f := fun i u hu => by
        rw [clL_get] at hu
        cases hf : s1.fh[i]? with
        | none => simp [hf] at hu
        | some u' =>
        simp [hf] at hu
        obtain ⟨g1, g2⟩ := k6 i u' hf
        obtain ⟨h1, h3, h4⟩ := R.f i _ (List.getElem?_eq_getElem g1)
        refine ⟨by rw [← hu]; show VarR C _ s1.now w' (C.floc i) _; rw [k3]; exact g2, ?_, h4⟩
        show γ'.lim (C.floc i) = 0
        rw [ho.lim0 _ h1.lt]; exact h3
      finj := R.finj
      two := by show 3 ≤ s1.now; omega
      H2 := by show (if 2 = s.now then _ else γ.H 2) = _; rw [if_neg (by omega)]; exact R.H2
      plain := fun b hb1 hb2 hb3 => by
        by_cases hb : b < w.heap.size
        · by_cases hv : ∀ i, i < C'.nf → b ≠ C'.floc i
          · have hb3 : 0 < γ'.lim b := hb3
            rw [ho.lim0 b hb] at hb3
            exact (R.plain b hb1 hb hb3).of (old b hb hv)
          · obtain ⟨i, hi⟩ := Classical.not_forall.1 hv
            obtain ⟨hi, hbe⟩ := Classical.not_imp.1 hi
            have hbe := Classical.not_not.1 hbe
            obtain ⟨u, hu⟩ : ∃ u, hs'[i]? = some u := ⟨_, List.getElem?_eq_getElem (by rw [ho.len]; exact hi)⟩
            obtain ⟨cs, ty, g1, _⟩ := ho.f i u hu
            rw [hbe]; exact ⟨_, ty, g1⟩
        · exact ho.plain b (by show w.heap.size ≤ b; omega) hb2 hb3
      Hle := fun e he => by
        have he : e < s1.now := he
        show (if e = s.now then w.heap.size else γ.H e) ≤ _
        split
        · exact hsz
        · exact Nat.le_trans (R.Hle e (by omega)) hsz
      Hmono := fun e e' hee he => by
        have he : e' < s1.now := he
        show (if e = s.now then w.heap.size else γ.H e) ≤ (if e' = s.now then w.heap.size else γ.H e')
        by_cases h1 : e' = s.now
        · rw [if_pos h1]
          split
          · exact Nat.le_refl _
          · exact R.Hle e (by omega)
        · rw [if_neg h1, if_neg (by omega)]; exact R.Hmono e e' hee (by omega)
      lim0 := fun b hb => by
        show γ'.lim b = _
        rw [ho.lim0 b (Nat.lt_of_lt_of_le hb hk0.size)]; exact R.lim0 b hb
      limz := ho.limz
      ow := fun b k hb => by
        have hb : (if b < w.heap.size then γ.ow b else (if γ'.ow b = some 0 then t else none)) = some k := hb
        split at hb
        · have := R.ow b k hb; omega
        · split at hb
          · rename_i h0
            have := (ho.ow b 0 h0).2
            have := hk0.size
            omega
          · cases hb
      kept := ⟨ho.kept.os.trans hk0.os, ho.kept.tape.trans hk0.tape, ho.kept.output.trans hk0.output, Nat.le_trans hk0.size hsz, fun b hb hne => by
        rw [ho.kept.block b (Nat.lt_of_lt_of_le hb hk0.size) fun i hi e => ?_]
        · exact hk0.block b hb hne
        · obtain ⟨p, hp, hpm⟩ := hget i hi
          rw [hfl i p hp] at e
          obtain ⟨b', j⟩ := p
          cases b'
          · have hjl := (List.getElem?_eq_some_iff.1 (getD_some rfl ((hall _ hpm).2 rfl))).1
            exact hne j (by have := R.fl; omega) e
          · have := (R.h j ((hall _ hpm).1 rfl)).2.1
            have e : b = γ.loc j := e
            omega⟩ }
  have hargsT : ∀ t q, All2 (Rel3 C (γ.back γ' w s.now t q (hdr3 r v)) (s.now + 1) w') (clL (ktO t q) is0 args) vals := fun t q => allRel_cl (S t q) hargs
  have havT : ∀ t q (i : Nat) u v, (clL (ktO t q) is0 args)[i]? = some u → vals[i]? = some v → C'.av i = svOf u v := fun t q i u v hu hv => by
    rw [clL_get] at hu
    cases ha : args[i]? with
    | none => simp [ha] at hu
    | some u0 =>
      simp [ha] at hu
      rw [hav i u0 v ha hv, ← hu]
      exact (svOf_cl u0 v).symm
  -- a result that brings no spare
  have fin : (∀ c, r ≠ .newp c) → wb s.now (allL s.now args) (ptrsL args) hs' { s with now := s.now + 1 } (fun s1 => K (ret3 false s.now (allL s.now args) none args r) s1) →
      ∃ av s' γ' v, e = .returned v ∧ K av s' ∧ Rel C n γ' s' a w' ∧ Rel3 C γ' s'.now w' av v := by
    intro hr hK
    obtain ⟨s1, k1, k3, R1, _⟩ := main none false _ hK
    simp only [ktO, cl_id, clL_id] at R1
    have hA0 := hargsT none false
    simp only [ktO, clL_id] at hA0
    have hrel : Rel3 C' γ' 3 w' r v := by
      have := ho.rel
      cases r <;> first | exact this | exact absurd rfl (hr _)
    refine ⟨_, s1, _, v, he, k1, R1, ?_⟩
    rw [k3]
    exact ret3_ok (S none false) hH2 how hA0 hav ham (.inl rfl) hrel
  have finT : ∀ d, (∀ c, r ≠ .newp c) → wb s.now (allL s.now args) (ptrsL args) hs' { s with now := s.now + 1 } (fun s1 => K (ret3 false s.now (allL s.now args) (some d) (clL (is1 d) is0 args) r) ⟨fun j => (s1.t j).cl (is1 d) is0, fun j => (s1.h j).cl (is1 d) is0, clL (is1 d) is0 s1.fh, s1.now⟩) →
      ∃ av s' γ' v, e = .returned v ∧ K av s' ∧ Rel C n γ' s' a w' ∧ Rel3 C γ' s'.now w' av v := by
    intro d hr hK
    obtain ⟨s1, k1, k3, R1, _⟩ := main (some d) false _ hK
    have hrel : Rel3 C' γ' 3 w' r v := by
      have := ho.rel
      cases r <;> first | exact this | exact absurd rfl (hr _)
    refine ⟨_, _, _, v, he, k1, R1, ?_⟩
    show Rel3 C _ s1.now w' _ v
    rw [k3]
    exact ret3_ok (S (some d) false) hH2 how (hargsT (some d) false) (havT (some d) false) ham (.inr ⟨rfl, fun _ => rfl⟩) hrel
  have finQ : ∀ d, (∀ c, r ≠ .newp c) → wb s.now (allL s.now args) (ptrsL args) hs' { s with now := s.now + 1 } (fun s1 => K (ret3 true s.now (allL s.now args) (some d) args r) s1) →
      ∃ av s' γ' v, e = .returned v ∧ K av s' ∧ Rel C n γ' s' a w' ∧ Rel3 C γ' s'.now w' av v := by
    intro d hr hK
    obtain ⟨s1, k1, k3, R1, _⟩ := main (some d) true _ hK
    simp only [ktO, cl_id, clL_id] at R1
    have hA0 := hargsT (some d) true
    simp only [ktO, clL_id] at hA0
    have hrel : Rel3 C' γ' 3 w' r v := by
      have := ho.rel
      cases r <;> first | exact this | exact absurd rfl (hr _)
    refine ⟨_, s1, _, v, he, k1, R1, ?_⟩
    rw [k3]
    exact ret3_ok (S (some d) true) hH2 how hA0 hav ham (.inr ⟨rfl, nofun⟩) hrel
  by_cases hr : ∃ c, r = .newp c
  · obtain ⟨c, rfl⟩ := hr
    cases d with
    | none => obtain ⟨s1, k1, _⟩ := main none false _ hK; exact k1.elim
    | some d =>
      cases dr with
      | true => obtain ⟨s1, k1, _⟩ := main none false _ hK; exact k1.elim
      | false =>
      obtain ⟨s1, k1, k3, R1, hne⟩ := main none false _ hK
      simp only [ktO, cl_id, clL_id] at R1
      have hA0 := hargsT none false
      simp only [ktO, clL_id] at hA0
      obtain ⟨b, rfl, hb1, hb2, hb5, cs, ty, hb3, hb4⟩ := ho.rel
      have hb1 : w.heap.size ≤ b := hb1
      have hbl : b < w'.heap.size := (Array.getElem?_eq_some_iff.1 hb3).1
      let γ2 : Gh := { γ.back γ' w s.now none false (hdr3 (.newp c) (.pointer (some ⟨b, 0, none⟩))) with loc := fun i => if i = d then b else γ.loc i }
      have S2 : Step (γ.back γ' w s.now none false (hdr3 (.newp c) (.pointer (some ⟨b, 0, none⟩)))) s1.now w' γ2 s1.now w' is0 (is1 d) :=
        { lim := fun _ => Nat.le_refl _, cell := fun _ _ _ _ h => h, size := Nat.le_refl _, two := R1.two, le := Nat.le_refl _, Hlt := fun _ _ => rfl, Hge := fun e h1 h2 => by omega,
          loc := fun i hi => if_neg (is1_ne hi), ow := fun x k hx _ => ⟨hx, rfl, rfl⟩, vid := fun _ _ => rfl }
      have R2 := R1.grow S2 (h' := upd (fun j => (s1.h j).cl is0 (is1 d)) d .top)
        (fun i hi => by
          by_cases e : i = d
          · subst e; exact absurd (by simp [upd]) hi
          · exact ⟨by simp [is1, beq_ne e], upd_ne e⟩)
        (fun x hx ho => ⟨rfl, rfl, ho⟩) R1.plain R1.ow R1.limz rfl rfl rfl (fun e h1 h2 => by have h1 : s1.now ≤ e := h1; omega)
      have hflat := ret2_flat (S none false) hH2 how hA0 hav ham hb4
      rw [← k3] at hflat
      have hcl : (ret2 false s.now (allL s.now args) none args c).cl is0 (is1 d) = ret2 false s.now (allL s.now args) none args c := by
        have hone : ∀ u, (ret1 false s.now (allL s.now args) none args u).cl1 is0 (is1 d) = ret1 false s.now (allL s.now args) none args u := by
          intro u
          cases u <;> first | rfl | exact congrArg (AV.slc _) (tag_cl_id _) | exact congrArg (AV.ints _ _) (tag_cl_id _)
        have hL : ∀ l, cl1L is0 (is1 d) (ret1L false s.now (allL s.now args) none args l) = ret1L false s.now (allL s.now args) none args l := by
          intro l; induction l with
          | nil => rfl
          | cons x r ih => rw [ret1L_none]; simp only [cl1L, hone, ih]
        by_cases hu : ∃ fs, c = .st fs
        · obtain ⟨fs, rfl⟩ := hu; simp only [ret2, AV.cl, hL]
        · have hu : ∀ fs, c ≠ .st fs := fun fs e => hu ⟨fs, e⟩
          have e1 : ret2 false s.now (allL s.now args) none args c = ret1 false s.now (allL s.now args) none args c := by cases c <;> first | rfl | exact absurd rfl (hu _)
          have e2 : ∀ fs, ret1 false s.now (allL s.now args) none args c ≠ .st fs := by cases c <;> first | nofun | exact absurd rfl (hu _)
          have e3 : ∀ fs, ret1 false s.now (allL s.now args) none args c ≠ .tup fs := by cases c <;> first | nofun | exact absurd rfl (hu _)
          rw [e1, cl_eq e3, cl2_eq e2, hone]
      have hflat2 := FlatR.step S2 hflat
      rw [hcl] at hflat2
      have hob : γ2.ow b = none := by
        show (if b < w.heap.size then _ else (if γ'.ow b = some 0 then none else none)) = none
        rw [if_neg (by omega)]; split <;> rfl
      have R3 := R2.addVar (d := d) (b := b) (u := ret2 false s.now (allL s.now args) none args c) (by simp [upd]) (if_pos rfl) ⟨cs, ty, hb3, hflat2⟩ (Nat.le_trans hk0.size hb1) hb2 hob
        (fun i hi => by
          have e : i ≠ d := fun e => hi (by subst e; simp [upd])
          have hi : upd (fun j => (s1.h j).cl is0 (is1 d)) d .top i ≠ .top := hi
          rw [upd_ne e] at hi
          have := (R.h i (hne i (ne_top_of_cl hi))).1.lt
          show (if i = d then b else γ.loc i) ≠ b
          rw [if_neg e]; omega)
      rw [upd_upd] at R3
      refine ⟨_, _, γ2, _, he, k1, R3, ?_⟩
      show Value.pointer (some ⟨b, 0, none⟩) = .pointer (some ⟨if d = d then b else γ.loc d, 0, none⟩)
      rw [if_pos rfl]
  · have hr : ∀ c, r ≠ .newp c := fun c e => hr ⟨c, e⟩
    cases d with
    | none => refine fin hr ?_; cases r <;> first | exact hK | exact absurd rfl (hr _)
    | some d =>
      cases dr with
      | true =>
        cases ht : tok3 r with
        | true => refine finQ d hr ?_; cases r <;> first | exact absurd rfl (hr _) | (cases ht; done) | (simp only [ht] at hK; exact hK)
        | false => refine fin hr ?_; cases r <;> first | exact absurd rfl (hr _) | (simp only [ht] at hK; exact hK)
      | false =>
        cases ht : tok3 r with
        | true => refine finT d hr ?_; cases r <;> first | exact absurd rfl (hr _) | (cases ht; done) | (simp only [ht] at hK; exact hK)
        | false => refine fin hr ?_; cases r <;> first | exact absurd rfl (hr _) | (simp only [ht] at hK; exact hK)
end
end Go.Dk
