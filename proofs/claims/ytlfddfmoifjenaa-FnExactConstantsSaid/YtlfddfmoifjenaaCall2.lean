/- A call, as an operation. -/
import Derived.Test.YtlfddfmoifjenaaCall
namespace Go.Dk
section
variable {P : Program} {C : Fr} {n : Nat} {γ : Gh} {s : AS} {a : Act} {w : World} {TY : Nat → TyI} {G : List (Nat × Con)} {dr : Bool} {o : Oper} {K : AV → AS → Prop}

theorem wb_ok (now : Nat) (X Y : Nat → AV → Prop) : ∀ (ps : List (Bool × Nat)) (hs : List AV) (s : AS) (K : AS → Prop), wb now ps hs s K →
    (∀ (j : Nat) p v, ps[j]? = some p → hs[j]? = some v → (p.1 = true → X p.2 (ret2 now [] v)) ∧ (p.1 = false → Y p.2 (ret2 now [] v))) →
    (∀ i, s.h i ≠ .top → (true, i) ∉ ps → X i (s.h i)) → (∀ (i : Nat) v, s.fh[i]? = some v → (false, i) ∉ ps → Y i v) →
    ∃ s', K s' ∧ s'.t = s.t ∧ s'.now = s.now ∧ s'.fh.length = s.fh.length ∧ (∀ i, s'.h i ≠ .top → X i (s'.h i)) ∧ (∀ (i : Nat) v, s'.fh[i]? = some v → Y i v)
  | [], hs, s, K, h, _, h2, h3 => by
    have h : K s := by cases hs <;> exact h
    exact ⟨s, h, rfl, rfl, rfl, fun i hi => h2 i hi (by simp), fun i v hv => h3 i v hv (by simp)⟩
  | (b, i) :: r, [], s, K, h, _, _, _ => by cases b <;> exact h.elim
  | (true, i) :: r, v :: hs, s, K, h, h1, h2, h3 => by
    simp only [wb, force_eq] at h
    obtain ⟨s', k1, k2, k3, k4, k5, k6⟩ := wb_ok now X Y r hs _ K h (fun j p u hp hu => h1 (j + 1) p u (by simpa using hp) (by simpa using hu))
      (fun j hj hm => by
        by_cases e : j = i
        · subst e
          show X j (upd s.h j (ret2 now [] v) j)
          rw [upd_same]
          exact (h1 0 (true, j) v rfl rfl).1 rfl
        · have hj : upd s.h i (ret2 now [] v) j ≠ .top := hj
          show X j (upd s.h i (ret2 now [] v) j)
          rw [upd_ne e] at hj ⊢
          exact h2 j hj (by simp [hm, e]))
      (fun j u hu hm => h3 j u hu (by simp [hm]))
    exact ⟨s', k1, k2, k3, k4, k5, k6⟩
  | (false, i) :: r, v :: hs, s, K, h, h1, h2, h3 => by
    simp only [wb, force_eq] at h
    obtain ⟨s', k1, k2, k3, k4, k5, k6⟩ := wb_ok now X Y r hs _ K h (fun j p u hp hu => h1 (j + 1) p u (by simpa using hp) (by simpa using hu))
      (fun j hj hm => h2 j hj (by simp [hm]))
      (fun j u hu hm => by
        have hu : (s.fh.set i (ret2 now [] v))[j]? = some u := hu
        by_cases e : j = i
        · subst e
          have hl : j < s.fh.length := by have := (List.getElem?_eq_some_iff.1 hu).1; simpa using this
          rw [List.getElem?_set_self hl] at hu
          cases hu
          exact (h1 0 (false, j) v rfl rfl).2 rfl
        · rw [List.getElem?_set_ne (Ne.symm e)] at hu
          exact h3 j u hu (by simp [hm, e]))
    exact ⟨s', k1, k2, k3, by rw [k4]; simp, k5, k6⟩

theorem acall_sound (hG : ∀ p ∈ G, Sound P p.1 p.2) (R : Rel C n γ s a w) {d : Option Nat} {f : Nat} {args : List AV} {vals : List Value} (hargs : All2 (Rel3 C γ s.now w) args vals) (h : acall G dr s d f args K) :
    HasFn P f ∧ Calls P f vals.toArray w fun e w' => ∃ av s' γ' v, e = .returned v ∧ K av s' ∧ Rel C n γ' s' a w' ∧ Rel3 C γ' s'.now w' av v := by
  unfold acall at h
  split at h
  case h_1 => exact h.elim
  case h_2 => exact h.elim
  rename_i hnd hok
  obtain ⟨c, hc, h⟩ := lkC_mem h
  obtain ⟨hfn, hs⟩ := hG _ hc
  refine ⟨hfn, ?_⟩
  have hall := okConts_all hok
  have hnd := nodupP_nodup hnd
  have hlen := hargs.length
  let C' := calleeFr C γ w args vals
  have hfl : ∀ (i : Nat) p, (ptrsL args)[i]? = some p → C'.floc i = bl C γ p := fun i p hp => by simp [C', calleeFr, hp]
  have hget : ∀ i, i < (ptrsL args).length → ∃ p, (ptrsL args)[i]? = some p ∧ p ∈ ptrsL args := fun i hi => ⟨_, List.getElem?_eq_getElem hi, List.getElem_mem hi⟩
  have hav : ∀ (i : Nat) u v, args[i]? = some u → vals[i]? = some v → C'.av i = svOf u v := fun i u v hu hv => by simp [C', calleeFr, hu, hv]
  have hFr : FrOk C' :=
    { inj := fun i j hi hj e => by
        obtain ⟨p, hp, hpm⟩ := hget i hi
        obtain ⟨q, hq, hqm⟩ := hget j hj
        rw [hfl i p hp, hfl j q hq] at e
        have := bl_inj R (hall p hpm) (hall q hqm) e
        subst this
        exact (List.getElem?_inj hi hnd).1 (hp.trans hq.symm)
      lt := fun i hi => by
        obtain ⟨p, hp, hpm⟩ := hget i hi
        rw [hfl i p hp]
        obtain ⟨h1, h2, _⟩ := bl_facts R (hall p hpm)
        exact ⟨h1.lt, h2⟩
      limz := R.limz }
  have hg0 : C'.g0.H 1 = w.heap.size := rfl
  have hA := argsL_ok (C := C) (γ := γ) (C' := C') (γ' := C'.g0) (rfl : C'.g0.lim = γ.lim) hg0 0 0 hargs (fun i q hq => by rw [Nat.zero_add]; exact hfl i q hq) (fun i u v hu hv => by rw [Nat.zero_add]; exact hav i u v hu hv)
  have hcon : ∀ (i : Nat) u, (conts s (ptrsL args))[i]? = some u → VarR C' C'.g0 2 w (C'.floc i) u := fun i u hu => by
    obtain ⟨b, j, h1, rfl⟩ := conts_get _ i u hu
    obtain ⟨⟨cs, ty, g1, g2⟩, _⟩ := bl_facts R (hall (b, j) (List.mem_of_getElem? h1))
    rw [hfl i _ h1]
    exact ⟨cs, ty, g1, cel2_flat (C := C) (γ := γ) (C' := C') (γ' := C'.g0) rfl g2⟩
  refine (hs _ _ _ h C' vals hFr (by rw [conts_length]; rfl) hA hcon).mono fun e w' ⟨r, hs', v, γ', he, hK, ho⟩ => ?_
  have S : Step γ s.now w (γ.back γ' w s.now) (s.now + 1) w' is0 is0 := by
    have old : ∀ b, b < w.heap.size → (∀ i, i < C'.nf → b ≠ C'.floc i) → w'.heap[b]? = w.heap[b]? := ho.kept.block
    have nf : ∀ b, (γ.lim b ≠ 0 ∨ γ.ow b ≠ none) → ∀ i, i < C'.nf → b ≠ C'.floc i := fun b hb i hi e => by
      obtain ⟨p, hp, hpm⟩ := hget i hi
      rw [hfl i p hp] at e
      obtain ⟨_, h2, h3⟩ := bl_facts R (hall p hpm)
      rw [e] at hb
      rcases hb with hb | hb
      · exact hb h2
      · exact hb h3
    exact
      { lim := fun b => by
          show γ.lim b ≤ γ'.lim b
          by_cases hb : b < w.heap.size
          · rw [ho.lim0 b hb]; exact Nat.le_refl _
          · rw [R.limz b (by omega)]; exact Nat.zero_le _
        cell := fun b off hlt x hx => by
          have hb := block_lt hx
          rw [cell_block (old b hb (nf b (.inl (by omega))))]; exact hx
        size := ho.kept.size
        two := R.two
        le := by omega
        Hlt := fun e he => if_neg (by omega)
        Hge := fun e h1 h2 => by
          have : e = s.now := by omega
          show _ ≤ if e = s.now then _ else _
          rw [if_pos this]; exact Nat.le_refl _
        loc := fun _ _ => rfl
        ow := fun b k hb _ => by
          have hlt := (R.ow b k hb).2
          exact ⟨hb, old b hlt (nf b (.inr (by rw [hb]; nofun))), ho.lim0 b hlt⟩ }
  have hH1 : γ'.H 1 = w.heap.size := ho.H1
  -- what stands in the variables
  obtain ⟨s1, k1, k2, k3, k4, k5, k6⟩ := wb_ok s.now (fun i u => s.h i ≠ .top ∧ VarR C (γ.back γ' w s.now) (s.now + 1) w' (γ.loc i) u) (fun i u => i < s.fh.length ∧ VarR C (γ.back γ' w s.now) (s.now + 1) w' (C.floc i) u) _ _ _ _ hK
    (fun j p u hp hu => by
      obtain ⟨cs, ty, g1, g2⟩ := ho.f j u hu
      have g3 := ret2_flat (C := C) (args := []) (vals := []) S hH1 trivial (fun i u v hu _ => by simp at hu) g2
      rw [hfl j p hp] at g1
      obtain ⟨b, i⟩ := p
      have hm := hall (b, i) (List.mem_of_getElem? hp)
      refine ⟨fun hb => ⟨hm.1 hb, cs, ty, ?_, g3⟩, fun hb => ⟨(List.getElem?_eq_some_iff.1 (getD_some rfl (hm.2 hb))).1, cs, ty, ?_, g3⟩⟩
      · have hb : b = true := hb
        subst hb; exact g1
      · have hb : b = false := hb
        subst hb; exact g1)
    (fun i hi hm => by
      obtain ⟨h1, h2, h3, h4⟩ := R.h i hi
      refine ⟨hi, ?_⟩
      have := VarR.step S h1 (ho.kept.block _ h1.lt fun j hj e => ?_)
      · rwa [cl_id] at this
      · obtain ⟨p, hp, hpm⟩ := hget j hj
        rw [hfl j p hp] at e
        have := bl_inj R (p := (true, i)) (q := p) ⟨fun _ => hi, nofun⟩ (hall p hpm) e
        exact hm (this ▸ hpm))
    (fun i u hu hm => by
      obtain ⟨h1, h2, h3⟩ := R.f i u hu
      have hil : i < s.fh.length := (List.getElem?_eq_some_iff.1 hu).1
      refine ⟨hil, ?_⟩
      have := VarR.step S h1 (ho.kept.block _ h1.lt fun j hj e => ?_)
      · rwa [cl_id] at this
      · obtain ⟨p, hp, hpm⟩ := hget j hj
        rw [hfl j p hp] at e
        have hne : s.fh.getD i .top ≠ .top := by
          intro e0
          have e1 : s.fh.getD i .top = u := by simp [List.getD_eq_getElem?_getD, hu]
          rw [e1] at e0
          subst e0
          obtain ⟨q, hq, hqm⟩ := hget j hj
          rw [hp] at hq; cases hq
          obtain ⟨b, i'⟩ := p
          cases b
          · have := R.finj i i' (by have := R.fl; omega) (by have := (List.getElem?_eq_some_iff.1 (getD_some rfl ((hall _ hpm).2 rfl))).1; have := R.fl; omega) e
            subst this
            exact (hall _ hpm).2 rfl e1
          · have := (R.h i' ((hall _ hpm).1 rfl)).2.1
            have e : C.floc i = γ.loc i' := e
            omega
        have := bl_inj R (p := (false, i)) (q := p) ⟨nofun, fun _ => hne⟩ (hall p hpm) e
        exact hm (this ▸ hpm))
  have hsz := ho.kept.size
  have hsz : w.heap.size ≤ w'.heap.size := hsz
  have h2 := R.two
  have hk0 := R.kept
  have R1 : Rel C n (γ.back γ' w s.now) ⟨s.t, s1.h, s1.fh, s.now + 1⟩ a w' :=
    { tn := R.tn
      t := fun i => by have := Rel3.step S (R.t i); rwa [cl_id] at this
      d := R.d
      h := fun i hi => by
        obtain ⟨g1, g2⟩ := k5 i hi
        obtain ⟨h1, h3, h4, h5⟩ := R.h i g1
        refine ⟨g2, h3, ?_, h5⟩
        show γ'.lim (γ.loc i) = 0
        rw [ho.lim0 _ h1.lt]; exact h4
      inj := fun i j hi hj e => R.inj i j (k5 i hi).1 (k5 j hj).1 e
      fl := by rw [← R.fl]; exact k4
      f := fun i u hu => by
        obtain ⟨g1, g2⟩ := k6 i u hu
        obtain ⟨h1, h3, h4⟩ := R.f i _ (List.getElem?_eq_getElem g1)
        refine ⟨g2, ?_, h4⟩
        show γ'.lim (C.floc i) = 0
        rw [ho.lim0 _ h1.lt]; exact h3
      finj := R.finj
      two := by show 2 ≤ s.now + 1; omega
      H0 := by show (if 0 = s.now then _ else γ.H 0) = 0; rw [if_neg (by omega)]; exact R.H0
      H1 := by show (if 1 = s.now then _ else γ.H 1) = _; rw [if_neg (by omega)]; exact R.H1
      Hle := fun e he => by
        have he : e < s.now + 1 := he
        show (if e = s.now then w.heap.size else γ.H e) ≤ _
        split
        · exact hsz
        · exact Nat.le_trans (R.Hle e (by omega)) hsz
      Hmono := fun e e' hee he => by
        have he : e' < s.now + 1 := he
        show (if e = s.now then w.heap.size else γ.H e) ≤ (if e' = s.now then w.heap.size else γ.H e')
        by_cases h1 : e' = s.now
        · rw [if_pos h1]
          split
          · exact Nat.le_refl _
          · exact R.Hle e (by omega)
        · rw [if_neg h1, if_neg (by omega)]; exact R.Hmono e e' hee (by omega)
      lim0 := fun b hb => by
        show γ'.lim b = _
        rw [ho.lim0 b (Nat.lt_of_lt_of_le hb hk0.size)]; exact R.lim0 b hb
      limz := ho.limz
      ow := fun b k hb => by have := R.ow b k hb; omega
      kept := ⟨ho.kept.os.trans hk0.os, ho.kept.tape.trans hk0.tape, ho.kept.output.trans hk0.output, Nat.le_trans hk0.size hsz, fun b hb hne => by
        rw [ho.kept.block b (Nat.lt_of_lt_of_le hb hk0.size) fun i hi e => ?_]
        · exact hk0.block b hb hne
        · obtain ⟨p, hp, hpm⟩ := hget i hi
          rw [hfl i p hp] at e
          obtain ⟨b', j⟩ := p
          cases b'
          · have hjl := (List.getElem?_eq_some_iff.1 (getD_some rfl ((hall _ hpm).2 rfl))).1
            exact hne j (by have := R.fl; omega) e
          · have := (R.h j ((hall _ hpm).1 rfl)).2.1
            have e : b = γ.loc j := e
            omega⟩ }
  have hs1 : s1 = ⟨s.t, s1.h, s1.fh, s.now + 1⟩ := by
    cases s1; simp only at k2 k3; subst k2 k3; rfl
  rw [← hs1] at R1
  have hnow1 : s1.now = s.now + 1 := k3
  cases r with
  | newp c =>
    cases d with
    | none => exact k1.elim
    | some d =>
      cases dr with
      | true => exact k1.elim
      | false =>
      obtain ⟨b, rfl, hb1, hb2, cs, ty, hb3, hb4⟩ := ho.rel
      have hb1 : w.heap.size ≤ b := hb1
      have hbl : b < w'.heap.size := (Array.getElem?_eq_some_iff.1 hb3).1
      let γ2 : Gh := { γ.back γ' w s.now with loc := fun i => if i = d then b else γ.loc i }
      have S2 : Step (γ.back γ' w s.now) s1.now w' γ2 s1.now w' is0 (is1 d) :=
        { lim := fun _ => Nat.le_refl _, cell := fun _ _ _ _ h => h, size := Nat.le_refl _, two := R1.two, le := Nat.le_refl _, Hlt := fun _ _ => rfl, Hge := fun e h1 h2 => by omega,
          loc := fun i hi => if_neg (is1_ne hi), ow := fun x k hx _ => ⟨hx, rfl, rfl⟩ }
      have R2 := R1.grow S2 (h' := upd (fun j => (s1.h j).cl is0 (is1 d)) d .top)
        (fun i hi => by
          by_cases e : i = d
          · subst e; exact absurd (by simp [upd]) hi
          · exact ⟨by simp [is1, beq_ne e], upd_ne e⟩)
        (fun x hx ho => ⟨rfl, rfl, ho⟩) R1.ow R1.limz rfl rfl rfl (fun e h1 h2 => by omega)
      have hflat := ret2_flat S hH1 hargs hav hb4
      rw [← hnow1] at hflat
      have how : γ.ow b = none := by
        cases hq : γ.ow b with
        | none => rfl
        | some k => have := (R.ow b k hq).2; omega
      have hcl : (ret2 s.now args c).cl is0 (is1 d) = ret2 s.now args c := by
        have hone : ∀ u, (ret1 s.now args u).cl1 is0 (is1 d) = ret1 s.now args u := by
          intro u
          have e2 : ∀ g : Tag, g.cl is0 = g := by intro g; cases g <;> first | rfl | (rename_i o; cases o <;> rfl)
          cases u <;> first | rfl | exact congrArg (AV.slc _) (e2 _) | exact congrArg (AV.ints _ _) (e2 _)
        have hL : ∀ l, cl1L is0 (is1 d) (ret1L s.now args l) = ret1L s.now args l := by
          intro l; induction l with
          | nil => rfl
          | cons x r ih => simp only [ret1L, cl1L, hone, ih]
        by_cases hu : ∃ fs, c = .st fs
        · obtain ⟨fs, rfl⟩ := hu; simp only [ret2, AV.cl, AV.cl2, hL]
        · have hu : ∀ fs, c ≠ .st fs := fun fs e => hu ⟨fs, e⟩
          have e1 : ret2 s.now args c = ret1 s.now args c := by cases c <;> first | rfl | exact absurd rfl (hu _)
          have e2 : ∀ fs, ret1 s.now args c ≠ .st fs := by cases c <;> first | nofun | exact absurd rfl (hu _)
          have e3 : ∀ fs, ret1 s.now args c ≠ .tup fs := by cases c <;> first | nofun | exact absurd rfl (hu _)
          rw [e1, cl_eq e3, cl2_eq e2, hone]
      have hflat2 := FlatR.step S2 hflat
      rw [hcl] at hflat2
      have R3 := R2.addVar (d := d) (b := b) (u := ret2 s.now args c) (by simp [upd]) (if_pos rfl) ⟨cs, ty, hb3, hflat2⟩ (Nat.le_trans hk0.size hb1) hb2 how
        (fun i hi => by
          have e : i ≠ d := fun e => hi (by subst e; simp [upd])
          have hi : upd (fun j => (s1.h j).cl is0 (is1 d)) d .top i ≠ .top := hi
          rw [upd_ne e] at hi
          have := (R.h i (k5 i (ne_top_of_cl hi)).1).1.lt
          show (if i = d then b else γ.loc i) ≠ b
          rw [if_neg e]; omega)
      rw [upd_upd] at R3
      refine ⟨_, _, γ2, _, he, k1, R3, ?_⟩
      show Value.pointer (some ⟨b, 0, none⟩) = .pointer (some ⟨if d = d then b else γ.loc d, 0, none⟩)
      rw [if_pos rfl]
  | _ =>
    refine ⟨_, s1, _, v, he, k1, R1, ?_⟩
    rw [hnow1]
    exact ret3_ok S hH1 hargs hav ho.rel
end
end Go.Dk
