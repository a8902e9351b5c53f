/- Every order that a drawing region may take: sound. -/
import Derived.Test.YteamklllllembaaDoorDraw4
namespace Go.Dk
section
variable {P : Program} {C : Fr} {n : Nat} {TY : Nat → TyI} {G : List (Nat × Con)} {cm : Bool} {ops : Array Oper} {b : Array Nat} {Q' : AS → Prop}
variable {done : List Nat} {last : Option Nat} {rest : List (Nat × List Nat)} {listed : Array Bool} {s m : AS} {γ : Gh} {a : Act} {w : World}

/-- What a ready operation names is known. -/
theorem DInv.slots (I : DInv C n G TY cm ops b Q' done last rest listed s m γ a w) (hB : OkP ops b) {i : Nat} {o : Oper} (ho : ops[i]? = some o) (hk : ∀ j, j < ops.size → before b i j = true → listed.getD j false = true) :
    (∀ t, t ∈ Dk.slots o → m.t t = s.t t) ∧ ∀ g want d, o.guard = some (g, want) → (ops[g]?).bind (·.dst) = some d → m.t d = s.t d := by
  refine ⟨fun t ht => I.mt t fun j oj hj hl hoj hd => ?_, fun g want d hg hgd => I.mt d fun j oj hj hl hoj hd => ?_⟩
  · rcases (hB.slot i j o oj t ho hoj hd).2.1 with h | h | h
    · exact h ht
    · rw [hk j (lt_of_op hoj) h] at hl; cases hl
    · have := I.effs j hj (by rw [eff_of hoj]; exact h.1)
      rw [this] at hl; cases hl
  · have := (hB.slot i j o oj d ho hoj hd).2.2 g want hg hgd
    subst this
    rw [hk g (lt_of_op hoj) (hB.guard i o g want ho hg).1] at hl; cases hl

/-- An operation that has run in thought runs. -/
theorem DInv.late (I : DInv C n G TY cm ops b Q' done last rest listed s m γ a w) (hB : OkP ops b) {i : Nat} {o : Oper} (ho : ops[i]? = some o) (hi : i ∈ Region.ready .any ops listed) (hd : i ∈ done)
    {γ' : Gh} {w' : World} {av : AV} {v : Value} (hdst : dstOk n o.dst = true) (hav : ∀ d, o.dst = some d → av = s.t d) (R' : Rel C n γ' m a w') (hv : Rel3 C γ' m.now w' av v) :
    DInv C n G TY cm ops b Q' done last rest (listed.setIfInBounds i true) s (m.put o.dst av) γ' (a.put o.dst v) w' := by
  have hlt : i < listed.size := by rw [I.size]; exact lt_of_op ho
  have un : ∀ j, (listed.setIfInBounds i true).getD j false = false → j ≠ i ∧ listed.getD j false = false := fun j hj => by
    rw [set_get hlt] at hj
    by_cases e : j = i
    · rw [if_pos e] at hj; cases hj
    · rw [if_neg e] at hj; exact ⟨e, hj⟩
  exact
    { size := by simp [I.size]
      sub := fun j hj => by
        rw [set_get hlt] at hj
        by_cases e : j = i
        · rw [e]; exact hd
        · rw [if_neg e] at hj; exact I.sub j hj
      effs := fun j hj he => by
        rw [set_get hlt]
        by_cases e : j = i
        · rw [if_pos e]
        · rw [if_neg e]; exact I.effs j hj he
      clos := (clos_set hB I.size hi I.clos).2
      dok := I.dok
      all := I.all
      ok := I.ok
      run := I.run
      rel := R'.put hdst hv
      agr := ⟨I.agr.h, I.agr.f, I.agr.n⟩
      mt := fun d hp => by
        by_cases e : o.dst = some d
        · rw [e, put_t_eq]; exact hav d e
        · rw [put_t_ne e]
          refine I.mt d fun j oj hj hl hoj => ?_
          by_cases eji : j = i
          · subst eji; rw [ho] at hoj; cases hoj; exact e
          · exact hp j oj hj (by rw [set_get hlt, if_neg eji]; exact hl) hoj
      pend := fun j oj hj hl hoj => I.pend j oj hj (un j hl).2 hoj }

/-- An effect runs. -/
theorem DInv.effect {i : Nat} {ls : List Nat} {r : List (Nat × List Nat)} (I : DInv C n G TY cm ops b Q' done last ((i, ls) :: r) listed s m γ a w) (hB : OkP ops b) {o : Oper} (ho : ops[i]? = some o) (he : isEff o = true) (hi : i ∈ Region.ready .any ops listed)
    {γ' : Gh} {w' : World} {av : AV} {v : Value} {s' m' : AS} (hdst : dstOk n o.dst = true) (A : Agr m' s') (hmt : ∀ d, m.t d = s.t d → m'.t d = s'.t d) (hst : strips o = false → s'.t = s.t) (hkeep : ∀ d, (∀ b, s.t d = .bool b → s'.t d = .bool b) ∧ (s.t d = .tup [] → s'.t d = .tup []))
    (hchk : ∀ l, l ∈ ls → ∀ ol, ops[l]? = some ol → Again TY ops (s'.put o.dst av) ol ∨ ∃ d, Calm d s s' ∧ inertO d s ol = true) (hrun : aopsD G TY n cm ops r (s'.put o.dst av) Q') (R' : Rel C n γ' m' a w') (hv : Rel3 C γ' m'.now w' av v) :
    DInv C n G TY cm ops b Q' (i :: done) (some i) r (listed.setIfInBounds i true) (s'.put o.dst av) (m'.put o.dst av) γ' (a.put o.dst v) w' := by
  obtain ⟨o', ho', hf, hb, _, h1, _⟩ := okFrom_cons I.ok
  rw [ho] at ho'
  cases ho'
  obtain ⟨h1, hls, h2⟩ := h1 he
  have hlt : i < listed.size := by rw [I.size]; exact lt_of_op ho
  obtain ⟨hkey, hcl⟩ := clos_set hB I.size hi I.clos
  have un : ∀ j, (listed.setIfInBounds i true).getD j false = false → j ≠ i ∧ listed.getD j false = false := fun j hj => by
    rw [set_get hlt] at hj
    by_cases e : j = i
    · rw [if_pos e] at hj; cases hj
    · rw [if_neg e] at hj; exact ⟨e, hj⟩
  exact
    { size := by simp [I.size]
      sub := fun j hj => by
        rw [set_get hlt] at hj
        by_cases e : j = i
        · simp [e]
        · rw [if_neg e] at hj; simp [I.sub j hj]
      effs := fun j hj hej => by
        rw [set_get hlt]
        by_cases e : j = i
        · rw [if_pos e]
        · rw [if_neg e]
          rcases List.mem_cons.1 hj with h | hj
          · exact absurd h e
          · exact I.effs j hj hej
      clos := hcl
      dok := ⟨hb, lt_of_op ho, I.dok⟩
      all := fun j hj => by
        rcases I.all j hj with h | h
        · exact .inl (by simp [h])
        · simp only [List.map_cons, List.mem_cons] at h
          rcases h with rfl | h
          · exact .inl (by simp)
          · exact .inr h
      ok := h2
      run := hrun
      rel := R'.put hdst hv
      agr := ⟨A.h, A.f, A.n⟩
      mt := fun d hp => by
        by_cases e : o.dst = some d
        · rw [e, put_t_eq, put_t_eq]
        · rw [put_t_ne e, put_t_ne e]
          refine hmt d (I.mt d fun j oj hj hl hoj => ?_)
          have eji : j ≠ i := fun e => hf (e ▸ hj)
          exact hp j oj (by simp [hj]) (by rw [set_get hlt, if_neg eji]; exact hl) hoj
      pend := fun j oj hj hl hoj => by
        obtain ⟨eji, hl⟩ := un j hl
        rcases List.mem_cons.1 hj with h | hj
        · exact absurd h eji
        have hp := I.pend j oj hj hl hoj
        have nb : before b i j = true → False := fun e => by rw [hkey j (lt_of_op hoj) e] at hl; cases hl
        have nb' : before b j i = true → False := fun e => hf (I.dok.clos j i hj (lt_of_op ho) e)
        have hgt : ∀ g want d, oj.guard = some (g, want) → (ops[g]?).bind (·.dst) = some d → (s'.put o.dst av).t d = s'.t d := fun g want d hg hgd => by
          rw [put_t_ne]
          intro e
          have := (hB.slot j i oj o d hoj ho e).2.2 g want hg hgd
          subst this
          have := (hB.guard j oj g want hoj hg).2
          rw [eff_of ho, he] at this; cases this
        have hdt : ∀ d, oj.dst = some d → (s'.put o.dst av).t d = s'.t d := fun d hdj => by
          rw [put_t_ne]
          intro e
          rcases (hB.slot j i oj o d hoj ho e).1 with h | h
          · exact eji h
          · exact h hdj
        rcases (h1 j hj (by rw [eff_of hoj]; exact hp.2.1)).resolve_left nb with ⟨hstr, hld⟩ | hin
        · have hst := hst hstr
          have hs : ∀ t, t ∈ Dk.slots oj → (s'.put o.dst av).t t = s.t t := fun t ht => by
            rw [put_t_ne, hst]
            intro e
            rcases (hB.slot j i oj o t hoj ho e).2.1 with h | h | h
            · exact h ht
            · exact nb' h
            · rcases h.2 with h | h
              · exact eji h
              · exact nb h
          exact hp.of hs (fun g want d hg hgd => by rw [hgt g want d hg hgd, hst]) (fun d hd => by rw [hdt d hd, hst]) (fun e => by rw [hld oj hoj] at e; cases e)
        · rcases hchk j hin oj hoj with ⟨d, hd, hag⟩ | ⟨d, hC, hin⟩
          case inr =>
            obtain ⟨q1, q2, q3⟩ := and3_eq.1 hin
            have hs : ∀ t, t ∈ Dk.slots oj → (s'.put o.dst av).t t = s.t t := fun t ht => by
              rw [put_t_ne]
              · exact hC.t t (slotsIn_ok q1 t ht)
              intro e
              rcases (hB.slot j i oj o t hoj ho e).2.1 with h | h | h
              · exact h ht
              · exact nb' h
              · rcases h.2 with h | h
                · exact eji h
                · exact nb h
            refine hp.calm hs (fun g want d' hg hgd => ?_) (fun d' hd' => ?_) (fun ty x hx K h => ?_)
            · rw [hgt g want d' hg hgd]
              obtain ⟨_, _, c, p3, _⟩ := hp
              unfold AWant at p3
              rw [hg] at p3
              obtain ⟨d'', e1, ⟨x, e2, _⟩ | ⟨e2, _⟩⟩ := p3
              · rw [hgd] at e1; cases e1; rw [e2]; exact (hkeep d').1 x e2
              · rw [hgd] at e1; cases e1; rw [e2]; exact (hkeep d').2 e2
            · rw [hdt d' hd']
              rw [hd'] at q2
              exact hC.t d' q2
            · rw [hx] at q3
              exact deref_calm hC q3 h
          obtain ⟨p1, p2, c, p3, p4, p5⟩ := hp
          have hw : AWant ops oj (s'.put o.dst av) c := by
            unfold AWant at p3 ⊢
            split at p3
            case h_1 => exact p3
            case h_2 g want hg =>
              obtain ⟨dg, q1, ⟨x, q2, q3⟩ | ⟨q2, q3⟩⟩ := p3
              · exact ⟨dg, q1, .inl ⟨x, by rw [hgt g want dg hg q1]; exact (hkeep dg).1 x q2, q3⟩⟩
              · exact ⟨dg, q1, .inr ⟨by rw [hgt g want dg hg q1]; exact (hkeep dg).2 q2, q3⟩⟩
          refine ⟨p1, p2, c, hw, fun e => ?_, fun e d' hd' => by rw [hdt d' hd']; exact (hkeep d').2 (p5 e d' hd')⟩
          subst e
          obtain ⟨v, q1, q2⟩ := pure_congr (G' := []) p2 (hag hw)
          refine ⟨v, fun d' hd' => ?_, q2⟩
          rw [hd] at hd'; cases hd'; exact q1 }

theorem filter_lt {p q : Nat → Bool} : ∀ {l : List Nat}, (∀ x, q x = true → p x = true) → (∃ x, x ∈ l ∧ p x = true ∧ q x = false) → (l.filter q).length < (l.filter p).length
  | [], _, ⟨x, hx, _⟩ => by simp at hx
  | y :: l, h, ⟨x, hx, h1, h2⟩ => by
    have hle : ∀ l : List Nat, (l.filter q).length ≤ (l.filter p).length := fun l => by
      induction l with
      | nil => simp
      | cons z l ih =>
        simp only [List.filter_cons]
        cases hq : q z with
        | true => rw [h z hq]; simpa using ih
        | false => cases p z <;> simp <;> omega
    simp only [List.filter_cons]
    rcases List.mem_cons.1 hx with rfl | hx
    · rw [h1, h2]
      have := hle l
      simp; omega
    · have ih := filter_lt h ⟨x, hx, h1, h2⟩
      cases hq : q y with
      | true => rw [h y hq]; simpa using ih
      | false => cases p y <;> simp <;> omega
def cnt (ops : Array Oper) (listed : Array Bool) : Nat := ((List.range ops.size).filter fun i => !listed.getD i false).length

theorem drawn_any (hG : ∀ p ∈ G, Sound P p.1 p.2) (hT : TyOk P TY) (hB : OkP ops b) {Q : Exit → Act → World → Prop} (hq : ∀ s' γ' a' w', Q' s' → Rel C n γ' s' a' w' → Q .normal a' w') :
    ∀ (fuel : Nat) (done : List Nat) (last : Option Nat) (rest : List (Nat × List Nat)) (listed : Array Bool) (s m : AS) (γ : Gh) (a : Act) (w : World), DInv C n G TY cm ops b Q' done last rest listed s m γ a w → cnt ops listed ≤ fuel →
      wpAny P .any ops Q fuel listed a w
  | 0, done, last, rest, listed, s, m, γ, a, w, I, hc => by
    have hr : Region.ready .any ops listed = [] := by
      cases hr : Region.ready .any ops listed with
      | nil => rfl
      | cons i r =>
        have hi : i ∈ Region.ready .any ops listed := by rw [hr]; simp
        obtain ⟨h0, o, ho, _⟩ := mem_ready.1 hi
        rw [getD_ft (by rw [I.size]; exact lt_of_op ho)] at h0
        have : i ∈ (List.range ops.size).filter fun i => !listed.getD i false := List.mem_filter.2 ⟨List.mem_range.2 (lt_of_op ho), by rw [h0]; rfl⟩
        have := List.length_pos_of_mem this
        unfold cnt at hc; omega
    obtain ⟨s', h1, h2⟩ := I.finish hB hr
    exact ⟨hr, hq _ _ _ _ h1 h2⟩
  | fuel + 1, done, last, rest, listed, s, m, γ, a, w, I, hc => by
    refine ⟨fun hr => ?_, fun i hi => ?_⟩
    · obtain ⟨s', h1, h2⟩ := I.finish hB hr
      exact hq _ _ _ _ h1 h2
    obtain ⟨done', last', rest', s', I', hcase⟩ := DInv.advance hB rest done last listed s m γ a w I
    obtain ⟨h0, o, ho, _⟩ := mem_ready.1 hi
    have hlt : i < listed.size := by rw [I.size]; exact lt_of_op ho
    rw [getD_ft hlt] at h0
    have hcnt : cnt ops (listed.setIfInBounds i true) ≤ fuel := by
      have : cnt ops (listed.setIfInBounds i true) < cnt ops listed := by
        refine filter_lt (fun x hx => ?_) ⟨i, List.mem_range.2 (lt_of_op ho), by rw [h0]; rfl, by rw [set_get hlt, if_pos rfl]; rfl⟩
        rw [set_get hlt] at hx
        by_cases e : x = i
        · rw [if_pos e] at hx; cases hx
        · rw [if_neg e] at hx; exact hx
      omega
    have hkey := (clos_set hB I'.size hi I'.clos).1
    obtain ⟨hsl, hgd⟩ := I'.slots hB ho hkey
    unfold wpOp
    simp only [ho]
    by_cases hd : i ∈ done'
    · obtain ⟨p1, p2, c, p3, p4, p5⟩ := I'.pend i o hd h0 ho
      rw [wanted_of I'.rel (p3.of hgd)]
      cases c with
      | true =>
        obtain ⟨v, q1, q2⟩ := p4 rfl
        refine .inl (aop_wp (G := []) (fun p hp => by simp at hp) hT I'.rel (q2 m (fun u m' => u = v ∧ m' = m) (get_of_slots hsl) (fun _ => ⟨I'.agr.h, I'.agr.f⟩) ⟨rfl, rfl⟩) fun av m' γ' u w' hk R' hu => ?_)
        obtain ⟨rfl, rfl⟩ := hk
        exact drawn_any hG hT hB hq fuel _ _ _ _ _ _ _ _ _ (I'.late hB ho hi hd p1 q1 R' hu) hcnt
      | false => exact drawn_any hG hT hB hq fuel _ _ _ _ _ _ _ _ _ (I'.late hB ho hi hd p1 (fun d hdd => (p5 rfl d hdd).symm) I'.rel ⟨[], rfl, trivial⟩) hcnt
    · rcases hcase with rfl | ⟨e, ls, r, oe, rfl, hoe, hee⟩
      · rcases I'.all i (lt_of_op ho) with h | h
        · exact absurd h hd
        · simp at h
      · have hrest : ∀ e', e' ∈ ((e, ls) :: r).map (·.1) → before b i e' = false := fun e' he' => by
          cases hb : before b i e' with
          | false => rfl
          | true =>
            have hlt' : e' < ops.size := by
              simp only [List.map_cons, List.mem_cons] at he'
              rcases he' with rfl | he'
              · exact lt_of_op hoe
              · exact okFrom_lt I'.ok e' (by simp only [List.map_cons, List.mem_cons]; exact .inr he')
            exact absurd (I'.sub e' (hkey e' hlt' hb)) (okFrom_fresh I'.ok e' he')
        obtain ⟨ls, r, I', hee⟩ : ∃ ls r, DInv C n G TY cm ops b Q' done' last' ((i, ls) :: r) listed s' m γ a w ∧ isEff o = true := by
          by_cases hie : i = e
          · subst hie
            rw [ho] at hoe; cases hoe
            exact ⟨ls, r, I', hee⟩
          · have hir : i ∈ r.map (·.1) := by
              rcases I'.all i (lt_of_op ho) with h | h
              · exact absurd h hd
              · simp only [List.map_cons, List.mem_cons] at h
                exact h.resolve_left hie
            obtain ⟨lsi, r', u0, u1, u2, u3⟩ := bring hT hB r done' e ls s' I'.ok I'.run I'.dok (by rw [eff_of hoe]; exact hee) hir (hrest e (by simp)) (fun e' he' => hrest e' (by simp only [List.map_cons, List.mem_cons]; exact .inr he'))
            refine ⟨lsi, r', { I' with ok := u1, run := u2, all := fun k hk => (I'.all k hk).imp id (u3 k).2 }, ?_⟩
            have := allocNG_eff u0
            rwa [eff_of ho] at this
        have hls : ∀ l, l ∈ ls → ∀ ol, ops[l]? = some ol → isEff ol = false := fun l hl ol hol => by
          obtain ⟨o', ho', _, _, _, h1, _⟩ := okFrom_cons I'.ok
          rw [ho] at ho'; cases ho'
          have := (h1 hee).2.1 l hl
          rwa [eff_of hol] at this
        rcases aopsD_eff ho I'.run with hrun | ⟨hcalm, hrun⟩
        · obtain ⟨hdst, c, hw, g1, g2⟩ := step1_cases hrun
          rw [wanted_of I'.rel (hw.of hgd)]
          cases c with
          | true =>
            refine .inl (aop_wp (cloG_sound hG) hT I'.rel (eff_congr I'.agr (get_of_slots hsl) hee (g1 rfl)) fun av m' γ' v w' hk R' hv => ?_)
            obtain ⟨s2, k1, k2, k3, k4, k5⟩ := hk
            obtain ⟨c1, c2⟩ := chk_ok hls k1
            exact drawn_any hG hT hB hq fuel _ _ _ _ _ _ _ _ _ (I'.effect hB ho hee hi hdst k2 k3 k4 k5 (fun l hl ol hol => .inl (c1 l hl ol hol)) c2 R' hv) hcnt
          | false =>
            obtain ⟨c1, c2⟩ := chk_ok hls (g2 rfl)
            exact drawn_any hG hT hB hq fuel _ _ _ _ _ _ _ _ _ (I'.effect hB ho hee hi hdst I'.agr (fun _ e => e) (fun _ => rfl) keep_id (fun l hl ol hol => .inl (c1 l hl ol hol)) c2 I'.rel ⟨[], rfl, trivial⟩) hcnt
        · obtain ⟨hdst, c, hw, g1, g2⟩ := step1_cases hrun
          rw [wanted_of I'.rel (hw.of hgd)]
          cases c with
          | true =>
            refine .inl (aop_wp (cloG_sound hG) hT I'.rel (eff_congr I'.agr (get_of_slots hsl) hee (calm_run hcalm (g1 rfl)).2) fun av m' γ' v w' hk R' hv => ?_)
            obtain ⟨s2, ⟨k1, d, kc, kl⟩, k2, k3, k4, k5⟩ := hk
            exact drawn_any hG hT hB hq fuel _ _ _ _ _ _ _ _ _ (I'.effect hB ho hee hi hdst k2 k3 k4 k5 (fun l hl ol hol => .inr ⟨d, kc, kl l hl ol hol⟩) k1 R' hv) hcnt
          | false =>
            exfalso
            unfold AWant at hw
            have hgn : o.guard = none := by
              unfold calm at hcalm
              split at hcalm
              · cases hcalm
              · assumption
            rw [hgn] at hw
            cases hw

theorem Rel.drawn (R : Rel C n γ s a w) : Rel C n γ s a { w with drawn := w.drawn + 1 } := by
  have S : Step γ s.now w γ s.now { w with drawn := w.drawn + 1 } is0 is0 :=
    { lim := fun _ => Nat.le_refl _, cell := fun _ _ _ _ h => h, size := Nat.le_refl _, two := R.two, le := Nat.le_refl _, Hlt := fun _ _ => rfl, Hge := fun e h1 h2 => by omega,
      loc := fun _ _ => rfl, ow := fun _ _ h _ => ⟨h, rfl, rfl⟩, vid := fun _ _ => rfl }
  have := R.grow S (h' := s.h) (fun i _ => ⟨rfl, (cl_id _).symm⟩) (fun b _ ho => ⟨rfl, rfl, ho⟩) R.plain R.ow R.limz rfl rfl rfl (fun e h1 h2 => by omega)
  rw [clL_id] at this
  have e : (fun j => (s.t j).cl is0 is0) = s.t := funext fun j => cl_id _
  rw [e] at this
  exact this

theorem drawn_all (hG : ∀ p ∈ G, Sound P p.1 p.2) (hT : TyOk P TY) {Q : Exit → Act → World → Prop}
    (hq : ∀ s' γ' a' w', Q' s' → Rel C n γ' s' a' w' → Q .normal a' w') (R : Rel C n γ s a w) {ord : List (Nat × List Nat)} (h1 : okD cm ops ord = true) (h2 : aopsD G TY n cm ops ord s Q') :
    wpAny P .any ops Q ops.size (Array.replicate ops.size false) a { w with drawn := w.drawn + 1 } := by
  simp only [okD, Bool.and_eq_true] at h1
  obtain ⟨k1, k2, k3, k4, k5⟩ := h1
  have z : ∀ i, (Array.replicate ops.size false).getD i false = false := fun i => by
    rw [Array.getD_eq_getD_getElem?, Array.getElem?_replicate]
    split <;> rfl
  refine drawn_any hG hT (okP_of k3 k4 k5) hq ops.size [] none ord _ s s γ a _
    { size := by simp
      sub := fun i hi => by rw [z i] at hi; cases hi
      effs := fun i hi => by simp at hi
      clos := fun i j hi => by rw [z i] at hi; cases hi
      dok := trivial
      all := fun i hi => .inr (by have := List.all_eq_true.1 k1 i (List.mem_range.2 hi); simpa using this)
      ok := k2
      run := h2
      rel := R.drawn
      agr := ⟨rfl, rfl, rfl⟩
      mt := fun _ _ => rfl
      pend := fun i o hi => by simp at hi } ?_
  unfold cnt
  exact Nat.le_trans (List.length_filter_le _ _) (by simp)
end
end Go.Dk
