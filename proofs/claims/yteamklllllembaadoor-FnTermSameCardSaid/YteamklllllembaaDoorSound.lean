/- One operation, and the operations of a region in their own order: sound. -/
import Derived.Test.YteamklllllembaaDoorMk2
namespace Go.Dk
section
variable {P : Program} {C : Fr} {n : Nat} {γ : Gh} {s : AS} {a : Act} {w : World} {TY : Nat → TyI} {G : List (Nat × Con)} {dr : Bool} {o : Oper} {K : AV → AS → Prop}

theorem OpOk.wp (h : OpOk P C n a w o K) {next : Act → World → Prop} {Q : Exit → Act → World → Prop}
    (hn : ∀ av s' γ' v w', K av s' → Rel C n γ' s' a w' → Rel3 C γ' s'.now w' av v → next (a.put o.dst v) w') : o.wp P a w next Q := by
  obtain ⟨r, v, w', av, s', γ', h1, h2, h3, h4, h5⟩ := h
  unfold Oper.wp
  rw [h1]
  rcases h2 with rfl | ⟨rfl, rfl⟩
  · exact hn _ _ _ _ _ h3 h4 h5
  · exact hn _ _ _ _ _ h3 h4 h5

theorem mapGetsT_rel (hT : TyOk P TY) (R : Rel C n γ s a w) : ∀ (ts : List Nat) (l : List Operand), All2 (Rel3 C γ s.now w) (mapGetsT TY s ts l) (l.map a.eval)
  | [], [] => trivial
  | _ :: _, [] => trivial
  | [], x :: r => ⟨R.get x, mapGetsT_rel hT R [] r⟩
  | t :: ts, x :: r => ⟨R.getT hT t x, mapGetsT_rel hT R ts r⟩
theorem ptrV_rel {now : Nat} : ∀ {caps : List AV} {vs : List Value}, All2 (PtrV C γ) caps vs → All2 (Rel3 C γ now w) caps vs
  | [], [], _ => trivial
  | c :: r, v :: q, ⟨h1, h2⟩ => by
    refine ⟨?_, ptrV_rel h2⟩
    cases c <;> first | exact h1 | exact h1.elim

theorem call_wp (hG : ∀ p ∈ G, Sound P p.1 p.2) (hT : TyOk P TY) (R : Rel C n γ s a w) {c : Call} {x : Operand} {f : Nat} {caps : List AV} (ho : o.op = .call c) (hc : c.callee = .value x) (hx : s.get x = .fn f caps)
    (h : acallM G dr s o.dst f (mapGetsT TY s c.argTypes.toList c.args.toList) caps (TY f).mark K) {next : Act → World → Prop} {Q : Exit → Act → World → Prop}
    (hn : ∀ av s' γ' v w', K av s' → Rel C n γ' s' a w' → Rel3 C γ' s'.now w' av v → next (a.put o.dst v) w') : o.wp P a w next Q := by
  have hr := R.get x
  rw [hx] at hr
  obtain ⟨vs, hv, hcap⟩ := hr
  have hA := (mapGetsT_rel hT R c.argTypes.toList c.args.toList).append (ptrV_rel hcap)
  obtain ⟨⟨fn, g1, g2, g3⟩, hcall⟩ : HasFn P f ∧ Calls P f (c.args.toList.map a.eval ++ vs).toArray w fun e w' => ∃ av s' γ' v, e = .returned v ∧ K av s' ∧ Rel C n γ' s' a w' ∧ Rel3 C γ' s'.now w' av v := by
    unfold acallM at h
    split at h
    · exact acall_sound hG R hA h
    · split at h
      · have := hcap.length
        cases vs with
        | cons _ _ => exact absurd this (by simp)
        | nil =>
          simp only [List.append_nil] at hA ⊢
          exact amark_sound hT R hA h
      · exact h.elim
  have hrun : (execOp a.eval o).run P w = .ok (.enter f ((c.args.toList.map a.eval ++ vs).toArray)) w := by
    have e : (c.args.toList.map a.eval ++ vs).toArray = c.args.map a.eval ++ vs.toArray := by
      rw [← List.append_toArray, ← Array.toList_map]
    rw [e]
    have e2 : (callFunc f (c.args.map a.eval ++ vs.toArray)).run P w = .ok (.enter f (c.args.map a.eval ++ vs.toArray)) w := by
      simp only [callFunc, Sem.run_bind, run_program, Result.andThen_ok, g1, g2, g3]
      rfl
    simpa [execOp, ho, resolve, hc, hv, Deferred.ofValue, invoke] using e2
  unfold Oper.wp
  rw [hrun]
  refine hcall.mono fun e w' ⟨av, s', γ', v, he, k1, k2, k3⟩ => ?_
  subst he
  exact hn _ _ _ _ _ k1 k2 k3

/-- ONE OPERATION. -/
theorem aop_wp (hG : ∀ p ∈ G, Sound P p.1 p.2) (hT : TyOk P TY) (R : Rel C n γ s a w) (h : aop G TY dr s o K) {next : Act → World → Prop} {Q : Exit → Act → World → Prop}
    (hn : ∀ av s' γ' v w', K av s' → Rel C n γ' s' a w' → Rel3 C γ' s'.now w' av v → next (a.put o.dst v) w') : o.wp P a w next Q := by
  cases hop : o.op
  case move x => exact (move_ok R x (.inl hop) (by simpa only [aop, hop] using h)).wp hn
  case assign x => exact (assign_ok hT R x hop (by simpa only [aop, hop] using h)).wp hn
  case pick c x y => exact (pick_ok R hop h).wp hn
  case alloc ty => exact (alloc_ok hT R hop h).wp hn
  case box ty x => exact (box_ok R hop h).wp hn
  case build ty ps => exact (build_ok hT R hop h).wp hn
  case buildSlice ty l ps => exact (buildSlice_ok hT R hop h).wp hn
  case load ty x => exact (load_ok hT R hop h).wp hn
  case makeSlice ty x y => exact (make_ok hT R hop h).wp hn
  case store ty x y => exact (store_ok hT R hop h).wp hn
  case nilCheck x => exact (nilCheck_ok R hop h).wp hn
  case fieldAddr ty x j => exact (fieldAddr_ok hT R hop h).wp hn
  case indexAddr ty x y => exact (indexAddr_ok hT R hop h).wp hn
  case index ty x y => exact (index_ok hT R hop h).wp hn
  case binOp op ty x y ty' => exact (binOp_ok hT R hop h).wp hn
  case unOp op ty x => exact (unOp_ok R hop h).wp hn
  case convert src dst x => exact (convert_ok hT R hop h).wp hn
  case makeFunc f first caps => exact (makeFunc_ok R hop h).wp hn
  case extract x i => exact (extract_ok R hop h).wp hn
  case slice ty x lo hi mx =>
    simp only [aop, hop] at h
    cases mx with
    | some _ => exact h.elim
    | none =>
      simp only at h
      split at h
      case h_1 l0 l p hk hx hlo => exact (show OpOk P C n a w o K from slice_str_ok hT R hop hk hx hlo (by cases hi <;> exact h)).wp hn
      case h_2 k0 ns0 g0 kk l g p hk hx hlo => exact (show OpOk P C n a w o K from slice_ints_ok hT R hop hk hx hlo (by cases hi <;> exact h)).wp hn
      case h_3 => exact h.elim
  case call c =>
    simp only [aop, hop] at h
    split at h
    case h_1 x hc =>
      split at h
      case h_1 f caps hx => exact call_wp hG hT R hop hc hx h hn
      case h_2 => exact h.elim
    case h_2 b hc =>
      split at h
      case h_1 t x hat hargs =>
        have hat : c.argTypes = #[t] := by rw [← Array.toArray_toList (xs := c.argTypes), hat]
        cases hl : c.args.toList with
        | nil => rw [hl] at hargs; exact absurd (congrArg List.length hargs) (by simp [mapGets])
        | cons y r =>
          cases r with
          | cons _ _ => rw [hl] at hargs; exact absurd (congrArg List.length hargs) (by simp [mapGets])
          | nil =>
            rw [hl] at hargs
            have hx : s.get y = x := (List.cons.inj hargs).1
            subst hx
            have har : c.args = #[y] := by rw [← Array.toArray_toList (xs := c.args), hl]
            exact (len_ok hT R hop hc hat har h).wp hn
      case h_2 t t' p q hat hargs =>
        cases hl : c.args.toList with
        | nil => rw [hl] at hargs; exact absurd (congrArg List.length hargs) (by simp [mapGets])
        | cons x r =>
          cases r with
          | nil => rw [hl] at hargs; exact absurd (congrArg List.length hargs) (by simp [mapGets])
          | cons y r =>
            cases r with
            | cons _ _ => rw [hl] at hargs; exact absurd (congrArg List.length hargs) (by simp [mapGets])
            | nil =>
              rw [hl] at hargs
              have hx := (List.cons.inj hargs).1
              have hy := (List.cons.inj (List.cons.inj hargs).2).1
              have har : c.args = #[x, y] := by rw [← Array.toArray_toList (xs := c.args), hl]
              exact (max_ok R hop hc har hx hy h).wp hn
      case h_3 t t' x y hat hargs =>
        cases hl : c.args.toList with
        | nil => rw [hl] at hargs; exact absurd (congrArg List.length hargs) (by simp [mapGets])
        | cons p r =>
          cases r with
          | nil => rw [hl] at hargs; exact absurd (congrArg List.length hargs) (by simp [mapGets])
          | cons q r =>
            cases r with
            | cons _ _ => rw [hl] at hargs; exact absurd (congrArg List.length hargs) (by simp [mapGets])
            | nil =>
              rw [hl] at hargs
              have hx := (List.cons.inj hargs).1
              have hy := (List.cons.inj (List.cons.inj hargs).2).1
              subst hx hy
              have har : c.args = #[p, q] := by rw [← Array.toArray_toList (xs := c.args), hl]
              split at h
              case h_2 => exact h.elim
              case h_1 d hd htt =>
                have e : t = t' := Nat.eq_of_beq_eq_true htt
                subst e
                have hat : c.argTypes = #[t, t] := by rw [← Array.toArray_toList (xs := c.argTypes), hat]
                have := append_ok hT R (d := d) hop hc hat har h
                exact this.wp hn
      case h_4 => exact h.elim
    case h_3 => exact h.elim
  all_goals (simp only [aop, hop] at h)

/-- Whether a guard holds. -/
def AWant (ops : Array Oper) (o : Oper) (s : AS) (b : Bool) : Prop :=
  match o.guard with
  | none => b = true
  | some (j, want) => ∃ d, (ops[j]?).bind (·.dst) = some d ∧ ((∃ x, s.t d = .bool x ∧ b = (x == want)) ∨ (s.t d = .tup [] ∧ b = false))
def AS.put (s : AS) (d : Option Nat) (v : AV) : AS := ⟨updO s.t d v, s.h, s.fh, s.now⟩

theorem upd_eta (f : Nat → AV) (i : Nat) : upd f i (f i) = f := by
  funext j
  by_cases h : j = i
  · subst h; rw [upd_same]
  · rw [upd_ne h]

theorem step1_cases {ops : Array Oper} {K : AS → Prop} (h : step1 G TY n ops dr o s K) :
    dstOk n o.dst = true ∧ ∃ b, AWant ops o s b ∧ (b = true → aop G TY dr s o fun v s' => K (s'.put o.dst v)) ∧ (b = false → K (s.put o.dst (.tup []))) := by
  have key : ∀ s : AS, (aop G TY dr s o fun v s' => match s' with | ⟨t, h, fh, now⟩ => force v fun v => K ⟨updO t o.dst v, h, fh, now⟩) → aop G TY dr s o fun v s' => K (s'.put o.dst v) := by
    intro s h
    have e : (fun (v : AV) (s' : AS) => match s' with | ⟨t, h, fh, now⟩ => force v fun v => K ⟨updO t o.dst v, h, fh, now⟩) = fun v s' => K (s'.put o.dst v) := by
      funext v s'
      exact force_eq v _
    rw [← e]; exact h
  unfold step1 at h
  split at h
  case h_1 => exact h.elim
  case h_2 hd =>
    refine ⟨hd, ?_⟩
    split at h
    case h_1 hg => exact ⟨true, by simp [AWant, hg], fun _ => key s h, fun e => (by cases e)⟩
    case h_2 j want hg =>
      split at h
      case h_1 => exact h.elim
      case h_2 d hj =>
        split at h
        case h_3 => exact h.elim
        case h_2 hb => exact ⟨false, by unfold AWant; rw [hg]; exact ⟨d, hj, .inr ⟨hb, rfl⟩⟩, nofun, fun _ => h⟩
        case h_1 b hb =>
          refine ⟨b == want, ?_, ?_, ?_⟩
          · unfold AWant; rw [hg]; exact ⟨d, hj, .inl ⟨b, hb, rfl⟩⟩
          · intro e
            have e : b = want := by simpa using e
            subst e
            cases b with
            | true =>
              have := Br.t h rfl
              have e2 : (⟨upd s.t d (.bool true), s.h, s.fh, s.now⟩ : AS) = s := by rw [← hb, upd_eta]
              rw [e2] at this
              exact key s this
            | false =>
              have := Br.f h rfl
              have e2 : (⟨upd s.t d (.bool false), s.h, s.fh, s.now⟩ : AS) = s := by rw [← hb, upd_eta]
              rw [e2] at this
              exact key s this
          · intro e
            cases b <;> cases want <;> first | (simp at e; done) | skip
            · have := Br.f h rfl
              rw [← hb, upd_eta] at this
              exact this
            · have := Br.t h rfl
              rw [← hb, upd_eta] at this
              exact this

theorem wanted_of {ops : Array Oper} {b : Bool} (R : Rel C n γ s a w) (h : AWant ops o s b) : Region.wanted o (yielded ops a.tmps) = b := by
  unfold AWant at h
  unfold Region.wanted
  split at h
  case h_1 hg => rw [h]; simp [hg]
  case h_2 j want hg =>
    obtain ⟨d, h1, ⟨x, h2, h3⟩ | ⟨h2, h3⟩⟩ := h
    · simp only [hg]
      have hr := R.t d
      rw [h2] at hr
      have hr : a.tmps.getD d undef = .bool x := hr
      have e : a.tmps[d]? = some (.bool x) := by
        rw [Array.getD_eq_getD_getElem?] at hr
        cases hq : a.tmps[d]? with
        | none => rw [hq] at hr; simp [undef] at hr
        | some v => rw [hq] at hr; exact congrArg some hr
      simp only [yielded, h1, Option.bind_some, e, h3]
      cases x <;> cases want <;> rfl
    · simp only [hg]
      have hr := R.t d
      rw [h2] at hr
      obtain ⟨us, hv, hu⟩ := hr
      have : us = [] := by cases us <;> first | rfl | exact hu.elim
      subst this
      have e : a.tmps[d]? = none ∨ a.tmps[d]? = some (.tuple #[]) := by
        rw [Array.getD_eq_getD_getElem?] at hv
        cases hq : a.tmps[d]? with
        | none => exact .inl rfl
        | some v => rw [hq] at hv; exact .inr (congrArg some hv)
      rw [h3]
      rcases e with e | e <;> simp only [yielded, h1, Option.bind_some, e] <;> rfl

theorem aops_wp (hG : ∀ p ∈ G, Sound P p.1 p.2) (hT : TyOk P TY) {ops : Array Oper} {Q : Exit → Act → World → Prop} {Q' : AS → Prop}
    (hq : ∀ s' γ' a' w', Q' s' → Rel C n γ' s' a' w' → Q .normal a' w') :
    ∀ (l : List Oper) (k : Nat), ops.toList.drop k = l → ∀ (s : AS) (γ : Gh) (a : Act) (w : World), aops G TY n ops l s Q' → Rel C n γ s a w → wpOps P ops Q (List.range' k l.length) a w
  | [], k, _, s, γ, a, w, h, R => hq _ _ _ _ h R
  | o :: r, k, hl, s, γ, a, w, h, R => by
    have hk : ops[k]? = some o := by
      have : (ops.toList.drop k)[0]? = some o := by rw [hl]; rfl
      rw [List.getElem?_drop] at this
      simpa using this
    have hl' : ops.toList.drop (k + 1) = r := by rw [← List.drop_drop, hl]; rfl
    obtain ⟨hd, b, hw, h1, h2⟩ := step1_cases h
    simp only [List.length_cons, List.range'_succ, wpOps, hk, wanted_of R hw]
    cases b with
    | true =>
      refine .inl (aop_wp hG hT R (h1 rfl) fun av s' γ' v w' hK R' hv => ?_)
      exact aops_wp hG hT hq r (k + 1) hl' _ γ' _ _ hK (R'.put hd hv)
    | false => exact aops_wp hG hT hq r (k + 1) hl' _ γ _ _ (h2 rfl) (R.put hd ⟨[], rfl, trivial⟩)

theorem region_wp (hG : ∀ p ∈ G, Sound P p.1 p.2) (hT : TyOk P TY) {id : Nat} {ops : Array Oper} {Q : Exit → Act → World → Prop} {Q' : AS → Prop}
    (hq : ∀ s' γ' a' w', Q' s' → Rel C n γ' s' a' w' → Q .normal a' w') (R : Rel C n γ s a w) (h : aops G TY n ops ops.toList s Q') : (Code.region id ops false).wp P Q a w := by
  refine wp_region ?_
  have := aops_wp hG hT hq ops.toList 0 rfl s γ a w h R
  rw [List.range_eq_range']
  exact this
end
end Go.Dk
