/- Contracts, and calls by them. -/
import Derived.Test.YteamklllllembaaDoorOps8
namespace Go.Dk

/-- What is known at a call's begin. -/
def Fr.g0 (C : Fr) : Gh := { lim := C.lim0, loc := fun _ => 0, ow := fun _ => none, vid := fun _ => undef, H := fun e => if e < 2 then 0 else C.w0.heap.size }
def RelOut (C : Fr) (γ : Gh) (w : World) (r : AV) (v : Value) : Prop :=
  match r with
  | .newp c => ∃ b, v = .pointer (some ⟨b, 0, none⟩) ∧ C.w0.heap.size ≤ b ∧ γ.lim b = 0 ∧ γ.ow b = none ∧ VarR C γ 3 w b c
  | r => Rel3 C γ 3 w r v
/-- What is known at its end. -/
structure OutOk (C : Fr) (γ : Gh) (w : World) (r : AV) (v : Value) (hs : List AV) : Prop where
  lim0 : ∀ b, b < C.w0.heap.size → γ.lim b = C.lim0 b
  limz : ∀ b, w.heap.size ≤ b → γ.lim b = 0
  H2 : γ.H 2 = C.w0.heap.size
  plain : ∀ b, C.w0.heap.size ≤ b → b < w.heap.size → 0 < γ.lim b → PlainB w b
  ow : ∀ b k, γ.ow b = some k → C.w0.heap.size ≤ b ∧ b < w.heap.size
  kept : Kept C w
  rel : RelOut C γ w r v
  len : hs.length = C.nf
  f : ∀ (i : Nat) u, hs[i]? = some u → VarR C γ 3 w (C.floc i) u
structure FrOk (C : Fr) : Prop where
  inj : ∀ i j, i < C.nf → j < C.nf → C.floc i = C.floc j → i = j
  lt : ∀ i, i < C.nf → C.floc i < C.w0.heap.size ∧ C.lim0 (C.floc i) = 0
  limz : ∀ b, C.w0.heap.size ≤ b → C.lim0 b = 0
/-- The function does what the contract says. -/
def Sound (P : Program) (f : Nat) (c : Con) : Prop :=
  HasFn P f ∧ ∀ args hs K, c args hs K → ∀ (C : Fr) (vals : List Value), FrOk C → C.nf = hs.length → All2 (Rel3 C C.g0 3 C.w0) args vals → (∀ (i : Nat) u, hs[i]? = some u → VarR C C.g0 3 C.w0 (C.floc i) u) →
    Calls P f vals.toArray C.w0 fun e w' => ∃ r hs' v γ', e = .returned v ∧ K r hs' ∧ OutOk C γ' w' r v hs'

theorem lkC_mem : ∀ {G : List (Nat × Con)} {f : Nat} {args hs : List AV} {K : AV → List AV → Prop}, lkC G f args hs K → ∃ c, (f, c) ∈ G ∧ c args hs K
  | [], _, _, _, _, h => h.elim
  | (g, c) :: r, f, args, hs, K, h => by
    simp only [lkC] at h
    cases hb : Nat.beq f g with
    | true =>
      rw [hb] at h
      have : f = g := by simpa using hb
      exact ⟨c, by rw [this]; simp, h⟩
    | false =>
      rw [hb] at h
      obtain ⟨c', h1, h2⟩ := lkC_mem (G := r) h
      exact ⟨c', by simp [h1], h2⟩

mutual
theorem TAt.det {lim lim' : Nat → Nat} {w : World} : ∀ (t t' : T) (b off : Nat) (fp fp' : List Nat), TAt lim w t b off fp → TAt lim' w t' b off fp' → t = t' ∧ fp = fp'
  | .mk k n ts, .mk k' n' ts', b, off, fp, fp', ⟨_, h1, h2, a, cap, h3, _, h5⟩, ⟨_, g1, g2, a', cap', g3, _, g5⟩ => by
    rw [h1] at g1; rw [h2] at g2; rw [h3] at g3
    cases g1; cases g2
    simp only [Option.some.injEq, Value.slice.injEq] at g3
    obtain ⟨rfl, hl, rfl⟩ := g3
    rcases h5 with ⟨rfl, rfl⟩ | ⟨b1, o1, f1, hne, rfl, rfl, ha⟩
    · have : ts' = [] := List.eq_nil_of_length_eq_zero (by simpa using hl.symm)
      subst this
      rcases g5 with ⟨_, rfl⟩ | ⟨b2, o2, f2, hne, _⟩
      · exact ⟨rfl, rfl⟩
      · exact absurd rfl hne
    · rcases g5 with ⟨rfl, _⟩ | ⟨b2, o2, f2, _, e, rfl, ga⟩
      · exact absurd (List.eq_nil_of_length_eq_zero (by simpa using hl)) hne
      · cases e
        obtain ⟨rfl, rfl⟩ := Arr.det ts ts' _ _ _ _ ha ga hl
        exact ⟨rfl, rfl⟩
theorem Arr.det {lim lim' : Nat → Nat} {w : World} : ∀ (ts ts' : List T) (b off : Nat) (fp fp' : List Nat), Arr lim w ts b off fp → Arr lim' w ts' b off fp' → ts.length = ts'.length → ts = ts' ∧ fp = fp'
  | [], [], _, _, _, _, h, g, _ => ⟨rfl, by rw [show _ = [] from h, show _ = [] from g]⟩
  | [], _ :: _, _, _, _, _, _, _, h => by simp at h
  | _ :: _, [], _, _, _, _, _, _, h => by simp at h
  | t :: ts, t' :: ts', b, off, fp, fp', ⟨f1, f2, h1, h2, h3⟩, ⟨g1, g2, k1, k2, k3⟩, hl => by
    obtain ⟨rfl, rfl⟩ := TAt.det t t' b off f1 g1 h2 k2
    obtain ⟨rfl, rfl⟩ := Arr.det ts ts' b (off + 3) f2 g2 h3 k3 (by simpa using hl)
    exact ⟨rfl, by rw [h1, k1]⟩
end
theorem Els.det {lim lim' : Nat → Nat} {w : World} {ts ts' : List T} {a : Option Addr} {fp fp' : List Nat} (h : Els lim w ts a fp) (g : Els lim' w ts' a fp') (hl : ts.length = ts'.length) : ts = ts' ∧ fp = fp' := by
  rcases h with ⟨rfl, rfl⟩ | ⟨b, o, f, hne, rfl, rfl, ha⟩
  · have : ts' = [] := List.eq_nil_of_length_eq_zero (by simpa using hl.symm)
    subst this
    rcases g with ⟨_, rfl⟩ | ⟨_, _, _, hne, _⟩
    · exact ⟨rfl, rfl⟩
    · exact absurd rfl hne
  · rcases g with ⟨rfl, _⟩ | ⟨_, _, _, _, e, rfl, ga⟩
    · exact absurd (List.eq_nil_of_length_eq_zero (by simpa using hl)) hne
    · cases e
      obtain ⟨rfl, rfl⟩ := Arr.det _ _ _ _ _ _ ha ga hl
      exact ⟨rfl, rfl⟩

theorem InI.det {lim lim' : Nat → Nat} {w : World} {k k' : IntKind} {ns ns' : List Int} {a : Option Addr} {fp fp' : List Nat} (h : InI lim w k ns a fp) (g : InI lim' w k' ns' a fp') (hl : ns.length = ns'.length) : fp = fp' := by
  rcases h with ⟨rfl, rfl⟩ | ⟨b, o, hne, rfl, rfl, ha⟩
  · have : ns' = [] := List.eq_nil_of_length_eq_zero (by simpa using hl.symm)
    subst this
    rcases g with ⟨_, rfl⟩ | ⟨_, _, hne, _⟩
    · rfl
    · exact absurd rfl hne
  · rcases g with ⟨rfl, _⟩ | ⟨_, _, _, e, rfl, ga⟩
    · exact absurd (List.eq_nil_of_length_eq_zero (by simpa using hl)) hne
    · cases e; rfl

/- The arguments, as the callee sees them. -/
def svIn : List AV → List Value → Value
  | .slc _ _ :: _, c :: _ => c
  | _ :: r, _ :: cs => svIn r cs
  | _, _ => undef
def svOf : AV → Value → Value
  | .st fs, .agg cs => svIn fs cs.toList
  | _, v => v

section
variable {P : Program} {C : Fr} {n : Nat} {γ : Gh} {s : AS} {a : Act} {w : World}
/-- Where a variable lies. -/
def bl (C : Fr) (γ : Gh) : Bool × Nat → Nat
  | (true, i) => γ.loc i
  | (false, i) => C.floc i
def calleeFr (C : Fr) (γ : Gh) (now : Nat) (w : World) (args : List AV) (vals : List Value) (h1 : Inv w) (h2 : NG ≤ w.heap.size) (h3 : ∀ p ∈ ptrsL args, NG ≤ bl C γ p) : Fr :=
  { w0 := w, lim0 := γ.lim, floc := fun i => match (ptrsL args)[i]? with | some p => bl C γ p | none => 0, nf := (ptrsL args).length,
    av := fun p => match args[p]?, vals[p]? with | some u, some v => svOf u v | _, _ => undef, am := fun b => InM C γ now w (allL now args) b,
    inv := h1, ng := h2, nfl := fun i hi => by
      show NG ≤ match (ptrsL args)[i]? with | some p => bl C γ p | none => 0
      rw [List.getElem?_eq_getElem hi]; exact h3 _ (List.getElem_mem hi) }

theorem cel1_ok {now : Nat} {C' : Fr} {γ' : Gh} (hl : γ'.lim = γ.lim) {u : AV} {v : Value} (h : RelS C γ now w u v) : RelS C' γ' 3 w (cel1 u) v := by
  cases u <;> first | exact h | trivial | skip
  · obtain ⟨a, cap, fp, h1, h2, h3, _⟩ := h; exact ⟨a, cap, fp, h1, h2, hl ▸ h3, trivial⟩
  · obtain ⟨a, cap, fp, h1, h2, h3, _⟩ := h; exact ⟨a, cap, fp, h1, h2, hl ▸ h3, trivial⟩
  · obtain ⟨a, cap, h1, h2, h3⟩ := h; exact ⟨a, cap, h1, h2, hl ▸ h3⟩
theorem cel1L_ok {now : Nat} {C' : Fr} {γ' : Gh} (hl : γ'.lim = γ.lim) : ∀ {fs : List AV} {cs : List Value}, All2 (RelS C γ now w) fs cs → All2 (RelS C' γ' 3 w) (cel1L fs) cs
  | [], [], _ => trivial
  | _ :: _, _ :: _, ⟨h1, h2⟩ => ⟨cel1_ok hl h1, cel1L_ok hl h2⟩
theorem cel2_flat {now : Nat} {C' : Fr} {γ' : Gh} (hl : γ'.lim = γ.lim) {u : AV} {cs : List Value} (h : FlatR C γ now w u cs) : FlatR C' γ' 3 w (cel2 u) cs := by
  by_cases hu : ∃ fs, u = .st fs
  · obtain ⟨fs, rfl⟩ := hu; exact cel1L_ok hl h
  · have hu : ∀ fs, u ≠ .st fs := fun fs e => hu ⟨fs, e⟩
    rw [FlatR_eq hu] at h
    obtain ⟨v, h1, h2⟩ := h
    have e1 : cel2 u = cel1 u := by cases u <;> first | rfl | exact absurd rfl (hu _)
    have e2 : ∀ fs, cel1 u ≠ .st fs := by cases u <;> first | nofun | exact absurd rfl (hu _)
    rw [e1, FlatR_eq e2]
    exact ⟨v, h1, cel1_ok hl h2⟩

theorem all_ok {now es : Nat} {x : Option Addr} {len cap : Nat} {fp : List Nat} {g : Tag} (h3 : 3 ≤ now) (hlt : ∀ b ∈ fp, b < w.heap.size) (h : TagOk C γ now w es x len cap fp g) : ∀ b ∈ fp, InM C γ now w (g.all now) b := by
  intro b hb
  cases g with
  | any => exact InM.full h3 (hlt b hb)
  | el => exact InM.full h3 (hlt b hb)
  | iv r m nd o => exact h.1.all.1 b hb
  | arg i => exact h.2 b hb
/-- The slice that came in as argument p. -/
theorem slc_in {now : Nat} {C' : Fr} {γ' : Gh} (h3' : 3 ≤ now) (hl : γ'.lim = γ.lim) (hH : γ'.H 2 = w.heap.size) {p : Nat} {ts : List T} {g : Tag} {v : Value} (ham : ∀ b, InM C γ now w (g.all now) b → C'.am b) (h : RelE C γ now w (.slc ts g) v) (hp : C'.av p = v) : RelE C' γ' 3 w (.slc ts (.arg p)) v := by
  obtain ⟨a, cap, fp, h1, h2, h3, h4⟩ := h
  exact ⟨a, cap, fp, h1, h2, hl ▸ h3, by rw [hp, h1], fun b hb => InM.two.2 ⟨by rw [hH]; exact h3.lt b hb, ham b (all_ok h3' h3.lt h4 b hb)⟩⟩
theorem cin1L_ok {now : Nat} {C' : Fr} {γ' : Gh} (h3' : 3 ≤ now) (hl : γ'.lim = γ.lim) (hH : γ'.H 2 = w.heap.size) {p : Nat} : ∀ {fs : List AV} {cs : List Value}, (∀ b, InM C γ now w (allIn now fs) b → C'.am b) → All2 (RelS C γ now w) fs cs → C'.av p = svIn fs cs → All2 (RelS C' γ' 3 w) (cin1L p fs) cs
  | [], [], _, _, _ => trivial
  | u :: fs, c :: cs, ham, ⟨h1, h2⟩, hp => by
    by_cases hu : ∃ ts g, u = .slc ts g
    · obtain ⟨ts, g, rfl⟩ := hu
      exact ⟨slc_in h3' hl hH ham h1 hp, cel1L_ok hl h2⟩
    · have e1 : cin1L p (u :: fs) = cel1 u :: cin1L p fs := by cases u <;> first | rfl | exact absurd ⟨_, _, rfl⟩ hu
      have e2 : svIn (u :: fs) (c :: cs) = svIn fs cs := by cases u <;> first | rfl | exact absurd ⟨_, _, rfl⟩ hu
      have e3 : allIn now (u :: fs) = allIn now fs := by cases u <;> first | rfl | exact absurd ⟨_, _, rfl⟩ hu
      rw [e1]
      exact ⟨cel1_ok hl h1, cin1L_ok h3' hl hH (e3 ▸ ham) h2 (by rw [hp, e2])⟩
theorem cin1_ok {now : Nat} {C' : Fr} {γ' : Gh} (h3' : 3 ≤ now) (hl : γ'.lim = γ.lim) (hH : γ'.H 2 = w.heap.size) {p : Nat} {u : AV} {v : Value} (ham : ∀ b, InM C γ now w (all1 now u) b → C'.am b) (h : RelS C γ now w u v) (hp : C'.av p = v) : RelS C' γ' 3 w (cin1 p u) v := by
  cases u <;> first | exact h | trivial | skip
  · exact slc_in h3' hl hH ham h hp
  · obtain ⟨a, cap, fp, h1, h2, h3, h4⟩ := h
    exact ⟨a, cap, fp, h1, h2, hl ▸ h3, by rw [hp, h1], fun b hb => InM.two.2 ⟨by rw [hH]; exact h3.lt b hb, ham b (all_ok h3' h3.lt h4 b hb)⟩⟩
  · obtain ⟨a, cap, h1, h2, h3⟩ := h; exact ⟨a, cap, h1, h2, hl ▸ h3⟩
theorem args1_ok {C' : Fr} {γ' : Gh} : ∀ {caps : List AV} {vs : List Value} (k : Nat), All2 (PtrV C γ) caps vs → (∀ (i : Nat) q, (ptrs1 caps)[i]? = some q → C'.floc (k + i) = bl C γ q) → All2 (PtrV C' γ') (args1 caps k) vs
  | [], [], _, _, _ => trivial
  | c :: r, v :: vs, k, ⟨h1, h2⟩, hf => by
    cases c <;> simp only [PtrV] at h1 <;> first | exact h1.elim | skip
    all_goals
      simp only [args1, ptrs1] at hf ⊢
      refine ⟨?_, args1_ok (k + 1) h2 fun i q hq => ?_⟩
      · have := hf 0 _ rfl
        simp only [PtrV, Nat.add_zero] at this ⊢
        rw [this]; exact h1
      · have := hf (i + 1) q (by simpa using hq)
        rw [← this]; congr 1; omega
theorem argsL_ok {now : Nat} {C' : Fr} {γ' : Gh} (h3' : 3 ≤ now) (hl : γ'.lim = γ.lim) (hH : γ'.H 2 = w.heap.size) : ∀ {args : List AV} {vals : List Value} (p k : Nat), (∀ b, InM C γ now w (allL now args) b → C'.am b) → All2 (Rel3 C γ now w) args vals →
    (∀ (i : Nat) q, (ptrsL args)[i]? = some q → C'.floc (k + i) = bl C γ q) → (∀ (i : Nat) u v, args[i]? = some u → vals[i]? = some v → C'.av (p + i) = svOf u v) → All2 (Rel3 C' γ' 3 w) (argsL args p k) vals
  | [], [], _, _, _, _, _, _ => trivial
  | u :: args, v :: vals, p, k, ham0, ⟨h1, h2⟩, hf, hv => by
    have ham1 : ∀ b, InM C γ now w (all1 now u) b → C'.am b := fun b hb => ham0 b (InM.or.2 (.inl hb))
    have ham : ∀ b, InM C γ now w (allL now args) b → C'.am b := fun b hb => ham0 b (InM.or.2 (.inr hb))
    have hv0 := hv 0 u v rfl rfl
    have hvr : ∀ (i : Nat) u v, args[i]? = some u → vals[i]? = some v → C'.av (p + 1 + i) = svOf u v := fun i x y hx hy => by
      have := hv (i + 1) x y (by simpa using hx) (by simpa using hy)
      rw [← this]; congr 1; omega
    simp only [Nat.add_zero] at hv0
    by_cases hst : ∃ fs, u = .st fs
    · obtain ⟨fs, rfl⟩ := hst
      obtain ⟨cs, rfl, hall⟩ := h1
      simp only [argsL, ptrsL] at hf ⊢
      exact ⟨⟨cs, rfl, cin1L_ok h3' hl hH ham1 hall (by rw [hv0]; simp [svOf])⟩, argsL_ok h3' hl hH (p + 1) k ham h2 hf hvr⟩
    · by_cases hfn : ∃ f caps, u = .fn f caps
      · obtain ⟨f, caps, rfl⟩ := hfn
        obtain ⟨vs, rfl, hall⟩ := h1
        simp only [argsL, ptrsL] at hf ⊢
        refine ⟨⟨vs, rfl, args1_ok k hall fun i q hq => hf i q ?_⟩, argsL_ok h3' hl hH (p + 1) _ ham h2 (fun i q hq => ?_) hvr⟩
        · rw [List.getElem?_append_left ((List.getElem?_eq_some_iff.1 hq).1)]; exact hq
        · have := hf ((ptrs1 caps).length + i) q (by rw [List.getElem?_append_right (by omega)]; simpa using hq)
          rw [← this]; congr 1; omega
      · by_cases hptr : ∃ b i, (b = true ∧ u = .ptr i) ∨ (b = false ∧ u = .fptr i)
        · obtain ⟨b, i, ⟨rfl, rfl⟩ | ⟨rfl, rfl⟩⟩ := hptr
          all_goals
            simp only [argsL, ptrsL] at hf ⊢
            refine ⟨?_, argsL_ok h3' hl hH (p + 1) (k + 1) ham h2 (fun i q hq => ?_) hvr⟩
            · have e := hf 0 _ rfl
              simp only [Nat.add_zero] at e
              show v = .pointer (some ⟨C'.floc k, 0, none⟩)
              rw [e]; exact h1
            · have := hf (i + 1) q (by simpa using hq)
              rw [← this]; congr 1; omega
        · have e1 : argsL (u :: args) p k = cin1 p u :: argsL args (p + 1) k := by
            cases u <;> first | rfl | exact absurd ⟨_, rfl⟩ hst | exact absurd ⟨_, _, rfl⟩ hfn | exact absurd ⟨true, _, .inl ⟨rfl, rfl⟩⟩ hptr | exact absurd ⟨false, _, .inr ⟨rfl, rfl⟩⟩ hptr
          have e2 : ptrsL (u :: args) = ptrsL args := by
            cases u <;> first | rfl | exact absurd ⟨_, rfl⟩ hst | exact absurd ⟨_, _, rfl⟩ hfn | exact absurd ⟨true, _, .inl ⟨rfl, rfl⟩⟩ hptr | exact absurd ⟨false, _, .inr ⟨rfl, rfl⟩⟩ hptr
          rw [e1]
          rw [e2] at hf
          refine ⟨?_, argsL_ok h3' hl hH (p + 1) k ham h2 hf hvr⟩
          by_cases htup : ∃ vs, u = .tup vs
          · obtain ⟨vs, rfl⟩ := htup; trivial
          · have hst' : ∀ fs, u ≠ .st fs := fun fs e => hst ⟨fs, e⟩
            have htup' : ∀ fs, u ≠ .tup fs := fun fs e => htup ⟨fs, e⟩
            rw [Rel3_eq htup', Rel2_eq hst'] at h1
            have hsv : svOf u v = v := by cases u <;> first | rfl | exact absurd rfl (hst' _)
            have hc := cin1_ok h3' hl hH ham1 h1 (hv0.trans hsv)
            revert hc
            generalize hq : cin1 p u = q
            intro hc
            cases q <;> first | exact hc | exact hc.elim

theorem conts_get : ∀ (ps : List (Bool × Nat)) (i : Nat) (u : AV), (conts s ps)[i]? = some u → ∃ b j, ps[i]? = some (b, j) ∧ u = cel2 (match b with | true => s.h j | false => s.fh.getD j .top)
  | [], i, u, h => by simp [conts] at h
  | (true, j) :: r, 0, u, h => by simp [conts] at h; exact ⟨true, j, rfl, h.symm⟩
  | (false, j) :: r, 0, u, h => by simp [conts] at h; exact ⟨false, j, rfl, by simp [h]⟩
  | (true, j) :: r, i + 1, u, h => by
    obtain ⟨b, k, h1, h2⟩ := conts_get r i u (by simpa [conts] using h)
    exact ⟨b, k, by simpa using h1, h2⟩
  | (false, j) :: r, i + 1, u, h => by
    obtain ⟨b, k, h1, h2⟩ := conts_get r i u (by simpa [conts] using h)
    exact ⟨b, k, by simpa using h1, h2⟩
theorem conts_length : ∀ (ps : List (Bool × Nat)), (conts s ps).length = ps.length
  | [] => rfl
  | (true, _) :: r => by simp [conts, conts_length r]
  | (false, _) :: r => by simp [conts, conts_length r]
theorem okConts_all : ∀ {ps : List (Bool × Nat)}, okConts s ps = true → ∀ p ∈ ps, (p.1 = true → s.h p.2 ≠ .top) ∧ (p.1 = false → s.fh.getD p.2 .top ≠ .top)
  | [], _, p, hp => by simp at hp
  | (true, j) :: r, h, p, hp => by
    have h0 : s.h j ≠ .top ∧ okConts s r = true := by
      simp only [okConts] at h
      split at h
      · cases h
      · rename_i hne; exact ⟨fun e => hne (by rw [e]), h⟩
    rcases List.mem_cons.1 hp with rfl | hp
    · exact ⟨fun _ => h0.1, nofun⟩
    · exact okConts_all h0.2 p hp
  | (false, j) :: r, h, p, hp => by
    have h0 : s.fh.getD j .top ≠ .top ∧ okConts s r = true := by
      simp only [okConts] at h
      split at h
      · cases h
      · rename_i hne; exact ⟨fun e => hne (by rw [e]), h⟩
    rcases List.mem_cons.1 hp with rfl | hp
    · exact ⟨nofun, fun _ => h0.1⟩
    · exact okConts_all h0.2 p hp
theorem memP_iff : ∀ {ps : List (Bool × Nat)} {b : Bool} {i : Nat}, memP b i ps = false → (b, i) ∉ ps
  | [], _, _, _ => by simp
  | (c, j) :: r, b, i, h => by
    intro hm
    simp only [memP] at h
    rcases List.mem_cons.1 hm with e | hm'
    · obtain ⟨rfl, rfl⟩ := Prod.mk.inj e
      cases b <;> simp at h
    · cases b <;> cases c <;> simp only at h
      · cases hb : Nat.beq i j <;> simp only [hb] at h
        · exact memP_iff h hm'
        · cases h
      · exact memP_iff h hm'
      · exact memP_iff h hm'
      · cases hb : Nat.beq i j <;> simp only [hb] at h
        · exact memP_iff h hm'
        · cases h
theorem nodupP_nodup : ∀ {ps : List (Bool × Nat)}, nodupP ps = true → ps.Nodup
  | [], _ => List.nodup_nil
  | (b, i) :: r, h => by
    simp only [nodupP] at h
    split at h
    · cases h
    · rename_i hm; exact List.nodup_cons.2 ⟨memP_iff hm, nodupP_nodup h⟩

theorem bl_inj (R : Rel C n γ s a w) {p q : Bool × Nat} (hp : (p.1 = true → s.h p.2 ≠ .top) ∧ (p.1 = false → s.fh.getD p.2 .top ≠ .top)) (hq : (q.1 = true → s.h q.2 ≠ .top) ∧ (q.1 = false → s.fh.getD q.2 .top ≠ .top)) (e : bl C γ p = bl C γ q) : p = q := by
  obtain ⟨b, i⟩ := p
  obtain ⟨c, j⟩ := q
  have hfl := R.fl
  have lt : ∀ k, s.fh.getD k .top ≠ .top → k < C.nf := fun k hk => by
    have := (List.getElem?_eq_some_iff.1 (getD_some rfl hk)).1; omega
  have fl : ∀ k, s.fh.getD k .top ≠ .top → C.floc k < C.w0.heap.size := fun k hk => (R.f k _ (getD_some rfl hk)).2.2
  cases b <;> cases c <;> simp only [bl] at e
  · rw [R.finj i j (lt i (hp.2 rfl)) (lt j (hq.2 rfl)) e]
  · have := fl i (hp.2 rfl); have := (R.h j (hq.1 rfl)).2.1; omega
  · have := fl j (hq.2 rfl); have := (R.h i (hp.1 rfl)).2.1; omega
  · rw [R.inj i j (hp.1 rfl) (hq.1 rfl) e]
theorem bl_facts (R : Rel C n γ s a w) {p : Bool × Nat} (hp : (p.1 = true → s.h p.2 ≠ .top) ∧ (p.1 = false → s.fh.getD p.2 .top ≠ .top)) :
    VarR C γ s.now w (bl C γ p) (match p.1 with | true => s.h p.2 | false => s.fh.getD p.2 .top) ∧ γ.lim (bl C γ p) = 0 ∧ γ.ow (bl C γ p) = none := by
  obtain ⟨b, i⟩ := p
  cases b
  · obtain ⟨h1, h2, h3⟩ := R.f i _ (getD_some rfl (hp.2 rfl))
    refine ⟨h1, h2, ?_⟩
    show γ.ow (C.floc i) = none
    cases ho : γ.ow (C.floc i) with
    | none => rfl
    | some k => have := (R.ow _ k ho).1; omega
  · obtain ⟨h1, h2, h3, h4⟩ := R.h i (hp.1 rfl)
    exact ⟨h1, h3, h4⟩

theorem bl_glob (R : Rel C n γ s a w) {p : Bool × Nat} (hp : (p.1 = true → s.h p.2 ≠ .top) ∧ (p.1 = false → s.fh.getD p.2 .top ≠ .top)) : NG ≤ bl C γ p := by
  obtain ⟨b, i⟩ := p
  cases b
  · have h := getD_some rfl (hp.2 rfl)
    exact C.nfl i (by rw [← R.fl]; exact (List.getElem?_eq_some_iff.1 h).1)
  · exact Nat.le_trans C.ng (R.h i (hp.1 rfl)).2.1

/- The results, as the caller sees them. (d: the number of the slice that comes with its spare.) -/
def Gh.back (γ γ' : Gh) (w : World) (now : Nat) (d : Option Nat) (q : Bool) (hv : Value) : Gh :=
  { lim := γ'.lim, loc := γ.loc, ow := fun b => if b < w.heap.size then γ.ow b else (if γ'.ow b = some 0 then d else none), vid := fun k => if q = false ∧ some k = d then hv else γ.vid k, H := fun e => if e = now then w.heap.size else γ.H e }
def ktO : Option Nat → Bool → Nat → Bool
  | some d, false => is1 d
  | _, _ => is0

theorem tagIn_ok {now : Nat} : ∀ {fs : List AV} {cs : List Value}, All2 (RelS C γ now w) fs cs → tagIn fs = .any ∨ ∃ ts, RelE C γ now w (.slc ts (tagIn fs)) (svIn fs cs)
  | [], [], _ => .inl rfl
  | u :: fs, c :: cs, ⟨h1, h2⟩ => by
    by_cases hu : ∃ ts g, u = .slc ts g
    · obtain ⟨ts, g, rfl⟩ := hu
      exact .inr ⟨ts, h1⟩
    · have e1 : tagIn (u :: fs) = tagIn fs := by cases u <;> first | rfl | exact absurd ⟨_, _, rfl⟩ hu
      have e2 : svIn (u :: fs) (c :: cs) = svIn fs cs := by cases u <;> first | rfl | exact absurd ⟨_, _, rfl⟩ hu
      rw [e1, e2]; exact tagIn_ok h2
theorem tagOf_ok {now : Nat} {u : AV} {v : Value} (h : Rel3 C γ now w u v) : tagOf u = .any ∨ ∃ ts, RelE C γ now w (.slc ts (tagOf u)) (svOf u v) := by
  cases u <;> first | exact .inl rfl | skip
  · exact .inr ⟨_, h⟩
  · obtain ⟨cs, rfl, hall⟩ := h
    simpa [svOf] using tagIn_ok hall

theorem ret1L_none {q : Bool} {now al : Nat} {args : List AV} (u : AV) (r : List AV) : ret1L q now al none args (u :: r) = ret1 q now al none args u :: ret1L q now al none args r := by cases u <;> rfl
theorem own_noneq (q : Bool) (o : Own) : o.ret q none = o.ret false none := by cases o <;> first | rfl | (rename_i j; cases j <;> rfl)
theorem ret1_noneq (q : Bool) {now al : Nat} {args : List AV} (u : AV) : ret1 q now al none args u = ret1 false now al none args u := by
  cases u <;> first | rfl | (rename_i g; cases g <;> simp only [ret1, Tag.ret, Tag.retI, own_noneq q])
theorem ret1L_noneq (q : Bool) {now al : Nat} {args : List AV} : ∀ r : List AV, ret1L q now al none args r = ret1L false now al none args r
  | [] => rfl
  | u :: r => by rw [ret1L_none, ret1L_none, ret1_noneq q, ret1L_noneq q r]
theorem ret2_noneq (q : Bool) {now al : Nat} {args : List AV} (u : AV) : ret2 q now al none args u = ret2 false now al none args u := by
  by_cases hu : ∃ fs, u = .st fs
  · obtain ⟨fs, rfl⟩ := hu; simp only [ret2, ret1L_noneq q]
  · have e1 : ∀ q, ret2 q now al none args u = ret1 q now al none args u := fun q => by cases u <;> first | rfl | exact absurd ⟨_, rfl⟩ hu
    rw [e1, e1, ret1_noneq q]
theorem tagOfI_ok {now : Nat} {u : AV} {v : Value} (h : Rel3 C γ now w u v) : tagOfI u = .any ∨ ∃ k ns, RelE C γ now w (.ints k ns (tagOfI u)) (svOf u v) := by
  cases u <;> first | exact .inl rfl | skip
  exact .inr ⟨_, _, h⟩
section
set_option linter.unusedSectionVars false
variable {now : Nat} {γ' : Gh} {w' : World} {C' : Fr} {args : List AV} {vals : List Value} {d : Option Nat} {q : Bool} {hv : Value}
    (S : Step γ now w (γ.back γ' w now d q hv) (now + 1) w' (ktO d q) is0) (hH2 : γ'.H 2 = w.heap.size) (how : ∀ b k, γ'.ow b = some k → w.heap.size ≤ b)
    (hargs : All2 (Rel3 C (γ.back γ' w now d q hv) (now + 1) w') args vals) (hav : ∀ (i : Nat) u v, args[i]? = some u → vals[i]? = some v → C'.av i = svOf u v) {al : Nat} (ham : ∀ b, C'.am b → InM C γ now w al b)
include S hH2 how hargs hav ham
theorem retM_ok {x b : Nat} (h : InM C' γ' 3 w' x b) : InM C (γ.back γ' w now d q hv) (now + 1) w' (retM now al x) b := by
  obtain ⟨e, h1, h2⟩ := h
  have nb : ∀ k, x.testBit k = true → noBits x (2 ^ k) = false := fun k hk => by
    cases hb : noBits x (2 ^ k) with
    | false => rfl
    | true =>
      have h0 : x &&& 2 ^ k = 0 := Nat.eq_of_beq_eq_true hb
      have := congrArg (fun n => Nat.testBit n k) h0
      simp [Nat.testBit_and, hk, Nat.testBit_two_pow_self] at this
  unfold retM
  rcases h2 with ⟨rfl, g1, g2⟩ | ⟨rfl, g1, g2⟩ | ⟨g0, g1, g2, g3⟩
  · have := nb 0 h1
    rw [show (2 ^ 0 : Nat) = 1 from rfl] at this
    rw [this]
    exact InM.or.2 (.inr (InM.or.2 (.inr ((InM.full S.two (by rw [← hH2]; exact g1)).step S))))
  · have := nb 1 h1
    rw [show (2 ^ 1 : Nat) = 2 from rfl] at this
    rw [this]
    exact InM.or.2 (.inr (InM.or.2 (.inl ((ham b g2).step S))))
  · have e2 : e = 2 := by omega
    subst e2
    have := nb 2 h1
    rw [show (2 ^ 2 : Nat) = 4 from rfl] at this
    rw [this]
    refine InM.or.2 (.inl (InM.bit (.inr (.inr ⟨by have := S.two; omega, by omega, ?_, ?_⟩))))
    · show (if now = now then w.heap.size else _) ≤ b
      rw [if_pos rfl, ← hH2]; exact g2
    · unfold bnd at g3 ⊢
      rw [if_neg (by omega)] at g3 ⊢
      exact g3
theorem retO_ok {d' : Option Nat} {es : Nat} {x : Option Addr} {len cap : Nat} {o : Own} (hd : d' = none ∨ (d' = d ∧ (q = false → .slice x len cap = hv))) (h : OwnOk γ' w' es x len cap o) : OwnOk (γ.back γ' w now d q hv) w' es x len cap (o.ret q d') := by
  cases o with
  | no => trivial
  | full => exact h
  | id j => trivial
  | tok j =>
    cases j with
    | succ j => trivial
    | zero =>
      rcases hd with rfl | ⟨rfl, hd⟩
      · trivial
      cases d' with
      | none => trivial
      | some d =>
        have hsp : len < cap → 0 < len ∧ ∃ b c ty, x = some ⟨b, 0, none⟩ ∧ (γ.back γ' w now (some d) q hv).ow b = some d ∧ w'.heap[b]? = some (.cells c ty (0, 0)) ∧ c.size = cap * es ∧ (γ.back γ' w now (some d) q hv).lim b = len * es := fun hlt => by
          obtain ⟨h0, b, c, ty, h1, h2, h3, h4, h5⟩ := h hlt
          refine ⟨h0, b, c, ty, h1, ?_, h3, h4, h5⟩
          show (if b < w.heap.size then _ else _) = _
          rw [if_neg (by have := how b 0 h2; omega), if_pos h2]
        cases q with
        | true => exact hsp
        | false => exact ⟨by show (if false = false ∧ some d = some d then _ else _) = _; rw [if_pos ⟨rfl, rfl⟩]; exact (hd rfl).symm, hsp⟩
theorem retT_ok {d' : Option Nat} {es : Nat} {x : Option Addr} {len cap : Nat} {fp : List Nat} {r m : Nat} {nd : Bool} {o : Own} (hd : d' = none ∨ (d' = d ∧ (q = false → .slice x len cap = hv))) (h : TagOk C' γ' 3 w' es x len cap fp (.iv r m nd o)) :
    TagOk C (γ.back γ' w now d q hv) (now + 1) w' es x len cap fp (.iv (retM now al r) (retM now al m) nd (o.ret q d')) :=
  ⟨⟨fun b hb => retM_ok S hH2 how hargs hav ham (h.1.1 b hb), fun b hb => retM_ok S hH2 how hargs hav ham (h.1.2.1 b hb), h.1.2.2⟩, retO_ok S hH2 how hargs hav ham hd h.2⟩
theorem ret1_ok {d' : Option Nat} {u : AV} {v : Value} (hd : d' = none ∨ (d' = d ∧ (q = false → v = hv))) (h : RelS C' γ' 3 w' u v) : RelS C (γ.back γ' w now d q hv) (now + 1) w' (ret1 q now al d' args u) v := by
  cases u <;> first | exact h | trivial | skip
  · rename_i ts g
    obtain ⟨b, cap, fp, h1, h2, h3, h4⟩ := h
    refine ⟨b, cap, fp, h1, h2, h3, ?_⟩
    cases g with
    | any => trivial
    | el => trivial
    | iv r m nd o => exact retT_ok S hH2 how hargs hav ham (hd.imp id fun e => ⟨e.1, h1 ▸ e.2⟩) h4
    | arg i =>
      simp only [Tag.ret]
      obtain ⟨e1, _⟩ := h4
      by_cases hi : i < args.length
      · obtain ⟨v', hv', hr⟩ := hargs.get i args[i] (List.getElem?_eq_getElem hi)
        have hget : args.getD i .top = args[i] := by simp [List.getD_eq_getElem?_getD, List.getElem?_eq_getElem hi]
        rw [hget]
        rw [hav i _ _ (List.getElem?_eq_getElem hi) hv'] at e1
        rcases tagOf_ok hr with e | ⟨ts', b', cap', fp', k1, k2, k3, k4⟩
        · rw [e]; trivial
        · rw [← e1] at k1
          simp only [Value.slice.injEq] at k1
          obtain ⟨rfl, hl, rfl⟩ := k1
          obtain ⟨rfl, rfl⟩ := k3.det h3 hl.symm
          exact k4
      · have : args.getD i .top = .top := by simp [List.getD_eq_getElem?_getD, List.getElem?_eq_none (Nat.le_of_not_lt hi)]
        rw [this]; trivial
  · rename_i k ns g
    obtain ⟨b, cap, fp, h1, h2, h3, h4⟩ := h
    refine ⟨b, cap, fp, h1, h2, h3, ?_⟩
    cases g with
    | any => trivial
    | el => trivial
    | iv r m nd o => exact retT_ok S hH2 how hargs hav ham (hd.imp id fun e => ⟨e.1, h1 ▸ e.2⟩) h4
    | arg i =>
      simp only [Tag.retI]
      obtain ⟨e1, _⟩ := h4
      by_cases hi : i < args.length
      · obtain ⟨v', hv', hr⟩ := hargs.get i args[i] (List.getElem?_eq_getElem hi)
        have hget : args.getD i .top = args[i] := by simp [List.getD_eq_getElem?_getD, List.getElem?_eq_getElem hi]
        rw [hget]
        rw [hav i _ _ (List.getElem?_eq_getElem hi) hv'] at e1
        rcases tagOfI_ok hr with e | ⟨k', ns', b', cap', fp', k1, k2, k3, k4⟩
        · rw [e]; trivial
        · rw [← e1] at k1
          simp only [Value.slice.injEq] at k1
          obtain ⟨rfl, hl, rfl⟩ := k1
          obtain rfl := k3.det h3 hl.symm
          rw [hl]; exact k4
      · have : args.getD i .top = .top := by simp [List.getD_eq_getElem?_getD, List.getElem?_eq_none (Nat.le_of_not_lt hi)]
        rw [this]; trivial
/-- The slice that comes with its spare. -/
def fsv : List AV → List Value → Value
  | .slc _ _ :: _, c :: _ => c
  | .ints _ _ _ :: _, c :: _ => c
  | _ :: r, _ :: cs => fsv r cs
  | _, _ => undef
def hdr2 : AV → Value → Value
  | .st fs, .agg cs => fsv fs cs.toList
  | _, v => v
def hdr3 : AV → Value → Value
  | .tup (x :: _), .tuple us => hdr2 x (us.toList.headD undef)
  | u, v => hdr2 u v
theorem ret1L_ok {d' : Option Nat} : ∀ {fs : List AV} {cs : List Value}, (d' = none ∨ (d' = d ∧ (q = false → fsv fs cs = hv))) → All2 (RelS C' γ' 3 w') fs cs → All2 (RelS C (γ.back γ' w now d q hv) (now + 1) w') (ret1L q now al d' args fs) cs := by
  have none_ok : ∀ {fs : List AV} {cs : List Value}, All2 (RelS C' γ' 3 w') fs cs → All2 (RelS C (γ.back γ' w now d q hv) (now + 1) w') (ret1L q now al none args fs) cs := by
    intro fs
    induction fs with
    | nil => intro cs h; cases cs <;> exact h
    | cons u r ih =>
      intro cs h
      cases cs with
      | nil => exact h.elim
      | cons c cs =>
        have h1 := ret1_ok S hH2 how hargs hav ham (d' := none) (.inl rfl) h.1
        have h2 := ih h.2
        simp only [ret1L]
        split <;> exact ⟨h1, h2⟩
  intro fs
  induction fs with
  | nil => intro cs _ h; cases cs <;> exact h
  | cons u r ih =>
    intro cs hd h
    cases cs with
    | nil => exact h.elim
    | cons c cs =>
      by_cases hs : (∃ ts g, u = .slc ts g) ∨ ∃ k ns g, u = .ints k ns g
      · rcases hs with ⟨ts, g, rfl⟩ | ⟨k, ns, g, rfl⟩
        · exact ⟨ret1_ok S hH2 how hargs hav ham hd h.1, none_ok h.2⟩
        · exact ⟨ret1_ok S hH2 how hargs hav ham hd h.1, none_ok h.2⟩
      · have hn1 : ∀ ts g, u ≠ .slc ts g := fun ts g e => hs (.inl ⟨ts, g, e⟩)
        have hn2 : ∀ k ns g, u ≠ .ints k ns g := fun k ns g e => hs (.inr ⟨k, ns, g, e⟩)
        have e1 : fsv (u :: r) (c :: cs) = fsv r cs := by cases u <;> first | rfl | exact absurd rfl (hn1 _ _) | exact absurd rfl (hn2 _ _ _)
        have e2 : ret1L q now al d' args (u :: r) = ret1 q now al d' args u :: ret1L q now al d' args r := by cases u <;> first | rfl | exact absurd rfl (hn1 _ _) | exact absurd rfl (hn2 _ _ _)
        have e3 : ret1 q now al d' args u = ret1 q now al none args u := by cases u <;> first | rfl | exact absurd rfl (hn1 _ _) | exact absurd rfl (hn2 _ _ _)
        rw [e2, e3]
        exact ⟨ret1_ok S hH2 how hargs hav ham (.inl rfl) h.1, ih (e1 ▸ hd) h.2⟩
theorem ret2_flat {u : AV} {cs : List Value} (h : FlatR C' γ' 3 w' u cs) : FlatR C (γ.back γ' w now d q hv) (now + 1) w' (ret2 q now al none args u) cs := by
  by_cases hu : ∃ fs, u = .st fs
  · obtain ⟨fs, rfl⟩ := hu; exact ret1L_ok S hH2 how hargs hav ham (.inl rfl) h
  · have hu : ∀ fs, u ≠ .st fs := fun fs e => hu ⟨fs, e⟩
    rw [FlatR_eq hu] at h
    obtain ⟨v, h1, h2⟩ := h
    have e1 : ret2 q now al none args u = ret1 q now al none args u := by cases u <;> first | rfl | exact absurd rfl (hu _)
    have e2 : ∀ fs, ret1 q now al none args u ≠ .st fs := by cases u <;> first | nofun | exact absurd rfl (hu _)
    rw [e1, FlatR_eq e2]
    exact ⟨v, h1, ret1_ok S hH2 how hargs hav ham (.inl rfl) h2⟩
theorem ret2_ok {d' : Option Nat} {u : AV} {v : Value} (hd : d' = none ∨ (d' = d ∧ (q = false → hdr2 u v = hv))) (h : Rel2 C' γ' 3 w' u v) : Rel2 C (γ.back γ' w now d q hv) (now + 1) w' (ret2 q now al d' args u) v := by
  by_cases hu : ∃ fs, u = .st fs
  · obtain ⟨fs, rfl⟩ := hu
    obtain ⟨cs, rfl, hall⟩ := h
    exact ⟨cs, rfl, ret1L_ok S hH2 how hargs hav ham hd hall⟩
  · have hu : ∀ fs, u ≠ .st fs := fun fs e => hu ⟨fs, e⟩
    rw [Rel2_eq hu] at h
    have e1 : ret2 q now al d' args u = ret1 q now al d' args u := by cases u <;> first | rfl | exact absurd rfl (hu _)
    have e2 : ∀ fs, ret1 q now al d' args u ≠ .st fs := by cases u <;> first | nofun | exact absurd rfl (hu _)
    have e3 : hdr2 u v = v := by cases u <;> first | rfl | exact absurd rfl (hu _)
    rw [e1, Rel2_eq e2]
    exact ret1_ok S hH2 how hargs hav ham (e3 ▸ hd) h
theorem ret2L_ok : ∀ {fs : List AV} {cs : List Value}, All2 (Rel2 C' γ' 3 w') fs cs → All2 (Rel2 C (γ.back γ' w now d q hv) (now + 1) w') (ret2L q now al none args fs) cs
  | [], [], _ => trivial
  | _ :: _, _ :: _, ⟨h1, h2⟩ => ⟨ret2_ok S hH2 how hargs hav ham (.inl rfl) h1, ret2L_ok h2⟩
theorem ret3_ok {d' : Option Nat} {u : AV} {v : Value} (hd : d' = none ∨ (d' = d ∧ (q = false → hdr3 u v = hv))) (h : Rel3 C' γ' 3 w' u v) : Rel3 C (γ.back γ' w now d q hv) (now + 1) w' (ret3 q now al d' args u) v := by
  by_cases hu : ∃ vs, u = .tup vs
  · obtain ⟨vs, rfl⟩ := hu
    obtain ⟨us, rfl, hall⟩ := h
    cases vs with
    | nil => exact ⟨us, rfl, by cases us <;> exact hall⟩
    | cons x vs =>
      cases us with
      | nil => exact hall.elim
      | cons y us => exact ⟨y :: us, rfl, ret2_ok S hH2 how hargs hav ham hd hall.1, ret2L_ok S hH2 how hargs hav ham hall.2⟩
  · have hu : ∀ fs, u ≠ .tup fs := fun fs e => hu ⟨fs, e⟩
    rw [Rel3_eq hu] at h
    have e1 : ret3 q now al d' args u = ret2 q now al d' args u := by cases u <;> first | rfl | exact absurd rfl (hu _)
    have e2 : ∀ fs, ret2 q now al d' args u ≠ .tup fs := by cases u <;> first | nofun | exact absurd rfl (hu _)
    have e3 : hdr3 u v = hdr2 u v := by cases u <;> first | rfl | exact absurd rfl (hu _)
    rw [e1, Rel3_eq e2]
    exact ret2_ok S hH2 how hargs hav ham (e3 ▸ hd) h
end
end
end Go.Dk
