/- Every order that a drawing region may take. -/
import Derived.Test.YtnohobjbblbffaaDraw2
set_option linter.unusedSimpArgs false
set_option linter.unusedVariables false
namespace Go.Dk
section
variable {P : Program} {C : Fr} {n : Nat} {TY : Nat → TyI} {G : List (Nat × Con)} {ops : Array Oper} {b : Array Nat} {Q' : AS → Prop}

structure OkP (ops : Array Oper) (b : Array Nat) : Prop where
  slot : ∀ i j oi oj d, ops[i]? = some oi → ops[j]? = some oj → oj.dst = some d → (i = j ∨ oi.dst ≠ some d) ∧ (d ∉ slots oi ∨ before b i j = true ∨ (isEff oj = true ∧ (i = j ∨ before b j i = true))) ∧
    ∀ g want, oi.guard = some (g, want) → (ops[g]?).bind (·.dst) = some d → g = j
  guard : ∀ i o g want, ops[i]? = some o → o.guard = some (g, want) → before b i g = true ∧ eff ops g = false
  edge : ∀ i o e, ops[i]? = some o → e ∈ o.after → Region.binds .any e = true → before b i e.on = true ∧ e.on < ops.size
  back : ∀ i o j, ops[i]? = some o → j < ops.size → before b i j = true → ∃ e, e ∈ o.after ∧ Region.binds .any e = true ∧ (e.on = j ∨ before b e.on j = true)

theorem lt_of_op {i : Nat} {o : Oper} (h : ops[i]? = some o) : i < ops.size := (Array.getElem?_eq_some_iff.1 h).1
theorem okP_of (h1 : okSlots ops b = true) (h2 : okGuards ops b = true) (h3 : okBefore ops b = true) : OkP ops b := by
  refine ⟨fun i j oi oj d hi hj hd => ?_, fun i o g want hi hg => ?_, fun i o e hi he hb => ?_, fun i o j hi hj hb => ?_⟩
  · have := List.all_eq_true.1 (List.all_eq_true.1 h1 i (List.mem_range.2 (lt_of_op hi))) j (List.mem_range.2 (lt_of_op hj))
    simp only [hi, hj, hd, Bool.and_eq_true, Bool.or_eq_true, beq_iff_eq, bne_iff_ne, Bool.not_eq_true', List.contains_eq_mem, decide_eq_false_iff_not] at this
    refine ⟨this.1, this.2.1, fun g want hg hgd => ?_⟩
    have h := this.2.2
    simp only [hg, Bool.or_eq_true, bne_iff_ne, beq_iff_eq] at h
    exact h.resolve_left fun hn => hn hgd
  · have := List.all_eq_true.1 h2 i (List.mem_range.2 (lt_of_op hi))
    simpa only [hi, hg, Bool.and_eq_true, Bool.not_eq_true'] using this
  · have := List.all_eq_true.1 h3 i (List.mem_range.2 (lt_of_op hi))
    simp only [hi, Bool.and_eq_true] at this
    have := Array.all_eq_true_iff_forall_mem.1 this.1 e he
    simp only [hb, Bool.not_true, Bool.false_or, Bool.and_eq_true] at this
    exact ⟨this.1, by simpa [Nat.blt_eq] using this.2⟩
  · have := List.all_eq_true.1 h3 i (List.mem_range.2 (lt_of_op hi))
    simp only [hi, Bool.and_eq_true] at this
    have := List.all_eq_true.1 this.2 j (List.mem_range.2 hj)
    simp only [hb, Bool.not_true, Bool.false_or] at this
    obtain ⟨e, he, h1⟩ := Array.any_eq_true'.1 this
    simp only [Bool.and_eq_true, Bool.or_eq_true, beq_iff_eq] at h1
    exact ⟨e, he, h1.1, h1.2⟩

section
variable {cm : Bool}
theorem okFrom_cons {done : List Nat} {i : Nat} {ls : List Nat} {r : List (Nat × List Nat)} (h : okFrom cm ops b done ((i, ls) :: r) = true) :
    ∃ o, ops[i]? = some o ∧ i ∉ done ∧ (∀ j, j < ops.size → before b i j = true → j ∈ done) ∧ okE cm ops b done i = true ∧
      (isEff o = true → (∀ j, j ∈ done → eff ops j = false → before b i j = true ∨ (strips o = false ∧ ∀ oj, ops[j]? = some oj → isLoad oj = false) ∨ j ∈ ls) ∧ (∀ j, j ∈ ls → eff ops j = false) ∧ okFrom cm ops b (i :: done) r = true) ∧
      (isEff o = false → ls = [] ∧ okFrom cm ops b (i :: done) r = true) := by
  simp only [okFrom, Bool.and_eq_true] at h
  obtain ⟨h, hr⟩ := h
  unfold okH at h
  cases ho : ops[i]? with
  | none => rw [ho] at h; cases h
  | some o =>
    simp only [ho, Bool.and_eq_true, Bool.not_eq_true', List.contains_eq_mem, decide_eq_false_iff_not] at h
    obtain ⟨h1, h2, h3, h4⟩ := h
    refine ⟨o, rfl, h1, fun j hj hb => ?_, h3, fun he => ?_, fun he => ?_⟩
    · have := List.all_eq_true.1 h2 j (List.mem_range.2 hj)
      simpa [hb] using this
    · simp only [he, Bool.and_eq_true] at h4
      refine ⟨fun j hj hf => ?_, fun j hj => ?_, hr⟩
      case refine_2 =>
        have := List.all_eq_true.1 h4.2 j hj
        simp only [Bool.and_eq_true, Bool.not_eq_true'] at this
        exact this.2
      have := List.all_eq_true.1 h4.1 j hj
      simp only [hf, Bool.false_or, Bool.or_eq_true, Bool.and_eq_true, Bool.not_eq_true', List.contains_eq_mem, decide_eq_true_eq] at this
      refine this.imp id fun h => h.imp (fun ⟨hs, hl⟩ => ⟨hs, fun oj hoj => ?_⟩) id
      simpa [hoj] using hl
    · simp only [he, List.isEmpty_iff] at h4
      exact ⟨h4, hr⟩
theorem okFrom_fresh : ∀ {r : List (Nat × List Nat)} {done : List Nat}, okFrom cm ops b done r = true → ∀ i, i ∈ r.map (·.1) → i ∉ done
  | [], _, _, i, hi => by simp at hi
  | (k, ls) :: r, done, h, i, hi => by
    obtain ⟨o, _, h1, _, _, h2, h3⟩ := okFrom_cons h
    rcases List.mem_cons.1 hi with rfl | hi
    · exact h1
    · intro hd
      cases he : isEff o with
      | true => exact okFrom_fresh (h2 he).2.2 i hi (by simp [hd])
      | false => exact okFrom_fresh (h3 he).2 i hi (by simp [hd])
theorem okFrom_lt : ∀ {r : List (Nat × List Nat)} {done : List Nat}, okFrom cm ops b done r = true → ∀ i, i ∈ r.map (·.1) → i < ops.size
  | [], _, _, i, hi => by simp at hi
  | (k, ls) :: r, done, h, i, hi => by
    obtain ⟨o, ho, _⟩ := okFrom_cons h
    rcases List.mem_cons.1 hi with rfl | hi
    · exact lt_of_op ho
    · simp only [okFrom, Bool.and_eq_true] at h
      exact okFrom_lt h.2 i hi
theorem okE_ok {done : List Nat} {i j : Nat} (h : okE cm ops b done i = true) (hj : j ∈ done) (he : eff ops j = true) (hb : before b i j = false) : cm = true ∧ allocNG ops i = true ∧ j ∈ done.takeWhile (allocNG ops) := by
  have := List.all_eq_true.1 h j hj
  simpa [he, hb] using this
/-- What stands behind an effect and does not wait for it: new variables, side by side. -/
theorem okFrom_run {i e : Nat} : ∀ {r : List (Nat × List Nat)} {done : List Nat}, okFrom cm ops b done r = true → i ∈ r.map (·.1) → e ∈ done → eff ops e = true → before b i e = false →
    cm = true ∧ allocNG ops i = true ∧ e ∈ done.takeWhile (allocNG ops) ∧ ∀ x ls r', r = (x, ls) :: r' → allocNG ops x = true
  | [], _, _, hi, _, _, _ => by simp at hi
  | (x, ls) :: r, done, h, hi, he, hf, hb => by
    have hfr := okFrom_fresh h x (by simp)
    obtain ⟨o, _, _, _, hE, h2, h3⟩ := okFrom_cons h
    by_cases hx : i = x
    · subst hx
      obtain ⟨k1, k2, k3⟩ := okE_ok hE he hf hb
      exact ⟨k1, k2, k3, fun x' ls' r' e => by cases e; exact k2⟩
    · have hi : i ∈ r.map (·.1) := by
        rcases List.mem_cons.1 hi with h | h
        · exact absurd h hx
        · exact h
      have hr : okFrom cm ops b (x :: done) r = true := by
        cases he : isEff o with
        | true => exact (h2 he).2.2
        | false => exact (h3 he).2
      obtain ⟨k1, k2, k3, _⟩ := okFrom_run hr hi (by simp [he]) hf hb
      have hax : allocNG ops x = true := by
        cases hax : allocNG ops x with
        | true => rfl
        | false => simp [List.takeWhile_cons, hax] at k3
      refine ⟨k1, k2, ?_, fun x' ls' r' e => by cases e; exact hax⟩
      simp only [List.takeWhile_cons, hax, if_true, List.mem_cons] at k3
      rcases k3 with rfl | k3
      · exact absurd he hfr
      · exact k3
theorem allocNG_ok {i : Nat} (h : allocNG ops i = true) : ∃ o ty d, ops[i]? = some o ∧ o.op = .alloc ty ∧ o.dst = some d ∧ o.guard = none ∧ o.after = #[] := by
  unfold allocNG at h
  split at h
  case h_2 => cases h
  rename_i o ho
  split at h
  case h_2 => cases h
  rename_i ty d h1 h2 h3
  exact ⟨o, ty, d, ho, h1, h2, h3, by simpa using h⟩
theorem allocNG_eff {i : Nat} (h : allocNG ops i = true) : eff ops i = true := by
  obtain ⟨o, ty, d, ho, h1, _⟩ := allocNG_ok h
  simp [eff, ho, isEff, h1]
theorem allocNG_before (hB : OkP ops b) {i j : Nat} (h : allocNG ops i = true) (hj : j < ops.size) : before b i j = false := by
  obtain ⟨o, ty, d, ho, h1, _, _, h4⟩ := allocNG_ok h
  cases hb : before b i j with
  | false => rfl
  | true =>
    obtain ⟨e, he, _⟩ := hB.back i o j ho hj hb
    rw [h4] at he; simp at he
theorem okH_swap (hB : OkP ops b) {done : List Nat} {e x : Nat} {lse lsx : List Nat} (hd : ∀ j ∈ done, j < ops.size) (he : allocNG ops e = true) (hx : allocNG ops x = true) (hcm : cm = true)
    (h1 : okH cm ops b done e lse = true) (h2 : okH cm ops b (e :: done) x lsx = true) : okH cm ops b done x lsx = true ∧ okH cm ops b (x :: done) e lse = true := by
  obtain ⟨oe, te, de, hoe, e1, e2, e3, e4⟩ := allocNG_ok he
  obtain ⟨ox, tx, dx, hox, x1, x2, x3, x4⟩ := allocNG_ok hx
  have efe := allocNG_eff he
  have efx := allocNG_eff hx
  have ee : isEff oe = true := by simpa [eff, hoe] using efe
  have ex : isEff ox = true := by simpa [eff, hox] using efx
  unfold okH at h1 h2 ⊢
  simp only [hoe, ee, Bool.and_eq_true, Bool.not_eq_true', List.contains_eq_mem, decide_eq_false_iff_not] at h1
  simp only [hox, ex, Bool.and_eq_true, Bool.not_eq_true', List.contains_eq_mem, decide_eq_false_iff_not] at h2
  obtain ⟨a1, a2, a3, a4, a5⟩ := h1
  obtain ⟨b1, b2, b3, b4, b5⟩ := h2
  have hxd : x ∉ done := fun h => b1 (by simp [h])
  have hxe : x ≠ e := fun h => b1 (by simp [h])
  simp only [hoe, hox, ee, ex, Bool.and_eq_true, Bool.not_eq_true', List.contains_eq_mem, decide_eq_false_iff_not]
  refine ⟨⟨hxd, ?_, ?_, ?_, ?_⟩, ⟨?_, ?_, ?_, ?_, ?_⟩⟩
  · refine List.all_eq_true.2 fun j hj => ?_
    rw [allocNG_before hB hx (List.mem_range.1 hj)]; rfl
  · refine List.all_eq_true.2 fun j hj => ?_
    have := List.all_eq_true.1 b3 j (by simp [hj])
    have hje : j ≠ e := fun h => a1 (h ▸ hj)
    simpa [List.takeWhile_cons, he, hje] using this
  · refine List.all_eq_true.2 fun j hj => ?_
    exact List.all_eq_true.1 b4 j (by simp [hj])
  · refine List.all_eq_true.2 fun j hj => ?_
    have := List.all_eq_true.1 b5 j hj
    simp only [Bool.and_eq_true, decide_eq_true_eq, List.mem_cons, Bool.not_eq_true'] at this ⊢
    refine ⟨this.1.resolve_left fun h => ?_, this.2⟩
    rw [h, efe] at this; simp at this
  · simp only [List.mem_cons, not_or]; exact ⟨Ne.symm hxe, a1⟩
  · refine List.all_eq_true.2 fun j hj => ?_
    rw [allocNG_before hB he (List.mem_range.1 hj)]; rfl
  · refine List.all_eq_true.2 fun j hj => ?_
    rcases List.mem_cons.1 hj with rfl | hj
    · simp [List.takeWhile_cons, hx, he, hcm]
    · have := List.all_eq_true.1 a3 j hj
      simp only [Bool.or_eq_true, Bool.and_eq_true, List.contains_eq_mem, decide_eq_true_eq, List.takeWhile_cons, hx, if_true, List.mem_cons] at this ⊢
      refine this.imp id fun h => h.imp id fun ⟨p, q, s⟩ => ⟨p, q, .inr s⟩
  · refine List.all_eq_true.2 fun j hj => ?_
    rcases List.mem_cons.1 hj with rfl | hj
    · simp [efx]
    · exact List.all_eq_true.1 a4 j hj
  · refine List.all_eq_true.2 fun j hj => ?_
    have := List.all_eq_true.1 a5 j hj
    simp only [Bool.and_eq_true, decide_eq_true_eq, List.mem_cons, Bool.not_eq_true'] at this ⊢
    exact ⟨.inr this.1, this.2⟩
end

/-- A pure operation that has run in thought: run now, it gives the same. -/
def POk (n : Nat) (TY : Nat → TyI) (ops : Array Oper) (s : AS) (o : Oper) : Prop :=
  dstOk n o.dst = true ∧ isEff o = false ∧ ∃ c, AWant ops o s c ∧
    (c = true → ∃ v, (∀ d, o.dst = some d → v = s.t d) ∧ ∀ (m : AS) (K' : AV → AS → Prop), (∀ x ∈ o.op.operands, m.get x = s.get x) → (isLoad o = true → m.h = s.h ∧ m.fh = s.fh) → K' v m → aop [] TY true m o K') ∧
    (c = false → ∀ d, o.dst = some d → s.t d = .tup [])

def DoneOk (ops : Array Oper) (b : Array Nat) : List Nat → Prop
  | [] => True
  | i :: d => (∀ j, j < ops.size → before b i j = true → j ∈ d) ∧ i < ops.size ∧ DoneOk ops b d
theorem DoneOk.clos : ∀ {d : List Nat}, DoneOk ops b d → ∀ i j, i ∈ d → j < ops.size → before b i j = true → j ∈ d
  | [], _, i, j, hi, _, _ => by simp at hi
  | k :: d, ⟨h1, _, h2⟩, i, j, hi, hj, hb => by
    rcases List.mem_cons.1 hi with rfl | hi
    · simp [h1 j hj hb]
    · simp [h2.clos i j hi hj hb]
theorem DoneOk.lt : ∀ {d : List Nat}, DoneOk ops b d → ∀ i, i ∈ d → i < ops.size
  | [], _, i, hi => by simp at hi
  | k :: d, ⟨_, h1, h2⟩, i, hi => by
    rcases List.mem_cons.1 hi with rfl | hi
    · exact h1
    · exact h2.lt i hi

structure DInv (C : Fr) (n : Nat) (G : List (Nat × Con)) (TY : Nat → TyI) (cm : Bool) (ops : Array Oper) (b : Array Nat) (Q' : AS → Prop) (done : List Nat) (last : Option Nat) (rest : List (Nat × List Nat)) (listed : Array Bool) (s m : AS) (γ : Gh) (a : Act) (w : World) : Prop where
  size : listed.size = ops.size
  sub : ∀ i, listed.getD i false = true → i ∈ done
  effs : ∀ i, i ∈ done → eff ops i = true → listed.getD i false = true
  clos : ∀ i j, listed.getD i false = true → j < ops.size → before b i j = true → listed.getD j false = true
  dok : DoneOk ops b done
  all : ∀ i, i < ops.size → i ∈ done ∨ i ∈ rest.map (·.1)
  ok : okFrom cm ops b done rest = true
  run : aopsD G TY n cm ops rest s Q'
  rel : Rel C n γ m a w
  agr : Agr m s
  mt : ∀ d, (∀ i o, i ∈ done → listed.getD i false = false → ops[i]? = some o → o.dst ≠ some d) → m.t d = s.t d
  pend : ∀ i o, i ∈ done → listed.getD i false = false → ops[i]? = some o → POk n TY ops s o

theorem slot_mem {o : Oper} {t : Nat} (h : Operand.tmp t ∈ o.op.operands) : t ∈ slots o := by
  unfold slots
  exact List.mem_filterMap.2 ⟨.tmp t, by simpa using h, rfl⟩
theorem get_of_slots {s m : AS} {o : Oper} (h : ∀ t, t ∈ slots o → m.t t = s.t t) : ∀ x ∈ o.op.operands, m.get x = s.get x := by
  intro x hx
  cases x with
  | tmp t => exact h t (slot_mem hx)
  | _ => rfl
theorem AWant.of {s m : AS} {o : Oper} {c : Bool} (h : AWant ops o s c) (hg : ∀ g want d, o.guard = some (g, want) → (ops[g]?).bind (·.dst) = some d → m.t d = s.t d) : AWant ops o m c := by
  unfold AWant at *
  split at h
  case h_1 => exact h
  case h_2 j want hj =>
    obtain ⟨d, h1, h2⟩ := h
    exact ⟨d, h1, by rw [hg j want d hj h1]; exact h2⟩
theorem put_t_ne {s : AS} {d : Option Nat} {v : AV} {t : Nat} (h : d ≠ some t) : (s.put d v).t t = s.t t := by
  cases d with
  | none => rfl
  | some d => exact upd_ne (fun e => h (by rw [e]))
theorem put_t_eq {s : AS} {d : Nat} {v : AV} : (s.put (some d) v).t d = v := upd_same _ _ _
theorem put_h {s : AS} {d : Option Nat} {v : AV} : (s.put d v).h = s.h := rfl
theorem put_f {s : AS} {d : Option Nat} {v : AV} : (s.put d v).fh = s.fh := rfl
theorem put_n {s : AS} {d : Option Nat} {v : AV} : (s.put d v).now = s.now := rfl
theorem Agr.put {s m : AS} (A : Agr m s) {d : Option Nat} {u v : AV} : Agr (m.put d u) (s.put d v) := ⟨A.h, A.f, A.n⟩
theorem Agr.refl (s : AS) : Agr s s := ⟨rfl, rfl, rfl⟩

/-- A pure operation's value stays, where its slots and its guard's stay. -/
theorem POk.of {s m : AS} {o : Oper} (h : POk n TY ops s o) (hs : ∀ t, t ∈ slots o → m.t t = s.t t) (hg : ∀ g want d, o.guard = some (g, want) → (ops[g]?).bind (·.dst) = some d → m.t d = s.t d)
    (hd : ∀ d, o.dst = some d → m.t d = s.t d) (hl : isLoad o = true → m.h = s.h ∧ m.fh = s.fh) : POk n TY ops m o := by
  obtain ⟨h1, h2, c, h3, h4, h5⟩ := h
  refine ⟨h1, h2, c, h3.of hg, fun e => ?_, fun e d hdd => by rw [hd d hdd]; exact h5 e d hdd⟩
  obtain ⟨v, g1, g2⟩ := h4 e
  refine ⟨v, fun d hdd => by rw [hd d hdd]; exact g1 d hdd, fun m' K' k1 k2 k3 => g2 m' K' (fun x hx => ?_) (fun e => ?_) k3⟩
  · rw [k1 x hx]; exact get_of_slots hs x hx
  · rw [(k2 e).1, (k2 e).2]; exact hl e

/-- What a new variable d leaves as it was. -/
structure Calm (d : Nat) (s s' : AS) : Prop where
  t : ∀ j, inert3 d (s.t j) = true → s'.t j = s.t j
  h : ∀ j, j ≠ d → inert3 d (s.h j) = true → s'.h j = s.h j
  f : ∀ i, inert3 d (s.fh.getD i .top) = true → s'.fh.getD i .top = s.fh.getD i .top
theorem inert1_cl {d : Nat} {v : AV} (h : inert1 d v = true) : v.cl1 is0 (is1 d) = v := by
  cases v <;> simp only [inert1] at h <;> simp only [AV.cl1, tag_cl_id]
  · split at h
    · cases h
    · rename_i hb; simp only [is1, hb]
  · split at h
    · cases h
    · rename_i hb; simp only [is1, hb]
  · rw [h]
theorem inert1L_cl {d : Nat} : ∀ {l : List AV}, inert1L d l = true → cl1L is0 (is1 d) l = l
  | [], _ => rfl
  | v :: r, h => by
    simp only [inert1L] at h
    split at h
    · rename_i hv; simp only [cl1L, inert1_cl hv, inert1L_cl h]
    · cases h
theorem inert2_cl {d : Nat} {v : AV} (h : inert2 d v = true) : v.cl2 is0 (is1 d) = v := by
  by_cases hu : ∃ fs, v = .st fs
  · obtain ⟨fs, rfl⟩ := hu; simp only [AV.cl2, inert1L_cl (show inert1L d fs = true from h)]
  · rw [cl2_eq fun fs e => hu ⟨fs, e⟩]
    refine inert1_cl ?_
    cases v <;> first | exact h | exact absurd ⟨_, rfl⟩ hu
theorem inert2L_cl {d : Nat} : ∀ {l : List AV}, inert2L d l = true → cl2L is0 (is1 d) l = l
  | [], _ => rfl
  | v :: r, h => by
    simp only [inert2L] at h
    split at h
    · rename_i hv; simp only [cl2L, inert2_cl hv, inert2L_cl h]
    · cases h
theorem inert3_cl {d : Nat} {v : AV} (h : inert3 d v = true) : v.cl is0 (is1 d) = v := by
  by_cases hu : ∃ fs, v = .tup fs
  · obtain ⟨fs, rfl⟩ := hu; simp only [AV.cl, inert2L_cl (show inert2L d fs = true from h)]
  · rw [cl_eq fun fs e => hu ⟨fs, e⟩]
    refine inert2_cl ?_
    cases v <;> first | exact h | exact absurd ⟨_, rfl⟩ hu
theorem clL_getD {kt kp : Nat → Bool} : ∀ (l : List AV) (i : Nat), (clL kt kp l).getD i .top = (l.getD i .top).cl kt kp
  | [], i => by simp [clL, AV.cl]
  | v :: r, 0 => by simp [clL]
  | v :: r, i + 1 => by simpa [clL] using clL_getD r i
theorem Calm.alloc (d : Nat) (s : AS) (z : AV) : Calm d s ⟨fun j => (s.t j).cl is0 (is1 d), upd (fun j => (s.h j).cl is0 (is1 d)) d z, clL is0 (is1 d) s.fh, s.now⟩ :=
  ⟨fun j h => inert3_cl h, fun j hj h => by rw [show (⟨fun j => (s.t j).cl is0 (is1 d), upd (fun j => (s.h j).cl is0 (is1 d)) d z, clL is0 (is1 d) s.fh, s.now⟩ : AS).h j = upd (fun j => (s.h j).cl is0 (is1 d)) d z j from rfl, upd_ne hj]; exact inert3_cl h,
    fun i h => by rw [show (⟨fun j => (s.t j).cl is0 (is1 d), upd (fun j => (s.h j).cl is0 (is1 d)) d z, clL is0 (is1 d) s.fh, s.now⟩ : AS).fh = clL is0 (is1 d) s.fh from rfl, clL_getD]; exact inert3_cl h⟩
theorem Calm.store (d : Nat) (s : AS) (z : AV) : Calm d s { s with h := upd s.h d z } :=
  ⟨fun j h => rfl, fun j hj h => upd_ne hj, fun i h => rfl⟩
theorem deref_calm {d : Nat} {s s' : AS} (C : Calm d s s') {p : AV} (hf : farP d s p = true) {K : AV → Prop} (h : deref s p K) : deref s' p K := by
  have kh : ∀ {i : Nat}, (match Nat.beq i d with | true => false | false => inert3 d (s.h i)) = true → s'.h i = s.h i := fun {i} hi => by
    split at hi
    · cases hi
    · rename_i hb; exact C.h i (fun e => by subst e; simp at hb) hi
  cases p <;> simp only [deref] at h ⊢ <;> first | exact h.elim | exact h | skip
  · rw [kh hf]; exact h
  · rw [C.f _ hf]; exact h
  · rw [kh hf]; exact h
  · rw [C.f _ hf]; exact h
/-- A pure operation's value stays, where its slots and its guard's stay, and what it reads. -/
theorem POk.calm {s m : AS} {o : Oper} (h : POk n TY ops s o) (hs : ∀ t, t ∈ slots o → m.t t = s.t t) (hg : ∀ g want d, o.guard = some (g, want) → (ops[g]?).bind (·.dst) = some d → m.t d = s.t d)
    (hd : ∀ d, o.dst = some d → m.t d = s.t d) (hl : ∀ ty x, o.op = .load ty x → ∀ K, deref s (s.get x) K → deref m (s.get x) K) : POk n TY ops m o := by
  cases hi : isLoad o with
  | false => exact h.of hs hg hd fun e => by rw [hi] at e; cases e
  | true =>
    have hi' := hi
    obtain ⟨h1, h2, c, h3, h4, h5⟩ := h
    refine ⟨h1, h2, c, h3.of hg, fun e => ?_, fun e d hdd => by rw [hd d hdd]; exact h5 e d hdd⟩
    obtain ⟨v, g1, g2⟩ := h4 e
    refine ⟨v, fun d hdd => by rw [hd d hdd]; exact g1 d hdd, fun m' K' k1 k2 k3 => ?_⟩
    cases ho : o.op <;> simp only [isLoad, ho, Bool.false_eq_true] at hi
    rename_i ty x
    have gx : m'.get x = s.get x := by
      have hx : x ∈ o.op.operands := by rw [ho]; simp [Op.operands]
      rw [k1 x hx]; exact get_of_slots hs x hx
    have a1 := g2 s (fun u _ => u = v) (fun _ _ => rfl) (fun _ => ⟨rfl, rfl⟩) rfl
    simp only [aop, ho] at a1 ⊢
    have a2 := hl ty x ho _ a1
    rw [gx]
    refine deref_congr (k2 hi').1 (k2 hi').2 a2 fun u hu => ?_
    split at hu
    case h_2 => exact hu.elim
    rename_i hsh
    subst hu
    exact k3

theorem oeqb {o o' : Own} (h : o.eqb o' = true) : o = o' := by
  cases o <;> cases o' <;> simp only [Own.eqb] at h <;> first | rfl | (cases h; done) | exact congrArg Own.tok (Nat.eq_of_beq_eq_true h) | exact congrArg Own.id (Nat.eq_of_beq_eq_true h)
theorem bEq_eq {a b : Bool} (h : bEq a b = true) : a = b := by cases a <;> cases b <;> simp_all [bEq]
theorem teqb {g g' : Tag} (h : g.eqb g' = true) : g = g' := by
  cases g <;> cases g' <;> simp only [Tag.eqb] at h <;> first | rfl | (cases h; done) | skip
  · split at h
    case h_2 => cases h
    rename_i h1 h2 h3
    rw [Nat.eq_of_beq_eq_true h1, Nat.eq_of_beq_eq_true h2, bEq_eq h3, oeqb h]
  · exact congrArg Tag.arg (Nat.eq_of_beq_eq_true h)
  · split at h
    case h_2 => cases h
    rename_i h1 h2
    rw [Nat.eq_of_beq_eq_true h1, bEq_eq h2, oeqb h]
theorem capsEq_eq : ∀ {c c' : List AV}, capsEq c c' = true → c = c'
  | [], [], _ => rfl
  | [], _ :: _, h => by cases h
  | x :: r, [], h => by cases x <;> cases h
  | x :: r, y :: r', h => by
    cases x <;> cases y <;> simp only [capsEq] at h <;> first | (cases h; done) | skip
    all_goals
      split at h
      case h_2 => cases h
      rename_i hb
      rw [Nat.eq_of_beq_eq_true hb, capsEq_eq h]
theorem same1_ok {u v : AV} {A : Prop} (h : same1 u v A) : u = v ∧ A := by
  unfold same1 at h
  split at h
  case h_19 => exact h.elim
  all_goals first
    | exact ⟨rfl, h⟩
    | (obtain ⟨rfl, h⟩ := h; exact ⟨rfl, h⟩)
    | (split at h
       case h_2 => exact h.elim
       rename_i h1 h2
       first
         | (obtain rfl := ikEq_iff.1 h1; obtain rfl := teqb h2; first | (obtain ⟨rfl, h⟩ := h; exact ⟨rfl, h⟩) | (obtain ⟨rfl, rfl, h⟩ := h; exact ⟨rfl, h⟩))
         | (obtain rfl := Nat.eq_of_beq_eq_true h1; obtain rfl := capsEq_eq h2; exact ⟨rfl, h⟩)
         | (obtain rfl := Nat.eq_of_beq_eq_true h1; obtain rfl := Nat.eq_of_beq_eq_true h2; exact ⟨rfl, h⟩)
         | (obtain rfl := teqb h1; obtain rfl := Nat.eq_of_beq_eq_true h2; obtain ⟨rfl, rfl, h⟩ := h; exact ⟨rfl, h⟩))
    | (split at h
       case h_2 => exact h.elim
       rename_i h1
       first
         | (obtain rfl := ikEq_iff.1 h1; obtain ⟨rfl, h⟩ := h; exact ⟨rfl, h⟩)
         | (obtain rfl := teqb h1; obtain ⟨rfl, h⟩ := h; exact ⟨rfl, h⟩)
         | (obtain rfl := teqb h1; obtain ⟨rfl, rfl, h⟩ := h; exact ⟨rfl, h⟩)
         | (obtain rfl := Nat.eq_of_beq_eq_true h1; exact ⟨rfl, h⟩))
theorem same1L_ok : ∀ {l l' : List AV} {A : Prop}, same1L l l' A → l = l' ∧ A
  | [], [], _, h => ⟨rfl, h⟩
  | [], _ :: _, _, h => h.elim
  | _ :: _, [], _, h => h.elim
  | u :: r, v :: r', A, h => by
    obtain ⟨e1, k1⟩ := same1_ok h
    obtain ⟨e2, k2⟩ := same1L_ok k1
    exact ⟨by rw [e1, e2], k2⟩
theorem same2_ok {u v : AV} {A : Prop} (h : same2 u v A) : u = v ∧ A := by
  unfold same2 at h
  split at h
  · obtain ⟨e, k⟩ := same1L_ok h; exact ⟨by rw [e], k⟩
  · exact same1_ok h
theorem same2L_ok : ∀ {l l' : List AV} {A : Prop}, same2L l l' A → l = l' ∧ A
  | [], [], _, h => ⟨rfl, h⟩
  | [], _ :: _, _, h => h.elim
  | _ :: _, [], _, h => h.elim
  | u :: r, v :: r', A, h => by
    obtain ⟨e1, k1⟩ := same2_ok h
    obtain ⟨e2, k2⟩ := same2L_ok k1
    exact ⟨by rw [e1, e2], k2⟩
theorem same3_ok {u v : AV} {A : Prop} (h : same3 u v A) : u = v ∧ A := by
  unfold same3 at h
  split at h
  · obtain ⟨e, k⟩ := same2L_ok h; exact ⟨by rw [e], k⟩
  · exact same2_ok h

/-- What a check tells. -/
def Again (TY : Nat → TyI) (ops : Array Oper) (s : AS) (o : Oper) : Prop := ∃ d, o.dst = some d ∧ (AWant ops o s true → aop [] TY true s o fun v _ => v = s.t d)
theorem chk_ok : ∀ {ls : List Nat} {s : AS} {A : Prop}, (∀ l, l ∈ ls → ∀ o, ops[l]? = some o → isEff o = false) → chk TY ops ls s A → (∀ l, l ∈ ls → ∀ o, ops[l]? = some o → Again TY ops s o) ∧ A
  | [], s, A, _, h => ⟨fun l hl => by simp at hl, h⟩
  | l :: ls, s, A, hp, h => by
    simp only [chk] at h
    split at h
    case h_1 => exact h.elim
    rename_i o ho
    split at h
    case h_2 => exact h.elim
    rename_i d w hd hw
    have hnext : ∀ x, x ∈ ls → ∀ o, ops[x]? = some o → isEff o = false := fun x hx => hp x (by simp [hx])
    have key : Again TY ops s o ∧ chk TY ops ls s A := by
      cases w with
      | false =>
        refine ⟨⟨d, hd, fun hw' => ?_⟩, h⟩
        exfalso
        unfold AWant at hw'
        unfold wantOf at hw
        split at hw
        · cases hw
        · rename_i j wt hg
          simp only [hg] at hw'
          obtain ⟨d', h1, ⟨x, h2, h3⟩ | ⟨h2, h3⟩⟩ := hw'
          · rw [h1] at hw
            simp only [h2] at hw
            cases x <;> cases wt <;> simp [bEq] at hw h3
          · cases h3
      | true =>
        obtain ⟨v, k1, k2⟩ := pure_congr (G' := []) (hp l (by simp) o ho) h
        obtain ⟨k3, k4⟩ := same3_ok k1
        exact ⟨⟨d, hd, fun _ => k2 s _ (fun _ _ => rfl) (fun _ => ⟨rfl, rfl⟩) k3⟩, k4⟩
    obtain ⟨h1, h2⟩ := chk_ok hnext key.2
    refine ⟨fun l' hl' o' ho' => ?_, h2⟩
    rcases List.mem_cons.1 hl' with rfl | hl'
    · rw [ho] at ho'; cases ho'; exact key.1
    · exact h1 l' hl' o' ho'
theorem aopsD_pure {cm : Bool} {i : Nat} {o : Oper} {r : List (Nat × List Nat)} {s : AS} {Q : AS → Prop} (ho : ops[i]? = some o) (h : aopsD G TY n cm ops ((i, []) :: r) s Q) : step1 G TY n ops true o s fun s' => aopsD G TY n cm ops r s' Q := by
  simp only [aopsD, ho] at h
  cases cm with
  | false => exact h
  | true =>
    simp only at h
    split at h
    · exact h
    · split at h
      · exact h.elim
      · exact h
theorem aopsD_eff {cm : Bool} {i : Nat} {ls : List Nat} {o : Oper} {r : List (Nat × List Nat)} {s : AS} {Q : AS → Prop} (ho : ops[i]? = some o) (h : aopsD G TY n cm ops ((i, ls) :: r) s Q) :
    (step1 G TY n ops true o s fun s' => chk TY ops ls s' (aopsD G TY n cm ops r s' Q)) ∨ (calm ops s o ls = true ∧ step1 G TY n ops true o s fun s' => aopsD G TY n cm ops r s' Q) := by
  simp only [aopsD, ho] at h
  cases cm with
  | false => exact .inl h
  | true =>
    simp only at h
    split at h
    · rename_i hc; exact .inr ⟨hc, h⟩
    · split at h
      · exact h.elim
      · exact .inl h
theorem calmL_ok {d : Nat} {s : AS} : ∀ {ls : List Nat}, calmL ops d s ls = true → ∀ l, l ∈ ls → ∀ o, ops[l]? = some o → inertO d s o = true
  | [], _, l, hl, _, _ => by simp at hl
  | k :: ls, h, l, hl, o, ho => by
    simp only [calmL] at h
    split at h
    case h_2 => cases h
    rename_i o' ho'
    split at h
    case h_2 => cases h
    rename_i hi
    rcases List.mem_cons.1 hl with rfl | hl
    · rw [ho] at ho'; cases ho'; exact hi
    · exact calmL_ok h l hl o ho
theorem calm_run {s : AS} {o : Oper} {ls : List Nat} {K : AV → AS → Prop} (hc : calm ops s o ls = true) (h : aop G TY true s o K) :
    o.guard = none ∧ aop G TY true s o fun v s' => K v s' ∧ ∃ d, Calm d s s' ∧ ∀ l, l ∈ ls → ∀ o, ops[l]? = some o → inertO d s o = true := by
  unfold calm at hc
  split at hc
  · cases hc
  rename_i hg
  refine ⟨hg, ?_⟩
  split at hc
  case h_3 => cases hc
  case h_1 ty d ho hd =>
    simp only [aop, ho, hd] at h ⊢
    revert h
    generalize (TY ty).k = kk
    intro h
    cases kk with
    | no => exact h
    | sc z => exact ⟨h, d, Calm.alloc d s _, calmL_ok hc⟩
    | ag z => exact ⟨h, d, Calm.alloc d s _, calmL_ok hc⟩
  case h_2 ty x y ho hd =>
    split at hc
    case h_2 => cases hc
    rename_i d hx
    simp only [aop, ho, hx, deref, setH] at h ⊢
    split at h
    case h_2 => exact h.elim
    rename_i h1
    split at h
    case h_2 => exact h.elim
    rename_i h2
    exact ⟨h, d, Calm.store d s _, calmL_ok hc⟩
theorem slotsIn_ok {d : Nat} {s : AS} : ∀ {l : List Nat}, slotsIn d s l = true → ∀ t, t ∈ l → inert3 d (s.t t) = true
  | [], _, t, ht => by simp at ht
  | k :: l, h, t, ht => by
    simp only [slotsIn] at h
    split at h
    case h_2 => cases h
    rename_i hk
    rcases List.mem_cons.1 ht with rfl | ht
    · exact hk
    · exact slotsIn_ok h t ht
/-- The state behind a new variable. -/
def alS (TY : Nat → TyI) (ty d : Nat) (s : AS) : AS := ⟨upd (fun j => (s.t j).cl is0 (is1 d)) d (.ptr d), upd (fun j => (s.h j).cl is0 (is1 d)) d (zero (TY ty).k), clL is0 (is1 d) s.fh, s.now⟩
theorem step1_alloc {s : AS} {o : Oper} {ty d : Nat} {K : AS → Prop} (h1 : o.op = .alloc ty) (h2 : o.dst = some d) (h3 : o.guard = none) :
    step1 G TY n ops true o s K ↔ Nat.blt d n = true ∧ (TY ty).k ≠ .no ∧ K (alS TY ty d s) := by
  unfold step1
  rw [h2, h3]
  simp only [dstOk, aop, h1, h2]
  unfold alS
  generalize (TY ty).k = kk
  cases hb : Nat.blt d n with
  | false => simp
  | true =>
    cases kk with
    | no => simp
    | sc z => simp [updO, force, force2, force1]
    | ag z => simp [updO, force, force2, force1]
theorem calm_alloc {s : AS} {o : Oper} {ty d : Nat} {ls : List Nat} (h1 : o.op = .alloc ty) (h2 : o.dst = some d) (h3 : o.guard = none) : calm ops s o ls = calmL ops d s ls := by
  unfold calm
  rw [h1, h2, h3]
theorem aopsD_alloc {i : Nat} {ls : List Nat} {o : Oper} {r : List (Nat × List Nat)} {s : AS} {ty d : Nat} {Q : AS → Prop} (hn : allocNG ops i = true) (ho : ops[i]? = some o) (h1 : o.op = .alloc ty) (h2 : o.dst = some d) (h3 : o.guard = none) :
    aopsD G TY n true ops ((i, ls) :: r) s Q ↔ calmL ops d s ls = true ∧ Nat.blt d n = true ∧ (TY ty).k ≠ .no ∧ aopsD G TY n true ops r (alS TY ty d s) Q := by
  simp only [aopsD, ho, calm_alloc h1 h2 h3, hn]
  cases hc : calmL ops d s ls with
  | false => simp
  | true => simp only [true_and]; exact step1_alloc h1 h2 h3
theorem calmL_iff {d : Nat} {s : AS} : ∀ {ls : List Nat}, calmL ops d s ls = true ↔ ∀ l, l ∈ ls → ∃ o, ops[l]? = some o ∧ inertO d s o = true
  | [] => by simp [calmL]
  | k :: ls => by
    simp only [calmL]
    cases hk : ops[k]? with
    | none =>
      refine ⟨fun h => (by cases h), fun h => ?_⟩
      obtain ⟨o, ho, _⟩ := h k (by simp)
      rw [hk] at ho; cases ho
    | some o =>
      simp only
      cases hi : inertO d s o with
      | false =>
        refine ⟨fun h => (by cases h), fun h => ?_⟩
        obtain ⟨o', ho, hi'⟩ := h k (by simp)
        rw [hk] at ho; cases ho; rw [hi] at hi'; cases hi'
      | true =>
        simp only
        rw [calmL_iff]
        refine ⟨fun h l hl => ?_, fun h l hl => h l (by simp [hl])⟩
        rcases List.mem_cons.1 hl with rfl | hl
        · exact ⟨o, hk, hi⟩
        · exact h l hl
theorem slotsIn_congr {d : Nat} {s s' : AS} : ∀ {l : List Nat}, (∀ t, t ∈ l → s'.t t = s.t t) → slotsIn d s' l = slotsIn d s l
  | [], _ => rfl
  | k :: l, h => by
    have e := slotsIn_congr (d := d) (s := s) (s' := s') (l := l) fun t ht => h t (List.mem_cons_of_mem _ ht)
    simp only [slotsIn, h k (List.mem_cons_self ..), e]
theorem farP_calm {d d' : Nat} {s s' : AS} (C : Calm d s s') {p : AV} (hf : farP d s p = true) : farP d' s' p = farP d' s p := by
  have kh : ∀ {i : Nat}, (match Nat.beq i d with | true => false | false => inert3 d (s.h i)) = true → s'.h i = s.h i := fun {i} hi => by
    split at hi
    · cases hi
    · rename_i hb; exact C.h i (fun e => by subst e; simp at hb) hi
  cases p <;> simp only [farP] at hf ⊢
  · rw [kh hf]
  · rw [C.f _ hf]
  · rw [kh hf]
  · rw [C.f _ hf]
theorem dstIn_congr {d : Nat} {s s' : AS} : ∀ {q : Option Nat}, (∀ t, q = some t → s'.t t = s.t t) → dstIn d s' q = dstIn d s q
  | none, _ => rfl
  | some t, h => by simp only [dstIn, h t rfl]
theorem inertO_calm {d d' : Nat} {s s' : AS} {o : Oper} (C : Calm d s s') (hi : inertO d s o = true) (ht : ∀ t, t ∈ slots o → s'.t t = s.t t) (hd : ∀ t, o.dst = some t → s'.t t = s.t t) : inertO d' s' o = inertO d' s o := by
  obtain ⟨q1, q2, q3⟩ := and3_eq.1 hi
  have e3 : farO d' s' o.op = farO d' s o.op := by
    cases ho : o.op <;> try rfl
    rename_i ty x
    have gx : s'.get x = s.get x := by
      have hx : x ∈ o.op.operands := by rw [ho]; simp [Op.operands]
      exact get_of_slots ht x hx
    rw [ho] at q3
    show farP d' s' (s'.get x) = farP d' s (s.get x)
    rw [gx]
    exact farP_calm C q3
  unfold inertO
  rw [slotsIn_congr ht, dstIn_congr hd, e3]
theorem inertO_cong3 {d : Nat} {s s' : AS} {o : Oper} (ht : ∀ t, t ∈ slots o → s'.t t = s.t t) (hd : ∀ t, o.dst = some t → s'.t t = s.t t) (hh : s'.h = s.h ∧ s'.fh = s.fh) : inertO d s' o = inertO d s o := by
  have e3 : farO d s' o.op = farO d s o.op := by
    cases ho : o.op <;> try rfl
    rename_i ty x
    have gx : s'.get x = s.get x := by
      have hx : x ∈ o.op.operands := by rw [ho]; simp [Op.operands]
      exact get_of_slots ht x hx
    show farP d s' (s'.get x) = farP d s (s.get x)
    rw [gx]
    unfold farP
    rw [hh.1, hh.2]
  unfold inertO
  rw [slotsIn_congr ht, dstIn_congr hd, e3]
/-- What stands ahead counts as a set, but for the new variables at its head. -/
theorem okFrom_perm {cm : Bool} {e y : Nat} {done : List Nat} : ∀ {r : List (Nat × List Nat)} {pre : List Nat}, okFrom cm ops b (pre ++ y :: e :: done) r = true → allocNG ops e = true → allocNG ops y = true → okFrom cm ops b (pre ++ e :: y :: done) r = true
  | [], _, _, _, _ => rfl
  | (k, ls) :: r, pre, h, he, hy => by
    simp only [okFrom, Bool.and_eq_true] at h ⊢
    refine ⟨?_, okFrom_perm (pre := k :: pre) h.2 he hy⟩
    have hm : ∀ j, j ∈ pre ++ e :: y :: done ↔ j ∈ pre ++ y :: e :: done := fun j => by
      simp only [List.mem_append, List.mem_cons]
      constructor <;> rintro (h | h | h | h) <;> simp [h]
    have hc : ∀ j, (pre ++ e :: y :: done).contains j = (pre ++ y :: e :: done).contains j := fun j => by
      simp only [List.contains_eq_mem]; exact decide_eq_decide.2 (hm j)
    have hall : ∀ f : Nat → Bool, (pre ++ y :: e :: done).all f = (pre ++ e :: y :: done).all f := fun f => by
      simp only [List.all_append, List.all_cons]
      cases f y <;> cases f e <;> simp
    have htw : ∀ j, ((pre ++ e :: y :: done).takeWhile (allocNG ops)).contains j = ((pre ++ y :: e :: done).takeWhile (allocNG ops)).contains j := fun j => by
      have : ∀ p : List Nat, (j ∈ (p ++ e :: y :: done).takeWhile (allocNG ops) ↔ j ∈ (p ++ y :: e :: done).takeWhile (allocNG ops)) := by
        intro p
        induction p with
        | nil =>
          simp only [List.nil_append, List.takeWhile_cons, he, hy, if_true, List.mem_cons]
          exact or_left_comm
        | cons a p ih =>
          simp only [List.cons_append, List.takeWhile_cons]
          split
          · simp only [List.mem_cons, ih]
          · exact Iff.rfl
      simp only [List.contains_eq_mem]; exact decide_eq_decide.2 (this pre)
    have h1 := h.1
    unfold okH okE at h1 ⊢
    simpa only [hc, htw, ← hall] using h1
theorem Calm.alS {ty d : Nat} (s : AS) : Calm d s ⟨fun j => (s.t j).cl is0 (is1 d), upd (fun j => (s.h j).cl is0 (is1 d)) d (zero (TY ty).k), clL is0 (is1 d) s.fh, s.now⟩ := Calm.alloc d s _
theorem Calm.al {ty d : Nat} {s : AS} {o : Oper} (hi : inertO d s o = true) (hs : d ∉ slots o) (hdd : o.dst ≠ some d) (d' : Nat) : inertO d' (Dk.alS TY ty d s) o = inertO d' s o := by
  obtain ⟨q1, q2, q3⟩ := and3_eq.1 hi
  have e : inertO d' (Dk.alS TY ty d s) o = inertO d' ⟨fun j => (s.t j).cl is0 (is1 d), upd (fun j => (s.h j).cl is0 (is1 d)) d (zero (TY ty).k), clL is0 (is1 d) s.fh, s.now⟩ o := by
    refine (inertO_cong3 ?_ ?_ ?_)
    · intro t ht
      show upd (fun j => (s.t j).cl is0 (is1 d)) d (.ptr d) t = _
      exact upd_ne (fun (e : t = d) => hs (by rw [← e]; exact ht))
    · intro t ht
      show upd (fun j => (s.t j).cl is0 (is1 d)) d (.ptr d) t = _
      exact upd_ne (fun (e : t = d) => hdd (by rw [ht, e]))
    · exact ⟨rfl, rfl⟩
  rw [e]
  refine inertO_calm (Calm.alS s) hi (fun t ht => inert3_cl (slotsIn_ok q1 t ht)) (fun t ht => ?_)
  rw [ht] at q2
  exact inert3_cl q2
theorem cl1_comm (a c : Nat) (v : AV) : (v.cl1 is0 (is1 a)).cl1 is0 (is1 c) = (v.cl1 is0 (is1 c)).cl1 is0 (is1 a) := by
  cases v <;> simp only [AV.cl1, tag_cl_id]
  · rename_i i; cases h1 : is1 a i <;> cases h2 : is1 c i <;> simp [AV.cl1, h1, h2]
  · rename_i i j; cases h1 : is1 a i <;> cases h2 : is1 c i <;> simp [AV.cl1, h1, h2]
  · rename_i f caps; cases h1 : ptrOk (is1 a) caps <;> cases h2 : ptrOk (is1 c) caps <;> simp [AV.cl1, h1, h2]
theorem cl1L_comm (a c : Nat) : ∀ l : List AV, cl1L is0 (is1 c) (cl1L is0 (is1 a) l) = cl1L is0 (is1 a) (cl1L is0 (is1 c) l)
  | [] => rfl
  | v :: r => by simp only [cl1L, cl1_comm, cl1L_comm a c r]
theorem cl1_notst {kt kp : Nat → Bool} {v : AV} (h : ∀ fs, v ≠ .st fs) : ∀ fs, v.cl1 kt kp ≠ .st fs := by
  intro fs
  cases v <;> simp only [AV.cl1] <;> first | (intro e; cases e; done) | (split <;> (intro e; cases e)) | exact absurd rfl (h _)
theorem cl2_comm (a c : Nat) (v : AV) : (v.cl2 is0 (is1 a)).cl2 is0 (is1 c) = (v.cl2 is0 (is1 c)).cl2 is0 (is1 a) := by
  by_cases hu : ∃ fs, v = .st fs
  · obtain ⟨fs, rfl⟩ := hu; simp only [AV.cl2, cl1L_comm]
  · have hn : ∀ fs, v ≠ .st fs := fun fs e => hu ⟨fs, e⟩
    rw [cl2_eq hn, cl2_eq hn, cl2_eq (cl1_notst hn), cl2_eq (cl1_notst hn), cl1_comm]
theorem cl2L_comm (a c : Nat) : ∀ l : List AV, cl2L is0 (is1 c) (cl2L is0 (is1 a) l) = cl2L is0 (is1 a) (cl2L is0 (is1 c) l)
  | [] => rfl
  | v :: r => by simp only [cl2L, cl2_comm, cl2L_comm a c r]
theorem cl2_nottup {kt kp : Nat → Bool} {v : AV} (h : ∀ fs, v ≠ .tup fs) : ∀ fs, v.cl2 kt kp ≠ .tup fs := by
  intro fs
  cases v <;> simp only [AV.cl2] <;> first | (intro e; cases e; done) | (split <;> (intro e; cases e)) | exact absurd rfl (h _)
theorem cl_comm (a c : Nat) (v : AV) : (v.cl is0 (is1 a)).cl is0 (is1 c) = (v.cl is0 (is1 c)).cl is0 (is1 a) := by
  by_cases hu : ∃ fs, v = .tup fs
  · obtain ⟨fs, rfl⟩ := hu; simp only [AV.cl, cl2L_comm]
  · have hn : ∀ fs, v ≠ .tup fs := fun fs e => hu ⟨fs, e⟩
    rw [cl_eq hn, cl_eq hn, cl_eq (cl2_nottup hn), cl_eq (cl2_nottup hn), cl2_comm]
theorem clL_comm (a c : Nat) : ∀ l : List AV, clL is0 (is1 c) (clL is0 (is1 a) l) = clL is0 (is1 a) (clL is0 (is1 c) l)
  | [] => rfl
  | v :: r => by simp only [clL, cl_comm, clL_comm a c r]
theorem zero_cl (hT : TyOk P TY) (t d : Nat) : (zero (TY t).k).cl is0 (is1 d) = zero (TY t).k := by
  have h := hT.ty t
  cases hk : (TY t).k with
  | no => rfl
  | sc z =>
    rw [hk] at h
    obtain ⟨_, _, _, _, _, _, _, _, _, h⟩ := h
    cases z <;> first | rfl | exact h.elim | (show AV.slc _ (Tag.cl is0 _) = _; rw [tag_cl_id]) | (show AV.ints _ _ (Tag.cl is0 _) = _; rw [tag_cl_id])
  | ag zs =>
    rw [hk] at h
    obtain ⟨_, _, cs, _, _, _, _, _, h, _⟩ := h
    show AV.st (cl1L is0 (is1 d) zs) = .st zs
    have key : ∀ (zs : List AV) (cs : List Value), All2 ZeroF zs cs → cl1L is0 (is1 d) zs = zs := by
      intro zs
      induction zs with
      | nil => intro _ _; rfl
      | cons z zs ih =>
        intro cs h
        cases cs with
        | nil => exact h.elim
        | cons c cs =>
          simp only [cl1L, ih cs h.2]
          congr 1
          have h1 := h.1
          cases z <;> first | rfl | exact h1.elim | (show AV.slc _ (Tag.cl is0 _) = _; rw [tag_cl_id]) | (show AV.ints _ _ (Tag.cl is0 _) = _; rw [tag_cl_id])
    rw [key zs _ h]
theorem alS_comm (hT : TyOk P TY) {ty d ty' d' : Nat} (hne : d ≠ d') (s : AS) : Dk.alS TY ty d (Dk.alS TY ty' d' s) = Dk.alS TY ty' d' (Dk.alS TY ty d s) := by
  have b1 : is1 d d' = false := by
    cases hb : is1 d d' with
    | false => rfl
    | true => exact absurd (Nat.eq_of_beq_eq_true hb).symm hne
  have b2 : is1 d' d = false := by
    cases hb : is1 d' d with
    | false => rfl
    | true => exact absurd (Nat.eq_of_beq_eq_true hb) hne
  have p1 : (AV.ptr d').cl is0 (is1 d) = .ptr d' := by simp only [AV.cl, b1]
  have p2 : (AV.ptr d).cl is0 (is1 d') = .ptr d := by simp only [AV.cl, b2]
  unfold Dk.alS
  congr 1
  · funext j
    by_cases e1 : j = d
    · subst e1
      rw [upd_same, upd_ne hne]
      simp only [upd_same]
      exact p2.symm
    · by_cases e2 : j = d'
      · subst e2
        rw [upd_ne e1, upd_same]
        simp only [upd_same]
        exact p1
      · rw [upd_ne e1, upd_ne e2]
        simp only [upd_ne e1, upd_ne e2]
        exact cl_comm d' d _
  · funext j
    by_cases e1 : j = d
    · subst e1
      rw [upd_same, upd_ne hne]
      simp only [upd_same]
      exact (zero_cl hT ty d').symm
    · by_cases e2 : j = d'
      · subst e2
        rw [upd_ne e1, upd_same]
        simp only [upd_same]
        exact zero_cl hT ty' d
      · rw [upd_ne e1, upd_ne e2]
        simp only [upd_ne e1, upd_ne e2]
        exact cl_comm d' d _
  · exact clL_comm d' d _
/-- New variables that stand side by side: one of them may come first. -/
theorem bring (hT : TyOk P TY) (hB : OkP ops b) {i : Nat} {cm : Bool} : ∀ (r : List (Nat × List Nat)) (done : List Nat) (e : Nat) (lse : List Nat) (s : AS), okFrom cm ops b done ((e, lse) :: r) = true → aopsD G TY n cm ops ((e, lse) :: r) s Q' → DoneOk ops b done →
    eff ops e = true → i ∈ r.map (·.1) → before b i e = false → (∀ e', e' ∈ r.map (·.1) → before b i e' = false) →
    ∃ lsi r', allocNG ops i = true ∧ okFrom cm ops b done ((i, lsi) :: r') = true ∧ aopsD G TY n cm ops ((i, lsi) :: r') s Q' ∧ ∀ k, k ∈ ((i, lsi) :: r').map (·.1) ↔ k ∈ ((e, lse) :: r).map (·.1) := by
  intro r
  induction r with
  | nil => intro done e lse s _ _ _ _ hi; simp at hi
  | cons q r ih =>
    obtain ⟨x, lsx⟩ := q
    intro done e lse s hok hrun hD hef hi hb hbr
    have hok' := hok
    simp only [okFrom, Bool.and_eq_true] at hok'
    obtain ⟨ke, kx, kr⟩ := hok'
    have hokx : okFrom cm ops b (e :: done) ((x, lsx) :: r) = true := by simp only [okFrom, Bool.and_eq_true]; exact ⟨kx, kr⟩
    obtain ⟨c1, c2, c3, c4⟩ := okFrom_run hokx hi (by simp) hef hb
    have hax := c4 x lsx r rfl
    have hae : allocNG ops e = true := by
      cases hae : allocNG ops e with
      | true => rfl
      | false => simp [List.takeWhile_cons, hae] at c3
    subst c1
    have hlt : ∀ j ∈ done, j < ops.size := hD.lt
    obtain ⟨oe, te, de, hoe, e1, e2, e3, e4⟩ := allocNG_ok hae
    have hDe : DoneOk ops b (e :: done) := ⟨fun j hj h => (by rw [allocNG_before hB hae hj] at h; cases h), lt_of_op hoe, hD⟩
    have hefr := okFrom_fresh hok e (by simp)
    -- two side by side
    have swap : ∀ {y : Nat} {lsy : List Nat} {r' : List (Nat × List Nat)}, allocNG ops y = true → okFrom true ops b (e :: done) ((y, lsy) :: r') = true → calmL ops de s lse = true → Nat.blt de n = true → (TY te).k ≠ .no →
        aopsD G TY n true ops ((y, lsy) :: r') (Dk.alS TY te de s) Q' → okFrom true ops b done ((y, lsy) :: (e, lse) :: r') = true ∧ aopsD G TY n true ops ((y, lsy) :: (e, lse) :: r') s Q' := by
      intro y lsy r' hay h1 h2 h3 h4 h5
      obtain ⟨oy, ty, dy, hoy, y1, y2, y3, y4⟩ := allocNG_ok hay
      simp only [okFrom, Bool.and_eq_true] at h1
      obtain ⟨s1, s2⟩ := okH_swap hB hlt hae hay rfl ke h1.1
      have hyfr : y ∉ e :: done := by
        have := okFrom_fresh (show okFrom true ops b (e :: done) ((y, lsy) :: r') = true by simp only [okFrom, Bool.and_eq_true]; exact h1) y (by simp)
        exact this
      have hye : y ≠ e := fun h => hyfr (by simp [h])
      have hdd : de ≠ dy := fun h => by
        rcases (hB.slot e y oe oy dy hoe hoy y2).1 with h' | h'
        · exact hye h'.symm
        · exact h' (by rw [e2, h])
      obtain ⟨g1, g2, g3, g4⟩ := (aopsD_alloc hay hoy y1 y2 y3).1 h5
      -- the pure operations of the one are the other's
      have pure : ∀ l, l ∈ lsy → l ∈ lse ∧ l ∈ done := by
        intro l hl
        obtain ⟨o', ho', _, _, _, hx, _⟩ := okFrom_cons (show okFrom true ops b (e :: done) ((y, lsy) :: r') = true by simp only [okFrom, Bool.and_eq_true]; exact h1)
        have ef : isEff o' = true := by have := allocNG_eff hay; simpa [eff, ho'] using this
        have hlp := (hx ef).2.1 l hl
        have hld : l ∈ e :: done := by
          have := h1.1
          unfold okH at this
          rw [ho'] at this
          simp only [ef, Bool.and_eq_true] at this
          have := List.all_eq_true.1 this.2.2.2.2 l hl
          simp only [Bool.and_eq_true, List.contains_eq_mem, decide_eq_true_eq] at this
          exact this.1
        have hld : l ∈ done := by
          rcases List.mem_cons.1 hld with h | h
          · rw [h, allocNG_eff hae] at hlp; cases hlp
          · exact h
        refine ⟨?_, hld⟩
        obtain ⟨o'', ho'', _, _, _, hxe, _⟩ := okFrom_cons hok
        have efe : isEff o'' = true := by simpa [eff, ho''] using hef
        rcases (hxe efe).1 l hld hlp with h | h | h
        · rw [allocNG_before hB hae (hlt l hld)] at h; cases h
        · rw [ho''] at hoe; cases hoe
          have : strips oe = true := by simp [strips, e1]
          rw [this] at h; simp at h
        · exact h
      have far : ∀ {z oz dz} (_ : ops[z]? = some oz) (_ : oz.dst = some dz) (_ : z ∉ done) (_ : allocNG ops z = true) {l o}, l ∈ done → ops[l]? = some o → dz ∉ slots o ∧ o.dst ≠ some dz := by
        intro z oz dz hz hdz hzd haz l o hl ho
        obtain ⟨a1, a2, _⟩ := hB.slot l z o oz dz ho hz hdz
        have hlz : l ≠ z := fun h => hzd (h ▸ hl)
        refine ⟨?_, a1.resolve_left hlz⟩
        rcases a2 with h | h | h
        · exact h
        · exact absurd (hD.clos l z hl (lt_of_op hz) h) hzd
        · rcases h.2 with h | h
          · exact absurd h hlz
          · rw [allocNG_before hB haz (hlt l hl)] at h; cases h
      have hyd : y ∉ done := fun h => hyfr (by simp [h])
      have cy : calmL ops dy s lsy = true := calmL_iff.2 fun l hl => by
        obtain ⟨p1, p2⟩ := pure l hl
        obtain ⟨o, ho, hi⟩ := calmL_iff.1 g1 l hl
        obtain ⟨o2, ho2, hi2⟩ := calmL_iff.1 h2 l p1
        rw [ho] at ho2; cases ho2
        obtain ⟨f1, f2⟩ := far hoe e2 hefr hae p2 ho
        exact ⟨o, ho, by rw [← Calm.al hi2 f1 f2 dy (TY := TY) (ty := te)]; exact hi⟩
      have ce : calmL ops de (Dk.alS TY ty dy s) lse = true := calmL_iff.2 fun l hl => by
        obtain ⟨o, ho, hi⟩ := calmL_iff.1 h2 l hl
        have hlp : eff ops l = false := by
          obtain ⟨o'', ho'', _, _, _, hxe, _⟩ := okFrom_cons hok
          have efe : isEff o'' = true := by simpa [eff, ho''] using hef
          exact (hxe efe).2.1 l hl
        have hld : l ∈ done := by
          have := ke
          unfold okH at this
          have efe : isEff oe = true := by simpa [eff, hoe] using hef
          rw [hoe] at this
          simp only [efe, Bool.and_eq_true] at this
          have := List.all_eq_true.1 this.2.2.2.2 l hl
          simp only [Bool.and_eq_true, List.contains_eq_mem, decide_eq_true_eq] at this
          exact this.1
        have hly : l ∈ lsy := by
          obtain ⟨o', ho', _, _, _, hx, _⟩ := okFrom_cons (show okFrom true ops b (e :: done) ((y, lsy) :: r') = true by simp only [okFrom, Bool.and_eq_true]; exact h1)
          have ef : isEff o' = true := by have := allocNG_eff hay; simpa [eff, ho'] using this
          rcases (hx ef).1 l (by simp [hld]) hlp with h | h | h
          · rw [allocNG_before hB hay (hlt l hld)] at h; cases h
          · rw [ho'] at hoy; cases hoy
            have : strips oy = true := by simp [strips, y1]
            rw [this] at h; simp at h
          · exact h
        obtain ⟨o2, ho2, hi2⟩ := calmL_iff.1 cy l hly
        rw [ho] at ho2; cases ho2
        obtain ⟨f1, f2⟩ := far hoy y2 hyd hay hld ho
        exact ⟨o, ho, by rw [Calm.al hi2 f1 f2 de (TY := TY) (ty := ty)]; exact hi⟩
      refine ⟨?_, (aopsD_alloc hay hoy y1 y2 y3).2 ⟨cy, g2, g3, (aopsD_alloc hae hoe e1 e2 e3).2 ⟨ce, h3, h4, ?_⟩⟩⟩
      · simp only [okFrom, Bool.and_eq_true]
        exact ⟨s1, s2, okFrom_perm (pre := []) h1.2 hae hay⟩
      · rw [alS_comm hT hdd]; exact g4
    obtain ⟨h2, h3, h4, h5⟩ := (aopsD_alloc hae hoe e1 e2 e3).1 hrun
    by_cases hix : i = x
    · subst hix
      obtain ⟨w1, w2⟩ := swap hax hokx h2 h3 h4 h5
      exact ⟨lsx, _, hax, w1, w2, fun k => by simp only [List.map_cons, List.mem_cons]; exact or_left_comm⟩
    · have hi : i ∈ r.map (·.1) := by
        simp only [List.map_cons, List.mem_cons] at hi
        exact hi.resolve_left hix
      obtain ⟨lsi, r', u0, u1, u2, u3⟩ := ih (e :: done) x lsx _ hokx h5 hDe (allocNG_eff hax) hi (hbr x (by simp)) (fun e' he' => hbr e' (by simp only [List.map_cons, List.mem_cons]; exact .inr he'))
      obtain ⟨w1, w2⟩ := swap u0 u1 h2 h3 h4 u2
      refine ⟨lsi, _, u0, w1, w2, fun k => ?_⟩
      have := u3 k
      simp only [List.map_cons, List.mem_cons] at this ⊢
      constructor
      · rintro (h | h | h)
        · exact .inr (this.1 (.inl h))
        · exact .inl h
        · exact .inr (this.1 (.inr h))
      · rintro (h | h)
        · exact .inr (.inl h)
        · rcases this.2 h with h | h
          · exact .inl h
          · exact .inr (.inr h)
end
end Go.Dk
