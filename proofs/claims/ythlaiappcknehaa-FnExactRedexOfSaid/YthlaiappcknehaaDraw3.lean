/- Every order that a drawing region may take. -/
import Derived.Test.YthlaiappcknehaaDraw2
set_option linter.unusedSimpArgs false
set_option linter.unusedVariables false
namespace Go.Dk
section
variable {P : Program} {C : Fr} {n : Nat} {TY : Nat → TyI} {G : List (Nat × Con)} {ops : Array Oper} {b : Array Nat} {Q' : AS → Prop}

structure OkP (ops : Array Oper) (b : Array Nat) : Prop where
  slot : ∀ i j oi oj d, ops[i]? = some oi → ops[j]? = some oj → oj.dst = some d → (i = j ∨ oi.dst ≠ some d) ∧ (d ∉ slots oi ∨ before b i j = true ∨ (isEff oj = true ∧ (i = j ∨ before b j i = true))) ∧
    ∀ g want, oi.guard = some (g, want) → (ops[g]?).bind (·.dst) = some d → g = j
  guard : ∀ i o g want, ops[i]? = some o → o.guard = some (g, want) → before b i g = true ∧ eff ops g = false
  edge : ∀ i o e, ops[i]? = some o → e ∈ o.after → Region.binds .any e = true → before b i e.on = true ∧ e.on < ops.size
  back : ∀ i o j, ops[i]? = some o → j < ops.size → before b i j = true → ∃ e, e ∈ o.after ∧ Region.binds .any e = true ∧ (e.on = j ∨ before b e.on j = true)

theorem lt_of_op {i : Nat} {o : Oper} (h : ops[i]? = some o) : i < ops.size := (Array.getElem?_eq_some_iff.1 h).1
theorem okP_of (h1 : okSlots ops b = true) (h2 : okGuards ops b = true) (h3 : okBefore ops b = true) : OkP ops b := by
  refine ⟨fun i j oi oj d hi hj hd => ?_, fun i o g want hi hg => ?_, fun i o e hi he hb => ?_, fun i o j hi hj hb => ?_⟩
  · have := List.all_eq_true.1 (List.all_eq_true.1 h1 i (List.mem_range.2 (lt_of_op hi))) j (List.mem_range.2 (lt_of_op hj))
    simp only [hi, hj, hd, Bool.and_eq_true, Bool.or_eq_true, beq_iff_eq, bne_iff_ne, Bool.not_eq_true', List.contains_eq_mem, decide_eq_false_iff_not] at this
    refine ⟨this.1, this.2.1, fun g want hg hgd => ?_⟩
    have h := this.2.2
    simp only [hg, Bool.or_eq_true, bne_iff_ne, beq_iff_eq] at h
    exact h.resolve_left fun hn => hn hgd
  · have := List.all_eq_true.1 h2 i (List.mem_range.2 (lt_of_op hi))
    simpa only [hi, hg, Bool.and_eq_true, Bool.not_eq_true'] using this
  · have := List.all_eq_true.1 h3 i (List.mem_range.2 (lt_of_op hi))
    simp only [hi, Bool.and_eq_true] at this
    have := Array.all_eq_true_iff_forall_mem.1 this.1 e he
    simp only [hb, Bool.not_true, Bool.false_or, Bool.and_eq_true] at this
    exact ⟨this.1, by simpa [Nat.blt_eq] using this.2⟩
  · have := List.all_eq_true.1 h3 i (List.mem_range.2 (lt_of_op hi))
    simp only [hi, Bool.and_eq_true] at this
    have := List.all_eq_true.1 this.2 j (List.mem_range.2 hj)
    simp only [hb, Bool.not_true, Bool.false_or] at this
    obtain ⟨e, he, h1⟩ := Array.any_eq_true'.1 this
    simp only [Bool.and_eq_true, Bool.or_eq_true, beq_iff_eq] at h1
    exact ⟨e, he, h1.1, h1.2⟩

theorem okFrom_cons {done : List Nat} {last : Option Nat} {i : Nat} {ls : List Nat} {r : List (Nat × List Nat)} (h : okFrom ops b done last ((i, ls) :: r) = true) :
    ∃ o, ops[i]? = some o ∧ i ∉ done ∧ (∀ j, j < ops.size → before b i j = true → j ∈ done) ∧ (∀ e, last = some e → before b i e = true) ∧
      (isEff o = true → (∀ j, j ∈ done → eff ops j = false → before b i j = true ∨ (strips o = false ∧ ∀ oj, ops[j]? = some oj → isLoad oj = false) ∨ j ∈ ls) ∧ (∀ j, j ∈ ls → eff ops j = false) ∧ okFrom ops b (i :: done) (some i) r = true) ∧
      (isEff o = false → ls = [] ∧ okFrom ops b (i :: done) last r = true) := by
  unfold okFrom at h
  cases ho : ops[i]? with
  | none => rw [ho] at h; cases h
  | some o =>
    simp only [ho, Bool.and_eq_true, Bool.not_eq_true', List.contains_eq_mem, decide_eq_false_iff_not] at h
    obtain ⟨h1, h2, h3, h4⟩ := h
    refine ⟨o, rfl, h1, fun j hj hb => ?_, fun e he => ?_, fun he => ?_, fun he => ?_⟩
    · have := List.all_eq_true.1 h2 j (List.mem_range.2 hj)
      simpa [hb] using this
    · simpa [he] using h3
    · simp only [he, Bool.and_eq_true] at h4
      refine ⟨fun j hj hf => ?_, fun j hj => ?_, h4.2.2⟩
      case refine_2 =>
        have := List.all_eq_true.1 h4.2.1 j hj
        simp only [Bool.and_eq_true, Bool.not_eq_true'] at this
        exact this.2
      have := List.all_eq_true.1 h4.1 j hj
      simp only [hf, Bool.false_or, Bool.or_eq_true, Bool.and_eq_true, Bool.not_eq_true', List.contains_eq_mem, decide_eq_true_eq] at this
      refine this.imp id fun h => h.imp (fun ⟨hs, hl⟩ => ⟨hs, fun oj hoj => ?_⟩) id
      simpa [hoj] using hl
    · simp only [he, Bool.and_eq_true, List.isEmpty_iff] at h4
      exact h4

theorem okFrom_fresh : ∀ {r : List (Nat × List Nat)} {done : List Nat} {last : Option Nat}, okFrom ops b done last r = true → ∀ i, i ∈ r.map (·.1) → i ∉ done
  | [], _, _, _, i, hi => by simp at hi
  | (k, ls) :: r, done, last, h, i, hi => by
    obtain ⟨o, _, h1, _, _, h2, h3⟩ := okFrom_cons h
    rcases List.mem_cons.1 hi with rfl | hi
    · exact h1
    · intro hd
      cases he : isEff o with
      | true => exact okFrom_fresh (h2 he).2.2 i hi (by simp [hd])
      | false => exact okFrom_fresh (h3 he).2 i hi (by simp [hd])
/-- What stands behind an effect waits for one. -/
theorem okFrom_late : ∀ {r : List (Nat × List Nat)} {done : List Nat} {e : Nat}, okFrom ops b done (some e) r = true → e < ops.size → ∀ i, i ∈ r.map (·.1) →
    ∃ e', before b i e' = true ∧ e' < ops.size ∧ (e' = e ∨ e' ∈ r.map (·.1))
  | [], _, _, _, _, i, hi => by simp at hi
  | (k, ls) :: r, done, e, h, hlt, i, hi => by
    obtain ⟨o, ho, _, _, hl, h2, h3⟩ := okFrom_cons h
    rcases List.mem_cons.1 hi with rfl | hi
    · exact ⟨e, hl e rfl, hlt, .inl rfl⟩
    · cases he : isEff o with
      | true =>
        obtain ⟨e', g1, g2, g3⟩ := okFrom_late (h2 he).2.2 (lt_of_op ho) i hi
        exact ⟨e', g1, g2, .inr (by rcases g3 with rfl | g3 <;> simp [*])⟩
      | false =>
        obtain ⟨e', g1, g2, g3⟩ := okFrom_late (h3 he).2 hlt i hi
        exact ⟨e', g1, g2, g3.imp id fun g => by simp [g]⟩

/-- A pure operation that has run in thought: run now, it gives the same. -/
def POk (n : Nat) (TY : Nat → TyI) (ops : Array Oper) (s : AS) (o : Oper) : Prop :=
  dstOk n o.dst = true ∧ isEff o = false ∧ ∃ c, AWant ops o s c ∧
    (c = true → ∃ v, (∀ d, o.dst = some d → v = s.t d) ∧ ∀ (m : AS) (K' : AV → AS → Prop), (∀ x ∈ o.op.operands, m.get x = s.get x) → (isLoad o = true → m.h = s.h ∧ m.fh = s.fh) → K' v m → aop [] TY true m o K') ∧
    (c = false → ∀ d, o.dst = some d → s.t d = .tup [])

def DoneOk (ops : Array Oper) (b : Array Nat) : List Nat → Prop
  | [] => True
  | i :: d => (∀ j, j < ops.size → before b i j = true → j ∈ d) ∧ i < ops.size ∧ DoneOk ops b d
theorem DoneOk.clos : ∀ {d : List Nat}, DoneOk ops b d → ∀ i j, i ∈ d → j < ops.size → before b i j = true → j ∈ d
  | [], _, i, j, hi, _, _ => by simp at hi
  | k :: d, ⟨h1, _, h2⟩, i, j, hi, hj, hb => by
    rcases List.mem_cons.1 hi with rfl | hi
    · simp [h1 j hj hb]
    · simp [h2.clos i j hi hj hb]
theorem DoneOk.lt : ∀ {d : List Nat}, DoneOk ops b d → ∀ i, i ∈ d → i < ops.size
  | [], _, i, hi => by simp at hi
  | k :: d, ⟨_, h1, h2⟩, i, hi => by
    rcases List.mem_cons.1 hi with rfl | hi
    · exact h1
    · exact h2.lt i hi

structure DInv (C : Fr) (n : Nat) (G : List (Nat × Con)) (TY : Nat → TyI) (ops : Array Oper) (b : Array Nat) (Q' : AS → Prop) (done : List Nat) (last : Option Nat) (rest : List (Nat × List Nat)) (listed : Array Bool) (s m : AS) (γ : Gh) (a : Act) (w : World) : Prop where
  size : listed.size = ops.size
  sub : ∀ i, listed.getD i false = true → i ∈ done
  effs : ∀ i, i ∈ done → eff ops i = true → listed.getD i false = true
  clos : ∀ i j, listed.getD i false = true → j < ops.size → before b i j = true → listed.getD j false = true
  dok : DoneOk ops b done
  all : ∀ i, i < ops.size → i ∈ done ∨ i ∈ rest.map (·.1)
  ok : okFrom ops b done last rest = true
  run : aopsD G TY n ops rest s Q'
  rel : Rel C n γ m a w
  agr : Agr m s
  mt : ∀ d, (∀ i o, i ∈ done → listed.getD i false = false → ops[i]? = some o → o.dst ≠ some d) → m.t d = s.t d
  pend : ∀ i o, i ∈ done → listed.getD i false = false → ops[i]? = some o → POk n TY ops s o

theorem slot_mem {o : Oper} {t : Nat} (h : Operand.tmp t ∈ o.op.operands) : t ∈ slots o := by
  unfold slots
  exact List.mem_filterMap.2 ⟨.tmp t, by simpa using h, rfl⟩
theorem get_of_slots {s m : AS} {o : Oper} (h : ∀ t, t ∈ slots o → m.t t = s.t t) : ∀ x ∈ o.op.operands, m.get x = s.get x := by
  intro x hx
  cases x with
  | tmp t => exact h t (slot_mem hx)
  | _ => rfl
theorem AWant.of {s m : AS} {o : Oper} {c : Bool} (h : AWant ops o s c) (hg : ∀ g want d, o.guard = some (g, want) → (ops[g]?).bind (·.dst) = some d → m.t d = s.t d) : AWant ops o m c := by
  unfold AWant at *
  split at h
  case h_1 => exact h
  case h_2 j want hj =>
    obtain ⟨d, h1, h2⟩ := h
    exact ⟨d, h1, by rw [hg j want d hj h1]; exact h2⟩
theorem put_t_ne {s : AS} {d : Option Nat} {v : AV} {t : Nat} (h : d ≠ some t) : (s.put d v).t t = s.t t := by
  cases d with
  | none => rfl
  | some d => exact upd_ne (fun e => h (by rw [e]))
theorem put_t_eq {s : AS} {d : Nat} {v : AV} : (s.put (some d) v).t d = v := upd_same _ _ _
theorem put_h {s : AS} {d : Option Nat} {v : AV} : (s.put d v).h = s.h := rfl
theorem put_f {s : AS} {d : Option Nat} {v : AV} : (s.put d v).fh = s.fh := rfl
theorem put_n {s : AS} {d : Option Nat} {v : AV} : (s.put d v).now = s.now := rfl
theorem Agr.put {s m : AS} (A : Agr m s) {d : Option Nat} {u v : AV} : Agr (m.put d u) (s.put d v) := ⟨A.h, A.f, A.n⟩
theorem Agr.refl (s : AS) : Agr s s := ⟨rfl, rfl, rfl⟩

/-- A pure operation's value stays, where its slots and its guard's stay. -/
theorem POk.of {s m : AS} {o : Oper} (h : POk n TY ops s o) (hs : ∀ t, t ∈ slots o → m.t t = s.t t) (hg : ∀ g want d, o.guard = some (g, want) → (ops[g]?).bind (·.dst) = some d → m.t d = s.t d)
    (hd : ∀ d, o.dst = some d → m.t d = s.t d) (hl : isLoad o = true → m.h = s.h ∧ m.fh = s.fh) : POk n TY ops m o := by
  obtain ⟨h1, h2, c, h3, h4, h5⟩ := h
  refine ⟨h1, h2, c, h3.of hg, fun e => ?_, fun e d hdd => by rw [hd d hdd]; exact h5 e d hdd⟩
  obtain ⟨v, g1, g2⟩ := h4 e
  refine ⟨v, fun d hdd => by rw [hd d hdd]; exact g1 d hdd, fun m' K' k1 k2 k3 => g2 m' K' (fun x hx => ?_) (fun e => ?_) k3⟩
  · rw [k1 x hx]; exact get_of_slots hs x hx
  · rw [(k2 e).1, (k2 e).2]; exact hl e

theorem oeqb {o o' : Own} (h : o.eqb o' = true) : o = o' := by
  cases o <;> cases o' <;> simp only [Own.eqb] at h <;> first | rfl | (cases h; done) | exact congrArg Own.tok (Nat.eq_of_beq_eq_true h) | exact congrArg Own.id (Nat.eq_of_beq_eq_true h)
theorem bEq_eq {a b : Bool} (h : bEq a b = true) : a = b := by cases a <;> cases b <;> simp_all [bEq]
theorem teqb {g g' : Tag} (h : g.eqb g' = true) : g = g' := by
  cases g <;> cases g' <;> simp only [Tag.eqb] at h <;> first | rfl | (cases h; done) | skip
  · split at h
    case h_2 => cases h
    rename_i h1 h2 h3
    rw [Nat.eq_of_beq_eq_true h1, Nat.eq_of_beq_eq_true h2, bEq_eq h3, oeqb h]
  · exact congrArg Tag.arg (Nat.eq_of_beq_eq_true h)
  · split at h
    case h_2 => cases h
    rename_i h1 h2
    rw [Nat.eq_of_beq_eq_true h1, bEq_eq h2, oeqb h]
theorem capsEq_eq : ∀ {c c' : List AV}, capsEq c c' = true → c = c'
  | [], [], _ => rfl
  | [], _ :: _, h => by cases h
  | x :: r, [], h => by cases x <;> cases h
  | x :: r, y :: r', h => by
    cases x <;> cases y <;> simp only [capsEq] at h <;> first | (cases h; done) | skip
    all_goals
      split at h
      case h_2 => cases h
      rename_i hb
      rw [Nat.eq_of_beq_eq_true hb, capsEq_eq h]
theorem same1_ok {u v : AV} {A : Prop} (h : same1 u v A) : u = v ∧ A := by
  unfold same1 at h
  split at h
  case h_19 => exact h.elim
  all_goals first
    | exact ⟨rfl, h⟩
    | (obtain ⟨rfl, h⟩ := h; exact ⟨rfl, h⟩)
    | (split at h
       case h_2 => exact h.elim
       rename_i h1 h2
       first
         | (obtain rfl := ikEq_iff.1 h1; obtain rfl := teqb h2; first | (obtain ⟨rfl, h⟩ := h; exact ⟨rfl, h⟩) | (obtain ⟨rfl, rfl, h⟩ := h; exact ⟨rfl, h⟩))
         | (obtain rfl := Nat.eq_of_beq_eq_true h1; obtain rfl := capsEq_eq h2; exact ⟨rfl, h⟩)
         | (obtain rfl := Nat.eq_of_beq_eq_true h1; obtain rfl := Nat.eq_of_beq_eq_true h2; exact ⟨rfl, h⟩)
         | (obtain rfl := teqb h1; obtain rfl := Nat.eq_of_beq_eq_true h2; obtain ⟨rfl, rfl, h⟩ := h; exact ⟨rfl, h⟩))
    | (split at h
       case h_2 => exact h.elim
       rename_i h1
       first
         | (obtain rfl := ikEq_iff.1 h1; obtain ⟨rfl, h⟩ := h; exact ⟨rfl, h⟩)
         | (obtain rfl := teqb h1; obtain ⟨rfl, h⟩ := h; exact ⟨rfl, h⟩)
         | (obtain rfl := teqb h1; obtain ⟨rfl, rfl, h⟩ := h; exact ⟨rfl, h⟩)
         | (obtain rfl := Nat.eq_of_beq_eq_true h1; exact ⟨rfl, h⟩))
theorem same1L_ok : ∀ {l l' : List AV} {A : Prop}, same1L l l' A → l = l' ∧ A
  | [], [], _, h => ⟨rfl, h⟩
  | [], _ :: _, _, h => h.elim
  | _ :: _, [], _, h => h.elim
  | u :: r, v :: r', A, h => by
    obtain ⟨e1, k1⟩ := same1_ok h
    obtain ⟨e2, k2⟩ := same1L_ok k1
    exact ⟨by rw [e1, e2], k2⟩
theorem same2_ok {u v : AV} {A : Prop} (h : same2 u v A) : u = v ∧ A := by
  unfold same2 at h
  split at h
  · obtain ⟨e, k⟩ := same1L_ok h; exact ⟨by rw [e], k⟩
  · exact same1_ok h
theorem same2L_ok : ∀ {l l' : List AV} {A : Prop}, same2L l l' A → l = l' ∧ A
  | [], [], _, h => ⟨rfl, h⟩
  | [], _ :: _, _, h => h.elim
  | _ :: _, [], _, h => h.elim
  | u :: r, v :: r', A, h => by
    obtain ⟨e1, k1⟩ := same2_ok h
    obtain ⟨e2, k2⟩ := same2L_ok k1
    exact ⟨by rw [e1, e2], k2⟩
theorem same3_ok {u v : AV} {A : Prop} (h : same3 u v A) : u = v ∧ A := by
  unfold same3 at h
  split at h
  · obtain ⟨e, k⟩ := same2L_ok h; exact ⟨by rw [e], k⟩
  · exact same2_ok h

/-- What a check tells. -/
def Again (TY : Nat → TyI) (ops : Array Oper) (s : AS) (o : Oper) : Prop := ∃ d, o.dst = some d ∧ (AWant ops o s true → aop [] TY true s o fun v _ => v = s.t d)
theorem chk_ok : ∀ {ls : List Nat} {s : AS} {A : Prop}, (∀ l, l ∈ ls → ∀ o, ops[l]? = some o → isEff o = false) → chk TY ops ls s A → (∀ l, l ∈ ls → ∀ o, ops[l]? = some o → Again TY ops s o) ∧ A
  | [], s, A, _, h => ⟨fun l hl => by simp at hl, h⟩
  | l :: ls, s, A, hp, h => by
    simp only [chk] at h
    split at h
    case h_1 => exact h.elim
    rename_i o ho
    split at h
    case h_2 => exact h.elim
    rename_i d w hd hw
    have hnext : ∀ x, x ∈ ls → ∀ o, ops[x]? = some o → isEff o = false := fun x hx => hp x (by simp [hx])
    have key : Again TY ops s o ∧ chk TY ops ls s A := by
      cases w with
      | false =>
        refine ⟨⟨d, hd, fun hw' => ?_⟩, h⟩
        exfalso
        unfold AWant at hw'
        unfold wantOf at hw
        split at hw
        · cases hw
        · rename_i j wt hg
          simp only [hg] at hw'
          obtain ⟨d', h1, ⟨x, h2, h3⟩ | ⟨h2, h3⟩⟩ := hw'
          · rw [h1] at hw
            simp only [h2] at hw
            cases x <;> cases wt <;> simp [bEq] at hw h3
          · cases h3
      | true =>
        obtain ⟨v, k1, k2⟩ := pure_congr (G' := []) (hp l (by simp) o ho) h
        obtain ⟨k3, k4⟩ := same3_ok k1
        exact ⟨⟨d, hd, fun _ => k2 s _ (fun _ _ => rfl) (fun _ => ⟨rfl, rfl⟩) k3⟩, k4⟩
    obtain ⟨h1, h2⟩ := chk_ok hnext key.2
    refine ⟨fun l' hl' o' ho' => ?_, h2⟩
    rcases List.mem_cons.1 hl' with rfl | hl'
    · rw [ho] at ho'; cases ho'; exact key.1
    · exact h1 l' hl' o' ho'
end
end Go.Dk
