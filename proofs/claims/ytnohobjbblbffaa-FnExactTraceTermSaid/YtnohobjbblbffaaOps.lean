/- The operations of the model, one by one: what the abstract machine computes is what memory holds. -/
import Derived.Test.YtnohobjbblbffaaMk
set_option linter.unusedSimpArgs false
set_option linter.unusedVariables false
namespace Go.Dk

def notAgg : TypeDesc → Bool
  | .struct _ | .array _ _ => false
  | _ => true

/-- A one-cell type. -/
def ScOk (P : Program) (TY : Nat → TyI) (t : Nat) (z : AV) : Prop :=
  ∃ d i zv, P.underlying t = some d ∧ notAgg d = true ∧ P.info? t = some i ∧ i.size = 1 ∧ i.zero = some zv ∧ zv.cells = #[zv] ∧
    match z with
    | .int k n => d = .int k ∧ zv = .int k n
    | .bool b => d = .bool ∧ zv = .bool b
    | .str l => d = .string ∧ zv = .string ⟨l.toArray⟩
    | .slc ts g => d = .slice (TY t).elem ∧ zv = .slice none 0 0 ∧ ts = [] ∧ g = .iv 0 0 true .full ∧ ∃ j, P.info? (TY t).elem = some j ∧ j.size = 3 ∧ j.bytes ≤ 64 ∧ ∃ zs, j.zero = some (.agg zs) ∧ zs.size = 3
    | .ints k ns g => d = .slice (TY t).elem ∧ zv = .slice none 0 0 ∧ ns = [] ∧ g = .iv 0 0 true .full ∧ P.underlying (TY t).elem = some (.int k) ∧ ∃ j, P.info? (TY t).elem = some j ∧ j.size = 1 ∧ j.bytes ≤ 64 ∧ ∃ z, j.zero = some z ∧ z.cells.size = 1
    | .strs ss => d = .slice (TY t).elem ∧ zv = .slice none 0 0 ∧ ss = [] ∧ ∃ j, P.info? (TY t).elem = some j ∧ j.size = 1 ∧ j.bytes ≤ 64 ∧ ∃ z, j.zero = some z ∧ z.cells.size = 1
    | .nili => (∃ ms, d = .interface ms) ∧ zv = .nilIface
    | .top => True
    | _ => False
/-- The zero value of a field. -/
def ZeroF (z : AV) (v : Value) : Prop :=
  match z with
  | .int k n => v = .int k n
  | .bool b => v = .bool b
  | .slc ts g => ts = [] ∧ g = .iv 0 0 true .full ∧ v = .slice none 0 0
  | .ints _ ns g => ns = [] ∧ g = .iv 0 0 true .full ∧ v = .slice none 0 0
  | .top => True
  | _ => False
def AgOk (P : Program) (t : Nat) (zs : List AV) : Prop :=
  ∃ fields i cs, P.underlying t = some (.struct fields) ∧ fields.size = zs.length ∧ P.info? t = some i ∧ i.size = zs.length ∧ i.zero = some (.agg cs) ∧
    All2 ZeroF zs cs.toList ∧ ∀ (j : Nat) (f : Field), fields[j]? = some f → f.offset = j ∧ ∃ q, P.info? f.type = some q ∧ q.size = 1
structure TyOk (P : Program) (TY : Nat → TyI) : Prop where
  ty : ∀ t, match (TY t).k with
    | .sc z => ScOk P TY t z
    | .ag zs => AgOk P t zs
    | .no => True
  mark : ∀ f, MarkOk P f (TY f).mark

structure Kept (C : Fr) (w : World) : Prop where
  os : w.os = C.w0.os
  tape : w.tape = C.w0.tape
  output : w.output = C.w0.output
  size : C.w0.heap.size ≤ w.heap.size
  block : ∀ b, b < C.w0.heap.size → (∀ i, i < C.nf → b ≠ C.floc i) → w.heap[b]? = C.w0.heap[b]?

structure Rel (C : Fr) (n : Nat) (γ : Gh) (s : AS) (a : Act) (w : World) : Prop where
  tn : a.tmps.size = n
  t : ∀ i, Rel3 C γ s.now w (s.t i) (a.tmps.getD i undef)
  d : a.defers = []
  h : ∀ i, s.h i ≠ .top → VarR C γ s.now w (γ.loc i) (s.h i) ∧ C.w0.heap.size ≤ γ.loc i ∧ γ.lim (γ.loc i) = 0 ∧ γ.ow (γ.loc i) = none
  inj : ∀ i j, s.h i ≠ .top → s.h j ≠ .top → γ.loc i = γ.loc j → i = j
  fl : s.fh.length = C.nf
  f : ∀ i v, s.fh[i]? = some v → VarR C γ s.now w (C.floc i) v ∧ γ.lim (C.floc i) = 0 ∧ C.floc i < C.w0.heap.size
  finj : ∀ i j, i < C.nf → j < C.nf → C.floc i = C.floc j → i = j
  two : 3 ≤ s.now
  H2 : γ.H 2 = C.w0.heap.size
  plain : ∀ b, C.w0.heap.size ≤ b → b < w.heap.size → PlainB w b
  Hle : ∀ e, e < s.now → γ.H e ≤ w.heap.size
  Hmono : ∀ e e', e ≤ e' → e' < s.now → γ.H e ≤ γ.H e'
  lim0 : ∀ b, b < C.w0.heap.size → γ.lim b = C.lim0 b
  limz : ∀ b, w.heap.size ≤ b → γ.lim b = 0
  ow : ∀ b k, γ.ow b = some k → C.w0.heap.size ≤ b ∧ b < w.heap.size
  kept : Kept C w

theorem str_data (s : ByteArray) : s = ⟨s.data.toList.toArray⟩ := by cases s; simp
theorem ofConst_rel (C : Fr) (γ : Gh) (now : Nat) (w : World) (v : Value) : Rel3 C γ now w (ofConst v) v := by
  cases v <;> simp only [ofConst] <;> first | trivial | rfl | exact congrArg Value.string (str_data _)

section
variable {P : Program} {C : Fr} {n : Nat} {γ : Gh} {s : AS} {a : Act} {w : World}
theorem Rel.get (R : Rel C n γ s a w) (x : Operand) : Rel3 C γ s.now w (s.get x) (a.eval x) := by
  cases x with
  | tmp i => exact R.t i
  | const v => exact ofConst_rel C γ s.now w v
  | global g => trivial
  | func f => exact ⟨[], rfl, trivial⟩
theorem Rel.put (R : Rel C n γ s a w) {d : Option Nat} (hd : dstOk n d = true) {av : AV} {v : Value} (hv : Rel3 C γ s.now w av v) :
    Rel C n γ ⟨updO s.t d av, s.h, s.fh, s.now⟩ (a.put d v) w := by
  cases d with
  | none => exact { R with }
  | some d =>
    have hd : d < n := by simpa [dstOk, Nat.blt_eq] using hd
    refine { R with tn := by simp [Act.put, R.tn], t := fun i => ?_, d := R.d }
    simp only [updO, upd, Act.put]
    by_cases hi : i = d
    · subst hi
      have : a.tmps.size = n := R.tn
      simp [Array.getD_eq_getD_getElem?, this, hd, hv]
    · have hb : Nat.beq i d = false := by rw [← Bool.not_eq_true, Nat.beq_eq]; exact hi
      simp only [hb, Array.getD_eq_getD_getElem?, Array.getElem?_setIfInBounds, if_neg (Ne.symm hi)]
      simpa [Array.getD_eq_getD_getElem?] using R.t i

/-- What is shown of an operation that is no call: its value, and the state behind it. -/
def OpOk (P : Program) (C : Fr) (n : Nat) (a : Act) (w : World) (o : Oper) (K : AV → AS → Prop) : Prop :=
  ∃ r v w' av s' γ', (execOp a.eval o).run P w = .ok r w' ∧ (r = .value v ∨ (r = .skip ∧ v = undef)) ∧ K av s' ∧ Rel C n γ' s' a w' ∧ Rel3 C γ' s'.now w' av v
theorem OpOk.pure {o : Oper} {K : AV → AS → Prop} (R : Rel C n γ s a w) {av : AV} {v : Value} (hK : K av s) (hv : Rel3 C γ s.now w av v)
    (hr : (execOp a.eval o).run P w = .ok (.value v) w) : OpOk P C n a w o K := ⟨_, v, w, av, s, γ, hr, .inl rfl, hK, R, hv⟩

theorem nilS_rel {TY : Nat → TyI} (hT : TyOk P TY) (now : Nat) (h2 : 3 ≤ now) (t : Nat) : Rel3 C γ now w (nilS (TY t).k) (.slice none 0 0) := by
  have h := hT.ty t
  cases hk : (TY t).k with
  | no => trivial
  | ag zs => trivial
  | sc z =>
    rw [hk] at h
    obtain ⟨d, i, zv, h1, h2', h3, h4, h5, h6, h7⟩ := h
    cases z <;> first | trivial | skip
    · obtain ⟨_, _, rfl, rfl, _⟩ := h7
      refine ⟨none, 0, [], rfl, Nat.le_refl _, .inl ⟨rfl, rfl⟩, RtOk.nil, rfl⟩
    · obtain ⟨_, _, rfl, rfl, _⟩ := h7
      exact ⟨none, 0, [], rfl, Nat.le_refl _, .inl ⟨rfl, rfl⟩, RtOk.nil, rfl⟩
    · obtain ⟨_, _, rfl, _⟩ := h7
      exact ⟨none, 0, rfl, Nat.le_refl _, .inl rfl⟩
theorem Rel.getT {TY : Nat → TyI} (hT : TyOk P TY) (R : Rel C n γ s a w) (t : Nat) (x : Operand) : Rel3 C γ s.now w (s.getT TY t x) (a.eval x) := by
  cases x with
  | tmp i => exact R.get (.tmp i)
  | func f => exact R.get (.func f)
  | global g => trivial
  | const v =>
    simp only [AS.getT]
    split
    · exact nilS_rel hT s.now R.two t
    · exact R.get (.const v)
theorem assign_ok {TY : Nat → TyI} (hT : TyOk P TY) {o : Oper} {K : AV → AS → Prop} (R : Rel C n γ s a w) (x : Operand) (ho : o.op = .assign x) (h : K (s.getT TY o.type x) s) : OpOk P C n a w o K :=
  .pure R h (R.getT hT o.type x) (by simp [execOp, ho])
theorem move_ok {o : Oper} {K : AV → AS → Prop} (R : Rel C n γ s a w) (x : Operand) (ho : o.op = .move x ∨ o.op = .assign x) (h : K (s.get x) s) : OpOk P C n a w o K :=
  .pure R h (R.get x) (by rcases ho with ho | ho <;> simp [execOp, ho])

theorem rel_bool {av : AV} {b : Bool} {v : Value} (h : Rel3 C γ s.now w av v) (e : av = .bool b) : v = .bool b := by subst e; exact h
theorem rel_int {av : AV} {k : IntKind} {m : Int} {v : Value} (h : Rel3 C γ s.now w av v) (e : av = .int k m) : v = .int k m := by subst e; exact h
theorem rel_str {av : AV} {l : List UInt8} {v : Value} (h : Rel3 C γ s.now w av v) (e : av = .str l) : v = .string ⟨l.toArray⟩ := by subst e; exact h

theorem pick_ok {G : List (Nat × Con)} {TY : Nat → TyI} {dr : Bool} {o : Oper} {K : AV → AS → Prop} (R : Rel C n γ s a w) {c x y : Operand} (ho : o.op = .pick c x y) (h : aop G TY dr s o K) : OpOk P C n a w o K := by
  simp only [aop, ho] at h
  split at h
  case h_2 => exact h.elim
  rename_i c' b hc
  have hb := rel_bool (R.get c) hc
  cases b with
  | true => exact .pure R h (R.get x) (by simp [execOp, ho, hb, asBool])
  | false => exact .pure R h (R.get y) (by simp [execOp, ho, hb, asBool])
end

/- Memory grows by a variable; a variable gets another content. -/
section
variable {P : Program} {C : Fr} {n : Nat} {γ : Gh} {s : AS} {a : Act} {w : World}

theorem cell_alloc (w : World) (o : Obj) (b off : Nat) (h : b ≠ w.heap.size) : (w.alloc o).cell? ⟨b, off, none⟩ = w.cell? ⟨b, off, none⟩ := World.cell?_alloc_old w o ⟨b, off, none⟩ h
theorem cell_block {w w' : World} {b : Nat} (h : w'.heap[b]? = w.heap[b]?) (off : Nat) : w'.cell? ⟨b, off, none⟩ = w.cell? ⟨b, off, none⟩ := World.cell?_of_block (a := ⟨b, off, none⟩) h
theorem heap_alloc {w : World} {o : Obj} {b : Nat} (h : b < w.heap.size) : (w.alloc o).heap[b]? = w.heap[b]? := heap_alloc_old w o b h
theorem VarR.lt {now : Nat} {b : Nat} {u : AV} (h : VarR C γ now w b u) : b < w.heap.size := by
  obtain ⟨cs, ty, h1, _⟩ := h
  exact (Array.getElem?_eq_some_iff.1 h1).1
theorem VarR.step {γ' : Gh} {now now' : Nat} {w' : World} {kt kp : Nat → Bool} (S : Step γ now w γ' now' w' kt kp) {b : Nat} {u : AV} (h : VarR C γ now w b u) (hb : w'.heap[b]? = w.heap[b]?) :
    VarR C γ' now' w' b (u.cl kt kp) := by
  obtain ⟨cs, ty, h1, h2⟩ := h
  exact ⟨cs, ty, by rw [hb]; exact h1, FlatR.step S h2⟩

theorem cl_top {kt kp : Nat → Bool} : (AV.top).cl kt kp = .top := rfl
theorem ne_top_of_cl {kt kp : Nat → Bool} {u : AV} (h : u.cl kt kp ≠ .top) : u ≠ .top := fun e => h (by rw [e])
theorem clL_get {kt kp : Nat → Bool} : ∀ (l : List AV) (i : Nat), (clL kt kp l)[i]? = (l[i]?).map (·.cl kt kp)
  | [], i => by simp [clL]
  | v :: r, 0 => by simp [clL]
  | v :: r, i + 1 => by simpa [clL] using clL_get r i
theorem clL_length {kt kp : Nat → Bool} : ∀ (l : List AV), (clL kt kp l).length = l.length
  | [] => rfl
  | v :: r => by simp [clL, clL_length r]

theorem Kept.lt_ne {b : Nat} (R : Rel C n γ s a w) (hb : C.w0.heap.size ≤ b) : ∀ i, i < C.nf → C.floc i ≠ b := by
  intro i hi e
  have hl := R.fl
  have : i < s.fh.length := by omega
  have := (R.f i _ (List.getElem?_eq_getElem this)).2.2
  omega

theorem beq_ne {i d : Nat} (h : i ≠ d) : Nat.beq i d = false := by rw [← Bool.not_eq_true, Nat.beq_eq]; exact h

theorem upd_same (f : Nat → AV) (i : Nat) (v : AV) : upd f i v i = v := by simp [upd]
theorem upd_ne {f : Nat → AV} {i j : Nat} {v : AV} (h : j ≠ i) : upd f i v j = f j := by simp [upd, beq_ne h]
theorem upd_upd (f : Nat → AV) (i : Nat) (u v : AV) : upd (upd f i u) i v = upd f i v := by
  funext j
  by_cases h : j = i
  · subst h; rw [upd_same, upd_same]
  · rw [upd_ne h, upd_ne h, upd_ne h]

/-- Memory grows: whatever is known stays. -/
theorem Rel.grow (R : Rel C n γ s a w) {γ' : Gh} {now' : Nat} {w' : World} {kt kp : Nat → Bool} (S : Step γ s.now w γ' now' w' kt kp) {h' : Nat → AV}
    (hh : ∀ i, h' i ≠ .top → kp i = false ∧ h' i = (s.h i).cl kt kp)
    (hb : ∀ b, b < w.heap.size → γ.ow b = none → w'.heap[b]? = w.heap[b]? ∧ γ'.lim b = γ.lim b ∧ γ'.ow b = none)
    (hpl : ∀ b, C.w0.heap.size ≤ b → b < w'.heap.size → PlainB w' b)
    (how : ∀ b k, γ'.ow b = some k → C.w0.heap.size ≤ b ∧ b < w'.heap.size)
    (hz : ∀ b, w'.heap.size ≤ b → γ'.lim b = 0) (hos : w'.os = w.os) (htape : w'.tape = w.tape) (hout : w'.output = w.output)
    (hH : ∀ e, s.now ≤ e → e < now' → γ'.H e = w.heap.size) :
    Rel C n γ' ⟨fun j => (s.t j).cl kt kp, h', clL kt kp s.fh, now'⟩ a w' := by
  have h2 := R.two
  have hle := S.le
  have hsz := R.kept.size
  have old : ∀ b, b < C.w0.heap.size → γ.ow b = none := fun b hb => by
    cases ho : γ.ow b with
    | none => rfl
    | some k => have := (R.ow b k ho).1; omega
  refine ⟨R.tn, fun i => Rel3.step S (R.t i), R.d, fun i hi => ?_, fun i j hi hj e => ?_, by simp [clL_length, R.fl], fun i v hv => ?_, R.finj, Nat.le_trans h2 hle, ?_, hpl, fun e he => ?_, fun e e' hee he => ?_, fun b hb' => ?_, hz, how, ?_⟩
  · obtain ⟨hk, he⟩ := hh i hi
    have hi' : s.h i ≠ .top := ne_top_of_cl (by rw [← he]; exact hi)
    obtain ⟨h1, h3, h4, h5⟩ := R.h i hi'
    have hl := h1.lt
    obtain ⟨g1, g2, g3⟩ := hb _ hl h5
    show VarR C γ' now' w' (γ'.loc i) (h' i) ∧ _
    rw [S.loc i hk, he]
    exact ⟨VarR.step S h1 g1, h3, by rw [g2]; exact h4, g3⟩
  · obtain ⟨hk, he1⟩ := hh i hi
    obtain ⟨hk', he2⟩ := hh j hj
    refine R.inj i j (ne_top_of_cl (by rw [← he1]; exact hi)) (ne_top_of_cl (by rw [← he2]; exact hj)) ?_
    rw [← S.loc i hk, ← S.loc j hk']; exact e
  · rw [clL_get] at hv
    cases hf : s.fh[i]? with
    | none => simp [hf] at hv
    | some u =>
      simp [hf] at hv
      obtain ⟨h1, h3, h4⟩ := R.f i u hf
      obtain ⟨g1, g2, g3⟩ := hb _ h1.lt (old _ h4)
      rw [← hv]
      exact ⟨VarR.step S h1 g1, by rw [g2]; exact h3, h4⟩
  · rw [S.Hlt 2 (by omega)]; exact R.H2
  · by_cases hlt : e < s.now
    · rw [S.Hlt e hlt]; exact Nat.le_trans (R.Hle e hlt) S.size
    · rw [hH e (by omega) he]; exact S.size
  · have he : e' < now' := he
    by_cases hlt' : e' < s.now
    · rw [S.Hlt e (by omega), S.Hlt e' hlt']; exact R.Hmono e e' hee hlt'
    · rw [hH e' (by omega) he]
      by_cases hlt : e < s.now
      · rw [S.Hlt e hlt]; exact R.Hle e hlt
      · rw [hH e (by omega) (by omega)]; exact Nat.le_refl _
  · have hb2 := hb b (by omega) (old b hb')
    rw [hb2.2.1]; exact R.lim0 b hb'
  · exact ⟨hos.trans R.kept.os, htape.trans R.kept.tape, hout.trans R.kept.output, Nat.le_trans hsz S.size, fun b hb' hf => by rw [(hb b (by omega) (old b hb')).1]; exact R.kept.block b hb' hf⟩

theorem is1_self (d : Nat) : is1 d d = true := by simp [is1]
theorem is1_ne {i d : Nat} (h : is1 d i = false) : i ≠ d := fun e => by subst e; simp [is1] at h

theorem Rel.plain_alloc (R : Rel C n γ s a w) (cs : Array Value) (ty : TypeId) : ∀ b, C.w0.heap.size ≤ b → b < (w.alloc (.cells cs ty)).heap.size → PlainB (w.alloc (.cells cs ty)) b := by
  intro b h1 h2
  by_cases e : b = w.heap.size
  · subst e; exact ⟨cs, ty, heap_alloc_new w _⟩
  · have : b < w.heap.size := by simp at h2; omega
    exact (R.plain b h1 this).of (heap_alloc this)
/-- Another variable. -/
theorem Rel.addVar (R : Rel C n γ s a w) {d b : Nat} {u : AV} (hd : s.h d = .top) (hloc : γ.loc d = b) (hv : VarR C γ s.now w b u) (hge : C.w0.heap.size ≤ b) (hl : γ.lim b = 0) (ho : γ.ow b = none)
    (hne : ∀ i, s.h i ≠ .top → γ.loc i ≠ b) : Rel C n γ ⟨s.t, upd s.h d u, s.fh, s.now⟩ a w := by
  have hi0 : ∀ i, (upd s.h d u) i ≠ .top → i = d ∨ (i ≠ d ∧ s.h i ≠ .top ∧ upd s.h d u i = s.h i) := fun i hi => by
    by_cases e : i = d
    · exact .inl e
    · exact .inr ⟨e, by simpa [upd, beq_ne e] using hi, upd_ne e⟩
  refine { R with h := fun i hi => ?_, inj := fun i j hi hj e => ?_ }
  · rcases hi0 i hi with rfl | ⟨h1, h2, h3⟩
    · show VarR C γ s.now w (γ.loc i) (upd s.h i u i) ∧ _
      have : upd s.h i u i = u := by simp [upd]
      rw [this, hloc]; exact ⟨hv, hge, hl, ho⟩
    · show VarR C γ s.now w (γ.loc i) (upd s.h d u i) ∧ _
      rw [h3]; exact R.h i h2
  · rcases hi0 i hi with e1 | ⟨h1, h2, _⟩ <;> rcases hi0 j hj with e2 | ⟨h1', h2', _⟩
    · rw [e1, e2]
    · rw [e1, hloc] at e; exact absurd e.symm (hne j h2')
    · rw [e2, hloc] at e; exact absurd e (hne i h2)
    · exact R.inj i j h2 h2' e


/-- A new variable in a new block. -/
theorem Rel.newVar (R : Rel C n γ s a w) (d : Nat) {u : AV} {cs : List Value} (ty : TypeId) (hu : FlatR C γ s.now w u cs) :
    ∃ γ', Rel C n γ' ⟨fun j => (s.t j).cl is0 (is1 d), upd (fun j => (s.h j).cl is0 (is1 d)) d (u.cl is0 (is1 d)), clL is0 (is1 d) s.fh, s.now⟩ a (w.alloc (.cells cs.toArray ty)) ∧
      Rel3 C γ' s.now (w.alloc (.cells cs.toArray ty)) (.ptr d) (.pointer (some ⟨w.heap.size, 0, none⟩)) := by
  let γ' : Gh := { γ with loc := fun i => if i = d then w.heap.size else γ.loc i }
  have hz := R.limz
  have S : Step γ s.now w γ' s.now (w.alloc (.cells cs.toArray ty)) is0 (is1 d) :=
    { lim := fun b => Nat.le_refl _
      cell := fun b off hlt v hv => by rw [cell_alloc _ _ _ _ (by have := block_lt hv; omega)]; exact hv
      size := by simp
      two := R.two
      le := Nat.le_refl _
      Hlt := fun _ _ => rfl
      Hge := fun e h1 h2 => by omega
      loc := fun i hi => if_neg (is1_ne hi)
      ow := fun b k hb _ => ⟨hb, heap_alloc (R.ow b k hb).2, rfl⟩
      vid := fun _ _ => rfl }
  have h1 := R.grow S (h' := upd (fun j => (s.h j).cl is0 (is1 d)) d .top)
    (fun i hi => by
      by_cases e : i = d
      · subst e; exact absurd (upd_same _ _ _) hi
      · exact ⟨by simp [is1, beq_ne e], upd_ne e⟩)
    (fun b hb _ => ⟨heap_alloc hb, rfl, by assumption⟩) (R.plain_alloc _ _) (fun b k hb => by have := R.ow b k hb; simp; omega) (fun b hb => hz b (by simp at hb; omega)) rfl rfl rfl (fun e h1 h2 => by omega)
  have hloc : γ'.loc d = w.heap.size := if_pos rfl
  have h2 := h1.addVar (d := d) (b := w.heap.size) (u := u.cl is0 (is1 d)) (by simp [upd]) hloc
    ⟨cs, ty, heap_alloc_new w _, FlatR.step S hu⟩ R.kept.size (hz _ (Nat.le_refl _)) (by
      cases ho : γ.ow w.heap.size with
      | none => rfl
      | some k => have := (R.ow _ k ho).2; omega)
    (fun i hi => by
      have e : i ≠ d := fun e => hi (by subst e; simp [upd])
      have hi : upd (fun j => (s.h j).cl is0 (is1 d)) d .top i ≠ .top := hi
      have hi' : s.h i ≠ .top := ne_top_of_cl (kt := is0) (kp := is1 d) (by rw [show upd (fun j => (s.h j).cl is0 (is1 d)) d .top i = (s.h i).cl is0 (is1 d) from upd_ne e] at hi; exact hi)
      have := (R.h i hi').1.lt
      show (if i = d then w.heap.size else γ.loc i) ≠ _
      rw [if_neg e]; omega)
  refine ⟨γ', ?_, ?_⟩
  · rw [upd_upd] at h2; exact h2
  · show Value.pointer (some ⟨w.heap.size, 0, none⟩) = .pointer (some ⟨γ'.loc d, 0, none⟩)
    rw [hloc]

/-- One block's cells have changed. -/
structure Put (w w' : World) (b : Nat) (cs : List Value) : Prop where
  at_ : ∃ ty, w'.heap[b]? = some (.cells cs.toArray ty (0, 0))
  other : ∀ k, k ≠ b → w'.heap[k]? = w.heap[k]?
  size : w'.heap.size = w.heap.size
  os : w'.os = w.os
  tape : w'.tape = w.tape
  output : w'.output = w.output

theorem Put.step {w' : World} {b : Nat} {cs : List Value} (p : Put w w' b cs) (R : Rel C n γ s a w) (hl : γ.lim b = 0) (ho : γ.ow b = none) : Step γ s.now w γ s.now w' is0 is0 :=
  { lim := fun b => Nat.le_refl _
    cell := fun c off hlt v hv => by
      have : c ≠ b := fun e => by rw [e, hl] at hlt; omega
      rw [cell_block (p.other c this)]; exact hv
    size := by rw [p.size]; exact Nat.le_refl _
    two := R.two
    le := Nat.le_refl _
    Hlt := fun _ _ => rfl
    Hge := fun e h1 h2 => by omega
    loc := fun _ _ => rfl
    ow := fun c k hc _ => ⟨hc, p.other c (fun e => by rw [e, ho] at hc; cases hc), rfl⟩
    vid := fun _ _ => rfl }
theorem Put.plain {w' : World} {b : Nat} {cs : List Value} (p : Put w w' b cs) (R : Rel C n γ s a w) : ∀ c, C.w0.heap.size ≤ c → c < w'.heap.size → PlainB w' c := by
  intro c h1 h2
  by_cases e : c = b
  · subst e; obtain ⟨ty, h⟩ := p.at_; exact ⟨_, ty, h⟩
  · exact (R.plain c h1 (by rw [← p.size]; exact h2)).of (p.other c e)
theorem Step.rel3 {w' : World} (S : Step γ s.now w γ s.now w' is0 is0) {u : AV} {v : Value} (h : Rel3 C γ s.now w u v) : Rel3 C γ s.now w' u v := by
  have := Rel3.step S h; rwa [cl_id] at this
theorem Step.flat {w' : World} (S : Step γ s.now w γ s.now w' is0 is0) {u : AV} {cs : List Value} (h : FlatR C γ s.now w u cs) : FlatR C γ s.now w' u cs := by
  have := FlatR.step S h; rwa [cl_id] at this
theorem Step.var {w' : World} (S : Step γ s.now w γ s.now w' is0 is0) {b : Nat} {u : AV} (h : VarR C γ s.now w b u) (hb : w'.heap[b]? = w.heap[b]?) : VarR C γ s.now w' b u := by
  have := VarR.step S h hb; rwa [cl_id] at this
theorem Put.kept {w' : World} {b : Nat} {cs : List Value} (p : Put w w' b cs) (R : Rel C n γ s a w) (hf : b < C.w0.heap.size → ∃ i, i < C.nf ∧ b = C.floc i) : Kept C w' :=
  ⟨p.os.trans R.kept.os, p.tape.trans R.kept.tape, p.output.trans R.kept.output, by rw [p.size]; exact R.kept.size, fun c hc hn => by
    have : c ≠ b := fun e => by obtain ⟨i, h1, h2⟩ := hf (e ▸ hc); exact hn i h1 (e.trans h2)
    rw [p.other c this]; exact R.kept.block c hc hn⟩

theorem Rel.setLocal (R : Rel C n γ s a w) {i : Nat} (hi : s.h i ≠ .top) {u : AV} {cs : List Value} {w' : World} (p : Put w w' (γ.loc i) cs) (hu : FlatR C γ s.now w u cs) :
    Rel C n γ ⟨s.t, upd s.h i u, s.fh, s.now⟩ a w' := by
  obtain ⟨h1, h2, h3, h4⟩ := R.h i hi
  have S := p.step R h3 h4
  have hi0 : ∀ j, upd s.h i u j ≠ .top → j = i ∨ (j ≠ i ∧ s.h j ≠ .top) := fun j hj => by
    by_cases e : j = i
    · exact .inl e
    · exact .inr ⟨e, by rwa [upd_ne e] at hj⟩
  refine { R with t := fun j => S.rel3 (R.t j), h := fun j hj => ?_, inj := fun j k hj hk e => ?_, f := fun j v hv => ?_, Hle := fun e he => (by rw [p.size]; exact R.Hle e he), plain := p.plain R, limz := fun b hb => R.limz b (by rw [← p.size]; exact hb), ow := fun b k hb => (by rw [p.size]; exact R.ow b k hb), kept := p.kept R (fun hlt => by omega) }
  · rcases hi0 j hj with rfl | ⟨e, hj'⟩
    · show VarR C γ s.now w' (γ.loc j) (upd s.h j u j) ∧ _
      rw [upd_same]
      obtain ⟨ty, hty⟩ := p.at_
      exact ⟨⟨cs, ty, hty, S.flat hu⟩, h2, h3, h4⟩
    · show VarR C γ s.now w' (γ.loc j) (upd s.h i u j) ∧ _
      rw [upd_ne e]
      obtain ⟨g1, g2⟩ := R.h j hj'
      exact ⟨S.var g1 (p.other _ (fun e' => e (R.inj j i hj' hi e'))), g2⟩
  · have h5 : s.h j ≠ .top := by rcases hi0 j hj with rfl | ⟨_, h⟩ <;> assumption
    have h6 : s.h k ≠ .top := by rcases hi0 k hk with rfl | ⟨_, h⟩ <;> assumption
    exact R.inj j k h5 h6 e
  · obtain ⟨g1, g2, g3⟩ := R.f j v hv
    exact ⟨S.var g1 (p.other _ (by omega)), g2, g3⟩

theorem Rel.setForeign (R : Rel C n γ s a w) {i : Nat} {u0 : AV} (hi : s.fh[i]? = some u0) {u : AV} {cs : List Value} {w' : World} (p : Put w w' (C.floc i) cs) (hu : FlatR C γ s.now w u cs) :
    Rel C n γ ⟨s.t, s.h, s.fh.set i u, s.now⟩ a w' := by
  obtain ⟨h1, h3, h2⟩ := R.f i u0 hi
  have hil : i < s.fh.length := (List.getElem?_eq_some_iff.1 hi).1
  have hnf := R.fl
  have h4 : γ.ow (C.floc i) = none := by
    cases ho : γ.ow (C.floc i) with
    | none => rfl
    | some k => have := (R.ow _ k ho).1; omega
  have S := p.step R h3 h4
  refine { R with t := fun j => S.rel3 (R.t j), h := fun j hj => ?_, fl := by simp [R.fl], f := fun j v hv => ?_, Hle := fun e he => (by rw [p.size]; exact R.Hle e he), plain := p.plain R, limz := fun b hb => R.limz b (by rw [← p.size]; exact hb), ow := fun b k hb => (by rw [p.size]; exact R.ow b k hb), kept := p.kept R (fun _ => ⟨i, by omega, rfl⟩) }
  · obtain ⟨g1, g2, g3⟩ := R.h j hj
    exact ⟨S.var g1 (p.other _ (by omega)), g2, g3⟩
  · by_cases e : j = i
    · subst e
      have hv : (s.fh.set j u)[j]? = some v := hv
      rw [List.getElem?_set_self hil] at hv
      cases hv
      obtain ⟨ty, hty⟩ := p.at_
      exact ⟨⟨cs, ty, hty, S.flat hu⟩, h3, h2⟩
    · have hv : (s.fh.set i u)[j]? = some v := hv
      rw [List.getElem?_set_ne (Ne.symm e)] at hv
      obtain ⟨g1, g2, g3⟩ := R.f j v hv
      have hjl : j < s.fh.length := (List.getElem?_eq_some_iff.1 hv).1
      exact ⟨S.var g1 (p.other _ (fun e' => e (R.finj j i (by omega) (by omega) e'))), g2, g3⟩

theorem Put.ofSetCell {w : World} {b j : Nat} {cs : Array Value} {ty : TypeId} (h : w.heap[b]? = some (.cells cs ty (0, 0))) (v : Value) : Put w (w.setCell ⟨b, j, none⟩ v) b (cs.toList.set j v) :=
  ⟨⟨ty, by rw [heap_setCell_same w b j cs ty v h]; simp [← Array.toList_setIfInBounds]⟩, fun k hk => heap_setCell_other w ⟨b, j, none⟩ k v hk, by simp, rfl, rfl, rfl⟩
theorem Put.ofSetRow {w : World} {b : Nat} {cs : Array Value} {ty : TypeId} (h : w.heap[b]? = some (.cells cs ty (0, 0))) (cs' : List Value) : Put w (w.setRow b cs'.toArray) b cs' :=
  ⟨⟨ty, setRow_heap w b cs _ ty _ h⟩, fun k hk => setRow_other w b k _ hk, by simp, rfl, rfl, rfl⟩

/- One-cell values. -/
theorem relE_cells {now : Nat} {u : AV} {v : Value} (h : RelE C γ now w u v) : v.cells = #[v] ∧ v.oneCell' = true := by
  cases u <;> simp only [RelE] at h <;> first | exact h.elim | (subst h; exact ⟨rfl, rfl⟩) | (obtain ⟨a, cap, fp, rfl, _⟩ := h; exact ⟨rfl, rfl⟩) | (obtain ⟨a, cap, rfl, _⟩ := h; exact ⟨rfl, rfl⟩) | (obtain ⟨t, u, rfl⟩ := h; exact ⟨rfl, rfl⟩)
theorem flat_cells {now : Nat} {u : AV} {v : Value} (hf : flat u = true) (h : RelS C γ now w u v) : v.cells = #[v] ∧ v.oneCell' = true := by
  cases u <;> simp only [RelS] at h <;> first | exact h.elim | exact relE_cells h | (subst h; exact ⟨rfl, rfl⟩) | (obtain ⟨_, b, off, x, rfl, _⟩ := h; exact ⟨rfl, rfl⟩) | (obtain ⟨b, off, len, cap, _, _, rfl⟩ := h; exact ⟨rfl, rfl⟩) | (obtain ⟨vs, rfl, _⟩ := h; exact ⟨rfl, rfl⟩) | (simp [flat] at hf; done)
theorem flat_not_st {u : AV} (h : flat u = true) : ∀ fs, u ≠ .st fs := by intro fs e; subst e; simp [flat] at h
theorem flat_not_tup {u : AV} (h : flat u = true) : ∀ fs, u ≠ .tup fs := by intro fs e; subst e; simp [flat] at h
theorem flat_not_top {u : AV} (h : flat u = true) : u ≠ .top := by intro e; subst e; simp [flat] at h
theorem rel3_flat {now : Nat} {u : AV} {v : Value} (h : flat u = true) : Rel3 C γ now w u v = RelS C γ now w u v := by rw [Rel3_eq (flat_not_tup h), Rel2_eq (flat_not_st h)]
theorem flatR_flat {now : Nat} {u : AV} {cs : List Value} (h : flat u = true) : FlatR C γ now w u cs = ∃ v, cs = [v] ∧ RelS C γ now w u v := FlatR_eq (flat_not_st h)

theorem shape_cases {k : TyK} {u : AV} (h : shape k u = true) : (∃ zs fs, k = .ag zs ∧ u = .st fs ∧ flatL fs zs.length = true) ∨ (∃ z, k = .sc z ∧ flat u = true) := by
  cases k with
  | no => cases u <;> simp [shape] at h
  | sc z => cases u <;> first | exact .inr ⟨z, rfl, rfl⟩ | cases h
  | ag zs => cases u <;> first | exact .inl ⟨zs, _, rfl, rfl, h⟩ | cases h
theorem flatL_length : ∀ {fs : List AV} {n : Nat}, flatL fs n = true → fs.length = n
  | [], 0, _ => rfl
  | [], _ + 1, h => by cases h
  | _ :: _, 0, h => by cases h
  | v :: r, n + 1, h => by
    simp only [flatL] at h
    cases hv : flat v <;> simp [hv] at h
    simp [flatL_length h]
theorem flatL_all : ∀ {fs : List AV} {n : Nat}, flatL fs n = true → ∀ v ∈ fs, flat v = true
  | [], _, _, v, hv => by simp at hv
  | _ :: _, 0, h, _, _ => by cases h
  | x :: r, n + 1, h, v, hv => by
    simp only [flatL] at h
    cases hx : flat x <;> simp [hx] at h
    rcases List.mem_cons.1 hv with rfl | hv
    · exact hx
    · exact flatL_all h v hv
theorem allFlat_all : ∀ {fs : List AV}, allFlat fs = true → ∀ v ∈ fs, flat v = true
  | [], _, v, hv => by simp at hv
  | x :: r, h, v, hv => by
    simp only [allFlat] at h
    cases hx : flat x <;> simp [hx] at h
    rcases List.mem_cons.1 hv with rfl | hv
    · exact hx
    · exact allFlat_all h v hv
theorem all2_oneCell {now : Nat} : ∀ {fs : List AV} {cs : List Value}, All2 (RelS C γ now w) fs cs → (∀ v ∈ fs, flat v = true) → ∀ c ∈ cs, c.oneCell' = true
  | [], [], _, _, c, hc => by simp at hc
  | f :: fs, c :: cs, ⟨h1, h2⟩, hf, x, hx => by
    rcases List.mem_cons.1 hx with rfl | hx
    · exact (flat_cells (hf f (by simp)) h1).2
    · exact all2_oneCell h2 (fun v hv => hf v (by simp [hv])) x hx

theorem loadVar_ag {TY : Nat → TyI} (hT : TyOk P TY) {ty : Nat} {zs : List AV} (hk : (TY ty).k = .ag zs) {b off : Nat} {cs : List Value} (hl : cs.length = zs.length)
    (hc : ∀ (j : Nat) v, cs[j]? = some v → w.cell? ⟨b, off + j, none⟩ = some v) : (loadVar ty ⟨b, off, none⟩).run P w = .ok (.agg cs.toArray) w := by
  have h := hT.ty ty
  rw [hk] at h
  obtain ⟨fields, i, z, h1, h2, h3, h4, _⟩ := h
  have hagg : (isAgg ty).run P w = .ok true w := by unfold isAgg; rw [Sem.run_bind, run_underlying h1 w]; rfl
  have hl' := run_loadCells_list (P := P) w ⟨b, off, none⟩ cs (fun j v hv => by rw [Addr.add_lit]; exact hc j v hv)
  simp [loadVar, Sem.run_bind, hagg, sizeOf, typeInfo, h3, h4, ← hl, hl']
theorem loadVar_sc {TY : Nat → TyI} (hT : TyOk P TY) {ty : Nat} {z : AV} (hk : (TY ty).k = .sc z) {b off : Nat} {v : Value} (hc : w.cell? ⟨b, off, none⟩ = some v) :
    (loadVar ty ⟨b, off, none⟩).run P w = .ok v w := by
  have h := hT.ty ty
  rw [hk] at h
  obtain ⟨d, i, zv, h1, h2, _⟩ := h
  have hagg : (isAgg ty).run P w = .ok false w := by unfold isAgg; rw [Sem.run_bind, run_underlying h1 w]; cases d <;> simp [notAgg] at h2 ⊢
  simp [loadVar, Sem.run_bind, hagg, hc]

end
end Go.Dk
