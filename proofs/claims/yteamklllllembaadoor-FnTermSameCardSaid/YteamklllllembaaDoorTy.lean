/- The types of a program, checked by the kernel. -/
import Derived.Test.YteamklllllembaaDoorOps
namespace Go.Dk

@[reducible] def lkT : List (Nat × TyI) → Nat → TyI
  | [], _ => ⟨.no, 0, 0⟩
  | (i, v) :: r, j => match Nat.beq j i with | true => v | false => lkT r j

def isFull : Tag → Bool
  | .iv r m nd .full => r == 0 && (m == 0 && nd)
  | _ => false
def elemB (P : Program) (e sz : Nat) (agg : Bool) : Bool :=
  match P.info? e with
  | some j => j.size == sz && (decide (j.bytes ≤ 64) && (match agg, j.zero with
    | true, some (.agg zs) => zs.size == 3
    | false, some (.int _ _) => true
    | false, some (.string _) => true
    | _, _ => false))
  | none => false
def scB (P : Program) (t e : Nat) (z : AV) (d : TypeDesc) (zv : Value) : Bool :=
  match z, d, zv with
  | .int k n, .int k', .int k'' n' => ikEq k k' && (ikEq k k'' && n == n')
  | .bool b, .bool, .bool b' => b == b'
  | .str l, .string, .string s => l.isEmpty && s.size == 0
  | .slc ts g, .slice e', .slice none 0 0 => e' == e && (ts.isEmpty && (isFull g && elemB P e 3 true))
  | .ints k ns g, .slice e', .slice none 0 0 => e' == e && (ns.isEmpty && (isFull g && ((match P.underlying e with | some (.int k') => ikEq k k' | _ => false) && elemB P e 1 false)))
  | .strs ss, .slice e', .slice none 0 0 => e' == e && (ss.isEmpty && elemB P e 1 false)
  | .nili, .interface _, .nilIface => true
  | .top, .pointer _, .pointer _ => true
  | .top, .func .., .nilFunc => true
  | _, _, _ => t == t + 1
def scOkB (P : Program) (t e : Nat) (z : AV) : Bool :=
  match P.underlying t, P.info? t with
  | some d, some i => notAgg d && (i.size == 1 && (match i.zero with | some zv => scB P t e z d zv | none => false))
  | _, _ => false
def zeroFB (z : AV) (v : Value) : Bool :=
  match z, v with
  | .int k n, .int k' n' => ikEq k k' && n == n'
  | .bool b, .bool b' => b == b'
  | .slc ts g, .slice none 0 0 => ts.isEmpty && isFull g
  | .ints _ ns g, .slice none 0 0 => ns.isEmpty && isFull g
  | .top, _ => true
  | _, _ => false
def zeroLB : List AV → List Value → Bool
  | [], [] => true
  | z :: zs, v :: vs => zeroFB z v && zeroLB zs vs
  | _, _ => false
def fieldsB (P : Program) : Nat → List Field → Bool
  | _, [] => true
  | j, f :: fs => f.offset == j && ((match P.info? f.type with | some q => q.size == 1 | none => false) && fieldsB P (j + 1) fs)
def agOkB (P : Program) (t : Nat) (zs : List AV) : Bool :=
  match P.underlying t, P.info? t with
  | some (.struct fields), some i => fields.toList.length == zs.length && (i.size == zs.length && ((match i.zero with | some (.agg cs) => zeroLB zs cs.toList | _ => false) && fieldsB P 0 fields.toList))
  | _, _ => false
def tyOkB (P : Program) (tab : List (Nat × TyI)) : Bool :=
  tab.all fun p => match p.2.k with
    | .sc z => scOkB P p.1 (lkT tab p.1).elem z
    | .ag zs => agOkB P p.1 zs
    | .no => true

theorem isFull_eq {g : Tag} (h : isFull g = true) : g = .iv 0 0 true .full := by
  unfold isFull at h
  split at h
  · simp only [Bool.and_eq_true, beq_iff_eq] at h
    obtain ⟨rfl, rfl, rfl⟩ := h
    rfl
  · cases h
theorem elemB_agg {P : Program} {e sz : Nat} (h : elemB P e sz true = true) : ∃ j, P.info? e = some j ∧ j.size = sz ∧ j.bytes ≤ 64 ∧ ∃ zs, j.zero = some (.agg zs) ∧ zs.size = 3 := by
  unfold elemB at h
  split at h
  · rename_i j hj
    simp only [Bool.and_eq_true, beq_iff_eq, decide_eq_true_eq] at h
    obtain ⟨h1, h2, h3⟩ := h
    refine ⟨j, hj, h1, h2, ?_⟩
    split at h3 <;> simp_all
  · cases h
theorem elemB_one {P : Program} {e sz : Nat} (h : elemB P e sz false = true) : ∃ j, P.info? e = some j ∧ j.size = sz ∧ j.bytes ≤ 64 ∧ ∃ z, j.zero = some z ∧ z.cells.size = 1 := by
  unfold elemB at h
  split at h
  · rename_i j hj
    simp only [Bool.and_eq_true, beq_iff_eq, decide_eq_true_eq] at h
    obtain ⟨h1, h2, h3⟩ := h
    refine ⟨j, hj, h1, h2, ?_⟩
    split at h3
    · rename_i e _; cases e
    · rename_i k n hz; exact ⟨_, hz, rfl⟩
    · rename_i s hz; exact ⟨_, hz, rfl⟩
    · cases h3
  · cases h
theorem bytes_empty {s : ByteArray} (h : s.size = 0) : s = ⟨([] : List UInt8).toArray⟩ := by
  cases s with
  | mk d => simp [ByteArray.size] at h; simp [h]
theorem scOk_of {P : Program} {tab : List (Nat × TyI)} {t : Nat} {z : AV} (h : scOkB P t (lkT tab t).elem z = true) : ScOk P (lkT tab) t z := by
  unfold scOkB at h
  split at h
  case h_2 => cases h
  rename_i d i hd hi
  simp only [Bool.and_eq_true, beq_iff_eq] at h
  obtain ⟨h1, h2, h3⟩ := h
  split at h3
  case h_2 => cases h3
  rename_i zv hz
  unfold scB at h3
  split at h3
  · simp only [Bool.and_eq_true, beq_iff_eq, ikEq_iff] at h3
    obtain ⟨rfl, rfl, rfl⟩ := h3
    exact ⟨_, i, _, hd, h1, hi, h2, hz, rfl, rfl, rfl⟩
  · simp only [beq_iff_eq] at h3
    subst h3
    exact ⟨_, i, _, hd, h1, hi, h2, hz, rfl, rfl, rfl⟩
  · simp only [Bool.and_eq_true, beq_iff_eq, List.isEmpty_iff] at h3
    obtain ⟨rfl, h3⟩ := h3
    exact ⟨_, i, _, hd, h1, hi, h2, hz, rfl, rfl, by rw [bytes_empty h3]⟩
  · simp only [Bool.and_eq_true, beq_iff_eq, List.isEmpty_iff] at h3
    obtain ⟨rfl, rfl, h4, h5⟩ := h3
    exact ⟨_, i, _, hd, h1, hi, h2, hz, rfl, rfl, rfl, rfl, isFull_eq h4, elemB_agg h5⟩
  · simp only [Bool.and_eq_true, beq_iff_eq, List.isEmpty_iff] at h3
    obtain ⟨rfl, rfl, h4, h5, h6⟩ := h3
    refine ⟨_, i, _, hd, h1, hi, h2, hz, rfl, rfl, rfl, rfl, isFull_eq h4, ?_, elemB_one h6⟩
    split at h5
    · rename_i k' hk; rw [ikEq_iff] at h5; rw [h5]; exact hk
    · cases h5
  · simp only [Bool.and_eq_true, beq_iff_eq, List.isEmpty_iff] at h3
    obtain ⟨rfl, rfl, h4⟩ := h3
    exact ⟨_, i, _, hd, h1, hi, h2, hz, rfl, rfl, rfl, rfl, elemB_one h4⟩
  · exact ⟨_, i, _, hd, h1, hi, h2, hz, rfl, ⟨_, rfl⟩, rfl⟩
  · exact ⟨_, i, _, hd, h1, hi, h2, hz, rfl, trivial⟩
  · exact ⟨_, i, _, hd, h1, hi, h2, hz, rfl, trivial⟩
  · simp at h3
theorem zeroF_of {z : AV} {v : Value} (h : zeroFB z v = true) : ZeroF z v := by
  unfold zeroFB at h
  split at h
  · simp only [Bool.and_eq_true, beq_iff_eq, ikEq_iff] at h
    obtain ⟨rfl, rfl⟩ := h; rfl
  · simp only [beq_iff_eq] at h
    subst h; rfl
  · simp only [Bool.and_eq_true, List.isEmpty_iff] at h
    exact ⟨h.1, isFull_eq h.2, rfl⟩
  · simp only [Bool.and_eq_true, List.isEmpty_iff] at h
    exact ⟨h.1, isFull_eq h.2, rfl⟩
  · trivial
  · cases h
theorem zeroL_of : ∀ {zs : List AV} {vs : List Value}, zeroLB zs vs = true → All2 ZeroF zs vs
  | [], [], _ => trivial
  | [], _ :: _, h => by cases h
  | _ :: _, [], h => by cases h
  | z :: zs, v :: vs, h => by
    simp only [zeroLB, Bool.and_eq_true] at h
    exact ⟨zeroF_of h.1, zeroL_of h.2⟩
theorem fields_of {P : Program} : ∀ {fs : List Field} {k : Nat}, fieldsB P k fs = true → ∀ (j : Nat) (f : Field), fs[j]? = some f → f.offset = k + j ∧ ∃ q, P.info? f.type = some q ∧ q.size = 1
  | [], _, _, j, f, hf => by simp at hf
  | g :: fs, k, h, j, f, hf => by
    simp only [fieldsB, Bool.and_eq_true, beq_iff_eq] at h
    obtain ⟨h1, h2, h3⟩ := h
    cases j with
    | zero =>
      simp at hf
      subst hf
      refine ⟨h1, ?_⟩
      split at h2
      · rename_i q hq; exact ⟨q, hq, by simpa using h2⟩
      · cases h2
    | succ j =>
      have := fields_of h3 j f (by simpa using hf)
      exact ⟨by omega, this.2⟩
theorem agOk_of {P : Program} {t : Nat} {zs : List AV} (h : agOkB P t zs = true) : AgOk P t zs := by
  unfold agOkB at h
  split at h
  case h_2 => cases h
  rename_i fields i hd hi
  simp only [Bool.and_eq_true, beq_iff_eq] at h
  obtain ⟨h1, h2, h3, h4⟩ := h
  split at h3
  case h_2 => cases h3
  rename_i cs hz
  refine ⟨fields, i, cs, hd, by simpa using h1, hi, h2, hz, zeroL_of h3, fun j f hf => ?_⟩
  have := fields_of h4 j f (by simpa using hf)
  exact ⟨by omega, this.2⟩
theorem lkT_mem : ∀ {tab : List (Nat × TyI)} {t : Nat}, (lkT tab t).k = .no ∨ (t, lkT tab t) ∈ tab
  | [], t => .inl rfl
  | (i, v) :: r, t => by
    simp only [lkT]
    cases hb : Nat.beq t i with
    | true => have e : t = i := Nat.eq_of_beq_eq_true hb; subst e; exact .inr (by simp)
    | false =>
      rcases lkT_mem (tab := r) (t := t) with h | h
      · exact .inl h
      · exact .inr (by simp [h])
/-- The functions that mark. -/
@[reducible] def lkM : List (Nat × Nat) → Nat → Nat
  | [], _ => 0
  | (i, v) :: r, j => match Nat.beq j i with | true => v | false => lkM r j
@[reducible] def withM (t : TyI) (m : Nat) : TyI := match t with | ⟨k, e, _⟩ => ⟨k, e, m⟩
@[reducible] def tyM (tab : List (Nat × TyI)) (mt : List (Nat × Nat)) : Nat → TyI := fun j => withM (lkT tab j) (lkM mt j)
theorem withM_k (t : TyI) (m : Nat) : (withM t m).k = t.k ∧ (withM t m).elem = t.elem ∧ (withM t m).mark = m := ⟨rfl, rfl, rfl⟩
theorem lkM_ok {P : Program} : ∀ {mt : List (Nat × Nat)}, (∀ p ∈ mt, MarkOk P p.1 p.2) → ∀ f, MarkOk P f (lkM mt f)
  | [], _, _ => MarkOk.none
  | (i, v) :: r, h, f => by
    simp only [lkM]
    cases hb : Nat.beq f i with
    | true => have e : f = i := Nat.eq_of_beq_eq_true hb; subst e; exact h (f, v) (by simp)
    | false => exact lkM_ok (fun p hp => h p (by simp [hp])) f
theorem tyOk_of {P : Program} {tab : List (Nat × TyI)} {mt : List (Nat × Nat)} (h : tyOkB P tab = true) (hm : ∀ p ∈ mt, MarkOk P p.1 p.2) : TyOk P (tyM tab mt) := by
  refine ⟨fun t => ?_, fun f => by show MarkOk P f (lkM mt f); exact lkM_ok hm f⟩
  show (match (lkT tab t).k with
    | .sc z => ScOk P (tyM tab mt) t z
    | .ag zs => AgOk P t zs
    | .no => True)
  rcases lkT_mem (tab := tab) (t := t) with hn | hm
  · rw [hn]; trivial
  · have := List.all_eq_true.1 h _ hm
    cases hk : (lkT tab t).k with
    | no => trivial
    | sc z =>
      simp only [hk] at this
      have := scOk_of this
      cases z <;> exact this
    | ag zs => simp only [hk] at this; exact agOk_of this
end Go.Dk
