/- Structs, literals, lengths, parts of strings. -/
import Derived.Test.YteamklllllembaaDoorOps4
namespace Go.Dk
section
variable {P : Program} {C : Fr} {n : Nat} {γ : Gh} {s : AS} {a : Act} {w : World} {TY : Nat → TyI} {G : List (Nat × Con)} {dr : Bool} {o : Oper} {K : AV → AS → Prop}

theorem len_ok (hT : TyOk P TY) (R : Rel C n γ s a w) {c : Call} {t : Nat} {x : Operand} (ho : o.op = .call c) (hc : c.callee = .builtin .len) (ha : c.argTypes = #[t]) (hargs : c.args = #[x])
    (h : len (TY t).k (s.get x) fun v => K v s) : OpOk P C n a w o K := by
  have hx := R.get x
  revert h
  generalize s.get x = p at hx
  intro h
  have fin : ∀ {m : Nat}, K (.int .i64 m) s → (Builtin.len_ #[t] o.type #[a.eval x]).run P w = .ok (.int .i64 m) w → OpOk P C n a w o K := by
    intro m hK hr
    exact .pure R hK (v := .int .i64 m) rfl (by simp [execOp, ho, resolve, hc, ha, hargs, invoke, builtin, hr])
  unfold Dk.len at h
  split at h
  case h_5 => exact h.elim
  case h_1 hk =>
    obtain ⟨b, cap, fp, hv, _⟩ := hx
    exact fin h (by rw [hv]; simp [Builtin.len_, run_underlying (ty_slc hT hk).1, goInt])
  case h_2 hk =>
    obtain ⟨b, cap, _, hv, _⟩ := hx
    exact fin h (by rw [hv]; simp [Builtin.len_, run_underlying (ty_ints hT hk).1, goInt])
  case h_3 hk =>
    obtain ⟨b, cap, hv, _⟩ := hx
    exact fin h (by rw [hv]; simp [Builtin.len_, run_underlying (ty_strs hT hk).1, goInt])
  case h_4 l hk =>
    have hv : a.eval x = .string ⟨l.toArray⟩ := hx
    exact fin h (by rw [hv]; simp [Builtin.len_, run_underlying (ty_str hT hk), goInt]; rfl)

theorem max_ok (R : Rel C n γ s a w) {c : Call} {x y : Operand} (ho : o.op = .call c) (hc : c.callee = .builtin .max) (hargs : c.args = #[x, y])
    {p q : Int} (hx : s.get x = .int .i64 p) (hy : s.get y = .int .i64 q) (h : K (.int .i64 (max p q)) s) : OpOk P C n a w o K := by
  have hx := rel_int (R.get x) hx
  have hy := rel_int (R.get y) hy
  refine .pure R h (v := .int .i64 (max p q)) rfl ?_
  have e : (if q > p then q else p) = max p q := by rw [Int.max_def]; split <;> split <;> omega
  simp [execOp, ho, resolve, hc, hargs, invoke, builtin, hx, hy, Builtin.max_, Builtin.max2, ← e]

theorem drop_eq {l : List UInt8} {k : Nat} : (ByteArray.mk l.toArray).extract k (ByteArray.mk l.toArray).size = ⟨(l.drop k).toArray⟩ := by
  rw [ByteArray.extract_mk]
  congr 2
  show (l.drop k).take (l.toArray.size - k) = _
  rw [List.take_of_length_le (by simp)]
theorem slice_str_ok (hT : TyOk P TY) (R : Rel C n γ s a w) {ty : Nat} {x : Operand} {lo hi : Option Operand} (ho : o.op = .slice ty x lo hi none) {l0 l : List UInt8} (hk : (TY ty).k = .sc (.str l0)) (hx : s.get x = .str l) {p : Int} (hlo : lowOf s lo = some p)
    (h : (match hi with
        | none => (0 ≤ p ∧ p ≤ l.length) ∧ K (.str (l.drop p.toNat)) s
        | some y => (match s.get y with
          | .int _ b => (0 ≤ p ∧ p ≤ b ∧ b ≤ l.length) ∧ K (.str ((l.drop p.toNat).take (b.toNat - p.toNat))) s
          | _ => False))) : OpOk P C n a w o K := by
  have ht := ty_str hT hk
  have hx := rel_str (R.get x) hx
  have hsz : (ByteArray.mk l.toArray).size = l.length := by show l.toArray.size = _; simp
  have hlo' : (lo = none ∧ p = 0) ∨ ∃ y k, lo = some y ∧ a.eval y = .int k p := by
    cases lo with
    | none => simp [lowOf] at hlo; exact .inl ⟨rfl, hlo.symm⟩
    | some y =>
      simp only [lowOf] at hlo
      split at hlo
      case h_2 => cases hlo
      rename_i k m hm
      cases hlo
      exact .inr ⟨y, k, rfl, rel_int (R.get y) hm⟩
  have hsl : ∀ lo' hi', Instr.sliceAt ty (.string ⟨l.toArray⟩) lo' hi' none = Instr.sliceAt ty (.string ⟨l.toArray⟩) lo' hi' none := fun _ _ => rfl
  cases hi with
  | none =>
    obtain ⟨⟨p0, p1⟩, hK⟩ := h
    refine .pure R hK (v := .string ⟨(l.drop p.toNat).toArray⟩) rfl ?_
    have e := drop_eq (l := l) (k := p.toNat)
    rw [hsz] at e
    rcases hlo' with ⟨rfl, rfl⟩ | ⟨y, k, rfl, hy⟩
    · simp [execOp, ho, hx, Instr.sliceAt, run_underlying ht, Instr.slice, Instr.sliceBounds] at e ⊢
    · simp [execOp, ho, hx, hy, Instr.sliceAt, run_underlying ht, Instr.slice, Instr.sliceBounds, Instr.sliceBound, asIntOf, hsz, p0, p1, e]
  | some z =>
    simp only at h
    split at h
    case h_2 => exact h.elim
    rename_i k' b hz
    have hz := rel_int (R.get z) hz
    obtain ⟨⟨p0, p1, p2⟩, hK⟩ := h
    refine .pure R hK (v := .string ⟨((l.drop p.toNat).take (b.toNat - p.toNat)).toArray⟩) rfl ?_
    have e := ByteArray.extract_mk l p.toNat b.toNat
    have b0 : 0 ≤ b := by omega
    have eb : (b.toNat : Int) = b := Int.toNat_of_nonneg b0
    rcases hlo' with ⟨rfl, rfl⟩ | ⟨y, k, rfl, hy⟩
    · simp [execOp, ho, hx, hz, Instr.sliceAt, run_underlying ht, Instr.slice, Instr.sliceBounds, Instr.sliceBound, asIntOf, hsz, b0, p2] at e ⊢
      exact e
    · simp [execOp, ho, hx, hy, hz, Instr.sliceAt, run_underlying ht, Instr.slice, Instr.sliceBounds, Instr.sliceBound, asIntOf, hsz, p0, b0, p2, eb, p1, e]

theorem slice_ints_ok (hT : TyOk P TY) (R : Rel C n γ s a w) {ty : Nat} {x : Operand} {lo hi : Option Operand} (ho : o.op = .slice ty x lo hi none) {k0 kk : IntKind} {ns0 l : List Int} {g0 g : Tag} (hk : (TY ty).k = .sc (.ints k0 ns0 g0)) (hx : s.get x = .ints kk l g) {p : Int} (hlo : lowOf s lo = some p)
    (h : (match hi with
        | none => (0 ≤ p ∧ p ≤ l.length) ∧ K (.ints kk (l.drop p.toNat) g.part) s
        | some y => (match s.get y with
          | .int _ b => (0 ≤ p ∧ p ≤ b ∧ b ≤ l.length) ∧ K (.ints kk ((l.drop p.toNat).take (b.toNat - p.toNat)) g.part) s
          | _ => False))) : OpOk P C n a w o K := by
  obtain ⟨ht, _, q, hq, hq1, _⟩ := ty_ints hT hk
  have hx3 := R.get x
  rw [hx] at hx3
  obtain ⟨ba, cap, fp, hx, hcap, hin, htag⟩ := hx3
  have hlo' : (lo = none ∧ p = 0) ∨ ∃ y k, lo = some y ∧ a.eval y = .int k p := by
    cases lo with
    | none => simp [lowOf] at hlo; exact .inl ⟨rfl, hlo.symm⟩
    | some y =>
      simp only [lowOf] at hlo
      split at hlo
      case h_2 => cases hlo
      rename_i k m hm
      cases hlo
      exact .inr ⟨y, k, rfl, rel_int (R.get y) hm⟩
  -- what the slice is
  have key : ∀ (lo' hi' : Nat), lo' ≤ hi' → hi' ≤ l.length → Rel3 C γ s.now w (.ints kk ((l.drop lo').take (hi' - lo')) g.part) (.slice (if cap = lo' then ba else ba.map (·.add (lo' * 1))) (hi' - lo') (cap - lo')) := by
    intro lo' hi' h1 h2
    have hlen : ((l.drop lo').take (hi' - lo')).length = hi' - lo' := by simp; omega
    by_cases he : (l.drop lo').take (hi' - lo') = []
    · refine ⟨_, cap - lo', [], by rw [hlen], by rw [hlen]; omega, .inl ⟨he, rfl⟩, ?_⟩
      cases g <;> first | trivial | exact ⟨RtOk.nil, trivial⟩
    · have hpos : lo' < hi' := by
        apply Nat.lt_of_not_le; intro hle; apply he; rw [Nat.sub_eq_zero_of_le hle]; simp
      rcases hin with ⟨rfl, _⟩ | ⟨b, off, _, rfl, rfl, hc⟩
      · simp at h2; omega
      · refine ⟨_, cap - lo', [b], by rw [hlen], by rw [hlen]; omega, .inr ⟨b, off + lo', he, by rw [if_neg (by omega)]; simp [Addr.add_lit], rfl, fun j hj => ?_⟩, ?_⟩
        case refine_2 =>
          cases g with
          | any => trivial
          | el => trivial
          | iv r m nd o => exact ⟨htag.1, trivial⟩
          | arg i => exact ⟨ElOk.rt ⟨htag.2, nofun⟩, trivial⟩
        rw [hlen] at hj
        obtain ⟨c1, c2⟩ := hc (lo' + j) (by omega)
        refine ⟨?_, by omega⟩
        rw [show off + lo' + j = off + (lo' + j) by omega, c1]
        simp [List.getD_eq_getElem?_getD, hj, List.getElem?_drop]
  have szq : ∀ w : World, (sizeOf (TY ty).elem).run P w = .ok 1 w := fun w => by simp [sizeOf, typeInfo, hq, hq1]
  cases hi with
  | none =>
    obtain ⟨⟨p0, p1⟩, hK⟩ := h
    have hr := key p.toNat l.length (by omega) (Nat.le_refl _)
    have e : (l.drop p.toNat).take (l.length - p.toNat) = l.drop p.toNat := List.take_of_length_le (by simp)
    rw [e] at hr
    refine .pure R hK hr ?_
    rcases hlo' with ⟨rfl, rfl⟩ | ⟨y, k, rfl, hy⟩
    · simp [execOp, ho, hx, Instr.sliceAt, run_underlying ht, Instr.slice, Instr.sliceBounds, szq]
    · simp [execOp, ho, hx, hy, Instr.sliceAt, run_underlying ht, Instr.slice, Instr.sliceBounds, Instr.sliceBound, asIntOf, p0, p1, szq, eq_comm]
  | some z =>
    simp only at h
    split at h
    case h_2 => exact h.elim
    rename_i k' b hz
    have hz := rel_int (R.get z) hz
    obtain ⟨⟨p0, p1, p2⟩, hK⟩ := h
    have hr := key p.toNat b.toNat (by omega) (by omega)
    refine .pure R hK hr ?_
    have b0 : 0 ≤ b := by omega
    have eb : (b.toNat : Int) = b := Int.toNat_of_nonneg b0
    have b1 : b ≤ (cap : Int) := by omega
    rcases hlo' with ⟨rfl, rfl⟩ | ⟨y, k, rfl, hy⟩
    · simp [execOp, ho, hx, hz, Instr.sliceAt, run_underlying ht, Instr.slice, Instr.sliceBounds, Instr.sliceBound, asIntOf, b0, b1, szq]
    · simp [execOp, ho, hx, hy, hz, Instr.sliceAt, run_underlying ht, Instr.slice, Instr.sliceBounds, Instr.sliceBound, asIntOf, p0, b0, b1, eb, p1, szq, eq_comm]
end
end Go.Dk
