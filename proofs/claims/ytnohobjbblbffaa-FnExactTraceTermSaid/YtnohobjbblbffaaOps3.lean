/- Variables made, elements, numbers, strings, closures. -/
import Derived.Test.YtnohobjbblbffaaWrite2
import Derived.IntWalk
namespace Go.Dk
section
variable {P : Program} {C : Fr} {n : Nat} {γ : Gh} {s : AS} {a : Act} {w : World} {TY : Nat → TyI} {G : List (Nat × Con)} {dr : Bool} {o : Oper} {K : AV → AS → Prop}

theorem slc_nil {now : Nat} : RelE C γ now w (.slc [] (.iv 0 0 true .full)) (.slice none 0 0) :=
  ⟨none, 0, [], rfl, Nat.le_refl _, .inl ⟨rfl, rfl⟩, RtOk.nil, rfl⟩
theorem ints_nil {now : Nat} {k : IntKind} : RelE C γ now w (.ints k [] (.iv 0 0 true .full)) (.slice none 0 0) :=
  ⟨none, 0, [], rfl, Nat.le_refl _, .inl ⟨rfl, rfl⟩, RtOk.nil, rfl⟩
theorem zeroF_rel {now : Nat} {z : AV} {v : Value} (h : ZeroF z v) : RelS C γ now w z v := by
  cases z <;> simp only [ZeroF] at h <;> first | exact h.elim | exact h | trivial | skip
  · obtain ⟨rfl, rfl, rfl⟩ := h; exact slc_nil
  · obtain ⟨rfl, rfl, rfl⟩ := h; exact ints_nil (now := now)
theorem zeroF_cl {z : AV} {v : Value} (h : ZeroF z v) (kt kp : Nat → Bool) : z.cl1 kt kp = z := by
  cases z <;> simp only [ZeroF] at h <;> first | exact h.elim | rfl | (obtain ⟨_, rfl, _⟩ := h; rfl)
theorem zeroFL {now : Nat} : ∀ {zs : List AV} {cs : List Value}, All2 ZeroF zs cs → All2 (RelS C γ now w) zs cs
  | [], [], _ => trivial
  | _ :: _, _ :: _, ⟨h, r⟩ => ⟨zeroF_rel h, zeroFL r⟩
theorem zeroFL_cl {kt kp : Nat → Bool} : ∀ {zs : List AV} {cs : List Value}, All2 ZeroF zs cs → cl1L kt kp zs = zs
  | [], [], _ => rfl
  | _ :: _, _ :: _, ⟨h, r⟩ => by simp only [cl1L, zeroF_cl h, zeroFL_cl r]

theorem zero_ok (hT : TyOk P TY) {ty now : Nat} (hk : (TY ty).k ≠ .no) :
    ∃ zv cs, (zeroValue ty).run P w = .ok zv w ∧ zv.cells = cs.toArray ∧ FlatR C γ now w (zero (TY ty).k) cs ∧ ∀ kt kp, (zero (TY ty).k).cl kt kp = zero (TY ty).k := by
  have h := hT.ty ty
  cases hq : (TY ty).k with
  | no => exact absurd hq hk
  | sc z =>
    rw [hq] at h
    obtain ⟨d, i, zv, h1, hn, h3, h4, h5, h6, h7⟩ := h
    refine ⟨zv, [zv], by simp [zeroValue, typeInfo, h3, h5], by rw [h6], ?_⟩
    simp only [zero]
    cases z <;> first | exact h7.elim | skip
    case top => exact ⟨⟨zv, rfl, trivial⟩, fun _ _ => rfl⟩
    case int k m => obtain ⟨_, rfl⟩ := h7; exact ⟨⟨_, rfl, rfl⟩, fun _ _ => rfl⟩
    case bool b => obtain ⟨_, rfl⟩ := h7; exact ⟨⟨_, rfl, rfl⟩, fun _ _ => rfl⟩
    case str l => obtain ⟨_, rfl⟩ := h7; exact ⟨⟨_, rfl, rfl⟩, fun _ _ => rfl⟩
    case slc ts g => obtain ⟨_, rfl, rfl, rfl, _⟩ := h7; exact ⟨⟨_, rfl, slc_nil⟩, fun _ _ => rfl⟩
    case ints k ns g => obtain ⟨_, rfl, rfl, rfl, _⟩ := h7; exact ⟨⟨_, rfl, ints_nil (now := now)⟩, fun _ _ => rfl⟩
    case strs ss => obtain ⟨_, rfl, rfl, _⟩ := h7; exact ⟨⟨_, rfl, ⟨none, 0, rfl, Nat.le_refl _, .inl rfl⟩⟩, fun _ _ => rfl⟩
    case nili => obtain ⟨_, rfl⟩ := h7; exact ⟨⟨_, rfl, rfl⟩, fun _ _ => rfl⟩
  | ag zs =>
    rw [hq] at h
    obtain ⟨fields, i, cs, h1, h3, h4, h5, h6, h7, _⟩ := h
    refine ⟨.agg cs, cs.toList, by simp [zeroValue, typeInfo, h4, h6], by simp [Value.cells], zeroFL h7, fun kt kp => ?_⟩
    simp only [zero, AV.cl, zeroFL_cl h7]

theorem alloc_ok (hT : TyOk P TY) (R : Rel C n γ s a w) {ty : Nat} (ho : o.op = .alloc ty) (h : aop G TY dr s o K) : OpOk P C n a w o K := by
  simp only [aop, ho] at h
  split at h
  case h_1 => exact h.elim
  case h_3 => exact h.elim
  rename_i kk d hd hne
  obtain ⟨zv, cs, h1, h2, h3, h4⟩ := zero_ok (P := P) (C := C) (γ := γ) (w := w) (ty := ty) (now := s.now) hT hne
  obtain ⟨γ', g1, g2⟩ := R.newVar d ty h3
  rw [h4] at g1
  exact ⟨_, _, _, _, _, γ', by simp [execOp, ho, Instr.alloc, h1, newVar, newRow, h2], .inl rfl, h, g1, g2⟩

theorem box_cells {now : Nat} {u : AV} {v : Value} (hf : flat2 u = true) (h : Rel3 C γ now w u v) : ∃ cs, v.cells = cs.toArray ∧ FlatR C γ now w u cs := by
  by_cases hu : ∃ fs, u = .st fs
  · obtain ⟨fs, rfl⟩ := hu
    obtain ⟨cs, rfl, h1⟩ := h
    exact ⟨cs, rfl, h1⟩
  · have hf : flat u = true := by
      cases u <;> first | exact hf | exact absurd ⟨_, rfl⟩ hu
    rw [rel3_flat hf] at h
    exact ⟨[v], by rw [(flat_cells hf h).1], by rw [flatR_flat hf]; exact ⟨v, rfl, h⟩⟩
theorem box_ok (R : Rel C n γ s a w) {ty : Nat} {x : Operand} (ho : o.op = .box ty x) (h : aop G TY dr s o K) : OpOk P C n a w o K := by
  simp only [aop, ho] at h
  split at h
  case h_2 => exact h.elim
  rename_i d hd
  split at h
  case h_2 => exact h.elim
  rename_i hf
  obtain ⟨cs, h1, h2⟩ := box_cells hf (R.get x)
  obtain ⟨γ', g1, g2⟩ := R.newVar d ty h2
  exact ⟨_, _, _, _, _, γ', by simp [execOp, ho, Instr.box, newVar, newRow, h1], .inl rfl, h, g1, g2⟩

theorem field_run (hT : TyOk P TY) {ty : Nat} {zs : List AV} (hk : (TY ty).k = .ag zs) {j b off : Nat} (hj : j < zs.length) :
    (Instr.fieldAt ty (.pointer (some ⟨b, off, none⟩)) j).run P w = .ok (.pointer (some ⟨b, off + j, none⟩)) w := by
  have h := hT.ty ty
  rw [hk] at h
  obtain ⟨fields, i, cs, h1, h3, h4, h5, h6, h7, h8⟩ := h
  have hj' : j < fields.size := by omega
  obtain ⟨e1, q, e2, e3⟩ := h8 j fields[j] (Array.getElem?_eq_getElem hj')
  simp [Instr.fieldAt, run_underlying h1, hj', Instr.sureAddr, fieldPlace, sizeOf, typeInfo, e1, e2, e3, Addr.add_lit]
theorem fieldAddr_ok (hT : TyOk P TY) (R : Rel C n γ s a w) {ty : Nat} {x : Operand} {j : Nat} (ho : o.op = .fieldAddr ty x j) (h : aop G TY dr s o K) : OpOk P C n a w o K := by
  simp only [aop, ho] at h
  split at h
  case h_2 => exact h.elim
  rename_i zs hk
  have hx := R.get x
  revert h
  generalize s.get x = p at hx
  intro h
  split at h
  case h_4 => exact h.elim
  case h_1 hj =>
    have hj : j < zs.length := by simpa [Nat.blt_eq] using hj
    have hx : a.eval x = _ := hx
    exact .pure R h (v := .pointer (some ⟨γ.loc _, j, none⟩)) rfl (by simp [execOp, ho, hx, field_run hT hk hj])
  case h_2 hj =>
    have hj : j < zs.length := by simpa [Nat.blt_eq] using hj
    have hx : a.eval x = _ := hx
    exact .pure R h (v := .pointer (some ⟨C.floc _, j, none⟩)) rfl (by simp [execOp, ho, hx, field_run hT hk hj])
  case h_3 ts g i hj =>
    have hj : j < zs.length := by simpa [Nat.blt_eq] using hj
    split at h
    case h_2 => exact h.elim
    rename_i hl
    have hl : zs.length = 3 := by simpa using hl
    obtain ⟨b, off, len, cap, k1, k2, k3⟩ := hx
    exact .pure R h (v := .pointer (some ⟨b, off + i * 3 + 0 + j, none⟩)) ⟨b, off, len, cap, k1, k2, rfl⟩ (by simp [execOp, ho, k3, field_run hT hk hj])

theorem index_run {ty e : Nat} {i : TypeInfo} (h1 : P.underlying ty = some (.slice e)) (h2 : P.info? e = some i) {b off len cap : Nat} {k : IntKind} {m : Int} (hm : 0 ≤ m ∧ m < len) :
    (Instr.indexAt ty (.slice (some ⟨b, off, none⟩) len cap) (.int k m)).run P w = .ok (.pointer (some ⟨b, off + m.toNat * i.size, none⟩)) w := by
  simp [Instr.indexAt, asIntOf, run_underlying h1, hm, sizeOf, typeInfo, h2, Addr.add_lit]
theorem indexAddr_ok (hT : TyOk P TY) (R : Rel C n γ s a w) {ty : Nat} {x y : Operand} (ho : o.op = .indexAddr ty x y) (h : aop G TY dr s o K) : OpOk P C n a w o K := by
  simp only [aop, ho, indexA] at h
  have hx := R.get x
  have hy := R.get y
  revert h
  generalize s.get x = p at hx
  generalize s.get y = q at hy
  intro h
  have hty := hT.ty ty
  split at h
  case h_4 => exact h.elim
  case h_1 ts0 g0 ts g k m hk =>
    rw [hk] at hty
    obtain ⟨d, i, zv, t1, _, _, _, _, _, rfl, _, _, _, j, t2, t3, _⟩ := hty
    obtain ⟨⟨m0, m1⟩, hK⟩ := h
    have hy : a.eval y = .int k m := hy
    have hx0 := hx
    obtain ⟨b0, cap, fp, hv, hc, he, ht⟩ := hx
    rcases he with ⟨rfl, _⟩ | ⟨b, off, fp', hne, rfl, rfl, harr⟩
    · simp at m1; omega
    · refine .pure R hK (v := .pointer (some ⟨b, off + m.toNat * 3 + 0, none⟩)) ⟨b, off, ts.length, cap, ?_, by omega, rfl⟩ ?_
      · rw [hv] at hx0; exact hx0
      · simp [execOp, ho, hv, hy, index_run t1 t2 ⟨m0, m1⟩, t3]
  case h_2 k0 ns0 g0 k' ns g k m hk =>
    rw [hk] at hty
    obtain ⟨d, i, zv, t1, _, _, _, _, _, rfl, _, _, _, _, j, t2, t3, _⟩ := hty
    obtain ⟨⟨m0, m1⟩, hK⟩ := h
    have hy : a.eval y = .int k m := hy
    have hx0 := hx
    obtain ⟨b0, cap, fp, hv, hc, he, ht⟩ := hx
    rcases he with ⟨rfl, _⟩ | ⟨b, off, hne, rfl, rfl, harr⟩
    · simp at m1; omega
    · refine .pure R hK (v := .pointer (some ⟨b, off + m.toNat * 1 + 0, none⟩)) ⟨b, off, ns.length, cap, ?_, by omega, rfl⟩ ?_
      · rw [hv] at hx0; exact hx0
      · simp [execOp, ho, hv, hy, index_run t1 t2 ⟨m0, m1⟩, t3]
  case h_3 ss0 ss k m hk =>
    rw [hk] at hty
    obtain ⟨d, i, zv, t1, _, _, _, _, _, rfl, _, _, j, t2, t3, _⟩ := hty
    obtain ⟨⟨m0, m1⟩, hK⟩ := h
    have hy : a.eval y = .int k m := hy
    obtain ⟨b0, cap, hv, hc, he⟩ := hx
    rcases he with rfl | ⟨b, off, rfl, harr⟩
    · simp at m1; omega
    · obtain ⟨c1, c2⟩ := harr m.toNat (by omega)
      refine .pure R hK (v := .pointer (some ⟨b, off + m.toNat, none⟩)) ⟨⟨_, rfl⟩, b, _, _, rfl, c1, c2, rfl⟩ ?_
      · simp [execOp, ho, hv, hy, index_run t1 t2 ⟨m0, m1⟩, t3]

theorem str_get (l : List UInt8) (i : Nat) (h : i < l.length) (hb : i < (ByteArray.mk l.toArray).size) : (ByteArray.mk l.toArray)[i]'hb = l.getD i 0 := by
  show (l.toArray)[i]'_ = _
  simp [List.getD_eq_getElem?_getD, List.getElem?_eq_getElem h]
theorem index_ok (hT : TyOk P TY) (R : Rel C n γ s a w) {ty : Nat} {x y : Operand} (ho : o.op = .index ty x y) (h : aop G TY dr s o K) : OpOk P C n a w o K := by
  simp only [aop, ho] at h
  have hx := R.get x
  have hy := R.get y
  revert h
  generalize s.get x = p at hx
  generalize s.get y = q at hy
  intro h
  have hty := hT.ty ty
  split at h
  case h_2 => exact h.elim
  case h_1 l0 l k m hk =>
    rw [hk] at hty
    obtain ⟨d, i, zv, t1, _, _, _, _, _, rfl, _⟩ := hty
    obtain ⟨⟨m0, m1⟩, hK⟩ := h
    have hx : a.eval x = .string ⟨l.toArray⟩ := hx
    have hy : a.eval y = .int k m := hy
    refine .pure R hK (v := .int .u8 (l.getD m.toNat 0).toNat) rfl ?_
    have hsz : m < (ByteArray.mk l.toArray).size := by show m < l.toArray.size; simpa using m1
    have := run_index_string (P := P) w ty ⟨l.toArray⟩ k m t1
    rw [dif_pos ⟨m0, hsz⟩, str_get l m.toNat (by omega)] at this
    simp [execOp, ho, hx, hy, this]

theorem nilCheck_ok (R : Rel C n γ s a w) {x : Operand} (ho : o.op = .nilCheck x) (h : aop G TY dr s o K) : OpOk P C n a w o K := by
  simp only [aop, ho] at h
  have hx := R.get x
  revert h
  generalize s.get x = p at hx
  intro h
  split at h
  case h_10 => exact h.elim
  case h_1 => have hv : a.eval x = _ := hx; exact .pure R h (hv ▸ hx) (by simp [execOp, ho, hv])
  case h_2 => have hv : a.eval x = _ := hx; exact .pure R h (hv ▸ hx) (by simp [execOp, ho, hv])
  case h_3 => obtain ⟨_, b, off, _, hv, _⟩ := id hx; exact .pure R h (hv ▸ hx) (by simp [execOp, ho, hv])
  case h_4 => obtain ⟨b, off, _, _, _, _, hv⟩ := id hx; exact .pure R h (hv ▸ hx) (by simp [execOp, ho, hv])
  case h_5 => obtain ⟨b, off, _, _, _, _, hv⟩ := id hx; exact .pure R h (hv ▸ hx) (by simp [execOp, ho, hv])
  case h_6 => obtain ⟨b, off, _, _, _, _, hv⟩ := id hx; exact .pure R h (hv ▸ hx) (by simp [execOp, ho, hv])
  case h_7 => have hv : a.eval x = _ := hx; exact .pure R h (hv ▸ hx) (by simp [execOp, ho, hv])
  case h_8 => have hv : a.eval x = _ := hx; exact .pure R h (hv ▸ hx) (by simp [execOp, ho, hv])
  case h_9 => obtain ⟨vs, hv, _⟩ := id hx; exact .pure R h (hv ▸ hx) (by simp [execOp, ho, hv])
end
end Go.Dk
