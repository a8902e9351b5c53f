/- Variables made, elements, numbers, strings, closures. -/
import Derived.Test.YtlfddfmoifjenaaOps2
import Derived.IntWalk
namespace Go.Dk
section
variable {P : Program} {C : Fr} {n : Nat} {γ : Gh} {s : AS} {a : Act} {w : World} {TY : Nat → TyI} {G : List (Nat × Con)} {dr : Bool} {o : Oper} {K : AV → AS → Prop}

theorem ivOk_nil {now lo hi : Nat} {nd : Bool} (h : lo < now) : IvOk γ now w lo hi nd [] := ⟨h, by simp, by simp, fun _ => List.nodup_nil⟩
theorem slc_nil {now : Nat} (h : 2 ≤ now) : RelE C γ now w (.slc [] (.iv 1 1 true .full)) (.slice none 0 0) :=
  ⟨none, 0, [], rfl, Nat.le_refl _, .inl ⟨rfl, rfl⟩, ivOk_nil (by omega), rfl⟩
theorem ints_nil {now : Nat} {k : IntKind} : RelE C γ now w (.ints k [] (.iv 0 0 false .full)) (.slice none 0 0) :=
  ⟨none, 0, rfl, Nat.le_refl _, .inl rfl, rfl⟩
theorem zeroF_rel {now : Nat} (h2 : 2 ≤ now) {z : AV} {v : Value} (h : ZeroF z v) : RelS C γ now w z v := by
  cases z <;> simp only [ZeroF] at h <;> first | exact h.elim | exact h | trivial | skip
  · obtain ⟨rfl, rfl, rfl⟩ := h; exact slc_nil h2
  · obtain ⟨rfl, rfl, rfl⟩ := h; exact ints_nil (now := now)
theorem zeroF_cl {z : AV} {v : Value} (h : ZeroF z v) (kt kp : Nat → Bool) : z.cl1 kt kp = z := by
  cases z <;> simp only [ZeroF] at h <;> first | exact h.elim | rfl | (obtain ⟨_, rfl, _⟩ := h; rfl)
theorem zeroFL {now : Nat} (h2 : 2 ≤ now) : ∀ {zs : List AV} {cs : List Value}, All2 ZeroF zs cs → All2 (RelS C γ now w) zs cs
  | [], [], _ => trivial
  | _ :: _, _ :: _, ⟨h, r⟩ => ⟨zeroF_rel h2 h, zeroFL h2 r⟩
theorem zeroFL_cl {kt kp : Nat → Bool} : ∀ {zs : List AV} {cs : List Value}, All2 ZeroF zs cs → cl1L kt kp zs = zs
  | [], [], _ => rfl
  | _ :: _, _ :: _, ⟨h, r⟩ => by simp only [cl1L, zeroF_cl h, zeroFL_cl r]

theorem zero_ok (hT : TyOk P TY) {ty now : Nat} (h2 : 2 ≤ now) (hk : (TY ty).k ≠ .no) :
    ∃ zv cs, (zeroValue ty).run P w = .ok zv w ∧ zv.cells = cs.toArray ∧ FlatR C γ now w (zero (TY ty).k) cs ∧ ∀ kt kp, (zero (TY ty).k).cl kt kp = zero (TY ty).k := by
  have h := hT ty
  cases hq : (TY ty).k with
  | no => exact absurd hq hk
  | sc z =>
    rw [hq] at h
    obtain ⟨d, i, zv, h1, hn, h3, h4, h5, h6, h7⟩ := h
    refine ⟨zv, [zv], by simp [zeroValue, typeInfo, h3, h5], by rw [h6], ?_⟩
    simp only [zero]
    cases z <;> first | exact h7.elim | skip
    case top => exact ⟨⟨zv, rfl, trivial⟩, fun _ _ => rfl⟩
    case int k m => obtain ⟨_, rfl⟩ := h7; exact ⟨⟨_, rfl, rfl⟩, fun _ _ => rfl⟩
    case bool b => obtain ⟨_, rfl⟩ := h7; exact ⟨⟨_, rfl, rfl⟩, fun _ _ => rfl⟩
    case str l => obtain ⟨_, rfl⟩ := h7; exact ⟨⟨_, rfl, rfl⟩, fun _ _ => rfl⟩
    case slc ts g => obtain ⟨_, rfl, rfl, rfl, _⟩ := h7; exact ⟨⟨_, rfl, slc_nil h2⟩, fun _ _ => rfl⟩
    case ints k ns g => obtain ⟨_, rfl, rfl, rfl, _⟩ := h7; exact ⟨⟨_, rfl, ints_nil (now := now)⟩, fun _ _ => rfl⟩
    case strs ss => obtain ⟨_, rfl, rfl, _⟩ := h7; exact ⟨⟨_, rfl, ⟨none, 0, rfl, Nat.le_refl _, .inl rfl⟩⟩, fun _ _ => rfl⟩
    case nili => obtain ⟨_, rfl⟩ := h7; exact ⟨⟨_, rfl, rfl⟩, fun _ _ => rfl⟩
  | ag zs =>
    rw [hq] at h
    obtain ⟨fields, i, cs, h1, h3, h4, h5, h6, h7, _⟩ := h
    refine ⟨.agg cs, cs.toList, by simp [zeroValue, typeInfo, h4, h6], by simp [Value.cells], zeroFL h2 h7, fun kt kp => ?_⟩
    simp only [zero, AV.cl, AV.cl2, zeroFL_cl h7]

theorem alloc_ok (hT : TyOk P TY) (R : Rel C n γ s a w) {ty : Nat} (ho : o.op = .alloc ty) (h : aop G TY dr s o K) : OpOk P C n a w o K := by
  simp only [aop, ho] at h
  split at h
  case h_1 => exact h.elim
  case h_3 => exact h.elim
  rename_i kk d hd hne
  obtain ⟨zv, cs, h1, h2, h3, h4⟩ := zero_ok (P := P) (C := C) (γ := γ) (w := w) (ty := ty) hT R.two hne
  obtain ⟨γ', g1, g2⟩ := R.newVar d ty h3
  rw [h4] at g1
  exact ⟨_, _, _, _, _, γ', by simp [execOp, ho, Instr.alloc, h1, newVar, newRow, h2], .inl rfl, h, g1, g2⟩

theorem box_cells {now : Nat} {u : AV} {v : Value} (hf : flat2 u = true) (h : Rel3 C γ now w u v) : ∃ cs, v.cells = cs.toArray ∧ FlatR C γ now w u cs := by
  by_cases hu : ∃ fs, u = .st fs
  · obtain ⟨fs, rfl⟩ := hu
    obtain ⟨cs, rfl, h1⟩ := h
    exact ⟨cs, rfl, h1⟩
  · have hf : flat u = true := by
      cases u <;> first | exact hf | exact absurd ⟨_, rfl⟩ hu
    rw [rel3_flat hf] at h
    exact ⟨[v], by rw [(flat_cells hf h).1], by rw [flatR_flat hf]; exact ⟨v, rfl, h⟩⟩
theorem box_ok (R : Rel C n γ s a w) {ty : Nat} {x : Operand} (ho : o.op = .box ty x) (h : aop G TY dr s o K) : OpOk P C n a w o K := by
  simp only [aop, ho] at h
  split at h
  case h_2 => exact h.elim
  rename_i d hd
  split at h
  case h_2 => exact h.elim
  rename_i hf
  obtain ⟨cs, h1, h2⟩ := box_cells hf (R.get x)
  obtain ⟨γ', g1, g2⟩ := R.newVar d ty h2
  exact ⟨_, _, _, _, _, γ', by simp [execOp, ho, Instr.box, newVar, newRow, h1], .inl rfl, h, g1, g2⟩

theorem field_run (hT : TyOk P TY) {ty : Nat} {zs : List AV} (hk : (TY ty).k = .ag zs) {j b off : Nat} (hj : j < zs.length) :
    (Instr.fieldAt ty (.pointer (some ⟨b, off, none⟩)) j).run P w = .ok (.pointer (some ⟨b, off + j, none⟩)) w := by
  have h := hT ty
  rw [hk] at h
  obtain ⟨fields, i, cs, h1, h3, h4, h5, h6, h7, h8⟩ := h
  have hj' : j < fields.size := by omega
  obtain ⟨e1, q, e2, e3⟩ := h8 j fields[j] (Array.getElem?_eq_getElem hj')
  simp [Instr.fieldAt, run_underlying h1, hj', Instr.sureAddr, fieldPlace, sizeOf, typeInfo, e1, e2, e3, Addr.add_lit]
theorem fieldAddr_ok (hT : TyOk P TY) (R : Rel C n γ s a w) {ty : Nat} {x : Operand} {j : Nat} (ho : o.op = .fieldAddr ty x j) (h : aop G TY dr s o K) : OpOk P C n a w o K := by
  simp only [aop, ho] at h
  split at h
  case h_2 => exact h.elim
  rename_i zs hk
  have hx := R.get x
  revert h
  generalize s.get x = p at hx
  intro h
  split at h
  case h_4 => exact h.elim
  case h_1 hj =>
    have hj : j < zs.length := by simpa [Nat.blt_eq] using hj
    have hx : a.eval x = _ := hx
    exact .pure R h (v := .pointer (some ⟨γ.loc _, j, none⟩)) rfl (by simp [execOp, ho, hx, field_run hT hk hj])
  case h_2 hj =>
    have hj : j < zs.length := by simpa [Nat.blt_eq] using hj
    have hx : a.eval x = _ := hx
    exact .pure R h (v := .pointer (some ⟨C.floc _, j, none⟩)) rfl (by simp [execOp, ho, hx, field_run hT hk hj])
  case h_3 fs hj =>
    have hj : j < zs.length := by simpa [Nat.blt_eq] using hj
    split at h
    case h_2 => exact h.elim
    rename_i hl
    have hl : fs.length = zs.length := by simpa using hl
    obtain ⟨hp, b, off, hv, hc⟩ := hx
    have hc : ∀ j, j < fs.length → ∃ v, w.cell? ⟨b, off + j, none⟩ = some v ∧ off + j < γ.lim b ∧ RelE C γ s.now w (fs.getD j .top) v := hc
    obtain ⟨v, c1, c2, c3⟩ := hc j (by omega)
    have hm : fs.getD j .top ∈ fs := by rw [List.getD_eq_getElem?_getD, List.getElem?_eq_getElem (by omega)]; exact List.getElem_mem _
    refine .pure R h (v := .pointer (some ⟨b, off + j, none⟩)) ⟨fun x hx kt kp => ?_, b, off + j, rfl, ?_⟩ (by simp [execOp, ho, hv, field_run hT hk hj])
    · rcases hx with rfl | ⟨gs, e, _⟩
      · exact hp _ (.inr ⟨fs, rfl, hm⟩) kt kp
      · rw [e] at c3; exact c3.elim
    · revert c3; generalize fs.getD j .top = u; intro c3
      cases u <;> first | exact ⟨v, c1, c2, c3⟩ | exact c3.elim

theorem Arr.get {lim : Nat → Nat} {w : World} : ∀ (ts : List T) (b off : Nat) (fp : List Nat), Arr lim w ts b off fp → ∀ i, i < ts.length →
    ∃ f f1 f2, TAt lim w (ts.getD i default) b (off + i * 3) f ∧ fp = f1 ++ f ++ f2
  | [], _, _, _, _, i, hi => by simp at hi
  | t :: ts, b, off, fp, ⟨f1, f2, h1, h2, h3⟩, 0, _ => ⟨f1, [], f2, by simpa using h2, by simpa using h1⟩
  | t :: ts, b, off, fp, ⟨f1, f2, h1, h2, h3⟩, i + 1, hi => by
    obtain ⟨f, g1, g2, h4, h5⟩ := Arr.get ts b (off + 3) f2 h3 i (by simpa using hi)
    refine ⟨f, f1 ++ g1, g2, ?_, by rw [h1, h5]; simp [List.append_assoc]⟩
    have : off + (i + 1) * 3 = off + 3 + i * 3 := by omega
    rw [this]; simpa using h4
theorem IvOk.sub {now lo hi : Nat} {nd : Bool} {fp f1 f f2 : List Nat} (h : IvOk γ now w lo hi nd fp) (e : fp = f1 ++ f ++ f2) : IvOk γ now w lo hi nd f := by
  obtain ⟨h0, h1, h2, h3⟩ := h
  subst e
  exact ⟨h0, fun b hb => h1 b (by simp [hb]), fun b hb => h2 b (by simp [hb]), fun hn => by
    have := h3 hn
    exact (List.nodup_append.1 (List.nodup_append.1 this).1).2.1⟩
theorem TagOk.child {now es es' : Nat} {a a' : Option Addr} {len cap len' cap' : Nat} {b : Nat} {fp f1 f f2 : List Nat} {g : Tag} (h2 : 2 ≤ now) (H0 : γ.H 0 = 0)
    (h : TagOk C γ now w es a len cap (b :: fp) g) (e : fp = f1 ++ f ++ f2) : TagOk C γ now w es' a' len' cap' f g.child := by
  cases g with
  | any => trivial
  | iv lo hi nd o => exact ⟨IvOk.sub h.1 (f1 := b :: f1) (f2 := f2) (by rw [e]; simp), trivial⟩
  | el lo hi nd => exact ⟨IvOk.sub (fp := fp) h e, trivial⟩
  | arg i =>
    refine ⟨⟨by omega, fun x _ => by rw [H0]; omega, fun x hx => ?_, nofun⟩, trivial⟩
    have := h.2 x (by rw [e]; simp [hx])
    unfold bnd; rw [if_pos (by omega)]; exact this
theorem child_cl (g : Tag) (kt : Nat → Bool) : g.child.cl kt = g.child := by cases g <;> rfl
theorem plain_tav (t : T) (g : Tag) : PlainC (t.av g.child) := by
  intro x hx kt kp
  rcases hx with rfl | ⟨fs, e, hm⟩
  · rfl
  · cases e
    simp only [List.mem_cons, List.not_mem_nil, or_false] at hm
    rcases hm with rfl | rfl | rfl
    · rfl
    · rfl
    · simp only [AV.cl1, child_cl]
theorem tat_cel {now b off : Nat} {t : T} {f : List Nat} {g : Tag} (h : TAt γ.lim w t b off f) (hg : ∀ a len cap, TagOk C γ now w 3 a len cap f g) : CelR C γ now w (t.av g) b off := by
  cases t with
  | mk k n ts =>
    obtain ⟨h0, h1, h2, a, cap, h3, h4, h5⟩ := h
    intro j hj
    have hj : j < 3 := hj
    match j, hj with
    | 0, _ => exact ⟨_, h1, by omega, rfl⟩
    | 1, _ => exact ⟨_, h2, by omega, rfl⟩
    | 2, _ => exact ⟨_, h3, h0, a, cap, f, rfl, h4, h5, hg _ _ _⟩

theorem index_run {ty e : Nat} {i : TypeInfo} (h1 : P.underlying ty = some (.slice e)) (h2 : P.info? e = some i) {b off len cap : Nat} {k : IntKind} {m : Int} (hm : 0 ≤ m ∧ m < len) :
    (Instr.indexAt ty (.slice (some ⟨b, off, none⟩) len cap) (.int k m)).run P w = .ok (.pointer (some ⟨b, off + m.toNat * i.size, none⟩)) w := by
  simp [Instr.indexAt, asIntOf, run_underlying h1, hm, sizeOf, typeInfo, h2, Addr.add_lit]
theorem indexAddr_ok (hT : TyOk P TY) (R : Rel C n γ s a w) {ty : Nat} {x y : Operand} (ho : o.op = .indexAddr ty x y) (h : aop G TY dr s o K) : OpOk P C n a w o K := by
  simp only [aop, ho, indexA] at h
  have hx := R.get x
  have hy := R.get y
  revert h
  generalize s.get x = p at hx
  generalize s.get y = q at hy
  intro h
  have hty := hT ty
  split at h
  case h_4 => exact h.elim
  case h_1 ts0 g0 ts g k m hk =>
    rw [hk] at hty
    obtain ⟨d, i, zv, t1, _, _, _, _, _, rfl, _, _, _, j, t2, t3, _⟩ := hty
    obtain ⟨⟨m0, m1⟩, hK⟩ := h
    have hy : a.eval y = .int k m := hy
    obtain ⟨b0, cap, fp, hv, hc, he, ht⟩ := hx
    rcases he with ⟨rfl, _⟩ | ⟨b, off, fp', hne, rfl, rfl, harr⟩
    · simp at m1; omega
    · obtain ⟨f, f1, f2, ha, hf⟩ := Arr.get _ _ _ _ harr m.toNat (by omega)
      refine .pure R hK (v := .pointer (some ⟨b, off + m.toNat * 3, none⟩)) ⟨plain_tav _ _, b, _, rfl, tat_cel ha fun _ _ _ => TagOk.child R.two R.H0 ht hf⟩ ?_
      simp [execOp, ho, hv, hy, index_run t1 t2 ⟨m0, m1⟩, t3]
  case h_2 k0 ns0 g0 k' ns g k m hk =>
    rw [hk] at hty
    obtain ⟨d, i, zv, t1, _, _, _, _, _, rfl, _, _, _, _, j, t2, t3, _⟩ := hty
    obtain ⟨⟨m0, m1⟩, hK⟩ := h
    have hy : a.eval y = .int k m := hy
    obtain ⟨b0, cap, hv, hc, he, ht⟩ := hx
    rcases he with rfl | ⟨b, off, rfl, harr⟩
    · simp at m1; omega
    · obtain ⟨c1, c2⟩ := harr m.toNat (by omega)
      refine .pure R hK (v := .pointer (some ⟨b, off + m.toNat, none⟩)) ⟨?_, b, _, rfl, _, c1, c2, rfl⟩ ?_
      · intro x hx kt kp
        rcases hx with rfl | ⟨fs, e, _⟩
        · rfl
        · cases e
      · simp [execOp, ho, hv, hy, index_run t1 t2 ⟨m0, m1⟩, t3]
  case h_3 ss0 ss k m hk =>
    rw [hk] at hty
    obtain ⟨d, i, zv, t1, _, _, _, _, _, rfl, _, _, j, t2, t3, _⟩ := hty
    obtain ⟨⟨m0, m1⟩, hK⟩ := h
    have hy : a.eval y = .int k m := hy
    obtain ⟨b0, cap, hv, hc, he⟩ := hx
    rcases he with rfl | ⟨b, off, rfl, harr⟩
    · simp at m1; omega
    · obtain ⟨c1, c2⟩ := harr m.toNat (by omega)
      refine .pure R hK (v := .pointer (some ⟨b, off + m.toNat, none⟩)) ⟨?_, b, _, rfl, _, c1, c2, rfl⟩ ?_
      · intro x hx kt kp
        rcases hx with rfl | ⟨fs, e, _⟩
        · rfl
        · cases e
      · simp [execOp, ho, hv, hy, index_run t1 t2 ⟨m0, m1⟩, t3]

theorem str_get (l : List UInt8) (i : Nat) (h : i < l.length) (hb : i < (ByteArray.mk l.toArray).size) : (ByteArray.mk l.toArray)[i]'hb = l.getD i 0 := by
  show (l.toArray)[i]'_ = _
  simp [List.getD_eq_getElem?_getD, List.getElem?_eq_getElem h]
theorem index_ok (hT : TyOk P TY) (R : Rel C n γ s a w) {ty : Nat} {x y : Operand} (ho : o.op = .index ty x y) (h : aop G TY dr s o K) : OpOk P C n a w o K := by
  simp only [aop, ho] at h
  have hx := R.get x
  have hy := R.get y
  revert h
  generalize s.get x = p at hx
  generalize s.get y = q at hy
  intro h
  have hty := hT ty
  split at h
  case h_2 => exact h.elim
  case h_1 l0 l k m hk =>
    rw [hk] at hty
    obtain ⟨d, i, zv, t1, _, _, _, _, _, rfl, _⟩ := hty
    obtain ⟨⟨m0, m1⟩, hK⟩ := h
    have hx : a.eval x = .string ⟨l.toArray⟩ := hx
    have hy : a.eval y = .int k m := hy
    refine .pure R hK (v := .int .u8 (l.getD m.toNat 0).toNat) rfl ?_
    have hsz : m < (ByteArray.mk l.toArray).size := by show m < l.toArray.size; simpa using m1
    have := run_index_string (P := P) w ty ⟨l.toArray⟩ k m t1
    rw [dif_pos ⟨m0, hsz⟩, str_get l m.toNat (by omega)] at this
    simp [execOp, ho, hx, hy, this]

theorem nilCheck_ok (R : Rel C n γ s a w) {x : Operand} (ho : o.op = .nilCheck x) (h : aop G TY dr s o K) : OpOk P C n a w o K := by
  simp only [aop, ho] at h
  have hx := R.get x
  revert h
  generalize s.get x = p at hx
  intro h
  split at h
  case h_7 => exact h.elim
  case h_4 => have hv : a.eval x = _ := hx; exact .pure R h (hv ▸ hx) (by simp [execOp, ho, hv])
  case h_5 => have hv : a.eval x = _ := hx; exact .pure R h (hv ▸ hx) (by simp [execOp, ho, hv])
  case h_1 => have hv : a.eval x = _ := hx; exact .pure R h (hv ▸ hx) (by simp [execOp, ho, hv])
  case h_2 => have hv : a.eval x = _ := hx; exact .pure R h (hv ▸ hx) (by simp [execOp, ho, hv])
  case h_3 => obtain ⟨_, b, off, hv, _⟩ := id hx; exact .pure R h (hv ▸ hx) (by simp [execOp, ho, hv])
  case h_6 => obtain ⟨vs, hv, _⟩ := id hx; exact .pure R h (hv ▸ hx) (by simp [execOp, ho, hv])
end
end Go.Dk
