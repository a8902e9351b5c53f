/- Numbers, strings, closures, literals. -/
import Derived.Test.YteamklllllembaaDoorOps3
import Derived.Laws.Concat
import Derived.Laws.Strings3
import Derived.Laws.Slices
import Derived.Laws.BytesString
import Derived.Laws.AppendOwn
namespace Go.Dk
section
variable {P : Program} {C : Fr} {n : Nat} {γ : Gh} {s : AS} {a : Act} {w : World} {TY : Nat → TyI} {G : List (Nat × Con)} {dr : Bool} {o : Oper} {K : AV → AS → Prop}

theorem ty_bool (hT : TyOk P TY) {t : Nat} {b : Bool} (hk : (TY t).k = .sc (.bool b)) : P.underlying t = some .bool := by
  have h := hT.ty t; rw [hk] at h; obtain ⟨d, _, _, t1, _, _, _, _, _, rfl, _⟩ := h; exact t1
theorem ty_int (hT : TyOk P TY) {t : Nat} {k : IntKind} {m : Int} (hk : (TY t).k = .sc (.int k m)) : P.underlying t = some (.int k) := by
  have h := hT.ty t; rw [hk] at h; obtain ⟨d, _, _, t1, _, _, _, _, _, rfl, _⟩ := h; exact t1
theorem ty_str (hT : TyOk P TY) {t : Nat} {l : List UInt8} (hk : (TY t).k = .sc (.str l)) : P.underlying t = some .string := by
  have h := hT.ty t; rw [hk] at h; obtain ⟨d, _, _, t1, _, _, _, _, _, rfl, _⟩ := h; exact t1
theorem ty_iface (hT : TyOk P TY) {t : Nat} (hk : (TY t).k = .sc .nili) : ∃ ms, P.underlying t = some (.interface ms) := by
  have h := hT.ty t; rw [hk] at h; obtain ⟨d, _, _, t1, _, _, _, _, _, ⟨ms, rfl⟩, _⟩ := h; exact ⟨ms, t1⟩
theorem ty_slc (hT : TyOk P TY) {t : Nat} {ts : List T} {g : Tag} (hk : (TY t).k = .sc (.slc ts g)) :
    P.underlying t = some (.slice (TY t).elem) ∧ ∃ j, P.info? (TY t).elem = some j ∧ j.size = 3 ∧ j.bytes ≤ 64 ∧ ∃ zs, j.zero = some (.agg zs) ∧ zs.size = 3 := by
  have h := hT.ty t; rw [hk] at h; obtain ⟨d, _, _, t1, _, _, _, _, _, rfl, _, _, _, h⟩ := h; exact ⟨t1, h⟩
theorem ty_ints (hT : TyOk P TY) {t : Nat} {k : IntKind} {ns : List Int} {g : Tag} (hk : (TY t).k = .sc (.ints k ns g)) :
    P.underlying t = some (.slice (TY t).elem) ∧ P.underlying (TY t).elem = some (.int k) ∧ ∃ j, P.info? (TY t).elem = some j ∧ j.size = 1 ∧ j.bytes ≤ 64 ∧ ∃ z, j.zero = some z ∧ z.cells.size = 1 := by
  have h := hT.ty t; rw [hk] at h; obtain ⟨d, _, _, t1, _, _, _, _, _, rfl, _, _, _, h⟩ := h; exact ⟨t1, h⟩
theorem ty_strs (hT : TyOk P TY) {t : Nat} {ss : List (List UInt8)} (hk : (TY t).k = .sc (.strs ss)) :
    P.underlying t = some (.slice (TY t).elem) ∧ ∃ j, P.info? (TY t).elem = some j ∧ j.size = 1 ∧ j.bytes ≤ 64 ∧ ∃ z, j.zero = some z ∧ z.cells.size = 1 := by
  have h := hT.ty t; rw [hk] at h; obtain ⟨d, _, _, t1, _, _, _, _, _, rfl, _, _, h⟩ := h; exact ⟨t1, h⟩

theorem bxor_bound (a b : Int) (ha : 0 ≤ a) (hb : 0 ≤ b) (ha' : a ≤ 4611686018427387903) (hb' : b ≤ 4611686018427387903) (c : Int)
    (hc : (Op.intBits .xor .i64 a b).run P w = .ok (.int .i64 c) w) : 0 ≤ c ∧ c ≤ 9223372036854775807 := by
  obtain ⟨x, rfl⟩ := Int.eq_ofNat_of_zero_le ha
  obtain ⟨y, rfl⟩ := Int.eq_ofNat_of_zero_le hb
  have hc : (Result.ok (Value.int .i64 (IntKind.i64.wrap ((BitVec.ofInt 64 (x : Int) ^^^ BitVec.ofInt 64 (y : Int)).toNat : Int))) w : Result Value) = .ok (.int .i64 c) w := hc
  have e1 : (BitVec.ofInt 64 (x : Int)) = BitVec.ofNat 64 x := by simp
  have e2 : (BitVec.ofInt 64 (y : Int)) = BitVec.ofNat 64 y := by simp
  have h1 : x < 2 ^ 62 := by omega
  have h2 : y < 2 ^ 62 := by omega
  have h3 := Nat.xor_lt_two_pow h1 h2
  have h4 : (BitVec.ofInt 64 (x : Int) ^^^ BitVec.ofInt 64 (y : Int)).toNat = x ^^^ y := by
    rw [e1, e2, BitVec.toNat_xor, BitVec.toNat_ofNat, BitVec.toNat_ofNat, Nat.mod_eq_of_lt (by omega), Nat.mod_eq_of_lt (by omega)]
  rw [h4] at hc
  simp only [Result.ok.injEq, Value.int.injEq, true_and, and_true] at hc
  rw [IntWalk.i64_in _ (by omega)] at hc
  omega

theorem cmp_ok {op : BinOp} {k : IntKind} {x y : Int} {K' : AV → Prop} (h : cmpAV op x y K') (t : TypeId) : ∃ b, (binOp op t (.int k x) (.int k y)).run P w = .ok (.bool b) w ∧ K' (.bool b) := by
  cases op <;> simp only [cmpAV] at h <;> first
    | exact h.elim
    | (rw [binOp_eql]; exact ⟨_, rfl, h⟩)
    | (rw [binOp_neq]; refine ⟨_, rfl, ?_⟩; have e : (x != y) = decide (x ≠ y) := by by_cases hxy : x = y <;> simp [hxy]
       rw [e]; exact h)
    | (rw [binOp_lss]; exact ⟨_, rfl, h⟩)
    | (rw [binOp_leq]; exact ⟨_, rfl, h⟩)
    | (rw [binOp_gtr]; exact ⟨_, rfl, h⟩)
    | (rw [binOp_geq]; exact ⟨_, rfl, h⟩)

theorem i64_ok {op : BinOp} {x y : Int} {K' : AV → Prop} (h : i64AV op x y K') (t : TypeId) : ∃ av v, (binOp op t (.int .i64 x) (.int .i64 y)).run P w = .ok v w ∧ K' av ∧ ((∃ m, av = .int .i64 m ∧ v = .int .i64 m) ∨ ∃ b, av = .bool b ∧ v = .bool b) := by
  have cmp : cmpAV op x y K' → ∃ av v, (binOp op t (.int .i64 x) (.int .i64 y)).run P w = .ok v w ∧ K' av ∧ ((∃ m, av = .int .i64 m ∧ v = .int .i64 m) ∨ ∃ b, av = .bool b ∧ v = .bool b) :=
    fun h => let ⟨b, h1, h2⟩ := cmp_ok (P := P) (w := w) (k := .i64) h t; ⟨.bool b, .bool b, h1, h2, .inr ⟨b, rfl, rfl⟩⟩
  cases op <;> simp only [i64AV] at h <;> first
    | exact cmp h
    | exact h.elim
    | skip
  · exact ⟨_, _, by rw [binOp_add]; simp only [Op.intArith, Sem.run_pure]; rw [IntWalk.i64_in _ h.1], h.2, .inl ⟨_, rfl, rfl⟩⟩
  · exact ⟨_, _, by rw [binOp_sub]; simp only [Op.intArith, Sem.run_pure]; rw [IntWalk.i64_in _ h.1], h.2, .inl ⟨_, rfl, rfl⟩⟩
  · exact ⟨_, _, by rw [binOp_mul]; simp only [Op.intArith, Sem.run_pure]; rw [IntWalk.i64_in _ h.1], h.2, .inl ⟨_, rfl, rfl⟩⟩
  · obtain ⟨⟨h0, h1, h2⟩, hK⟩ := h
    have e : x.tdiv y = x / y := Int.tdiv_eq_ediv_of_nonneg h0
    have hb : 0 ≤ x / y := Int.ediv_nonneg h0 (by omega)
    have hb' : x / y ≤ x := Int.ediv_le_self _ h0
    exact ⟨_, _, by rw [binOp_quo]; simp only [Op.intDiv, if_neg (show ¬ y = 0 by omega), Sem.run_pure]; rw [e, IntWalk.i64_in _ (by omega)], hK, .inl ⟨_, rfl, rfl⟩⟩
  · obtain ⟨⟨h0, h1, h2⟩, hK⟩ := h
    have e : x.tmod y = x % y := Int.tmod_eq_emod_of_nonneg h0
    exact ⟨_, _, by rw [binOp_rem]; simp only [Op.intDiv, if_neg (show ¬ y = 0 by omega), Sem.run_pure]; rw [e], hK, .inl ⟨_, rfl, rfl⟩⟩
  · have hr : ∃ c, (Op.intBits .xor .i64 x y).run P w = .ok (.int .i64 c) w := ⟨_, rfl⟩
    obtain ⟨c, hc⟩ := hr
    exact ⟨_, _, by rw [binOp_xor]; exact hc, h c (fun a1 a2 a3 a4 => bxor_bound x y a1 a2 a3 a4 c hc), .inl ⟨_, rfl, rfl⟩⟩

theorem u8_ok {op : BinOp} {x y : Int} {K' : AV → Prop} (h : u8AV op x y K') (t : TypeId) : ∃ av v, (binOp op t (.int .u8 x) (.int .u8 y)).run P w = .ok v w ∧ K' av ∧ ((∃ m, av = .int .u8 m ∧ v = .int .u8 m) ∨ ∃ b, av = .bool b ∧ v = .bool b) := by
  have cmp : cmpAV op x y K' → ∃ av v, (binOp op t (.int .u8 x) (.int .u8 y)).run P w = .ok v w ∧ K' av ∧ ((∃ m, av = .int .u8 m ∧ v = .int .u8 m) ∨ ∃ b, av = .bool b ∧ v = .bool b) :=
    fun h => let ⟨b, h1, h2⟩ := cmp_ok (P := P) (w := w) (k := .u8) h t; ⟨.bool b, .bool b, h1, h2, .inr ⟨b, rfl, rfl⟩⟩
  cases op <;> simp only [u8AV] at h <;> first
    | exact cmp h
    | exact h.elim
    | skip
  · exact ⟨_, _, by rw [binOp_add]; simp only [Op.intArith, Sem.run_pure]; rw [IntWalk.u8_in _ h.1], h.2, .inl ⟨_, rfl, rfl⟩⟩
  · exact ⟨_, _, by rw [binOp_sub]; simp only [Op.intArith, Sem.run_pure]; rw [IntWalk.u8_in _ h.1], h.2, .inl ⟨_, rfl, rfl⟩⟩

theorem equalIn_bool {t : TypeId} (ht : P.underlying t = some .bool) (d : Nat) (a b : Bool) : (Op.equalIn (d + 1) t (.bool a) (.bool b)).run P w = .ok (a == b) w := by
  simp [Op.equalIn, run_underlying ht]
theorem equalIn_ifc {t : TypeId} {ms : Array (String × TypeId)} (ht : P.underlying t = some (.interface ms)) (e : Nat) (d : TypeId) (u : Value) : (Op.equalIn (e + 1) t (.iface d u) .nilIface).run P w = .ok false w := by
  simp [Op.equalIn, run_underlying ht]
theorem equal_bool {t : TypeId} (ht : P.underlying t = some .bool) (a b : Bool) : (Op.equal t (.bool a) (.bool b)).run P w = .ok (a == b) w := equalIn_bool ht 9999 a b
theorem equal_ifc {t : TypeId} {ms : Array (String × TypeId)} (ht : P.underlying t = some (.interface ms)) (d : TypeId) (u : Value) : (Op.equal t (.iface d u) .nilIface).run P w = .ok false w := equalIn_ifc ht 9999 d u

theorem equalIn_slice {t e : TypeId} (ht : P.underlying t = some (.slice e)) (d : Nat) (a : Option Addr) (l c : Nat) : (Op.equalIn (d + 1) t (.slice a l c) (.slice none 0 0)).run P w = .ok a.isNone w := by
  cases a <;> simp [Op.equalIn, run_underlying ht]
theorem equal_slice {t e : TypeId} (ht : P.underlying t = some (.slice e)) (a : Option Addr) (l c : Nat) : (Op.equal t (.slice a l c) (.slice none 0 0)).run P w = .ok a.isNone w := equalIn_slice ht 9999 a l c

theorem equalIn_nil {t : TypeId} {ms : Array (String × TypeId)} (ht : P.underlying t = some (.interface ms)) (e : Nat) : (Op.equalIn (e + 1) t .nilIface .nilIface).run P w = .ok true w := by
  simp [Op.equalIn, run_underlying ht]
theorem equal_nil {t : TypeId} {ms : Array (String × TypeId)} (ht : P.underlying t = some (.interface ms)) : (Op.equal t .nilIface .nilIface).run P w = .ok true w := equalIn_nil ht 9999
theorem nilNil_cases {ty : TyK} {op : BinOp} {y : Operand} {u : AV} {K : AV → Prop} {E : Prop} (h : nilNil ty op y u K E) : E ∨ (u = .nili ∧ ty = .sc .nili ∧ y = .const .nilIface ∧ (op = .neq ∧ K (.bool false) ∨ op = .eql ∧ K (.bool true))) := by
  unfold nilNil at h
  split at h
  · split at h
    · exact .inr ⟨rfl, rfl, rfl, .inl ⟨rfl, h⟩⟩
    · exact .inr ⟨rfl, rfl, rfl, .inr ⟨rfl, h⟩⟩
    · exact .inl h
  · exact .inl h
theorem nilNil_det {ty : TyK} {op : BinOp} {y : Operand} {u : AV} {K : AV → Prop} {E : Prop} (h : nilNil ty op y u K E) : (∃ v, K v ∧ ∀ (K' : AV → Prop) (E' : Prop), K' v → nilNil ty op y u K' E') ∨ (E ∧ ∀ (K' : AV → Prop) (E' : Prop), E' → nilNil ty op y u K' E') := by
  revert h
  unfold nilNil
  split
  · split
    · exact fun h => .inl ⟨_, h, fun _ _ h => h⟩
    · exact fun h => .inl ⟨_, h, fun _ _ h => h⟩
    · exact fun h => .inr ⟨h, fun _ _ h => h⟩
  · exact fun h => .inr ⟨h, fun _ _ h => h⟩
theorem nilNil_xor {ty : TyK} {y : Operand} {u : AV} {K : AV → Prop} {E : Prop} : nilNil ty .xor y u K E = E := by
  unfold nilNil
  split
  · split
    · contradiction
    · contradiction
    · rfl
  · rfl
theorem binOp_ok (hT : TyOk P TY) (R : Rel C n γ s a w) {op : BinOp} {ty ty' : Nat} {x y : Operand} (ho : o.op = .binOp op ty x y ty') (h : aop G TY dr s o K) : OpOk P C n a w o K := by
  simp only [aop, ho] at h
  have key : (∃ ts, nilCmp dr op (TY ty).k (s.get x) y = some ts ∧ ∀ b : Bool, (b = true → ts = []) → K (.bool b) s) ∨ nilNil (TY ty).k op y (s.get x) (fun v => K v s) (binAV (TY ty).k op (s.get x) (s.get y) fun v => K v s) := by
    split at h
    case h_1 ts hn => exact .inl ⟨ts, hn, h⟩
    case h_2 => exact .inr h
  clear h
  rcases key with ⟨ts, hn, h⟩ | h
  case inl =>
    unfold nilCmp at hn
    split at hn
    · cases hn
    split at hn
    case h_2 => cases hn
    rename_i hk hu
    cases hn
    have hx := R.get x
    rw [hu] at hx
    obtain ⟨a', cap, fp, hx, _, he, _⟩ := hx
    obtain ⟨ht, _⟩ := ty_slc hT hk
    refine .pure R (h a'.isNone fun hb => ?_) (v := .bool a'.isNone) rfl ?_
    · rcases he with ⟨e, _⟩ | ⟨b, off, fp', _, e, _⟩
      · exact e
      · rw [e] at hb; cases hb
    · have hy : a.eval (.const (.slice none 0 0)) = .slice none 0 0 := rfl
      simp only [execOp, ho, hx, hy, Sem.run_bind, eqGuard_at_slice, Sem.run_pure, Result.andThen_ok]
      simp [binOp, equal_slice ht]
  have h' := nilNil_cases h
  clear h
  rcases h' with h | ⟨hu, hk, rfl, h⟩
  case inr =>
    obtain ⟨ms, hk⟩ := ty_iface hT hk
    have hx := R.get x
    rw [hu] at hx
    have hx : a.eval x = .nilIface := hx
    have hy : a.eval (.const .nilIface) = .nilIface := rfl
    rcases h with ⟨rfl, h⟩ | ⟨rfl, h⟩
    · exact .pure R h (v := .bool false) rfl (by simp only [execOp, ho, hx, hy, Sem.run_bind, eqGuard_nil_constR, Sem.run_pure, Result.andThen_ok]; simp [binOp, equal_nil hk])
    · exact .pure R h (v := .bool true) rfl (by simp only [execOp, ho, hx, hy, Sem.run_bind, eqGuard_nil_constR, Sem.run_pure, Result.andThen_ok]; simp [binOp, equal_nil hk])
  simp only [binAV] at h
  have hx := R.get x
  have hy := R.get y
  revert h
  generalize s.get x = p at hx
  generalize s.get y = q at hy
  intro h
  have fin : ∀ {av : AV} {v : Value}, K av s → ((∃ (k : IntKind) (m : Int), av = .int k m ∧ v = .int k m) ∨ ∃ b, av = .bool b ∧ v = .bool b) → (do eqGuard op ty x y (a.eval x) (a.eval y); binOp op ty (a.eval x) (a.eval y) : Sem Value).run P w = .ok v w → OpOk P C n a w o K := by
    intro av v hK hv hr
    refine .pure R hK (v := v) ?_ (by simp only [execOp, ho, Sem.run_bind] at hr ⊢; rw [hr]; rfl)
    rcases hv with ⟨k, m, rfl, rfl⟩ | ⟨b, rfl, rfl⟩ <;> rfl
  split at h
  case h_5 => exact h.elim
  case h_1 k m k' m' =>
    have hx : a.eval x = .int k m := hx
    have hy : a.eval y = .int k' m' := hy
    split at h
    case h_3 => exact h.elim
    case h_1 e =>
      obtain rfl := ikEq_iff.1 e
      obtain ⟨av, v, h1, h2, h3⟩ := i64_ok (P := P) (w := w) h ty
      have h4 : (∃ (k : IntKind) (m : Int), av = .int k m ∧ v = .int k m) ∨ ∃ b, av = .bool b ∧ v = .bool b := by
        rcases h3 with ⟨m, e1, e2⟩ | ⟨b, e1, e2⟩
        · exact .inl ⟨_, m, e1, e2⟩
        · exact .inr ⟨b, e1, e2⟩
      exact fin h2 h4 (by rw [hx, hy, Sem.run_bind, eqGuard_at_int]; simp [h1])
    case h_2 e =>
      obtain rfl := ikEq_iff.1 e
      obtain ⟨av, v, h1, h2, h3⟩ := u8_ok (P := P) (w := w) h ty
      have h4 : (∃ (k : IntKind) (m : Int), av = .int k m ∧ v = .int k m) ∨ ∃ b, av = .bool b ∧ v = .bool b := by
        rcases h3 with ⟨m, e1, e2⟩ | ⟨b, e1, e2⟩
        · exact .inl ⟨_, m, e1, e2⟩
        · exact .inr ⟨b, e1, e2⟩
      exact fin h2 h4 (by rw [hx, hy, Sem.run_bind, eqGuard_at_int]; simp [h1])
  case h_2 b b' =>
    have hx : a.eval x = .bool b := hx
    have hy : a.eval y = .bool b' := hy
    split at h
    case h_3 => exact h.elim
    case h_1 hk => exact fin h (.inr ⟨_, rfl, rfl⟩) (by rw [hx, hy, Sem.run_bind, eqGuard_at_bool]; simp [binOp, equal_bool (ty_bool hT hk)])
    case h_2 hk => exact fin h (.inr ⟨_, rfl, rfl⟩) (by rw [hx, hy, Sem.run_bind, eqGuard_at_bool]; simp [binOp, equal_bool (ty_bool hT hk), bne])
  case h_3 l l' =>
    have hx : a.eval x = .string ⟨l.toArray⟩ := hx
    have hy : a.eval y = .string ⟨l'.toArray⟩ := hy
    split at h
    case h_4 => exact h.elim
    case h_1 =>
      refine fin h (.inr ⟨_, rfl, rfl⟩) ?_
      rw [hx, hy, Sem.run_bind, eqGuard_at_string]
      have e : (l == l') = decide (l = l') := by by_cases hl : l = l' <;> simp [hl]
      simp only [Sem.run_pure, Result.andThen_ok, binOp_string_eql, ByteArray.toList_mk, e]
    case h_2 =>
      refine fin h (.inr ⟨_, rfl, rfl⟩) ?_
      rw [hx, hy, Sem.run_bind, eqGuard_at_string]
      have e : (!(l == l')) = decide (l ≠ l') := by by_cases hl : l = l' <;> simp [hl]
      simp only [Sem.run_pure, Result.andThen_ok, binOp_string_neq, ByteArray.toList_mk, e]
    case h_3 =>
      refine .pure R h.2 (v := .string ⟨(l ++ l').toArray⟩) rfl ?_
      have := run_string_add_sum (P := P) (w := w) ⟨l.toArray⟩ ⟨l'.toArray⟩ (by show l.toArray.size + l'.toArray.size ≤ _; simp; omega)
      rw [ByteArray.mk_append_mk] at this
      simp only [execOp, ho, hx, hy, Sem.run_bind, eqGuard_at_string, Sem.run_pure, Result.andThen_ok, binOp_string_add, this]
  case h_4 =>
    obtain ⟨t, u, hx⟩ : ∃ t u, a.eval x = .iface t u := hx
    have hy : a.eval y = .nilIface := hy
    split at h
    case h_3 => exact h.elim
    case h_1 hk => obtain ⟨ms, hk⟩ := ty_iface hT hk; exact fin h (.inr ⟨_, rfl, rfl⟩) (by rw [hx, hy, Sem.run_bind, eqGuard_at_iface]; simp [binOp, equal_ifc hk])
    case h_2 hk => obtain ⟨ms, hk⟩ := ty_iface hT hk; exact fin h (.inr ⟨_, rfl, rfl⟩) (by rw [hx, hy, Sem.run_bind, eqGuard_at_iface]; simp [binOp, equal_ifc hk])

theorem unOp_ok (R : Rel C n γ s a w) {op : UnOp} {ty : Nat} {x : Operand} (ho : o.op = .unOp op ty x) (h : aop G TY dr s o K) : OpOk P C n a w o K := by
  simp only [aop, ho] at h
  have hx := R.get x
  revert h
  generalize s.get x = p at hx
  intro h
  split at h
  case h_3 => exact h.elim
  case h_1 b => have hx : a.eval x = .bool b := hx; exact .pure R h (v := .bool (!b)) rfl (by simp [execOp, ho, hx, Op.unary])
  case h_2 m =>
    have hx : a.eval x = .int .i64 m := hx
    refine .pure R h.2 (v := .int .i64 (-m)) rfl ?_
    simp only [execOp, ho, hx, Op.unary, Op.intArith, Int.zero_sub, IntWalk.i64_in _ h.1]; rfl

theorem makeFunc_ok (R : Rel C n γ s a w) {f : Fn} {first caps : Array Operand} (ho : o.op = .makeFunc f first caps) (h : aop G TY dr s o K) : OpOk P C n a w o K := by
  simp only [aop, ho] at h
  split at h
  case h_2 => exact h.elim
  rename_i f hf hp
  have key : ∀ l : List Operand, allFlatPtr (mapGets s l) = true → All2 (PtrV C γ) (mapGets s l) (l.map a.eval) := by
    intro l
    induction l with
    | nil => intro _; trivial
    | cons x r ih =>
      intro hl
      have hx := R.get x
      simp only [mapGets] at hl ⊢
      revert hl
      generalize s.get x = p at hx
      intro hl
      cases p <;> simp only [allFlatPtr] at hl <;> first | cases hl | exact ⟨hx, ih hl⟩
  have he : first = #[] := by cases first; simpa using hf
  subst he
  refine .pure R h (v := .func (.func f) #[] (caps.toList.map a.eval).toArray) ⟨_, rfl, key _ hp⟩ ?_
  cases caps
  simp [execOp, ho, Instr.makeFunc]

theorem rel2_rel3 {now : Nat} {u : AV} {v : Value} (h : Rel2 C γ now w u v) : Rel3 C γ now w u v := by
  cases u <;> first | exact h | exact h.elim
theorem extract_ok (R : Rel C n γ s a w) {x : Operand} {i : Nat} (ho : o.op = .extract x i) (h : aop G TY dr s o K) : OpOk P C n a w o K := by
  simp only [aop, ho] at h
  have hx := R.get x
  revert h
  generalize s.get x = p at hx
  intro h
  split at h
  case h_2 => exact h.elim
  rename_i vs
  split at h
  case h_2 => exact h.elim
  rename_i hi
  have hi : i < vs.length := by simpa [Nat.blt_eq] using hi
  obtain ⟨us, hv, hall⟩ := hx
  obtain ⟨u, h1, h2⟩ := hall.get i vs[i] (List.getElem?_eq_getElem hi)
  refine .pure R h (v := u) ?_ (by simp [execOp, ho, hv, Instr.extract, h1])
  have : vs.getD i .top = vs[i] := by simp [List.getD_eq_getElem?_getD, List.getElem?_eq_getElem hi]
  rw [this]; exact rel2_rel3 h2
end
end Go.Dk
