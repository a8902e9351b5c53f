/- Steps and reductions of trees, as the program tells them. -/
import Derived.Test.YtcgnenkbmcbonaaSt
namespace Go.Dk
set_option linter.unusedVariables false
def T.stC (t : T) (P : Pl) : Int := if t.valid = true then (if P.o t = true then (if (t.stp (P.w t)).valid = true then 1 else 2) else 0) else 3
def T.stR (t : T) (P : Pl) : T := if t.valid = true then (if P.o t = true then (if (t.stp (P.w t)).valid = true then t.stp (P.w t) else .mk 0 0 []) else t) else .mk 0 0 []
def T.red (t : T) (P : Pl) (f : Int) : T × Int × Int := if t.valid = true ∧ 0 ≤ f ∧ f ≤ 200 then t.rdc P f.toNat 0 else (.mk 0 0 [], 0, 3)
theorem T.put_size : ∀ (w : List Int) (t u : T), t.has w → (t.put w u).size ≤ t.size + u.size
  | [], t, u, _ => Nat.le_add_left _ _
  | i :: w, .mk k n ts, u, hh => by
    obtain ⟨hi, hw⟩ := hh
    have hi : 0 ≤ i ∧ i < (ts.length : Int) := hi
    have hw : T.has (ts.getD i.toNat default) w := hw
    have h1 := T.put_size w (ts.getD i.toNat default) u hw
    have h2 := sizeL_set (u := (ts.getD i.toNat default).put w u) (show i.toNat < ts.length by omega)
    show 1 + sizeL (ts.set i.toNat ((ts.getD i.toNat default).put w u)) ≤ 1 + sizeL ts + u.size
    omega
theorem stC_range (t : T) (P : Pl) : 0 ≤ t.stC P ∧ t.stC P ≤ 3 := by unfold T.stC; repeat' split <;> omega
theorem ctr_size {t : T} (h : t.valid = true) (hr : t.rdx ≠ 0) : t.ctr.size ≤ 200000 := by
  cases t with
  | mk k n ts =>
    have kv : ∀ {i : Nat}, i < ts.length → (ts.getD i default).valid = true := fun h' => kid_valid h h'
    have ha := valid_arity h
    unfold T.ctr
    rcases rdx_cases hr with ⟨e, rfl, e2⟩ | ⟨e, rfl, e2⟩ | ⟨e, rfl, e2⟩ | ⟨e, rfl, e2⟩ | ⟨e, rfl, e2⟩ | ⟨e, rfl, e2⟩
    · have ha : (2 : Int) = ts.length := ha
      have k0 := kid_valid' (kv (i := 0) (by omega)) (i := 1) (by rw [e2]; decide)
      have k1 := kv (i := 1) (by omega)
      rw [e, if_pos rfl]
      show (((ts.getD 0 default).kids.getD 1 default).mv (sbf 0 (ts.getD 1 default)) 0).size ≤ _
      generalize (ts.getD 0 default).kids.getD 1 default = b at *
      generalize ts.getD 1 default = u at *
      have s1 := T.size_mv (f := sbf 0 u) b 0 30 (T.valid_shp k0.2)
      have s2 := szs_sb (j := 0) k1 (b.vs 0)
      have s3 := T.vs_len1 b 0
      have s4 := cnL_le (j := 0) (l := b.vs 0)
      have s5 := T.valid_size k0.2
      have s6 := T.valid_size k1
      have s7 := T.size_eq u
      have s8 : cnL 0 (b.vs 0) * ((u.size : Int) - 1) ≤ 400 * 400 := Int.mul_le_mul (by omega) (by omega) (by omega) (by omega)
      omega
    · have ha : (4 : Int) = ts.length := ha
      rw [e, if_neg (by decide), if_pos rfl]
      have := T.valid_size (kv (i := 1) (by omega))
      show (ts.getD 1 default).size ≤ _
      omega
    · have ha : (4 : Int) = ts.length := ha
      have k0 := kid_valid' (kv (i := 3) (by omega)) (i := 0) (by rw [e2]; decide)
      rw [e, if_neg (by decide), if_neg (by decide), if_pos rfl]
      have s0 := T.valid_size (kv (i := 0) (by omega))
      have s1 := T.valid_size (kv (i := 1) (by omega))
      have s2 := T.valid_size (kv (i := 2) (by omega))
      have s3 := T.valid_size k0.2
      simp only [T.kids, T.size, sizeL] at *
      omega
    · have ha : (3 : Int) = ts.length := ha
      rw [e, if_neg (by decide), if_neg (by decide), if_neg (by decide), if_pos rfl]
      have := T.valid_size (kv (i := 2) (by omega))
      show (ts.getD 2 default).size ≤ _
      omega
    · have ha : (1 : Int) = ts.length := ha
      have k0 := kid_valid' (kv (i := 0) (by omega)) (i := 1) (by rw [e2]; decide)
      rw [e, if_neg (by decide), if_neg (by decide), if_neg (by decide), if_neg (by decide), if_pos rfl]
      have := T.valid_size k0.2
      show ((ts.getD 0 default).kids.getD 1 default).size ≤ _
      omega
    · have ha : (1 : Int) = ts.length := ha
      have k0 := kid_valid' (kv (i := 0) (by omega)) (i := 2) (by rw [e2]; decide)
      rw [e, if_neg (by decide), if_neg (by decide), if_neg (by decide), if_neg (by decide), if_neg (by decide)]
      have := T.valid_size k0.2
      show ((ts.getD 0 default).kids.getD 2 default).size ≤ _
      omega
theorem stp_size {t : T} {w : List Int} (h : t.valid = true) (hw : t.has w) (hr : (t.at w).rdx ≠ 0) : (t.stp w).size ≤ 210000 := by
  have h1 := T.put_size w t (t.at w).ctr hw
  have h2 := ctr_size (T.at_valid hw h) hr
  have h3 := T.valid_size h
  unfold T.stp
  omega
theorem stR_small (t : T) (P : Pl) : sizeL (t.stR P).kids ≤ 400 := by
  unfold T.stR
  split
  · rename_i h
    split
    · split
      · rename_i h2; exact small_of h2
      · exact small_zero
    · exact small_of h
  · exact small_zero
theorem red_small (t : T) (P : Pl) (f : Int) : sizeL (t.red P f).1.kids ≤ 400 := by
  unfold T.red
  split
  · rename_i h
    rcases (rdc_spec P f.toNat t 0 h.1).2.2.2 with ⟨_, h2, _⟩ | ⟨_, h2, _⟩ | ⟨_, h2⟩
    · exact small_of h2
    · rw [h2]; exact small_zero
    · rw [h2]; exact small_zero
  · exact small_zero
end Go.Dk
