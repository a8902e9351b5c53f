/- A text belongs to one term. -/
import Derived.Test.YteamklllllembaaDoorTx
namespace Go.Dk
set_option linter.unusedVariables false
theorem dec_inj {n m : Int} {r q : List UInt8} (hn : 0 ≤ n ∧ n ≤ 20) (hm : 0 ≤ m ∧ m ≤ 20) (hr : nd r) (hq : nd q) (h : decD n ++ r = decD m ++ q) : n = m ∧ r = q := by
  have fn' := decD_facts hn.1 (by omega)
  have fm := decD_facts hm.1 (by omega)
  unfold decD at *
  by_cases h1 : n ≤ 9 <;> by_cases h2 : m ≤ 9
  · rw [if_pos h1] at h fn'; rw [if_pos h2] at h fm
    simp only [List.cons_append, List.nil_append, List.getD_cons_zero, List.getD_cons_succ, List.length_cons, List.length_nil] at h fn' fm
    obtain ⟨e1, e2⟩ := List.cons.inj h
    rw [e1] at fn'
    exact ⟨by omega, e2⟩
  · rw [if_pos h1] at h fn'; rw [if_neg h2] at h fm
    simp only [List.cons_append, List.nil_append, List.getD_cons_zero, List.getD_cons_succ, List.length_cons, List.length_nil] at h fn' fm
    obtain ⟨e1, e2⟩ := List.cons.inj h
    subst e2
    have := hr _ rfl
    rw [UInt8.lt_iff_toNat_lt, UInt8.lt_iff_toNat_lt] at this
    have k1 : (48 : UInt8).toNat = 48 := rfl
    have k2 : (57 : UInt8).toNat = 57 := rfl
    omega
  · rw [if_neg h1] at h fn'; rw [if_pos h2] at h fm
    simp only [List.cons_append, List.nil_append, List.getD_cons_zero, List.getD_cons_succ, List.length_cons, List.length_nil] at h fn' fm
    obtain ⟨e1, e2⟩ := List.cons.inj h
    subst e2
    have := hq _ rfl
    rw [UInt8.lt_iff_toNat_lt, UInt8.lt_iff_toNat_lt] at this
    have k1 : (48 : UInt8).toNat = 48 := rfl
    have k2 : (57 : UInt8).toNat = 57 := rfl
    omega
  · rw [if_neg h1] at h fn'; rw [if_neg h2] at h fm
    simp only [List.cons_append, List.nil_append, List.getD_cons_zero, List.getD_cons_succ, List.length_cons, List.length_nil] at h fn' fm
    obtain ⟨e1, e2⟩ := List.cons.inj h
    obtain ⟨e2, e3⟩ := List.cons.inj e2
    rw [e1, e2] at fn'
    exact ⟨by omega, e3⟩
theorem ndc {c : UInt8} (r : List UInt8) (h : (decide (c < 48) || decide (57 < c)) = true) : nd (c :: r) := nd_cons (by simpa using h)
theorem text_inj : ∀ (n : Nat) {u v : T} {d e : Int} {r q : List UInt8}, u.size ≤ n → u.shp d = true → v.shp e = true → nd r → nd q → u.text ++ r = v.text ++ q → u = v ∧ r = q
  | 0, u, v, d, e, r, q, hz, hu, hv, hr, hq, h => by have := u.size_eq; omega
  | n + 1, u, v, d, e, r, q, hz, hu, hv, hr, hq, h => by
    have ih : ∀ {u v : T} {d e : Int} {r q : List UInt8}, u.size ≤ n → u.shp d = true → v.shp e = true → nd r → nd q → u.text ++ r = v.text ++ q → u = v ∧ r = q := text_inj n
    have hf := frm hu
    have hg := frm hv
    clear hu hv
    cases hf <;> cases hg
    all_goals
      simp only [tx1, tx2, tx3, tx4, tx5, tx6, tx7, tx8, tx9, tx10, tx11, tx12, tx13, tx14, tx15, tx16, List.cons_append, List.append_assoc, List.nil_append] at h
      have h0 := (List.cons.inj h).1
      have h := (List.cons.inj h).2
      first | exact absurd h0 (by decide) | skip
    all_goals
      simp only [T.size, sizeL] at hz
      clear h0
      try replace h := (List.cons.inj h).2
      first
        | exact ⟨rfl, h⟩
        | (obtain ⟨e1, e2⟩ := dec_inj ⟨by assumption, by omega⟩ ⟨by assumption, by omega⟩ hr hq h; exact ⟨by rw [e1], e2⟩)
        | (obtain ⟨e1, e2⟩ := ih (by omega) (by assumption) (by assumption) hr hq h; exact ⟨by rw [e1], e2⟩)
        | (obtain ⟨e1, h⟩ := ih (by omega) (by assumption) (by assumption) (ndc _ (by decide)) (ndc _ (by decide)) h
           have h0 := (List.cons.inj h).1
           have h := (List.cons.inj h).2
           first
             | exact absurd h0 (by decide)
             | (obtain ⟨e2, e3⟩ := ih (by omega) (by assumption) (by assumption) hr hq h; exact ⟨by rw [e1, e2], e3⟩)
             | (obtain ⟨e2, h⟩ := ih (by omega) (by assumption) (by assumption) (ndc _ (by decide)) (ndc _ (by decide)) h
                have h := (List.cons.inj h).2
                first
                  | exact ⟨by rw [e1, e2], h⟩
                  | (obtain ⟨e3, h⟩ := ih (by omega) (by assumption) (by assumption) (ndc _ (by decide)) (ndc _ (by decide)) h
                     have h := (List.cons.inj h).2
                     first
                       | exact ⟨by rw [e1, e2, e3], h⟩
                       | (obtain ⟨e4, h⟩ := ih (by omega) (by assumption) (by assumption) (ndc _ (by decide)) (ndc _ (by decide)) h
                          have h := (List.cons.inj h).2
                          exact ⟨by rw [e1, e2, e3, e4], h⟩))))
theorem valid_inj {u v : T} (hu : u.valid = true) (hv : v.valid = true) (h : u.text = v.text) : u = v :=
  (text_inj u.size (Nat.le_refl _) (T.valid_shp hu) (T.valid_shp hv) nd_nil nd_nil (by rw [h])).1
end Go.Dk
