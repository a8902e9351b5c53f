/- Contracta of trees. -/
import Derived.Test.YtmeplbnophmmdaaRd
namespace Go.Dk
set_option linter.unusedVariables false
theorem valid_iff {t : T} : t.valid = true ↔ t.shp 30 = true ∧ t.size ≤ 400 := by
  unfold T.valid; rw [Bool.and_eq_true, decide_eq_true_eq]
theorem kid_valid {k n : Int} {ts : List T} (h : (T.mk k n ts).valid = true) {i : Nat} (hi : i < ts.length) : (ts.getD i default).valid = true := by
  rw [valid_iff] at h ⊢
  have := kid_ok h.1 hi
  exact ⟨T.shp_mono (by omega) this.1, by omega⟩
theorem kid_valid' {t : T} (h : t.valid = true) {i : Nat} (hi : (i : Int) < arity t.k) : i < t.kids.length ∧ (t.kids.getD i default).valid = true := by
  cases t with
  | mk k n ts =>
    have ha := valid_arity h
    have hi' : i < ts.length := by
      have : (i : Int) < arity k := hi
      omega
    exact ⟨hi', kid_valid h hi'⟩
theorem rdxK_cases {k a0 a1 a3 r : Int} (e : rdxK k a0 a1 a3 = r) (h : r ≠ 0) :
    (r = 1 ∧ k = 5 ∧ a0 = 4) ∨ (r = 2 ∧ k = 9 ∧ a3 = 7) ∨ (r = 3 ∧ k = 9 ∧ a3 = 8) ∨ (r = 4 ∧ k = 12 ∧ a1 = 11) ∨ (r = 5 ∧ k = 15 ∧ a0 = 14) ∨ (r = 6 ∧ k = 16 ∧ a0 = 14) := by
  unfold rdxK at e
  split at e
  · split at e
    · exact .inl ⟨e.symm, by assumption, by assumption⟩
    · exact absurd e.symm h
  split at e
  · split at e
    · exact .inr (.inl ⟨e.symm, by assumption, by assumption⟩)
    · split at e
      · exact .inr (.inr (.inl ⟨e.symm, by assumption, by assumption⟩))
      · exact absurd e.symm h
  split at e
  · split at e
    · exact .inr (.inr (.inr (.inl ⟨e.symm, by assumption, by assumption⟩)))
    · exact absurd e.symm h
  split at e
  · split at e
    · exact .inr (.inr (.inr (.inr (.inl ⟨e.symm, by assumption, by assumption⟩))))
    · exact absurd e.symm h
  split at e
  · split at e
    · exact .inr (.inr (.inr (.inr (.inr ⟨e.symm, by assumption, by assumption⟩))))
    · exact absurd e.symm h
  · exact absurd e.symm h
theorem rdx_cases {k n : Int} {ts : List T} (h : (T.mk k n ts).rdx ≠ 0) :
    ((T.mk k n ts).rdx = 1 ∧ k = 5 ∧ (ts.getD 0 default).k = 4) ∨ ((T.mk k n ts).rdx = 2 ∧ k = 9 ∧ (ts.getD 3 default).k = 7) ∨ ((T.mk k n ts).rdx = 3 ∧ k = 9 ∧ (ts.getD 3 default).k = 8) ∨
    ((T.mk k n ts).rdx = 4 ∧ k = 12 ∧ (ts.getD 1 default).k = 11) ∨ ((T.mk k n ts).rdx = 5 ∧ k = 15 ∧ (ts.getD 0 default).k = 14) ∨ ((T.mk k n ts).rdx = 6 ∧ k = 16 ∧ (ts.getD 0 default).k = 14) :=
  rdxK_cases rfl h
/-- The contractum of a redex. -/
def T.ctr (t : T) : T :=
  if t.rdx = 1 then ((t.kids.getD 0 default).kids.getD 1 default).mv (sbf 0 (t.kids.getD 1 default)) 0
  else if t.rdx = 2 then t.kids.getD 1 default
  else if t.rdx = 3 then .mk 5 0 [.mk 5 0 [t.kids.getD 2 default, (t.kids.getD 3 default).kids.getD 0 default], .mk 9 0 [t.kids.getD 0 default, t.kids.getD 1 default, t.kids.getD 2 default, (t.kids.getD 3 default).kids.getD 0 default]]
  else if t.rdx = 4 then t.kids.getD 2 default
  else if t.rdx = 5 then (t.kids.getD 0 default).kids.getD 1 default
  else (t.kids.getD 0 default).kids.getD 2 default
def T.coO (t : T) : Bool := decide (t.rdx ≠ 0) && t.ctr.valid
def T.coR (t : T) : T := if t.coO = true then t.ctr else .mk 0 0 []
def T.CoO (t : T) : Bool := t.valid && t.coO
def T.CoR (t : T) : T := if t.CoO = true then t.ctr else .mk 0 0 []
theorem coR_small (t : T) : sizeL t.coR.kids ≤ 400 := by
  unfold T.coR
  split
  · rename_i h
    unfold T.coO at h
    rw [Bool.and_eq_true] at h
    exact small_of h.2
  · exact small_zero
theorem CoR_small (t : T) : sizeL t.CoR.kids ≤ 400 := by
  unfold T.CoR
  split
  · rename_i h
    unfold T.CoO T.coO at h
    rw [Bool.and_eq_true, Bool.and_eq_true] at h
    exact small_of h.2.2
  · exact small_zero
end Go.Dk
