/- Redexes and contracta of trees. -/
import Derived.Test.YtmeplbnophmmdaaTh2
namespace Go.Dk
set_option linter.unusedVariables false
def rdxK (k a0 a1 a3 : Int) : Int :=
  if k = 5 then (if a0 = 4 then 1 else 0)
  else if k = 9 then (if a3 = 7 then 2 else if a3 = 8 then 3 else 0)
  else if k = 12 then (if a1 = 11 then 4 else 0)
  else if k = 15 then (if a0 = 14 then 5 else 0)
  else if k = 16 then (if a0 = 14 then 6 else 0)
  else 0
/-- What kind of redex the root is. -/
def T.rdx : T → Int
  | .mk k _ ts => rdxK k (ts.getD 0 default).k (ts.getD 1 default).k (ts.getD 3 default).k
theorem shp_arity {k n : Int} {ts : List T} {d : Int} (h : (T.mk k n ts).shp d = true) : arity k = ts.length := (T.shp_root h).1
theorem valid_arity {k n : Int} {ts : List T} (h : (T.mk k n ts).valid = true) : arity k = ts.length := by
  unfold T.valid at h
  rw [Bool.and_eq_true] at h
  exact shp_arity h.1
theorem valid_shp {t : T} (h : t.valid = true) : t.shp 30 = true := by
  unfold T.valid at h
  rw [Bool.and_eq_true] at h
  exact h.1
theorem kid_ok {k n : Int} {ts : List T} {d : Int} (h : (T.mk k n ts).shp d = true) {i : Nat} (hi : i < ts.length) : (ts.getD i default).shp (d - 1) = true ∧ (ts.getD i default).size < (T.mk k n ts).size := by
  refine ⟨shpL_mem (T.shp_kids h) (getD_mem hi), ?_⟩
  have := sizeL_mem (getD_mem hi)
  have e : (T.mk k n ts).size = 1 + sizeL ts := rfl
  omega
mutual
/-- How many redexes. -/
def T.crd : T → Int
  | .mk k n ts => (if (T.mk k n ts).rdx ≠ 0 then 1 else 0) + crdL ts
def crdL : List T → Int
  | [] => 0
  | t :: ts => t.crd + crdL ts
end
mutual
/-- No redex. -/
def T.nrm : T → Bool
  | .mk k n ts => nrmL ts && decide ((T.mk k n ts).rdx = 0)
def nrmL : List T → Bool
  | [] => true
  | t :: ts => t.nrm && nrmL ts
end
mutual
theorem T.crd_range : ∀ (t : T), 0 ≤ t.crd ∧ t.crd ≤ t.size
  | .mk k n ts => by
    unfold T.crd T.size
    have := crdL_range ts
    split <;> omega
theorem crdL_range : ∀ (ts : List T), 0 ≤ crdL ts ∧ crdL ts ≤ sizeL ts
  | [] => by simp [crdL, sizeL]
  | t :: ts => by
    simp only [crdL, sizeL]
    have := T.crd_range t
    have := crdL_range ts
    omega
end
mutual
/-- The way to the first redex from outside. -/
def T.outw : T → List Int
  | .mk k n ts => if (T.mk k n ts).rdx ≠ 0 then [] else outwL ts 0
def outwL : List T → Nat → List Int
  | [], _ => []
  | t :: ts, i => if t.nrm then outwL ts (i + 1) else (i : Int) :: t.outw
end
mutual
theorem T.outw_len : ∀ (t : T), t.outw.length ≤ t.size
  | .mk k n ts => by
    unfold T.outw T.size
    split
    · simp
    · have := outwL_len ts 0; omega
theorem outwL_len : ∀ (ts : List T) (i : Nat), (outwL ts i).length ≤ sizeL ts + 1
  | [], _ => by simp [outwL]
  | t :: ts, i => by
    simp only [outwL, sizeL]
    have := T.outw_len t
    have := outwL_len ts (i + 1)
    split <;> simp <;> omega
end
theorem outwL_drop {ts : List T} {i : Nat} (h : i < ts.length) : outwL (ts.drop i) i = if (ts.getD i default).nrm then outwL (ts.drop (i + 1)) (i + 1) else (i : Int) :: (ts.getD i default).outw := by
  rw [List.drop_eq_getElem_cons h, outwL, List.getD_eq_getElem?_getD, List.getElem?_eq_getElem h]; rfl
theorem crdL_drop {ts : List T} {i : Nat} (h : i < ts.length) : crdL (ts.drop i) = (ts.getD i default).crd + crdL (ts.drop (i + 1)) := by
  rw [List.drop_eq_getElem_cons h, crdL, List.getD_eq_getElem?_getD, List.getElem?_eq_getElem h]; rfl
theorem nrmL_drop {ts : List T} {i : Nat} (h : i < ts.length) : nrmL (ts.drop i) = ((ts.getD i default).nrm && nrmL (ts.drop (i + 1))) := by
  rw [List.drop_eq_getElem_cons h, nrmL, List.getD_eq_getElem?_getD, List.getElem?_eq_getElem h]; rfl
end Go.Dk
