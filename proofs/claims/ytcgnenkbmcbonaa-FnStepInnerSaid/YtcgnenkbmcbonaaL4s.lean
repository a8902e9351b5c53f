/- Steps and reductions: the reference's functions. -/
import Derived.Test.YtcgnenkbmcbonaaCs
import Derived.Test.YtcgnenkbmcbonaaSt2
namespace Go.Dk
set_option linter.unusedVariables false
open Go.Proofs
def plB (b : Bool) : Pl := match b with | true => plI | false => plO
/-- spec.l3With -/
def csWith : Con
  | [.st [.int .i64 k, .int .i64 n, .slc ts (.arg 0)], .int .i64 (i), .st [.int .i64 ku, .int .i64 nu, .slc us (.arg 2)]], [], K => (((0 ≤ i ∧ i < ts.length) ∧ sizeL ts ≤ 1000000)) ∧ ((K ((T.mk k n (ts.set i.toNat (.mk ku nu us))).av (.iv 4 6 false .no)) []))
  | _, _, _ => False
theorem sWith_ok (k n : Int) (ts : List T) (i : Int) (ku nu : Int) (us : List T) (K : AV → List AV → Prop) (hp : (((0 ≤ i ∧ i < ts.length) ∧ sizeL ts ≤ 1000000))) (hk : ((K ((T.mk k n (ts.set i.toNat (.mk ku nu us))).av (.iv 4 6 false .no)) []))) :
    bodyQ [(70, csCopy)] TY [(3, { ι := Nat, ok := fun x => x ≤ ts.length, tl := fun x => [(1, .int .i64 (i)), (3, .ptr 3), (5, .ptr 5), (6, .ptr 6), (7, .ptr 7), (8, .int .i64 x)], hl := fun x => [(3, .st [.int .i64 k, .int .i64 n, .slc ts (.arg 0)]), (5, .st [.int .i64 ku, .int .i64 nu, .slc us (.arg 2)]), (6, (T.mk 0 0 []).av (.iv 0 0 true .full)), (7, .st [.int .i64 k, .int .i64 n, .slc ((ts.set i.toNat (.mk ku nu us)).take x) (.iv 4 6 false (.tok 7))])], fh := fun _ => [], μ := fun x => ts.length - x }), (1000004, retagL 7)] Try.f93 (body Try.f93) [.st [.int .i64 k, .int .i64 n, .slc ts (.arg 0)], .int .i64 (i), .st [.int .i64 ku, .int .i64 nu, .slc us (.arg 2)]] [] K := by
  refine of_vc (A :=
    ((∃ x : Nat,
     ((x ≤ (List.length ts)) ∧
     ((i = i) ∧
     (((0 : Int) = ((x : Nat) : Int)) ∧
     ((k = k) ∧
     ((n = n) ∧
     ((ts = ts) ∧
     ((ku = ku) ∧
     ((nu = nu) ∧
     ((us = us) ∧
     (((0 : Int) = (0 : Int)) ∧
     (((0 : Int) = (0 : Int)) ∧
     ((([] : List T) = ([] : List T)) ∧ ((k = k) ∧ ((n = n) ∧ ((([] : List T) = (List.take x (List.set ts (Int.toNat i) (T.mk ku nu us)))) ∧ True)))))))))))))))) ∧
     (∀ x : Nat,
     ((x ≤ (List.length ts)) →
     (Br (Decidable.decide (((x : Nat) : Int) < (((List.length ts) : Nat) : Int)))
     (Br (Decidable.decide (((x : Nat) : Int) = i))
     ((((((List.length (List.take x (List.set ts (Int.toNat i) (T.mk ku nu us)))) : Nat) : Int) + (1 : Int)) ≤ (1099511627776 : Int)) ∧
     ((InR (((x : Nat) : Int) + (1 : Int))) ∧
     (∃ y : Nat,
     ((y ≤ (List.length ts)) ∧
     ((i = i) ∧
     (((((x : Nat) : Int) + (1 : Int)) = ((y : Nat) : Int)) ∧
     ((k = k) ∧
     ((n = n) ∧
     ((ts = ts) ∧
     ((ku = ku) ∧
     ((nu = nu) ∧
     ((us = us) ∧
     (((0 : Int) = (0 : Int)) ∧
     (((0 : Int) = (0 : Int)) ∧
     ((([] : List T) = ([] : List T)) ∧
     ((k = k) ∧
     ((n = n) ∧
     ((((List.take x (List.set ts (Int.toNat i) (T.mk ku nu us))) ++ [(T.mk ku nu us)]) = (List.take y (List.set ts (Int.toNat i) (T.mk ku nu us)))) ∧
     ((Nat.succ ((List.length ts) - y)) ≤ ((List.length ts) - x))))))))))))))))))))
     ((((0 : Int) ≤ ((x : Nat) : Int)) ∧ (((x : Nat) : Int) < (((List.length ts) : Nat) : Int))) ∧
     (((sizeL (T.kids (List.getD ts (Int.toNat ((x : Nat) : Int)) default))) ≤ (1048576 : Nat)) ∧
     (((List.take x (List.set ts (Int.toNat i) (T.mk ku nu us))) = (List.take x (List.set ts (Int.toNat i) (T.mk ku nu us)))) ∧
     ((((((List.length (List.take x (List.set ts (Int.toNat i) (T.mk ku nu us)))) : Nat) : Int) + (1 : Int)) ≤ (1099511627776 : Int)) ∧
     ((InR (((x : Nat) : Int) + (1 : Int))) ∧
     (∃ y : Nat,
     ((y ≤ (List.length ts)) ∧
     ((i = i) ∧
     (((((x : Nat) : Int) + (1 : Int)) = ((y : Nat) : Int)) ∧
     ((k = k) ∧
     ((n = n) ∧
     ((ts = ts) ∧
     ((ku = ku) ∧
     ((nu = nu) ∧
     ((us = us) ∧
     (((0 : Int) = (0 : Int)) ∧
     (((0 : Int) = (0 : Int)) ∧
     ((([] : List T) = ([] : List T)) ∧
     ((k = k) ∧
     ((n = n) ∧
     ((((List.take x (List.set ts (Int.toNat i) (T.mk ku nu us))) ++ [(T.mk (T.k (T.mk (T.k (List.getD ts (Int.toNat ((x : Nat) : Int)) default)) (T.n (List.getD ts (Int.toNat ((x : Nat) : Int)) default)) (T.kids (List.getD ts (Int.toNat ((x : Nat) : Int)) default)))) (T.n (T.mk (T.k (List.getD ts (Int.toNat ((x : Nat) : Int)) default)) (T.n (List.getD ts (Int.toNat ((x : Nat) : Int)) default)) (T.kids (List.getD ts (Int.toNat ((x : Nat) : Int)) default)))) (T.kids (T.mk (T.k (List.getD ts (Int.toNat ((x : Nat) : Int)) default)) (T.n (List.getD ts (Int.toNat ((x : Nat) : Int)) default)) (T.kids (List.getD ts (Int.toNat ((x : Nat) : Int)) default)))))]) = (List.take y (List.set ts (Int.toNat i) (T.mk ku nu us)))) ∧
     ((Nat.succ ((List.length ts) - y)) ≤ ((List.length ts) - x))))))))))))))))))))))))
     (Ret K (.st [(.int .i64 k), (.int .i64 n), (.slc (List.take x (List.set ts (Int.toNat i) (T.mk ku nu us))) (.iv 4 6 false (.tok 0)))]) [])))))) ?_ (by kernel_rfl)
  obtain ⟨⟨i0, i1⟩, hs⟩ := hp
  have hll := length_le_sizeL ts
  refine ⟨⟨0, Nat.zero_le _, (by repeat' first | trivial | rfl | (simp; done) | apply And.intro)⟩, fun x hx => br (fun h => br (fun h2 => ?_) (fun h2 => ?_)) (fun h => ?_)⟩
  · have hi : x < ts.length := by simpa using h
    have h2 := of_decide_eq_true h2
    have e := take_succ_getD (ts := ts.set i.toNat (.mk ku nu us)) (i := x) (by simp; omega)
    have g : (ts.set i.toNat (.mk ku nu us)).getD x default = .mk ku nu us := by
      rw [show i.toNat = x by omega, List.getD_eq_getElem?_getD, List.getElem?_set_self (by omega)]; rfl
    rw [g] at e
    refine ⟨by rw [List.length_take]; omega, inR_succ hi (by omega), x + 1, ?_⟩
    repeat' first | trivial | rfl | omega | exact e.symm | apply And.intro
  · have hi : x < ts.length := by simpa using h
    have h2 := of_decide_eq_false h2
    have e := take_succ_getD (ts := ts.set i.toNat (.mk ku nu us)) (i := x) (by simp; omega)
    rw [getD_set_ne (show i.toNat ≠ x by omega)] at e
    have hz := sizeL_mem (getD_mem hi)
    rw [T.size_eq] at hz
    simp only [Int.toNat_natCast, T.eta]
    refine ⟨⟨by omega, by omega⟩, by omega, (by first | trivial | rfl | (simp; done)), by rw [List.length_take]; omega, inR_succ hi (by omega), x + 1, ?_⟩
    repeat' first | trivial | rfl | omega | exact e.symm | apply And.intro
  · have hi : ¬ x < ts.length := by simpa using h
    exact retT hk (by rw [List.take_of_length_le (by simp; omega)])
theorem sWith_sound : Sound Try.prog 93 csWith := by
  refine soundF (G := [(70, csCopy)]) ((gcons sCopy_sound gnil)) Try.func93 rfl (by kernel_rfl) fun args hs K hCC => ?_
  unfold csWith at hCC
  split at hCC
  case h_2 => exact hCC.elim
  rename_i k n ts i ku nu us
  exact ⟨Nat.le_of_ble_eq_true rfl, _, sWith_ok k n ts i ku nu us K hCC.1 hCC.2⟩
/-- spec.l3Step -/
def csStepM (m : Nat) : Con
  | [.st [.int .i64 k, .int .i64 n, .slc ts (.arg 0)], .bool b], [], K => (((T.mk k n ts).size) < m ∧ (((T.mk k n ts).valid = true))) ∧ ((((plB b).o (T.mk k n ts) = true → K (.tup [((T.mk k n ts).stp ((plB b).w (T.mk k n ts))).av fs, .bool true]) []) ∧ ((plB b).o (T.mk k n ts) = false → K (.tup [(T.mk k n ts).av fs, .bool false]) [])))
  | _, _, _ => False
def csStep : Con
  | [.st [.int .i64 k, .int .i64 n, .slc ts (.arg 0)], .bool b], [], K => (((T.mk k n ts).valid = true)) ∧ ((((plB b).o (T.mk k n ts) = true → K (.tup [((T.mk k n ts).stp ((plB b).w (T.mk k n ts))).av fs, .bool true]) []) ∧ ((plB b).o (T.mk k n ts) = false → K (.tup [(T.mk k n ts).av fs, .bool false]) [])))
  | _, _, _ => False
theorem sStep_ok (m : Nat) (k n : Int) (ts : List T) (b : Bool) (K : AV → List AV → Prop) (hm : ((T.mk k n ts).size) < m + 1) (hp : (((T.mk k n ts).valid = true))) (hk : ((((plB b).o (T.mk k n ts) = true → K (.tup [((T.mk k n ts).stp ((plB b).w (T.mk k n ts))).av fs, .bool true]) []) ∧ ((plB b).o (T.mk k n ts) = false → K (.tup [(T.mk k n ts).av fs, .bool false]) [])))) :
    bodyQ [(69, csStepM m), (78, csRedex), (53, csContract), (93, csWith)] TY [(4, { ι := Nat, ok := fun x => x ≤ ts.length ∧ nrmL ts = nrmL (ts.drop x) ∧ outwL ts 0 = outwL (ts.drop x) x ∧ innwL ts 0 = innwL (ts.drop x) x, tl := fun x => [(1, .bool b), (2, .ptr 2), (4, .ptr 4), (6, .int .i64 x)], hl := fun x => [(2, .st [.int .i64 k, .int .i64 n, .slc ts (.arg 0)]), (4, (T.mk 0 0 []).av (.iv 0 0 true .full))], fh := fun _ => [], μ := fun x => ts.length - x })] Try.f69 (body Try.f69) [.st [.int .i64 k, .int .i64 n, .slc ts (.arg 0)], .bool b] [] K := by
  refine of_vc (A :=
    (Br (Bool.not b)
     (((arity k) = (((List.length ts) : Nat) : Int)) ∧
     (Br (Decidable.decide ((T.rdx (T.mk k n ts)) ≠ (0 : Int)))
     ((((T.valid (T.mk k n ts)) = true) ∧ ((T.rdx (T.mk k n ts)) ≠ (0 : Int))) ∧
     (Ret K (.tup [(.st [(.int .i64 (T.k (T.ctr (T.mk k n ts)))), (.int .i64 (T.n (T.ctr (T.mk k n ts)))), (.slc (T.kids (T.ctr (T.mk k n ts))) (.iv 4 7 false .no))]), (.bool true)]) []))
     ((∃ x : Nat,
     (((x ≤ (List.length ts)) ∧
     (((nrmL ts) = (nrmL (List.drop x ts))) ∧ (((outwL ts (0 : Nat)) = (outwL (List.drop x ts) x)) ∧ ((innwL ts (0 : Nat)) = (innwL (List.drop x ts) x))))) ∧
     ((b = b) ∧
     (((0 : Int) = ((x : Nat) : Int)) ∧
     ((k = k) ∧ ((n = n) ∧ ((ts = ts) ∧ (((0 : Int) = (0 : Int)) ∧ (((0 : Int) = (0 : Int)) ∧ ((([] : List T) = ([] : List T)) ∧ True)))))))))) ∧
     (∀ x : Nat,
     (((x ≤ (List.length ts)) ∧ (((nrmL ts) = (nrmL (List.drop x ts))) ∧ (((outwL ts (0 : Nat)) = (outwL (List.drop x ts) x)) ∧ ((innwL ts (0 : Nat)) = (innwL (List.drop x ts) x))))) →
     (Br (Decidable.decide (((x : Nat) : Int) < (((List.length ts) : Nat) : Int)))
     ((((0 : Int) ≤ ((x : Nat) : Int)) ∧ (((x : Nat) : Int) < (((List.length ts) : Nat) : Int))) ∧
     ((((T.size (T.mk (T.k (List.getD ts (Int.toNat ((x : Nat) : Int)) default)) (T.n (List.getD ts (Int.toNat ((x : Nat) : Int)) default)) (T.kids (List.getD ts (Int.toNat ((x : Nat) : Int)) default)))) < m) ∧
     ((T.valid (T.mk (T.k (List.getD ts (Int.toNat ((x : Nat) : Int)) default)) (T.n (List.getD ts (Int.toNat ((x : Nat) : Int)) default)) (T.kids (List.getD ts (Int.toNat ((x : Nat) : Int)) default)))) = true)) ∧
     ((((Pl.o (plB b) (T.mk (T.k (List.getD ts (Int.toNat ((x : Nat) : Int)) default)) (T.n (List.getD ts (Int.toNat ((x : Nat) : Int)) default)) (T.kids (List.getD ts (Int.toNat ((x : Nat) : Int)) default)))) = true) →
     (((((0 : Int) ≤ ((x : Nat) : Int)) ∧ (((x : Nat) : Int) < (((List.length ts) : Nat) : Int))) ∧ ((sizeL ts) ≤ (1000000 : Nat))) ∧
     (Ret K (.tup [(.st [(.int .i64 (T.k (T.mk k n (List.set ts (Int.toNat ((x : Nat) : Int)) (T.mk (T.k (T.stp (T.mk (T.k (List.getD ts (Int.toNat ((x : Nat) : Int)) default)) (T.n (List.getD ts (Int.toNat ((x : Nat) : Int)) default)) (T.kids (List.getD ts (Int.toNat ((x : Nat) : Int)) default))) (Pl.w (plB b) (T.mk (T.k (List.getD ts (Int.toNat ((x : Nat) : Int)) default)) (T.n (List.getD ts (Int.toNat ((x : Nat) : Int)) default)) (T.kids (List.getD ts (Int.toNat ((x : Nat) : Int)) default)))))) (T.n (T.stp (T.mk (T.k (List.getD ts (Int.toNat ((x : Nat) : Int)) default)) (T.n (List.getD ts (Int.toNat ((x : Nat) : Int)) default)) (T.kids (List.getD ts (Int.toNat ((x : Nat) : Int)) default))) (Pl.w (plB b) (T.mk (T.k (List.getD ts (Int.toNat ((x : Nat) : Int)) default)) (T.n (List.getD ts (Int.toNat ((x : Nat) : Int)) default)) (T.kids (List.getD ts (Int.toNat ((x : Nat) : Int)) default)))))) (T.kids (T.stp (T.mk (T.k (List.getD ts (Int.toNat ((x : Nat) : Int)) default)) (T.n (List.getD ts (Int.toNat ((x : Nat) : Int)) default)) (T.kids (List.getD ts (Int.toNat ((x : Nat) : Int)) default))) (Pl.w (plB b) (T.mk (T.k (List.getD ts (Int.toNat ((x : Nat) : Int)) default)) (T.n (List.getD ts (Int.toNat ((x : Nat) : Int)) default)) (T.kids (List.getD ts (Int.toNat ((x : Nat) : Int)) default))))))))))), (.int .i64 (T.n (T.mk k n (List.set ts (Int.toNat ((x : Nat) : Int)) (T.mk (T.k (T.stp (T.mk (T.k (List.getD ts (Int.toNat ((x : Nat) : Int)) default)) (T.n (List.getD ts (Int.toNat ((x : Nat) : Int)) default)) (T.kids (List.getD ts (Int.toNat ((x : Nat) : Int)) default))) (Pl.w (plB b) (T.mk (T.k (List.getD ts (Int.toNat ((x : Nat) : Int)) default)) (T.n (List.getD ts (Int.toNat ((x : Nat) : Int)) default)) (T.kids (List.getD ts (Int.toNat ((x : Nat) : Int)) default)))))) (T.n (T.stp (T.mk (T.k (List.getD ts (Int.toNat ((x : Nat) : Int)) default)) (T.n (List.getD ts (Int.toNat ((x : Nat) : Int)) default)) (T.kids (List.getD ts (Int.toNat ((x : Nat) : Int)) default))) (Pl.w (plB b) (T.mk (T.k (List.getD ts (Int.toNat ((x : Nat) : Int)) default)) (T.n (List.getD ts (Int.toNat ((x : Nat) : Int)) default)) (T.kids (List.getD ts (Int.toNat ((x : Nat) : Int)) default)))))) (T.kids (T.stp (T.mk (T.k (List.getD ts (Int.toNat ((x : Nat) : Int)) default)) (T.n (List.getD ts (Int.toNat ((x : Nat) : Int)) default)) (T.kids (List.getD ts (Int.toNat ((x : Nat) : Int)) default))) (Pl.w (plB b) (T.mk (T.k (List.getD ts (Int.toNat ((x : Nat) : Int)) default)) (T.n (List.getD ts (Int.toNat ((x : Nat) : Int)) default)) (T.kids (List.getD ts (Int.toNat ((x : Nat) : Int)) default))))))))))), (.slc (T.kids (T.mk k n (List.set ts (Int.toNat ((x : Nat) : Int)) (T.mk (T.k (T.stp (T.mk (T.k (List.getD ts (Int.toNat ((x : Nat) : Int)) default)) (T.n (List.getD ts (Int.toNat ((x : Nat) : Int)) default)) (T.kids (List.getD ts (Int.toNat ((x : Nat) : Int)) default))) (Pl.w (plB b) (T.mk (T.k (List.getD ts (Int.toNat ((x : Nat) : Int)) default)) (T.n (List.getD ts (Int.toNat ((x : Nat) : Int)) default)) (T.kids (List.getD ts (Int.toNat ((x : Nat) : Int)) default)))))) (T.n (T.stp (T.mk (T.k (List.getD ts (Int.toNat ((x : Nat) : Int)) default)) (T.n (List.getD ts (Int.toNat ((x : Nat) : Int)) default)) (T.kids (List.getD ts (Int.toNat ((x : Nat) : Int)) default))) (Pl.w (plB b) (T.mk (T.k (List.getD ts (Int.toNat ((x : Nat) : Int)) default)) (T.n (List.getD ts (Int.toNat ((x : Nat) : Int)) default)) (T.kids (List.getD ts (Int.toNat ((x : Nat) : Int)) default)))))) (T.kids (T.stp (T.mk (T.k (List.getD ts (Int.toNat ((x : Nat) : Int)) default)) (T.n (List.getD ts (Int.toNat ((x : Nat) : Int)) default)) (T.kids (List.getD ts (Int.toNat ((x : Nat) : Int)) default))) (Pl.w (plB b) (T.mk (T.k (List.getD ts (Int.toNat ((x : Nat) : Int)) default)) (T.n (List.getD ts (Int.toNat ((x : Nat) : Int)) default)) (T.kids (List.getD ts (Int.toNat ((x : Nat) : Int)) default)))))))))) (.iv 4 7 false .no))]), (.bool true)]) []))) ∧
     (((Pl.o (plB b) (T.mk (T.k (List.getD ts (Int.toNat ((x : Nat) : Int)) default)) (T.n (List.getD ts (Int.toNat ((x : Nat) : Int)) default)) (T.kids (List.getD ts (Int.toNat ((x : Nat) : Int)) default)))) = false) →
     ((InR (((x : Nat) : Int) + (1 : Int))) ∧
     (∃ y : Nat,
     (((y ≤ (List.length ts)) ∧
     (((nrmL ts) = (nrmL (List.drop y ts))) ∧ (((outwL ts (0 : Nat)) = (outwL (List.drop y ts) y)) ∧ ((innwL ts (0 : Nat)) = (innwL (List.drop y ts) y))))) ∧
     ((b = b) ∧
     (((((x : Nat) : Int) + (1 : Int)) = ((y : Nat) : Int)) ∧
     ((k = k) ∧
     ((n = n) ∧
     ((ts = ts) ∧
     (((0 : Int) = (0 : Int)) ∧ (((0 : Int) = (0 : Int)) ∧ ((([] : List T) = ([] : List T)) ∧ ((Nat.succ ((List.length ts) - y)) ≤ ((List.length ts) - x)))))))))))))))))
     (Br b
     (((arity k) = (((List.length ts) : Nat) : Int)) ∧
     (Br (Decidable.decide ((T.rdx (T.mk k n ts)) ≠ (0 : Int)))
     ((((T.valid (T.mk k n ts)) = true) ∧ ((T.rdx (T.mk k n ts)) ≠ (0 : Int))) ∧
     (Ret K (.tup [(.st [(.int .i64 (T.k (T.ctr (T.mk k n ts)))), (.int .i64 (T.n (T.ctr (T.mk k n ts)))), (.slc (T.kids (T.ctr (T.mk k n ts))) (.iv 4 7 false .no))]), (.bool true)]) []))
     (Ret K (.tup [(.st [(.int .i64 k), (.int .i64 n), (.slc ts (.arg 0))]), (.bool false)]) [])))
     (Ret K (.tup [(.st [(.int .i64 k), (.int .i64 n), (.slc ts (.arg 0))]), (.bool false)]) []))))))))
     ((∃ x : Nat,
     (((x ≤ (List.length ts)) ∧
     (((nrmL ts) = (nrmL (List.drop x ts))) ∧ (((outwL ts (0 : Nat)) = (outwL (List.drop x ts) x)) ∧ ((innwL ts (0 : Nat)) = (innwL (List.drop x ts) x))))) ∧
     ((b = b) ∧
     (((0 : Int) = ((x : Nat) : Int)) ∧
     ((k = k) ∧ ((n = n) ∧ ((ts = ts) ∧ (((0 : Int) = (0 : Int)) ∧ (((0 : Int) = (0 : Int)) ∧ ((([] : List T) = ([] : List T)) ∧ True)))))))))) ∧
     (∀ x : Nat,
     (((x ≤ (List.length ts)) ∧ (((nrmL ts) = (nrmL (List.drop x ts))) ∧ (((outwL ts (0 : Nat)) = (outwL (List.drop x ts) x)) ∧ ((innwL ts (0 : Nat)) = (innwL (List.drop x ts) x))))) →
     (Br (Decidable.decide (((x : Nat) : Int) < (((List.length ts) : Nat) : Int)))
     ((((0 : Int) ≤ ((x : Nat) : Int)) ∧ (((x : Nat) : Int) < (((List.length ts) : Nat) : Int))) ∧
     ((((T.size (T.mk (T.k (List.getD ts (Int.toNat ((x : Nat) : Int)) default)) (T.n (List.getD ts (Int.toNat ((x : Nat) : Int)) default)) (T.kids (List.getD ts (Int.toNat ((x : Nat) : Int)) default)))) < m) ∧
     ((T.valid (T.mk (T.k (List.getD ts (Int.toNat ((x : Nat) : Int)) default)) (T.n (List.getD ts (Int.toNat ((x : Nat) : Int)) default)) (T.kids (List.getD ts (Int.toNat ((x : Nat) : Int)) default)))) = true)) ∧
     ((((Pl.o (plB b) (T.mk (T.k (List.getD ts (Int.toNat ((x : Nat) : Int)) default)) (T.n (List.getD ts (Int.toNat ((x : Nat) : Int)) default)) (T.kids (List.getD ts (Int.toNat ((x : Nat) : Int)) default)))) = true) →
     (((((0 : Int) ≤ ((x : Nat) : Int)) ∧ (((x : Nat) : Int) < (((List.length ts) : Nat) : Int))) ∧ ((sizeL ts) ≤ (1000000 : Nat))) ∧
     (Ret K (.tup [(.st [(.int .i64 (T.k (T.mk k n (List.set ts (Int.toNat ((x : Nat) : Int)) (T.mk (T.k (T.stp (T.mk (T.k (List.getD ts (Int.toNat ((x : Nat) : Int)) default)) (T.n (List.getD ts (Int.toNat ((x : Nat) : Int)) default)) (T.kids (List.getD ts (Int.toNat ((x : Nat) : Int)) default))) (Pl.w (plB b) (T.mk (T.k (List.getD ts (Int.toNat ((x : Nat) : Int)) default)) (T.n (List.getD ts (Int.toNat ((x : Nat) : Int)) default)) (T.kids (List.getD ts (Int.toNat ((x : Nat) : Int)) default)))))) (T.n (T.stp (T.mk (T.k (List.getD ts (Int.toNat ((x : Nat) : Int)) default)) (T.n (List.getD ts (Int.toNat ((x : Nat) : Int)) default)) (T.kids (List.getD ts (Int.toNat ((x : Nat) : Int)) default))) (Pl.w (plB b) (T.mk (T.k (List.getD ts (Int.toNat ((x : Nat) : Int)) default)) (T.n (List.getD ts (Int.toNat ((x : Nat) : Int)) default)) (T.kids (List.getD ts (Int.toNat ((x : Nat) : Int)) default)))))) (T.kids (T.stp (T.mk (T.k (List.getD ts (Int.toNat ((x : Nat) : Int)) default)) (T.n (List.getD ts (Int.toNat ((x : Nat) : Int)) default)) (T.kids (List.getD ts (Int.toNat ((x : Nat) : Int)) default))) (Pl.w (plB b) (T.mk (T.k (List.getD ts (Int.toNat ((x : Nat) : Int)) default)) (T.n (List.getD ts (Int.toNat ((x : Nat) : Int)) default)) (T.kids (List.getD ts (Int.toNat ((x : Nat) : Int)) default))))))))))), (.int .i64 (T.n (T.mk k n (List.set ts (Int.toNat ((x : Nat) : Int)) (T.mk (T.k (T.stp (T.mk (T.k (List.getD ts (Int.toNat ((x : Nat) : Int)) default)) (T.n (List.getD ts (Int.toNat ((x : Nat) : Int)) default)) (T.kids (List.getD ts (Int.toNat ((x : Nat) : Int)) default))) (Pl.w (plB b) (T.mk (T.k (List.getD ts (Int.toNat ((x : Nat) : Int)) default)) (T.n (List.getD ts (Int.toNat ((x : Nat) : Int)) default)) (T.kids (List.getD ts (Int.toNat ((x : Nat) : Int)) default)))))) (T.n (T.stp (T.mk (T.k (List.getD ts (Int.toNat ((x : Nat) : Int)) default)) (T.n (List.getD ts (Int.toNat ((x : Nat) : Int)) default)) (T.kids (List.getD ts (Int.toNat ((x : Nat) : Int)) default))) (Pl.w (plB b) (T.mk (T.k (List.getD ts (Int.toNat ((x : Nat) : Int)) default)) (T.n (List.getD ts (Int.toNat ((x : Nat) : Int)) default)) (T.kids (List.getD ts (Int.toNat ((x : Nat) : Int)) default)))))) (T.kids (T.stp (T.mk (T.k (List.getD ts (Int.toNat ((x : Nat) : Int)) default)) (T.n (List.getD ts (Int.toNat ((x : Nat) : Int)) default)) (T.kids (List.getD ts (Int.toNat ((x : Nat) : Int)) default))) (Pl.w (plB b) (T.mk (T.k (List.getD ts (Int.toNat ((x : Nat) : Int)) default)) (T.n (List.getD ts (Int.toNat ((x : Nat) : Int)) default)) (T.kids (List.getD ts (Int.toNat ((x : Nat) : Int)) default))))))))))), (.slc (T.kids (T.mk k n (List.set ts (Int.toNat ((x : Nat) : Int)) (T.mk (T.k (T.stp (T.mk (T.k (List.getD ts (Int.toNat ((x : Nat) : Int)) default)) (T.n (List.getD ts (Int.toNat ((x : Nat) : Int)) default)) (T.kids (List.getD ts (Int.toNat ((x : Nat) : Int)) default))) (Pl.w (plB b) (T.mk (T.k (List.getD ts (Int.toNat ((x : Nat) : Int)) default)) (T.n (List.getD ts (Int.toNat ((x : Nat) : Int)) default)) (T.kids (List.getD ts (Int.toNat ((x : Nat) : Int)) default)))))) (T.n (T.stp (T.mk (T.k (List.getD ts (Int.toNat ((x : Nat) : Int)) default)) (T.n (List.getD ts (Int.toNat ((x : Nat) : Int)) default)) (T.kids (List.getD ts (Int.toNat ((x : Nat) : Int)) default))) (Pl.w (plB b) (T.mk (T.k (List.getD ts (Int.toNat ((x : Nat) : Int)) default)) (T.n (List.getD ts (Int.toNat ((x : Nat) : Int)) default)) (T.kids (List.getD ts (Int.toNat ((x : Nat) : Int)) default)))))) (T.kids (T.stp (T.mk (T.k (List.getD ts (Int.toNat ((x : Nat) : Int)) default)) (T.n (List.getD ts (Int.toNat ((x : Nat) : Int)) default)) (T.kids (List.getD ts (Int.toNat ((x : Nat) : Int)) default))) (Pl.w (plB b) (T.mk (T.k (List.getD ts (Int.toNat ((x : Nat) : Int)) default)) (T.n (List.getD ts (Int.toNat ((x : Nat) : Int)) default)) (T.kids (List.getD ts (Int.toNat ((x : Nat) : Int)) default)))))))))) (.iv 4 7 false .no))]), (.bool true)]) []))) ∧
     (((Pl.o (plB b) (T.mk (T.k (List.getD ts (Int.toNat ((x : Nat) : Int)) default)) (T.n (List.getD ts (Int.toNat ((x : Nat) : Int)) default)) (T.kids (List.getD ts (Int.toNat ((x : Nat) : Int)) default)))) = false) →
     ((InR (((x : Nat) : Int) + (1 : Int))) ∧
     (∃ y : Nat,
     (((y ≤ (List.length ts)) ∧
     (((nrmL ts) = (nrmL (List.drop y ts))) ∧ (((outwL ts (0 : Nat)) = (outwL (List.drop y ts) y)) ∧ ((innwL ts (0 : Nat)) = (innwL (List.drop y ts) y))))) ∧
     ((b = b) ∧
     (((((x : Nat) : Int) + (1 : Int)) = ((y : Nat) : Int)) ∧
     ((k = k) ∧
     ((n = n) ∧
     ((ts = ts) ∧
     (((0 : Int) = (0 : Int)) ∧ (((0 : Int) = (0 : Int)) ∧ ((([] : List T) = ([] : List T)) ∧ ((Nat.succ ((List.length ts) - y)) ≤ ((List.length ts) - x)))))))))))))))))
     (Br b
     (((arity k) = (((List.length ts) : Nat) : Int)) ∧
     (Br (Decidable.decide ((T.rdx (T.mk k n ts)) ≠ (0 : Int)))
     ((((T.valid (T.mk k n ts)) = true) ∧ ((T.rdx (T.mk k n ts)) ≠ (0 : Int))) ∧
     (Ret K (.tup [(.st [(.int .i64 (T.k (T.ctr (T.mk k n ts)))), (.int .i64 (T.n (T.ctr (T.mk k n ts)))), (.slc (T.kids (T.ctr (T.mk k n ts))) (.iv 4 7 false .no))]), (.bool true)]) []))
     (Ret K (.tup [(.st [(.int .i64 k), (.int .i64 n), (.slc ts (.arg 0))]), (.bool false)]) [])))
     (Ret K (.tup [(.st [(.int .i64 k), (.int .i64 n), (.slc ts (.arg 0))]), (.bool false)]) [])))))))) ?_ (by kernel_rfl)
  have ha := valid_arity hp
  have hsz := T.valid_size hp
  have hs : (T.mk k n ts).size = 1 + sizeL ts := rfl
  have hm' : (T.mk k n ts).size < m + 1 := hm
  have hll := length_le_sizeL ts
  obtain ⟨hk1, hk2⟩ := hk
  have kt : ∀ c : T, (plB b).o (T.mk k n ts) = true → (T.mk k n ts).stp ((plB b).w (T.mk k n ts)) = c → K (.tup [c.av fs, .bool true]) [] := fun c h1 h2 => by
    have := hk1 h1; rw [h2] at this; exact this
  simp only [T.eta]
  cases b with
  | false =>
    have e0 : (plB false).o (T.mk k n ts) = !(nrmL ts && decide ((T.mk k n ts).rdx = 0)) := rfl
    have e1 : (plB false).w (T.mk k n ts) = if (T.mk k n ts).rdx ≠ 0 then [] else outwL ts 0 := rfl
    refine br (fun _ => ⟨ha, br (fun h => ⟨⟨hp, of_decide_eq_true h⟩, ?_⟩) (fun h => ⟨⟨0, ⟨Nat.zero_le _, rfl, rfl, rfl⟩, (by repeat' first | trivial | rfl | (simp; done) | apply And.intro)⟩, ?_⟩)⟩) (fun h => by cases h)
    · have h := of_decide_eq_true h
      rw [if_pos h] at e1
      exact retTB (kt _ (by rw [e0, decide_eq_false h, Bool.and_false]; rfl) (by rw [e1]; rfl)) (T.eta _) rfl
    have h := of_decide_eq_false h
    have hr : (T.mk k n ts).rdx = 0 := by omega
    rw [if_neg h] at e1
    rw [decide_eq_true hr, Bool.and_true] at e0
    rintro x ⟨g1, g2, g3, g4⟩
    refine br (fun h2 => ?_) (fun h2 => ?_)
    · have hi : x < ts.length := by simpa using h2
      have hkv := kid_valid hp hi
      have hz := sizeL_mem (getD_mem hi)
      have hk3 := nrmL_drop hi
      have hk4 := outwL_drop hi
      have hk5 := innwL_drop hi
      have eo : (plB false).o (ts.getD x default) = !(ts.getD x default).nrm := rfl
      simp only [Int.toNat_natCast]
      refine ⟨⟨by omega, by omega⟩, ⟨by omega, hkv⟩, fun ho => ⟨⟨⟨by omega, by omega⟩, by omega⟩, ?_⟩, fun ho => ⟨inR_succ hi (by omega), x + 1, ⟨by omega, ?_, ?_, ?_⟩, (by repeat' first | trivial | rfl | (simp; done) | (dsimp only; omega) | omega | apply And.intro)⟩⟩
      · have hn : (ts.getD x default).nrm = false := by rw [eo] at ho; simpa using ho
        rw [hk3, hn, Bool.false_and] at g2
        rw [hk4, hn] at g3
        rw [hk5, hn] at g4
        have ew : (plB false).w (T.mk k n ts) = (x : Int) :: (plB false).w (ts.getD x default) := by rw [e1, g3]; rfl
        have es : (T.mk k n ts).stp ((plB false).w (T.mk k n ts)) = .mk k n (ts.set x ((ts.getD x default).stp ((plB false).w (ts.getD x default)))) := by rw [ew]; rfl
        exact retTB (kt _ (by rw [e0, g2]; rfl) es) rfl rfl
      all_goals
        have hn : (ts.getD x default).nrm = true := by rw [eo] at ho; simpa using ho
      · rw [g2, hk3, hn]; rfl
      · rw [g3, hk4, hn]; rfl
      · rw [g4, hk5, hn]; rfl
    · have hi : ¬ x < ts.length := by simpa using h2
      rw [List.drop_of_length_le (by omega)] at g2
      have g2 : nrmL ts = true := g2
      exact br (fun h => by cases h) (fun _ => retTB (hk2 (by rw [e0, g2]; rfl)) rfl rfl)
  | true =>
    have e0 : (plB true).o (T.mk k n ts) = !(nrmL ts && decide ((T.mk k n ts).rdx = 0)) := rfl
    have e1 : (plB true).w (T.mk k n ts) = if nrmL ts then [] else innwL ts 0 := rfl
    refine br (fun h => by cases h) (fun _ => ⟨⟨0, ⟨Nat.zero_le _, rfl, rfl, rfl⟩, (by repeat' first | trivial | rfl | (simp; done) | apply And.intro)⟩, ?_⟩)
    rintro x ⟨g1, g2, g3, g4⟩
    refine br (fun h2 => ?_) (fun h2 => ?_)
    · have hi : x < ts.length := by simpa using h2
      have hkv := kid_valid hp hi
      have hz := sizeL_mem (getD_mem hi)
      have hk3 := nrmL_drop hi
      have hk4 := outwL_drop hi
      have hk5 := innwL_drop hi
      have eo : (plB true).o (ts.getD x default) = !(ts.getD x default).nrm := rfl
      simp only [Int.toNat_natCast]
      refine ⟨⟨by omega, by omega⟩, ⟨by omega, hkv⟩, fun ho => ⟨⟨⟨by omega, by omega⟩, by omega⟩, ?_⟩, fun ho => ⟨inR_succ hi (by omega), x + 1, ⟨by omega, ?_, ?_, ?_⟩, (by repeat' first | trivial | rfl | (simp; done) | (dsimp only; omega) | omega | apply And.intro)⟩⟩
      · have hn : (ts.getD x default).nrm = false := by rw [eo] at ho; simpa using ho
        rw [hk3, hn, Bool.false_and] at g2
        rw [hk4, hn] at g3
        rw [hk5, hn] at g4
        have ew : (plB true).w (T.mk k n ts) = (x : Int) :: (plB true).w (ts.getD x default) := by rw [e1, g2, g4]; rfl
        have es : (T.mk k n ts).stp ((plB true).w (T.mk k n ts)) = .mk k n (ts.set x ((ts.getD x default).stp ((plB true).w (ts.getD x default)))) := by rw [ew]; rfl
        exact retTB (kt _ (by rw [e0, g2]; rfl) es) rfl rfl
      all_goals
        have hn : (ts.getD x default).nrm = true := by rw [eo] at ho; simpa using ho
      · rw [g2, hk3, hn]; rfl
      · rw [g3, hk4, hn]; rfl
      · rw [g4, hk5, hn]; rfl
    · have hi : ¬ x < ts.length := by simpa using h2
      rw [List.drop_of_length_le (by omega)] at g2
      have g2 : nrmL ts = true := g2
      refine br (fun _ => ⟨ha, br (fun h => ⟨⟨hp, of_decide_eq_true h⟩, ?_⟩) (fun h => ?_)⟩) (fun h => by cases h)
      · have h := of_decide_eq_true h
        rw [g2] at e1
        exact retTB (kt _ (by rw [e0, g2, decide_eq_false h]; rfl) (by rw [e1]; rfl)) (T.eta _) rfl
      · have h := of_decide_eq_false h
        have hr : (T.mk k n ts).rdx = 0 := by omega
        exact retTB (hk2 (by rw [e0, g2, decide_eq_true hr]; rfl)) rfl rfl
theorem sStep_soundM : ∀ m : Nat, Sound Try.prog 69 (csStepM m)
  | 0 => by
      refine soundF (G := []) gnil Try.func69 rfl (by kernel_rfl) fun args hs K hCC => ?_
      unfold csStepM at hCC
      split at hCC
      case h_2 => exact hCC.elim
      exact absurd hCC.1.1 (Nat.not_lt_zero _)
  | m + 1 => by
      refine soundF (G := [(69, csStepM m), (78, csRedex), (53, csContract), (93, csWith)]) ((gcons (sStep_soundM m) (gcons sRedex_sound (gcons sContract_sound (gcons sWith_sound gnil))))) Try.func69 rfl (by kernel_rfl) fun args hs K hCC => ?_
      unfold csStepM at hCC
      split at hCC
      case h_2 => exact hCC.elim
      rename_i k n ts b
      exact ⟨Nat.le_of_ble_eq_true rfl, _, sStep_ok m k n ts b K hCC.1.1 hCC.1.2 hCC.2⟩
theorem sStep_sound : Sound Try.prog 69 csStep := by
  refine sound_of_all (c := csStepM) (fun m => (sStep_soundM m)) fun args hs K hCC => ?_
  unfold csStep at hCC
  split at hCC
  case h_2 => exact hCC.elim
  exact ⟨_, ⟨Nat.lt_succ_self _, hCC.1⟩, hCC.2⟩
/-- spec.l3One -/
def csOne : Con
  | [.st [.int .i64 k, .int .i64 n, .slc ts (.arg 0)], .bool b], [], K => (((T.mk k n ts).valid = true)) ∧ ((K (.tup [((T.mk k n ts).stR (plB b)).av fs, .int .i64 ((T.mk k n ts).stC (plB b))]) []))
  | _, _, _ => False
theorem sOne_ok (k n : Int) (ts : List T) (b : Bool) (K : AV → List AV → Prop) (hp : (((T.mk k n ts).valid = true))) (hk : ((K (.tup [((T.mk k n ts).stR (plB b)).av fs, .int .i64 ((T.mk k n ts).stC (plB b))]) []))) :
    bodyQ [(69, csStep), (70, csCopy), (44, csTermValid)] TY [] Try.f45 (body Try.f45) [.st [.int .i64 k, .int .i64 n, .slc ts (.arg 0)], .bool b] [] K := by
  refine of_vc (A :=
    (((T.valid (T.mk k n ts)) = true) ∧
     ((((Pl.o (plB b) (T.mk k n ts)) = true) →
     (True ∧
     (Br (Bool.not (T.valid (T.mk (T.k (T.stp (T.mk k n ts) (Pl.w (plB b) (T.mk k n ts)))) (T.n (T.stp (T.mk k n ts) (Pl.w (plB b) (T.mk k n ts)))) (T.kids (T.stp (T.mk k n ts) (Pl.w (plB b) (T.mk k n ts)))))))
     (Ret K (.tup [(.st [(.int .i64 0), (.int .i64 0), (.slc [] (.iv 0 0 true .full))]), (.int .i64 2)]) [])
     (Ret K (.tup [(.st [(.int .i64 (T.k (T.stp (T.mk k n ts) (Pl.w (plB b) (T.mk k n ts))))), (.int .i64 (T.n (T.stp (T.mk k n ts) (Pl.w (plB b) (T.mk k n ts))))), (.slc (T.kids (T.stp (T.mk k n ts) (Pl.w (plB b) (T.mk k n ts)))) (.iv 7 7 false .no))]), (.int .i64 1)]) [])))) ∧
     (((Pl.o (plB b) (T.mk k n ts)) = false) →
     (((sizeL ts) ≤ (1048576 : Nat)) ∧
     (Ret K (.tup [(.st [(.int .i64 (T.k (T.mk k n ts))), (.int .i64 (T.n (T.mk k n ts))), (.slc (T.kids (T.mk k n ts)) (.iv 4 4 true (.tok 0)))]), (.int .i64 0)]) [])))))) ?_ (by kernel_rfl)
  have hv := hp
  have hz := small_of hp
  have hz : sizeL ts ≤ 400 := hz
  have kr : ∀ (r : T) (c : Int), (T.mk k n ts).stR (plB b) = r → (T.mk k n ts).stC (plB b) = c → K (.tup [r.av fs, .int .i64 c]) [] := fun r c h1 h2 => by rw [h1, h2] at hk; exact hk
  refine ⟨hp, fun ho => ⟨trivial, br (fun h => ?_) (fun h => ?_)⟩, fun ho => ⟨by omega, ?_⟩⟩
  · rw [T.eta] at h
    have h : ((T.mk k n ts).stp ((plB b).w (T.mk k n ts))).valid = false := by simpa using h
    exact retTI (kr (.mk 0 0 []) 2 (by unfold T.stR; rw [if_pos hv, if_pos ho, h, if_neg (by simp)]) (by unfold T.stC; rw [if_pos hv, if_pos ho, h, if_neg (by simp)])) rfl rfl
  · rw [T.eta] at h
    have h : ((T.mk k n ts).stp ((plB b).w (T.mk k n ts))).valid = true := by simpa using h
    exact retTI (kr _ 1 (by unfold T.stR; rw [if_pos hv, if_pos ho, if_pos h]) (by unfold T.stC; rw [if_pos hv, if_pos ho, if_pos h])) (T.eta _) rfl
  · exact retTI (kr (.mk k n ts) 0 (by unfold T.stR; rw [if_pos hv, ho, if_neg (by simp)]) (by unfold T.stC; rw [if_pos hv, ho, if_neg (by simp)])) rfl rfl
theorem sOne_sound : Sound Try.prog 45 csOne := by
  refine soundF (G := [(69, csStep), (70, csCopy), (44, csTermValid)]) ((gcons sStep_sound (gcons sCopy_sound (gcons sTermValid_sound gnil)))) Try.func45 rfl (by kernel_rfl) fun args hs K hCC => ?_
  unfold csOne at hCC
  split at hCC
  case h_2 => exact hCC.elim
  rename_i k n ts b
  exact ⟨Nat.le_of_ble_eq_true rfl, _, sOne_ok k n ts b K hCC.1 hCC.2⟩
/-- spec.l19OwnTerm -/
def csOwnTM (m : Nat) : Con
  | [.st [.int .i64 k, .int .i64 n, .slc ts (.arg 0)]], [], K => ((2 * (1 + sizeL ts)) < m ∧ ((sizeL ts ≤ 1048576))) ∧ ((K ((T.mk k n ts).fr) []))
  | _, _, _ => False
def csOwnT : Con
  | [.st [.int .i64 k, .int .i64 n, .slc ts (.arg 0)]], [], K => ((sizeL ts ≤ 1048576)) ∧ ((K ((T.mk k n ts).fr) []))
  | _, _, _ => False
/-- spec.l19OwnListTerm -/
def csOwnLM (m : Nat) : Con
  | [.slc ts (.arg 0)], [], K => ((2 * sizeL ts + 1) < m ∧ ((sizeL ts ≤ 1048576))) ∧ ((K (.slc ts fr) []))
  | _, _, _ => False
def csOwnL : Con
  | [.slc ts (.arg 0)], [], K => ((sizeL ts ≤ 1048576)) ∧ ((K (.slc ts fr) []))
  | _, _, _ => False
theorem sOwnT_ok (m : Nat) (k n : Int) (ts : List T) (K : AV → List AV → Prop) (hm : (2 * (1 + sizeL ts)) < m + 1) (hp : ((sizeL ts ≤ 1048576))) (hk : ((K ((T.mk k n ts).fr) []))) :
    bodyQ [(43, csOwnTM m), (66, csOwnLM m)] TY [] Try.f43 (body Try.f43) [.st [.int .i64 k, .int .i64 n, .slc ts (.arg 0)]] [] K := by
  refine of_vc (A :=
    ((((((2 : Nat) * (sizeL ts)) + (1 : Nat)) < m) ∧ ((sizeL ts) ≤ (1048576 : Nat))) ∧
     (Ret K (.st [(.int .i64 k), (.int .i64 n), (.slc ts (.iv 4 4 true (.tok 0)))]) []))) ?_ (by kernel_rfl)
  exact ⟨⟨by omega, hp⟩, retT (t := .mk k n ts) hk rfl⟩
theorem sOwnL_ok (m : Nat) (ts : List T) (K : AV → List AV → Prop) (hm : (2 * sizeL ts + 1) < m + 1) (hp : ((sizeL ts ≤ 1048576))) (hk : ((K (.slc ts fr) []))) :
    bodyQ [(43, csOwnTM m), (66, csOwnLM m)] TY [(3, { ι := Nat, ok := fun i => i ≤ ts.length, tl := fun i => [(3, .slc (ts.take i) (.iv 4 4 true (.tok 17))), (7, .slc ts (.arg 0)), (8, .int .i64 ts.length), (9, .int .i64 i)], hl := fun i => [], fh := fun _ => [], μ := fun i => ts.length - i })] Try.f66 (body Try.f66) [.slc ts (.arg 0)] [] K := by
  refine of_vc (A :=
    ((∃ x : Nat,
     ((x ≤ (List.length ts)) ∧
     ((([] : List T) = (List.take x ts)) ∧
     ((ts = ts) ∧ (((((List.length ts) : Nat) : Int) = (((List.length ts) : Nat) : Int)) ∧ (((0 : Int) = ((x : Nat) : Int)) ∧ True)))))) ∧
     (∀ x : Nat,
     ((x ≤ (List.length ts)) →
     (Br (Decidable.decide (((x : Nat) : Int) < (((List.length ts) : Nat) : Int)))
     ((((0 : Int) ≤ ((x : Nat) : Int)) ∧ (((x : Nat) : Int) < (((List.length ts) : Nat) : Int))) ∧
     (((((2 : Nat) * ((1 : Nat) + (sizeL (T.kids (List.getD ts (Int.toNat ((x : Nat) : Int)) default))))) < m) ∧
     ((sizeL (T.kids (List.getD ts (Int.toNat ((x : Nat) : Int)) default))) ≤ (1048576 : Nat))) ∧
     ((((((List.length (List.take x ts)) : Nat) : Int) + (1 : Int)) ≤ (1099511627776 : Int)) ∧
     ((InR (((x : Nat) : Int) + (1 : Int))) ∧
     (∃ y : Nat,
     ((y ≤ (List.length ts)) ∧
     ((((List.take x ts) ++ [(T.mk (T.k (T.mk (T.k (List.getD ts (Int.toNat ((x : Nat) : Int)) default)) (T.n (List.getD ts (Int.toNat ((x : Nat) : Int)) default)) (T.kids (List.getD ts (Int.toNat ((x : Nat) : Int)) default)))) (T.n (T.mk (T.k (List.getD ts (Int.toNat ((x : Nat) : Int)) default)) (T.n (List.getD ts (Int.toNat ((x : Nat) : Int)) default)) (T.kids (List.getD ts (Int.toNat ((x : Nat) : Int)) default)))) (T.kids (T.mk (T.k (List.getD ts (Int.toNat ((x : Nat) : Int)) default)) (T.n (List.getD ts (Int.toNat ((x : Nat) : Int)) default)) (T.kids (List.getD ts (Int.toNat ((x : Nat) : Int)) default)))))]) = (List.take y ts)) ∧
     ((ts = ts) ∧
     (((((List.length ts) : Nat) : Int) = (((List.length ts) : Nat) : Int)) ∧
     (((((x : Nat) : Int) + (1 : Int)) = ((y : Nat) : Int)) ∧ ((Nat.succ ((List.length ts) - y)) ≤ ((List.length ts) - x))))))))))))
     (Ret K (.slc (List.take x ts) (.iv 4 4 true (.tok 0))) [])))))) ?_ (by kernel_rfl)
  have hll := length_le_sizeL ts
  refine ⟨⟨0, Nat.zero_le _, (by repeat' first | trivial | rfl | (simp; done) | apply And.intro)⟩, fun x hx => br (fun h => ?_) (fun h => ?_)⟩
  · have hi : x < ts.length := by simpa using h
    have hz := sizeL_mem (getD_mem hi)
    have hz' := hz
    rw [T.size_eq] at hz'
    have e := take_succ_getD hi
    simp only [Int.toNat_natCast, T.eta]
    refine ⟨⟨by omega, by omega⟩, ⟨by omega, by omega⟩, by rw [List.length_take]; omega, inR_succ hi (by omega), x + 1, ?_⟩
    repeat' first | trivial | rfl | omega | exact e.symm | apply And.intro
  · have hi : ¬ x < ts.length := by simpa using h
    exact retS hk (by rw [List.take_of_length_le (by omega)])
theorem sOwnT_soundM : ∀ m : Nat, Sound Try.prog 43 (csOwnTM m) ∧ Sound Try.prog 66 (csOwnLM m)
  | 0 => ⟨by
      refine soundF (G := []) gnil Try.func43 rfl (by kernel_rfl) fun args hs K hCC => ?_
      unfold csOwnTM at hCC
      split at hCC
      case h_2 => exact hCC.elim
      exact absurd hCC.1.1 (Nat.not_lt_zero _), by
      refine soundF (G := []) gnil Try.func66 rfl (by kernel_rfl) fun args hs K hCC => ?_
      unfold csOwnLM at hCC
      split at hCC
      case h_2 => exact hCC.elim
      exact absurd hCC.1.1 (Nat.not_lt_zero _)⟩
  | m + 1 => ⟨by
      refine soundF (G := [(43, csOwnTM m), (66, csOwnLM m)]) ((gcons (sOwnT_soundM m).1 (gcons (sOwnT_soundM m).2 gnil))) Try.func43 rfl (by kernel_rfl) fun args hs K hCC => ?_
      unfold csOwnTM at hCC
      split at hCC
      case h_2 => exact hCC.elim
      rename_i k n ts
      exact ⟨Nat.le_of_ble_eq_true rfl, _, sOwnT_ok m k n ts K hCC.1.1 hCC.1.2 hCC.2⟩, by
      refine soundF (G := [(43, csOwnTM m), (66, csOwnLM m)]) ((gcons (sOwnT_soundM m).1 (gcons (sOwnT_soundM m).2 gnil))) Try.func66 rfl (by kernel_rfl) fun args hs K hCC => ?_
      unfold csOwnLM at hCC
      split at hCC
      case h_2 => exact hCC.elim
      rename_i ts
      exact ⟨Nat.le_of_ble_eq_true rfl, _, sOwnL_ok m ts K hCC.1.1 hCC.1.2 hCC.2⟩⟩
theorem sOwnT_sound : Sound Try.prog 43 csOwnT := by
  refine sound_of_all (c := csOwnTM) (fun m => (sOwnT_soundM m).1) fun args hs K hCC => ?_
  unfold csOwnT at hCC
  split at hCC
  case h_2 => exact hCC.elim
  exact ⟨_, ⟨Nat.lt_succ_self _, hCC.1⟩, hCC.2⟩
theorem sOwnL_sound : Sound Try.prog 66 csOwnL := by
  refine sound_of_all (c := csOwnLM) (fun m => (sOwnT_soundM m).2) fun args hs K hCC => ?_
  unfold csOwnL at hCC
  split at hCC
  case h_2 => exact hCC.elim
  exact ⟨_, ⟨Nat.lt_succ_self _, hCC.1⟩, hCC.2⟩
/-- spec.StepTerm -/
def csStepTerm : Con
  | [.st [.int .i64 k, .int .i64 n, .slc ts (.arg 0)]], [], K => ((sizeL ts ≤ 1048576)) ∧ ((K (.tup [((T.mk k n ts).stR plO).av fs, .int .i64 ((T.mk k n ts).stC plO)]) []))
  | _, _, _ => False
theorem sStepTerm_ok (k n : Int) (ts : List T) (K : AV → List AV → Prop) (hp : ((sizeL ts ≤ 1048576))) (hk : ((K (.tup [((T.mk k n ts).stR plO).av fs, .int .i64 ((T.mk k n ts).stC plO)]) []))) :
    bodyQ [(43, csOwnT), (44, csTermValid), (45, csOne)] TY [] Try.f39 (body Try.f39) [.st [.int .i64 k, .int .i64 n, .slc ts (.arg 0)]] [] K := by
  refine of_vc (A :=
    (((sizeL ts) ≤ (1048576 : Nat)) ∧
     (True ∧
     (Br (Bool.not (T.valid (T.mk (T.k (T.mk k n ts)) (T.n (T.mk k n ts)) (T.kids (T.mk k n ts)))))
     (Ret K (.tup [(.st [(.int .i64 0), (.int .i64 0), (.slc [] (.iv 0 0 true .full))]), (.int .i64 3)]) [])
     (((T.valid (T.mk (T.k (T.mk k n ts)) (T.n (T.mk k n ts)) (T.kids (T.mk k n ts)))) = true) ∧
     (Ret K (.tup [(.st [(.int .i64 (T.k (T.stR (T.mk (T.k (T.mk k n ts)) (T.n (T.mk k n ts)) (T.kids (T.mk k n ts))) (plB false)))), (.int .i64 (T.n (T.stR (T.mk (T.k (T.mk k n ts)) (T.n (T.mk k n ts)) (T.kids (T.mk k n ts))) (plB false)))), (.slc (T.kids (T.stR (T.mk (T.k (T.mk k n ts)) (T.n (T.mk k n ts)) (T.kids (T.mk k n ts))) (plB false))) (.iv 7 7 false .no))]), (.int .i64 (T.stC (T.mk (T.k (T.mk k n ts)) (T.n (T.mk k n ts)) (T.kids (T.mk k n ts))) (plB false)))]) [])))))) ?_ (by kernel_rfl)
  have kr : ∀ (r : T) (c : Int), (T.mk k n ts).stR plO = r → (T.mk k n ts).stC plO = c → K (.tup [r.av fs, .int .i64 c]) [] := fun r c h1 h2 => by rw [h1, h2] at hk; exact hk
  simp only [T.eta]
  refine ⟨hp, trivial, br (fun h => ?_) (fun h => ⟨by simpa using h, ?_⟩)⟩
  · have h : (T.mk k n ts).valid = false := by simpa using h
    exact retTI (kr (.mk 0 0 []) 3 (by unfold T.stR; rw [h, if_neg (by simp)]) (by unfold T.stC; rw [h, if_neg (by simp)])) rfl rfl
  · exact retTI (kr _ _ rfl rfl) (T.eta _) rfl
theorem sStepTerm_sound : Sound Try.prog 39 csStepTerm := by
  refine soundF (G := [(43, csOwnT), (44, csTermValid), (45, csOne)]) ((gcons sOwnT_sound (gcons sTermValid_sound (gcons sOne_sound gnil)))) Try.func39 rfl (by kernel_rfl) fun args hs K hCC => ?_
  unfold csStepTerm at hCC
  split at hCC
  case h_2 => exact hCC.elim
  rename_i k n ts
  exact ⟨Nat.le_of_ble_eq_true rfl, _, sStepTerm_ok k n ts K hCC.1 hCC.2⟩
/-- spec.StepInner -/
def csStepInner : Con
  | [.st [.int .i64 k, .int .i64 n, .slc ts (.arg 0)]], [], K => ((sizeL ts ≤ 1048576)) ∧ ((K (.tup [((T.mk k n ts).stR plI).av fs, .int .i64 ((T.mk k n ts).stC plI)]) []))
  | _, _, _ => False
theorem sStepInner_ok (k n : Int) (ts : List T) (K : AV → List AV → Prop) (hp : ((sizeL ts ≤ 1048576))) (hk : ((K (.tup [((T.mk k n ts).stR plI).av fs, .int .i64 ((T.mk k n ts).stC plI)]) []))) :
    bodyQ [(43, csOwnT), (44, csTermValid), (45, csOne)] TY [] Try.f16 (body Try.f16) [.st [.int .i64 k, .int .i64 n, .slc ts (.arg 0)]] [] K := by
  refine of_vc (A :=
    (((sizeL ts) ≤ (1048576 : Nat)) ∧
     (True ∧
     (Br (Bool.not (T.valid (T.mk (T.k (T.mk k n ts)) (T.n (T.mk k n ts)) (T.kids (T.mk k n ts)))))
     (Ret K (.tup [(.st [(.int .i64 0), (.int .i64 0), (.slc [] (.iv 0 0 true .full))]), (.int .i64 3)]) [])
     (((T.valid (T.mk (T.k (T.mk k n ts)) (T.n (T.mk k n ts)) (T.kids (T.mk k n ts)))) = true) ∧
     (Ret K (.tup [(.st [(.int .i64 (T.k (T.stR (T.mk (T.k (T.mk k n ts)) (T.n (T.mk k n ts)) (T.kids (T.mk k n ts))) (plB true)))), (.int .i64 (T.n (T.stR (T.mk (T.k (T.mk k n ts)) (T.n (T.mk k n ts)) (T.kids (T.mk k n ts))) (plB true)))), (.slc (T.kids (T.stR (T.mk (T.k (T.mk k n ts)) (T.n (T.mk k n ts)) (T.kids (T.mk k n ts))) (plB true))) (.iv 7 7 false .no))]), (.int .i64 (T.stC (T.mk (T.k (T.mk k n ts)) (T.n (T.mk k n ts)) (T.kids (T.mk k n ts))) (plB true)))]) [])))))) ?_ (by kernel_rfl)
  have kr : ∀ (r : T) (c : Int), (T.mk k n ts).stR plI = r → (T.mk k n ts).stC plI = c → K (.tup [r.av fs, .int .i64 c]) [] := fun r c h1 h2 => by rw [h1, h2] at hk; exact hk
  simp only [T.eta]
  refine ⟨hp, trivial, br (fun h => ?_) (fun h => ⟨by simpa using h, ?_⟩)⟩
  · have h : (T.mk k n ts).valid = false := by simpa using h
    exact retTI (kr (.mk 0 0 []) 3 (by unfold T.stR; rw [h, if_neg (by simp)]) (by unfold T.stC; rw [h, if_neg (by simp)])) rfl rfl
  · exact retTI (kr _ _ rfl rfl) (T.eta _) rfl
theorem sStepInner_sound : Sound Try.prog 16 csStepInner := by
  refine soundF (G := [(43, csOwnT), (44, csTermValid), (45, csOne)]) ((gcons sOwnT_sound (gcons sTermValid_sound (gcons sOne_sound gnil)))) Try.func16 rfl (by kernel_rfl) fun args hs K hCC => ?_
  unfold csStepInner at hCC
  split at hCC
  case h_2 => exact hCC.elim
  rename_i k n ts
  exact ⟨Nat.le_of_ble_eq_true rfl, _, sStepInner_ok k n ts K hCC.1 hCC.2⟩
/-- spec.l3Norm -/
def csNorm : Con
  | [.st [.int .i64 k, .int .i64 n, .slc ts (.arg 0)], .int .i64 (f), .bool b], [], K => (((T.mk k n ts).valid = true ∧ 0 ≤ f ∧ f ≤ 200)) ∧ ((K (.tup [((T.mk k n ts).rdc (plB b) f.toNat 0).1.av fs, .int .i64 ((T.mk k n ts).rdc (plB b) f.toNat 0).2.2]) []))
  | _, _, _ => False
theorem sNorm_ok (k n : Int) (ts : List T) (f : Int) (b : Bool) (K : AV → List AV → Prop) (hp : (((T.mk k n ts).valid = true ∧ 0 ≤ f ∧ f ≤ 200))) (hk : ((K (.tup [((T.mk k n ts).rdc (plB b) f.toNat 0).1.av fs, .int .i64 ((T.mk k n ts).rdc (plB b) f.toNat 0).2.2]) []))) :
    bodyQ [(45, csOne)] TY [(1, { ι := T × Nat, ok := fun x => x.1.valid = true ∧ x.2 ≤ 200 ∧ ∃ s, x.1.rdc (plB b) x.2 s = (T.mk k n ts).rdc (plB b) f.toNat 0, tl := fun x => [(1, .int .i64 x.2), (2, .bool b), (3, .ptr 3), (6, .ptr 6)], hl := fun x => [(3, x.1.av fs), (6, (T.mk 0 0 []).av (.iv 0 0 true .full))], fh := fun _ => [], μ := fun x => x.2 })] Try.f62 (body Try.f62) [.st [.int .i64 k, .int .i64 n, .slc ts (.arg 0)], .int .i64 (f), .bool b] [] K := by
  refine of_vc (A :=
    ((∃ x : (Prod T Nat),
     ((((T.valid (Prod.fst x)) = true) ∧
     (((Prod.snd x) ≤ (200 : Nat)) ∧ (∃ s : Int, ((T.rdc (plB b) (Prod.snd x) (Prod.fst x) s) = (T.rdc (plB b) (Int.toNat f) (T.mk k n ts) (0 : Int)))))) ∧
     ((f = (((Prod.snd x) : Nat) : Int)) ∧
     ((b = b) ∧
     ((k = (T.k (Prod.fst x))) ∧
     ((n = (T.n (Prod.fst x))) ∧ ((ts = (T.kids (Prod.fst x))) ∧ (((0 : Int) = (0 : Int)) ∧ (((0 : Int) = (0 : Int)) ∧ ((([] : List T) = ([] : List T)) ∧ True)))))))))) ∧
     (∀ x : (Prod T Nat),
     ((((T.valid (Prod.fst x)) = true) ∧ (((Prod.snd x) ≤ (200 : Nat)) ∧ (∃ s : Int, ((T.rdc (plB b) (Prod.snd x) (Prod.fst x) s) = (T.rdc (plB b) (Int.toNat f) (T.mk k n ts) (0 : Int)))))) →
     (((T.valid (T.mk (T.k (Prod.fst x)) (T.n (Prod.fst x)) (T.kids (Prod.fst x)))) = true) ∧
     (Br (Decidable.decide ((T.stC (T.mk (T.k (Prod.fst x)) (T.n (Prod.fst x)) (T.kids (Prod.fst x))) (plB b)) = (0 : Int)))
     (Ret K (.tup [(.st [(.int .i64 (T.k (T.stR (T.mk (T.k (Prod.fst x)) (T.n (Prod.fst x)) (T.kids (Prod.fst x))) (plB b)))), (.int .i64 (T.n (T.stR (T.mk (T.k (Prod.fst x)) (T.n (Prod.fst x)) (T.kids (Prod.fst x))) (plB b)))), (.slc (T.kids (T.stR (T.mk (T.k (Prod.fst x)) (T.n (Prod.fst x)) (T.kids (Prod.fst x))) (plB b))) (.iv 7 7 false .no))]), (.int .i64 0)]) [])
     (Br (Decidable.decide ((((Prod.snd x) : Nat) : Int) < (1 : Int)))
     (Ret K (.tup [(.st [(.int .i64 0), (.int .i64 0), (.slc [] (.iv 0 0 true .full))]), (.int .i64 1)]) [])
     (Br (Decidable.decide ((T.stC (T.mk (T.k (Prod.fst x)) (T.n (Prod.fst x)) (T.kids (Prod.fst x))) (plB b)) = (2 : Int)))
     (Ret K (.tup [(.st [(.int .i64 0), (.int .i64 0), (.slc [] (.iv 0 0 true .full))]), (.int .i64 2)]) [])
     ((InR ((((Prod.snd x) : Nat) : Int) - (1 : Int))) ∧
     (∃ y : (Prod T Nat),
     ((((T.valid (Prod.fst y)) = true) ∧
     (((Prod.snd y) ≤ (200 : Nat)) ∧ (∃ s : Int, ((T.rdc (plB b) (Prod.snd y) (Prod.fst y) s) = (T.rdc (plB b) (Int.toNat f) (T.mk k n ts) (0 : Int)))))) ∧
     ((((((Prod.snd x) : Nat) : Int) - (1 : Int)) = (((Prod.snd y) : Nat) : Int)) ∧
     ((b = b) ∧
     (((T.k (T.stR (T.mk (T.k (Prod.fst x)) (T.n (Prod.fst x)) (T.kids (Prod.fst x))) (plB b))) = (T.k (Prod.fst y))) ∧
     (((T.n (T.stR (T.mk (T.k (Prod.fst x)) (T.n (Prod.fst x)) (T.kids (Prod.fst x))) (plB b))) = (T.n (Prod.fst y))) ∧
     (((T.kids (T.stR (T.mk (T.k (Prod.fst x)) (T.n (Prod.fst x)) (T.kids (Prod.fst x))) (plB b))) = (T.kids (Prod.fst y))) ∧
     (((0 : Int) = (0 : Int)) ∧ (((0 : Int) = (0 : Int)) ∧ ((([] : List T) = ([] : List T)) ∧ ((Nat.succ (Prod.snd y)) ≤ (Prod.snd x))))))))))))))))))))) ?_ (by kernel_rfl)
  obtain ⟨hv, f0, f1⟩ := hp
  have kr : ∀ r : T × Int × Int, (T.mk k n ts).rdc (plB b) f.toNat 0 = r → K (.tup [r.1.av fs, .int .i64 r.2.2]) [] := fun r h => by rw [h] at hk; exact hk
  simp only [T.eta]
  refine ⟨⟨(T.mk k n ts, f.toNat), ⟨hv, by show f.toNat ≤ 200; omega, 0, rfl⟩, ?_⟩, ?_⟩
  · repeat' first | trivial | rfl | (show _ = ((f.toNat : Nat) : Int); omega) | apply And.intro
  rintro ⟨t, g⟩ ⟨g1, g2, s, g3⟩
  simp only at g1 g2 g3 ⊢
  refine ⟨g1, ?_⟩
  cases ho : (plB b).o t with
  | false =>
    have e1 : t.stR (plB b) = t := by unfold T.stR; rw [if_pos g1, ho, if_neg (by simp)]
    have e2 : t.stC (plB b) = 0 := by unfold T.stC; rw [if_pos g1, ho, if_neg (by simp)]
    rw [rdc_no ho] at g3
    rw [e1, e2]
    exact br (fun _ => retTI (kr _ g3.symm) (T.eta _) rfl) (fun h => absurd h (by simp))
  | true =>
    cases hs : (t.stp ((plB b).w t)).valid with
    | false =>
      have e2 : t.stC (plB b) = 2 := by unfold T.stC; rw [if_pos g1, if_pos ho, hs, if_neg (by simp)]
      rw [e2]
      refine br (fun h => absurd h (by decide)) (fun _ => br (fun h => ?_) (fun h => br (fun _ => ?_) (fun h => absurd h (by decide))))
      · have h := of_decide_eq_true h
        have e : g = 0 := by omega
        rw [e, rdc_zero ho] at g3
        exact retTI (kr _ g3.symm) rfl rfl
      · have h := of_decide_eq_false h
        have e : g = (g - 1) + 1 := by omega
        rw [e, rdc_large ho _ _ hs] at g3
        exact retTI (kr _ g3.symm) rfl rfl
    | true =>
      have e1 : t.stR (plB b) = t.stp ((plB b).w t) := by unfold T.stR; rw [if_pos g1, if_pos ho, if_pos hs]
      have e2 : t.stC (plB b) = 1 := by unfold T.stC; rw [if_pos g1, if_pos ho, if_pos hs]
      rw [e1, e2]
      refine br (fun h => absurd h (by decide)) (fun _ => br (fun h => ?_) (fun h => br (fun h => absurd h (by decide)) (fun _ => ?_)))
      · have h := of_decide_eq_true h
        have e : g = 0 := by omega
        rw [e, rdc_zero ho] at g3
        exact retTI (kr _ g3.symm) rfl rfl
      · have h := of_decide_eq_false h
        have e : g = (g - 1) + 1 := by omega
        rw [e, rdc_step ho _ _ hs] at g3
        refine ⟨by unfold InR; omega, (t.stp ((plB b).w t), g - 1), ⟨hs, by show g - 1 ≤ 200; omega, s + 1, g3⟩, ?_⟩
        repeat' first | trivial | rfl | (show (g : Int) - 1 = ((g - 1 : Nat) : Int); omega) | (show Nat.succ (g - 1) ≤ g; omega) | apply And.intro
theorem sNorm_sound : Sound Try.prog 62 csNorm := by
  refine soundF (G := [(45, csOne)]) ((gcons sOne_sound gnil)) Try.func62 rfl (by kernel_rfl) fun args hs K hCC => ?_
  unfold csNorm at hCC
  split at hCC
  case h_2 => exact hCC.elim
  rename_i k n ts f b
  exact ⟨Nat.le_of_ble_eq_true rfl, _, sNorm_ok k n ts f b K hCC.1 hCC.2⟩
/-- spec.l3Fits -/
def csFits : Con
  | [.st [.int .i64 k, .int .i64 n, .slc ts (.arg 0)], .int .i64 (f)], [], K => True ∧ ((K (.bool ((T.mk k n ts).valid && decide (0 ≤ f ∧ f ≤ 200))) []))
  | _, _, _ => False
theorem sFits_ok (k n : Int) (ts : List T) (f : Int) (K : AV → List AV → Prop) (hp : True) (hk : ((K (.bool ((T.mk k n ts).valid && decide (0 ≤ f ∧ f ≤ 200))) []))) :
    bodyQ [(44, csTermValid)] TY [] Try.f55 (body Try.f55) [.st [.int .i64 k, .int .i64 n, .slc ts (.arg 0)], .int .i64 (f)] [] K := by
  refine of_vc (A :=
    (True ∧
     (Br (T.valid (T.mk k n ts))
     (Br (Decidable.decide ((0 : Int) ≤ f)) (Ret K (.bool (Decidable.decide (f ≤ (200 : Int)))) []) (Ret K (.bool false) []))
     (Ret K (.bool false) [])))) ?_ (by kernel_rfl)
  refine ⟨trivial, br (fun h => br (fun h2 => retB hk ?_) (fun h2 => retB hk ?_)) (fun h => retB hk ?_)⟩
  · have h2 := of_decide_eq_true h2
    rw [h, Bool.true_and]; exact decide_eq_decide.2 (by omega)
  · have h2 := of_decide_eq_false h2
    rw [h, Bool.true_and, decide_eq_false (by omega)]
  · rw [h]; rfl
theorem sFits_sound : Sound Try.prog 55 csFits := by
  refine soundF (G := [(44, csTermValid)]) ((gcons sTermValid_sound gnil)) Try.func55 rfl (by kernel_rfl) fun args hs K hCC => ?_
  unfold csFits at hCC
  split at hCC
  case h_2 => exact hCC.elim
  rename_i k n ts f
  exact ⟨Nat.le_of_ble_eq_true rfl, _, sFits_ok k n ts f K hCC.1 hCC.2⟩
/-- spec.Normalize -/
def csNormalize : Con
  | [.st [.int .i64 k, .int .i64 n, .slc ts (.arg 0)], .int .i64 (f)], [], K => ((sizeL ts ≤ 1048576)) ∧ ((K (.tup [((T.mk k n ts).red plO f).1.av fs, .int .i64 ((T.mk k n ts).red plO f).2.2]) []))
  | _, _, _ => False
theorem sNormalize_ok (k n : Int) (ts : List T) (f : Int) (K : AV → List AV → Prop) (hp : ((sizeL ts ≤ 1048576))) (hk : ((K (.tup [((T.mk k n ts).red plO f).1.av fs, .int .i64 ((T.mk k n ts).red plO f).2.2]) []))) :
    bodyQ [(43, csOwnT), (55, csFits), (62, csNorm)] TY [] Try.f33 (body Try.f33) [.st [.int .i64 k, .int .i64 n, .slc ts (.arg 0)], .int .i64 (f)] [] K := by
  refine of_vc (A :=
    (((sizeL ts) ≤ (1048576 : Nat)) ∧
     (True ∧
     (Br (Bool.not (Bool.and (T.valid (T.mk (T.k (T.mk k n ts)) (T.n (T.mk k n ts)) (T.kids (T.mk k n ts)))) (Decidable.decide (((0 : Int) ≤ f) ∧ (f ≤ (200 : Int))))))
     (Ret K (.tup [(.st [(.int .i64 0), (.int .i64 0), (.slc [] (.iv 0 0 true .full))]), (.int .i64 3)]) [])
     ((((T.valid (T.mk (T.k (T.mk k n ts)) (T.n (T.mk k n ts)) (T.kids (T.mk k n ts)))) = true) ∧ (((0 : Int) ≤ f) ∧ (f ≤ (200 : Int)))) ∧
     (Ret K (.tup [(.st [(.int .i64 (T.k (Prod.fst (T.rdc (plB false) (Int.toNat f) (T.mk (T.k (T.mk k n ts)) (T.n (T.mk k n ts)) (T.kids (T.mk k n ts))) (0 : Int))))), (.int .i64 (T.n (Prod.fst (T.rdc (plB false) (Int.toNat f) (T.mk (T.k (T.mk k n ts)) (T.n (T.mk k n ts)) (T.kids (T.mk k n ts))) (0 : Int))))), (.slc (T.kids (Prod.fst (T.rdc (plB false) (Int.toNat f) (T.mk (T.k (T.mk k n ts)) (T.n (T.mk k n ts)) (T.kids (T.mk k n ts))) (0 : Int)))) (.iv 7 7 false .no))]), (.int .i64 (Prod.snd (Prod.snd (T.rdc (plB false) (Int.toNat f) (T.mk (T.k (T.mk k n ts)) (T.n (T.mk k n ts)) (T.kids (T.mk k n ts))) (0 : Int)))))]) [])))))) ?_ (by kernel_rfl)
  have kr : ∀ r : T × Int × Int, (T.mk k n ts).red plO f = r → K (.tup [r.1.av fs, .int .i64 r.2.2]) [] := fun r h => by rw [h] at hk; exact hk
  simp only [T.eta]
  refine ⟨hp, trivial, br (fun h => ?_) (fun h => ?_)⟩
  · have h : ¬ ((T.mk k n ts).valid = true ∧ 0 ≤ f ∧ f ≤ 200) := by
      intro e
      rw [e.1, decide_eq_true e.2] at h
      cases h
    exact retTI (kr (.mk 0 0 [], 0, 3) (by unfold T.red; rw [if_neg h])) rfl rfl
  · rw [Bool.not_eq_false', Bool.and_eq_true, decide_eq_true_eq] at h
    exact ⟨h, retTI (kr _ (by unfold T.red; rw [if_pos h]; rfl)) (T.eta _) rfl⟩
theorem sNormalize_sound : Sound Try.prog 33 csNormalize := by
  refine soundF (G := [(43, csOwnT), (55, csFits), (62, csNorm)]) ((gcons sOwnT_sound (gcons sFits_sound (gcons sNorm_sound gnil)))) Try.func33 rfl (by kernel_rfl) fun args hs K hCC => ?_
  unfold csNormalize at hCC
  split at hCC
  case h_2 => exact hCC.elim
  rename_i k n ts f
  exact ⟨Nat.le_of_ble_eq_true rfl, _, sNormalize_ok k n ts f K hCC.1 hCC.2⟩
/-- spec.NormalizeInner -/
def csNormalizeInner : Con
  | [.st [.int .i64 k, .int .i64 n, .slc ts (.arg 0)], .int .i64 (f)], [], K => ((sizeL ts ≤ 1048576)) ∧ ((K (.tup [((T.mk k n ts).red plI f).1.av fs, .int .i64 ((T.mk k n ts).red plI f).2.2]) []))
  | _, _, _ => False
theorem sNormalizeInner_ok (k n : Int) (ts : List T) (f : Int) (K : AV → List AV → Prop) (hp : ((sizeL ts ≤ 1048576))) (hk : ((K (.tup [((T.mk k n ts).red plI f).1.av fs, .int .i64 ((T.mk k n ts).red plI f).2.2]) []))) :
    bodyQ [(43, csOwnT), (55, csFits), (62, csNorm)] TY [] Try.f36 (body Try.f36) [.st [.int .i64 k, .int .i64 n, .slc ts (.arg 0)], .int .i64 (f)] [] K := by
  refine of_vc (A :=
    (((sizeL ts) ≤ (1048576 : Nat)) ∧
     (True ∧
     (Br (Bool.not (Bool.and (T.valid (T.mk (T.k (T.mk k n ts)) (T.n (T.mk k n ts)) (T.kids (T.mk k n ts)))) (Decidable.decide (((0 : Int) ≤ f) ∧ (f ≤ (200 : Int))))))
     (Ret K (.tup [(.st [(.int .i64 0), (.int .i64 0), (.slc [] (.iv 0 0 true .full))]), (.int .i64 3)]) [])
     ((((T.valid (T.mk (T.k (T.mk k n ts)) (T.n (T.mk k n ts)) (T.kids (T.mk k n ts)))) = true) ∧ (((0 : Int) ≤ f) ∧ (f ≤ (200 : Int)))) ∧
     (Ret K (.tup [(.st [(.int .i64 (T.k (Prod.fst (T.rdc (plB true) (Int.toNat f) (T.mk (T.k (T.mk k n ts)) (T.n (T.mk k n ts)) (T.kids (T.mk k n ts))) (0 : Int))))), (.int .i64 (T.n (Prod.fst (T.rdc (plB true) (Int.toNat f) (T.mk (T.k (T.mk k n ts)) (T.n (T.mk k n ts)) (T.kids (T.mk k n ts))) (0 : Int))))), (.slc (T.kids (Prod.fst (T.rdc (plB true) (Int.toNat f) (T.mk (T.k (T.mk k n ts)) (T.n (T.mk k n ts)) (T.kids (T.mk k n ts))) (0 : Int)))) (.iv 7 7 false .no))]), (.int .i64 (Prod.snd (Prod.snd (T.rdc (plB true) (Int.toNat f) (T.mk (T.k (T.mk k n ts)) (T.n (T.mk k n ts)) (T.kids (T.mk k n ts))) (0 : Int)))))]) [])))))) ?_ (by kernel_rfl)
  have kr : ∀ r : T × Int × Int, (T.mk k n ts).red plI f = r → K (.tup [r.1.av fs, .int .i64 r.2.2]) [] := fun r h => by rw [h] at hk; exact hk
  simp only [T.eta]
  refine ⟨hp, trivial, br (fun h => ?_) (fun h => ?_)⟩
  · have h : ¬ ((T.mk k n ts).valid = true ∧ 0 ≤ f ∧ f ≤ 200) := by
      intro e
      rw [e.1, decide_eq_true e.2] at h
      cases h
    exact retTI (kr (.mk 0 0 [], 0, 3) (by unfold T.red; rw [if_neg h])) rfl rfl
  · rw [Bool.not_eq_false', Bool.and_eq_true, decide_eq_true_eq] at h
    exact ⟨h, retTI (kr _ (by unfold T.red; rw [if_pos h]; rfl)) (T.eta _) rfl⟩
theorem sNormalizeInner_sound : Sound Try.prog 36 csNormalizeInner := by
  refine soundF (G := [(43, csOwnT), (55, csFits), (62, csNorm)]) ((gcons sOwnT_sound (gcons sFits_sound (gcons sNorm_sound gnil)))) Try.func36 rfl (by kernel_rfl) fun args hs K hCC => ?_
  unfold csNormalizeInner at hCC
  split at hCC
  case h_2 => exact hCC.elim
  rename_i k n ts f
  exact ⟨Nat.le_of_ble_eq_true rfl, _, sNormalizeInner_ok k n ts f K hCC.1 hCC.2⟩
/-- spec.l3Main -/
def csMain : Con
  | [.int .i64 (k)], [], K => True ∧ ((K (.int .i64 (mainK k)) []))
  | _, _, _ => False
theorem sMain_ok (k : Int) (K : AV → List AV → Prop) (hp : True) (hk : ((K (.int .i64 (mainK k)) []))) :
    bodyQ [] TY [] Try.f103 (body Try.f103) [.int .i64 (k)] [] K := by
  refine of_vc (A :=
    (Br (Decidable.decide (k = (5 : Int)))
     (Ret K (.int .i64 0) [])
     (Br (Decidable.decide (k = (15 : Int)))
     (Ret K (.int .i64 0) [])
     (Br (Decidable.decide (k = (16 : Int)))
     (Ret K (.int .i64 0) [])
     (Br (Decidable.decide (k = (12 : Int)))
     (Ret K (.int .i64 1) [])
     (Br (Decidable.decide (k = (9 : Int))) (Ret K (.int .i64 3) []) (Ret K (.int .i64 (- (1 : Int))) []))))))) ?_ (by kernel_rfl)
  have m0 : k = 5 ∨ k = 15 ∨ k = 16 → mainK k = 0 := fun e => if_pos e
  have m3 : k = 9 → mainK k = 3 := fun e => by subst e; decide
  have m1 : k = 12 → mainK k = 1 := fun e => by subst e; decide
  refine br (fun h => retI hk (m0 (.inl (of_decide_eq_true h))).symm) (fun h5 => br (fun h => retI hk (m0 (.inr (.inl (of_decide_eq_true h)))).symm) (fun h15 => br (fun h => retI hk (m0 (.inr (.inr (of_decide_eq_true h)))).symm) (fun h16 => br (fun h => retI hk (m1 (of_decide_eq_true h)).symm) (fun h12 => br (fun h => retI hk (m3 (of_decide_eq_true h)).symm) (fun h9 => retI hk ?_)))))
  have h5 := of_decide_eq_false h5; have h15 := of_decide_eq_false h15; have h16 := of_decide_eq_false h16; have h9 := of_decide_eq_false h9; have h12 := of_decide_eq_false h12
  unfold mainK; rw [if_neg (by omega), if_neg h9, if_neg h12]
theorem sMain_sound : Sound Try.prog 103 csMain := by
  refine soundF (G := []) (gnil) Try.func103 rfl (by kernel_rfl) fun args hs K hCC => ?_
  unfold csMain at hCC
  split at hCC
  case h_2 => exact hCC.elim
  rename_i k
  exact ⟨Nat.le_of_ble_eq_true rfl, _, sMain_ok k K hCC.1 hCC.2⟩
/-- spec.l3HeadStep -/
def csHeadStepM (m : Nat) : Con
  | [.st [.int .i64 k, .int .i64 n, .slc ts (.arg 0)]], [], K => (((T.mk k n ts).size) < m ∧ (((T.mk k n ts).valid = true))) ∧ (((plH.o (T.mk k n ts) = true → K (.tup [((T.mk k n ts).stp (plH.w (T.mk k n ts))).av fs, .bool true]) []) ∧ (plH.o (T.mk k n ts) = false → K (.tup [(T.mk k n ts).av fs, .bool false]) [])))
  | _, _, _ => False
def csHeadStep : Con
  | [.st [.int .i64 k, .int .i64 n, .slc ts (.arg 0)]], [], K => (((T.mk k n ts).valid = true)) ∧ (((plH.o (T.mk k n ts) = true → K (.tup [((T.mk k n ts).stp (plH.w (T.mk k n ts))).av fs, .bool true]) []) ∧ (plH.o (T.mk k n ts) = false → K (.tup [(T.mk k n ts).av fs, .bool false]) [])))
  | _, _, _ => False
theorem sHeadStep_ok (m : Nat) (k n : Int) (ts : List T) (K : AV → List AV → Prop) (hm : ((T.mk k n ts).size) < m + 1) (hp : (((T.mk k n ts).valid = true))) (hk : (((plH.o (T.mk k n ts) = true → K (.tup [((T.mk k n ts).stp (plH.w (T.mk k n ts))).av fs, .bool true]) []) ∧ (plH.o (T.mk k n ts) = false → K (.tup [(T.mk k n ts).av fs, .bool false]) [])))) :
    bodyQ [(81, csHeadStepM m), (78, csRedex), (53, csContract), (93, csWith), (103, csMain)] TY [] Try.f81 (body Try.f81) [.st [.int .i64 k, .int .i64 n, .slc ts (.arg 0)]] [] K := by
  refine of_vc (A :=
    (((arity k) = (((List.length ts) : Nat) : Int)) ∧
     (Br (Decidable.decide ((T.rdx (T.mk k n ts)) ≠ (0 : Int)))
     ((((T.valid (T.mk k n ts)) = true) ∧ ((T.rdx (T.mk k n ts)) ≠ (0 : Int))) ∧
     (Ret K (.tup [(.st [(.int .i64 (T.k (T.ctr (T.mk k n ts)))), (.int .i64 (T.n (T.ctr (T.mk k n ts)))), (.slc (T.kids (T.ctr (T.mk k n ts))) (.iv 4 7 false .no))]), (.bool true)]) []))
     (True ∧
     (Br (Decidable.decide ((mainK k) < (0 : Int)))
     (Ret K (.tup [(.st [(.int .i64 k), (.int .i64 n), (.slc ts (.arg 0))]), (.bool false)]) [])
     ((((0 : Int) ≤ (mainK k)) ∧ ((mainK k) < (((List.length ts) : Nat) : Int))) ∧
     ((((T.size (T.mk (T.k (List.getD ts (Int.toNat (mainK k)) default)) (T.n (List.getD ts (Int.toNat (mainK k)) default)) (T.kids (List.getD ts (Int.toNat (mainK k)) default)))) < m) ∧
     ((T.valid (T.mk (T.k (List.getD ts (Int.toNat (mainK k)) default)) (T.n (List.getD ts (Int.toNat (mainK k)) default)) (T.kids (List.getD ts (Int.toNat (mainK k)) default)))) = true)) ∧
     ((((Pl.o plH (T.mk (T.k (List.getD ts (Int.toNat (mainK k)) default)) (T.n (List.getD ts (Int.toNat (mainK k)) default)) (T.kids (List.getD ts (Int.toNat (mainK k)) default)))) = true) →
     (((((0 : Int) ≤ (mainK k)) ∧ ((mainK k) < (((List.length ts) : Nat) : Int))) ∧ ((sizeL ts) ≤ (1000000 : Nat))) ∧
     (Ret K (.tup [(.st [(.int .i64 (T.k (T.mk k n (List.set ts (Int.toNat (mainK k)) (T.mk (T.k (T.stp (T.mk (T.k (List.getD ts (Int.toNat (mainK k)) default)) (T.n (List.getD ts (Int.toNat (mainK k)) default)) (T.kids (List.getD ts (Int.toNat (mainK k)) default))) (Pl.w plH (T.mk (T.k (List.getD ts (Int.toNat (mainK k)) default)) (T.n (List.getD ts (Int.toNat (mainK k)) default)) (T.kids (List.getD ts (Int.toNat (mainK k)) default)))))) (T.n (T.stp (T.mk (T.k (List.getD ts (Int.toNat (mainK k)) default)) (T.n (List.getD ts (Int.toNat (mainK k)) default)) (T.kids (List.getD ts (Int.toNat (mainK k)) default))) (Pl.w plH (T.mk (T.k (List.getD ts (Int.toNat (mainK k)) default)) (T.n (List.getD ts (Int.toNat (mainK k)) default)) (T.kids (List.getD ts (Int.toNat (mainK k)) default)))))) (T.kids (T.stp (T.mk (T.k (List.getD ts (Int.toNat (mainK k)) default)) (T.n (List.getD ts (Int.toNat (mainK k)) default)) (T.kids (List.getD ts (Int.toNat (mainK k)) default))) (Pl.w plH (T.mk (T.k (List.getD ts (Int.toNat (mainK k)) default)) (T.n (List.getD ts (Int.toNat (mainK k)) default)) (T.kids (List.getD ts (Int.toNat (mainK k)) default))))))))))), (.int .i64 (T.n (T.mk k n (List.set ts (Int.toNat (mainK k)) (T.mk (T.k (T.stp (T.mk (T.k (List.getD ts (Int.toNat (mainK k)) default)) (T.n (List.getD ts (Int.toNat (mainK k)) default)) (T.kids (List.getD ts (Int.toNat (mainK k)) default))) (Pl.w plH (T.mk (T.k (List.getD ts (Int.toNat (mainK k)) default)) (T.n (List.getD ts (Int.toNat (mainK k)) default)) (T.kids (List.getD ts (Int.toNat (mainK k)) default)))))) (T.n (T.stp (T.mk (T.k (List.getD ts (Int.toNat (mainK k)) default)) (T.n (List.getD ts (Int.toNat (mainK k)) default)) (T.kids (List.getD ts (Int.toNat (mainK k)) default))) (Pl.w plH (T.mk (T.k (List.getD ts (Int.toNat (mainK k)) default)) (T.n (List.getD ts (Int.toNat (mainK k)) default)) (T.kids (List.getD ts (Int.toNat (mainK k)) default)))))) (T.kids (T.stp (T.mk (T.k (List.getD ts (Int.toNat (mainK k)) default)) (T.n (List.getD ts (Int.toNat (mainK k)) default)) (T.kids (List.getD ts (Int.toNat (mainK k)) default))) (Pl.w plH (T.mk (T.k (List.getD ts (Int.toNat (mainK k)) default)) (T.n (List.getD ts (Int.toNat (mainK k)) default)) (T.kids (List.getD ts (Int.toNat (mainK k)) default))))))))))), (.slc (T.kids (T.mk k n (List.set ts (Int.toNat (mainK k)) (T.mk (T.k (T.stp (T.mk (T.k (List.getD ts (Int.toNat (mainK k)) default)) (T.n (List.getD ts (Int.toNat (mainK k)) default)) (T.kids (List.getD ts (Int.toNat (mainK k)) default))) (Pl.w plH (T.mk (T.k (List.getD ts (Int.toNat (mainK k)) default)) (T.n (List.getD ts (Int.toNat (mainK k)) default)) (T.kids (List.getD ts (Int.toNat (mainK k)) default)))))) (T.n (T.stp (T.mk (T.k (List.getD ts (Int.toNat (mainK k)) default)) (T.n (List.getD ts (Int.toNat (mainK k)) default)) (T.kids (List.getD ts (Int.toNat (mainK k)) default))) (Pl.w plH (T.mk (T.k (List.getD ts (Int.toNat (mainK k)) default)) (T.n (List.getD ts (Int.toNat (mainK k)) default)) (T.kids (List.getD ts (Int.toNat (mainK k)) default)))))) (T.kids (T.stp (T.mk (T.k (List.getD ts (Int.toNat (mainK k)) default)) (T.n (List.getD ts (Int.toNat (mainK k)) default)) (T.kids (List.getD ts (Int.toNat (mainK k)) default))) (Pl.w plH (T.mk (T.k (List.getD ts (Int.toNat (mainK k)) default)) (T.n (List.getD ts (Int.toNat (mainK k)) default)) (T.kids (List.getD ts (Int.toNat (mainK k)) default)))))))))) (.iv 4 7 false .no))]), (.bool true)]) []))) ∧
     (((Pl.o plH (T.mk (T.k (List.getD ts (Int.toNat (mainK k)) default)) (T.n (List.getD ts (Int.toNat (mainK k)) default)) (T.kids (List.getD ts (Int.toNat (mainK k)) default)))) = false) →
     (Ret K (.tup [(.st [(.int .i64 k), (.int .i64 n), (.slc ts (.arg 0))]), (.bool false)]) [])))))))))) ?_ (by kernel_rfl)
  have ha := valid_arity hp
  have hsz := T.valid_size hp
  have hs : (T.mk k n ts).size = 1 + sizeL ts := rfl
  have hm' : (T.mk k n ts).size < m + 1 := hm
  have hll := length_le_sizeL ts
  obtain ⟨hk1, hk2⟩ := hk
  have kt : ∀ c : T, plH.o (T.mk k n ts) = true → (T.mk k n ts).stp (plH.w (T.mk k n ts)) = c → K (.tup [c.av fs, .bool true]) [] := fun c h1 h2 => by
    have := hk1 h1; rw [h2] at this; exact this
  have e0 : plH.o (T.mk k n ts) = if (T.mk k n ts).rdx ≠ 0 then true else if mainK k < 0 then false else hdoL ts (mainK k).toNat := by
    show (T.mk k n ts).hdo = _
    unfold T.hdo; rfl
  have e1 : plH.w (T.mk k n ts) = if (T.mk k n ts).rdx ≠ 0 then [] else if mainK k < 0 then [] else mainK k :: hdwL ts (mainK k).toNat := by
    show (T.mk k n ts).hdw = _
    unfold T.hdw; rfl
  simp only [T.eta]
  refine ⟨ha, br (fun h => ⟨⟨hp, of_decide_eq_true h⟩, ?_⟩) (fun h => ⟨trivial, br (fun h2 => ?_) (fun h2 => ?_)⟩)⟩
  · have h := of_decide_eq_true h
    rw [if_pos h] at e0 e1
    exact retTB (kt _ e0 (by rw [e1]; rfl)) (T.eta _) rfl
  · have h := of_decide_eq_false h
    have h2 := of_decide_eq_true h2
    rw [if_neg h, if_pos h2] at e0
    exact retTB (hk2 e0) rfl rfl
  · have h := of_decide_eq_false h
    have h2 := of_decide_eq_false h2
    rw [if_neg h, if_neg h2] at e0 e1
    have hml := mainK_lt h2
    have hj : (mainK k).toNat < ts.length := by omega
    have hkv := kid_valid hp hj
    have hz := sizeL_mem (getD_mem hj)
    rw [hdoL_get hj] at e0
    rw [hdwL_get hj] at e1
    refine ⟨⟨by omega, by omega⟩, ⟨by omega, hkv⟩, fun ho => ⟨⟨⟨by omega, by omega⟩, by omega⟩, ?_⟩, fun ho => ?_⟩
    · have es : (T.mk k n ts).stp (plH.w (T.mk k n ts)) = .mk k n (ts.set (mainK k).toNat ((ts.getD (mainK k).toNat default).stp (plH.w (ts.getD (mainK k).toNat default)))) := by rw [e1]; rfl
      exact retTB (kt _ (by rw [e0]; exact ho) es) rfl rfl
    · exact retTB (hk2 (by rw [e0]; exact ho)) rfl rfl
theorem sHeadStep_soundM : ∀ m : Nat, Sound Try.prog 81 (csHeadStepM m)
  | 0 => by
      refine soundF (G := []) gnil Try.func81 rfl (by kernel_rfl) fun args hs K hCC => ?_
      unfold csHeadStepM at hCC
      split at hCC
      case h_2 => exact hCC.elim
      exact absurd hCC.1.1 (Nat.not_lt_zero _)
  | m + 1 => by
      refine soundF (G := [(81, csHeadStepM m), (78, csRedex), (53, csContract), (93, csWith), (103, csMain)]) ((gcons (sHeadStep_soundM m) (gcons sRedex_sound (gcons sContract_sound (gcons sWith_sound (gcons sMain_sound gnil)))))) Try.func81 rfl (by kernel_rfl) fun args hs K hCC => ?_
      unfold csHeadStepM at hCC
      split at hCC
      case h_2 => exact hCC.elim
      rename_i k n ts
      exact ⟨Nat.le_of_ble_eq_true rfl, _, sHeadStep_ok m k n ts K hCC.1.1 hCC.1.2 hCC.2⟩
theorem sHeadStep_sound : Sound Try.prog 81 csHeadStep := by
  refine sound_of_all (c := csHeadStepM) (fun m => (sHeadStep_soundM m)) fun args hs K hCC => ?_
  unfold csHeadStep at hCC
  split at hCC
  case h_2 => exact hCC.elim
  exact ⟨_, ⟨Nat.lt_succ_self _, hCC.1⟩, hCC.2⟩
/-- spec.l3Head -/
def csHead : Con
  | [.st [.int .i64 k, .int .i64 n, .slc ts (.arg 0)], .int .i64 (f)], [], K => (((T.mk k n ts).valid = true ∧ 0 ≤ f ∧ f ≤ 200)) ∧ ((K (.tup [((T.mk k n ts).rdc plH f.toNat 0).1.av fs, .int .i64 ((T.mk k n ts).rdc plH f.toNat 0).2.2]) []))
  | _, _, _ => False
theorem sHead_ok (k n : Int) (ts : List T) (f : Int) (K : AV → List AV → Prop) (hp : (((T.mk k n ts).valid = true ∧ 0 ≤ f ∧ f ≤ 200))) (hk : ((K (.tup [((T.mk k n ts).rdc plH f.toNat 0).1.av fs, .int .i64 ((T.mk k n ts).rdc plH f.toNat 0).2.2]) []))) :
    bodyQ [(81, csHeadStep), (70, csCopy), (44, csTermValid)] TY [(1, { ι := T × Nat, ok := fun x => x.1.valid = true ∧ x.2 ≤ 200 ∧ ∃ s, x.1.rdc plH x.2 s = (T.mk k n ts).rdc plH f.toNat 0, tl := fun x => [(1, .int .i64 x.2), (2, .ptr 2), (4, .ptr 4)], hl := fun x => [(2, x.1.av fs), (4, (T.mk 0 0 []).av (.iv 0 0 true .full))], fh := fun _ => [], μ := fun x => x.2 })] Try.f57 (body Try.f57) [.st [.int .i64 k, .int .i64 n, .slc ts (.arg 0)], .int .i64 (f)] [] K := by
  refine of_vc (A :=
    ((∃ x : (Prod T Nat),
     ((((T.valid (Prod.fst x)) = true) ∧
     (((Prod.snd x) ≤ (200 : Nat)) ∧ (∃ s : Int, ((T.rdc plH (Prod.snd x) (Prod.fst x) s) = (T.rdc plH (Int.toNat f) (T.mk k n ts) (0 : Int)))))) ∧
     ((f = (((Prod.snd x) : Nat) : Int)) ∧
     ((k = (T.k (Prod.fst x))) ∧
     ((n = (T.n (Prod.fst x))) ∧ ((ts = (T.kids (Prod.fst x))) ∧ (((0 : Int) = (0 : Int)) ∧ (((0 : Int) = (0 : Int)) ∧ ((([] : List T) = ([] : List T)) ∧ True))))))))) ∧
     (∀ x : (Prod T Nat),
     ((((T.valid (Prod.fst x)) = true) ∧ (((Prod.snd x) ≤ (200 : Nat)) ∧ (∃ s : Int, ((T.rdc plH (Prod.snd x) (Prod.fst x) s) = (T.rdc plH (Int.toNat f) (T.mk k n ts) (0 : Int)))))) →
     (((T.valid (T.mk (T.k (Prod.fst x)) (T.n (Prod.fst x)) (T.kids (Prod.fst x)))) = true) ∧
     ((((Pl.o plH (T.mk (T.k (Prod.fst x)) (T.n (Prod.fst x)) (T.kids (Prod.fst x)))) = true) →
     (Br (Decidable.decide ((((Prod.snd x) : Nat) : Int) < (1 : Int)))
     (Ret K (.tup [(.st [(.int .i64 0), (.int .i64 0), (.slc [] (.iv 0 0 true .full))]), (.int .i64 1)]) [])
     (True ∧
     (Br (Bool.not (T.valid (T.mk (T.k (T.stp (T.mk (T.k (Prod.fst x)) (T.n (Prod.fst x)) (T.kids (Prod.fst x))) (Pl.w plH (T.mk (T.k (Prod.fst x)) (T.n (Prod.fst x)) (T.kids (Prod.fst x)))))) (T.n (T.stp (T.mk (T.k (Prod.fst x)) (T.n (Prod.fst x)) (T.kids (Prod.fst x))) (Pl.w plH (T.mk (T.k (Prod.fst x)) (T.n (Prod.fst x)) (T.kids (Prod.fst x)))))) (T.kids (T.stp (T.mk (T.k (Prod.fst x)) (T.n (Prod.fst x)) (T.kids (Prod.fst x))) (Pl.w plH (T.mk (T.k (Prod.fst x)) (T.n (Prod.fst x)) (T.kids (Prod.fst x)))))))))
     (Ret K (.tup [(.st [(.int .i64 0), (.int .i64 0), (.slc [] (.iv 0 0 true .full))]), (.int .i64 2)]) [])
     ((InR ((((Prod.snd x) : Nat) : Int) - (1 : Int))) ∧
     (∃ y : (Prod T Nat),
     ((((T.valid (Prod.fst y)) = true) ∧
     (((Prod.snd y) ≤ (200 : Nat)) ∧ (∃ s : Int, ((T.rdc plH (Prod.snd y) (Prod.fst y) s) = (T.rdc plH (Int.toNat f) (T.mk k n ts) (0 : Int)))))) ∧
     ((((((Prod.snd x) : Nat) : Int) - (1 : Int)) = (((Prod.snd y) : Nat) : Int)) ∧
     (((T.k (T.stp (T.mk (T.k (Prod.fst x)) (T.n (Prod.fst x)) (T.kids (Prod.fst x))) (Pl.w plH (T.mk (T.k (Prod.fst x)) (T.n (Prod.fst x)) (T.kids (Prod.fst x)))))) = (T.k (Prod.fst y))) ∧
     (((T.n (T.stp (T.mk (T.k (Prod.fst x)) (T.n (Prod.fst x)) (T.kids (Prod.fst x))) (Pl.w plH (T.mk (T.k (Prod.fst x)) (T.n (Prod.fst x)) (T.kids (Prod.fst x)))))) = (T.n (Prod.fst y))) ∧
     (((T.kids (T.stp (T.mk (T.k (Prod.fst x)) (T.n (Prod.fst x)) (T.kids (Prod.fst x))) (Pl.w plH (T.mk (T.k (Prod.fst x)) (T.n (Prod.fst x)) (T.kids (Prod.fst x)))))) = (T.kids (Prod.fst y))) ∧
     (((0 : Int) = (0 : Int)) ∧ (((0 : Int) = (0 : Int)) ∧ ((([] : List T) = ([] : List T)) ∧ ((Nat.succ (Prod.snd y)) ≤ (Prod.snd x)))))))))))))))) ∧
     (((Pl.o plH (T.mk (T.k (Prod.fst x)) (T.n (Prod.fst x)) (T.kids (Prod.fst x)))) = false) →
     (((sizeL (T.kids (Prod.fst x))) ≤ (1048576 : Nat)) ∧
     (Ret K (.tup [(.st [(.int .i64 (T.k (T.mk (T.k (Prod.fst x)) (T.n (Prod.fst x)) (T.kids (Prod.fst x))))), (.int .i64 (T.n (T.mk (T.k (Prod.fst x)) (T.n (Prod.fst x)) (T.kids (Prod.fst x))))), (.slc (T.kids (T.mk (T.k (Prod.fst x)) (T.n (Prod.fst x)) (T.kids (Prod.fst x)))) (.iv 4 4 true (.tok 0)))]), (.int .i64 0)]) []))))))))) ?_ (by kernel_rfl)
  obtain ⟨hv, f0, f1⟩ := hp
  have kr : ∀ r : T × Int × Int, (T.mk k n ts).rdc plH f.toNat 0 = r → K (.tup [r.1.av fs, .int .i64 r.2.2]) [] := fun r h => by rw [h] at hk; exact hk
  simp only [T.eta]
  refine ⟨⟨(T.mk k n ts, f.toNat), ⟨hv, by show f.toNat ≤ 200; omega, 0, rfl⟩, ?_⟩, ?_⟩
  · repeat' first | trivial | rfl | (show _ = ((f.toNat : Nat) : Int); omega) | apply And.intro
  rintro ⟨t, g⟩ ⟨g1, g2, s, g3⟩
  simp only at g1 g2 g3 ⊢
  have hz := small_of g1
  refine ⟨g1, fun ho => br (fun h => ?_) (fun h => ⟨trivial, br (fun h2 => ?_) (fun h2 => ?_)⟩), fun ho => ⟨by omega, ?_⟩⟩
  · have h := of_decide_eq_true h
    have e : g = 0 := by omega
    rw [e, rdc_zero ho] at g3
    exact retTI (kr _ g3.symm) rfl rfl
  · have h := of_decide_eq_false h
    have hs : (t.stp (plH.w t)).valid = false := by simpa using h2
    have e : g = (g - 1) + 1 := by omega
    rw [e, rdc_large ho _ _ hs] at g3
    exact retTI (kr _ g3.symm) rfl rfl
  · have h := of_decide_eq_false h
    have hs : (t.stp (plH.w t)).valid = true := by simpa using h2
    have e : g = (g - 1) + 1 := by omega
    rw [e, rdc_step ho _ _ hs] at g3
    refine ⟨by unfold InR; omega, (t.stp (plH.w t), g - 1), ⟨hs, by show g - 1 ≤ 200; omega, s + 1, g3⟩, ?_⟩
    repeat' first | trivial | rfl | (show (g : Int) - 1 = ((g - 1 : Nat) : Int); omega) | (show Nat.succ (g - 1) ≤ g; omega) | apply And.intro
  · rw [rdc_no ho] at g3
    exact retTI (kr _ g3.symm) (T.eta _) rfl
theorem sHead_sound : Sound Try.prog 57 csHead := by
  refine soundF (G := [(81, csHeadStep), (70, csCopy), (44, csTermValid)]) ((gcons sHeadStep_sound (gcons sCopy_sound (gcons sTermValid_sound gnil)))) Try.func57 rfl (by kernel_rfl) fun args hs K hCC => ?_
  unfold csHead at hCC
  split at hCC
  case h_2 => exact hCC.elim
  rename_i k n ts f
  exact ⟨Nat.le_of_ble_eq_true rfl, _, sHead_ok k n ts f K hCC.1 hCC.2⟩
/-- spec.HeadNormal -/
def csHeadNormal : Con
  | [.st [.int .i64 k, .int .i64 n, .slc ts (.arg 0)], .int .i64 (f)], [], K => True ∧ ((K (.tup [((T.mk k n ts).red plH f).1.av fs, .int .i64 ((T.mk k n ts).red plH f).2.2]) []))
  | _, _, _ => False
theorem sHeadNormal_ok (k n : Int) (ts : List T) (f : Int) (K : AV → List AV → Prop) (hp : True) (hk : ((K (.tup [((T.mk k n ts).red plH f).1.av fs, .int .i64 ((T.mk k n ts).red plH f).2.2]) []))) :
    bodyQ [(55, csFits), (57, csHead)] TY [] Try.f31 (body Try.f31) [.st [.int .i64 k, .int .i64 n, .slc ts (.arg 0)], .int .i64 (f)] [] K := by
  refine of_vc (A :=
    (True ∧
     (Br (Bool.not (Bool.and (T.valid (T.mk k n ts)) (Decidable.decide (((0 : Int) ≤ f) ∧ (f ≤ (200 : Int))))))
     (Ret K (.tup [(.st [(.int .i64 0), (.int .i64 0), (.slc [] (.iv 0 0 true .full))]), (.int .i64 3)]) [])
     ((((T.valid (T.mk k n ts)) = true) ∧ (((0 : Int) ≤ f) ∧ (f ≤ (200 : Int)))) ∧
     (Ret K (.tup [(.st [(.int .i64 (T.k (Prod.fst (T.rdc plH (Int.toNat f) (T.mk k n ts) (0 : Int))))), (.int .i64 (T.n (Prod.fst (T.rdc plH (Int.toNat f) (T.mk k n ts) (0 : Int))))), (.slc (T.kids (Prod.fst (T.rdc plH (Int.toNat f) (T.mk k n ts) (0 : Int)))) (.iv 7 7 false .no))]), (.int .i64 (Prod.snd (Prod.snd (T.rdc plH (Int.toNat f) (T.mk k n ts) (0 : Int)))))]) []))))) ?_ (by kernel_rfl)
  have kr : ∀ r : T × Int × Int, (T.mk k n ts).red plH f = r → K (.tup [r.1.av fs, .int .i64 r.2.2]) [] := fun r h => by rw [h] at hk; exact hk
  refine ⟨trivial, br (fun h => ?_) (fun h => ?_)⟩
  · have h : ¬ ((T.mk k n ts).valid = true ∧ 0 ≤ f ∧ f ≤ 200) := by
      intro e
      rw [e.1, decide_eq_true e.2] at h
      cases h
    exact retTI (kr (.mk 0 0 [], 0, 3) (by unfold T.red; rw [if_neg h])) rfl rfl
  · rw [Bool.not_eq_false', Bool.and_eq_true, decide_eq_true_eq] at h
    exact ⟨h, retTI (kr _ (by unfold T.red; rw [if_pos h])) (T.eta _) rfl⟩
theorem sHeadNormal_sound : Sound Try.prog 31 csHeadNormal := by
  refine soundF (G := [(55, csFits), (57, csHead)]) ((gcons sFits_sound (gcons sHead_sound gnil))) Try.func31 rfl (by kernel_rfl) fun args hs K hCC => ?_
  unfold csHeadNormal at hCC
  split at hCC
  case h_2 => exact hCC.elim
  rename_i k n ts f
  exact ⟨Nat.le_of_ble_eq_true rfl, _, sHeadNormal_ok k n ts f K hCC.1 hCC.2⟩
/-- spec.ReduceSteps -/
def csReduceSteps : Con
  | [.st [.int .i64 k, .int .i64 n, .slc ts (.arg 0)], .int .i64 (f)], [], K => True ∧ ((K (.tup [.int .i64 ((T.mk k n ts).red plO f).2.1, .int .i64 ((T.mk k n ts).red plO f).2.2]) []))
  | _, _, _ => False
theorem sReduceSteps_ok (k n : Int) (ts : List T) (f : Int) (K : AV → List AV → Prop) (hp : True) (hk : ((K (.tup [.int .i64 ((T.mk k n ts).red plO f).2.1, .int .i64 ((T.mk k n ts).red plO f).2.2]) []))) :
    bodyQ [(55, csFits), (45, csOne)] TY [(4, { ι := T × Nat, ok := fun x => x.1.valid = true ∧ x.2 ≤ 200 ∧ (x.2 : Int) ≤ f ∧ x.1.rdc plO (f - x.2).toNat x.2 = (T.mk k n ts).rdc plO f.toNat 0, tl := fun x => [(1, .int .i64 (f)), (2, .ptr 2), (6, .int .i64 x.2)], hl := fun x => [(2, x.1.av fs)], fh := fun _ => [], μ := fun x => 201 - x.2 })] Try.f28 (body Try.f28) [.st [.int .i64 k, .int .i64 n, .slc ts (.arg 0)], .int .i64 (f)] [] K := by
  refine of_vc (A :=
    (True ∧
     (Br (Bool.not (Bool.and (T.valid (T.mk k n ts)) (Decidable.decide (((0 : Int) ≤ f) ∧ (f ≤ (200 : Int))))))
     (Ret K (.tup [(.int .i64 0), (.int .i64 3)]) [])
     ((∃ x : (Prod T Nat),
     ((((T.valid (Prod.fst x)) = true) ∧
     (((Prod.snd x) ≤ (200 : Nat)) ∧
     (((((Prod.snd x) : Nat) : Int) ≤ f) ∧
     ((T.rdc plO (Int.toNat (f - (((Prod.snd x) : Nat) : Int))) (Prod.fst x) (((Prod.snd x) : Nat) : Int)) = (T.rdc plO (Int.toNat f) (T.mk k n ts) (0 : Int)))))) ∧
     ((f = f) ∧ (((0 : Int) = (((Prod.snd x) : Nat) : Int)) ∧ ((k = (T.k (Prod.fst x))) ∧ ((n = (T.n (Prod.fst x))) ∧ ((ts = (T.kids (Prod.fst x))) ∧ True))))))) ∧
     (∀ x : (Prod T Nat),
     ((((T.valid (Prod.fst x)) = true) ∧ (((Prod.snd x) ≤ (200 : Nat)) ∧ (((((Prod.snd x) : Nat) : Int) ≤ f) ∧ ((T.rdc plO (Int.toNat (f - (((Prod.snd x) : Nat) : Int))) (Prod.fst x) (((Prod.snd x) : Nat) : Int)) = (T.rdc plO (Int.toNat f) (T.mk k n ts) (0 : Int)))))) →
     (((T.valid (T.mk (T.k (Prod.fst x)) (T.n (Prod.fst x)) (T.kids (Prod.fst x)))) = true) ∧
     (Br (Decidable.decide ((T.stC (T.mk (T.k (Prod.fst x)) (T.n (Prod.fst x)) (T.kids (Prod.fst x))) (plB false)) = (0 : Int)))
     (Ret K (.tup [(.int .i64 (((Prod.snd x) : Nat) : Int)), (.int .i64 0)]) [])
     (Br (Decidable.decide (f ≤ (((Prod.snd x) : Nat) : Int)))
     (Ret K (.tup [(.int .i64 (((Prod.snd x) : Nat) : Int)), (.int .i64 1)]) [])
     (Br (Decidable.decide ((T.stC (T.mk (T.k (Prod.fst x)) (T.n (Prod.fst x)) (T.kids (Prod.fst x))) (plB false)) = (2 : Int)))
     (Ret K (.tup [(.int .i64 (((Prod.snd x) : Nat) : Int)), (.int .i64 2)]) [])
     ((InR ((((Prod.snd x) : Nat) : Int) + (1 : Int))) ∧
     (∃ y : (Prod T Nat),
     ((((T.valid (Prod.fst y)) = true) ∧
     (((Prod.snd y) ≤ (200 : Nat)) ∧
     (((((Prod.snd y) : Nat) : Int) ≤ f) ∧
     ((T.rdc plO (Int.toNat (f - (((Prod.snd y) : Nat) : Int))) (Prod.fst y) (((Prod.snd y) : Nat) : Int)) = (T.rdc plO (Int.toNat f) (T.mk k n ts) (0 : Int)))))) ∧
     ((f = f) ∧
     ((((((Prod.snd x) : Nat) : Int) + (1 : Int)) = (((Prod.snd y) : Nat) : Int)) ∧
     (((T.k (T.stR (T.mk (T.k (Prod.fst x)) (T.n (Prod.fst x)) (T.kids (Prod.fst x))) (plB false))) = (T.k (Prod.fst y))) ∧
     (((T.n (T.stR (T.mk (T.k (Prod.fst x)) (T.n (Prod.fst x)) (T.kids (Prod.fst x))) (plB false))) = (T.n (Prod.fst y))) ∧
     (((T.kids (T.stR (T.mk (T.k (Prod.fst x)) (T.n (Prod.fst x)) (T.kids (Prod.fst x))) (plB false))) = (T.kids (Prod.fst y))) ∧
     ((Nat.succ ((201 : Nat) - (Prod.snd y))) ≤ ((201 : Nat) - (Prod.snd x))))))))))))))))))))) ?_ (by kernel_rfl)
  have kr : ∀ r : T × Int × Int, (T.mk k n ts).red plO f = r → K (.tup [.int .i64 r.2.1, .int .i64 r.2.2]) [] := fun r h => by rw [h] at hk; exact hk
  have fin2 : ∀ (r : T × Int × Int), (T.mk k n ts).red plO f = r → ∀ a b : Int, a = r.2.1 → b = r.2.2 → Ret K (.tup [.int .i64 a, .int .i64 b]) [] := fun r h a b h1 h2 => by subst h1 h2; exact fin (kr r h) (by repeat' first | trivial | rfl | (simp; done) | apply And.intro) trivial
  simp only [T.eta]
  refine ⟨trivial, br (fun h => ?_) (fun h => ?_)⟩
  · have h : ¬ ((T.mk k n ts).valid = true ∧ 0 ≤ f ∧ f ≤ 200) := by
      intro e
      rw [e.1, decide_eq_true e.2] at h
      cases h
    exact fin2 (.mk 0 0 [], 0, 3) (by unfold T.red; rw [if_neg h]) _ _ rfl rfl
  rw [Bool.not_eq_false', Bool.and_eq_true, decide_eq_true_eq] at h
  obtain ⟨hv, h2⟩ := h
  have he : (T.mk k n ts).red plO f = (T.mk k n ts).rdc plO f.toNat 0 := by unfold T.red; rw [if_pos ⟨hv, h2⟩]
  refine ⟨⟨(T.mk k n ts, 0), ⟨hv, Nat.zero_le _, by show (0 : Int) ≤ f; omega, by show (T.mk k n ts).rdc plO (f - 0).toNat 0 = _; rw [Int.sub_zero]⟩, (by repeat' first | trivial | rfl | (simp; done) | apply And.intro)⟩, ?_⟩
  rintro ⟨t, c⟩ ⟨g1, g2, g3, g4⟩
  simp only at g1 g2 g3 g4 ⊢
  rw [← he] at g4
  refine ⟨g1, ?_⟩
  have eP : plB false = plO := rfl
  rw [eP]
  cases ho : plO.o t with
  | false =>
    have e2 : t.stC plO = 0 := by unfold T.stC; rw [if_pos g1, ho, if_neg (by simp)]
    rw [rdc_no ho] at g4
    rw [e2]
    exact br (fun _ => fin2 _ g4.symm _ _ rfl rfl) (fun h => absurd h (by simp))
  | true =>
    cases hs : (t.stp (plO.w t)).valid with
    | false =>
      have e2 : t.stC plO = 2 := by unfold T.stC; rw [if_pos g1, if_pos ho, hs, if_neg (by simp)]
      rw [e2]
      refine br (fun h => absurd h (by decide)) (fun _ => br (fun h => ?_) (fun h => br (fun _ => ?_) (fun h => absurd h (by decide))))
      · have h := of_decide_eq_true h
        rw [show (f - (c : Int)).toNat = 0 by omega, rdc_zero ho] at g4
        exact fin2 _ g4.symm _ _ rfl rfl
      · have h := of_decide_eq_false h
        rw [show (f - (c : Int)).toNat = (f - ((c + 1 : Nat) : Int)).toNat + 1 by omega, rdc_large ho _ _ hs] at g4
        exact fin2 _ g4.symm _ _ rfl rfl
    | true =>
      have e1 : t.stR plO = t.stp (plO.w t) := by unfold T.stR; rw [if_pos g1, if_pos ho, if_pos hs]
      have e2 : t.stC plO = 1 := by unfold T.stC; rw [if_pos g1, if_pos ho, if_pos hs]
      rw [e1, e2]
      refine br (fun h => absurd h (by decide)) (fun _ => br (fun h => ?_) (fun h => br (fun h => absurd h (by decide)) (fun _ => ?_)))
      · have h := of_decide_eq_true h
        rw [show (f - (c : Int)).toNat = 0 by omega, rdc_zero ho] at g4
        exact fin2 _ g4.symm _ _ rfl rfl
      · have h := of_decide_eq_false h
        rw [show (f - (c : Int)).toNat = (f - ((c + 1 : Nat) : Int)).toNat + 1 by omega, rdc_step ho _ _ hs] at g4
        refine ⟨by unfold InR; omega, (t.stp (plO.w t), c + 1), ⟨hs, by show c + 1 ≤ 200; omega, by show ((c + 1 : Nat) : Int) ≤ f; omega, ?_⟩, (by repeat' first | trivial | rfl | (simp; done) | (dsimp only; omega) | omega | apply And.intro)⟩
        show (t.stp (plO.w t)).rdc plO (f - ((c + 1 : Nat) : Int)).toNat ((c + 1 : Nat) : Int) = _
        rw [← he, ← g4]
        rfl
theorem sReduceSteps_sound : Sound Try.prog 28 csReduceSteps := by
  refine soundF (G := [(55, csFits), (45, csOne)]) ((gcons sFits_sound (gcons sOne_sound gnil))) Try.func28 rfl (by kernel_rfl) fun args hs K hCC => ?_
  unfold csReduceSteps at hCC
  split at hCC
  case h_2 => exact hCC.elim
  rename_i k n ts f
  exact ⟨Nat.le_of_ble_eq_true rfl, _, sReduceSteps_ok k n ts f K hCC.1 hCC.2⟩
end Go.Dk
