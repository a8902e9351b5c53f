/- Traces: the program's function and the reference's. -/
import Derived.Test.YtnohobjbblbffaaL4
import Derived.Test.YtnohobjbblbffaaL4s
namespace Go.Dk
set_option linter.unusedVariables false
open Go.Proofs
/-- The terms after steps, as long as there are some. -/
def T.trL : Nat → T → List T
  | 0, _ => []
  | g + 1, t => if t.stC plO = 1 then t.stR plO :: T.trL g (t.stR plO) else []
def T.trc (t : T) : List T := if t.valid = true then t :: T.trL 11 t else []
def lst (x : List T) : T := x.getD (x.length - 1) default
theorem trc_zero {t : T} (h : t.valid = true) : [t] ++ T.trL (12 - 1) (lst [t]) = t.trc := by unfold T.trc; rw [if_pos h]; rfl
theorem trc_stop {x : List T} {t : T} (h : x ++ T.trL (12 - x.length) (lst x) = t.trc) (hs : 12 - x.length = 0 ∨ (lst x).stC plO ≠ 1) : x = t.trc := by
  rw [← h]
  have e : T.trL (12 - x.length) (lst x) = [] := by
    generalize 12 - x.length = g at hs
    cases g with
    | zero => rfl
    | succ g =>
      rcases hs with h | h
      · omega
      · show (if (lst x).stC plO = 1 then _ else _) = _
        rw [if_neg h]
  rw [e, List.append_nil]
theorem lst_snoc (x : List T) (u : T) : lst (x ++ [u]) = u := by
  unfold lst
  rw [List.getD_eq_getElem?_getD, List.length_append]
  simp
theorem trc_go {x : List T} {t : T} (hl : x.length < 12) (h : x ++ T.trL (12 - x.length) (lst x) = t.trc) (hs : (lst x).stC plO = 1) : (x ++ [(lst x).stR plO]) ++ T.trL (12 - (x ++ [(lst x).stR plO]).length) (lst (x ++ [(lst x).stR plO])) = t.trc := by
  rw [← h, lst_snoc, List.length_append]
  have e : 12 - x.length = (12 - (x.length + 1)) + 1 := by omega
  rw [e]
  show _ = x ++ (if (lst x).stC plO = 1 then _ else _)
  rw [if_pos hs, List.append_assoc]
  rfl
theorem trL_size : ∀ (g : Nat) (t : T), sizeL (T.trL g t) ≤ 401 * g
  | 0, _ => Nat.zero_le _
  | g + 1, t => by
    have h1 := trL_size g (t.stR plO)
    have h2 := stR_small t plO
    show sizeL (if t.stC plO = 1 then _ else _) ≤ _
    split
    · show (t.stR plO).size + sizeL (T.trL g (t.stR plO)) ≤ _
      rw [T.size_eq]; omega
    · show 0 ≤ _; omega
theorem trc_small (t : T) : sizeL t.trc ≤ 5000 := by
  unfold T.trc
  split
  · rename_i h
    have h1 := trL_size 11 t
    have h2 := small_of h
    show t.size + sizeL (T.trL 11 t) ≤ _
    rw [T.size_eq]; omega
  · show 0 ≤ _; omega
theorem stR_valid {t : T} (c : t.stC plO = 1) : (t.stR plO).valid = true := by
  unfold T.stC at c
  unfold T.stR
  by_cases a : t.valid = true
  · by_cases o : plO.o t = true
    · by_cases s : (t.stp (plO.w t)).valid = true
      · rw [if_pos a, if_pos o, if_pos s]; exact s
      · rw [if_pos a, if_pos o, if_neg s] at c; omega
    · rw [if_pos a, if_neg o] at c; omega
  · rw [if_neg a] at c; omega
/-- impl.TraceTerm -/
def cTraceTerm : Con
  | [.st [.int .i64 k, .int .i64 n, .slc ts (.arg 0)]], [], K => True ∧ ((K (.slc ((T.mk k n ts).trc) fr) []))
  | _, _, _ => False
theorem TraceTerm_ok (k n : Int) (ts : List T) (K : AV → List AV → Prop) (hp : True) (hk : ((K (.slc ((T.mk k n ts).trc) fr) []))) :
    bodyQ [(40, cTermValid), (56, cOwn), (23, cStepTerm)] TY [(4, { ι := List T, ok := fun x => 1 ≤ x.length ∧ x.length ≤ 12 ∧ x ++ T.trL (12 - x.length) (lst x) = (T.mk k n ts).trc, tl := fun x => [(1, .ptr 1), (3, .slc x (.iv 4 4 true (.tok 30)))], hl := fun x => [(1, .st [.int .i64 k, .int .i64 n, .slc ts (.arg 0)])], fh := fun x => [], μ := fun x => 12 - x.length })] Try.f25 (body Try.f25) [.st [.int .i64 k, .int .i64 n, .slc ts (.arg 0)]] [] K := by
  refine of_vc (A :=
      (True ∧
       (Br (Bool.not (T.valid (T.mk k n ts)))
         (Ret K (.slc ([] : List T) (.iv (0 : Nat) (0 : Nat) true .full)) [])
         (((sizeL ts) ≤ (1048576 : Nat)) ∧
          ((∃ x : (List T),
             ((((1 : Nat) ≤ (List.length x)) ∧ (((List.length x) ≤ (12 : Nat)) ∧ ((x ++ (T.trL ((12 : Nat) - (List.length x)) (lst x))) = (T.trc (T.mk k n ts))))) ∧
              (([(T.mk (T.k (T.mk k n ts)) (T.n (T.mk k n ts)) (T.kids (T.mk k n ts)))] = x) ∧ ((k = k) ∧ ((n = n) ∧ ((ts = ts) ∧ True)))))) ∧
           (∀ x : (List T),
             ((((1 : Nat) ≤ (List.length x)) ∧ (((List.length x) ≤ (12 : Nat)) ∧ ((x ++ (T.trL ((12 : Nat) - (List.length x)) (lst x))) = (T.trc (T.mk k n ts))))) →
              (Br (Decidable.decide ((((List.length x) : Nat) : Int) < (12 : Int)))
                ((InR ((((List.length x) : Nat) : Int) - (1 : Int))) ∧
                 ((((0 : Int) ≤ ((((List.length x) : Nat) : Int) - (1 : Int))) ∧ (((((List.length x) : Nat) : Int) - (1 : Int)) < (((List.length x) : Nat) : Int))) ∧
                  (True ∧
                   (Br (Decidable.decide ((T.stC (T.mk (T.k (List.getD x (Int.toNat ((((List.length x) : Nat) : Int) - (1 : Int))) (default : T))) (T.n (List.getD x (Int.toNat ((((List.length x) : Nat) : Int) - (1 : Int))) (default : T))) (T.kids (List.getD x (Int.toNat ((((List.length x) : Nat) : Int) - (1 : Int))) (default : T)))) plO) ≠ (1 : Int)))
                     (Ret K (.slc x (.iv (4 : Nat) (4 : Nat) true (.tok (0 : Nat)))) [])
                     ((((((List.length x) : Nat) : Int) + (1 : Int)) ≤ (1099511627776 : Int)) ∧
                      (∃ y : (List T),
                        ((((1 : Nat) ≤ (List.length y)) ∧ (((List.length y) ≤ (12 : Nat)) ∧ ((y ++ (T.trL ((12 : Nat) - (List.length y)) (lst y))) = (T.trc (T.mk k n ts))))) ∧
                         (((x ++ [(T.mk (T.k (T.stR (T.mk (T.k (List.getD x (Int.toNat ((((List.length x) : Nat) : Int) - (1 : Int))) (default : T))) (T.n (List.getD x (Int.toNat ((((List.length x) : Nat) : Int) - (1 : Int))) (default : T))) (T.kids (List.getD x (Int.toNat ((((List.length x) : Nat) : Int) - (1 : Int))) (default : T)))) plO)) (T.n (T.stR (T.mk (T.k (List.getD x (Int.toNat ((((List.length x) : Nat) : Int) - (1 : Int))) (default : T))) (T.n (List.getD x (Int.toNat ((((List.length x) : Nat) : Int) - (1 : Int))) (default : T))) (T.kids (List.getD x (Int.toNat ((((List.length x) : Nat) : Int) - (1 : Int))) (default : T)))) plO)) (T.kids (T.stR (T.mk (T.k (List.getD x (Int.toNat ((((List.length x) : Nat) : Int) - (1 : Int))) (default : T))) (T.n (List.getD x (Int.toNat ((((List.length x) : Nat) : Int) - (1 : Int))) (default : T))) (T.kids (List.getD x (Int.toNat ((((List.length x) : Nat) : Int) - (1 : Int))) (default : T)))) plO)))]) = y) ∧
                          ((k = k) ∧ ((n = n) ∧ ((ts = ts) ∧ ((Nat.succ ((12 : Nat) - (List.length y))) ≤ ((12 : Nat) - (List.length x))))))))))))))
                (Ret K (.slc x (.iv (4 : Nat) (4 : Nat) true (.tok (0 : Nat)))) []))))))))) ?_ (by kernel_rfl)
  refine ⟨trivial, br (fun h => ?_) (fun h => ?_)⟩
  · exact retS hk (by unfold T.trc; rw [if_neg (by intro e; rw [e] at h; cases h)])
  · rw [Bool.not_eq_false'] at h
    have hz : sizeL ts ≤ 400 := small_of h
    refine ⟨by omega, ⟨[T.mk k n ts], ⟨Nat.le_refl 1, by show 1 ≤ 12; omega, trc_zero h⟩, rfl, rfl, rfl, rfl, trivial⟩, ?_⟩
    rintro x ⟨h1, h2, h3⟩
    refine br (fun g => ?_) (fun g => ?_)
    · have g := of_decide_eq_true g
      have e : ((x.length : Int) - 1).toNat = x.length - 1 := by omega
      have e2 : x.getD (x.length - 1) default = lst x := rfl
      simp only [T.eta, e, e2]
      refine ⟨by unfold InR; omega, ⟨by omega, by omega⟩, trivial, br (fun c => ?_) (fun c => ?_)⟩
      · exact retS hk (trc_stop h3 (Or.inr (of_decide_eq_true c)))
      · have c : (lst x).stC plO = 1 := Decidable.byContradiction (of_decide_eq_false c)
        refine ⟨by omega, x ++ [(lst x).stR plO], ⟨by rw [List.length_append]; omega, by rw [List.length_append]; show x.length + 1 ≤ 12; omega, trc_go (by omega) h3 c⟩, rfl, trivial, trivial, trivial, ?_⟩
        rw [List.length_append]; show 12 - (x.length + 1) + 1 ≤ _; omega
    · have g := of_decide_eq_false g
      exact retS hk (trc_stop h3 (Or.inl (by omega)))
theorem TraceTerm_sound : Sound Try.prog 25 cTraceTerm := by
  refine soundF (G := [(40, cTermValid), (56, cOwn), (23, cStepTerm)]) ((gcons TermValid_sound (gcons Own_sound (gcons StepTerm_sound gnil)))) Try.func25 rfl (by kernel_rfl) fun args hs K hCC => ?_
  unfold cTraceTerm at hCC
  split at hCC
  case h_2 => exact hCC.elim
  rename_i k n ts
  exact ⟨Nat.le_of_ble_eq_true rfl, _, TraceTerm_ok k n ts K hCC.1 hCC.2⟩
/-- spec.TraceTerm -/
def csTraceTerm : Con
  | [.st [.int .i64 k, .int .i64 n, .slc ts (.arg 0)]], [], K => True ∧ ((K (.slc ((T.mk k n ts).trc) (.iv 4 7 false .no)) []))
  | _, _, _ => False
theorem sTraceTerm_ok (k n : Int) (ts : List T) (K : AV → List AV → Prop) (hp : True) (hk : ((K (.slc ((T.mk k n ts).trc) (.iv 4 7 false .no)) []))) :
    bodyQ [(52, csTermValid), (55, csCopy), (47, csOne)] TY [(1500004, retagL 3), (1500009, retagL 3), (5, { ι := List T, ok := fun x => 1 ≤ x.length ∧ x.length ≤ 12 ∧ (∀ t ∈ x, t.valid = true) ∧ x ++ T.trL (12 - x.length) (lst x) = (T.mk k n ts).trc, tl := fun x => [(1, .ptr 1), (3, .slc x (.iv 4 7 false (.tok 3)))], hl := fun x => [(1, .st [.int .i64 k, .int .i64 n, .slc ts (.arg 0)])], fh := fun x => [], μ := fun x => 12 - x.length })] Try.f24 (body Try.f24) [.st [.int .i64 k, .int .i64 n, .slc ts (.arg 0)]] [] K := by
  refine of_vc (A :=
      (True ∧
       (Br (Bool.not (T.valid (T.mk k n ts)))
         (Ret K (.slc ([] : List T) (.iv (0 : Nat) (0 : Nat) true .full)) [])
         (((sizeL ts) ≤ (1048576 : Nat)) ∧
          (((1 : Int) ≤ (1099511627776 : Int)) ∧
           ((∃ x : (List T),
              ((((1 : Nat) ≤ (List.length x)) ∧
                (((List.length x) ≤ (12 : Nat)) ∧
                 ((∀ t : T, ((Membership.mem x t) → ((T.valid t) = true))) ∧ ((x ++ (T.trL ((12 : Nat) - (List.length x)) (lst x))) = (T.trc (T.mk k n ts)))))) ∧
               (([(T.mk (T.k (T.mk k n ts)) (T.n (T.mk k n ts)) (T.kids (T.mk k n ts)))] = x) ∧ ((k = k) ∧ ((n = n) ∧ ((ts = ts) ∧ True)))))) ∧
            (∀ x : (List T),
              ((((1 : Nat) ≤ (List.length x)) ∧ (((List.length x) ≤ (12 : Nat)) ∧ ((∀ t : T, ((Membership.mem x t) → ((T.valid t) = true))) ∧ ((x ++ (T.trL ((12 : Nat) - (List.length x)) (lst x))) = (T.trc (T.mk k n ts)))))) →
               (Br (Decidable.decide ((((List.length x) : Nat) : Int) < (12 : Int)))
                 ((InR ((((List.length x) : Nat) : Int) - (1 : Int))) ∧
                  ((((0 : Int) ≤ ((((List.length x) : Nat) : Int) - (1 : Int))) ∧ (((((List.length x) : Nat) : Int) - (1 : Int)) < (((List.length x) : Nat) : Int))) ∧
                   (((T.valid (T.mk (T.k (List.getD x (Int.toNat ((((List.length x) : Nat) : Int) - (1 : Int))) (default : T))) (T.n (List.getD x (Int.toNat ((((List.length x) : Nat) : Int) - (1 : Int))) (default : T))) (T.kids (List.getD x (Int.toNat ((((List.length x) : Nat) : Int) - (1 : Int))) (default : T))))) = true) ∧
                    (Br (Decidable.decide ((T.stC (T.mk (T.k (List.getD x (Int.toNat ((((List.length x) : Nat) : Int) - (1 : Int))) (default : T))) (T.n (List.getD x (Int.toNat ((((List.length x) : Nat) : Int) - (1 : Int))) (default : T))) (T.kids (List.getD x (Int.toNat ((((List.length x) : Nat) : Int) - (1 : Int))) (default : T)))) (plB false)) ≠ (1 : Int)))
                      (Ret K (.slc x (.iv (4 : Nat) (7 : Nat) false (.tok (0 : Nat)))) [])
                      ((((((List.length x) : Nat) : Int) + (1 : Int)) ≤ (1099511627776 : Int)) ∧
                       (∃ y : (List T),
                         ((((1 : Nat) ≤ (List.length y)) ∧
                           (((List.length y) ≤ (12 : Nat)) ∧
                            ((∀ t : T, ((Membership.mem y t) → ((T.valid t) = true))) ∧ ((y ++ (T.trL ((12 : Nat) - (List.length y)) (lst y))) = (T.trc (T.mk k n ts)))))) ∧
                          (((x ++ [(T.mk (T.k (T.stR (T.mk (T.k (List.getD x (Int.toNat ((((List.length x) : Nat) : Int) - (1 : Int))) (default : T))) (T.n (List.getD x (Int.toNat ((((List.length x) : Nat) : Int) - (1 : Int))) (default : T))) (T.kids (List.getD x (Int.toNat ((((List.length x) : Nat) : Int) - (1 : Int))) (default : T)))) (plB false))) (T.n (T.stR (T.mk (T.k (List.getD x (Int.toNat ((((List.length x) : Nat) : Int) - (1 : Int))) (default : T))) (T.n (List.getD x (Int.toNat ((((List.length x) : Nat) : Int) - (1 : Int))) (default : T))) (T.kids (List.getD x (Int.toNat ((((List.length x) : Nat) : Int) - (1 : Int))) (default : T)))) (plB false))) (T.kids (T.stR (T.mk (T.k (List.getD x (Int.toNat ((((List.length x) : Nat) : Int) - (1 : Int))) (default : T))) (T.n (List.getD x (Int.toNat ((((List.length x) : Nat) : Int) - (1 : Int))) (default : T))) (T.kids (List.getD x (Int.toNat ((((List.length x) : Nat) : Int) - (1 : Int))) (default : T)))) (plB false))))]) = y) ∧
                           ((k = k) ∧ ((n = n) ∧ ((ts = ts) ∧ ((Nat.succ ((12 : Nat) - (List.length y))) ≤ ((12 : Nat) - (List.length x))))))))))))))
                 (Ret K (.slc x (.iv (4 : Nat) (7 : Nat) false (.tok (0 : Nat)))) [])))))))))) ?_ (by kernel_rfl)
  have pe : plB false = plO := rfl
  refine ⟨trivial, br (fun h => ?_) (fun h => ?_)⟩
  · exact retS hk (by unfold T.trc; rw [if_neg (by intro e; rw [e] at h; cases h)])
  · rw [Bool.not_eq_false'] at h
    have hz : sizeL ts ≤ 400 := small_of h
    refine ⟨by omega, by omega, ⟨[T.mk k n ts], ⟨Nat.le_refl 1, by show 1 ≤ 12; omega, fun t ht => by cases List.mem_singleton.1 ht; exact h, trc_zero h⟩, rfl, rfl, rfl, rfl, trivial⟩, ?_⟩
    rintro x ⟨h1, h2, hv, h3⟩
    refine br (fun g => ?_) (fun g => ?_)
    · have g := of_decide_eq_true g
      have e : ((x.length : Int) - 1).toNat = x.length - 1 := by omega
      have e2 : x.getD (x.length - 1) default = lst x := rfl
      have vl : (lst x).valid = true := hv _ (getD_mem (by omega))
      simp only [T.eta, e, e2, pe]
      refine ⟨by unfold InR; omega, ⟨by omega, by omega⟩, vl, br (fun c => ?_) (fun c => ?_)⟩
      · exact retS hk (trc_stop h3 (Or.inr (of_decide_eq_true c)))
      · have c : (lst x).stC plO = 1 := Decidable.byContradiction (of_decide_eq_false c)
        refine ⟨by omega, x ++ [(lst x).stR plO], ⟨by rw [List.length_append]; omega, by rw [List.length_append]; show x.length + 1 ≤ 12; omega, fun t ht => ?_, trc_go (by omega) h3 c⟩, rfl, trivial, trivial, trivial, ?_⟩
        · rcases List.mem_append.1 ht with ht | ht
          · exact hv t ht
          · cases List.mem_singleton.1 ht; exact stR_valid c
        · rw [List.length_append]; show 12 - (x.length + 1) + 1 ≤ _; omega
    · have g := of_decide_eq_false g
      exact retS hk (trc_stop h3 (Or.inl (by omega)))
theorem sTraceTerm_sound : Sound Try.prog 24 csTraceTerm := by
  refine soundF (G := [(52, csTermValid), (55, csCopy), (47, csOne)]) ((gcons sTermValid_sound (gcons sCopy_sound (gcons sOne_sound gnil)))) Try.func24 rfl (by kernel_rfl) fun args hs K hCC => ?_
  unfold csTraceTerm at hCC
  split at hCC
  case h_2 => exact hCC.elim
  rename_i k n ts
  exact ⟨Nat.le_of_ble_eq_true rfl, _, sTraceTerm_ok k n ts K hCC.1 hCC.2⟩
end Go.Dk
