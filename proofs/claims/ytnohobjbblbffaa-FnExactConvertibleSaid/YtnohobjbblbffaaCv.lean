/- Conversion: the program's function and the reference's. -/
import Derived.Test.YtnohobjbblbffaaL4
import Derived.Test.YtnohobjbblbffaaL4s
namespace Go.Dk
set_option linter.unusedVariables false
open Go.Proofs
def T.conv (a b : T) (f : Int) : Int :=
  if a.valid = true ∧ b.valid = true ∧ 0 ≤ f ∧ f ≤ 200 then
    (if a.same b = true then 1 else if (a.red plO f).2.2 ≠ 0 then 3 else if (b.red plO f).2.2 ≠ 0 then 3 else if (a.red plO f).1.same (b.red plO f).1 = true then 1 else 2) else 0
/-- impl.Convertible -/
def cConvertible : Con
  | [.st [.int .i64 k, .int .i64 n, .slc ts (.arg 0)], .st [.int .i64 k2, .int .i64 n2, .slc ts2 (.arg 1)], .int .i64 (f)], [], K => True ∧ ((K (.int .i64 ((T.mk k n ts).conv (T.mk k2 n2 ts2) f)) []))
  | _, _, _ => False
theorem Convertible_ok (k n : Int) (ts : List T) (k2 n2 : Int) (ts2 : List T) (f : Int) (K : AV → List AV → Prop) (hp : True) (hk : ((K (.int .i64 ((T.mk k n ts).conv (T.mk k2 n2 ts2) f)) []))) :
    bodyQ [(40, cTermValid), (61, cWithin), (62, cTermSame), (34, cNormalize)] TY [] Try.f36 (body Try.f36) [.st [.int .i64 k, .int .i64 n, .slc ts (.arg 0)], .st [.int .i64 k2, .int .i64 n2, .slc ts2 (.arg 1)], .int .i64 (f)] [] K := by
  refine of_vc (A :=
      (True ∧
       (Br (Bool.not (T.valid (T.mk k n ts)))
         (Ret K (.int .i64 (0 : Int)) [])
         (True ∧
          (Br (Bool.not (T.valid (T.mk k2 n2 ts2)))
            (Ret K (.int .i64 (0 : Int)) [])
            (True ∧
             (Br (Bool.not (Decidable.decide (((0 : Int) ≤ f) ∧ (f ≤ (200 : Int)))))
               (Ret K (.int .i64 (0 : Int)) [])
               (((sizeL ts) ≤ (1099511627776 : Nat)) ∧
                (Br (T.same (T.mk k n ts) (T.mk k2 n2 ts2))
                  (Ret K (.int .i64 (1 : Int)) [])
                  (True ∧
                   (True ∧
                    (Br (Decidable.decide ((Prod.snd (Prod.snd (T.red (T.mk k n ts) plO f))) ≠ (0 : Int)))
                      (Ret K (.int .i64 (3 : Int)) [])
                      (Br (Decidable.decide ((Prod.snd (Prod.snd (T.red (T.mk k2 n2 ts2) plO f))) ≠ (0 : Int)))
                        (Ret K (.int .i64 (3 : Int)) [])
                        (((sizeL (T.kids (Prod.fst (T.red (T.mk k n ts) plO f)))) ≤ (1099511627776 : Nat)) ∧
                         (Br (T.same (T.mk (T.k (Prod.fst (T.red (T.mk k n ts) plO f))) (T.n (Prod.fst (T.red (T.mk k n ts) plO f))) (T.kids (Prod.fst (T.red (T.mk k n ts) plO f)))) (T.mk (T.k (Prod.fst (T.red (T.mk k2 n2 ts2) plO f))) (T.n (Prod.fst (T.red (T.mk k2 n2 ts2) plO f))) (T.kids (Prod.fst (T.red (T.mk k2 n2 ts2) plO f)))))
                           (Ret K (.int .i64 (1 : Int)) [])
                           (Ret K (.int .i64 (2 : Int)) [])))))))))))))))) ?_ (by kernel_rfl)
  simp only [T.eta]
  unfold T.conv at hk
  have z := red_small (.mk k n ts) plO f
  refine ⟨trivial, br (fun h => ?_) (fun h1 => ⟨trivial, br (fun h => ?_) (fun h2 => ⟨trivial, br (fun h => ?_) (fun h3 => ?_)⟩)⟩)⟩
  · rw [if_neg (by intro e; rw [e.1] at h; cases h)] at hk; exact retI hk rfl
  · rw [if_neg (by intro e; rw [e.2.1] at h; cases h)] at hk; exact retI hk rfl
  · rw [if_neg (by intro e; rw [decide_eq_true e.2.2] at h; cases h)] at hk; exact retI hk rfl
  · rw [Bool.not_eq_false'] at h1 h2 h3
    have h3 := of_decide_eq_true h3
    have s1 := small_of h1
    rw [if_pos ⟨h1, h2, h3⟩] at hk
    refine ⟨by show sizeL ts ≤ _; have : sizeL ts ≤ 400 := s1; omega, br (fun h => ?_) (fun h4 => ⟨trivial, trivial, br (fun h => ?_) (fun h5 => br (fun h => ?_) (fun h6 => ⟨by omega, br (fun h => ?_) (fun h7 => ?_)⟩))⟩)⟩
    · rw [if_pos h] at hk; exact retI hk rfl
    · rw [if_neg (by rw [h4]; simp), if_pos (of_decide_eq_true h)] at hk; exact retI hk rfl
    · rw [if_neg (by rw [h4]; simp), if_neg (of_decide_eq_false h5), if_pos (of_decide_eq_true h)] at hk; exact retI hk rfl
    · rw [if_neg (by rw [h4]; simp), if_neg (of_decide_eq_false h5), if_neg (of_decide_eq_false h6), if_pos h] at hk; exact retI hk rfl
    · rw [if_neg (by rw [h4]; simp), if_neg (of_decide_eq_false h5), if_neg (of_decide_eq_false h6), if_neg (by rw [h7]; simp)] at hk; exact retI hk rfl
theorem Convertible_sound : Sound Try.prog 36 cConvertible := by
  refine soundF (G := [(40, cTermValid), (61, cWithin), (62, cTermSame), (34, cNormalize)]) ((gcons TermValid_sound (gcons Within_sound (gcons TermSame_sound (gcons Normalize_sound gnil))))) Try.func36 rfl (by kernel_rfl) fun args hs K hCC => ?_
  unfold cConvertible at hCC
  split at hCC
  case h_2 => exact hCC.elim
  rename_i k n ts k2 n2 ts2 f
  exact ⟨Nat.le_of_ble_eq_true rfl, _, Convertible_ok k n ts k2 n2 ts2 f K hCC.1 hCC.2⟩
/-- spec.l4Conv -/
def csConv : Con
  | [.st [.int .i64 k, .int .i64 n, .slc ts (.arg 0)], .st [.int .i64 k2, .int .i64 n2, .slc ts2 (.arg 1)], .int .i64 (f)], [], K => (((T.mk k n ts).valid = true ∧ (T.mk k2 n2 ts2).valid = true) ∧ (0 ≤ f ∧ f ≤ 200)) ∧ ((K (.int .i64 ((T.mk k n ts).conv (T.mk k2 n2 ts2) f)) []))
  | _, _, _ => False
theorem sConv_ok (k n : Int) (ts : List T) (k2 n2 : Int) (ts2 : List T) (f : Int) (K : AV → List AV → Prop) (hp : (((T.mk k n ts).valid = true ∧ (T.mk k2 n2 ts2).valid = true) ∧ (0 ≤ f ∧ f ≤ 200))) (hk : ((K (.int .i64 ((T.mk k n ts).conv (T.mk k2 n2 ts2) f)) []))) :
    bodyQ [(75, csTermSame), (59, csNorm)] TY [] Try.f60 (body Try.f60) [.st [.int .i64 k, .int .i64 n, .slc ts (.arg 0)], .st [.int .i64 k2, .int .i64 n2, .slc ts2 (.arg 1)], .int .i64 (f)] [] K := by
  refine of_vc (A :=
      (((sizeL ts) ≤ (1099511627776 : Nat)) ∧
       (Br (T.same (T.mk k n ts) (T.mk k2 n2 ts2))
         (Ret K (.int .i64 (1 : Int)) [])
         ((((T.valid (T.mk k n ts)) = true) ∧ (((0 : Int) ≤ f) ∧ (f ≤ (200 : Int)))) ∧
          ((((T.valid (T.mk k2 n2 ts2)) = true) ∧ (((0 : Int) ≤ f) ∧ (f ≤ (200 : Int)))) ∧
           (Br (Decidable.decide ((Prod.snd (Prod.snd (T.rdc (plB false) (Int.toNat f) (T.mk k n ts) (0 : Int)))) ≠ (0 : Int)))
             (Ret K (.int .i64 (3 : Int)) [])
             (Br (Decidable.decide ((Prod.snd (Prod.snd (T.rdc (plB false) (Int.toNat f) (T.mk k2 n2 ts2) (0 : Int)))) ≠ (0 : Int)))
               (Ret K (.int .i64 (3 : Int)) [])
               (((sizeL (T.kids (Prod.fst (T.rdc (plB false) (Int.toNat f) (T.mk k n ts) (0 : Int))))) ≤ (1099511627776 : Nat)) ∧
                (Br (T.same (T.mk (T.k (Prod.fst (T.rdc (plB false) (Int.toNat f) (T.mk k n ts) (0 : Int)))) (T.n (Prod.fst (T.rdc (plB false) (Int.toNat f) (T.mk k n ts) (0 : Int)))) (T.kids (Prod.fst (T.rdc (plB false) (Int.toNat f) (T.mk k n ts) (0 : Int))))) (T.mk (T.k (Prod.fst (T.rdc (plB false) (Int.toNat f) (T.mk k2 n2 ts2) (0 : Int)))) (T.n (Prod.fst (T.rdc (plB false) (Int.toNat f) (T.mk k2 n2 ts2) (0 : Int)))) (T.kids (Prod.fst (T.rdc (plB false) (Int.toNat f) (T.mk k2 n2 ts2) (0 : Int))))))
                  (Ret K (.int .i64 (1 : Int)) [])
                  (Ret K (.int .i64 (2 : Int)) [])))))))))) ?_ (by kernel_rfl)
  obtain ⟨⟨h1, h2⟩, h3⟩ := hp
  have ea : (T.mk k n ts).rdc (plB false) f.toNat 0 = (T.mk k n ts).red plO f := by unfold T.red; rw [if_pos ⟨h1, h3⟩]; rfl
  have eb : (T.mk k2 n2 ts2).rdc (plB false) f.toNat 0 = (T.mk k2 n2 ts2).red plO f := by unfold T.red; rw [if_pos ⟨h2, h3⟩]; rfl
  simp only [T.eta, ea, eb]
  unfold T.conv at hk
  have z := red_small (.mk k n ts) plO f
  have s1 := small_of h1
  rw [if_pos ⟨h1, h2, h3⟩] at hk
  refine ⟨by show sizeL ts ≤ _; have : sizeL ts ≤ 400 := s1; omega, br (fun h => ?_) (fun h4 => ⟨⟨h1, h3⟩, ⟨h2, h3⟩, br (fun h => ?_) (fun h5 => br (fun h => ?_) (fun h6 => ⟨by omega, br (fun h => ?_) (fun h7 => ?_)⟩))⟩)⟩
  · rw [if_pos h] at hk; exact retI hk rfl
  · rw [if_neg (by rw [h4]; simp), if_pos (of_decide_eq_true h)] at hk; exact retI hk rfl
  · rw [if_neg (by rw [h4]; simp), if_neg (of_decide_eq_false h5), if_pos (of_decide_eq_true h)] at hk; exact retI hk rfl
  · rw [if_neg (by rw [h4]; simp), if_neg (of_decide_eq_false h5), if_neg (of_decide_eq_false h6), if_pos h] at hk; exact retI hk rfl
  · rw [if_neg (by rw [h4]; simp), if_neg (of_decide_eq_false h5), if_neg (of_decide_eq_false h6), if_neg (by rw [h7]; simp)] at hk; exact retI hk rfl
theorem sConv_sound : Sound Try.prog 60 csConv := by
  refine soundF (G := [(75, csTermSame), (59, csNorm)]) ((gcons sTermSame_sound (gcons sNorm_sound gnil))) Try.func60 rfl (by kernel_rfl) fun args hs K hCC => ?_
  unfold csConv at hCC
  split at hCC
  case h_2 => exact hCC.elim
  rename_i k n ts k2 n2 ts2 f
  exact ⟨Nat.le_of_ble_eq_true rfl, _, sConv_ok k n ts k2 n2 ts2 f K hCC.1 hCC.2⟩
/-- spec.Convertible -/
def csConvertible : Con
  | [.st [.int .i64 k, .int .i64 n, .slc ts (.arg 0)], .st [.int .i64 k2, .int .i64 n2, .slc ts2 (.arg 1)], .int .i64 (f)], [], K => True ∧ ((K (.int .i64 ((T.mk k n ts).conv (T.mk k2 n2 ts2) f)) []))
  | _, _, _ => False
theorem sConvertible_ok (k n : Int) (ts : List T) (k2 n2 : Int) (ts2 : List T) (f : Int) (K : AV → List AV → Prop) (hp : True) (hk : ((K (.int .i64 ((T.mk k n ts).conv (T.mk k2 n2 ts2) f)) []))) :
    bodyQ [(46, csFits), (60, csConv)] TY [] Try.f35 (body Try.f35) [.st [.int .i64 k, .int .i64 n, .slc ts (.arg 0)], .st [.int .i64 k2, .int .i64 n2, .slc ts2 (.arg 1)], .int .i64 (f)] [] K := by
  refine of_vc (A :=
      (True ∧
       (Br (Bool.not (Bool.and (T.valid (T.mk k n ts)) (Decidable.decide (((0 : Int) ≤ f) ∧ (f ≤ (200 : Int))))))
         (Ret K (.int .i64 (0 : Int)) [])
         (True ∧
          (Br (Bool.not (Bool.and (T.valid (T.mk k2 n2 ts2)) (Decidable.decide (((0 : Int) ≤ f) ∧ (f ≤ (200 : Int))))))
            (Ret K (.int .i64 (0 : Int)) [])
            (((((T.valid (T.mk k n ts)) = true) ∧ ((T.valid (T.mk k2 n2 ts2)) = true)) ∧ (((0 : Int) ≤ f) ∧ (f ≤ (200 : Int)))) ∧
             (Ret K (.int .i64 (T.conv (T.mk k n ts) (T.mk k2 n2 ts2) f)) []))))))) ?_ (by kernel_rfl)
  refine ⟨trivial, br (fun h => ?_) (fun h1 => ⟨trivial, br (fun h => ?_) (fun h2 => ?_)⟩)⟩
  · unfold T.conv at hk
    rw [if_neg (by intro e; rw [e.1, decide_eq_true e.2.2] at h; cases h)] at hk; exact retI hk rfl
  · unfold T.conv at hk
    rw [if_neg (by intro e; rw [e.2.1, decide_eq_true e.2.2] at h; cases h)] at hk; exact retI hk rfl
  · rw [Bool.not_eq_false', Bool.and_eq_true, decide_eq_true_eq] at h1 h2
    exact ⟨⟨⟨h1.1, h2.1⟩, h1.2⟩, retI hk rfl⟩
theorem sConvertible_sound : Sound Try.prog 35 csConvertible := by
  refine soundF (G := [(46, csFits), (60, csConv)]) ((gcons sFits_sound (gcons sConv_sound gnil))) Try.func35 rfl (by kernel_rfl) fun args hs K hCC => ?_
  unfold csConvertible at hCC
  split at hCC
  case h_2 => exact hCC.elim
  rename_i k n ts k2 n2 ts2 f
  exact ⟨Nat.le_of_ble_eq_true rfl, _, sConvertible_ok k n ts k2 n2 ts2 f K hCC.1 hCC.2⟩
end Go.Dk
