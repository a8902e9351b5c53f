/- laws.FnExactNumeral returns true and leaves its argument as it was, for all arguments. -/
import Derived.Test.YtlfddfmoifjenaaDr
import Derived.Test.YtlfddfmoifjenaaMh
import Derived.Test.YtlfddfmoifjenaaTn
namespace Go.Dk
set_option linter.unusedVariables false
open Go.Proofs
/-- laws.FnExactNumeral -/
def cFnExactNumeral : Con
  | [.int .i64 (n)], [], K => ((InR n)) ∧ ((K (.bool true) []))
  | _, _, _ => False
theorem FnExactNumeral_ok (n : Int) (K : AV → List AV → Prop) (hp : ((InR n))) (hk : ((K (.bool true) []))) :
    bodyP [(17, csNumeral), (16, cNumeral), (22, ceqTerm), (24, cheldTerm)] TY [] Try.f6 (body Try.f6) [.int .i64 (n)] [] K := by
  refine of_vc (A :=
      (True ∧
       (((((0 : Int) ≤ n) ∧ (n ≤ (20 : Int))) →
         (True ∧
          (((((0 : Int) ≤ n) ∧ (n ≤ (20 : Int))) →
            (((sizeL (T.kids (T.num (Int.toNat n)))) ≤ (1099511627776 : Nat)) ∧
             (Br (Bool.not (T.same (T.mk (T.k (T.num (Int.toNat n))) (T.n (T.num (Int.toNat n))) (T.kids (T.num (Int.toNat n)))) (T.mk (T.k (T.num (Int.toNat n))) (T.n (T.num (Int.toNat n))) (T.kids (T.num (Int.toNat n))))))
               (Ret K (.bool false) [])
               ((((0 : Int) ≤ (1 : Int)) ∧ (((1 : Int) + ((2 : Int) * (((sizeL (T.kids (T.num (Int.toNat n)))) : Nat) : Int))) ≤ (9223372036854775807 : Int))) ∧
                (((((0 : Int) ≤ (1 : Int)) ∧ (((1 : Int) + ((2 : Int) * (((sizeL (markL (T.kids (T.num (Int.toNat n))) (1 : Int))) : Nat) : Int))) ≤ (1000000000000 : Int))) ∧
                  (∃ us : (List T), ((markL (T.kids (T.num (Int.toNat n))) (1 : Int)) = (markL us (1 : Int))))) ∧
                 (Br (Decidable.decide (((1 : Int) + ((2 : Int) * (((sizeL (markL (T.kids (T.num (Int.toNat n))) (1 : Int))) : Nat) : Int))) ≠ ((1 : Int) + ((2 : Int) * (((sizeL (T.kids (T.num (Int.toNat n)))) : Nat) : Int)))))
                   (Ret K (.bool false) [])
                   (True ∧
                    (((((0 : Int) ≤ n) ∧ (n ≤ (20 : Int))) →
                      (((sizeL (T.kids (T.num (Int.toNat n)))) ≤ (1099511627776 : Nat)) ∧
                       (Br (Bool.not (T.same (T.mk (T.k (T.num (Int.toNat n))) (T.n (T.num (Int.toNat n))) (T.kids (T.num (Int.toNat n)))) (T.mk (T.k (T.num (Int.toNat n))) (T.n (T.num (Int.toNat n))) (T.kids (T.num (Int.toNat n))))))
                         (Ret K (.bool false) [])
                         (((((0 : Int) ≤ (1 : Int)) ∧ (((1 : Int) + ((2 : Int) * (((sizeL (markL (T.kids (T.num (Int.toNat n))) (1 : Int))) : Nat) : Int))) ≤ (1000000000000 : Int))) ∧
                           (∃ us : (List T), ((markL (T.kids (T.num (Int.toNat n))) (1 : Int)) = (markL us (1 : Int))))) ∧
                          (Br (Decidable.decide (((1 : Int) + ((2 : Int) * (((sizeL (markL (T.kids (T.num (Int.toNat n))) (1 : Int))) : Nat) : Int))) ≠ ((1 : Int) + ((2 : Int) * (((sizeL (T.kids (T.num (Int.toNat n)))) : Nat) : Int)))))
                            (Ret K (.bool false) [])
                            (Ret K (.bool true) [])))))) ∧
                     ((¬ (((0 : Int) ≤ n) ∧ (n ≤ (20 : Int)))) →
                      (((0 : Nat) ≤ (1099511627776 : Nat)) ∧
                       (Br (Bool.not (T.same (T.mk (0 : Int) (0 : Int) ([] : List T)) (T.mk (T.k (T.num (Int.toNat n))) (T.n (T.num (Int.toNat n))) (T.kids (T.num (Int.toNat n))))))
                         (Ret K (.bool false) [])
                         (Ret K (.bool false) [])))))))))))) ∧
           ((¬ (((0 : Int) ≤ n) ∧ (n ≤ (20 : Int)))) →
            (((0 : Nat) ≤ (1099511627776 : Nat)) ∧
             (Br (Bool.not (T.same (T.mk (0 : Int) (0 : Int) ([] : List T)) (T.mk (T.k (T.num (Int.toNat n))) (T.n (T.num (Int.toNat n))) (T.kids (T.num (Int.toNat n))))))
               (Ret K (.bool false) [])
               (Ret K (.bool false) []))))))) ∧
        ((¬ (((0 : Int) ≤ n) ∧ (n ≤ (20 : Int)))) →
         (True ∧
          (((((0 : Int) ≤ n) ∧ (n ≤ (20 : Int))) →
            (((sizeL (T.kids (T.num (Int.toNat n)))) ≤ (1099511627776 : Nat)) ∧
             (Br (Bool.not (T.same (T.mk (T.k (T.num (Int.toNat n))) (T.n (T.num (Int.toNat n))) (T.kids (T.num (Int.toNat n)))) (T.mk (0 : Int) (0 : Int) ([] : List T))))
               (Ret K (.bool false) [])
               (Ret K (.bool false) [])))) ∧
           ((¬ (((0 : Int) ≤ n) ∧ (n ≤ (20 : Int)))) →
            (((0 : Nat) ≤ (1099511627776 : Nat)) ∧
             ((((0 : Int) ≤ (1 : Int)) ∧ ((1 : Int) ≤ (9223372036854775807 : Int))) ∧
              (((((0 : Int) ≤ (1 : Int)) ∧ ((1 : Int) ≤ (1000000000000 : Int))) ∧ (∃ us : (List T), (([] : List T) = (markL us (1 : Int))))) ∧
               (True ∧
                (((((0 : Int) ≤ n) ∧ (n ≤ (20 : Int))) →
                  (((sizeL (T.kids (T.num (Int.toNat n)))) ≤ (1099511627776 : Nat)) ∧
                   (Br (Bool.not (T.same (T.mk (T.k (T.num (Int.toNat n))) (T.n (T.num (Int.toNat n))) (T.kids (T.num (Int.toNat n)))) (T.mk (0 : Int) (0 : Int) ([] : List T))))
                     (Ret K (.bool false) [])
                     (Ret K (.bool false) [])))) ∧
                 ((¬ (((0 : Int) ≤ n) ∧ (n ≤ (20 : Int)))) →
                  (((0 : Nat) ≤ (1099511627776 : Nat)) ∧
                   (((((0 : Int) ≤ (1 : Int)) ∧ ((1 : Int) ≤ (1000000000000 : Int))) ∧ (∃ us : (List T), (([] : List T) = (markL us (1 : Int))))) ∧ (Ret K (.bool true) [])))))))))))))))) ?_ (by kernel_rfl)
  have sz : ∀ m : Nat, sizeL (T.num m).kids = m := fun m => by have := T.num_size m; rw [T.size_eq] at this; omega
  have same : ∀ t : T, t.same t = true := fun t => T.same_iff.2 rfl
  simp only [T.eta, markL_size, sz, same]
  by_cases hn : 0 ≤ n ∧ n ≤ 20
  · refine ⟨trivial, fun _ => ⟨trivial, fun _ => ?_, fun h => absurd hn h⟩, fun h => absurd hn h⟩
    repeat' first | trivial | rfl | omega | exact retB hk rfl | exact ⟨_, rfl⟩ | refine br (fun h => absurd h (by simp)) (fun _ => ?_) | (refine ⟨fun _ => ?_, fun h => absurd hn h⟩; skip) | apply And.intro
  · refine ⟨trivial, fun h => absurd h hn, fun _ => ⟨trivial, fun h => absurd h hn, fun _ => ?_⟩⟩
    repeat' first | trivial | rfl | omega | exact retB hk rfl | exact ⟨[], rfl⟩ | refine br (fun h => absurd h (by simp)) (fun _ => ?_) | (refine ⟨fun h => absurd h hn, fun _ => ?_⟩; skip) | apply And.intro
theorem FnExactNumeral_sound : Sound Try.prog 6 cFnExactNumeral := by
  refine soundF (G := [(17, csNumeral), (16, cNumeral), (22, ceqTerm), (24, cheldTerm)]) ((gcons sNumeral_sound (gcons Numeral_sound (gcons eqTerm_sound (gcons heldTerm_sound gnil))))) Try.func6 rfl (by kernel_rfl) fun args hs K h => ?_
  unfold cFnExactNumeral at h
  split at h
  case h_2 => exact h.elim
  exact ⟨Nat.le_of_ble_eq_true rfl, _, FnExactNumeral_ok _ K h.1 h.2⟩
end Go.Dk
namespace Go.Proofs.Ytlfddfmoifjenaa
open Go.ChangeShapes Go.WideShapes Go.RowKit Go.Dk Go.Proofs
set_option linter.unusedVariables false
theorem FnExactNumeral_lifted (os : Os) (started : os.Started) (H : Type) (enc : TypeId × Value → H) :
    ReturnsInHanded {} Try.checked os 6 .any (Rows.fnExactNumeralSpec.pre6 enc Try.prog Try.f6 Rows.fnExactNumeralRow.domain false) (Rows.fnExactNumeralSpec.post enc Try.prog Try.f6 false true false false) := by
  refine returnsInHanded_of_change (C := Try.checked) own started (by kernel_rfl) Try.func6
    (ChangeSpec.witness6 (enc := enc) (C := Try.checked) false ⟨#[], #[.int .i64 0], []⟩ 8 (by kernel_rfl) (by kernel_rfl) (by kernel_rfl) (by kernel_rfl)) ?_
  intro W base args ds gs before hok hW _ _
  have hW' := hW
  obtain ⟨p, q, hA, hV, rfl, hfz, hnd⟩ := hW
  rw [Try.params6] at hA
  obtain ⟨rfl, rfl⟩ := trodVars_none hV
  obtain ⟨v0, vs0, d0, ds0, q0, s0, e0, rfl, rfl, h0, hA⟩ := trodAll_cons hA
  obtain ⟨rfl, rfl, rfl⟩ := trodAll_nil hA
  have ha : args = #[v0] := by cases args; simpa using e0
  subst ha
  obtain ⟨i0, p0, r0⟩ := open_int Try.underlying3 (plain_int Try.underlying3 (hok 0 _ _ rfl rfl)) h0
  refine (law_call (args := [.int .i64 i0]) (vals := [v0]) FnExactNumeral_sound (fun K hK => ⟨p0, hK⟩) (fun j => slOf ([v0].getD j .nilFunc)) ⟨r0 _, trivial⟩).mono fun e W' ⟨he, hk⟩ => ?_
  exact ⟨_, he, law_post laidOut (of_decide_eq_true (by kernel_rfl)) rfl rfl Try.underlying4 rfl hW' hk⟩
theorem FnExactNumeral_holds : Rows.FnExactNumeralSaid :=
  OpenClaim.holds_of_wide 6 Try.f6 rfl rfl rfl rfl rfl rfl rfl ⟨rfl, rfl, rfl, rfl, rfl⟩ rfl rfl rfl rfl rfl (by kernel_rfl) Try.func6 (by kernel_rfl)
    (of_decide_eq_true (by kernel_rfl)) (by unfold Func.isWrapper; first | (rw [if_pos (by decide +kernel)]; kernel_rfl) | (rw [if_neg (by decide +kernel)]; exact ⟨rfl, rfl⟩))
    (fun os started H enc _ => FnExactNumeral_lifted os started H enc)
end Go.Proofs.Ytlfddfmoifjenaa
namespace Go.Dk
open Go.Proofs
end Go.Dk
