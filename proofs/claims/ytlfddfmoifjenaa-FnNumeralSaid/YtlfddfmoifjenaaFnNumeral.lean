/- laws.FnNumeral returns true and leaves its arguments as they were, for all arguments. -/
import Derived.Test.YtlfddfmoifjenaaDr
import Derived.Test.YtlfddfmoifjenaaL0
import Derived.Test.YtlfddfmoifjenaaTn
namespace Go.Dk
set_option linter.unusedVariables false
open Go.Proofs
/-- laws.FnNumeral -/
def cFnNumeral : Con
  | [.ints .u8 bs (.arg 0)], [], K => ((bs.length ≤ 9223372036854775807 ∧ Bs bs)) ∧ ((K (.bool true) []))
  | _, _, _ => False
theorem FnNumeral_ok (bs : List Int) (K : AV → List AV → Prop) (hp : ((bs.length ≤ 9223372036854775807 ∧ Bs bs))) (hk : ((K (.bool true) []))) :
    bodyP [(15, cdNumeral), (16, cNumeral), (17, csNumeral), (18, cTermSame), (27, cNumeralValue), (28, cCountNodes), (29, cTermDepth)] TY [] Try.f8 (body Try.f8) [.ints .u8 bs (.arg 0)] [] K := by
  refine of_vc (A :=
      (Br (Decidable.decide ((1048576 : Int) < (((List.length bs) : Nat) : Int)))
        (Ret K (.bool true) [])
        ((Bs bs) ∧
         (∀ n : Int,
           ((InR n) →
            (True ∧
             (((((0 : Int) ≤ n) ∧ (n ≤ (20 : Int))) →
               (True ∧
                (((((0 : Int) ≤ n) ∧ (n ≤ (20 : Int))) →
                  (((sizeL (T.kids (T.num (Int.toNat n)))) ≤ (1099511627776 : Nat)) ∧
                   (Br (Bool.not (T.same (T.mk (T.k (T.num (Int.toNat n))) (T.n (T.num (Int.toNat n))) (T.kids (T.num (Int.toNat n)))) (T.mk (T.k (T.num (Int.toNat n))) (T.n (T.num (Int.toNat n))) (T.kids (T.num (Int.toNat n))))))
                     (((sizeL (T.kids (T.num (Int.toNat n)))) ≤ (1099511627776 : Nat)) ∧
                      (Ret K (.bool (T.same (T.mk (T.k (T.num (Int.toNat n))) (T.n (T.num (Int.toNat n))) (T.kids (T.num (Int.toNat n)))) (T.mk (T.k (T.num (Int.toNat n))) (T.n (T.num (Int.toNat n))) (T.kids (T.num (Int.toNat n)))))) []))
                     (True ∧
                      (Br (T.nvOk (T.mk (T.k (T.num (Int.toNat n))) (T.n (T.num (Int.toNat n))) (T.kids (T.num (Int.toNat n)))))
                        (Br (Decidable.decide ((T.nv (T.mk (T.k (T.num (Int.toNat n))) (T.n (T.num (Int.toNat n))) (T.kids (T.num (Int.toNat n))))) = n))
                          (True ∧
                           ((InR (n + (1 : Int))) ∧
                            (Br (Decidable.decide ((if ((T.valid (T.mk (T.k (T.num (Int.toNat n))) (T.n (T.num (Int.toNat n))) (T.kids (T.num (Int.toNat n))))) = true) then (((T.size (T.mk (T.k (T.num (Int.toNat n))) (T.n (T.num (Int.toNat n))) (T.kids (T.num (Int.toNat n))))) : Nat) : Int) else (0 : Int)) = (n + (1 : Int))))
                              (True ∧
                               ((InR (n + (1 : Int))) ∧
                                (Ret K (.bool (Decidable.decide ((if ((T.valid (T.mk (T.k (T.num (Int.toNat n))) (T.n (T.num (Int.toNat n))) (T.kids (T.num (Int.toNat n))))) = true) then (T.dep (T.mk (T.k (T.num (Int.toNat n))) (T.n (T.num (Int.toNat n))) (T.kids (T.num (Int.toNat n))))) else (0 : Int)) = (n + (1 : Int))))) [])))
                              (Ret K (.bool false) []))))
                          (Ret K (.bool false) []))
                        (Ret K (.bool false) [])))))) ∧
                 ((¬ (((0 : Int) ≤ n) ∧ (n ≤ (20 : Int)))) → (Ret K (.bool false) []))))) ∧
              ((¬ (((0 : Int) ≤ n) ∧ (n ≤ (20 : Int)))) →
               (True ∧
                (((((0 : Int) ≤ n) ∧ (n ≤ (20 : Int))) → (Ret K (.bool false) [])) ∧
                 ((¬ (((0 : Int) ≤ n) ∧ (n ≤ (20 : Int)))) → (((0 : Nat) ≤ (1099511627776 : Nat)) ∧ (((0 : Nat) ≤ (1099511627776 : Nat)) ∧ (Ret K (.bool true) [])))))))))))))) ?_ (by kernel_rfl)
  refine br (fun _ => retB hk rfl) (fun _ => ⟨hp.2, fun n hn => ⟨trivial, fun hn => ⟨trivial, fun _ => ?_, fun h => absurd hn h⟩, fun hn => ⟨trivial, fun h => absurd h hn, fun _ => ⟨by omega, by omega, retB hk rfl⟩⟩⟩⟩)
  simp only [T.eta]
  obtain ⟨i, rfl⟩ := Int.eq_ofNat_of_zero_le hn.1
  have hi : i ≤ 20 := by omega
  obtain ⟨h1, h2⟩ := T.num_nv hi
  have h3 := T.num_valid (n := i) (by omega)
  have h4 : (T.num i).same (T.num i) = true := T.same_iff.2 rfl
  simp only [Int.toNat_natCast, h1, h2, h3, h4, T.num_size, T.num_dep, T.num_kids, if_true]
  refine ⟨by omega, br (fun h => absurd h (by decide)) (fun _ => ⟨trivial, br (fun _ => br (fun _ => ⟨trivial, by unfold InR; omega, br (fun _ => ⟨trivial, by unfold InR; omega, retB hk (by simp)⟩) (fun h => absurd h (by simp))⟩) (fun h => absurd h (by simp))) (fun h => absurd h (by decide))⟩)⟩
theorem FnNumeral_sound : Sound Try.prog 8 cFnNumeral := by
  refine soundF (G := [(15, cdNumeral), (16, cNumeral), (17, csNumeral), (18, cTermSame), (27, cNumeralValue), (28, cCountNodes), (29, cTermDepth)]) ((gcons dNumeral_sound (gcons Numeral_sound (gcons sNumeral_sound (gcons TermSame_sound (gcons NumeralValue_sound (gcons CountNodes_sound (gcons TermDepth_sound gnil)))))))) Try.func8 rfl (by kernel_rfl) fun args hs K h => ?_
  unfold cFnNumeral at h
  split at h
  case h_2 => exact h.elim
  exact ⟨Nat.le_of_ble_eq_true rfl, _, FnNumeral_ok _ K h.1 h.2⟩
end Go.Dk
namespace Go.Proofs.Ytlfddfmoifjenaa
open Go.ChangeShapes Go.WideShapes Go.RowKit Go.Dk Go.Proofs
set_option linter.unusedVariables false
theorem FnNumeral_lifted (os : Os) (started : os.Started) (H : Type) (enc : TypeId × Value → H) :
    ReturnsInHanded {} Try.checked os 8 .any (Rows.fnNumeralSpec.pre6 enc Try.prog Try.f8 Rows.fnNumeralRow.domain false) (Rows.fnNumeralSpec.post enc Try.prog Try.f8 false true false false) := by
  refine returnsInHanded_of_change (C := Try.checked) own started (by kernel_rfl) Try.func8
    (ChangeSpec.witness6 (enc := enc) (C := Try.checked) false ⟨#[], #[.slice none 0 0], []⟩ 8 (by kernel_rfl) (by kernel_rfl) (by kernel_rfl) (by kernel_rfl)) ?_
  intro W base args ds gs before hok hW _ _
  have hW' := hW
  obtain ⟨p, q, hA, hV, rfl, hfz, hnd⟩ := hW
  rw [Try.params8] at hA
  obtain ⟨rfl, rfl⟩ := trodVars_none hV
  obtain ⟨v0, vs0, d0, ds0, q0, s0, e0, rfl, rfl, h0, hA⟩ := trodAll_cons hA
  obtain ⟨rfl, rfl, rfl⟩ := trodAll_nil hA
  have ha : args = #[v0] := by cases args; simpa using e0
  subst ha
  obtain ⟨bs0, l0, p0, r0⟩ := open_bytes Try.underlying23 Try.underlying5 (by kernel_rfl) (plain_slice Try.underlying23 (hok 0 _ _ rfl rfl)) h0
  refine (law_call (args := [.ints .u8 bs0 (.arg 0)]) (vals := [v0]) FnNumeral_sound (fun K hK => ⟨⟨l0, p0⟩, hK⟩) (fun j => slOf ([v0].getD j .nilFunc)) ⟨r0 _ 0 rfl, trivial⟩).mono fun e W' ⟨he, hk⟩ => ?_
  exact ⟨_, he, law_post laidOut (of_decide_eq_true (by kernel_rfl)) rfl rfl Try.underlying4 rfl hW' hk⟩
theorem FnNumeral_holds : Rows.FnNumeralSaid :=
  OpenClaim.holds_of_wide 8 Try.f8 rfl rfl rfl rfl rfl rfl rfl ⟨rfl, rfl, rfl, rfl, rfl⟩ rfl rfl rfl rfl rfl (by kernel_rfl) Try.func8 (by kernel_rfl)
    (of_decide_eq_true (by kernel_rfl)) (by unfold Func.isWrapper; first | (rw [if_pos (by decide +kernel)]; kernel_rfl) | (rw [if_neg (by decide +kernel)]; exact ⟨rfl, rfl⟩))
    (fun os started H enc _ => FnNumeral_lifted os started H enc)
end Go.Proofs.Ytlfddfmoifjenaa
namespace Go.Dk
open Go.Proofs
end Go.Dk
