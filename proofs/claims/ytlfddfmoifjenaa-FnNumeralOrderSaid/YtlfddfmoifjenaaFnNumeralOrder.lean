/- laws.FnNumeralOrder returns true and leaves its arguments as they were, for all arguments. -/
import Derived.Test.YtlfddfmoifjenaaDr
import Derived.Test.YtlfddfmoifjenaaL0
namespace Go.Dk
set_option linter.unusedVariables false
open Go.Proofs
/-- laws.FnNumeralOrder -/
def cFnNumeralOrder : Con
  | [.ints .u8 bs (.arg 0), .ints .u8 cs (.arg 1)], [], K => ((bs.length ≤ 9223372036854775807 ∧ Bs bs) ∧ (cs.length ≤ 9223372036854775807 ∧ Bs cs)) ∧ ((K (.bool true) []))
  | _, _, _ => False
theorem FnNumeralOrder_ok (bs cs : List Int) (K : AV → List AV → Prop) (hp : ((bs.length ≤ 9223372036854775807 ∧ Bs bs) ∧ (cs.length ≤ 9223372036854775807 ∧ Bs cs))) (hk : ((K (.bool true) []))) :
    bodyP [(15, cdNumeral), (16, cNumeral), (17, csNumeral), (18, cTermSame)] TY [(10, { ι := Int × Int × Nat, ok := fun x => 0 ≤ x.1 ∧ x.1 ≤ 20 ∧ 0 ≤ x.2.1 ∧ x.2.1 ≤ x.1 ∧ x.2.2 ≤ x.1 - x.2.1, tl := fun x => [(5, .int .i64 x.1), (6, .ptr 6), (10, .int .i64 x.2.1), (11, .int .i64 x.2.2)], hl := fun x => [(6, (T.num (x.1 - x.2.2).toNat).av .any)], fh := fun _ => [], μ := fun x => (x.1 - x.2.1 - x.2.2).toNat })] Try.f4 (body Try.f4) [.ints .u8 bs (.arg 0), .ints .u8 cs (.arg 1)] [] K := by
  refine of_vc (A :=
      (Br (Decidable.decide ((1048576 : Int) < (((List.length bs) : Nat) : Int)))
        (Ret K (.bool true) [])
        (Br (Decidable.decide ((1048576 : Int) < (((List.length cs) : Nat) : Int)))
          (Ret K (.bool true) [])
          ((Bs bs) ∧
           (∀ n : Int,
             ((InR n) →
              (True ∧
               (((((0 : Int) ≤ n) ∧ (n ≤ (20 : Int))) →
                 (True ∧
                  (((((0 : Int) ≤ n) ∧ (n ≤ (20 : Int))) →
                    (((sizeL (T.kids (T.num (Int.toNat n)))) ≤ (1099511627776 : Nat)) ∧
                     (Br (Bool.not (T.same (T.mk (T.k (T.num (Int.toNat n))) (T.n (T.num (Int.toNat n))) (T.kids (T.num (Int.toNat n)))) (T.mk (T.k (T.num (Int.toNat n))) (T.n (T.num (Int.toNat n))) (T.kids (T.num (Int.toNat n))))))
                       (((sizeL (T.kids (T.num (Int.toNat n)))) ≤ (1099511627776 : Nat)) ∧
                        (Ret K (.bool (T.same (T.mk (T.k (T.num (Int.toNat n))) (T.n (T.num (Int.toNat n))) (T.kids (T.num (Int.toNat n)))) (T.mk (T.k (T.num (Int.toNat n))) (T.n (T.num (Int.toNat n))) (T.kids (T.num (Int.toNat n)))))) []))
                       ((InR (n + (1 : Int))) ∧
                        ((((0 : Int) ≤ (((List.length cs) : Nat) : Int)) ∧ (((0 : Int) < (n + (1 : Int))) ∧ ((n + (1 : Int)) ≤ (9223372036854775807 : Int)))) ∧
                         ((∃ x : (Prod Int (Prod Int Nat)),
                            ((((0 : Int) ≤ (Prod.fst x)) ∧
                              (((Prod.fst x) ≤ (20 : Int)) ∧
                               (((0 : Int) ≤ (Prod.fst (Prod.snd x))) ∧
                                (((Prod.fst (Prod.snd x)) ≤ (Prod.fst x)) ∧ ((((Prod.snd (Prod.snd x)) : Nat) : Int) ≤ ((Prod.fst x) - (Prod.fst (Prod.snd x)))))))) ∧
                             ((n = (Prod.fst x)) ∧
                              ((((((List.length cs) : Nat) : Int) % (n + (1 : Int))) = (Prod.fst (Prod.snd x))) ∧
                               (((0 : Int) = (((Prod.snd (Prod.snd x)) : Nat) : Int)) ∧
                                (((T.k (T.num (Int.toNat n))) = (T.k (T.num (Int.toNat ((Prod.fst x) - (((Prod.snd (Prod.snd x)) : Nat) : Int)))))) ∧
                                 (((T.n (T.num (Int.toNat n))) = (T.n (T.num (Int.toNat ((Prod.fst x) - (((Prod.snd (Prod.snd x)) : Nat) : Int)))))) ∧
                                  (((T.kids (T.num (Int.toNat n))) = (T.kids (T.num (Int.toNat ((Prod.fst x) - (((Prod.snd (Prod.snd x)) : Nat) : Int)))))) ∧ True)))))))) ∧
                          (∀ x : (Prod Int (Prod Int Nat)),
                            ((((0 : Int) ≤ (Prod.fst x)) ∧ (((Prod.fst x) ≤ (20 : Int)) ∧ (((0 : Int) ≤ (Prod.fst (Prod.snd x))) ∧ (((Prod.fst (Prod.snd x)) ≤ (Prod.fst x)) ∧ ((((Prod.snd (Prod.snd x)) : Nat) : Int) ≤ ((Prod.fst x) - (Prod.fst (Prod.snd x)))))))) →
                             ((InR ((Prod.fst x) - (Prod.fst (Prod.snd x)))) ∧
                              (Br (Decidable.decide ((((Prod.snd (Prod.snd x)) : Nat) : Int) < ((Prod.fst x) - (Prod.fst (Prod.snd x)))))
                                ((((0 : Int) ≤ (0 : Int)) ∧ ((0 : Int) < (((List.length (T.kids (T.num (Int.toNat ((Prod.fst x) - (((Prod.snd (Prod.snd x)) : Nat) : Int)))))) : Nat) : Int))) ∧
                                 ((InR ((((Prod.snd (Prod.snd x)) : Nat) : Int) + (1 : Int))) ∧
                                  (∃ y : (Prod Int (Prod Int Nat)),
                                    ((((0 : Int) ≤ (Prod.fst y)) ∧
                                      (((Prod.fst y) ≤ (20 : Int)) ∧
                                       (((0 : Int) ≤ (Prod.fst (Prod.snd y))) ∧
                                        (((Prod.fst (Prod.snd y)) ≤ (Prod.fst y)) ∧ ((((Prod.snd (Prod.snd y)) : Nat) : Int) ≤ ((Prod.fst y) - (Prod.fst (Prod.snd y)))))))) ∧
                                     (((Prod.fst x) = (Prod.fst y)) ∧
                                      (((Prod.fst (Prod.snd x)) = (Prod.fst (Prod.snd y))) ∧
                                       ((((((Prod.snd (Prod.snd x)) : Nat) : Int) + (1 : Int)) = (((Prod.snd (Prod.snd y)) : Nat) : Int)) ∧
                                        (((T.k (List.getD (T.kids (T.num (Int.toNat ((Prod.fst x) - (((Prod.snd (Prod.snd x)) : Nat) : Int))))) (0 : Nat) (default : T))) = (T.k (T.num (Int.toNat ((Prod.fst y) - (((Prod.snd (Prod.snd y)) : Nat) : Int)))))) ∧
                                         (((T.n (List.getD (T.kids (T.num (Int.toNat ((Prod.fst x) - (((Prod.snd (Prod.snd x)) : Nat) : Int))))) (0 : Nat) (default : T))) = (T.n (T.num (Int.toNat ((Prod.fst y) - (((Prod.snd (Prod.snd y)) : Nat) : Int)))))) ∧
                                          (((T.kids (List.getD (T.kids (T.num (Int.toNat ((Prod.fst x) - (((Prod.snd (Prod.snd x)) : Nat) : Int))))) (0 : Nat) (default : T))) = (T.kids (T.num (Int.toNat ((Prod.fst y) - (((Prod.snd (Prod.snd y)) : Nat) : Int)))))) ∧
                                           ((Nat.succ (Int.toNat (((Prod.fst y) - (Prod.fst (Prod.snd y))) - (((Prod.snd (Prod.snd y)) : Nat) : Int)))) ≤ (Int.toNat (((Prod.fst x) - (Prod.fst (Prod.snd x))) - (((Prod.snd (Prod.snd x)) : Nat) : Int))))))))))))))
                                (True ∧
                                 (((((0 : Int) ≤ (Prod.fst (Prod.snd x))) ∧ ((Prod.fst (Prod.snd x)) ≤ (20 : Int))) →
                                   (((sizeL (T.kids (T.num (Int.toNat ((Prod.fst x) - (((Prod.snd (Prod.snd x)) : Nat) : Int)))))) ≤ (1099511627776 : Nat)) ∧
                                    (Ret K (.bool (T.same (T.mk (T.k (T.num (Int.toNat ((Prod.fst x) - (((Prod.snd (Prod.snd x)) : Nat) : Int))))) (T.n (T.num (Int.toNat ((Prod.fst x) - (((Prod.snd (Prod.snd x)) : Nat) : Int))))) (T.kids (T.num (Int.toNat ((Prod.fst x) - (((Prod.snd (Prod.snd x)) : Nat) : Int)))))) (T.mk (T.k (T.num (Int.toNat (Prod.fst (Prod.snd x))))) (T.n (T.num (Int.toNat (Prod.fst (Prod.snd x))))) (T.kids (T.num (Int.toNat (Prod.fst (Prod.snd x)))))))) []))) ∧
                                  ((¬ (((0 : Int) ≤ (Prod.fst (Prod.snd x))) ∧ ((Prod.fst (Prod.snd x)) ≤ (20 : Int)))) → (Ret K (.bool false) [])))))))))))))) ∧
                   ((¬ (((0 : Int) ≤ n) ∧ (n ≤ (20 : Int)))) → (Ret K (.bool false) []))))) ∧
                ((¬ (((0 : Int) ≤ n) ∧ (n ≤ (20 : Int)))) →
                 (True ∧
                  (((((0 : Int) ≤ n) ∧ (n ≤ (20 : Int))) → (Ret K (.bool false) [])) ∧
                   ((¬ (((0 : Int) ≤ n) ∧ (n ≤ (20 : Int)))) → (((0 : Nat) ≤ (1099511627776 : Nat)) ∧ (((0 : Nat) ≤ (1099511627776 : Nat)) ∧ (Ret K (.bool true) []))))))))))))))) ?_ (by kernel_rfl)
  refine br (fun _ => retB hk rfl) (fun _ => br (fun _ => retB hk rfl) (fun hc => ⟨hp.1.2, fun n hn => ⟨trivial, fun hn => ⟨trivial, fun _ => ?_, fun h => absurd hn h⟩, fun hn => ⟨trivial, fun h => absurd h hn, fun _ => ⟨by omega, by omega, retB hk rfl⟩⟩⟩⟩))
  have sz : ∀ m : Nat, sizeL (T.num m).kids = m := fun m => by have := T.num_size m; rw [T.size_eq] at this; omega
  have same : ∀ t : T, (T.mk t.k t.n t.kids).same t = true := fun t => T.same_iff.2 (T.eta t)
  simp only [T.eta]
  have m1 := Int.emod_nonneg (cs.length : Int) (by omega : n + 1 ≠ 0)
  have m2 := Int.emod_lt_of_pos (cs.length : Int) (by omega : 0 < n + 1)
  refine ⟨by rw [sz]; omega, br (fun h => ?_) (fun _ => ⟨by unfold InR; omega, ⟨by omega, by omega, by omega⟩, ⟨(n, cs.length % (n + 1), 0), ⟨hn.1, hn.2, m1, by show _ % _ ≤ n; omega, by show ((0 : Nat) : Int) ≤ n - _ % _; omega⟩, (by first | trivial | rfl | (simp; done)), (by first | trivial | rfl | (simp; done)), (by first | trivial | rfl | (simp; done)), by simp, by simp, by simp, trivial⟩, ?_⟩)⟩
  · have := T.same_iff.2 (rfl : T.num n.toNat = T.num n.toNat)
    rw [this] at h; exact absurd h (by decide)
  · rintro ⟨a, k, i⟩ ⟨g1, g2, g3, g4, g5⟩
    simp only at g1 g2 g3 g4 g5 ⊢
    refine ⟨by unfold InR; omega, br (fun h => ?_) (fun h => ?_)⟩
    · have h := of_decide_eq_true h
      have e : (a - (i : Int)).toNat = (a - ((i + 1 : Nat) : Int)).toNat + 1 := by omega
      rw [e]
      refine ⟨⟨by omega, by simp [T.num, T.kids]⟩, by unfold InR; omega, (a, k, i + 1), ⟨g1, g2, g3, g4, by show ((i + 1 : Nat) : Int) ≤ a - k; omega⟩, (by first | trivial | rfl | (simp; done)), (by first | trivial | rfl | (simp; done)), by simp, (by first | trivial | rfl | (simp; done)), (by first | trivial | rfl | (simp; done)), (by first | trivial | rfl | (simp; done)), by show Nat.succ (a - k - ((i + 1 : Nat) : Int)).toNat ≤ (a - k - (i : Int)).toNat; omega⟩
    · have h := of_decide_eq_false h
      have e : (a - (i : Int)).toNat = k.toNat := by omega
      rw [e]
      refine ⟨trivial, fun _ => ⟨by rw [sz]; omega, retB hk ?_⟩, fun h => absurd ⟨by omega, by omega⟩ h⟩
      exact T.same_iff.2 rfl
theorem FnNumeralOrder_sound : Sound Try.prog 4 cFnNumeralOrder := by
  refine soundF (G := [(15, cdNumeral), (16, cNumeral), (17, csNumeral), (18, cTermSame)]) ((gcons dNumeral_sound (gcons Numeral_sound (gcons sNumeral_sound (gcons TermSame_sound gnil))))) Try.func4 rfl (by kernel_rfl) fun args hs K h => ?_
  unfold cFnNumeralOrder at h
  split at h
  case h_2 => exact h.elim
  exact ⟨Nat.le_of_ble_eq_true rfl, _, FnNumeralOrder_ok _ _ K h.1 h.2⟩
end Go.Dk
namespace Go.Proofs.Ytlfddfmoifjenaa
open Go.ChangeShapes Go.WideShapes Go.RowKit Go.Dk Go.Proofs
set_option linter.unusedVariables false
theorem FnNumeralOrder_lifted (os : Os) (started : os.Started) (H : Type) (enc : TypeId × Value → H) :
    ReturnsInHanded {} Try.checked os 4 .any (Rows.fnNumeralOrderSpec.pre6 enc Try.prog Try.f4 Rows.fnNumeralOrderRow.domain false) (Rows.fnNumeralOrderSpec.post enc Try.prog Try.f4 false true false false) := by
  refine returnsInHanded_of_change (C := Try.checked) own started (by kernel_rfl) Try.func4
    (ChangeSpec.witness6 (enc := enc) (C := Try.checked) false ⟨#[], #[.slice none 0 0, .slice none 0 0], []⟩ 8 (by kernel_rfl) (by kernel_rfl) (by kernel_rfl) (by kernel_rfl)) ?_
  intro W base args ds gs before hok hW _ _
  have hW' := hW
  obtain ⟨p, q, hA, hV, rfl, hfz, hnd⟩ := hW
  rw [Try.params4] at hA
  obtain ⟨rfl, rfl⟩ := trodVars_none hV
  obtain ⟨v0, vs0, d0, ds0, q0, s0, e0, rfl, rfl, h0, hA⟩ := trodAll_cons hA
  obtain ⟨v1, vs1, d1, ds1, q1, s1, e1, rfl, rfl, h1, hA⟩ := trodAll_cons hA
  obtain ⟨rfl, rfl, rfl⟩ := trodAll_nil hA
  subst e1
  have ha : args = #[v0, v1] := by cases args; simpa using e0
  subst ha
  obtain ⟨bs0, l0, p0, r0⟩ := open_bytes Try.underlying23 Try.underlying5 (by kernel_rfl) (plain_slice Try.underlying23 (hok 0 _ _ rfl rfl)) h0
  obtain ⟨bs1, l1, p1, r1⟩ := open_bytes Try.underlying23 Try.underlying5 (by kernel_rfl) (plain_slice Try.underlying23 (hok 1 _ _ rfl rfl)) h1
  refine (law_call (args := [.ints .u8 bs0 (.arg 0), .ints .u8 bs1 (.arg 1)]) (vals := [v0, v1]) FnNumeralOrder_sound (fun K hK => ⟨⟨⟨l0, p0⟩, ⟨l1, p1⟩⟩, hK⟩) (fun j => slOf ([v0, v1].getD j .nilFunc)) ⟨r0 _ 0 rfl, r1 _ 1 rfl, trivial⟩).mono fun e W' ⟨he, hk⟩ => ?_
  exact ⟨_, he, law_post laidOut (of_decide_eq_true (by kernel_rfl)) rfl rfl Try.underlying4 rfl hW' hk⟩
theorem FnNumeralOrder_holds : Rows.FnNumeralOrderSaid :=
  OpenClaim.holds_of_wide 4 Try.f4 rfl rfl rfl rfl rfl rfl rfl ⟨rfl, rfl, rfl, rfl, rfl⟩ rfl rfl rfl rfl rfl (by kernel_rfl) Try.func4 (by kernel_rfl)
    (of_decide_eq_true (by kernel_rfl)) (by unfold Func.isWrapper; first | (rw [if_pos (by decide +kernel)]; kernel_rfl) | (rw [if_neg (by decide +kernel)]; exact ⟨rfl, rfl⟩))
    (fun os started H enc _ => FnNumeralOrder_lifted os started H enc)
end Go.Proofs.Ytlfddfmoifjenaa
namespace Go.Dk
open Go.Proofs
end Go.Dk
