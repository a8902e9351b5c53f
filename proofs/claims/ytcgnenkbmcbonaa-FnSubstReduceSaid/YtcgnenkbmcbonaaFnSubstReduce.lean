/- laws.FnSubstReduce returns true and leaves its arguments as they were, for all arguments. -/
import Derived.Test.YtcgnenkbmcbonaaLaw
import Derived.Test.YtcgnenkbmcbonaaLw2
import Derived.Test.YtcgnenkbmcbonaaDr4
import Derived.Test.YtcgnenkbmcbonaaL2
import Derived.Test.YtcgnenkbmcbonaaL3
import Derived.Test.YtcgnenkbmcbonaaL4
import Derived.Test.YtcgnenkbmcbonaaL4s
namespace Go.Dk
set_option linter.unusedVariables false
set_option linter.unusedSimpArgs false
open Go.Proofs
/-- laws.FnSubstReduce -/
def cFnSubstReduce : Con
  | [.ints .u8 bs (.arg 0), .ints .u8 cs (.arg 1)], [], K => ((bs.length ≤ 9223372036854775807 ∧ Bs bs) ∧ (cs.length ≤ 9223372036854775807 ∧ Bs cs)) ∧ ((K (.bool true) []))
  | _, _, _ => False
theorem FnSubstReduce_ok (bs : List Int) (cs : List Int) (K : AV → List AV → Prop) (hp : ((bs.length ≤ 9223372036854775807 ∧ Bs bs) ∧ (cs.length ≤ 9223372036854775807 ∧ Bs cs))) (hk : ((K (.bool true) []))) :
    bodyQ [(32, cdNormalize), (18, cNormalize), (33, csNormalize), (34, cInstantiate), (17, cTermSame)] TY [] Try.f7 (body Try.f7) [.ints .u8 bs (.arg 0), .ints .u8 cs (.arg 1)] [] K := by
  refine of_vc (A :=
    (Br (Decidable.decide ((1048576 : Int) < (((List.length bs) : Nat) : Int)))
     (Ret K (.bool true) [])
     (Br (Decidable.decide ((1048576 : Int) < (((List.length cs) : Nat) : Int)))
     (Ret K (.bool true) [])
     ((Bs bs) ∧
     (∀ t : T,
     (∀ f : Int,
     (((T.size t) ≤ (3000 : Nat)) →
     ((((- (1 : Int)) ≤ f) ∧ (f ≤ (201 : Int))) →
     ((Bs cs) ∧
     (∀ t1 : T,
     (∀ f1 : Int,
     (((T.size t1) ≤ (3000 : Nat)) →
     ((((- (1 : Int)) ≤ f1) ∧ (f1 ≤ (201 : Int))) →
     (True ∧
     (((sizeL (T.kids t)) ≤ (1048576 : Nat)) ∧
     (True ∧
     (True ∧
     (Br (Decidable.decide ((Prod.snd (Prod.snd (T.red (T.mk (T.k t) (T.n t) (T.kids t)) plO f))) ≠ (Prod.snd (Prod.snd (T.red (T.mk (T.k t) (T.n t) (T.kids t)) plO f)))))
     (Br (Decidable.decide ((Prod.snd (Prod.snd (T.red (T.mk (T.k t) (T.n t) (T.kids t)) plO f))) = (Prod.snd (Prod.snd (T.red (T.mk (T.k t) (T.n t) (T.kids t)) plO f)))))
     (((sizeL (T.kids (Prod.fst (T.red (T.mk (T.k t) (T.n t) (T.kids t)) plO f)))) ≤ (1099511627776 : Nat)) ∧
     (Ret K (.bool (T.same (T.mk (T.k (Prod.fst (T.red (T.mk (T.k t) (T.n t) (T.kids t)) plO f))) (T.n (Prod.fst (T.red (T.mk (T.k t) (T.n t) (T.kids t)) plO f))) (T.kids (Prod.fst (T.red (T.mk (T.k t) (T.n t) (T.kids t)) plO f)))) (T.mk (T.k (Prod.fst (T.red (T.mk (T.k t) (T.n t) (T.kids t)) plO f))) (T.n (Prod.fst (T.red (T.mk (T.k t) (T.n t) (T.kids t)) plO f))) (T.kids (Prod.fst (T.red (T.mk (T.k t) (T.n t) (T.kids t)) plO f)))))) []))
     (Ret K (.bool false) []))
     (((sizeL (T.kids (Prod.fst (T.red (T.mk (T.k t) (T.n t) (T.kids t)) plO f)))) ≤ (1099511627776 : Nat)) ∧
     (Br (Bool.not (T.same (T.mk (T.k (Prod.fst (T.red (T.mk (T.k t) (T.n t) (T.kids t)) plO f))) (T.n (Prod.fst (T.red (T.mk (T.k t) (T.n t) (T.kids t)) plO f))) (T.kids (Prod.fst (T.red (T.mk (T.k t) (T.n t) (T.kids t)) plO f)))) (T.mk (T.k (Prod.fst (T.red (T.mk (T.k t) (T.n t) (T.kids t)) plO f))) (T.n (Prod.fst (T.red (T.mk (T.k t) (T.n t) (T.kids t)) plO f))) (T.kids (Prod.fst (T.red (T.mk (T.k t) (T.n t) (T.kids t)) plO f))))))
     (Br (Decidable.decide ((Prod.snd (Prod.snd (T.red (T.mk (T.k t) (T.n t) (T.kids t)) plO f))) = (Prod.snd (Prod.snd (T.red (T.mk (T.k t) (T.n t) (T.kids t)) plO f)))))
     (((sizeL (T.kids (Prod.fst (T.red (T.mk (T.k t) (T.n t) (T.kids t)) plO f)))) ≤ (1099511627776 : Nat)) ∧
     (Ret K (.bool (T.same (T.mk (T.k (Prod.fst (T.red (T.mk (T.k t) (T.n t) (T.kids t)) plO f))) (T.n (Prod.fst (T.red (T.mk (T.k t) (T.n t) (T.kids t)) plO f))) (T.kids (Prod.fst (T.red (T.mk (T.k t) (T.n t) (T.kids t)) plO f)))) (T.mk (T.k (Prod.fst (T.red (T.mk (T.k t) (T.n t) (T.kids t)) plO f))) (T.n (Prod.fst (T.red (T.mk (T.k t) (T.n t) (T.kids t)) plO f))) (T.kids (Prod.fst (T.red (T.mk (T.k t) (T.n t) (T.kids t)) plO f)))))) []))
     (Ret K (.bool false) []))
     (Br (Decidable.decide ((Prod.snd (Prod.snd (T.red (T.mk (T.k t) (T.n t) (T.kids t)) plO f))) ≠ (0 : Int)))
     (Br (Decidable.decide ((Prod.snd (Prod.snd (T.red (T.mk (T.k t) (T.n t) (T.kids t)) plO f))) = (Prod.snd (Prod.snd (T.red (T.mk (T.k t) (T.n t) (T.kids t)) plO f)))))
     (((sizeL (T.kids (Prod.fst (T.red (T.mk (T.k t) (T.n t) (T.kids t)) plO f)))) ≤ (1099511627776 : Nat)) ∧
     (Ret K (.bool (T.same (T.mk (T.k (Prod.fst (T.red (T.mk (T.k t) (T.n t) (T.kids t)) plO f))) (T.n (Prod.fst (T.red (T.mk (T.k t) (T.n t) (T.kids t)) plO f))) (T.kids (Prod.fst (T.red (T.mk (T.k t) (T.n t) (T.kids t)) plO f)))) (T.mk (T.k (Prod.fst (T.red (T.mk (T.k t) (T.n t) (T.kids t)) plO f))) (T.n (Prod.fst (T.red (T.mk (T.k t) (T.n t) (T.kids t)) plO f))) (T.kids (Prod.fst (T.red (T.mk (T.k t) (T.n t) (T.kids t)) plO f)))))) []))
     (Ret K (.bool false) []))
     (Br (Bool.not (T.SbO (T.mk (T.k t) (T.n t) (T.kids t)) (0 : Int) (T.mk (T.k t1) (T.n t1) (T.kids t1))))
     (Br (Decidable.decide ((Prod.snd (Prod.snd (T.red (T.mk (T.k t) (T.n t) (T.kids t)) plO f))) = (Prod.snd (Prod.snd (T.red (T.mk (T.k t) (T.n t) (T.kids t)) plO f)))))
     (((sizeL (T.kids (Prod.fst (T.red (T.mk (T.k t) (T.n t) (T.kids t)) plO f)))) ≤ (1099511627776 : Nat)) ∧
     (Ret K (.bool (T.same (T.mk (T.k (Prod.fst (T.red (T.mk (T.k t) (T.n t) (T.kids t)) plO f))) (T.n (Prod.fst (T.red (T.mk (T.k t) (T.n t) (T.kids t)) plO f))) (T.kids (Prod.fst (T.red (T.mk (T.k t) (T.n t) (T.kids t)) plO f)))) (T.mk (T.k (Prod.fst (T.red (T.mk (T.k t) (T.n t) (T.kids t)) plO f))) (T.n (Prod.fst (T.red (T.mk (T.k t) (T.n t) (T.kids t)) plO f))) (T.kids (Prod.fst (T.red (T.mk (T.k t) (T.n t) (T.kids t)) plO f)))))) []))
     (Ret K (.bool false) []))
     (Br (Bool.not (T.SbO (T.mk (T.k (Prod.fst (T.red (T.mk (T.k t) (T.n t) (T.kids t)) plO f))) (T.n (Prod.fst (T.red (T.mk (T.k t) (T.n t) (T.kids t)) plO f))) (T.kids (Prod.fst (T.red (T.mk (T.k t) (T.n t) (T.kids t)) plO f)))) (0 : Int) (T.mk (T.k t1) (T.n t1) (T.kids t1))))
     (Br (Decidable.decide ((Prod.snd (Prod.snd (T.red (T.mk (T.k t) (T.n t) (T.kids t)) plO f))) = (Prod.snd (Prod.snd (T.red (T.mk (T.k t) (T.n t) (T.kids t)) plO f)))))
     (((sizeL (T.kids (Prod.fst (T.red (T.mk (T.k t) (T.n t) (T.kids t)) plO f)))) ≤ (1099511627776 : Nat)) ∧
     (Ret K (.bool (T.same (T.mk (T.k (Prod.fst (T.red (T.mk (T.k t) (T.n t) (T.kids t)) plO f))) (T.n (Prod.fst (T.red (T.mk (T.k t) (T.n t) (T.kids t)) plO f))) (T.kids (Prod.fst (T.red (T.mk (T.k t) (T.n t) (T.kids t)) plO f)))) (T.mk (T.k (Prod.fst (T.red (T.mk (T.k t) (T.n t) (T.kids t)) plO f))) (T.n (Prod.fst (T.red (T.mk (T.k t) (T.n t) (T.kids t)) plO f))) (T.kids (Prod.fst (T.red (T.mk (T.k t) (T.n t) (T.kids t)) plO f)))))) []))
     (Ret K (.bool false) []))
     (True ∧
     (True ∧
     (Br (Decidable.decide ((Prod.snd (Prod.snd (T.red (T.mk (T.k (T.SbR (T.mk (T.k t) (T.n t) (T.kids t)) (0 : Int) (T.mk (T.k t1) (T.n t1) (T.kids t1)))) (T.n (T.SbR (T.mk (T.k t) (T.n t) (T.kids t)) (0 : Int) (T.mk (T.k t1) (T.n t1) (T.kids t1)))) (T.kids (T.SbR (T.mk (T.k t) (T.n t) (T.kids t)) (0 : Int) (T.mk (T.k t1) (T.n t1) (T.kids t1))))) plO (200 : Int)))) ≠ (0 : Int)))
     (Ret K (.bool true) [])
     (Br (Decidable.decide ((Prod.snd (Prod.snd (T.red (T.mk (T.k (T.SbR (T.mk (T.k (Prod.fst (T.red (T.mk (T.k t) (T.n t) (T.kids t)) plO f))) (T.n (Prod.fst (T.red (T.mk (T.k t) (T.n t) (T.kids t)) plO f))) (T.kids (Prod.fst (T.red (T.mk (T.k t) (T.n t) (T.kids t)) plO f)))) (0 : Int) (T.mk (T.k t1) (T.n t1) (T.kids t1)))) (T.n (T.SbR (T.mk (T.k (Prod.fst (T.red (T.mk (T.k t) (T.n t) (T.kids t)) plO f))) (T.n (Prod.fst (T.red (T.mk (T.k t) (T.n t) (T.kids t)) plO f))) (T.kids (Prod.fst (T.red (T.mk (T.k t) (T.n t) (T.kids t)) plO f)))) (0 : Int) (T.mk (T.k t1) (T.n t1) (T.kids t1)))) (T.kids (T.SbR (T.mk (T.k (Prod.fst (T.red (T.mk (T.k t) (T.n t) (T.kids t)) plO f))) (T.n (Prod.fst (T.red (T.mk (T.k t) (T.n t) (T.kids t)) plO f))) (T.kids (Prod.fst (T.red (T.mk (T.k t) (T.n t) (T.kids t)) plO f)))) (0 : Int) (T.mk (T.k t1) (T.n t1) (T.kids t1))))) plO (200 : Int)))) ≠ (0 : Int)))
     (Ret K (.bool true) [])
     (((sizeL (T.kids (Prod.fst (T.red (T.mk (T.k (T.SbR (T.mk (T.k t) (T.n t) (T.kids t)) (0 : Int) (T.mk (T.k t1) (T.n t1) (T.kids t1)))) (T.n (T.SbR (T.mk (T.k t) (T.n t) (T.kids t)) (0 : Int) (T.mk (T.k t1) (T.n t1) (T.kids t1)))) (T.kids (T.SbR (T.mk (T.k t) (T.n t) (T.kids t)) (0 : Int) (T.mk (T.k t1) (T.n t1) (T.kids t1))))) plO (200 : Int))))) ≤ (1099511627776 : Nat)) ∧
     (Ret K (.bool (T.same (T.mk (T.k (Prod.fst (T.red (T.mk (T.k (T.SbR (T.mk (T.k t) (T.n t) (T.kids t)) (0 : Int) (T.mk (T.k t1) (T.n t1) (T.kids t1)))) (T.n (T.SbR (T.mk (T.k t) (T.n t) (T.kids t)) (0 : Int) (T.mk (T.k t1) (T.n t1) (T.kids t1)))) (T.kids (T.SbR (T.mk (T.k t) (T.n t) (T.kids t)) (0 : Int) (T.mk (T.k t1) (T.n t1) (T.kids t1))))) plO (200 : Int)))) (T.n (Prod.fst (T.red (T.mk (T.k (T.SbR (T.mk (T.k t) (T.n t) (T.kids t)) (0 : Int) (T.mk (T.k t1) (T.n t1) (T.kids t1)))) (T.n (T.SbR (T.mk (T.k t) (T.n t) (T.kids t)) (0 : Int) (T.mk (T.k t1) (T.n t1) (T.kids t1)))) (T.kids (T.SbR (T.mk (T.k t) (T.n t) (T.kids t)) (0 : Int) (T.mk (T.k t1) (T.n t1) (T.kids t1))))) plO (200 : Int)))) (T.kids (Prod.fst (T.red (T.mk (T.k (T.SbR (T.mk (T.k t) (T.n t) (T.kids t)) (0 : Int) (T.mk (T.k t1) (T.n t1) (T.kids t1)))) (T.n (T.SbR (T.mk (T.k t) (T.n t) (T.kids t)) (0 : Int) (T.mk (T.k t1) (T.n t1) (T.kids t1)))) (T.kids (T.SbR (T.mk (T.k t) (T.n t) (T.kids t)) (0 : Int) (T.mk (T.k t1) (T.n t1) (T.kids t1))))) plO (200 : Int))))) (T.mk (T.k (Prod.fst (T.red (T.mk (T.k (T.SbR (T.mk (T.k (Prod.fst (T.red (T.mk (T.k t) (T.n t) (T.kids t)) plO f))) (T.n (Prod.fst (T.red (T.mk (T.k t) (T.n t) (T.kids t)) plO f))) (T.kids (Prod.fst (T.red (T.mk (T.k t) (T.n t) (T.kids t)) plO f)))) (0 : Int) (T.mk (T.k t1) (T.n t1) (T.kids t1)))) (T.n (T.SbR (T.mk (T.k (Prod.fst (T.red (T.mk (T.k t) (T.n t) (T.kids t)) plO f))) (T.n (Prod.fst (T.red (T.mk (T.k t) (T.n t) (T.kids t)) plO f))) (T.kids (Prod.fst (T.red (T.mk (T.k t) (T.n t) (T.kids t)) plO f)))) (0 : Int) (T.mk (T.k t1) (T.n t1) (T.kids t1)))) (T.kids (T.SbR (T.mk (T.k (Prod.fst (T.red (T.mk (T.k t) (T.n t) (T.kids t)) plO f))) (T.n (Prod.fst (T.red (T.mk (T.k t) (T.n t) (T.kids t)) plO f))) (T.kids (Prod.fst (T.red (T.mk (T.k t) (T.n t) (T.kids t)) plO f)))) (0 : Int) (T.mk (T.k t1) (T.n t1) (T.kids t1))))) plO (200 : Int)))) (T.n (Prod.fst (T.red (T.mk (T.k (T.SbR (T.mk (T.k (Prod.fst (T.red (T.mk (T.k t) (T.n t) (T.kids t)) plO f))) (T.n (Prod.fst (T.red (T.mk (T.k t) (T.n t) (T.kids t)) plO f))) (T.kids (Prod.fst (T.red (T.mk (T.k t) (T.n t) (T.kids t)) plO f)))) (0 : Int) (T.mk (T.k t1) (T.n t1) (T.kids t1)))) (T.n (T.SbR (T.mk (T.k (Prod.fst (T.red (T.mk (T.k t) (T.n t) (T.kids t)) plO f))) (T.n (Prod.fst (T.red (T.mk (T.k t) (T.n t) (T.kids t)) plO f))) (T.kids (Prod.fst (T.red (T.mk (T.k t) (T.n t) (T.kids t)) plO f)))) (0 : Int) (T.mk (T.k t1) (T.n t1) (T.kids t1)))) (T.kids (T.SbR (T.mk (T.k (Prod.fst (T.red (T.mk (T.k t) (T.n t) (T.kids t)) plO f))) (T.n (Prod.fst (T.red (T.mk (T.k t) (T.n t) (T.kids t)) plO f))) (T.kids (Prod.fst (T.red (T.mk (T.k t) (T.n t) (T.kids t)) plO f)))) (0 : Int) (T.mk (T.k t1) (T.n t1) (T.kids t1))))) plO (200 : Int)))) (T.kids (Prod.fst (T.red (T.mk (T.k (T.SbR (T.mk (T.k (Prod.fst (T.red (T.mk (T.k t) (T.n t) (T.kids t)) plO f))) (T.n (Prod.fst (T.red (T.mk (T.k t) (T.n t) (T.kids t)) plO f))) (T.kids (Prod.fst (T.red (T.mk (T.k t) (T.n t) (T.kids t)) plO f)))) (0 : Int) (T.mk (T.k t1) (T.n t1) (T.kids t1)))) (T.n (T.SbR (T.mk (T.k (Prod.fst (T.red (T.mk (T.k t) (T.n t) (T.kids t)) plO f))) (T.n (Prod.fst (T.red (T.mk (T.k t) (T.n t) (T.kids t)) plO f))) (T.kids (Prod.fst (T.red (T.mk (T.k t) (T.n t) (T.kids t)) plO f)))) (0 : Int) (T.mk (T.k t1) (T.n t1) (T.kids t1)))) (T.kids (T.SbR (T.mk (T.k (Prod.fst (T.red (T.mk (T.k t) (T.n t) (T.kids t)) plO f))) (T.n (Prod.fst (T.red (T.mk (T.k t) (T.n t) (T.kids t)) plO f))) (T.kids (Prod.fst (T.red (T.mk (T.k t) (T.n t) (T.kids t)) plO f)))) (0 : Int) (T.mk (T.k t1) (T.n t1) (T.kids t1))))) plO (200 : Int))))))) []))))))))))))))))))))))))))))) ?_ (by kernel_rfl)
  refine br (fun _ => retB hk rfl) (fun _ => br (fun _ => retB hk rfl) (fun _ => ⟨hp.1.2, fun t f ht hf => ⟨hp.2.2, fun u g hu hg => ?_⟩⟩))
  have z1 := red_small t plO f
  have st := T.size_eq t
  have su := T.size_eq u
  have same : ∀ t : T, t.same t = true := fun t => T.same_iff.2 rfl
  simp only [T.eta, same, ne_eq, not_true_eq_false, not_false_eq_true, decide_true, decide_false, Bool.not_true, Bool.not_false, bne_self_eq_false]
  repeat' first
    | exact retB hk rfl
    | exact trivial
    | with_reducible refine brt ?_
    | with_reducible refine brf ?_
    | refine brd (fun _ => ?_) (fun _ => ?_)
    | refine brn (fun _ => ?_) (fun _ => ?_)
    | refine br (fun _ => ?_) (fun _ => ?_)
    | apply And.intro
    | omega
  · have := red_small (t.SbR 0 u) plO 200; omega
  · rename_i a b c _ _
    rw [Bool.not_eq_false'] at b c
    have q := red_ok (P := plO) (t := t) (f := f) (by omega)
    have ps : PS (t.SbR 0 u) ((t.red plO f).1.SbR 0 u) := by
      rw [(SbO_parts b).2.2.2.2, (SbO_parts c).2.2.2.2]
      exact q.2.2.1.sb u (by omega)
    exact retB hk (by rw [red_after ps (f := 200) (g := 200) (by omega) (by omega)]; exact same _)
theorem FnSubstReduce_sound : Sound Try.prog 7 cFnSubstReduce := by
  refine soundF (G := [(32, cdNormalize), (18, cNormalize), (33, csNormalize), (34, cInstantiate), (17, cTermSame)]) ((gcons dNormalize_sound (gcons Normalize_sound (gcons sNormalize_sound (gcons Instantiate_sound (gcons TermSame_sound gnil)))))) Try.func7 rfl (by kernel_rfl) fun args hs K hCC => ?_
  unfold cFnSubstReduce at hCC
  split at hCC
  case h_2 => exact hCC.elim
  rename_i bs cs
  exact ⟨Nat.le_of_ble_eq_true rfl, _, FnSubstReduce_ok bs cs K hCC.1 hCC.2⟩
end Go.Dk
namespace Go.Proofs.Ytcgnenkbmcbonaa
open Go.ChangeShapes Go.WideShapes Go.RowKit Go.Dk Go.Proofs
set_option linter.unusedVariables false
set_option maxRecDepth 100000 in
theorem FnSubstReduce_lifted (os : Os) (started : os.Started) (H : Type) (enc : TypeId × Value → H) :
    ReturnsInHanded {} Try.checked os 7 .any (Rows.fnSubstReduceSpec.pre6 enc Try.prog Try.f7 Rows.fnSubstReduceRow.domain false) (Rows.fnSubstReduceSpec.post enc Try.prog Try.f7 false true false false) := by
  refine returnsInHanded_of_change (C := Try.checked) own started (by kernel_rfl) Try.func7
    (ChangeSpec.witness6 (enc := enc) (C := Try.checked) false ⟨#[], #[.slice none 0 0, .slice none 0 0], []⟩ 8 (by kernel_rfl) (by kernel_rfl) (by kernel_rfl) (by kernel_rfl)) ?_
  intro W base args ds gs before hok hW _ _
  have hW' := hW
  obtain ⟨p, q, hA, hV, rfl, hfz, hnd⟩ := hW
  rw [Try.params7] at hA
  obtain ⟨rfl, rfl⟩ := trodVars_none hV
  obtain ⟨v0, vs0, d0, ds0, q0, s0, e0, rfl, rfl, h0, hA⟩ := trodAll_cons hA
  obtain ⟨v1, vs1, d1, ds1, q1, s1, e1, rfl, rfl, h1, hA⟩ := trodAll_cons hA
  obtain ⟨rfl, rfl, rfl⟩ := trodAll_nil hA
  subst e1
  have ha : args = #[v0, v1] := by cases args; simpa using e0
  subst ha
  obtain ⟨bs0, l0, p0, r0⟩ := open_bytes Try.underlying22 Try.underlying5 (by kernel_rfl) (plain_slice Try.underlying22 (hok 0 _ _ rfl rfl)) h0
  obtain ⟨bs1, l1, p1, r1⟩ := open_bytes Try.underlying22 Try.underlying5 (by kernel_rfl) (plain_slice Try.underlying22 (hok 1 _ _ rfl rfl)) h1
  refine (law_call (args := [.ints .u8 bs0 (.arg 0), .ints .u8 bs1 (.arg 1)]) (vals := [v0, v1]) FnSubstReduce_sound (fun K hK => ⟨⟨⟨l0, p0⟩, ⟨l1, p1⟩⟩, hK⟩) (fun j => slOf ([v0, v1].getD j .nilFunc)) ⟨r0 _ 0 rfl, r1 _ 1 rfl, trivial⟩).mono fun e W' ⟨he, hk⟩ => ?_
  exact ⟨_, he, law_post laidOut (of_decide_eq_true (by kernel_rfl)) rfl rfl Try.underlying4 rfl hW' hk⟩
theorem FnSubstReduce_holds : Rows.FnSubstReduceSaid :=
  OpenClaim.holds_of_wide 7 Try.f7 rfl rfl rfl rfl rfl rfl rfl ⟨rfl, rfl, rfl, rfl, rfl⟩ rfl rfl rfl rfl rfl (by kernel_rfl) Try.func7 (by kernel_rfl)
    (of_decide_eq_true (by kernel_rfl)) (by unfold Func.isWrapper; first | (rw [if_pos (by decide +kernel)]; kernel_rfl) | (rw [if_neg (by decide +kernel)]; exact ⟨rfl, rfl⟩))
    (fun os started H enc _ => FnSubstReduce_lifted os started H enc)
end Go.Proofs.Ytcgnenkbmcbonaa
namespace Go.Dk
open Go.Proofs
end Go.Dk
