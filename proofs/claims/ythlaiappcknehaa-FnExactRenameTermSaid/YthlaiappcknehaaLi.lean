/- laws.toIntS, laws.eqIntS: a copy of numbers, and the same numbers. -/
import Derived.Test.YthlaiappcknehaaL0
namespace Go.Dk
set_option linter.unusedVariables false
open Go.Proofs
/-- The first i numbers, and naughts behind. -/
def fillI (ns : List Int) (i : Nat) : List Int := ns.take i ++ List.replicate (ns.length - i) 0
theorem fillI_zero (ns : List Int) : fillI ns 0 = List.replicate ns.length 0 := by simp [fillI]
theorem fillI_length {ns : List Int} {i : Nat} (h : i ≤ ns.length) : (fillI ns i).length = ns.length := by simp [fillI]; omega
theorem fillI_set {ns : List Int} {i : Nat} (h : i < ns.length) : (fillI ns i).set i (ns.getD i 0) = fillI ns (i + 1) := by
  unfold fillI
  have e1 : (ns.take i).length = i := by simp; omega
  have e2 : ns.length - i = (ns.length - (i + 1)) + 1 := by omega
  rw [e2, List.replicate_succ, List.set_append, if_neg (by omega), e1, Nat.sub_self, List.set_cons_zero]
  rw [List.take_succ_eq_append_getElem h, List.getD_eq_getElem?_getD, List.getElem?_eq_getElem h, List.append_assoc]
  rfl
theorem fillI_full {ns : List Int} {i : Nat} (h : ¬ i < ns.length) : fillI ns i = ns := by
  unfold fillI
  rw [List.take_of_length_le (by omega), show ns.length - i = 0 by omega]
  simp
/-- laws.toIntS -/
def ctoIntS : Con
  | [.ints .i64 ns (.arg 0)], [], K => ((ns.length ≤ 1048576)) ∧ ((K (.ints .i64 ns (.iv 4 0 true (.tok 0))) []))
  | _, _, _ => False
theorem toIntS_ok (ns : List Int) (K : AV → List AV → Prop) (hp : ((ns.length ≤ 1048576))) (hk : ((K (.ints .i64 ns (.iv 4 0 true (.tok 0))) []))) :
    bodyQ [] TY [(3, { ι := Nat, ok := fun i => i ≤ ns.length, tl := fun i => [(0, .ints .i64 ns (.arg 0)), (3, .ints .i64 (fillI ns i) (.iv 4 0 true (.id 7))), (4, .int .i64 i)], hl := fun _ => [], fh := fun _ => [], μ := fun i => ns.length - i })] Try.f34 (body Try.f34) [.ints .i64 ns (.arg 0)] [] K := by
  refine of_vc (A :=
      ((((0 : Int) ≤ (((List.length ns) : Nat) : Int)) ∧
        (((((List.length ns) : Nat) : Int) = (((List.length ns) : Nat) : Int)) ∧ ((((List.length ns) : Nat) : Int) ≤ (1099511627776 : Int)))) ∧
       ((∃ x : Nat,
          ((x ≤ (List.length ns)) ∧
           ((ns = ns) ∧ (((List.replicate (Int.toNat (((List.length ns) : Nat) : Int)) (0 : Int)) = (fillI ns x)) ∧ (((0 : Int) = ((x : Nat) : Int)) ∧ True))))) ∧
        (∀ x : Nat,
          ((x ≤ (List.length ns)) →
           (Br (Decidable.decide (((x : Nat) : Int) < (((List.length ns) : Nat) : Int)))
             ((((0 : Int) ≤ ((x : Nat) : Int)) ∧ (((x : Nat) : Int) < (((List.length ns) : Nat) : Int))) ∧
              ((((0 : Int) ≤ ((x : Nat) : Int)) ∧ (((x : Nat) : Int) < (((List.length (fillI ns x)) : Nat) : Int))) ∧
               ((InR (((x : Nat) : Int) + (1 : Int))) ∧
                (∃ y : Nat,
                  ((y ≤ (List.length ns)) ∧
                   ((ns = ns) ∧
                    (((List.set (fillI ns x) (Int.toNat ((x : Nat) : Int)) (List.getD ns (Int.toNat ((x : Nat) : Int)) (0 : Int))) = (fillI ns y)) ∧
                     (((((x : Nat) : Int) + (1 : Int)) = ((y : Nat) : Int)) ∧ ((Nat.succ ((List.length ns) - y)) ≤ ((List.length ns) - x))))))))))
             (Ret K (.ints .i64 (fillI ns x) (.iv (4 : Nat) (0 : Nat) true (.tok (0 : Nat)))) []))))))) ?_ (by kernel_rfl)
  refine ⟨⟨by omega, rfl, by omega⟩, ⟨0, Nat.zero_le _, rfl, by rw [fillI_zero, Int.toNat_natCast], rfl, trivial⟩, fun i hi0 => br (fun h => ?_) (fun h => ?_)⟩
  · have hi : i < ns.length := by simpa using h
    simp only [Int.toNat_natCast]
    exact ⟨⟨by omega, by simpa using hi⟩, ⟨by omega, by rw [fillI_length hi0]; omega⟩, by unfold InR; omega, i + 1, by omega, trivial, fillI_set hi, by simp, by omega⟩
  · have hi : ¬ i < ns.length := by simpa using h
    rw [fillI_full hi]
    exact fin hk ⟨rfl, rfl, rfl⟩ trivial
theorem toIntS_sound : Sound Try.prog 34 ctoIntS := by
  refine soundF (G := []) (gnil) Try.func34 rfl (by kernel_rfl) fun args hs K hCC => ?_
  unfold ctoIntS at hCC
  split at hCC
  case h_2 => exact hCC.elim
  rename_i ns
  exact ⟨Nat.le_of_ble_eq_true rfl, _, toIntS_ok ns K hCC.1 hCC.2⟩
/-- laws.eqIntS -/
def ceqIntS : Con
  | [.ints .i64 ns (.arg 0), .ints .i64 ns' (.arg 1)], [], K => ((ns.length ≤ 1099511627776)) ∧ ((K (.bool (decide (ns = ns'))) []))
  | _, _, _ => False
theorem eqIntS_ok (ns ns' : List Int) (K : AV → List AV → Prop) (hp : ((ns.length ≤ 1099511627776))) (hk : ((K (.bool (decide (ns = ns'))) []))) :
    bodyQ [] TY [(4, { ι := Nat, ok := fun i => i ≤ ns.length ∧ ns.take i = ns'.take i, tl := fun i => [(0, .ints .i64 ns (.arg 0)), (1, .ints .i64 ns' (.arg 1)), (5, .int .i64 i)], hl := fun _ => [], fh := fun _ => [], μ := fun i => ns.length - i })] Try.f36 (body Try.f36) [.ints .i64 ns (.arg 0), .ints .i64 ns' (.arg 1)] [] K := by
  refine of_vc (A :=
      (Br (Decidable.decide ((((List.length ns) : Nat) : Int) ≠ (((List.length ns') : Nat) : Int)))
        (Ret K (.bool false) [])
        ((∃ x : Nat, (((x ≤ (List.length ns)) ∧ ((List.take x ns) = (List.take x ns'))) ∧ ((ns = ns) ∧ ((ns' = ns') ∧ (((0 : Int) = ((x : Nat) : Int)) ∧ True))))) ∧
         (∀ x : Nat,
           (((x ≤ (List.length ns)) ∧ ((List.take x ns) = (List.take x ns'))) →
            (Br (Decidable.decide (((x : Nat) : Int) < (((List.length ns) : Nat) : Int)))
              ((((0 : Int) ≤ ((x : Nat) : Int)) ∧ (((x : Nat) : Int) < (((List.length ns) : Nat) : Int))) ∧
               ((((0 : Int) ≤ ((x : Nat) : Int)) ∧ (((x : Nat) : Int) < (((List.length ns') : Nat) : Int))) ∧
                (Br (Decidable.decide ((List.getD ns (Int.toNat ((x : Nat) : Int)) (0 : Int)) ≠ (List.getD ns' (Int.toNat ((x : Nat) : Int)) (0 : Int))))
                  (Ret K (.bool false) [])
                  ((InR (((x : Nat) : Int) + (1 : Int))) ∧
                   (∃ y : Nat,
                     (((y ≤ (List.length ns)) ∧ ((List.take y ns) = (List.take y ns'))) ∧
                      ((ns = ns) ∧ ((ns' = ns') ∧ (((((x : Nat) : Int) + (1 : Int)) = ((y : Nat) : Int)) ∧ ((Nat.succ ((List.length ns) - y)) ≤ ((List.length ns) - x)))))))))))
              (Ret K (.bool true) []))))))) ?_ (by kernel_rfl)
  refine br (fun h => ?_) (fun h => ?_)
  · have h := of_decide_eq_true h
    exact retB hk (by symm; simp only [decide_eq_false_iff_not]; intro e; subst e; exact h rfl)
  · have hlen : ns.length = ns'.length := by simp at h; omega
    refine ⟨⟨0, ⟨Nat.zero_le _, rfl⟩, rfl, rfl, rfl, trivial⟩, ?_⟩
    rintro i ⟨g1, g2⟩
    refine br (fun h => ?_) (fun h => ?_)
    · have hi : i < ns.length := by simpa using h
      have hi' : i < ns'.length := by omega
      simp only [Int.toNat_natCast, List.getD_eq_getElem?_getD, List.getElem?_eq_getElem hi, List.getElem?_eq_getElem hi', Option.getD_some]
      refine ⟨⟨by omega, by omega⟩, ⟨by omega, by omega⟩, br (fun h2 => ?_) (fun h2 => ?_)⟩
      · have h2 := of_decide_eq_true h2
        exact retB hk (by symm; simp only [decide_eq_false_iff_not]; intro e; subst e; exact h2 rfl)
      · have h2 : ns[i] = ns'[i] := by simpa using h2
        refine ⟨by unfold InR; omega, i + 1, ⟨by omega, ?_⟩, trivial, trivial, by simp, by omega⟩
        rw [List.take_succ_eq_append_getElem hi, List.take_succ_eq_append_getElem hi', g2, h2]
    · have hi : ¬ i < ns.length := by simpa using h
      rw [List.take_of_length_le (by omega), List.take_of_length_le (by omega)] at g2
      exact retB hk (by simp [g2])
theorem eqIntS_sound : Sound Try.prog 36 ceqIntS := by
  refine soundF (G := []) (gnil) Try.func36 rfl (by kernel_rfl) fun args hs K hCC => ?_
  unfold ceqIntS at hCC
  split at hCC
  case h_2 => exact hCC.elim
  rename_i ns ns'
  exact ⟨Nat.le_of_ble_eq_true rfl, _, eqIntS_ok ns ns' K hCC.1 hCC.2⟩
end Go.Dk
