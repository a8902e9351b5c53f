/- strconv.Atoi, as the machine's contract. -/
import Derived.Test.YteamklllllembaaDoorLb
import Derived.Lib.AtoiErrMem
namespace Go.Dk
set_option linter.unusedVariables false
open Go.Proofs Go.RowKit
theorem atois : ∀ i : Nat, i < 21 → (match Lib.atoiAll (decD i) with | .ok v => decide (v = (i : Int)) | _ => false) = true := by decide +kernel
theorem atoi_dec {m : Int} (h0 : 0 ≤ m) (h1 : m ≤ 20) : Lib.atoiAll (decD m) = .ok m := by
  obtain ⟨i, rfl⟩ := Int.eq_ofNat_of_zero_le h0
  have := atois i (by omega)
  cases h : Lib.atoiAll (decD i)
  · rw [h] at this; rw [of_decide_eq_true this]
  · rw [h] at this; cases this
  · rw [h] at this; cases this
def cAtoi : Con
  | [.str s], [], K => s.length ≤ 1048576 ∧ (∀ v, InR v → Lib.atoiAll s = .ok v → K (.tup [.int .i64 v, .nili]) []) ∧ (∀ v, InR v → (∀ u, Lib.atoiAll s ≠ .ok u) → K (.tup [.int .i64 v, .ifc]) [])
  | _, _, _ => False
theorem Atoi_sound : Sound Tryd.prog 70 cAtoi := by
  refine ⟨⟨_, Tryd.func70, by kernel_rfl, by kernel_rfl⟩, fun args hs K hc C vals hC hn ha hh => ?_⟩
  unfold cAtoi at hc
  split at hc
  case h_2 => exact hc.elim
  rename_i s
  obtain ⟨hl, hk1, hk2⟩ := hc
  match vals, ha with
  | [v], ⟨e1, _⟩ =>
    have e1 : v = .string ⟨s.toArray⟩ := e1
    subst e1
    have hz : (⟨s.toArray⟩ : ByteArray).size = s.length := rfl
    obtain ⟨_, ⟨ev1, v1, v1'⟩, ev2, v2, v2'⟩ := C.inv
    cases h : Lib.atoiAll s
    · rename_i v
      refine (Tryd.strconv_Atoi_ok ⟨s.toArray⟩ (by rw [hz]; omega) v h C.w0).mono fun e w' ⟨he, hw⟩ => ?_
      subst he
      refine ⟨_, [], _, C.g0, rfl, hk1 v (Lib.atoiAll_bounds h) h, growOut hC hn ?_ ⟨[_, _], rfl, rfl, rfl, trivial⟩⟩
      rcases hw with rfl | ⟨t, rfl⟩
      · exact Below.refl _ _
      · exact Lib.bytesWorld_below _ _ _
    · refine (Any.strconv_Atoi_syntax Tryd.laysC172 ⟨s.toArray⟩ (by rw [hz]; omega) h ev1 C.w0 v1 v1').mono fun e w' ⟨N, he, _, _, hb⟩ => ?_
      subst he
      exact ⟨_, [], _, C.g0, rfl, hk2 0 (by unfold InR; omega) (fun u e => by rw [h] at e; cases e), growOut hC hn hb ⟨[_, _], rfl, rfl, ⟨_, _, rfl⟩, trivial⟩⟩
    · refine (Tryd.strconv_Atoi_range ⟨s.toArray⟩ (by rw [hz]; omega) h ev2 C.w0 v2 v2').mono fun e w' ⟨N, he, _, _, hb⟩ => ?_
      subst he
      exact ⟨_, [], _, C.g0, rfl, hk2 _ (Lib.atoiSat_bounds _) (fun u e => by rw [h] at e; cases e), growOut hC hn hb ⟨[_, _], rfl, rfl, ⟨_, _, rfl⟩, trivial⟩⟩
end Go.Dk
