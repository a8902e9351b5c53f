/- laws.FnExactConstants: the constants have the values that the statement gives. -/
import Derived.Test.YtlfddfmoifjenaaRows
import Derived.Test.YtlfddfmoifjenaaBase
namespace Go.Proofs.Ytlfddfmoifjenaa
open Go.ChangeShapes Go.WideShapes Go.RowKit Go.Dk Go.Proofs

def cTrue0 : Con
  | [], [], K => K (.bool true) []
  | _, _, _ => False
theorem constants_ok (K : AV → List AV → Prop) (hK : K (.bool true) []) : bodyP [] TY Try.f3 (body Try.f3) [] [] K := by
  repeat (refine brF ?_)
  exact fin hK (show true = true from rfl) True.intro
theorem constants_sound : Sound Try.prog 3 cTrue0 := by
  refine soundF (G := []) (fun p hp => by simp at hp) Try.func3 rfl (by kernel_rfl) fun args hs K h => ?_
  unfold cTrue0 at h
  split at h
  case h_2 => exact h.elim
  exact ⟨by decide, constants_ok K h⟩
theorem constants_lifted (os : Os) (started : os.Started) (H : Type) (enc : TypeId × Value → H) :
    ReturnsInHanded {} Try.checked os 3 .any (Rows.fnExactConstantsSpec.pre6 enc Try.prog Try.f3 Rows.fnExactConstantsRow.domain false) (Rows.fnExactConstantsSpec.post enc Try.prog Try.f3 false true false false) := by
  refine returnsInHanded_of_change (C := Try.checked) own started (by kernel_rfl) Try.func3
    (ChangeSpec.witness6 (enc := enc) (C := Try.checked) false ⟨#[], #[], []⟩ 8 (by kernel_rfl) (by kernel_rfl) (by kernel_rfl) (by kernel_rfl)) ?_
  intro W base args ds gs before _ hW _ _
  have hW' := hW
  obtain ⟨p, q, hA, hV, rfl, hfz, hnd⟩ := hW
  rw [Try.params3] at hA
  obtain ⟨rfl, rfl, rfl⟩ := trodAll_none hA
  obtain ⟨rfl, rfl⟩ := trodVars_none hV
  refine (law_call (args := []) (vals := []) constants_sound (fun K hK => hK) (fun _ => .nilIface) trivial).mono fun e W' ⟨he, hk⟩ => ?_
  exact ⟨_, he, law_post laidOut (by decide) rfl rfl Try.underlying4 rfl hW' hk⟩
theorem constants_holds : Rows.FnExactConstantsSaid :=
  OpenClaim.holds_of_wide 3 Try.f3 rfl rfl rfl rfl rfl rfl rfl ⟨rfl, rfl, rfl, rfl, rfl⟩ rfl rfl rfl rfl rfl (by kernel_rfl) Try.func3 (by kernel_rfl)
    (of_decide_eq_true (by kernel_rfl)) (by unfold Func.isWrapper; first | (rw [if_pos (by decide +kernel)]; kernel_rfl) | (rw [if_neg (by decide +kernel)]; exact ⟨rfl, rfl⟩))
    (fun os started H enc _ => constants_lifted os started H enc)
end Go.Proofs.Ytlfddfmoifjenaa
