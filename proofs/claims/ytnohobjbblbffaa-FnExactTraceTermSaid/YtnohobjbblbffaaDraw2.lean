/- Regions that draw their order, joined. -/
import Derived.Test.YtnohobjbblbffaaDraw
set_option linter.unusedSimpArgs false
set_option linter.unusedVariables false
namespace Go.Dk
section
variable {P : Program} {C : Fr} {n : Nat} {γ : Gh} {s m : AS} {a : Act} {w : World} {TY : Nat → TyI} {G G' : List (Nat × Con)} {o : Oper} {K : AV → AS → Prop}

theorem eff_congr (A : Agr m s) (hx : ∀ x ∈ o.op.operands, m.get x = s.get x) (he : isEff o = true) (h : aop G TY true s o K) :
    aop (cloG G) TY true m o (fun v m' => Rest K s m (strips o) v m') := by
  have same : ∀ {st : Bool} {v : AV}, K v s → Rest K s m st v m := fun hk => ⟨s, hk, A, fun _ e => e, fun _ => rfl, keep_id⟩
  cases hop : o.op <;> simp only [isEff, hop] at he <;> (try cases he) <;> simp only [aop, hop, nilCmp] at h ⊢ <;> simp only [hop, Op.operands] at hx
  case assign x => rw [getT_congr (hx x (by simp))]; exact same h
  case store ty x y =>
    have hs : strips o = true := by simp [strips, hop]
    rw [hx y (by simp), hs]
    split at h
    case h_2 => exact h.elim
    rw [hx x (by simp)]
    refine deref_congr A.h A.f h fun u hu => ?_
    split at hu
    case h_2 => exact hu.elim
    exact setH_congr A hu
  case alloc ty =>
    split at h
    case h_1 => exact h.elim
    case h_3 => exact h.elim
    rename_i d hd hne
    revert h hne
    generalize (TY ty).k = kk
    intro hne h
    cases kk with
    | no => exact absurd rfl hne
    | sc z => exact ⟨_, h, ⟨by simp only [A.h], by simp only [A.f], A.n⟩, fun j e => by simp only [e], fun e => by simp [strips, hop] at e, keep_cl⟩
    | ag zs => exact ⟨_, h, ⟨by simp only [A.h], by simp only [A.f], A.n⟩, fun j e => by simp only [e], fun e => by simp [strips, hop] at e, keep_cl⟩
  case box ty x =>
    split at h
    case h_2 => exact h.elim
    rename_i d hd
    rw [hx x (by simp)]
    split at h
    case h_2 => exact h.elim
    exact ⟨_, h, ⟨by rw [A.h], by rw [A.f], A.n⟩, fun j e => by simp only [e], fun e => by simp [strips, hop] at e, keep_cl⟩
  case makeSlice ty x y =>
    have hs : strips o = true := by simp [strips, hop]
    rw [hx x (by simp), hx y (by simp), hs]
    split at h
    case h_2 => exact h.elim
    split at h
    case h_3 => exact h.elim
    all_goals exact ⟨h.1, _, by rw [A.n]; exact h.2, ⟨by rw [A.h], by rw [A.f], by rw [A.n]⟩, fun j e => by simp only [e], nofun, keep_cl⟩
  case binOp op ty x y ty' =>
    have e : op = .xor := by cases op <;> simp at he <;> rfl
    subst e
    rw [hx x (by simp), hx y (by simp)]
    unfold binAV at h ⊢
    split at h
    case h_5 => exact h.elim
    case h_1 =>
      split at h
      case h_3 => exact h.elim
      case h_1 hq => exact fun c hc => same (h c hc)
      case h_2 hq => simp only [u8AV, cmpAV] at h
    case h_2 =>
      split at h
      case h_3 => exact h.elim
      all_goals (rename_i e; cases e)
    case h_3 =>
      split at h
      case h_4 => exact h.elim
      all_goals (rename_i e; cases e)
    case h_4 =>
      split at h
      case h_3 => exact h.elim
      all_goals (rename_i e; cases e)
  case call c =>
    have hcx : mapGets m c.args.toList = mapGets s c.args.toList := mapGets_congr fun x hm => hx x (by simp [Call.operands]; exact .inr (by simpa using hm))
    split at h
    case h_3 => exact h.elim
    case h_1 x hc =>
      have hxx : m.get x = s.get x := hx x (by simp [Call.operands, hc])
      split at h
      case h_2 => exact h.elim
      rename_i f caps hf
      have hs : strips o = false := by simp [strips, hop, hc]
      have hct : mapGetsT TY m c.argTypes.toList c.args.toList = mapGetsT TY s c.argTypes.toList c.args.toList := mapGetsT_congr fun x hm => hx x (by simp [Call.operands]; exact .inr (by simpa using hm))
      rw [hxx, hf, hct, hs]
      unfold acallM at h
      split at h
      · rename_i hmk
        have h2 := acall_congr A h
        simp only [acallM, hmk]
        exact h2
      · split at h
        · rename_i hd; exact absurd hd (by simp)
        · exact h.elim
    case h_2 b hc =>
      split at h
      case h_4 => exact h.elim
      case h_1 => simp [hc] at he
      case h_2 => simp [hc] at he
      case h_3 hat har =>
        rw [hcx]
        simp only [hat, har]
        split at h
        case h_2 => exact h.elim
        rename_i d hd htt
        have hs : strips o = true := by simp [strips, hop, hc]
        rw [hs]
        unfold appd at h ⊢
        split at h
        case h_3 => exact h.elim
        case h_1 hk hp hq =>
          rw [A.n]
          split at h
          case h_2 => exact h.elim
          split at h
          case h_2 => exact h.elim
          exact ⟨h.1, _, h.2, ⟨by rw [A.h], by rw [A.f], rfl⟩, fun j e => by simp only [e], nofun, keep_cl⟩
        case h_2 hk hp hq =>
          rw [A.n]
          split at h
          case h_2 => exact h.elim
          split at h
          case h_2 => exact h.elim
          exact ⟨h.1, _, h.2, ⟨by rw [A.h], by rw [A.f], rfl⟩, fun j e => by simp only [e], nofun, keep_cl⟩
end
end Go.Dk
