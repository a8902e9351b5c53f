/- laws.FnNormalParts returns true and leaves its arguments as they were, for all arguments. -/
import Derived.Test.YtmeplbnophmmdaaLaw
import Derived.Test.YtmeplbnophmmdaaL0
import Derived.Test.YtmeplbnophmmdaaDr4
import Derived.Test.YtmeplbnophmmdaaL3
import Derived.Test.YtmeplbnophmmdaaL3s
namespace Go.Dk
set_option linter.unusedVariables false
open Go.Proofs
theorem brt {A B : Prop} (h : A) : Br true A B := br (fun _ => h) (fun h => nomatch h)
theorem brf {A B : Prop} (h : B) : Br false A B := br (fun h => nomatch h) (fun _ => h)
/-- laws.FnNormalParts -/
def cFnNormalParts : Con
  | [.ints .u8 bs (.arg 0)], [], K => ((bs.length ≤ 9223372036854775807 ∧ Bs bs)) ∧ ((K (.bool true) []))
  | _, _, _ => False
theorem FnNormalParts_ok (bs : List Int) (K : AV → List AV → Prop) (hp : ((bs.length ≤ 9223372036854775807 ∧ Bs bs))) (hk : ((K (.bool true) []))) :
    bodyQ [(11, cdNormalTerm), (12, cNormalTerm), (13, csNormalTerm), (14, cTermValid), (15, cRedexOf)] TY [(9, { ι := T × Bool × Nat, ok := fun x => x.1.valid = true ∧ x.2.2 ≤ x.1.kids.length ∧ (x.2.1 && nrmL (x.1.kids.drop x.2.2)) = x.1.nrm, tl := fun x => [(3, .ptr 3), (4, .bool (x.1.valid && x.1.nrm)), (5, .bool x.2.1), (6, .int .i64 x.2.2)], hl := fun x => [(3, x.1.av .any)], fh := fun _ => [], μ := fun x => x.1.kids.length - x.2.2 })] Try.f4 (body Try.f4) [.ints .u8 bs (.arg 0)] [] K := by
  refine of_vc (A :=
    (Br (Decidable.decide ((1048576 : Int) < (((List.length bs) : Nat) : Int)))
     (Ret K (.bool true) [])
     ((Bs bs) ∧
     (∀ t : T,
     (((T.size t) ≤ (3000 : Nat)) →
     (True ∧
     (True ∧
     (Br (bne (Bool.and (T.valid (T.mk (T.k t) (T.n t) (T.kids t))) (T.nrm (T.mk (T.k t) (T.n t) (T.kids t)))) (Bool.and (T.valid (T.mk (T.k t) (T.n t) (T.kids t))) (T.nrm (T.mk (T.k t) (T.n t) (T.kids t)))))
     (True ∧
     (Ret K (.bool (BEq.beq (Bool.and (T.valid (T.mk (T.k t) (T.n t) (T.kids t))) (T.nrm (T.mk (T.k t) (T.n t) (T.kids t)))) (Bool.and (T.valid (T.mk (T.k t) (T.n t) (T.kids t))) (T.nrm (T.mk (T.k t) (T.n t) (T.kids t)))))) []))
     (True ∧
     (Br (Bool.not (T.valid (T.mk (T.k t) (T.n t) (T.kids t))))
     (True ∧
     (Ret K (.bool (BEq.beq (Bool.and (T.valid (T.mk (T.k t) (T.n t) (T.kids t))) (T.nrm (T.mk (T.k t) (T.n t) (T.kids t)))) (Bool.and (T.valid (T.mk (T.k t) (T.n t) (T.kids t))) (T.nrm (T.mk (T.k t) (T.n t) (T.kids t)))))) []))
     (True ∧
     ((∃ x : (Prod T (Prod Bool Nat)),
     ((((T.valid (Prod.fst x)) = true) ∧
     (((Prod.snd (Prod.snd x)) ≤ (List.length (T.kids (Prod.fst x)))) ∧
     ((Bool.and (Prod.fst (Prod.snd x)) (nrmL (List.drop (Prod.snd (Prod.snd x)) (T.kids (Prod.fst x))))) = (T.nrm (Prod.fst x))))) ∧
     (((Bool.and (T.valid (T.mk (T.k t) (T.n t) (T.kids t))) (T.nrm (T.mk (T.k t) (T.n t) (T.kids t)))) = (Bool.and (T.valid (Prod.fst x)) (T.nrm (Prod.fst x)))) ∧
     (((Decidable.decide ((if ((T.valid (T.mk (T.k t) (T.n t) (T.kids t))) = true) then (T.rdx (T.mk (T.k t) (T.n t) (T.kids t))) else (0 : Int)) = (0 : Int))) = (Prod.fst (Prod.snd x))) ∧
     (((0 : Int) = (((Prod.snd (Prod.snd x)) : Nat) : Int)) ∧
     (((T.k t) = (T.k (Prod.fst x))) ∧ (((T.n t) = (T.n (Prod.fst x))) ∧ (((T.kids t) = (T.kids (Prod.fst x))) ∧ True)))))))) ∧
     (∀ x : (Prod T (Prod Bool Nat)),
     ((((T.valid (Prod.fst x)) = true) ∧ (((Prod.snd (Prod.snd x)) ≤ (List.length (T.kids (Prod.fst x)))) ∧ ((Bool.and (Prod.fst (Prod.snd x)) (nrmL (List.drop (Prod.snd (Prod.snd x)) (T.kids (Prod.fst x))))) = (T.nrm (Prod.fst x))))) →
     (Br (Decidable.decide ((((Prod.snd (Prod.snd x)) : Nat) : Int) < (((List.length (T.kids (Prod.fst x))) : Nat) : Int)))
     (Br (Prod.fst (Prod.snd x))
     ((((0 : Int) ≤ (((Prod.snd (Prod.snd x)) : Nat) : Int)) ∧ ((((Prod.snd (Prod.snd x)) : Nat) : Int) < (((List.length (T.kids (Prod.fst x))) : Nat) : Int))) ∧
     (True ∧
     ((InR ((((Prod.snd (Prod.snd x)) : Nat) : Int) + (1 : Int))) ∧
     (∃ y : (Prod T (Prod Bool Nat)),
     ((((T.valid (Prod.fst y)) = true) ∧
     (((Prod.snd (Prod.snd y)) ≤ (List.length (T.kids (Prod.fst y)))) ∧
     ((Bool.and (Prod.fst (Prod.snd y)) (nrmL (List.drop (Prod.snd (Prod.snd y)) (T.kids (Prod.fst y))))) = (T.nrm (Prod.fst y))))) ∧
     (((Bool.and (T.valid (Prod.fst x)) (T.nrm (Prod.fst x))) = (Bool.and (T.valid (Prod.fst y)) (T.nrm (Prod.fst y)))) ∧
     (((Bool.and (T.valid (T.mk (T.k (List.getD (T.kids (Prod.fst x)) (Int.toNat (((Prod.snd (Prod.snd x)) : Nat) : Int)) default)) (T.n (List.getD (T.kids (Prod.fst x)) (Int.toNat (((Prod.snd (Prod.snd x)) : Nat) : Int)) default)) (T.kids (List.getD (T.kids (Prod.fst x)) (Int.toNat (((Prod.snd (Prod.snd x)) : Nat) : Int)) default)))) (T.nrm (T.mk (T.k (List.getD (T.kids (Prod.fst x)) (Int.toNat (((Prod.snd (Prod.snd x)) : Nat) : Int)) default)) (T.n (List.getD (T.kids (Prod.fst x)) (Int.toNat (((Prod.snd (Prod.snd x)) : Nat) : Int)) default)) (T.kids (List.getD (T.kids (Prod.fst x)) (Int.toNat (((Prod.snd (Prod.snd x)) : Nat) : Int)) default))))) = (Prod.fst (Prod.snd y))) ∧
     ((((((Prod.snd (Prod.snd x)) : Nat) : Int) + (1 : Int)) = (((Prod.snd (Prod.snd y)) : Nat) : Int)) ∧
     (((T.k (Prod.fst x)) = (T.k (Prod.fst y))) ∧
     (((T.n (Prod.fst x)) = (T.n (Prod.fst y))) ∧
     (((T.kids (Prod.fst x)) = (T.kids (Prod.fst y))) ∧
     ((Nat.succ ((List.length (T.kids (Prod.fst y))) - (Prod.snd (Prod.snd y)))) ≤ ((List.length (T.kids (Prod.fst x))) - (Prod.snd (Prod.snd x)))))))))))))))
     ((InR ((((Prod.snd (Prod.snd x)) : Nat) : Int) + (1 : Int))) ∧
     (∃ y : (Prod T (Prod Bool Nat)),
     ((((T.valid (Prod.fst y)) = true) ∧
     (((Prod.snd (Prod.snd y)) ≤ (List.length (T.kids (Prod.fst y)))) ∧
     ((Bool.and (Prod.fst (Prod.snd y)) (nrmL (List.drop (Prod.snd (Prod.snd y)) (T.kids (Prod.fst y))))) = (T.nrm (Prod.fst y))))) ∧
     (((Bool.and (T.valid (Prod.fst x)) (T.nrm (Prod.fst x))) = (Bool.and (T.valid (Prod.fst y)) (T.nrm (Prod.fst y)))) ∧
     ((false = (Prod.fst (Prod.snd y))) ∧
     ((((((Prod.snd (Prod.snd x)) : Nat) : Int) + (1 : Int)) = (((Prod.snd (Prod.snd y)) : Nat) : Int)) ∧
     (((T.k (Prod.fst x)) = (T.k (Prod.fst y))) ∧
     (((T.n (Prod.fst x)) = (T.n (Prod.fst y))) ∧
     (((T.kids (Prod.fst x)) = (T.kids (Prod.fst y))) ∧
     ((Nat.succ ((List.length (T.kids (Prod.fst y))) - (Prod.snd (Prod.snd y)))) ≤ ((List.length (T.kids (Prod.fst x))) - (Prod.snd (Prod.snd x))))))))))))))
     (Ret K (.bool (BEq.beq (Bool.and (T.valid (Prod.fst x)) (T.nrm (Prod.fst x))) (Prod.fst (Prod.snd x)))) [])))))))))))))))) ?_ (by kernel_rfl)
  refine br (fun _ => retB hk rfl) (fun _ => ⟨hp.2, fun t ht => ?_⟩)
  have nrm_eq : ∀ t : T, (decide (t.rdx = 0) && nrmL t.kids) = t.nrm := fun t => by
    cases t with
    | mk k n ts => show _ = (nrmL ts && decide ((T.mk k n ts).rdx = 0)); rw [Bool.and_comm]; rfl
  simp only [T.eta, bne_self_eq_false, beq_self_eq_true]
  refine ⟨trivial, trivial, brf ⟨trivial, br (fun _ => ⟨trivial, retB hk rfl⟩) (fun hv => ⟨trivial, ?_, ?_⟩)⟩⟩
  · have hv : t.valid = true := by simpa using hv
    exact ⟨(t, decide (t.rdx = 0), 0), ⟨hv, Nat.zero_le _, nrm_eq t⟩, rfl, by rw [if_pos hv], rfl, rfl, rfl, rfl, trivial⟩
  rintro ⟨u, b, i⟩ ⟨g1, g2, g3⟩
  simp only at g1 g2 g3
  have hl := length_le_sizeL u.kids
  have hz := T.valid_size g1
  have hu := u.size_eq
  simp only [Int.toNat_natCast]
  refine br (fun h => br (fun hb => ?_) (fun hb => ?_)) (fun h => ?_)
  · have hi : i < u.kids.length := by have := of_decide_eq_true h; omega
    rw [nrmL_drop hi, hb, Bool.true_and] at g3
    exact ⟨⟨by omega, by omega⟩, trivial, by unfold InR; omega, (u, _, i + 1), ⟨g1, hi, g3⟩, rfl, by rw [T.valid_kid g1 (getD_mem hi), Bool.true_and], rfl, rfl, rfl, rfl, by show Nat.succ (u.kids.length - (i + 1)) ≤ u.kids.length - i; omega⟩
  · have hi : i < u.kids.length := by have := of_decide_eq_true h; omega
    rw [hb, Bool.false_and] at g3
    exact ⟨by unfold InR; omega, (u, false, i + 1), ⟨g1, hi, by rw [Bool.false_and]; exact g3⟩, rfl, rfl, rfl, rfl, rfl, rfl, by show Nat.succ (u.kids.length - (i + 1)) ≤ u.kids.length - i; omega⟩
  · have hi : ¬ i < u.kids.length := by have := of_decide_eq_false h; omega
    rw [drop_len hi] at g3
    refine retB hk ?_
    have e : nrmL [] = true := rfl
    rw [e, Bool.and_true] at g3
    rw [g1, g3, Bool.true_and, beq_self_eq_true]
theorem FnNormalParts_sound : Sound Try.prog 4 cFnNormalParts := by
  refine soundF (G := [(11, cdNormalTerm), (12, cNormalTerm), (13, csNormalTerm), (14, cTermValid), (15, cRedexOf)]) ((gcons dNormalTerm_sound (gcons NormalTerm_sound (gcons sNormalTerm_sound (gcons TermValid_sound (gcons RedexOf_sound gnil)))))) Try.func4 rfl (by kernel_rfl) fun args hs K hCC => ?_
  unfold cFnNormalParts at hCC
  split at hCC
  case h_2 => exact hCC.elim
  rename_i bs
  exact ⟨Nat.le_of_ble_eq_true rfl, _, FnNormalParts_ok bs K hCC.1 hCC.2⟩
end Go.Dk
namespace Go.Proofs.Ytmeplbnophmmdaa
open Go.ChangeShapes Go.WideShapes Go.RowKit Go.Dk Go.Proofs
set_option linter.unusedVariables false
set_option maxRecDepth 100000 in
theorem FnNormalParts_lifted (os : Os) (started : os.Started) (H : Type) (enc : TypeId × Value → H) :
    ReturnsInHanded {} Try.checked os 4 .any (Rows.fnNormalPartsSpec.pre6 enc Try.prog Try.f4 Rows.fnNormalPartsRow.domain false) (Rows.fnNormalPartsSpec.post enc Try.prog Try.f4 false true false false) := by
  refine returnsInHanded_of_change (C := Try.checked) own started (by kernel_rfl) Try.func4
    (ChangeSpec.witness6 (enc := enc) (C := Try.checked) false ⟨#[], #[.slice none 0 0], []⟩ 8 (by kernel_rfl) (by kernel_rfl) (by kernel_rfl) (by kernel_rfl)) ?_
  intro W base args ds gs before hok hW _ _
  have hW' := hW
  obtain ⟨p, q, hA, hV, rfl, hfz, hnd⟩ := hW
  rw [Try.params4] at hA
  obtain ⟨rfl, rfl⟩ := trodVars_none hV
  obtain ⟨v0, vs0, d0, ds0, q0, s0, e0, rfl, rfl, h0, hA⟩ := trodAll_cons hA
  obtain ⟨rfl, rfl, rfl⟩ := trodAll_nil hA
  have ha : args = #[v0] := by cases args; simpa using e0
  subst ha
  obtain ⟨bs0, l0, p0, r0⟩ := open_bytes Try.underlying22 Try.underlying5 (by kernel_rfl) (plain_slice Try.underlying22 (hok 0 _ _ rfl rfl)) h0
  refine (law_call (args := [.ints .u8 bs0 (.arg 0)]) (vals := [v0]) FnNormalParts_sound (fun K hK => ⟨⟨l0, p0⟩, hK⟩) (fun j => slOf ([v0].getD j .nilFunc)) ⟨r0 _ 0 rfl, trivial⟩).mono fun e W' ⟨he, hk⟩ => ?_
  exact ⟨_, he, law_post laidOut (of_decide_eq_true (by kernel_rfl)) rfl rfl Try.underlying4 rfl hW' hk⟩
theorem FnNormalParts_holds : Rows.FnNormalPartsSaid :=
  OpenClaim.holds_of_wide 4 Try.f4 rfl rfl rfl rfl rfl rfl rfl ⟨rfl, rfl, rfl, rfl, rfl⟩ rfl rfl rfl rfl rfl (by kernel_rfl) Try.func4 (by kernel_rfl)
    (of_decide_eq_true (by kernel_rfl)) (by unfold Func.isWrapper; first | (rw [if_pos (by decide +kernel)]; kernel_rfl) | (rw [if_neg (by decide +kernel)]; exact ⟨rfl, rfl⟩))
    (fun os started H enc _ => FnNormalParts_lifted os started H enc)
end Go.Proofs.Ytmeplbnophmmdaa
namespace Go.Dk
open Go.Proofs
end Go.Dk
