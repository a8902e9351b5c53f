/- laws.FnCountRedexes returns true and leaves its arguments as they were, for all arguments. -/
import Derived.Test.YtmeplbnophmmdaaLaw
import Derived.Test.YtmeplbnophmmdaaL0
import Derived.Test.YtmeplbnophmmdaaDr4
import Derived.Test.YtmeplbnophmmdaaL3
import Derived.Test.YtmeplbnophmmdaaL3s
namespace Go.Dk
set_option linter.unusedVariables false
open Go.Proofs
theorem brt {A B : Prop} (h : A) : Br true A B := br (fun _ => h) (fun h => nomatch h)
theorem brf {A B : Prop} (h : B) : Br false A B := br (fun h => nomatch h) (fun _ => h)
mutual
/-- No redexes: normal. -/
theorem T.crd_nrm : ∀ t : T, decide (t.crd = 0) = t.nrm
  | .mk k n ts => by
    have h := crdL_nrm ts
    have hr := crdL_range ts
    show decide ((if (T.mk k n ts).rdx ≠ 0 then (1 : Int) else 0) + crdL ts = 0) = (nrmL ts && decide ((T.mk k n ts).rdx = 0))
    rw [← h]
    by_cases h1 : (T.mk k n ts).rdx = 0
    · rw [if_neg (by simpa using h1), decide_eq_true h1, Bool.and_true, Int.zero_add]
    · rw [if_pos h1, decide_eq_false h1, Bool.and_false, decide_eq_false (by omega)]
theorem crdL_nrm : ∀ ts : List T, decide (crdL ts = 0) = nrmL ts
  | [] => rfl
  | t :: ts => by
    have h1 := t.crd_nrm
    have h2 := crdL_nrm ts
    have r1 := t.crd_range
    have r2 := crdL_range ts
    show decide (t.crd + crdL ts = 0) = (t.nrm && nrmL ts)
    rw [← h1, ← h2]
    by_cases a : t.crd = 0 <;> by_cases b : crdL ts = 0 <;> simp [a, b] <;> omega
end
/-- laws.FnCountRedexes -/
def cFnCountRedexes : Con
  | [.ints .u8 bs (.arg 0)], [], K => ((bs.length ≤ 9223372036854775807 ∧ Bs bs)) ∧ ((K (.bool true) []))
  | _, _, _ => False
theorem FnCountRedexes_ok (bs : List Int) (K : AV → List AV → Prop) (hp : ((bs.length ≤ 9223372036854775807 ∧ Bs bs))) (hk : ((K (.bool true) []))) :
    bodyQ [(16, cdCountRedexes), (17, cCountRedexes), (18, csCountRedexes), (14, cTermValid), (15, cRedexOf), (12, cNormalTerm)] TY [(9, { ι := T × Nat × Int, ok := fun x => x.1.valid = true ∧ x.2.1 ≤ x.1.kids.length ∧ 0 ≤ x.2.2 ∧ x.2.2 + crdL (x.1.kids.drop x.2.1) = crdL x.1.kids, tl := fun x => [(3, .ptr 3), (4, .int .i64 x.1.crd), (5, .int .i64 x.2.2), (6, .int .i64 x.2.1)], hl := fun x => [(3, x.1.av .any)], fh := fun _ => [], μ := fun x => x.1.kids.length - x.2.1 })] Try.f5 (body Try.f5) [.ints .u8 bs (.arg 0)] [] K := by
  refine of_vc (A :=
    (Br (Decidable.decide ((1048576 : Int) < (((List.length bs) : Nat) : Int)))
     (Ret K (.bool true) [])
     ((Bs bs) ∧
     (∀ t : T,
     (((T.size t) ≤ (3000 : Nat)) →
     (True ∧
     (True ∧
     (Br (Decidable.decide ((if ((T.valid (T.mk (T.k t) (T.n t) (T.kids t))) = true) then (T.crd (T.mk (T.k t) (T.n t) (T.kids t))) else (0 : Int)) ≠ (if ((T.valid (T.mk (T.k t) (T.n t) (T.kids t))) = true) then (T.crd (T.mk (T.k t) (T.n t) (T.kids t))) else (0 : Int))))
     (True ∧
     (Ret K (.bool (Decidable.decide ((if ((T.valid (T.mk (T.k t) (T.n t) (T.kids t))) = true) then (T.crd (T.mk (T.k t) (T.n t) (T.kids t))) else (0 : Int)) = (if ((T.valid (T.mk (T.k t) (T.n t) (T.kids t))) = true) then (T.crd (T.mk (T.k t) (T.n t) (T.kids t))) else (0 : Int))))) []))
     (True ∧
     (Br (Bool.not (T.valid (T.mk (T.k t) (T.n t) (T.kids t))))
     (True ∧
     (Ret K (.bool (Decidable.decide ((if ((T.valid (T.mk (T.k t) (T.n t) (T.kids t))) = true) then (T.crd (T.mk (T.k t) (T.n t) (T.kids t))) else (0 : Int)) = (if ((T.valid (T.mk (T.k t) (T.n t) (T.kids t))) = true) then (T.crd (T.mk (T.k t) (T.n t) (T.kids t))) else (0 : Int))))) []))
     ((∃ x : (Prod T (Prod Nat Int)),
     ((((T.valid (Prod.fst x)) = true) ∧
     (((Prod.fst (Prod.snd x)) ≤ (List.length (T.kids (Prod.fst x)))) ∧
     (((0 : Int) ≤ (Prod.snd (Prod.snd x))) ∧
     (((Prod.snd (Prod.snd x)) + (crdL (List.drop (Prod.fst (Prod.snd x)) (T.kids (Prod.fst x))))) = (crdL (T.kids (Prod.fst x))))))) ∧
     (((if ((T.valid (T.mk (T.k t) (T.n t) (T.kids t))) = true) then (T.crd (T.mk (T.k t) (T.n t) (T.kids t))) else (0 : Int)) = (T.crd (Prod.fst x))) ∧
     (((0 : Int) = (Prod.snd (Prod.snd x))) ∧
     (((0 : Int) = (((Prod.fst (Prod.snd x)) : Nat) : Int)) ∧
     (((T.k t) = (T.k (Prod.fst x))) ∧ (((T.n t) = (T.n (Prod.fst x))) ∧ (((T.kids t) = (T.kids (Prod.fst x))) ∧ True)))))))) ∧
     (∀ x : (Prod T (Prod Nat Int)),
     ((((T.valid (Prod.fst x)) = true) ∧ (((Prod.fst (Prod.snd x)) ≤ (List.length (T.kids (Prod.fst x)))) ∧ (((0 : Int) ≤ (Prod.snd (Prod.snd x))) ∧ (((Prod.snd (Prod.snd x)) + (crdL (List.drop (Prod.fst (Prod.snd x)) (T.kids (Prod.fst x))))) = (crdL (T.kids (Prod.fst x))))))) →
     (Br (Decidable.decide ((((Prod.fst (Prod.snd x)) : Nat) : Int) < (((List.length (T.kids (Prod.fst x))) : Nat) : Int)))
     ((((0 : Int) ≤ (((Prod.fst (Prod.snd x)) : Nat) : Int)) ∧ ((((Prod.fst (Prod.snd x)) : Nat) : Int) < (((List.length (T.kids (Prod.fst x))) : Nat) : Int))) ∧
     (True ∧
     ((InR ((Prod.snd (Prod.snd x)) + (if ((T.valid (T.mk (T.k (List.getD (T.kids (Prod.fst x)) (Int.toNat (((Prod.fst (Prod.snd x)) : Nat) : Int)) default)) (T.n (List.getD (T.kids (Prod.fst x)) (Int.toNat (((Prod.fst (Prod.snd x)) : Nat) : Int)) default)) (T.kids (List.getD (T.kids (Prod.fst x)) (Int.toNat (((Prod.fst (Prod.snd x)) : Nat) : Int)) default)))) = true) then (T.crd (T.mk (T.k (List.getD (T.kids (Prod.fst x)) (Int.toNat (((Prod.fst (Prod.snd x)) : Nat) : Int)) default)) (T.n (List.getD (T.kids (Prod.fst x)) (Int.toNat (((Prod.fst (Prod.snd x)) : Nat) : Int)) default)) (T.kids (List.getD (T.kids (Prod.fst x)) (Int.toNat (((Prod.fst (Prod.snd x)) : Nat) : Int)) default)))) else (0 : Int)))) ∧
     ((InR ((((Prod.fst (Prod.snd x)) : Nat) : Int) + (1 : Int))) ∧
     (∃ y : (Prod T (Prod Nat Int)),
     ((((T.valid (Prod.fst y)) = true) ∧
     (((Prod.fst (Prod.snd y)) ≤ (List.length (T.kids (Prod.fst y)))) ∧
     (((0 : Int) ≤ (Prod.snd (Prod.snd y))) ∧
     (((Prod.snd (Prod.snd y)) + (crdL (List.drop (Prod.fst (Prod.snd y)) (T.kids (Prod.fst y))))) = (crdL (T.kids (Prod.fst y))))))) ∧
     (((T.crd (Prod.fst x)) = (T.crd (Prod.fst y))) ∧
     ((((Prod.snd (Prod.snd x)) + (if ((T.valid (T.mk (T.k (List.getD (T.kids (Prod.fst x)) (Int.toNat (((Prod.fst (Prod.snd x)) : Nat) : Int)) default)) (T.n (List.getD (T.kids (Prod.fst x)) (Int.toNat (((Prod.fst (Prod.snd x)) : Nat) : Int)) default)) (T.kids (List.getD (T.kids (Prod.fst x)) (Int.toNat (((Prod.fst (Prod.snd x)) : Nat) : Int)) default)))) = true) then (T.crd (T.mk (T.k (List.getD (T.kids (Prod.fst x)) (Int.toNat (((Prod.fst (Prod.snd x)) : Nat) : Int)) default)) (T.n (List.getD (T.kids (Prod.fst x)) (Int.toNat (((Prod.fst (Prod.snd x)) : Nat) : Int)) default)) (T.kids (List.getD (T.kids (Prod.fst x)) (Int.toNat (((Prod.fst (Prod.snd x)) : Nat) : Int)) default)))) else (0 : Int))) = (Prod.snd (Prod.snd y))) ∧
     ((((((Prod.fst (Prod.snd x)) : Nat) : Int) + (1 : Int)) = (((Prod.fst (Prod.snd y)) : Nat) : Int)) ∧
     (((T.k (Prod.fst x)) = (T.k (Prod.fst y))) ∧
     (((T.n (Prod.fst x)) = (T.n (Prod.fst y))) ∧
     (((T.kids (Prod.fst x)) = (T.kids (Prod.fst y))) ∧
     ((Nat.succ ((List.length (T.kids (Prod.fst y))) - (Prod.fst (Prod.snd y)))) ≤ ((List.length (T.kids (Prod.fst x))) - (Prod.fst (Prod.snd x))))))))))))))))
     (True ∧
     (Br (Decidable.decide ((if ((T.valid (T.mk (T.k (Prod.fst x)) (T.n (Prod.fst x)) (T.kids (Prod.fst x)))) = true) then (T.rdx (T.mk (T.k (Prod.fst x)) (T.n (Prod.fst x)) (T.kids (Prod.fst x)))) else (0 : Int)) ≠ (0 : Int)))
     ((InR ((Prod.snd (Prod.snd x)) + (1 : Int))) ∧
     (Br (Decidable.decide ((T.crd (Prod.fst x)) = ((Prod.snd (Prod.snd x)) + (1 : Int))))
     (True ∧
     (Ret K (.bool (BEq.beq (Decidable.decide ((T.crd (Prod.fst x)) = (0 : Int))) (Bool.and (T.valid (T.mk (T.k (Prod.fst x)) (T.n (Prod.fst x)) (T.kids (Prod.fst x)))) (T.nrm (T.mk (T.k (Prod.fst x)) (T.n (Prod.fst x)) (T.kids (Prod.fst x))))))) []))
     (Ret K (.bool false) [])))
     (Br (Decidable.decide ((T.crd (Prod.fst x)) = (Prod.snd (Prod.snd x))))
     (True ∧
     (Ret K (.bool (BEq.beq (Decidable.decide ((T.crd (Prod.fst x)) = (0 : Int))) (Bool.and (T.valid (T.mk (T.k (Prod.fst x)) (T.n (Prod.fst x)) (T.kids (Prod.fst x)))) (T.nrm (T.mk (T.k (Prod.fst x)) (T.n (Prod.fst x)) (T.kids (Prod.fst x))))))) []))
     (Ret K (.bool false) [])))))))))))))))))) ?_ (by kernel_rfl)
  refine br (fun _ => retB hk rfl) (fun _ => ⟨hp.2, fun t ht => ?_⟩)
  simp only [T.eta]
  refine ⟨trivial, trivial, brd (fun h => absurd rfl h) (fun _ => ⟨trivial, br (fun _ => ⟨trivial, retB hk (by simp)⟩) (fun hv => ⟨?_, ?_⟩)⟩)⟩
  · have hv : t.valid = true := by simpa using hv
    exact ⟨(t, 0, 0), ⟨hv, Nat.zero_le _, Int.le_refl 0, Int.zero_add _⟩, by rw [if_pos hv], rfl, rfl, rfl, rfl, rfl, trivial⟩
  rintro ⟨u, i, sum⟩ ⟨g1, g2, g3, g4⟩
  simp only at g1 g2 g3 g4
  have hl := length_le_sizeL u.kids
  have hz := T.valid_size g1
  have hu := u.size_eq
  have hr := crdL_range u.kids
  have hc : u.crd = (if u.rdx ≠ 0 then 1 else 0) + crdL u.kids := by cases u; rfl
  simp only [Int.toNat_natCast, g1, if_true]
  refine brd (fun h => ?_) (fun h => ?_)
  · have hi : i < u.kids.length := by omega
    have hr2 := crdL_range (u.kids.drop (i + 1))
    have hr3 := (u.kids.getD i default).crd_range
    rw [crdL_drop hi] at g4
    rw [if_pos (T.valid_kid g1 (getD_mem hi))]
    exact ⟨⟨by omega, by omega⟩, trivial, by unfold InR; omega, by unfold InR; omega, (u, i + 1, _), ⟨g1, hi, by show 0 ≤ sum + (u.kids.getD i default).crd; omega, by show sum + (u.kids.getD i default).crd + crdL (u.kids.drop (i + 1)) = crdL u.kids; omega⟩, rfl, rfl, rfl, rfl, rfl, rfl, by show Nat.succ (u.kids.length - (i + 1)) ≤ u.kids.length - i; omega⟩
  · have hi : ¬ i < u.kids.length := by omega
    rw [drop_len hi] at g4
    have e : crdL [] = 0 := rfl
    rw [e] at g4
    have fin' : Ret K (.bool (decide (u.crd = 0) == (true && u.nrm))) [] := retB hk (by rw [T.crd_nrm, Bool.true_and, beq_self_eq_true])
    refine ⟨trivial, brd (fun h => ⟨by unfold InR; omega, brd (fun _ => ⟨trivial, fin'⟩) (fun h2 => ?_)⟩) (fun h => brd (fun _ => ⟨trivial, fin'⟩) (fun h2 => ?_))⟩
    · rw [if_pos h] at hc; omega
    · rw [if_neg h] at hc; omega
theorem FnCountRedexes_sound : Sound Try.prog 5 cFnCountRedexes := by
  refine soundF (G := [(16, cdCountRedexes), (17, cCountRedexes), (18, csCountRedexes), (14, cTermValid), (15, cRedexOf), (12, cNormalTerm)]) ((gcons dCountRedexes_sound (gcons CountRedexes_sound (gcons sCountRedexes_sound (gcons TermValid_sound (gcons RedexOf_sound (gcons NormalTerm_sound gnil))))))) Try.func5 rfl (by kernel_rfl) fun args hs K hCC => ?_
  unfold cFnCountRedexes at hCC
  split at hCC
  case h_2 => exact hCC.elim
  rename_i bs
  exact ⟨Nat.le_of_ble_eq_true rfl, _, FnCountRedexes_ok bs K hCC.1 hCC.2⟩
end Go.Dk
namespace Go.Proofs.Ytmeplbnophmmdaa
open Go.ChangeShapes Go.WideShapes Go.RowKit Go.Dk Go.Proofs
set_option linter.unusedVariables false
set_option maxRecDepth 100000 in
theorem FnCountRedexes_lifted (os : Os) (started : os.Started) (H : Type) (enc : TypeId × Value → H) :
    ReturnsInHanded {} Try.checked os 5 .any (Rows.fnCountRedexesSpec.pre6 enc Try.prog Try.f5 Rows.fnCountRedexesRow.domain false) (Rows.fnCountRedexesSpec.post enc Try.prog Try.f5 false true false false) := by
  refine returnsInHanded_of_change (C := Try.checked) own started (by kernel_rfl) Try.func5
    (ChangeSpec.witness6 (enc := enc) (C := Try.checked) false ⟨#[], #[.slice none 0 0], []⟩ 8 (by kernel_rfl) (by kernel_rfl) (by kernel_rfl) (by kernel_rfl)) ?_
  intro W base args ds gs before hok hW _ _
  have hW' := hW
  obtain ⟨p, q, hA, hV, rfl, hfz, hnd⟩ := hW
  rw [Try.params5] at hA
  obtain ⟨rfl, rfl⟩ := trodVars_none hV
  obtain ⟨v0, vs0, d0, ds0, q0, s0, e0, rfl, rfl, h0, hA⟩ := trodAll_cons hA
  obtain ⟨rfl, rfl, rfl⟩ := trodAll_nil hA
  have ha : args = #[v0] := by cases args; simpa using e0
  subst ha
  obtain ⟨bs0, l0, p0, r0⟩ := open_bytes Try.underlying22 Try.underlying5 (by kernel_rfl) (plain_slice Try.underlying22 (hok 0 _ _ rfl rfl)) h0
  refine (law_call (args := [.ints .u8 bs0 (.arg 0)]) (vals := [v0]) FnCountRedexes_sound (fun K hK => ⟨⟨l0, p0⟩, hK⟩) (fun j => slOf ([v0].getD j .nilFunc)) ⟨r0 _ 0 rfl, trivial⟩).mono fun e W' ⟨he, hk⟩ => ?_
  exact ⟨_, he, law_post laidOut (of_decide_eq_true (by kernel_rfl)) rfl rfl Try.underlying4 rfl hW' hk⟩
theorem FnCountRedexes_holds : Rows.FnCountRedexesSaid :=
  OpenClaim.holds_of_wide 5 Try.f5 rfl rfl rfl rfl rfl rfl rfl ⟨rfl, rfl, rfl, rfl, rfl⟩ rfl rfl rfl rfl rfl (by kernel_rfl) Try.func5 (by kernel_rfl)
    (of_decide_eq_true (by kernel_rfl)) (by unfold Func.isWrapper; first | (rw [if_pos (by decide +kernel)]; kernel_rfl) | (rw [if_neg (by decide +kernel)]; exact ⟨rfl, rfl⟩))
    (fun os started H enc _ => FnCountRedexes_lifted os started H enc)
end Go.Proofs.Ytmeplbnophmmdaa
namespace Go.Dk
open Go.Proofs
end Go.Dk
