/- laws.FnTermParts returns true and leaves its arguments as they were, for all arguments. -/
import Derived.Test.YtlfddfmoifjenaaDr
import Derived.Test.YtlfddfmoifjenaaL0
namespace Go.Dk
set_option linter.unusedVariables false
open Go.Proofs
/-- laws.FnTermParts -/
def cFnTermParts : Con
  | [.ints .u8 bs (.arg 0)], [], K => ((bs.length ≤ 9223372036854775807 ∧ Bs bs)) ∧ ((K (.bool true) []))
  | _, _, _ => False
theorem FnTermParts_ok (bs : List Int) (K : AV → List AV → Prop) (hp : ((bs.length ≤ 9223372036854775807 ∧ Bs bs))) (hk : ((K (.bool true) []))) :
    bodyP [(34, cdTermValid), (26, cTermValid), (25, csTermValid)] TY [(8, { ι := T × Nat, ok := fun x => x.1.valid = true ∧ x.2 ≤ x.1.kids.length, tl := fun x => [(3, .ptr 3), (5, .int .i64 x.2)], hl := fun x => [(3, x.1.av .any)], fh := fun _ => [], μ := fun x => x.1.kids.length - x.2 })] Try.f13 (body Try.f13) [.ints .u8 bs (.arg 0)] [] K := by
  refine of_vc (A :=
      (Br (Decidable.decide ((1048576 : Int) < (((List.length bs) : Nat) : Int)))
        (Ret K (.bool true) [])
        ((Bs bs) ∧
         (∀ t : T,
           (((T.size t) ≤ (1000 : Nat)) →
            (True ∧
             (True ∧
              (Br (bne (T.valid (T.mk (T.k t) (T.n t) (T.kids t))) (T.valid (T.mk (T.k t) (T.n t) (T.kids t))))
                (True ∧ (Ret K (.bool (BEq.beq (T.valid (T.mk (T.k t) (T.n t) (T.kids t))) (T.valid (T.mk (T.k t) (T.n t) (T.kids t))))) []))
                (Br (Bool.not (T.valid (T.mk (T.k t) (T.n t) (T.kids t))))
                  (True ∧ (Ret K (.bool (BEq.beq (T.valid (T.mk (T.k t) (T.n t) (T.kids t))) (T.valid (T.mk (T.k t) (T.n t) (T.kids t))))) []))
                  ((∃ x : (Prod T Nat),
                     ((((T.valid (Prod.fst x)) = true) ∧ ((Prod.snd x) ≤ (List.length (T.kids (Prod.fst x))))) ∧
                      (((0 : Int) = (((Prod.snd x) : Nat) : Int)) ∧
                       (((T.k t) = (T.k (Prod.fst x))) ∧ (((T.n t) = (T.n (Prod.fst x))) ∧ (((T.kids t) = (T.kids (Prod.fst x))) ∧ True)))))) ∧
                   (∀ x : (Prod T Nat),
                     ((((T.valid (Prod.fst x)) = true) ∧ ((Prod.snd x) ≤ (List.length (T.kids (Prod.fst x))))) →
                      (Br (Decidable.decide ((((Prod.snd x) : Nat) : Int) < (((List.length (T.kids (Prod.fst x))) : Nat) : Int)))
                        ((((0 : Int) ≤ (((Prod.snd x) : Nat) : Int)) ∧ ((((Prod.snd x) : Nat) : Int) < (((List.length (T.kids (Prod.fst x))) : Nat) : Int))) ∧
                         (True ∧
                          (Br (Bool.not (T.valid (T.mk (T.k (List.getD (T.kids (Prod.fst x)) (Int.toNat (((Prod.snd x) : Nat) : Int)) (default : T))) (T.n (List.getD (T.kids (Prod.fst x)) (Int.toNat (((Prod.snd x) : Nat) : Int)) (default : T))) (T.kids (List.getD (T.kids (Prod.fst x)) (Int.toNat (((Prod.snd x) : Nat) : Int)) (default : T))))))
                            (Ret K (.bool false) [])
                            ((InR ((((Prod.snd x) : Nat) : Int) + (1 : Int))) ∧
                             (∃ y : (Prod T Nat),
                               ((((T.valid (Prod.fst y)) = true) ∧ ((Prod.snd y) ≤ (List.length (T.kids (Prod.fst y))))) ∧
                                ((((((Prod.snd x) : Nat) : Int) + (1 : Int)) = (((Prod.snd y) : Nat) : Int)) ∧
                                 (((T.k (Prod.fst x)) = (T.k (Prod.fst y))) ∧
                                  (((T.n (Prod.fst x)) = (T.n (Prod.fst y))) ∧
                                   (((T.kids (Prod.fst x)) = (T.kids (Prod.fst y))) ∧
                                    ((Nat.succ ((List.length (T.kids (Prod.fst y))) - (Prod.snd y))) ≤ ((List.length (T.kids (Prod.fst x))) - (Prod.snd x)))))))))))))
                        ((((0 : Int) + (((List.length (T.kids (Prod.fst x))) : Nat) : Int)) ≤ (1099511627776 : Int)) ∧
                         (([(T.mk (7 : Int) (0 : Int) ([] : List T))] = [(T.mk (7 : Int) (0 : Int) ([] : List T))]) ∧
                          (((7 : Int) = (7 : Int)) ∧
                           (((0 : Int) = (0 : Int)) ∧
                            ((([] : List T) = ([] : List T)) ∧
                             (((T.n (Prod.fst x)) = (T.n (Prod.fst x))) ∧
                              (((T.k (Prod.fst x)) = (T.k (Prod.fst x))) ∧
                               ((((((List.length (([] : List T) ++ (T.kids (Prod.fst x)))) : Nat) : Int) + (1 : Int)) ≤ (1099511627776 : Int)) ∧
                                (((T.n (Prod.fst x)) = (T.n (Prod.fst x))) ∧
                                 (((T.k (Prod.fst x)) = (T.k (Prod.fst x))) ∧
                                  (True ∧
                                   (Ret K (.bool (Bool.not (T.valid (T.mk (T.k (Prod.fst x)) (T.n (Prod.fst x)) ((([] : List T) ++ (T.kids (Prod.fst x))) ++ [(T.mk (7 : Int) (0 : Int) ([] : List T))]))))) []))))))))))))))))))))))))) ?_ (by kernel_rfl)
  refine br (fun _ => retB hk rfl) (fun _ => ⟨hp.2, fun t ht => ⟨trivial, trivial, br (fun h => absurd h (by simp)) (fun _ => br (fun _ => ⟨trivial, retB hk (by simp)⟩) (fun hv => ?_))⟩⟩)
  rw [T.eta] at hv
  have hv : t.valid = true := by simpa using hv
  refine ⟨⟨(t, 0), ⟨hv, Nat.zero_le _⟩, (by repeat' first | trivial | rfl | (simp; done) | apply And.intro)⟩, ?_⟩
  rintro ⟨u, i⟩ ⟨g1, g2⟩
  simp only at g1 g2
  have hl := length_le_sizeL u.kids
  have hz := T.valid_size g1
  rw [T.size_eq] at hz
  refine br (fun h => ?_) (fun h => ?_)
  · have h := of_decide_eq_true h
    simp only at h
    have hi : i < u.kids.length := by omega
    have hk' := T.valid_kid g1 (getD_mem hi)
    simp only [Int.toNat_natCast, T.eta, hk']
    exact ⟨⟨by omega, by omega⟩, trivial, br (fun h => absurd h (by decide)) (fun _ => ⟨by unfold InR; omega, (u, i + 1), ⟨g1, by show i + 1 ≤ u.kids.length; omega⟩, (by first | trivial | rfl | (simp; done)), (by first | trivial | rfl | (simp; done)), (by first | trivial | rfl | (simp; done)), (by first | trivial | rfl | (simp; done)), by show Nat.succ (u.kids.length - (i + 1)) ≤ u.kids.length - i; omega⟩)⟩
  · refine ⟨by show (0 : Int) + (u.kids.length : Int) ≤ _; omega, (by first | trivial | rfl | (simp; done)), (by first | trivial | rfl | (simp; done)), (by first | trivial | rfl | (simp; done)), (by first | trivial | rfl | (simp; done)), (by first | trivial | rfl | (simp; done)), (by first | trivial | rfl | (simp; done)), by show (((([] : List T) ++ u.kids).length : Nat) : Int) + 1 ≤ _; simp; omega, (by first | trivial | rfl | (simp; done)), (by first | trivial | rfl | (simp; done)), trivial, retB hk ?_⟩
    cases hw : (T.mk u.k u.n (([] : List T) ++ u.kids ++ [.mk 7 0 []])).valid with
    | false => rfl
    | true =>
      have h1 := (T.shp_root (T.valid_shp hw)).1
      rw [← T.eta u] at g1
      have h2 := (T.shp_root (T.valid_shp g1)).1
      simp at h1
      omega
theorem FnTermParts_sound : Sound Try.prog 13 cFnTermParts := by
  refine soundF (G := [(34, cdTermValid), (26, cTermValid), (25, csTermValid)]) ((gcons dTermValid_sound (gcons TermValid_sound (gcons sTermValid_sound gnil)))) Try.func13 rfl (by kernel_rfl) fun args hs K h => ?_
  unfold cFnTermParts at h
  split at h
  case h_2 => exact h.elim
  rename_i bs
  exact ⟨Nat.le_of_ble_eq_true rfl, _, FnTermParts_ok bs K h.1 h.2⟩
end Go.Dk
namespace Go.Proofs.Ytlfddfmoifjenaa
open Go.ChangeShapes Go.WideShapes Go.RowKit Go.Dk Go.Proofs
set_option linter.unusedVariables false
theorem FnTermParts_lifted (os : Os) (started : os.Started) (H : Type) (enc : TypeId × Value → H) :
    ReturnsInHanded {} Try.checked os 13 .any (Rows.fnTermPartsSpec.pre6 enc Try.prog Try.f13 Rows.fnTermPartsRow.domain false) (Rows.fnTermPartsSpec.post enc Try.prog Try.f13 false true false false) := by
  refine returnsInHanded_of_change (C := Try.checked) own started (by kernel_rfl) Try.func13
    (ChangeSpec.witness6 (enc := enc) (C := Try.checked) false ⟨#[], #[.slice none 0 0], []⟩ 8 (by kernel_rfl) (by kernel_rfl) (by kernel_rfl) (by kernel_rfl)) ?_
  intro W base args ds gs before hok hW _ _
  have hW' := hW
  obtain ⟨p, q, hA, hV, rfl, hfz, hnd⟩ := hW
  rw [Try.params13] at hA
  obtain ⟨rfl, rfl⟩ := trodVars_none hV
  obtain ⟨v0, vs0, d0, ds0, q0, s0, e0, rfl, rfl, h0, hA⟩ := trodAll_cons hA
  obtain ⟨rfl, rfl, rfl⟩ := trodAll_nil hA
  have ha : args = #[v0] := by cases args; simpa using e0
  subst ha
  obtain ⟨bs0, l0, p0, r0⟩ := open_bytes Try.underlying23 Try.underlying5 (by kernel_rfl) (plain_slice Try.underlying23 (hok 0 _ _ rfl rfl)) h0
  refine (law_call (args := [.ints .u8 bs0 (.arg 0)]) (vals := [v0]) FnTermParts_sound (fun K hK => ⟨⟨l0, p0⟩, hK⟩) (fun j => slOf ([v0].getD j .nilFunc)) ⟨r0 _ 0 rfl, trivial⟩).mono fun e W' ⟨he, hk⟩ => ?_
  exact ⟨_, he, law_post laidOut (of_decide_eq_true (by kernel_rfl)) rfl rfl Try.underlying4 rfl hW' hk⟩
theorem FnTermParts_holds : Rows.FnTermPartsSaid :=
  OpenClaim.holds_of_wide 13 Try.f13 rfl rfl rfl rfl rfl rfl rfl ⟨rfl, rfl, rfl, rfl, rfl⟩ rfl rfl rfl rfl rfl (by kernel_rfl) Try.func13 (by kernel_rfl)
    (of_decide_eq_true (by kernel_rfl)) (by unfold Func.isWrapper; first | (rw [if_pos (by decide +kernel)]; kernel_rfl) | (rw [if_neg (by decide +kernel)]; exact ⟨rfl, rfl⟩))
    (fun os started H enc _ => FnTermParts_lifted os started H enc)
end Go.Proofs.Ytlfddfmoifjenaa
namespace Go.Dk
open Go.Proofs
end Go.Dk
