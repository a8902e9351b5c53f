/- The laws' marks, read. -/
import Derived.Test.YteamklllllembaaDoorL0
namespace Go.Dk
set_option linter.unusedVariables false
open Go.Proofs
mutual
theorem T.mark_size : ∀ (t : T) (k : Int), (t.mark k).size = t.size
  | .mk k n ts, j => by simp only [T.mark, T.size, markL_size ts]
theorem markL_size : ∀ (ts : List T) (k : Int), sizeL (markL ts k) = sizeL ts
  | [], _ => rfl
  | t :: ts, k => by simp only [markL, sizeL, T.mark_size t, markL_size ts]
end
/-- laws.heldTermS -/
def cheldTermSM (m : Nat) : Con
  | [.slc ts (.arg 0), .int .i64 k], [], K => ((sizeL ts) < m ∧ ((0 ≤ k ∧ k + 2 * sizeL ts ≤ 1000000000000) ∧ (∃ us, ts = markL us k))) ∧ ((K (.int .i64 (k + 2 * sizeL ts)) []))
  | _, _, _ => False
def cheldTermS : Con
  | [.slc ts (.arg 0), .int .i64 k], [], K => ((0 ≤ k ∧ k + 2 * sizeL ts ≤ 1000000000000) ∧ (∃ us, ts = markL us k)) ∧ ((K (.int .i64 (k + 2 * sizeL ts)) []))
  | _, _, _ => False
theorem heldTermS_ok (m : Nat) (ts : List T) (k : Int) (K : AV → List AV → Prop) (hm : (sizeL ts) < m + 1) (hp : ((0 ≤ k ∧ k + 2 * sizeL ts ≤ 1000000000000) ∧ (∃ us, ts = markL us k))) (hk : ((K (.int .i64 (k + 2 * sizeL ts)) []))) :
    bodyQ [(30, cheldTermSM m)] TY [(2, { ι := Nat × Int, ok := fun x => x.1 ≤ ts.length ∧ 0 ≤ x.2 ∧ (∃ us, ts.drop x.1 = markL us x.2) ∧ x.2 + 2 * sizeL (ts.drop x.1) = k + 2 * sizeL ts, tl := fun x => [(0, (.slc ts (.arg (0 : Nat)))), (1, (.int .i64 x.2)), (5, (.int .i64 x.1))], hl := fun x => [], fh := fun x => [], μ := fun x => ts.length - x.1 })] Tryd.f30 (body Tryd.f30) [.slc ts (.arg 0), .int .i64 k] [] K := by
  refine of_vc (A :=
    ((∃ x : (Prod Nat Int),
     ((((Prod.fst x) ≤ (List.length ts)) ∧
     (((0 : Int) ≤ (Prod.snd x)) ∧
     ((∃ us : (List T), ((List.drop (Prod.fst x) ts) = (markL us (Prod.snd x)))) ∧
     (((Prod.snd x) + ((2 : Int) * (((sizeL (List.drop (Prod.fst x) ts)) : Nat) : Int))) = (k + ((2 : Int) * (((sizeL ts) : Nat) : Int))))))) ∧
     ((ts = ts) ∧ ((k = (Prod.snd x)) ∧ (((0 : Int) = (((Prod.fst x) : Nat) : Int)) ∧ True))))) ∧
     (∀ x : (Prod Nat Int),
     ((((Prod.fst x) ≤ (List.length ts)) ∧ (((0 : Int) ≤ (Prod.snd x)) ∧ ((∃ us : (List T), ((List.drop (Prod.fst x) ts) = (markL us (Prod.snd x)))) ∧ (((Prod.snd x) + ((2 : Int) * (((sizeL (List.drop (Prod.fst x) ts)) : Nat) : Int))) = (k + ((2 : Int) * (((sizeL ts) : Nat) : Int))))))) →
     (Br (Decidable.decide ((((Prod.fst x) : Nat) : Int) < (((List.length ts) : Nat) : Int)))
     ((((0 : Int) ≤ (((Prod.fst x) : Nat) : Int)) ∧ ((((Prod.fst x) : Nat) : Int) < (((List.length ts) : Nat) : Int))) ∧
     (Br (Decidable.decide ((T.k (List.getD ts (Int.toNat (((Prod.fst x) : Nat) : Int)) default)) ≠ (Prod.snd x)))
     (Ret K (.int .i64 (- (1 : Int))) [])
     ((InR ((Prod.snd x) + (1 : Int))) ∧
     ((((0 : Int) ≤ (((Prod.fst x) : Nat) : Int)) ∧ ((((Prod.fst x) : Nat) : Int) < (((List.length ts) : Nat) : Int))) ∧
     (Br (Decidable.decide ((T.n (List.getD ts (Int.toNat (((Prod.fst x) : Nat) : Int)) default)) ≠ ((Prod.snd x) + (1 : Int))))
     (Ret K (.int .i64 (- (1 : Int))) [])
     ((InR (((Prod.snd x) + (1 : Int)) + (1 : Int))) ∧
     ((((0 : Int) ≤ (((Prod.fst x) : Nat) : Int)) ∧ ((((Prod.fst x) : Nat) : Int) < (((List.length ts) : Nat) : Int))) ∧
     ((((sizeL (T.kids (List.getD ts (Int.toNat (((Prod.fst x) : Nat) : Int)) default))) < m) ∧
     ((((0 : Int) ≤ (((Prod.snd x) + (1 : Int)) + (1 : Int))) ∧
     (((((Prod.snd x) + (1 : Int)) + (1 : Int)) + ((2 : Int) * (((sizeL (T.kids (List.getD ts (Int.toNat (((Prod.fst x) : Nat) : Int)) default))) : Nat) : Int))) ≤ (1000000000000 : Int))) ∧
     (∃ us : (List T), ((T.kids (List.getD ts (Int.toNat (((Prod.fst x) : Nat) : Int)) default)) = (markL us (((Prod.snd x) + (1 : Int)) + (1 : Int))))))) ∧
     (Br (Decidable.decide (((((Prod.snd x) + (1 : Int)) + (1 : Int)) + ((2 : Int) * (((sizeL (T.kids (List.getD ts (Int.toNat (((Prod.fst x) : Nat) : Int)) default))) : Nat) : Int))) < (0 : Int)))
     (Ret K (.int .i64 (- (1 : Int))) [])
     ((InR ((((Prod.fst x) : Nat) : Int) + (1 : Int))) ∧
     (∃ y : (Prod Nat Int),
     ((((Prod.fst y) ≤ (List.length ts)) ∧
     (((0 : Int) ≤ (Prod.snd y)) ∧
     ((∃ us : (List T), ((List.drop (Prod.fst y) ts) = (markL us (Prod.snd y)))) ∧
     (((Prod.snd y) + ((2 : Int) * (((sizeL (List.drop (Prod.fst y) ts)) : Nat) : Int))) = (k + ((2 : Int) * (((sizeL ts) : Nat) : Int))))))) ∧
     ((ts = ts) ∧
     ((((((Prod.snd x) + (1 : Int)) + (1 : Int)) + ((2 : Int) * (((sizeL (T.kids (List.getD ts (Int.toNat (((Prod.fst x) : Nat) : Int)) default))) : Nat) : Int))) = (Prod.snd y)) ∧
     ((((((Prod.fst x) : Nat) : Int) + (1 : Int)) = (((Prod.fst y) : Nat) : Int)) ∧
     ((Nat.succ ((List.length ts) - (Prod.fst y))) ≤ ((List.length ts) - (Prod.fst x))))))))))))))))))
     (Ret K (.int .i64 (Prod.snd x)) [])))))) ?_ (by kernel_rfl)
  obtain ⟨⟨h0, h1⟩, hu⟩ := hp
  refine ⟨⟨(0, k), ⟨Nat.zero_le _, h0, hu, rfl⟩, (by repeat' first | trivial | rfl | (simp; done) | apply And.intro)⟩, ?_⟩
  rintro ⟨i, q⟩ ⟨g1, g2, ⟨us, g3⟩, g4⟩
  simp only at g1 g2 g3 g4
  have hl := length_le_sizeL ts
  refine br (fun h => ?_) (fun h => ?_)
  · have h := of_decide_eq_true h
    simp only at h
    have hi : i < ts.length := by omega
    have hd := drop_getD hi
    have hm' := sizeL_mem (getD_mem hi)
    rw [T.size_eq] at hm'
    cases us with
    | nil => rw [hd] at g3; cases g3
    | cons u us =>
      rw [hd, markL] at g3
      injection g3 with e1 e2
      have hs : sizeL (ts.drop i) = (u.mark q).size + sizeL (ts.drop (i + 1)) := by rw [hd, ← e1, sizeL]
      have ek : (ts.getD i default).k = q ∧ (ts.getD i default).n = q + 1 ∧ (ts.getD i default).kids = markL u.kids (q + 2) := by
        rw [e1]; cases u; exact ⟨rfl, rfl, rfl⟩
      have esz : (u.mark q).size = 1 + sizeL (markL u.kids (q + 2)) := by rw [T.size_eq]; congr 2; cases u; rfl
      have eu : u.size = 1 + sizeL (markL u.kids (q + 2)) := by rw [← esz, T.mark_size]
      rw [ek.2.2] at hm'
      simp only [Int.toNat_natCast, ek.1, ek.2.1, ek.2.2]
      rw [hs, esz] at g4
      refine ⟨⟨by omega, by omega⟩, br (fun h => absurd h (by simp)) (fun _ => ⟨by unfold InR; omega, ⟨by omega, by omega⟩, br (fun h => absurd h (by simp)) (fun _ => ⟨by unfold InR; omega, ⟨by omega, by omega⟩, ⟨by omega, ⟨by omega, by omega⟩, u.kids, by rw [show q + 1 + 1 = q + 2 by omega]⟩, br (fun h => ?_) (fun _ => ⟨by unfold InR; omega, (i + 1, q + 1 + 1 + 2 * sizeL (markL u.kids (q + 2))), ⟨by show i + 1 ≤ _; omega, ?_, ⟨us, ?_⟩, ?_⟩, (by first | trivial | rfl | (simp; done)), (by first | trivial | rfl | (simp; done)), by simp, by show Nat.succ (ts.length - (i + 1)) ≤ ts.length - i; omega⟩)⟩)⟩)⟩
      · have h := of_decide_eq_true h; omega
      · show 0 ≤ q + 1 + 1 + 2 * _; omega
      · show ts.drop (i + 1) = markL us _
        rw [e2]; congr 1; omega
      · show q + 1 + 1 + 2 * _ + 2 * ((sizeL (ts.drop (i + 1)) : Nat) : Int) = _; omega
  · have h := of_decide_eq_false h
    simp only at h
    have hi : ¬ i < ts.length := by omega
    rw [drop_len hi] at g4
    exact retI hk (by simp only [sizeL] at g4; omega)
theorem heldTermS_soundM : ∀ m : Nat, Sound Tryd.prog 30 (cheldTermSM m)
  | 0 => by
      refine soundF (G := []) gnil Tryd.func30 rfl (by kernel_rfl) fun args hs K hCC => ?_
      unfold cheldTermSM at hCC
      split at hCC
      case h_2 => exact hCC.elim
      exact absurd hCC.1.1 (Nat.not_lt_zero _)
  | m + 1 => by
      refine soundF (G := [(30, cheldTermSM m)]) ((gcons (heldTermS_soundM m) gnil)) Tryd.func30 rfl (by kernel_rfl) fun args hs K hCC => ?_
      unfold cheldTermSM at hCC
      split at hCC
      case h_2 => exact hCC.elim
      rename_i ts k
      exact ⟨Nat.le_of_ble_eq_true rfl, _, heldTermS_ok m ts k K hCC.1.1 hCC.1.2 hCC.2⟩
theorem heldTermS_sound : Sound Tryd.prog 30 cheldTermS := by
  refine sound_of_all (c := cheldTermSM) (fun m => (heldTermS_soundM m)) fun args hs K hCC => ?_
  unfold cheldTermS at hCC
  split at hCC
  case h_2 => exact hCC.elim
  exact ⟨_, ⟨Nat.lt_succ_self _, hCC.1⟩, hCC.2⟩
/-- laws.heldTerm -/
def cheldTerm : Con
  | [.st [.int .i64 k0, .int .i64 n0, .slc ts (.arg 0)], .int .i64 k], [], K => ((0 ≤ k ∧ k + 2 * sizeL ts ≤ 1000000000000) ∧ (∃ us, ts = markL us k)) ∧ ((K (.int .i64 (k + 2 * sizeL ts)) []))
  | _, _, _ => False
theorem heldTerm_ok (k0 n0 : Int) (ts : List T) (k : Int) (K : AV → List AV → Prop) (hp : ((0 ≤ k ∧ k + 2 * sizeL ts ≤ 1000000000000) ∧ (∃ us, ts = markL us k))) (hk : ((K (.int .i64 (k + 2 * sizeL ts)) []))) :
    bodyQ [(30, cheldTermS)] TY [] Tryd.f12 (body Tryd.f12) [.st [.int .i64 k0, .int .i64 n0, .slc ts (.arg 0)], .int .i64 k] [] K := by
  refine of_vc (A :=
    (((((0 : Int) ≤ k) ∧ ((k + ((2 : Int) * (((sizeL ts) : Nat) : Int))) ≤ (1000000000000 : Int))) ∧ (∃ us : (List T), (ts = (markL us k)))) ∧
     (Br (Decidable.decide ((k + ((2 : Int) * (((sizeL ts) : Nat) : Int))) < (0 : Int)))
     (Ret K (.int .i64 (- (1 : Int))) [])
     (Ret K (.int .i64 (k + ((2 : Int) * (((sizeL ts) : Nat) : Int)))) [])))) ?_ (by kernel_rfl)
  refine ⟨hp, br (fun h => ?_) (fun _ => retI hk rfl)⟩
  have h := of_decide_eq_true h
  omega
theorem heldTerm_sound : Sound Tryd.prog 12 cheldTerm := by
  refine soundF (G := [(30, cheldTermS)]) ((gcons heldTermS_sound gnil)) Tryd.func12 rfl (by kernel_rfl) fun args hs K hCC => ?_
  unfold cheldTerm at hCC
  split at hCC
  case h_2 => exact hCC.elim
  rename_i k0 n0 ts k
  exact ⟨Nat.le_of_ble_eq_true rfl, _, heldTerm_ok k0 n0 ts k K hCC.1 hCC.2⟩
end Go.Dk
