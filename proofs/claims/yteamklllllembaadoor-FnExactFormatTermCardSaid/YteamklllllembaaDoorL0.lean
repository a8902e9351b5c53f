/- The laws' helpers: sizes, copies, equality. -/
import Derived.Test.YteamklllllembaaDoorTm
namespace Go.Dk
set_option linter.unusedVariables false
open Go.Proofs
@[reducible] def szI (b : Nat) (left : Int) : Int := if (b : Int) ≤ left then left - b else -1
theorem szI_ok {b : Nat} {l : Int} (h : ¬ szI b l < 0) (hl : 0 ≤ l) : (b : Int) ≤ l ∧ szI b l = l - b := by
  unfold szI at *; split at h
  · rename_i h'; exact ⟨h', if_pos h'⟩
  · omega
/-- laws.szTerm -/
def cszTermM (m : Nat) : Con
  | [.st [.int .i64 k, .int .i64 n, .slc ts (.arg 0)], .int .i64 left], [], K => ((2 * (1 + sizeL ts)) < m ∧ ((ts.length ≤ 9223372036854775807 ∧ fitsL ts) ∧ (0 ≤ left ∧ left ≤ 1048576))) ∧ ((K (.int .i64 (szI (sizeL ts) left)) []))
  | _, _, _ => False
def cszTerm : Con
  | [.st [.int .i64 k, .int .i64 n, .slc ts (.arg 0)], .int .i64 left], [], K => ((ts.length ≤ 9223372036854775807 ∧ fitsL ts) ∧ (0 ≤ left ∧ left ≤ 1048576)) ∧ ((K (.int .i64 (szI (sizeL ts) left)) []))
  | _, _, _ => False
/-- laws.szTermS -/
def cszTermSM (m : Nat) : Con
  | [.slc ts (.arg 0), .int .i64 left], [], K => ((2 * sizeL ts + 1) < m ∧ ((ts.length ≤ 9223372036854775807 ∧ fitsL ts) ∧ (0 ≤ left ∧ left ≤ 1048576))) ∧ ((K (.int .i64 (szI (sizeL ts) left)) []))
  | _, _, _ => False
def cszTermS : Con
  | [.slc ts (.arg 0), .int .i64 left], [], K => ((ts.length ≤ 9223372036854775807 ∧ fitsL ts) ∧ (0 ≤ left ∧ left ≤ 1048576)) ∧ ((K (.int .i64 (szI (sizeL ts) left)) []))
  | _, _, _ => False
theorem szTerm_ok (m : Nat) (k n : Int) (ts : List T) (left : Int) (K : AV → List AV → Prop) (hm : (2 * (1 + sizeL ts)) < m + 1) (hp : ((ts.length ≤ 9223372036854775807 ∧ fitsL ts) ∧ (0 ≤ left ∧ left ≤ 1048576))) (hk : ((K (.int .i64 (szI (sizeL ts) left)) []))) :
    bodyQ [(22, cszTermM m), (42, cszTermSM m)] TY [] Tryd.f22 (body Tryd.f22) [.st [.int .i64 k, .int .i64 n, .slc ts (.arg 0)], .int .i64 left] [] K := by
  refine of_vc (A :=
    ((((((2 : Nat) * (sizeL ts)) + (1 : Nat)) < m) ∧
     ((((List.length ts) ≤ (9223372036854775807 : Nat)) ∧ (fitsL ts)) ∧ (((0 : Int) ≤ left) ∧ (left ≤ (1048576 : Int))))) ∧
     (Br (Decidable.decide ((szI (sizeL ts) left) < (0 : Int))) (Ret K (.int .i64 (- (1 : Int))) []) (Ret K (.int .i64 (szI (sizeL ts) left)) [])))) ?_ (by kernel_rfl)
  obtain ⟨⟨h1, h2⟩, h3, h4⟩ := hp
  refine ⟨⟨by omega, ⟨h1, h2⟩, h3, h4⟩, br (fun h => ?_) (fun h => ?_)⟩
  · refine retI hk ?_
    have h : szI (sizeL ts) left < 0 := by simpa using h
    unfold szI at h ⊢; split at h
    · omega
    · rw [if_neg (by assumption)]
  · exact retI hk rfl
theorem szTermS_ok (m : Nat) (ts : List T) (left : Int) (K : AV → List AV → Prop) (hm : (2 * sizeL ts + 1) < m + 1) (hp : ((ts.length ≤ 9223372036854775807 ∧ fitsL ts) ∧ (0 ≤ left ∧ left ≤ 1048576))) (hk : ((K (.int .i64 (szI (sizeL ts) left)) []))) :
    bodyQ [(22, cszTermM m), (42, cszTermSM m)] TY [(5, { ι := Nat × Int, ok := fun x => x.1 ≤ ts.length ∧ 0 ≤ x.2 ∧ x.2 ≤ 1048576 ∧ x.2 - belL (ts.drop x.1) = left - sizeL ts, tl := fun x => [(0, .slc ts (.arg 0)), (1, .int .i64 x.2), (5, .int .i64 x.1)], hl := fun _ => [], fh := fun _ => [], μ := fun x => ts.length - x.1 })] Tryd.f42 (body Tryd.f42) [.slc ts (.arg 0), .int .i64 left] [] K := by
  refine of_vc (A :=
    ((InR (left - (((List.length ts) : Nat) : Int))) ∧
     (Br (Decidable.decide ((left - (((List.length ts) : Nat) : Int)) < (0 : Int)))
     (Ret K (.int .i64 (- (1 : Int))) [])
     ((∃ x : (Prod Nat Int),
     ((((Prod.fst x) ≤ (List.length ts)) ∧
     (((0 : Int) ≤ (Prod.snd x)) ∧
     (((Prod.snd x) ≤ (1048576 : Int)) ∧ (((Prod.snd x) - (((belL (List.drop (Prod.fst x) ts)) : Nat) : Int)) = (left - (((sizeL ts) : Nat) : Int)))))) ∧
     ((ts = ts) ∧ (((left - (((List.length ts) : Nat) : Int)) = (Prod.snd x)) ∧ (((0 : Int) = (((Prod.fst x) : Nat) : Int)) ∧ True))))) ∧
     (∀ x : (Prod Nat Int),
     ((((Prod.fst x) ≤ (List.length ts)) ∧ (((0 : Int) ≤ (Prod.snd x)) ∧ (((Prod.snd x) ≤ (1048576 : Int)) ∧ (((Prod.snd x) - (((belL (List.drop (Prod.fst x) ts)) : Nat) : Int)) = (left - (((sizeL ts) : Nat) : Int)))))) →
     (Br (Decidable.decide ((((Prod.fst x) : Nat) : Int) < (((List.length ts) : Nat) : Int)))
     ((((0 : Int) ≤ (((Prod.fst x) : Nat) : Int)) ∧ ((((Prod.fst x) : Nat) : Int) < (((List.length ts) : Nat) : Int))) ∧
     (((((2 : Nat) * ((1 : Nat) + (sizeL (T.kids (List.getD ts (Int.toNat (((Prod.fst x) : Nat) : Int)) default))))) < m) ∧
     ((((List.length (T.kids (List.getD ts (Int.toNat (((Prod.fst x) : Nat) : Int)) default))) ≤ (9223372036854775807 : Nat)) ∧
     (fitsL (T.kids (List.getD ts (Int.toNat (((Prod.fst x) : Nat) : Int)) default)))) ∧
     (((0 : Int) ≤ (Prod.snd x)) ∧ ((Prod.snd x) ≤ (1048576 : Int))))) ∧
     (Br (Decidable.decide ((szI (sizeL (T.kids (List.getD ts (Int.toNat (((Prod.fst x) : Nat) : Int)) default))) (Prod.snd x)) < (0 : Int)))
     (Ret K (.int .i64 (- (1 : Int))) [])
     ((InR ((((Prod.fst x) : Nat) : Int) + (1 : Int))) ∧
     (∃ y : (Prod Nat Int),
     ((((Prod.fst y) ≤ (List.length ts)) ∧
     (((0 : Int) ≤ (Prod.snd y)) ∧
     (((Prod.snd y) ≤ (1048576 : Int)) ∧ (((Prod.snd y) - (((belL (List.drop (Prod.fst y) ts)) : Nat) : Int)) = (left - (((sizeL ts) : Nat) : Int)))))) ∧
     ((ts = ts) ∧
     (((szI (sizeL (T.kids (List.getD ts (Int.toNat (((Prod.fst x) : Nat) : Int)) default))) (Prod.snd x)) = (Prod.snd y)) ∧
     ((((((Prod.fst x) : Nat) : Int) + (1 : Int)) = (((Prod.fst y) : Nat) : Int)) ∧
     ((Nat.succ ((List.length ts) - (Prod.fst y))) ≤ ((List.length ts) - (Prod.fst x))))))))))))
     (Ret K (.int .i64 (Prod.snd x)) [])))))))) ?_ (by kernel_rfl)
  obtain ⟨⟨h1, h2⟩, h3, h4⟩ := hp
  have hb := sizeL_bel ts
  refine ⟨by unfold InR; omega, br (fun h => ?_) (fun h => ?_)⟩
  · have h : left - (ts.length : Int) < 0 := by simpa using h
    exact retI hk (by unfold szI; rw [if_neg (by omega)])
  · have h : ¬ left - (ts.length : Int) < 0 := by simpa using h
    refine ⟨⟨(0, left - ts.length), ⟨Nat.zero_le _, by omega, by simp; omega, by simp; omega⟩, rfl, rfl, rfl, trivial⟩, ?_⟩
    rintro ⟨i, l⟩ ⟨g1, g2, g3, g4⟩
    refine br (fun h => ?_) (fun h => ?_)
    · have hi : i < ts.length := by simpa using h
      simp only [Int.toNat_natCast]
      have hm' := getD_mem hi
      have hs := sizeL_mem hm'
      have hf := T.fits_kids (fitsL_mem h2 hm')
      have hd := belL_drop hi
      rw [T.size_eq] at hs
      refine ⟨⟨by omega, by simpa using hi⟩, ⟨by omega, hf, g2, g3⟩, br (fun h => ?_) (fun h => ?_)⟩
      · have h : szI (sizeL (ts.getD i default).kids) l < 0 := by simpa using h
        refine retI hk ?_
        unfold szI at h ⊢
        simp only at g4
        rw [if_neg]; split at h <;> omega
      · have h : ¬ szI (sizeL (ts.getD i default).kids) l < 0 := by simpa using h
        have he : szI (sizeL (ts.getD i default).kids) l = l - sizeL (ts.getD i default).kids := by
          unfold szI at h ⊢; split at h <;> simp_all
        refine ⟨inR_succ hi h1, (i + 1, l - sizeL (ts.getD i default).kids), ⟨by show i + 1 ≤ _; omega, ?_, ?_, ?_⟩, trivial, he, by simp, by show Nat.succ (_ - (i + 1)) ≤ ts.length - i; omega⟩
        · rw [he] at h; show 0 ≤ l - _; omega
        · show l - _ ≤ _; simp only at g3; omega
        · simp only at g4 ⊢; omega
    · have hi : ¬ i < ts.length := by simpa using h
      rw [drop_len hi] at g4
      simp only [belL] at g4
      refine retI hk ?_
      unfold szI
      rw [if_pos (by omega)]
      simp only
      omega
theorem szTerm_soundM : ∀ m : Nat, Sound Tryd.prog 22 (cszTermM m) ∧ Sound Tryd.prog 42 (cszTermSM m)
  | 0 => ⟨by
      refine soundF (G := []) gnil Tryd.func22 rfl (by kernel_rfl) fun args hs K hCC => ?_
      unfold cszTermM at hCC
      split at hCC
      case h_2 => exact hCC.elim
      exact absurd hCC.1.1 (Nat.not_lt_zero _), by
      refine soundF (G := []) gnil Tryd.func42 rfl (by kernel_rfl) fun args hs K hCC => ?_
      unfold cszTermSM at hCC
      split at hCC
      case h_2 => exact hCC.elim
      exact absurd hCC.1.1 (Nat.not_lt_zero _)⟩
  | m + 1 => ⟨by
      refine soundF (G := [(22, cszTermM m), (42, cszTermSM m)]) ((gcons (szTerm_soundM m).1 (gcons (szTerm_soundM m).2 gnil))) Tryd.func22 rfl (by kernel_rfl) fun args hs K hCC => ?_
      unfold cszTermM at hCC
      split at hCC
      case h_2 => exact hCC.elim
      rename_i k n ts left
      exact ⟨Nat.le_of_ble_eq_true rfl, _, szTerm_ok m k n ts left K hCC.1.1 hCC.1.2 hCC.2⟩, by
      refine soundF (G := [(22, cszTermM m), (42, cszTermSM m)]) ((gcons (szTerm_soundM m).1 (gcons (szTerm_soundM m).2 gnil))) Tryd.func42 rfl (by kernel_rfl) fun args hs K hCC => ?_
      unfold cszTermSM at hCC
      split at hCC
      case h_2 => exact hCC.elim
      rename_i ts left
      exact ⟨Nat.le_of_ble_eq_true rfl, _, szTermS_ok m ts left K hCC.1.1 hCC.1.2 hCC.2⟩⟩
theorem szTerm_sound : Sound Tryd.prog 22 cszTerm := by
  refine sound_of_all (c := cszTermM) (fun m => (szTerm_soundM m).1) fun args hs K hCC => ?_
  unfold cszTerm at hCC
  split at hCC
  case h_2 => exact hCC.elim
  exact ⟨_, ⟨Nat.lt_succ_self _, hCC.1⟩, hCC.2⟩
theorem szTermS_sound : Sound Tryd.prog 42 cszTermS := by
  refine sound_of_all (c := cszTermSM) (fun m => (szTerm_soundM m).2) fun args hs K hCC => ?_
  unfold cszTermS at hCC
  split at hCC
  case h_2 => exact hCC.elim
  exact ⟨_, ⟨Nat.lt_succ_self _, hCC.1⟩, hCC.2⟩
/-- laws.toTerm -/
def ctoTermM (m : Nat) : Con
  | [.st [.int .i64 k, .int .i64 n, .slc ts (.arg 0)]], [], K => ((2 * (1 + sizeL ts)) < m ∧ ((sizeL ts ≤ 1048576))) ∧ ((K (.st [.int .i64 k, .int .i64 n, .slc ts fr]) []))
  | _, _, _ => False
def ctoTerm : Con
  | [.st [.int .i64 k, .int .i64 n, .slc ts (.arg 0)]], [], K => ((sizeL ts ≤ 1048576)) ∧ ((K (.st [.int .i64 k, .int .i64 n, .slc ts fr]) []))
  | _, _, _ => False
/-- laws.toTermS -/
def ctoTermSM (m : Nat) : Con
  | [.slc ts (.arg 0)], [], K => ((2 * sizeL ts + 1) < m ∧ ((sizeL ts ≤ 1048576))) ∧ ((K (.slc ts fr) []))
  | _, _, _ => False
def ctoTermS : Con
  | [.slc ts (.arg 0)], [], K => ((sizeL ts ≤ 1048576)) ∧ ((K (.slc ts fr) []))
  | _, _, _ => False
theorem toTerm_ok (m : Nat) (k n : Int) (ts : List T) (K : AV → List AV → Prop) (hm : (2 * (1 + sizeL ts)) < m + 1) (hp : ((sizeL ts ≤ 1048576))) (hk : ((K (.st [.int .i64 k, .int .i64 n, .slc ts fr]) []))) :
    bodyQ [(23, ctoTermM m), (43, ctoTermSM m)] TY [] Tryd.f23 (body Tryd.f23) [.st [.int .i64 k, .int .i64 n, .slc ts (.arg 0)]] [] K := by
  refine of_vc (A :=
    ((((((2 : Nat) * (sizeL ts)) + (1 : Nat)) < m) ∧ ((sizeL ts) ≤ (1048576 : Nat))) ∧
     (Ret K (.st [(.int .i64 k), (.int .i64 n), (.slc ts (.iv 4 4 true (.tok 0)))]) []))) ?_ (by kernel_rfl)
  exact ⟨⟨by omega, hp⟩, fin hk ⟨⟨rfl, rfl⟩, ⟨rfl, rfl⟩, ⟨rfl, rfl⟩, trivial⟩ trivial⟩
theorem toTermS_ok (m : Nat) (ts : List T) (K : AV → List AV → Prop) (hm : (2 * sizeL ts + 1) < m + 1) (hp : ((sizeL ts ≤ 1048576))) (hk : ((K (.slc ts fr) []))) :
    bodyQ [(23, ctoTermM m), (43, ctoTermSM m)] TY [(3, { ι := Nat, ok := fun i => i ≤ ts.length, tl := fun i => [(0, .slc ts (.arg 0)), (3, .slc (fillT ts i) (.iv 4 4 true (.id 7))), (4, .int .i64 i)], hl := fun _ => [], fh := fun _ => [], μ := fun i => ts.length - i })] Tryd.f43 (body Tryd.f43) [.slc ts (.arg 0)] [] K := by
  refine of_vc (A :=
    ((((0 : Int) ≤ (((List.length ts) : Nat) : Int)) ∧
     (((((List.length ts) : Nat) : Int) = (((List.length ts) : Nat) : Int)) ∧ ((((List.length ts) : Nat) : Int) ≤ (1099511627776 : Int)))) ∧
     ((∃ x : Nat,
     ((x ≤ (List.length ts)) ∧
     ((ts = ts) ∧
     (((List.replicate (Int.toNat (((List.length ts) : Nat) : Int)) (T.mk (0 : Int) (0 : Int) ([] : List T))) = (fillT ts x)) ∧
     (((0 : Int) = ((x : Nat) : Int)) ∧ True))))) ∧
     (∀ x : Nat,
     ((x ≤ (List.length ts)) →
     (Br (Decidable.decide (((x : Nat) : Int) < (((List.length ts) : Nat) : Int)))
     ((((0 : Int) ≤ ((x : Nat) : Int)) ∧ (((x : Nat) : Int) < (((List.length ts) : Nat) : Int))) ∧
     (((((2 : Nat) * ((1 : Nat) + (sizeL (T.kids (List.getD ts (Int.toNat ((x : Nat) : Int)) default))))) < m) ∧
     ((sizeL (T.kids (List.getD ts (Int.toNat ((x : Nat) : Int)) default))) ≤ (1048576 : Nat))) ∧
     ((((0 : Int) ≤ ((x : Nat) : Int)) ∧ (((x : Nat) : Int) < (((List.length (fillT ts x)) : Nat) : Int))) ∧
     ((InR (((x : Nat) : Int) + (1 : Int))) ∧
     (∃ y : Nat,
     ((y ≤ (List.length ts)) ∧
     ((ts = ts) ∧
     (((List.set (fillT ts x) (Int.toNat ((x : Nat) : Int)) (T.mk (T.k (List.getD ts (Int.toNat ((x : Nat) : Int)) default)) (T.n (List.getD ts (Int.toNat ((x : Nat) : Int)) default)) (T.kids (List.getD ts (Int.toNat ((x : Nat) : Int)) default)))) = (fillT ts y)) ∧
     (((((x : Nat) : Int) + (1 : Int)) = ((y : Nat) : Int)) ∧ ((Nat.succ ((List.length ts) - y)) ≤ ((List.length ts) - x)))))))))))
     (Ret K (.slc (fillT ts x) (.iv 4 4 true (.tok 0))) []))))))) ?_ (by kernel_rfl)
  have hl := length_le_sizeL ts
  refine ⟨⟨by omega, rfl, by omega⟩, ⟨0, Nat.zero_le _, rfl, by rw [fillT_zero, Int.toNat_natCast], rfl, trivial⟩, fun i hi0 => br (fun h => ?_) (fun h => ?_)⟩
  · have hi : i < ts.length := by simpa using h
    have hs := sizeL_mem (getD_mem hi)
    rw [T.size_eq] at hs
    simp only [Int.toNat_natCast, T.eta]
    refine ⟨⟨by omega, by simpa using hi⟩, ⟨by omega, by omega⟩, ⟨by omega, by rw [fillT_length hi0]; omega⟩, inR_succ hi (by omega), i + 1, by omega, trivial, fillT_set hi, by simp, by omega⟩
  · have hi : ¬ i < ts.length := by simpa using h
    exact retS hk (fillT_full hi)
theorem toTerm_soundM : ∀ m : Nat, Sound Tryd.prog 23 (ctoTermM m) ∧ Sound Tryd.prog 43 (ctoTermSM m)
  | 0 => ⟨by
      refine soundF (G := []) gnil Tryd.func23 rfl (by kernel_rfl) fun args hs K hCC => ?_
      unfold ctoTermM at hCC
      split at hCC
      case h_2 => exact hCC.elim
      exact absurd hCC.1.1 (Nat.not_lt_zero _), by
      refine soundF (G := []) gnil Tryd.func43 rfl (by kernel_rfl) fun args hs K hCC => ?_
      unfold ctoTermSM at hCC
      split at hCC
      case h_2 => exact hCC.elim
      exact absurd hCC.1.1 (Nat.not_lt_zero _)⟩
  | m + 1 => ⟨by
      refine soundF (G := [(23, ctoTermM m), (43, ctoTermSM m)]) ((gcons (toTerm_soundM m).1 (gcons (toTerm_soundM m).2 gnil))) Tryd.func23 rfl (by kernel_rfl) fun args hs K hCC => ?_
      unfold ctoTermM at hCC
      split at hCC
      case h_2 => exact hCC.elim
      rename_i k n ts
      exact ⟨Nat.le_of_ble_eq_true rfl, _, toTerm_ok m k n ts K hCC.1.1 hCC.1.2 hCC.2⟩, by
      refine soundF (G := [(23, ctoTermM m), (43, ctoTermSM m)]) ((gcons (toTerm_soundM m).1 (gcons (toTerm_soundM m).2 gnil))) Tryd.func43 rfl (by kernel_rfl) fun args hs K hCC => ?_
      unfold ctoTermSM at hCC
      split at hCC
      case h_2 => exact hCC.elim
      rename_i ts
      exact ⟨Nat.le_of_ble_eq_true rfl, _, toTermS_ok m ts K hCC.1.1 hCC.1.2 hCC.2⟩⟩
theorem toTerm_sound : Sound Tryd.prog 23 ctoTerm := by
  refine sound_of_all (c := ctoTermM) (fun m => (toTerm_soundM m).1) fun args hs K hCC => ?_
  unfold ctoTerm at hCC
  split at hCC
  case h_2 => exact hCC.elim
  exact ⟨_, ⟨Nat.lt_succ_self _, hCC.1⟩, hCC.2⟩
theorem toTermS_sound : Sound Tryd.prog 43 ctoTermS := by
  refine sound_of_all (c := ctoTermSM) (fun m => (toTerm_soundM m).2) fun args hs K hCC => ?_
  unfold ctoTermS at hCC
  split at hCC
  case h_2 => exact hCC.elim
  exact ⟨_, ⟨Nat.lt_succ_self _, hCC.1⟩, hCC.2⟩
/-- laws.eqTerm -/
def ceqTermM (m : Nat) : Con
  | [.st [.int .i64 k, .int .i64 n, .slc ts (.arg 0)], .st [.int .i64 k', .int .i64 n', .slc ts' (.arg 1)]], [], K => ((2 * (1 + sizeL ts)) < m ∧ ((sizeL ts ≤ 1099511627776))) ∧ ((K (.bool ((T.mk k n ts).same (.mk k' n' ts'))) []))
  | _, _, _ => False
def ceqTerm : Con
  | [.st [.int .i64 k, .int .i64 n, .slc ts (.arg 0)], .st [.int .i64 k', .int .i64 n', .slc ts' (.arg 1)]], [], K => ((sizeL ts ≤ 1099511627776)) ∧ ((K (.bool ((T.mk k n ts).same (.mk k' n' ts'))) []))
  | _, _, _ => False
/-- laws.eqTermS -/
def ceqTermSM (m : Nat) : Con
  | [.slc ts (.arg 0), .slc ts' (.arg 1)], [], K => ((2 * sizeL ts + 1) < m ∧ ((sizeL ts ≤ 1099511627776))) ∧ ((K (.bool (sameL ts ts')) []))
  | _, _, _ => False
def ceqTermS : Con
  | [.slc ts (.arg 0), .slc ts' (.arg 1)], [], K => ((sizeL ts ≤ 1099511627776)) ∧ ((K (.bool (sameL ts ts')) []))
  | _, _, _ => False
theorem eqTerm_ok (m : Nat) (k n : Int) (ts : List T) (k' n' : Int) (ts' : List T) (K : AV → List AV → Prop) (hm : (2 * (1 + sizeL ts)) < m + 1) (hp : ((sizeL ts ≤ 1099511627776))) (hk : ((K (.bool ((T.mk k n ts).same (.mk k' n' ts'))) []))) :
    bodyQ [(10, ceqTermM m), (28, ceqTermSM m)] TY [] Tryd.f10 (body Tryd.f10) [.st [.int .i64 k, .int .i64 n, .slc ts (.arg 0)], .st [.int .i64 k', .int .i64 n', .slc ts' (.arg 1)]] [] K := by
  refine of_vc (A :=
    (Br (Decidable.decide (k ≠ k'))
     (Ret K (.bool false) [])
     (Br (Decidable.decide (n ≠ n'))
     (Ret K (.bool false) [])
     ((((((2 : Nat) * (sizeL ts)) + (1 : Nat)) < m) ∧ ((sizeL ts) ≤ (1099511627776 : Nat))) ∧
     (Br (Bool.not (sameL ts ts')) (Ret K (.bool false) []) (Ret K (.bool true) [])))))) ?_ (by kernel_rfl)
  refine br (fun h => ?_) (fun h => br (fun h2 => ?_) (fun h2 => ⟨⟨by omega, hp⟩, br (fun h3 => ?_) (fun h3 => ?_)⟩))
  · exact retB hk (by simp [T.same] at h ⊢; intro e; exact absurd e h)
  · exact retB hk (by simp [T.same] at h2 ⊢; intro _ e; exact absurd e h2)
  · exact retB hk (by simp [T.same] at h3 ⊢; intro _ _; exact h3)
  · exact retB hk (by simp [T.same] at h h2 h3 ⊢; exact ⟨h, h2, h3⟩)
theorem eqTermS_ok (m : Nat) (ts ts' : List T) (K : AV → List AV → Prop) (hm : (2 * sizeL ts + 1) < m + 1) (hp : ((sizeL ts ≤ 1099511627776))) (hk : ((K (.bool (sameL ts ts')) []))) :
    bodyQ [(10, ceqTermM m), (28, ceqTermSM m)] TY [(4, { ι := Nat, ok := fun i => i ≤ ts.length ∧ sameL ts ts' = sameL (ts.drop i) (ts'.drop i), tl := fun i => [(0, .slc ts (.arg 0)), (1, .slc ts' (.arg 1)), (5, .int .i64 i)], hl := fun _ => [], fh := fun _ => [], μ := fun i => ts.length - i })] Tryd.f28 (body Tryd.f28) [.slc ts (.arg 0), .slc ts' (.arg 1)] [] K := by
  refine of_vc (A :=
    (Br (Decidable.decide ((((List.length ts) : Nat) : Int) ≠ (((List.length ts') : Nat) : Int)))
     (Ret K (.bool false) [])
     ((∃ x : Nat,
     (((x ≤ (List.length ts)) ∧ ((sameL ts ts') = (sameL (List.drop x ts) (List.drop x ts')))) ∧
     ((ts = ts) ∧ ((ts' = ts') ∧ (((0 : Int) = ((x : Nat) : Int)) ∧ True))))) ∧
     (∀ x : Nat,
     (((x ≤ (List.length ts)) ∧ ((sameL ts ts') = (sameL (List.drop x ts) (List.drop x ts')))) →
     (Br (Decidable.decide (((x : Nat) : Int) < (((List.length ts) : Nat) : Int)))
     ((((0 : Int) ≤ ((x : Nat) : Int)) ∧ (((x : Nat) : Int) < (((List.length ts) : Nat) : Int))) ∧
     ((((0 : Int) ≤ ((x : Nat) : Int)) ∧ (((x : Nat) : Int) < (((List.length ts') : Nat) : Int))) ∧
     (((((2 : Nat) * ((1 : Nat) + (sizeL (T.kids (List.getD ts (Int.toNat ((x : Nat) : Int)) default))))) < m) ∧
     ((sizeL (T.kids (List.getD ts (Int.toNat ((x : Nat) : Int)) default))) ≤ (1099511627776 : Nat))) ∧
     (Br (Bool.not (T.same (T.mk (T.k (List.getD ts (Int.toNat ((x : Nat) : Int)) default)) (T.n (List.getD ts (Int.toNat ((x : Nat) : Int)) default)) (T.kids (List.getD ts (Int.toNat ((x : Nat) : Int)) default))) (T.mk (T.k (List.getD ts' (Int.toNat ((x : Nat) : Int)) default)) (T.n (List.getD ts' (Int.toNat ((x : Nat) : Int)) default)) (T.kids (List.getD ts' (Int.toNat ((x : Nat) : Int)) default)))))
     (Ret K (.bool false) [])
     ((InR (((x : Nat) : Int) + (1 : Int))) ∧
     (∃ y : Nat,
     (((y ≤ (List.length ts)) ∧ ((sameL ts ts') = (sameL (List.drop y ts) (List.drop y ts')))) ∧
     ((ts = ts) ∧ ((ts' = ts') ∧ (((((x : Nat) : Int) + (1 : Int)) = ((y : Nat) : Int)) ∧ ((Nat.succ ((List.length ts) - y)) ≤ ((List.length ts) - x))))))))))))
     (Ret K (.bool true) []))))))) ?_ (by kernel_rfl)
  refine br (fun h => ?_) (fun h => ?_)
  · have h : ts.length ≠ ts'.length := by simp at h; omega
    exact retB hk (sameL_length h).symm
  · have hlen : ts.length = ts'.length := by simp at h; omega
    have hl := length_le_sizeL ts
    refine ⟨⟨0, ⟨Nat.zero_le _, rfl⟩, rfl, rfl, rfl, trivial⟩, fun i hi0 => br (fun h => ?_) (fun h => ?_)⟩
    · have hi : i < ts.length := by simpa using h
      have hs := sizeL_mem (getD_mem hi)
      rw [T.size_eq] at hs
      have hd := sameL_drop hi (by omega : i < ts'.length)
      simp only [Int.toNat_natCast, T.eta]
      refine ⟨⟨by omega, by simpa using hi⟩, ⟨by omega, by omega⟩, ⟨by omega, by omega⟩, br (fun h => ?_) (fun h => ?_)⟩
      · exact retB hk (by rw [hi0.2, hd]; simp at h; simp [h])
      · refine ⟨inR_succ hi (by omega), i + 1, ⟨by omega, ?_⟩, trivial, trivial, by simp, by omega⟩
        rw [hi0.2, hd]; simp at h; simp [h]
    · have hi : ¬ i < ts.length := by simpa using h
      exact retB hk (by rw [hi0.2, drop_len hi, drop_len (by omega)]; rfl)
theorem eqTerm_soundM : ∀ m : Nat, Sound Tryd.prog 10 (ceqTermM m) ∧ Sound Tryd.prog 28 (ceqTermSM m)
  | 0 => ⟨by
      refine soundF (G := []) gnil Tryd.func10 rfl (by kernel_rfl) fun args hs K hCC => ?_
      unfold ceqTermM at hCC
      split at hCC
      case h_2 => exact hCC.elim
      exact absurd hCC.1.1 (Nat.not_lt_zero _), by
      refine soundF (G := []) gnil Tryd.func28 rfl (by kernel_rfl) fun args hs K hCC => ?_
      unfold ceqTermSM at hCC
      split at hCC
      case h_2 => exact hCC.elim
      exact absurd hCC.1.1 (Nat.not_lt_zero _)⟩
  | m + 1 => ⟨by
      refine soundF (G := [(10, ceqTermM m), (28, ceqTermSM m)]) ((gcons (eqTerm_soundM m).1 (gcons (eqTerm_soundM m).2 gnil))) Tryd.func10 rfl (by kernel_rfl) fun args hs K hCC => ?_
      unfold ceqTermM at hCC
      split at hCC
      case h_2 => exact hCC.elim
      rename_i k n ts k' n' ts'
      exact ⟨Nat.le_of_ble_eq_true rfl, _, eqTerm_ok m k n ts k' n' ts' K hCC.1.1 hCC.1.2 hCC.2⟩, by
      refine soundF (G := [(10, ceqTermM m), (28, ceqTermSM m)]) ((gcons (eqTerm_soundM m).1 (gcons (eqTerm_soundM m).2 gnil))) Tryd.func28 rfl (by kernel_rfl) fun args hs K hCC => ?_
      unfold ceqTermSM at hCC
      split at hCC
      case h_2 => exact hCC.elim
      rename_i ts ts'
      exact ⟨Nat.le_of_ble_eq_true rfl, _, eqTermS_ok m ts ts' K hCC.1.1 hCC.1.2 hCC.2⟩⟩
theorem eqTerm_sound : Sound Tryd.prog 10 ceqTerm := by
  refine sound_of_all (c := ceqTermM) (fun m => (eqTerm_soundM m).1) fun args hs K hCC => ?_
  unfold ceqTerm at hCC
  split at hCC
  case h_2 => exact hCC.elim
  exact ⟨_, ⟨Nat.lt_succ_self _, hCC.1⟩, hCC.2⟩
theorem eqTermS_sound : Sound Tryd.prog 28 ceqTermS := by
  refine sound_of_all (c := ceqTermSM) (fun m => (eqTerm_soundM m).2) fun args hs K hCC => ?_
  unfold ceqTermS at hCC
  split at hCC
  case h_2 => exact hCC.elim
  exact ⟨_, ⟨Nat.lt_succ_self _, hCC.1⟩, hCC.2⟩
end Go.Dk
