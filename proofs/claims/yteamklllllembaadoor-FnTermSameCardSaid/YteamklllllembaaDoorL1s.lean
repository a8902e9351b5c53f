/- Terms: the reference's functions on terms. -/
import Derived.Test.YteamklllllembaaDoorL1
namespace Go.Dk
set_option linter.unusedVariables false
open Go.Proofs
/-- spec.l1Kids -/
def csKids : Con
  | [.int .i64 k], [], K => True ∧ ((K (.int .i64 (arity k)) []))
  | _, _, _ => False
theorem sKids_ok (k : Int) (K : AV → List AV → Prop) (hp : True) (hk : ((K (.int .i64 (arity k)) []))) :
    bodyQ [] TY [] Tryd.f63 (body Tryd.f63) [.int .i64 k] [] K := by
  refine of_vc (A :=
    (Br (Decidable.decide (k = (1 : Int)))
     (Ret K (.int .i64 0) [])
     (Br (Decidable.decide (k = (2 : Int)))
     (Ret K (.int .i64 0) [])
     (Br (Decidable.decide (k = (6 : Int)))
     (Ret K (.int .i64 0) [])
     (Br (Decidable.decide (k = (7 : Int)))
     (Ret K (.int .i64 0) [])
     (Br (Decidable.decide (k = (8 : Int)))
     (Ret K (.int .i64 1) [])
     (Br (Decidable.decide (k = (11 : Int)))
     (Ret K (.int .i64 1) [])
     (Br (Decidable.decide (k = (15 : Int)))
     (Ret K (.int .i64 1) [])
     (Br (Decidable.decide (k = (16 : Int)))
     (Ret K (.int .i64 1) [])
     (Br (Decidable.decide (k = (3 : Int)))
     (Ret K (.int .i64 2) [])
     (Br (Decidable.decide (k = (4 : Int)))
     (Ret K (.int .i64 2) [])
     (Br (Decidable.decide (k = (5 : Int)))
     (Ret K (.int .i64 2) [])
     (Br (Decidable.decide (k = (13 : Int)))
     (Ret K (.int .i64 2) [])
     (Br (Decidable.decide (k = (10 : Int)))
     (Ret K (.int .i64 3) [])
     (Br (Decidable.decide (k = (12 : Int)))
     (Ret K (.int .i64 3) [])
     (Br (Decidable.decide (k = (14 : Int)))
     (Ret K (.int .i64 3) [])
     (Br (Decidable.decide (k = (9 : Int))) (Ret K (.int .i64 4) []) (Ret K (.int .i64 (- (1 : Int))) [])))))))))))))))))) ?_ (by kernel_rfl)
  unfold arity at hk
  repeat (refine br (fun h => ?_) (fun h => ?_); · (simp at h; subst h; exact retI hk (by simp)))
  simp at *
  refine retI hk ?_
  repeat (rw [if_neg (by omega)])
theorem sKids_sound : Sound Tryd.prog 63 csKids := by
  refine soundF (G := []) (gnil) Tryd.func63 rfl (by kernel_rfl) fun args hs K hCC => ?_
  unfold csKids at hCC
  split at hCC
  case h_2 => exact hCC.elim
  rename_i k
  exact ⟨Nat.le_of_ble_eq_true rfl, _, sKids_ok k K hCC.1 hCC.2⟩
/-- spec.l1Most -/
def csMost : Con
  | [.int .i64 k], [], K => True ∧ ((K (.int .i64 (mostN k)) []))
  | _, _, _ => False
theorem sMost_ok (k : Int) (K : AV → List AV → Prop) (hp : True) (hk : ((K (.int .i64 (mostN k)) []))) :
    bodyQ [] TY [] Tryd.f64 (body Tryd.f64) [.int .i64 k] [] K := by
  refine of_vc (A :=
    (Br (Decidable.decide (k = (1 : Int)))
     (Ret K (.int .i64 20) [])
     (Br (Decidable.decide (k = (2 : Int))) (Ret K (.int .i64 3) []) (Ret K (.int .i64 0) [])))) ?_ (by kernel_rfl)
  unfold mostN at hk
  refine br (fun h => ?_) (fun h => br (fun h2 => ?_) (fun h2 => ?_))
  · exact retI hk (by simp at h; rw [if_pos h])
  · exact retI hk (by simp at h h2; rw [if_neg h, if_pos h2])
  · exact retI hk (by simp at h h2; rw [if_neg h, if_neg h2])
theorem sMost_sound : Sound Tryd.prog 64 csMost := by
  refine soundF (G := []) (gnil) Tryd.func64 rfl (by kernel_rfl) fun args hs K hCC => ?_
  unfold csMost at hCC
  split at hCC
  case h_2 => exact hCC.elim
  rename_i k
  exact ⟨Nat.le_of_ble_eq_true rfl, _, sMost_ok k K hCC.1 hCC.2⟩
/-- spec.l1Shape -/
def csShapeM (m : Nat) : Con
  | [.st [.int .i64 k, .int .i64 n, .slc ts (.arg 0)], .int .i64 d], [], K => (((T.mk k n ts).size) < m ∧ ((d ≤ 30 ∧ 0 ≤ d))) ∧ ((K (.bool ((T.mk k n ts).shp d)) []))
  | _, _, _ => False
def csShape : Con
  | [.st [.int .i64 k, .int .i64 n, .slc ts (.arg 0)], .int .i64 d], [], K => ((d ≤ 30 ∧ 0 ≤ d)) ∧ ((K (.bool ((T.mk k n ts).shp d)) []))
  | _, _, _ => False
theorem sShape_ok (m : Nat) (k n : Int) (ts : List T) (d : Int) (K : AV → List AV → Prop) (hm : ((T.mk k n ts).size) < m + 1) (hp : ((d ≤ 30 ∧ 0 ≤ d))) (hk : ((K (.bool ((T.mk k n ts).shp d)) []))) :
    bodyQ [(34, csShapeM m), (63, csKids), (64, csMost)] TY [(4, { ι := Nat, ok := fun i => i ≤ ts.length ∧ shpL ts (d - 1) = shpL (ts.drop i) (d - 1), tl := fun i => [(1, .int .i64 d), (2, .ptr 2), (5, .int .i64 i)], hl := fun _ => [(2, .st [.int .i64 k, .int .i64 n, .slc ts (.arg 0)])], fh := fun _ => [], μ := fun i => ts.length - i })] Tryd.f34 (body Tryd.f34) [.st [.int .i64 k, .int .i64 n, .slc ts (.arg 0)], .int .i64 d] [] K := by
  refine of_vc (A :=
    (Br (Decidable.decide (d < (1 : Int)))
     (Ret K (.bool false) [])
     (True ∧
     ((ts = ts) ∧
     (Br (Decidable.decide ((arity k) ≠ (((List.length ts) : Nat) : Int)))
     (Ret K (.bool false) [])
     (Br (Decidable.decide (n < (0 : Int)))
     (Ret K (.bool false) [])
     (True ∧
     ((n = n) ∧
     (Br (Decidable.decide ((mostN k) < n))
     (Ret K (.bool false) [])
     ((∃ x : Nat,
     (((x ≤ (List.length ts)) ∧ ((shpL ts (d - (1 : Int))) = (shpL (List.drop x ts) (d - (1 : Int))))) ∧
     ((d = d) ∧ (((0 : Int) = ((x : Nat) : Int)) ∧ ((k = k) ∧ ((n = n) ∧ ((ts = ts) ∧ True))))))) ∧
     (∀ x : Nat,
     (((x ≤ (List.length ts)) ∧ ((shpL ts (d - (1 : Int))) = (shpL (List.drop x ts) (d - (1 : Int))))) →
     (Br (Decidable.decide (((x : Nat) : Int) < (((List.length ts) : Nat) : Int)))
     ((((0 : Int) ≤ ((x : Nat) : Int)) ∧ (((x : Nat) : Int) < (((List.length ts) : Nat) : Int))) ∧
     ((InR (d - (1 : Int))) ∧
     ((((T.size (T.mk (T.k (List.getD ts (Int.toNat ((x : Nat) : Int)) default)) (T.n (List.getD ts (Int.toNat ((x : Nat) : Int)) default)) (T.kids (List.getD ts (Int.toNat ((x : Nat) : Int)) default)))) < m) ∧
     (((d - (1 : Int)) ≤ (30 : Int)) ∧ ((0 : Int) ≤ (d - (1 : Int))))) ∧
     (Br (Bool.not (T.shp (T.mk (T.k (List.getD ts (Int.toNat ((x : Nat) : Int)) default)) (T.n (List.getD ts (Int.toNat ((x : Nat) : Int)) default)) (T.kids (List.getD ts (Int.toNat ((x : Nat) : Int)) default))) (d - (1 : Int))))
     (Ret K (.bool false) [])
     ((InR (((x : Nat) : Int) + (1 : Int))) ∧
     (∃ y : Nat,
     (((y ≤ (List.length ts)) ∧ ((shpL ts (d - (1 : Int))) = (shpL (List.drop y ts) (d - (1 : Int))))) ∧
     ((d = d) ∧
     (((((x : Nat) : Int) + (1 : Int)) = ((y : Nat) : Int)) ∧ ((k = k) ∧ ((n = n) ∧ ((ts = ts) ∧ ((Nat.succ ((List.length ts) - y)) ≤ ((List.length ts) - x))))))))))))))
     (Ret K (.bool true) [])))))))))))))) ?_ (by kernel_rfl)
  obtain ⟨hp1, hp2⟩ := hp
  have hm' : 1 + sizeL ts < m + 1 := hm
  by_cases hc : 1 ≤ d ∧ rootOk k n ts.length = true
  · have hr : arity k = ts.length ∧ 0 ≤ n ∧ n ≤ mostN k := by simpa [rootOk] using hc.2
    have hl := arity_range k
    have he : (T.mk k n ts).shp d = shpL ts (d - 1) := by rw [T.shp, hc.2]; simp [hc.1]
    rw [he] at hk
    refine br (fun h => ?_) (fun _ => ⟨trivial, rfl, br (fun h => ?_) (fun _ => br (fun h => ?_) (fun _ => ⟨trivial, rfl, br (fun h => ?_) (fun _ => ?_)⟩))⟩)
    · simp at h; omega
    · simp at h; omega
    · simp at h; omega
    · simp at h; omega
    refine ⟨⟨0, ⟨Nat.zero_le _, rfl⟩, (by first | trivial | rfl | (simp; done)), (by first | trivial | rfl | (simp; done)), (by first | trivial | rfl | (simp; done)), (by first | trivial | rfl | (simp; done)), (by first | trivial | rfl | (simp; done)), (by first | trivial | rfl | (simp; done))⟩, ?_⟩
    rintro i ⟨g1, g2⟩
    refine br (fun h => ?_) (fun h => ?_)
    · have hi : i < ts.length := by simpa using h
      have hs := sizeL_mem (getD_mem hi)
      simp only [Int.toNat_natCast, T.eta]
      have hd := drop_getD hi
      have hz : shpL (ts.drop i) (d - 1) = ((ts.getD i default).shp (d - 1) && shpL (ts.drop (i + 1)) (d - 1)) := by rw [hd, shpL]
      refine ⟨⟨by omega, by omega⟩, by unfold InR; omega, ⟨by omega, by omega, by omega⟩, br (fun h => ?_) (fun h => ?_)⟩
      · exact retB hk (by rw [g2, hz]; simp at h; simp [h])
      · refine ⟨by unfold InR; omega, i + 1, ⟨by omega, ?_⟩, (by first | trivial | rfl | (simp; done)), (by first | trivial | rfl | (simp; done)), (by first | trivial | rfl | (simp; done)), (by first | trivial | rfl | (simp; done)), (by first | trivial | rfl | (simp; done)), by omega⟩
        rw [g2, hz]; simp at h; simp [h]
    · have hi : ¬ i < ts.length := by simpa using h
      exact retB hk (by rw [g2, drop_len hi]; rfl)
  · have he : (T.mk k n ts).shp d = false := by
      rw [T.shp]
      by_cases h1 : 1 ≤ d
      · have : rootOk k n ts.length = false := by simpa using fun h => hc ⟨h1, h⟩
        simp [this]
      · simp [h1]
    rw [he] at hk
    refine br (fun _ => retB hk rfl) (fun g1 => ⟨trivial, rfl, br (fun _ => retB hk rfl) (fun g2 => br (fun _ => retB hk rfl) (fun g3 => ⟨trivial, rfl, br (fun _ => retB hk rfl) (fun g4 => ?_)⟩))⟩)
    simp at g1 g2 g3 g4
    refine absurd ⟨by omega, ?_⟩ hc
    simp [rootOk]; omega
theorem sShape_soundM : ∀ m : Nat, Sound Tryd.prog 34 (csShapeM m)
  | 0 => by
      refine soundF (G := []) gnil Tryd.func34 rfl (by kernel_rfl) fun args hs K hCC => ?_
      unfold csShapeM at hCC
      split at hCC
      case h_2 => exact hCC.elim
      exact absurd hCC.1.1 (Nat.not_lt_zero _)
  | m + 1 => by
      refine soundF (G := [(34, csShapeM m), (63, csKids), (64, csMost)]) ((gcons (sShape_soundM m) (gcons sKids_sound (gcons sMost_sound gnil)))) Tryd.func34 rfl (by kernel_rfl) fun args hs K hCC => ?_
      unfold csShapeM at hCC
      split at hCC
      case h_2 => exact hCC.elim
      rename_i k n ts d
      exact ⟨Nat.le_of_ble_eq_true rfl, _, sShape_ok m k n ts d K hCC.1.1 hCC.1.2 hCC.2⟩
theorem sShape_sound : Sound Tryd.prog 34 csShape := by
  refine sound_of_all (c := csShapeM) (fun m => (sShape_soundM m)) fun args hs K hCC => ?_
  unfold csShape at hCC
  split at hCC
  case h_2 => exact hCC.elim
  exact ⟨_, ⟨Nat.lt_succ_self _, hCC.1⟩, hCC.2⟩
/-- spec.l1Count -/
def csCountM (m : Nat) : Con
  | [.st [.int .i64 k, .int .i64 n, .slc ts (.arg 0)], .int .i64 most], [], K => (((T.mk k n ts).size) < m ∧ ((0 ≤ most ∧ most ≤ 1000))) ∧ ((K (.int .i64 ((T.mk k n ts).cnt most)) []))
  | _, _, _ => False
def csCount : Con
  | [.st [.int .i64 k, .int .i64 n, .slc ts (.arg 0)], .int .i64 most], [], K => ((0 ≤ most ∧ most ≤ 1000)) ∧ ((K (.int .i64 ((T.mk k n ts).cnt most)) []))
  | _, _, _ => False
theorem sCount_ok (m : Nat) (k n : Int) (ts : List T) (most : Int) (K : AV → List AV → Prop) (hm : ((T.mk k n ts).size) < m + 1) (hp : ((0 ≤ most ∧ most ≤ 1000))) (hk : ((K (.int .i64 ((T.mk k n ts).cnt most)) []))) :
    bodyQ [(35, csCountM m)] TY [(3, { ι := Nat × Int, ok := fun x => x.1 ≤ ts.length ∧ x.1 + 1 ≤ x.2 ∧ x.2 ≤ most + 1 ∧ cntL ts most 1 = cntL (ts.drop x.1) most x.2, tl := fun x => [(1, .int .i64 most), (2, .ptr 2), (5, .int .i64 x.2), (6, .int .i64 x.1)], hl := fun _ => [(2, .st [.int .i64 k, .int .i64 n, .slc ts (.arg 0)])], fh := fun _ => [], μ := fun x => ts.length - x.1 })] Tryd.f35 (body Tryd.f35) [.st [.int .i64 k, .int .i64 n, .slc ts (.arg 0)], .int .i64 most] [] K := by
  refine of_vc (A :=
    ((∃ x : (Prod Nat Int),
     ((((Prod.fst x) ≤ (List.length ts)) ∧
     ((((((Prod.fst x) : Nat) : Int) + (1 : Int)) ≤ (Prod.snd x)) ∧
     (((Prod.snd x) ≤ (most + (1 : Int))) ∧ ((cntL ts most (1 : Int)) = (cntL (List.drop (Prod.fst x) ts) most (Prod.snd x)))))) ∧
     ((most = most) ∧ (((1 : Int) = (Prod.snd x)) ∧ (((0 : Int) = (((Prod.fst x) : Nat) : Int)) ∧ ((k = k) ∧ ((n = n) ∧ ((ts = ts) ∧ True)))))))) ∧
     (∀ x : (Prod Nat Int),
     ((((Prod.fst x) ≤ (List.length ts)) ∧ ((((((Prod.fst x) : Nat) : Int) + (1 : Int)) ≤ (Prod.snd x)) ∧ (((Prod.snd x) ≤ (most + (1 : Int))) ∧ ((cntL ts most (1 : Int)) = (cntL (List.drop (Prod.fst x) ts) most (Prod.snd x)))))) →
     (Br (Decidable.decide ((((Prod.fst x) : Nat) : Int) < (((List.length ts) : Nat) : Int)))
     (Br (Decidable.decide ((Prod.snd x) ≤ most))
     ((((0 : Int) ≤ (((Prod.fst x) : Nat) : Int)) ∧ ((((Prod.fst x) : Nat) : Int) < (((List.length ts) : Nat) : Int))) ∧
     ((InR (most - (Prod.snd x))) ∧
     ((((T.size (T.mk (T.k (List.getD ts (Int.toNat (((Prod.fst x) : Nat) : Int)) default)) (T.n (List.getD ts (Int.toNat (((Prod.fst x) : Nat) : Int)) default)) (T.kids (List.getD ts (Int.toNat (((Prod.fst x) : Nat) : Int)) default)))) < m) ∧
     (((0 : Int) ≤ (most - (Prod.snd x))) ∧ ((most - (Prod.snd x)) ≤ (1000 : Int)))) ∧
     ((InR ((Prod.snd x) + (T.cnt (T.mk (T.k (List.getD ts (Int.toNat (((Prod.fst x) : Nat) : Int)) default)) (T.n (List.getD ts (Int.toNat (((Prod.fst x) : Nat) : Int)) default)) (T.kids (List.getD ts (Int.toNat (((Prod.fst x) : Nat) : Int)) default))) (most - (Prod.snd x))))) ∧
     ((InR ((((Prod.fst x) : Nat) : Int) + (1 : Int))) ∧
     (∃ y : (Prod Nat Int),
     ((((Prod.fst y) ≤ (List.length ts)) ∧
     ((((((Prod.fst y) : Nat) : Int) + (1 : Int)) ≤ (Prod.snd y)) ∧
     (((Prod.snd y) ≤ (most + (1 : Int))) ∧ ((cntL ts most (1 : Int)) = (cntL (List.drop (Prod.fst y) ts) most (Prod.snd y)))))) ∧
     ((most = most) ∧
     ((((Prod.snd x) + (T.cnt (T.mk (T.k (List.getD ts (Int.toNat (((Prod.fst x) : Nat) : Int)) default)) (T.n (List.getD ts (Int.toNat (((Prod.fst x) : Nat) : Int)) default)) (T.kids (List.getD ts (Int.toNat (((Prod.fst x) : Nat) : Int)) default))) (most - (Prod.snd x)))) = (Prod.snd y)) ∧
     ((((((Prod.fst x) : Nat) : Int) + (1 : Int)) = (((Prod.fst y) : Nat) : Int)) ∧
     ((k = k) ∧ ((n = n) ∧ ((ts = ts) ∧ ((Nat.succ ((List.length ts) - (Prod.fst y))) ≤ ((List.length ts) - (Prod.fst x))))))))))))))))
     (Ret K (.int .i64 (Prod.snd x)) []))
     (Ret K (.int .i64 (Prod.snd x)) [])))))) ?_ (by kernel_rfl)
  obtain ⟨hp1, hp2⟩ := hp
  have hm' : 1 + sizeL ts < m + 1 := hm
  have hl := length_le_sizeL ts
  rw [T.cnt] at hk
  refine ⟨⟨(0, 1), ⟨Nat.zero_le _, by decide, by show (1 : Int) ≤ most + 1; omega, rfl⟩, (by first | trivial | rfl | (simp; done)), (by first | trivial | rfl | (simp; done)), (by first | trivial | rfl | (simp; done)), (by first | trivial | rfl | (simp; done)), (by first | trivial | rfl | (simp; done)), (by first | trivial | rfl | (simp; done)), (by first | trivial | rfl | (simp; done))⟩, ?_⟩
  rintro ⟨i, c⟩ ⟨g1, g2, g3, g4⟩
  simp only at g1 g2 g3 g4
  refine br (fun h => br (fun h2 => ?_) (fun h2 => ?_)) (fun h => ?_)
  · have hi : i < ts.length := by simpa using h
    have h2 : c ≤ most := by simpa using h2
    have hs := sizeL_mem (getD_mem hi)
    simp only [Int.toNat_natCast, T.eta]
    obtain ⟨s1, s2, -, -⟩ := T.cnt_spec (ts.getD i default) (most - c) (by omega)
    refine ⟨⟨by omega, by omega⟩, by unfold InR; omega, ⟨by omega, by omega, by omega⟩, by unfold InR; omega, by unfold InR; omega, (i + 1, _), ⟨by show i + 1 ≤ _; omega, ?_, ?_, ?_⟩, (by first | trivial | rfl | (simp; done)), (by first | trivial | rfl | (simp; done)), (by first | trivial | rfl | (simp; done)), (by first | trivial | rfl | (simp; done)), (by first | trivial | rfl | (simp; done)), (by first | trivial | rfl | (simp; done)), by show Nat.succ (_ - (i + 1)) ≤ _; omega⟩
    · show ((i + 1 : Nat) : Int) + 1 ≤ c + T.cnt _ _; omega
    · show c + T.cnt _ _ ≤ most + 1; omega
    · rw [g4, drop_getD hi, cntL, if_pos h2]
  · have hi : i < ts.length := by simpa using h
    have h2 : ¬ c ≤ most := by simpa using h2
    exact retI hk (by rw [g4, drop_getD hi, cntL, if_neg h2])
  · have hi : ¬ i < ts.length := by simpa using h
    exact retI hk (by rw [g4, drop_len hi]; rfl)
theorem sCount_soundM : ∀ m : Nat, Sound Tryd.prog 35 (csCountM m)
  | 0 => by
      refine soundF (G := []) gnil Tryd.func35 rfl (by kernel_rfl) fun args hs K hCC => ?_
      unfold csCountM at hCC
      split at hCC
      case h_2 => exact hCC.elim
      exact absurd hCC.1.1 (Nat.not_lt_zero _)
  | m + 1 => by
      refine soundF (G := [(35, csCountM m)]) ((gcons (sCount_soundM m) gnil)) Tryd.func35 rfl (by kernel_rfl) fun args hs K hCC => ?_
      unfold csCountM at hCC
      split at hCC
      case h_2 => exact hCC.elim
      rename_i k n ts most
      exact ⟨Nat.le_of_ble_eq_true rfl, _, sCount_ok m k n ts most K hCC.1.1 hCC.1.2 hCC.2⟩
theorem sCount_sound : Sound Tryd.prog 35 csCount := by
  refine sound_of_all (c := csCountM) (fun m => (sCount_soundM m)) fun args hs K hCC => ?_
  unfold csCount at hCC
  split at hCC
  case h_2 => exact hCC.elim
  exact ⟨_, ⟨Nat.lt_succ_self _, hCC.1⟩, hCC.2⟩
/-- spec.TermValid -/
def csTermValid : Con
  | [.st [.int .i64 k, .int .i64 n, .slc ts (.arg 0)]], [], K => True ∧ ((K (.bool (T.mk k n ts).valid) []))
  | _, _, _ => False
theorem sTermValid_ok (k n : Int) (ts : List T) (K : AV → List AV → Prop) (hp : True) (hk : ((K (.bool (T.mk k n ts).valid) []))) :
    bodyQ [(34, csShape), (35, csCount)] TY [] Tryd.f17 (body Tryd.f17) [.st [.int .i64 k, .int .i64 n, .slc ts (.arg 0)]] [] K := by
  refine of_vc (A :=
    ((((30 : Int) ≤ (30 : Int)) ∧ ((0 : Int) ≤ (30 : Int))) ∧
     (Br (T.shp (T.mk k n ts) (30 : Int))
     ((((0 : Int) ≤ (400 : Int)) ∧ ((400 : Int) ≤ (1000 : Int))) ∧ (Ret K (.bool (Decidable.decide ((T.cnt (T.mk k n ts) (400 : Int)) ≤ (400 : Int)))) []))
     (Ret K (.bool false) [])))) ?_ (by kernel_rfl)
  rw [← T.valid_cnt] at hk
  refine ⟨⟨by omega, by omega⟩, br (fun h => ⟨⟨by omega, by omega⟩, retB hk ?_⟩) (fun h => retB hk ?_)⟩
  · rw [h]; rfl
  · rw [h]; rfl
theorem sTermValid_sound : Sound Tryd.prog 17 csTermValid := by
  refine soundF (G := [(34, csShape), (35, csCount)]) ((gcons sShape_sound (gcons sCount_sound gnil))) Tryd.func17 rfl (by kernel_rfl) fun args hs K hCC => ?_
  unfold csTermValid at hCC
  split at hCC
  case h_2 => exact hCC.elim
  rename_i k n ts
  exact ⟨Nat.le_of_ble_eq_true rfl, _, sTermValid_ok k n ts K hCC.1 hCC.2⟩
/-- spec.TermSame -/
def csTermSameM (m : Nat) : Con
  | [.st [.int .i64 k, .int .i64 n, .slc ts (.arg 0)], .st [.int .i64 k', .int .i64 n', .slc ts' (.arg 1)]], [], K => (((T.mk k n ts).size) < m ∧ ((sizeL ts ≤ 1099511627776))) ∧ ((K (.bool ((T.mk k n ts).same (.mk k' n' ts'))) []))
  | _, _, _ => False
def csTermSame : Con
  | [.st [.int .i64 k, .int .i64 n, .slc ts (.arg 0)], .st [.int .i64 k', .int .i64 n', .slc ts' (.arg 1)]], [], K => ((sizeL ts ≤ 1099511627776)) ∧ ((K (.bool ((T.mk k n ts).same (.mk k' n' ts'))) []))
  | _, _, _ => False
theorem sTermSame_ok (m : Nat) (k n : Int) (ts : List T) (k' n' : Int) (ts' : List T) (K : AV → List AV → Prop) (hm : ((T.mk k n ts).size) < m + 1) (hp : ((sizeL ts ≤ 1099511627776))) (hk : ((K (.bool ((T.mk k n ts).same (.mk k' n' ts'))) []))) :
    bodyQ [(21, csTermSameM m)] TY [(4, { ι := Nat, ok := fun i => i ≤ ts.length ∧ sameL ts ts' = sameL (ts.drop i) (ts'.drop i), tl := fun i => [(2, .ptr 2), (3, .ptr 3), (5, .int .i64 i)], hl := fun _ => [(2, .st [.int .i64 k, .int .i64 n, .slc ts (.arg 0)]), (3, .st [.int .i64 k', .int .i64 n', .slc ts' (.arg 1)])], fh := fun _ => [], μ := fun i => ts.length - i })] Tryd.f21 (body Tryd.f21) [.st [.int .i64 k, .int .i64 n, .slc ts (.arg 0)], .st [.int .i64 k', .int .i64 n', .slc ts' (.arg 1)]] [] K := by
  refine of_vc (A :=
    (Br (Decidable.decide (k ≠ k'))
     (Ret K (.bool false) [])
     (Br (Decidable.decide (n ≠ n'))
     (Ret K (.bool false) [])
     (Br (Decidable.decide ((((List.length ts) : Nat) : Int) ≠ (((List.length ts') : Nat) : Int)))
     (Ret K (.bool false) [])
     ((∃ x : Nat,
     (((x ≤ (List.length ts)) ∧ ((sameL ts ts') = (sameL (List.drop x ts) (List.drop x ts')))) ∧
     (((0 : Int) = ((x : Nat) : Int)) ∧ ((k = k) ∧ ((n = n) ∧ ((ts = ts) ∧ ((k' = k') ∧ ((n' = n') ∧ ((ts' = ts') ∧ True))))))))) ∧
     (∀ x : Nat,
     (((x ≤ (List.length ts)) ∧ ((sameL ts ts') = (sameL (List.drop x ts) (List.drop x ts')))) →
     (Br (Decidable.decide (((x : Nat) : Int) < (((List.length ts) : Nat) : Int)))
     ((((0 : Int) ≤ ((x : Nat) : Int)) ∧ (((x : Nat) : Int) < (((List.length ts) : Nat) : Int))) ∧
     ((((0 : Int) ≤ ((x : Nat) : Int)) ∧ (((x : Nat) : Int) < (((List.length ts') : Nat) : Int))) ∧
     ((((T.size (T.mk (T.k (List.getD ts (Int.toNat ((x : Nat) : Int)) default)) (T.n (List.getD ts (Int.toNat ((x : Nat) : Int)) default)) (T.kids (List.getD ts (Int.toNat ((x : Nat) : Int)) default)))) < m) ∧
     ((sizeL (T.kids (List.getD ts (Int.toNat ((x : Nat) : Int)) default))) ≤ (1099511627776 : Nat))) ∧
     (Br (Bool.not (T.same (T.mk (T.k (List.getD ts (Int.toNat ((x : Nat) : Int)) default)) (T.n (List.getD ts (Int.toNat ((x : Nat) : Int)) default)) (T.kids (List.getD ts (Int.toNat ((x : Nat) : Int)) default))) (T.mk (T.k (List.getD ts' (Int.toNat ((x : Nat) : Int)) default)) (T.n (List.getD ts' (Int.toNat ((x : Nat) : Int)) default)) (T.kids (List.getD ts' (Int.toNat ((x : Nat) : Int)) default)))))
     (Ret K (.bool false) [])
     ((InR (((x : Nat) : Int) + (1 : Int))) ∧
     (∃ y : Nat,
     (((y ≤ (List.length ts)) ∧ ((sameL ts ts') = (sameL (List.drop y ts) (List.drop y ts')))) ∧
     (((((x : Nat) : Int) + (1 : Int)) = ((y : Nat) : Int)) ∧
     ((k = k) ∧ ((n = n) ∧ ((ts = ts) ∧ ((k' = k') ∧ ((n' = n') ∧ ((ts' = ts') ∧ ((Nat.succ ((List.length ts) - y)) ≤ ((List.length ts) - x))))))))))))))))
     (Ret K (.bool true) []))))))))) ?_ (by kernel_rfl)
  have hm' : 1 + sizeL ts < m + 1 := hm
  have hl := length_le_sizeL ts
  refine br (fun h => retB hk ?_) (fun h => br (fun h2 => retB hk ?_) (fun h2 => br (fun h3 => retB hk ?_) (fun h3 => ?_)))
  · simp at h; simp [T.same, h]
  · simp at h2; simp [T.same, h2]
  · have h3 : ts.length ≠ ts'.length := by simp at h3; omega
    simp [T.same, sameL_length h3]
  have h : k = k' := by simpa using h
  have h2 : n = n' := by simpa using h2
  have h3 : ts.length = ts'.length := by simp at h3; omega
  subst h h2
  have he : (T.mk k n ts).same (.mk k n ts') = sameL ts ts' := by simp [T.same]
  rw [he] at hk
  refine ⟨⟨0, ⟨Nat.zero_le _, rfl⟩, (by repeat' first | trivial | rfl | (simp; done) | apply And.intro)⟩, ?_⟩
  intro i hi0
  refine br (fun h => ?_) (fun h => ?_)
  · have hi : i < ts.length := by simpa using h
    have hs := sizeL_mem (getD_mem hi)
    have hs' := hs
    rw [T.size_eq] at hs'
    have hd := sameL_drop hi (by omega : i < ts'.length)
    simp only [Int.toNat_natCast, T.eta]
    refine ⟨⟨by omega, by omega⟩, ⟨by omega, by omega⟩, ⟨by omega, by omega⟩, br (fun h => ?_) (fun h => ?_)⟩
    · exact retB hk (by rw [hi0.2, hd]; simp at h; simp [h])
    · refine ⟨inR_succ hi (by omega), i + 1, ⟨by omega, ?_⟩, (by first | trivial | rfl | (simp; done)), (by first | trivial | rfl | (simp; done)), (by first | trivial | rfl | (simp; done)), (by first | trivial | rfl | (simp; done)), (by first | trivial | rfl | (simp; done)), (by first | trivial | rfl | (simp; done)), (by first | trivial | rfl | (simp; done)), by omega⟩
      rw [hi0.2, hd]; simp at h; simp [h]
  · have hi : ¬ i < ts.length := by simpa using h
    exact retB hk (by rw [hi0.2, drop_len hi, drop_len (by omega)]; rfl)
theorem sTermSame_soundM : ∀ m : Nat, Sound Tryd.prog 21 (csTermSameM m)
  | 0 => by
      refine soundF (G := []) gnil Tryd.func21 rfl (by kernel_rfl) fun args hs K hCC => ?_
      unfold csTermSameM at hCC
      split at hCC
      case h_2 => exact hCC.elim
      exact absurd hCC.1.1 (Nat.not_lt_zero _)
  | m + 1 => by
      refine soundF (G := [(21, csTermSameM m)]) ((gcons (sTermSame_soundM m) gnil)) Tryd.func21 rfl (by kernel_rfl) fun args hs K hCC => ?_
      unfold csTermSameM at hCC
      split at hCC
      case h_2 => exact hCC.elim
      rename_i k n ts k' n' ts'
      exact ⟨Nat.le_of_ble_eq_true rfl, _, sTermSame_ok m k n ts k' n' ts' K hCC.1.1 hCC.1.2 hCC.2⟩
theorem sTermSame_sound : Sound Tryd.prog 21 csTermSame := by
  refine sound_of_all (c := csTermSameM) (fun m => (sTermSame_soundM m)) fun args hs K hCC => ?_
  unfold csTermSame at hCC
  split at hCC
  case h_2 => exact hCC.elim
  exact ⟨_, ⟨Nat.lt_succ_self _, hCC.1⟩, hCC.2⟩
/-- spec.l1Leaf -/
def csLeaf : Con
  | [.int .i64 (k), .int .i64 (n)], [], K => True ∧ ((K (.st [.int .i64 k, .int .i64 n, .slc [] (.iv 0 0 true .full)]) []))
  | _, _, _ => False
theorem sLeaf_ok (k n : Int) (K : AV → List AV → Prop) (hp : True) (hk : ((K (.st [.int .i64 k, .int .i64 n, .slc [] (.iv 0 0 true .full)]) []))) :
    bodyQ [] TY [] Tryd.f45 (body Tryd.f45) [.int .i64 (k), .int .i64 (n)] [] K := by
  refine of_vc (A :=
    (Ret K (.st [(.int .i64 k), (.int .i64 n), (.slc [] (.iv 0 0 true .full))]) [])) ?_ (by kernel_rfl)
  exact retT (t := .mk k n []) hk rfl
theorem sLeaf_sound : Sound Tryd.prog 45 csLeaf := by
  refine soundF (G := []) (gnil) Tryd.func45 rfl (by kernel_rfl) fun args hs K hCC => ?_
  unfold csLeaf at hCC
  split at hCC
  case h_2 => exact hCC.elim
  rename_i k n
  exact ⟨Nat.le_of_ble_eq_true rfl, _, sLeaf_ok k n K hCC.1 hCC.2⟩
/-- spec.l1Node -/
def csNode : Con
  | [.int .i64 (k), .slc ts (.arg 1)], [], K => ((ts.length ≤ 1000)) ∧ ((K (.st [.int .i64 k, .int .i64 0, .slc ts (.iv 4 2 false (.tok 0))]) []))
  | _, _, _ => False
theorem sNode_ok (k : Int) (ts : List T) (K : AV → List AV → Prop) (hp : ((ts.length ≤ 1000))) (hk : ((K (.st [.int .i64 k, .int .i64 0, .slc ts (.iv 4 2 false (.tok 0))]) []))) :
    bodyQ [] TY [] Tryd.f48 (body Tryd.f48) [.int .i64 (k), .slc ts (.arg 1)] [] K := by
  refine of_vc (A :=
    ((((0 : Int) + (((List.length ts) : Nat) : Int)) ≤ (1099511627776 : Int)) ∧
     (Ret K (.st [(.int .i64 k), (.int .i64 0), (.slc (([] : List T) ++ ts) (.iv 4 2 false (.tok 0)))]) []))) ?_ (by kernel_rfl)
  exact ⟨by omega, retT (t := .mk k 0 ts) hk rfl⟩
theorem sNode_sound : Sound Tryd.prog 48 csNode := by
  refine soundF (G := []) (gnil) Tryd.func48 rfl (by kernel_rfl) fun args hs K hCC => ?_
  unfold csNode at hCC
  split at hCC
  case h_2 => exact hCC.elim
  rename_i k ts
  exact ⟨Nat.le_of_ble_eq_true rfl, _, sNode_ok k ts K hCC.1 hCC.2⟩
/-- spec.l1Numeral -/
def csnumeral : Con
  | [.int .i64 n], [], K => ((0 ≤ n ∧ n ≤ 1000000)) ∧ ((K ((T.num n.toNat).av (.iv 4 4 false .no)) []))
  | _, _, _ => False
theorem snumeral_ok (n : Int) (K : AV → List AV → Prop) (hp : ((0 ≤ n ∧ n ≤ 1000000))) (hk : ((K ((T.num n.toNat).av (.iv 4 4 false .no)) []))) :
    bodyQ [(48, csNode), (45, csLeaf)] TY [(3, { ι := Nat, ok := fun i => i ≤ n.toNat, tl := fun i => [(0, .int .i64 n), (2, .ptr 2), (3, .ptr 3), (4, .int .i64 i)], hl := fun i => [(2, (T.mk 0 0 []).av (.iv 0 0 true .full)), (3, (T.num i).av (.iv 4 4 false .no))], fh := fun _ => [], μ := fun i => n.toNat - i })] Tryd.f56 (body Tryd.f56) [.int .i64 n] [] K := by
  refine of_vc (A :=
    (True ∧
     ((∃ x : Nat,
     ((x ≤ (Int.toNat n)) ∧
     ((n = n) ∧
     (((0 : Int) = ((x : Nat) : Int)) ∧
     (((0 : Int) = (0 : Int)) ∧
     (((0 : Int) = (0 : Int)) ∧
     ((([] : List T) = ([] : List T)) ∧ (((7 : Int) = (T.k (T.num x))) ∧ (((0 : Int) = (T.n (T.num x))) ∧ ((([] : List T) = (T.kids (T.num x))) ∧ True)))))))))) ∧
     (∀ x : Nat,
     ((x ≤ (Int.toNat n)) →
     (Br (Decidable.decide (((x : Nat) : Int) < n))
     (((1 : Nat) ≤ (1000 : Nat)) ∧
     ((InR (((x : Nat) : Int) + (1 : Int))) ∧
     (∃ y : Nat,
     ((y ≤ (Int.toNat n)) ∧
     ((n = n) ∧
     (((((x : Nat) : Int) + (1 : Int)) = ((y : Nat) : Int)) ∧
     (((0 : Int) = (0 : Int)) ∧
     (((0 : Int) = (0 : Int)) ∧
     ((([] : List T) = ([] : List T)) ∧
     (((8 : Int) = (T.k (T.num y))) ∧
     (((0 : Int) = (T.n (T.num y))) ∧
     (([(T.mk (T.k (T.num x)) (T.n (T.num x)) (T.kids (T.num x)))] = (T.kids (T.num y))) ∧ ((Nat.succ ((Int.toNat n) - y)) ≤ ((Int.toNat n) - x))))))))))))))
     (Ret K (.st [(.int .i64 (T.k (T.num x))), (.int .i64 (T.n (T.num x))), (.slc (T.kids (T.num x)) (.iv 4 4 false .no))]) []))))))) ?_ (by kernel_rfl)
  refine ⟨trivial, ⟨0, Nat.zero_le _, (by first | trivial | rfl | (simp; done)), (by first | trivial | rfl | (simp; done)), (by first | trivial | rfl | (simp; done)), (by first | trivial | rfl | (simp; done)), (by first | trivial | rfl | (simp; done)), (by first | trivial | rfl | (simp; done)), (by first | trivial | rfl | (simp; done)), (by first | trivial | rfl | (simp; done)), (by first | trivial | rfl | (simp; done))⟩, ?_⟩
  intro i hi
  refine br (fun h => ?_) (fun h => ?_)
  · have h := of_decide_eq_true h
    refine ⟨by omega, by unfold InR; omega, i + 1, by omega, (by first | trivial | rfl | (simp; done)), (by first | trivial | rfl | (simp; done)), (by first | trivial | rfl | (simp; done)), (by first | trivial | rfl | (simp; done)), (by first | trivial | rfl | (simp; done)), (by first | trivial | rfl | (simp; done)), (by first | trivial | rfl | (simp; done)), ?_, by omega⟩
    simp only [T.num, T.eta]; rfl
  · have h := of_decide_eq_false h
    have : i = n.toNat := by omega
    subst this
    exact retT hk (T.eta _)
theorem snumeral_sound : Sound Tryd.prog 56 csnumeral := by
  refine soundF (G := [(48, csNode), (45, csLeaf)]) ((gcons sNode_sound (gcons sLeaf_sound gnil))) Tryd.func56 rfl (by kernel_rfl) fun args hs K hCC => ?_
  unfold csnumeral at hCC
  split at hCC
  case h_2 => exact hCC.elim
  rename_i n
  exact ⟨Nat.le_of_ble_eq_true rfl, _, snumeral_ok n K hCC.1 hCC.2⟩
/-- spec.l1Copy -/
def csCopyM (m : Nat) : Con
  | [.st [.int .i64 k, .int .i64 n, .slc ts (.arg 0)]], [], K => (((T.mk k n ts).size) < m ∧ ((sizeL ts ≤ 1048576))) ∧ ((K ((T.mk k n ts).fr) []))
  | _, _, _ => False
def csCopy : Con
  | [.st [.int .i64 k, .int .i64 n, .slc ts (.arg 0)]], [], K => ((sizeL ts ≤ 1048576)) ∧ ((K ((T.mk k n ts).fr) []))
  | _, _, _ => False
theorem sCopy_ok (m : Nat) (k n : Int) (ts : List T) (K : AV → List AV → Prop) (hm : ((T.mk k n ts).size) < m + 1) (hp : ((sizeL ts ≤ 1048576))) (hk : ((K ((T.mk k n ts).fr) []))) :
    bodyQ [(67, csCopyM m)] TY [(3, { ι := Nat, ok := fun i => i ≤ ts.length, tl := fun i => [(1, .ptr 1), (2, .ptr 2), (3, .ptr 3), (4, .int .i64 i)], hl := fun i => [(1, .st [.int .i64 k, .int .i64 n, .slc ts (.arg 0)]), (2, (T.mk 0 0 []).av (.iv 0 0 true .full)), (3, .st [.int .i64 k, .int .i64 n, .slc (ts.take i) (.iv 4 4 true (.tok 26))])], fh := fun _ => [], μ := fun i => ts.length - i })] Tryd.f67 (body Tryd.f67) [.st [.int .i64 k, .int .i64 n, .slc ts (.arg 0)]] [] K := by
  refine of_vc (A :=
    ((∃ x : Nat,
     ((x ≤ (List.length ts)) ∧
     (((0 : Int) = ((x : Nat) : Int)) ∧
     ((k = k) ∧
     ((n = n) ∧
     ((ts = ts) ∧
     (((0 : Int) = (0 : Int)) ∧ (((0 : Int) = (0 : Int)) ∧ ((([] : List T) = ([] : List T)) ∧ ((k = k) ∧ ((n = n) ∧ ((([] : List T) = (List.take x ts)) ∧ True)))))))))))) ∧
     (∀ x : Nat,
     ((x ≤ (List.length ts)) →
     (Br (Decidable.decide (((x : Nat) : Int) < (((List.length ts) : Nat) : Int)))
     ((((0 : Int) ≤ ((x : Nat) : Int)) ∧ (((x : Nat) : Int) < (((List.length ts) : Nat) : Int))) ∧
     ((((T.size (T.mk (T.k (List.getD ts (Int.toNat ((x : Nat) : Int)) default)) (T.n (List.getD ts (Int.toNat ((x : Nat) : Int)) default)) (T.kids (List.getD ts (Int.toNat ((x : Nat) : Int)) default)))) < m) ∧
     ((sizeL (T.kids (List.getD ts (Int.toNat ((x : Nat) : Int)) default))) ≤ (1048576 : Nat))) ∧
     (((List.take x ts) = (List.take x ts)) ∧
     ((((((List.length (List.take x ts)) : Nat) : Int) + (1 : Int)) ≤ (1099511627776 : Int)) ∧
     ((InR (((x : Nat) : Int) + (1 : Int))) ∧
     (∃ y : Nat,
     ((y ≤ (List.length ts)) ∧
     (((((x : Nat) : Int) + (1 : Int)) = ((y : Nat) : Int)) ∧
     ((k = k) ∧
     ((n = n) ∧
     ((ts = ts) ∧
     (((0 : Int) = (0 : Int)) ∧
     (((0 : Int) = (0 : Int)) ∧
     ((([] : List T) = ([] : List T)) ∧
     ((k = k) ∧
     ((n = n) ∧
     ((((List.take x ts) ++ [(T.mk (T.k (T.mk (T.k (List.getD ts (Int.toNat ((x : Nat) : Int)) default)) (T.n (List.getD ts (Int.toNat ((x : Nat) : Int)) default)) (T.kids (List.getD ts (Int.toNat ((x : Nat) : Int)) default)))) (T.n (T.mk (T.k (List.getD ts (Int.toNat ((x : Nat) : Int)) default)) (T.n (List.getD ts (Int.toNat ((x : Nat) : Int)) default)) (T.kids (List.getD ts (Int.toNat ((x : Nat) : Int)) default)))) (T.kids (T.mk (T.k (List.getD ts (Int.toNat ((x : Nat) : Int)) default)) (T.n (List.getD ts (Int.toNat ((x : Nat) : Int)) default)) (T.kids (List.getD ts (Int.toNat ((x : Nat) : Int)) default)))))]) = (List.take y ts)) ∧
     ((Nat.succ ((List.length ts) - y)) ≤ ((List.length ts) - x)))))))))))))))))))
     (Ret K (.st [(.int .i64 k), (.int .i64 n), (.slc (List.take x ts) (.iv 4 4 true (.tok 0)))]) [])))))) ?_ (by kernel_rfl)
  have hl := length_le_sizeL ts
  have hm' : 1 + sizeL ts < m + 1 := hm
  refine ⟨⟨0, Nat.zero_le _, (by first | trivial | rfl | (simp; done)), (by first | trivial | rfl | (simp; done)), (by first | trivial | rfl | (simp; done)), (by first | trivial | rfl | (simp; done)), (by first | trivial | rfl | (simp; done)), (by first | trivial | rfl | (simp; done)), (by first | trivial | rfl | (simp; done)), (by first | trivial | rfl | (simp; done)), (by first | trivial | rfl | (simp; done)), (by first | trivial | rfl | (simp; done)), (by first | trivial | rfl | (simp; done))⟩, ?_⟩
  intro i hi0
  refine br (fun h => ?_) (fun h => ?_)
  · have hi : i < ts.length := by simpa using h
    have hs := sizeL_mem (getD_mem hi)
    have hs' := hs
    rw [T.size_eq] at hs'
    simp only [Int.toNat_natCast, T.eta]
    refine ⟨⟨by omega, by omega⟩, ⟨by omega, by omega⟩, (by first | trivial | rfl | (simp; done)), ?_, inR_succ hi (by omega), i + 1, by omega, (by first | trivial | rfl | (simp; done)), (by first | trivial | rfl | (simp; done)), (by first | trivial | rfl | (simp; done)), (by first | trivial | rfl | (simp; done)), (by first | trivial | rfl | (simp; done)), (by first | trivial | rfl | (simp; done)), (by first | trivial | rfl | (simp; done)), (by first | trivial | rfl | (simp; done)), (by first | trivial | rfl | (simp; done)), ?_, by omega⟩
    · rw [List.length_take]; omega
    · exact (take_succ_getD hi).symm
  · have hi : ¬ i < ts.length := by simpa using h
    exact retT hk (by rw [List.take_of_length_le (by omega)])
theorem sCopy_soundM : ∀ m : Nat, Sound Tryd.prog 67 (csCopyM m)
  | 0 => by
      refine soundF (G := []) gnil Tryd.func67 rfl (by kernel_rfl) fun args hs K hCC => ?_
      unfold csCopyM at hCC
      split at hCC
      case h_2 => exact hCC.elim
      exact absurd hCC.1.1 (Nat.not_lt_zero _)
  | m + 1 => by
      refine soundF (G := [(67, csCopyM m)]) ((gcons (sCopy_soundM m) gnil)) Tryd.func67 rfl (by kernel_rfl) fun args hs K hCC => ?_
      unfold csCopyM at hCC
      split at hCC
      case h_2 => exact hCC.elim
      rename_i k n ts
      exact ⟨Nat.le_of_ble_eq_true rfl, _, sCopy_ok m k n ts K hCC.1.1 hCC.1.2 hCC.2⟩
theorem sCopy_sound : Sound Tryd.prog 67 csCopy := by
  refine sound_of_all (c := csCopyM) (fun m => (sCopy_soundM m)) fun args hs K hCC => ?_
  unfold csCopy at hCC
  split at hCC
  case h_2 => exact hCC.elim
  exact ⟨_, ⟨Nat.lt_succ_self _, hCC.1⟩, hCC.2⟩
end Go.Dk
