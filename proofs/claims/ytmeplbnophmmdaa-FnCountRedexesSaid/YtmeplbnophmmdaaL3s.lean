/- Reduction: the reference's functions. -/
import Derived.Test.YtmeplbnophmmdaaL2s
import Derived.Test.YtmeplbnophmmdaaL3
namespace Go.Dk
set_option linter.unusedVariables false
open Go.Proofs
/-- spec.l3Redex -/
def csRedex : Con
  | [.st [.int .i64 k, .int .i64 n, .slc ts (.arg 0)]], [], K => ((arity k = ts.length)) ∧ ((K (.int .i64 (T.mk k n ts).rdx) []))
  | _, _, _ => False
theorem sRedex_ok (k n : Int) (ts : List T) (K : AV → List AV → Prop) (hp : ((arity k = ts.length))) (hk : ((K (.int .i64 (T.mk k n ts).rdx) []))) :
    bodyQ [] TY [] Try.f59 (body Try.f59) [.st [.int .i64 k, .int .i64 n, .slc ts (.arg 0)]] [] K := by
  refine of_vc (A :=
    (Br (Decidable.decide (k = (5 : Int)))
     ((((0 : Int) ≤ (0 : Int)) ∧ ((0 : Int) < (((List.length ts) : Nat) : Int))) ∧
     (Br (Decidable.decide ((T.k (List.getD ts (Int.toNat (0 : Int)) default)) = (4 : Int)))
     (Ret K (.int .i64 1) [])
     (Ret K (.int .i64 0) [])))
     (Br (Decidable.decide (k = (9 : Int)))
     ((((0 : Int) ≤ (3 : Int)) ∧ ((3 : Int) < (((List.length ts) : Nat) : Int))) ∧
     (Br (Decidable.decide ((T.k (List.getD ts (Int.toNat (3 : Int)) default)) = (7 : Int)))
     (Ret K (.int .i64 2) [])
     ((((0 : Int) ≤ (3 : Int)) ∧ ((3 : Int) < (((List.length ts) : Nat) : Int))) ∧
     (Br (Decidable.decide ((T.k (List.getD ts (Int.toNat (3 : Int)) default)) = (8 : Int)))
     (Ret K (.int .i64 3) [])
     (Ret K (.int .i64 0) [])))))
     (Br (Decidable.decide (k = (12 : Int)))
     ((((0 : Int) ≤ (1 : Int)) ∧ ((1 : Int) < (((List.length ts) : Nat) : Int))) ∧
     (Br (Decidable.decide ((T.k (List.getD ts (Int.toNat (1 : Int)) default)) = (11 : Int)))
     (Ret K (.int .i64 4) [])
     (Ret K (.int .i64 0) [])))
     (Br (Decidable.decide (k = (15 : Int)))
     ((((0 : Int) ≤ (0 : Int)) ∧ ((0 : Int) < (((List.length ts) : Nat) : Int))) ∧
     (Br (Decidable.decide ((T.k (List.getD ts (Int.toNat (0 : Int)) default)) = (14 : Int)))
     (Ret K (.int .i64 5) [])
     (Ret K (.int .i64 0) [])))
     (Br (Decidable.decide (k = (16 : Int)))
     ((((0 : Int) ≤ (0 : Int)) ∧ ((0 : Int) < (((List.length ts) : Nat) : Int))) ∧
     (Br (Decidable.decide ((T.k (List.getD ts (Int.toNat (0 : Int)) default)) = (14 : Int)))
     (Ret K (.int .i64 6) [])
     (Ret K (.int .i64 0) [])))
     (Ret K (.int .i64 0) []))))))) ?_ (by kernel_rfl)
  have ha := hp
  unfold arity at ha
  have t0 : (0 : Int).toNat = 0 := rfl
  have t1 : (1 : Int).toNat = 1 := rfl
  have t3 : (3 : Int).toNat = 3 := rfl
  simp only [t0, t1, t3]
  clear hp
  have e : (T.mk k n ts).rdx = rdxK k (ts.getD 0 default).k (ts.getD 1 default).k (ts.getD 3 default).k := rfl
  rw [e] at hk
  clear e
  generalize (ts.getD 0 default).k = a0 at *
  generalize (ts.getD 1 default).k = a1 at *
  generalize (ts.getD 3 default).k = a3 at *
  repeat' first | refine br (fun h => ?_) (fun h => ?_) | apply And.intro
  all_goals simp only [decide_eq_true_eq, decide_eq_false_iff_not] at *
  all_goals first | omega | (unfold InR; omega) | (refine retI hk ?_; unfold rdxK; repeat' split) <;> omega
theorem sRedex_sound : Sound Try.prog 59 csRedex := by
  refine soundF (G := []) (gnil) Try.func59 rfl (by kernel_rfl) fun args hs K hCC => ?_
  unfold csRedex at hCC
  split at hCC
  case h_2 => exact hCC.elim
  rename_i k n ts
  exact ⟨Nat.le_of_ble_eq_true rfl, _, sRedex_ok k n ts K hCC.1 hCC.2⟩
/-- spec.l4Redexes -/
def csRedexesM (m : Nat) : Con
  | [.st [.int .i64 k, .int .i64 n, .slc ts (.arg 0)]], [], K => (((T.mk k n ts).size) < m ∧ ((∃ d, (T.mk k n ts).shp d = true) ∧ ((T.mk k n ts).size ≤ 100000))) ∧ ((K (.int .i64 (T.mk k n ts).crd) []))
  | _, _, _ => False
def csRedexes : Con
  | [.st [.int .i64 k, .int .i64 n, .slc ts (.arg 0)]], [], K => ((∃ d, (T.mk k n ts).shp d = true) ∧ ((T.mk k n ts).size ≤ 100000)) ∧ ((K (.int .i64 (T.mk k n ts).crd) []))
  | _, _, _ => False
theorem sRedexes_ok (m : Nat) (k n : Int) (ts : List T) (K : AV → List AV → Prop) (hm : ((T.mk k n ts).size) < m + 1) (hp : ((∃ d, (T.mk k n ts).shp d = true) ∧ ((T.mk k n ts).size ≤ 100000))) (hk : ((K (.int .i64 (T.mk k n ts).crd) []))) :
    bodyQ [(43, csRedexesM m), (59, csRedex)] TY [(5, { ι := Nat × Int, ok := fun x => x.1 ≤ ts.length ∧ 0 ≤ x.2 ∧ x.2 + crdL (ts.drop x.1) = (T.mk k n ts).crd, tl := fun x => [(1, .ptr 1), (3, .int .i64 (x.2)), (4, .int .i64 x.1)], hl := fun _ => [(1, .st [.int .i64 k, .int .i64 n, .slc ts (.arg 0)])], fh := fun _ => [], μ := fun x => ts.length - x.1 })] Try.f43 (body Try.f43) [.st [.int .i64 k, .int .i64 n, .slc ts (.arg 0)]] [] K := by
  refine of_vc (A :=
    (((arity k) = (((List.length ts) : Nat) : Int)) ∧
     (Br (Decidable.decide ((T.rdx (T.mk k n ts)) ≠ (0 : Int)))
     ((∃ x : (Prod Nat Int),
     ((((Prod.fst x) ≤ (List.length ts)) ∧ (((0 : Int) ≤ (Prod.snd x)) ∧ (((Prod.snd x) + (crdL (List.drop (Prod.fst x) ts))) = (T.crd (T.mk k n ts))))) ∧
     (((1 : Int) = (Prod.snd x)) ∧ (((0 : Int) = (((Prod.fst x) : Nat) : Int)) ∧ ((k = k) ∧ ((n = n) ∧ ((ts = ts) ∧ True))))))) ∧
     (∀ x : (Prod Nat Int),
     ((((Prod.fst x) ≤ (List.length ts)) ∧ (((0 : Int) ≤ (Prod.snd x)) ∧ (((Prod.snd x) + (crdL (List.drop (Prod.fst x) ts))) = (T.crd (T.mk k n ts))))) →
     (Br (Decidable.decide ((((Prod.fst x) : Nat) : Int) < (((List.length ts) : Nat) : Int)))
     ((((0 : Int) ≤ (((Prod.fst x) : Nat) : Int)) ∧ ((((Prod.fst x) : Nat) : Int) < (((List.length ts) : Nat) : Int))) ∧
     ((((T.size (T.mk (T.k (List.getD ts (Int.toNat (((Prod.fst x) : Nat) : Int)) default)) (T.n (List.getD ts (Int.toNat (((Prod.fst x) : Nat) : Int)) default)) (T.kids (List.getD ts (Int.toNat (((Prod.fst x) : Nat) : Int)) default)))) < m) ∧
     ((∃ d : Int,
     ((T.shp (T.mk (T.k (List.getD ts (Int.toNat (((Prod.fst x) : Nat) : Int)) default)) (T.n (List.getD ts (Int.toNat (((Prod.fst x) : Nat) : Int)) default)) (T.kids (List.getD ts (Int.toNat (((Prod.fst x) : Nat) : Int)) default))) d) = true)) ∧
     ((T.size (T.mk (T.k (List.getD ts (Int.toNat (((Prod.fst x) : Nat) : Int)) default)) (T.n (List.getD ts (Int.toNat (((Prod.fst x) : Nat) : Int)) default)) (T.kids (List.getD ts (Int.toNat (((Prod.fst x) : Nat) : Int)) default)))) ≤ (100000 : Nat)))) ∧
     ((InR ((Prod.snd x) + (T.crd (T.mk (T.k (List.getD ts (Int.toNat (((Prod.fst x) : Nat) : Int)) default)) (T.n (List.getD ts (Int.toNat (((Prod.fst x) : Nat) : Int)) default)) (T.kids (List.getD ts (Int.toNat (((Prod.fst x) : Nat) : Int)) default)))))) ∧
     ((InR ((((Prod.fst x) : Nat) : Int) + (1 : Int))) ∧
     (∃ y : (Prod Nat Int),
     ((((Prod.fst y) ≤ (List.length ts)) ∧ (((0 : Int) ≤ (Prod.snd y)) ∧ (((Prod.snd y) + (crdL (List.drop (Prod.fst y) ts))) = (T.crd (T.mk k n ts))))) ∧
     ((((Prod.snd x) + (T.crd (T.mk (T.k (List.getD ts (Int.toNat (((Prod.fst x) : Nat) : Int)) default)) (T.n (List.getD ts (Int.toNat (((Prod.fst x) : Nat) : Int)) default)) (T.kids (List.getD ts (Int.toNat (((Prod.fst x) : Nat) : Int)) default))))) = (Prod.snd y)) ∧
     ((((((Prod.fst x) : Nat) : Int) + (1 : Int)) = (((Prod.fst y) : Nat) : Int)) ∧
     ((k = k) ∧ ((n = n) ∧ ((ts = ts) ∧ ((Nat.succ ((List.length ts) - (Prod.fst y))) ≤ ((List.length ts) - (Prod.fst x))))))))))))))
     (Ret K (.int .i64 (Prod.snd x)) [])))))
     ((∃ x : (Prod Nat Int),
     ((((Prod.fst x) ≤ (List.length ts)) ∧ (((0 : Int) ≤ (Prod.snd x)) ∧ (((Prod.snd x) + (crdL (List.drop (Prod.fst x) ts))) = (T.crd (T.mk k n ts))))) ∧
     (((0 : Int) = (Prod.snd x)) ∧ (((0 : Int) = (((Prod.fst x) : Nat) : Int)) ∧ ((k = k) ∧ ((n = n) ∧ ((ts = ts) ∧ True))))))) ∧
     (∀ x : (Prod Nat Int),
     ((((Prod.fst x) ≤ (List.length ts)) ∧ (((0 : Int) ≤ (Prod.snd x)) ∧ (((Prod.snd x) + (crdL (List.drop (Prod.fst x) ts))) = (T.crd (T.mk k n ts))))) →
     (Br (Decidable.decide ((((Prod.fst x) : Nat) : Int) < (((List.length ts) : Nat) : Int)))
     ((((0 : Int) ≤ (((Prod.fst x) : Nat) : Int)) ∧ ((((Prod.fst x) : Nat) : Int) < (((List.length ts) : Nat) : Int))) ∧
     ((((T.size (T.mk (T.k (List.getD ts (Int.toNat (((Prod.fst x) : Nat) : Int)) default)) (T.n (List.getD ts (Int.toNat (((Prod.fst x) : Nat) : Int)) default)) (T.kids (List.getD ts (Int.toNat (((Prod.fst x) : Nat) : Int)) default)))) < m) ∧
     ((∃ d : Int,
     ((T.shp (T.mk (T.k (List.getD ts (Int.toNat (((Prod.fst x) : Nat) : Int)) default)) (T.n (List.getD ts (Int.toNat (((Prod.fst x) : Nat) : Int)) default)) (T.kids (List.getD ts (Int.toNat (((Prod.fst x) : Nat) : Int)) default))) d) = true)) ∧
     ((T.size (T.mk (T.k (List.getD ts (Int.toNat (((Prod.fst x) : Nat) : Int)) default)) (T.n (List.getD ts (Int.toNat (((Prod.fst x) : Nat) : Int)) default)) (T.kids (List.getD ts (Int.toNat (((Prod.fst x) : Nat) : Int)) default)))) ≤ (100000 : Nat)))) ∧
     ((InR ((Prod.snd x) + (T.crd (T.mk (T.k (List.getD ts (Int.toNat (((Prod.fst x) : Nat) : Int)) default)) (T.n (List.getD ts (Int.toNat (((Prod.fst x) : Nat) : Int)) default)) (T.kids (List.getD ts (Int.toNat (((Prod.fst x) : Nat) : Int)) default)))))) ∧
     ((InR ((((Prod.fst x) : Nat) : Int) + (1 : Int))) ∧
     (∃ y : (Prod Nat Int),
     ((((Prod.fst y) ≤ (List.length ts)) ∧ (((0 : Int) ≤ (Prod.snd y)) ∧ (((Prod.snd y) + (crdL (List.drop (Prod.fst y) ts))) = (T.crd (T.mk k n ts))))) ∧
     ((((Prod.snd x) + (T.crd (T.mk (T.k (List.getD ts (Int.toNat (((Prod.fst x) : Nat) : Int)) default)) (T.n (List.getD ts (Int.toNat (((Prod.fst x) : Nat) : Int)) default)) (T.kids (List.getD ts (Int.toNat (((Prod.fst x) : Nat) : Int)) default))))) = (Prod.snd y)) ∧
     ((((((Prod.fst x) : Nat) : Int) + (1 : Int)) = (((Prod.fst y) : Nat) : Int)) ∧
     ((k = k) ∧ ((n = n) ∧ ((ts = ts) ∧ ((Nat.succ ((List.length ts) - (Prod.fst y))) ≤ ((List.length ts) - (Prod.fst x))))))))))))))
     (Ret K (.int .i64 (Prod.snd x)) [])))))))) ?_ (by kernel_rfl)
  obtain ⟨⟨d, hd⟩, hx⟩ := hp
  have hm' : (T.mk k n ts).size < m + 1 := hm
  have hll := length_le_sizeL ts
  have hs : (T.mk k n ts).size = 1 + sizeL ts := rfl
  have hr := T.crd_range (.mk k n ts)
  have e : (T.mk k n ts).crd = (if (T.mk k n ts).rdx ≠ 0 then 1 else 0) + crdL ts := rfl
  have body : ∀ x : Nat × Int, (x.1 ≤ ts.length ∧ 0 ≤ x.2 ∧ x.2 + crdL (ts.drop x.1) = (T.mk k n ts).crd) → _ := fun x hx => hx
  have q : arity k = ts.length := shp_arity hd
  simp only [T.eta]
  refine ⟨q, br (fun h => ⟨⟨(0, 1), ⟨Nat.zero_le _, by show (0 : Int) ≤ 1; omega, ?_⟩, (by repeat' first | trivial | rfl | (simp; done) | apply And.intro)⟩, ?_⟩) (fun h => ⟨⟨(0, 0), ⟨Nat.zero_le _, by show (0 : Int) ≤ 0; omega, ?_⟩, (by repeat' first | trivial | rfl | (simp; done) | apply And.intro)⟩, ?_⟩)⟩
  · rw [e, if_pos (of_decide_eq_true h)]; rfl
  rotate_left
  · rw [e, if_neg (of_decide_eq_false h)]; rfl
  all_goals
    rintro ⟨i, c⟩ ⟨g1, g2, g3⟩
    simp only at g1 g2 g3 ⊢
    refine br (fun h2 => ?_) (fun h2 => retI hk ?_)
    · have hi : i < ts.length := by simpa using h2
      have hk1 := kid_ok hd hi
      have hk2 := crdL_drop hi
      have hk3 := T.crd_range (ts.getD i default)
      have hk4 := crdL_range (ts.drop (i + 1))
      have hk5 : (0 : Int) ≤ c + (ts.getD i default).crd := by omega
      simp only [Int.toNat_natCast]
      refine ⟨⟨by omega, by omega⟩, ⟨by omega, ⟨_, hk1.1⟩, by omega⟩, by unfold InR; omega, by unfold InR; omega, (i + 1, c + (ts.getD i default).crd), ⟨by show i + 1 ≤ _; omega, hk5, by show c + (ts.getD i default).crd + crdL (ts.drop (i + 1)) = _; omega⟩, rfl, by simp, trivial, trivial, trivial, by show Nat.succ (ts.length - (i + 1)) ≤ ts.length - i; omega⟩
    · have hi : ¬ i < ts.length := by simpa using h2
      rw [List.drop_of_length_le (by omega)] at g3
      simpa [crdL] using g3
theorem sRedexes_soundM : ∀ m : Nat, Sound Try.prog 43 (csRedexesM m)
  | 0 => by
      refine soundF (G := []) gnil Try.func43 rfl (by kernel_rfl) fun args hs K hCC => ?_
      unfold csRedexesM at hCC
      split at hCC
      case h_2 => exact hCC.elim
      exact absurd hCC.1.1 (Nat.not_lt_zero _)
  | m + 1 => by
      refine soundF (G := [(43, csRedexesM m), (59, csRedex)]) ((gcons (sRedexes_soundM m) (gcons sRedex_sound gnil))) Try.func43 rfl (by kernel_rfl) fun args hs K hCC => ?_
      unfold csRedexesM at hCC
      split at hCC
      case h_2 => exact hCC.elim
      rename_i k n ts
      exact ⟨Nat.le_of_ble_eq_true rfl, _, sRedexes_ok m k n ts K hCC.1.1 hCC.1.2 hCC.2⟩
theorem sRedexes_sound : Sound Try.prog 43 csRedexes := by
  refine sound_of_all (c := csRedexesM) (fun m => (sRedexes_soundM m)) fun args hs K hCC => ?_
  unfold csRedexes at hCC
  split at hCC
  case h_2 => exact hCC.elim
  exact ⟨_, ⟨Nat.lt_succ_self _, hCC.1⟩, hCC.2⟩
/-- spec.CountRedexes -/
def csCountRedexes : Con
  | [.st [.int .i64 k, .int .i64 n, .slc ts (.arg 0)]], [], K => True ∧ ((K (.int .i64 (if (T.mk k n ts).valid then (T.mk k n ts).crd else 0)) []))
  | _, _, _ => False
theorem sCountRedexes_ok (k n : Int) (ts : List T) (K : AV → List AV → Prop) (hp : True) (hk : ((K (.int .i64 (if (T.mk k n ts).valid then (T.mk k n ts).crd else 0)) []))) :
    bodyQ [(32, csTermValid), (43, csRedexes)] TY [] Try.f18 (body Try.f18) [.st [.int .i64 k, .int .i64 n, .slc ts (.arg 0)]] [] K := by
  refine of_vc (A :=
    (True ∧
     (Br (Bool.not (T.valid (T.mk k n ts)))
     (Ret K (.int .i64 0) [])
     (((∃ d : Int, ((T.shp (T.mk k n ts) d) = true)) ∧ ((T.size (T.mk k n ts)) ≤ (100000 : Nat))) ∧ (Ret K (.int .i64 (T.crd (T.mk k n ts))) []))))) ?_ (by kernel_rfl)
  refine ⟨trivial, br (fun h => retI hk ?_) (fun h => ⟨?_, retI hk ?_⟩)⟩
  · rw [Bool.not_eq_true'] at h; rw [h]; rfl
  · rw [Bool.not_eq_false'] at h
    have := T.valid_size h
    exact ⟨⟨30, valid_shp h⟩, by omega⟩
  · rw [Bool.not_eq_false'] at h; rw [h]; rfl
theorem sCountRedexes_sound : Sound Try.prog 18 csCountRedexes := by
  refine soundF (G := [(32, csTermValid), (43, csRedexes)]) ((gcons sTermValid_sound (gcons sRedexes_sound gnil))) Try.func18 rfl (by kernel_rfl) fun args hs K hCC => ?_
  unfold csCountRedexes at hCC
  split at hCC
  case h_2 => exact hCC.elim
  rename_i k n ts
  exact ⟨Nat.le_of_ble_eq_true rfl, _, sCountRedexes_ok k n ts K hCC.1 hCC.2⟩
/-- spec.l3IsNormal -/
def csIsNormalM (m : Nat) : Con
  | [.st [.int .i64 k, .int .i64 n, .slc ts (.arg 0)]], [], K => (((T.mk k n ts).size) < m ∧ ((∃ d, (T.mk k n ts).shp d = true) ∧ ((T.mk k n ts).size ≤ 100000))) ∧ ((K (.bool (T.mk k n ts).nrm) []))
  | _, _, _ => False
def csIsNormal : Con
  | [.st [.int .i64 k, .int .i64 n, .slc ts (.arg 0)]], [], K => ((∃ d, (T.mk k n ts).shp d = true) ∧ ((T.mk k n ts).size ≤ 100000)) ∧ ((K (.bool (T.mk k n ts).nrm) []))
  | _, _, _ => False
theorem sIsNormal_ok (m : Nat) (k n : Int) (ts : List T) (K : AV → List AV → Prop) (hm : ((T.mk k n ts).size) < m + 1) (hp : ((∃ d, (T.mk k n ts).shp d = true) ∧ ((T.mk k n ts).size ≤ 100000))) (hk : ((K (.bool (T.mk k n ts).nrm) []))) :
    bodyQ [(40, csIsNormalM m), (59, csRedex)] TY [(2, { ι := Nat, ok := fun i => i ≤ ts.length ∧ nrmL ts = nrmL (ts.drop i), tl := fun i => [(1, .ptr 1), (3, .int .i64 i)], hl := fun _ => [(1, .st [.int .i64 k, .int .i64 n, .slc ts (.arg 0)])], fh := fun _ => [], μ := fun i => ts.length - i })] Try.f40 (body Try.f40) [.st [.int .i64 k, .int .i64 n, .slc ts (.arg 0)]] [] K := by
  refine of_vc (A :=
    ((∃ x : Nat,
     (((x ≤ (List.length ts)) ∧ ((nrmL ts) = (nrmL (List.drop x ts)))) ∧ (((0 : Int) = ((x : Nat) : Int)) ∧ ((k = k) ∧ ((n = n) ∧ ((ts = ts) ∧ True)))))) ∧
     (∀ x : Nat,
     (((x ≤ (List.length ts)) ∧ ((nrmL ts) = (nrmL (List.drop x ts)))) →
     (Br (Decidable.decide (((x : Nat) : Int) < (((List.length ts) : Nat) : Int)))
     ((((0 : Int) ≤ ((x : Nat) : Int)) ∧ (((x : Nat) : Int) < (((List.length ts) : Nat) : Int))) ∧
     ((((T.size (T.mk (T.k (List.getD ts (Int.toNat ((x : Nat) : Int)) default)) (T.n (List.getD ts (Int.toNat ((x : Nat) : Int)) default)) (T.kids (List.getD ts (Int.toNat ((x : Nat) : Int)) default)))) < m) ∧
     ((∃ d : Int,
     ((T.shp (T.mk (T.k (List.getD ts (Int.toNat ((x : Nat) : Int)) default)) (T.n (List.getD ts (Int.toNat ((x : Nat) : Int)) default)) (T.kids (List.getD ts (Int.toNat ((x : Nat) : Int)) default))) d) = true)) ∧
     ((T.size (T.mk (T.k (List.getD ts (Int.toNat ((x : Nat) : Int)) default)) (T.n (List.getD ts (Int.toNat ((x : Nat) : Int)) default)) (T.kids (List.getD ts (Int.toNat ((x : Nat) : Int)) default)))) ≤ (100000 : Nat)))) ∧
     (Br (Bool.not (T.nrm (T.mk (T.k (List.getD ts (Int.toNat ((x : Nat) : Int)) default)) (T.n (List.getD ts (Int.toNat ((x : Nat) : Int)) default)) (T.kids (List.getD ts (Int.toNat ((x : Nat) : Int)) default)))))
     (Ret K (.bool false) [])
     ((InR (((x : Nat) : Int) + (1 : Int))) ∧
     (∃ y : Nat,
     (((y ≤ (List.length ts)) ∧ ((nrmL ts) = (nrmL (List.drop y ts)))) ∧
     (((((x : Nat) : Int) + (1 : Int)) = ((y : Nat) : Int)) ∧ ((k = k) ∧ ((n = n) ∧ ((ts = ts) ∧ ((Nat.succ ((List.length ts) - y)) ≤ ((List.length ts) - x))))))))))))
     (((arity k) = (((List.length ts) : Nat) : Int)) ∧ (Ret K (.bool (Decidable.decide ((T.rdx (T.mk k n ts)) = (0 : Int)))) []))))))) ?_ (by kernel_rfl)
  obtain ⟨⟨d, hd⟩, hx⟩ := hp
  have hm' : (T.mk k n ts).size < m + 1 := hm
  have hll := length_le_sizeL ts
  have hs : (T.mk k n ts).size = 1 + sizeL ts := rfl
  have q : arity k = ts.length := shp_arity hd
  have e1 : (T.mk k n ts).nrm = (nrmL ts && decide ((T.mk k n ts).rdx = 0)) := rfl
  simp only [T.eta]
  refine ⟨⟨0, ⟨Nat.zero_le _, rfl⟩, (by repeat' first | trivial | rfl | (simp; done) | apply And.intro)⟩, ?_⟩
  rintro i ⟨g1, g2⟩
  rw [g2] at e1
  refine br (fun h2 => ?_) (fun h2 => ?_)
  · have hi : i < ts.length := by simpa using h2
    have hk1 := kid_ok hd hi
    have hk2 := nrmL_drop hi
    simp only [Int.toNat_natCast]
    refine ⟨⟨by omega, by omega⟩, ⟨by omega, ⟨_, hk1.1⟩, by omega⟩, br (fun h3 => retB hk ?_) (fun h3 => ⟨by unfold InR; omega, i + 1, ⟨by omega, ?_⟩, by simp, trivial, trivial, trivial, by omega⟩)⟩
    · rw [Bool.not_eq_true'] at h3
      rw [e1, hk2, h3]; rfl
    · rw [Bool.not_eq_false'] at h3
      rw [g2, hk2, h3]; rfl
  · have hi : ¬ i < ts.length := by simpa using h2
    rw [List.drop_of_length_le (by omega)] at e1
    exact ⟨q, retB hk (by rw [e1]; rfl)⟩
theorem sIsNormal_soundM : ∀ m : Nat, Sound Try.prog 40 (csIsNormalM m)
  | 0 => by
      refine soundF (G := []) gnil Try.func40 rfl (by kernel_rfl) fun args hs K hCC => ?_
      unfold csIsNormalM at hCC
      split at hCC
      case h_2 => exact hCC.elim
      exact absurd hCC.1.1 (Nat.not_lt_zero _)
  | m + 1 => by
      refine soundF (G := [(40, csIsNormalM m), (59, csRedex)]) ((gcons (sIsNormal_soundM m) (gcons sRedex_sound gnil))) Try.func40 rfl (by kernel_rfl) fun args hs K hCC => ?_
      unfold csIsNormalM at hCC
      split at hCC
      case h_2 => exact hCC.elim
      rename_i k n ts
      exact ⟨Nat.le_of_ble_eq_true rfl, _, sIsNormal_ok m k n ts K hCC.1.1 hCC.1.2 hCC.2⟩
theorem sIsNormal_sound : Sound Try.prog 40 csIsNormal := by
  refine sound_of_all (c := csIsNormalM) (fun m => (sIsNormal_soundM m)) fun args hs K hCC => ?_
  unfold csIsNormal at hCC
  split at hCC
  case h_2 => exact hCC.elim
  exact ⟨_, ⟨Nat.lt_succ_self _, hCC.1⟩, hCC.2⟩
/-- spec.NormalTerm -/
def csNormalTerm : Con
  | [.st [.int .i64 k, .int .i64 n, .slc ts (.arg 0)]], [], K => True ∧ ((K (.bool ((T.mk k n ts).valid && (T.mk k n ts).nrm)) []))
  | _, _, _ => False
theorem sNormalTerm_ok (k n : Int) (ts : List T) (K : AV → List AV → Prop) (hp : True) (hk : ((K (.bool ((T.mk k n ts).valid && (T.mk k n ts).nrm)) []))) :
    bodyQ [(32, csTermValid), (40, csIsNormal)] TY [] Try.f13 (body Try.f13) [.st [.int .i64 k, .int .i64 n, .slc ts (.arg 0)]] [] K := by
  refine of_vc (A :=
    (True ∧
     (Br (T.valid (T.mk k n ts))
     (((∃ d : Int, ((T.shp (T.mk k n ts) d) = true)) ∧ ((T.size (T.mk k n ts)) ≤ (100000 : Nat))) ∧ (Ret K (.bool (T.nrm (T.mk k n ts))) []))
     (Ret K (.bool false) [])))) ?_ (by kernel_rfl)
  refine ⟨trivial, br (fun h => ?_) (fun h => retB hk (by rw [h]; rfl))⟩
  have := T.valid_size h
  exact ⟨⟨⟨30, valid_shp h⟩, by omega⟩, retB hk (by rw [h]; rfl)⟩
theorem sNormalTerm_sound : Sound Try.prog 13 csNormalTerm := by
  refine soundF (G := [(32, csTermValid), (40, csIsNormal)]) ((gcons sTermValid_sound (gcons sIsNormal_sound gnil))) Try.func13 rfl (by kernel_rfl) fun args hs K hCC => ?_
  unfold csNormalTerm at hCC
  split at hCC
  case h_2 => exact hCC.elim
  rename_i k n ts
  exact ⟨Nat.le_of_ble_eq_true rfl, _, sNormalTerm_ok k n ts K hCC.1 hCC.2⟩
end Go.Dk
