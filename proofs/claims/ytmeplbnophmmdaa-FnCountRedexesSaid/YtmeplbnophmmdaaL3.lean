/- Reduction: the program's functions. -/
import Derived.Test.YtmeplbnophmmdaaL2
import Derived.Test.YtmeplbnophmmdaaSt
namespace Go.Dk
set_option linter.unusedVariables false
open Go.Proofs
/-- impl.redex -/
def cRedex : Con
  | [.st [.int .i64 k, .int .i64 n, .slc ts (.arg 0)]], [], K => ((arity k = ts.length)) ∧ ((K (.int .i64 (T.mk k n ts).rdx) []))
  | _, _, _ => False
theorem Redex_ok (k n : Int) (ts : List T) (K : AV → List AV → Prop) (hp : ((arity k = ts.length))) (hk : ((K (.int .i64 (T.mk k n ts).rdx) []))) :
    bodyQ [] TY [] Try.f41 (body Try.f41) [.st [.int .i64 k, .int .i64 n, .slc ts (.arg 0)]] [] K := by
  refine of_vc (A :=
    (Br (Decidable.decide (k = (5 : Int)))
     ((((0 : Int) ≤ (0 : Int)) ∧ ((0 : Int) < (((List.length ts) : Nat) : Int))) ∧
     (Br (Decidable.decide ((T.k (List.getD ts (Int.toNat (0 : Int)) default)) = (4 : Int)))
     (Ret K (.int .i64 1) [])
     (Ret K (.int .i64 0) [])))
     (Br (Decidable.decide (k = (9 : Int)))
     ((((0 : Int) ≤ (3 : Int)) ∧ ((3 : Int) < (((List.length ts) : Nat) : Int))) ∧
     (Br (Decidable.decide ((T.k (List.getD ts (Int.toNat (3 : Int)) default)) = (7 : Int)))
     (Ret K (.int .i64 2) [])
     (Br (Decidable.decide ((T.k (List.getD ts (Int.toNat (3 : Int)) default)) = (8 : Int)))
     (Ret K (.int .i64 3) [])
     (Ret K (.int .i64 0) []))))
     (Br (Decidable.decide (k = (12 : Int)))
     ((((0 : Int) ≤ (1 : Int)) ∧ ((1 : Int) < (((List.length ts) : Nat) : Int))) ∧
     (Br (Decidable.decide ((T.k (List.getD ts (Int.toNat (1 : Int)) default)) = (11 : Int)))
     (Ret K (.int .i64 4) [])
     (Ret K (.int .i64 0) [])))
     (Br (Decidable.decide (k = (15 : Int)))
     ((((0 : Int) ≤ (0 : Int)) ∧ ((0 : Int) < (((List.length ts) : Nat) : Int))) ∧
     (Br (Decidable.decide ((T.k (List.getD ts (Int.toNat (0 : Int)) default)) = (14 : Int)))
     ((InR ((5 : Int) + k)) ∧ ((InR (((5 : Int) + k) - (15 : Int))) ∧ (Ret K (.int .i64 (((5 : Int) + k) - (15 : Int))) [])))
     (Ret K (.int .i64 0) [])))
     (Br (Decidable.decide (k = (16 : Int)))
     ((((0 : Int) ≤ (0 : Int)) ∧ ((0 : Int) < (((List.length ts) : Nat) : Int))) ∧
     (Br (Decidable.decide ((T.k (List.getD ts (Int.toNat (0 : Int)) default)) = (14 : Int)))
     ((InR ((5 : Int) + k)) ∧ ((InR (((5 : Int) + k) - (15 : Int))) ∧ (Ret K (.int .i64 (((5 : Int) + k) - (15 : Int))) [])))
     (Ret K (.int .i64 0) [])))
     (Ret K (.int .i64 0) []))))))) ?_ (by kernel_rfl)
  have ha := hp
  unfold arity at ha
  have t0 : (0 : Int).toNat = 0 := rfl
  have t1 : (1 : Int).toNat = 1 := rfl
  have t3 : (3 : Int).toNat = 3 := rfl
  simp only [t0, t1, t3]
  clear hp
  have e : (T.mk k n ts).rdx = rdxK k (ts.getD 0 default).k (ts.getD 1 default).k (ts.getD 3 default).k := rfl
  rw [e] at hk
  clear e
  generalize (ts.getD 0 default).k = a0 at *
  generalize (ts.getD 1 default).k = a1 at *
  generalize (ts.getD 3 default).k = a3 at *
  repeat' first | refine br (fun h => ?_) (fun h => ?_) | apply And.intro
  all_goals simp only [decide_eq_true_eq, decide_eq_false_iff_not] at *
  all_goals first | omega | (unfold InR; omega) | (refine retI hk ?_; unfold rdxK; repeat' split) <;> omega
theorem Redex_sound : Sound Try.prog 41 cRedex := by
  refine soundF (G := []) (gnil) Try.func41 rfl (by kernel_rfl) fun args hs K hCC => ?_
  unfold cRedex at hCC
  split at hCC
  case h_2 => exact hCC.elim
  rename_i k n ts
  exact ⟨Nat.le_of_ble_eq_true rfl, _, Redex_ok k n ts K hCC.1 hCC.2⟩
/-- impl.RedexOf -/
def cRedexOf : Con
  | [.st [.int .i64 k, .int .i64 n, .slc ts (.arg 0)]], [], K => True ∧ ((K (.int .i64 (if (T.mk k n ts).valid then (T.mk k n ts).rdx else 0)) []))
  | _, _, _ => False
theorem RedexOf_ok (k n : Int) (ts : List T) (K : AV → List AV → Prop) (hp : True) (hk : ((K (.int .i64 (if (T.mk k n ts).valid then (T.mk k n ts).rdx else 0)) []))) :
    bodyQ [(14, cTermValid), (41, cRedex)] TY [] Try.f15 (body Try.f15) [.st [.int .i64 k, .int .i64 n, .slc ts (.arg 0)]] [] K := by
  refine of_vc (A :=
    (True ∧
     (Br (Bool.not (T.valid (T.mk k n ts)))
     (Ret K (.int .i64 0) [])
     (((arity k) = (((List.length ts) : Nat) : Int)) ∧ (Ret K (.int .i64 (T.rdx (T.mk k n ts))) []))))) ?_ (by kernel_rfl)
  refine ⟨trivial, br (fun h => retI hk ?_) (fun h => ⟨?_, retI hk ?_⟩)⟩
  · rw [Bool.not_eq_true'] at h; rw [h]; rfl
  · rw [Bool.not_eq_false'] at h
    exact valid_arity h
  · rw [Bool.not_eq_false'] at h; rw [h]; rfl
theorem RedexOf_sound : Sound Try.prog 15 cRedexOf := by
  refine soundF (G := [(14, cTermValid), (41, cRedex)]) ((gcons TermValid_sound (gcons Redex_sound gnil))) Try.func15 rfl (by kernel_rfl) fun args hs K hCC => ?_
  unfold cRedexOf at hCC
  split at hCC
  case h_2 => exact hCC.elim
  rename_i k n ts
  exact ⟨Nat.le_of_ble_eq_true rfl, _, RedexOf_ok k n ts K hCC.1 hCC.2⟩
/-- impl.countRedexes -/
def cCRedM (m : Nat) : Con
  | [.st [.int .i64 k, .int .i64 n, .slc ts (.arg 0)]], [], K => (((T.mk k n ts).size) < m ∧ ((∃ d, (T.mk k n ts).shp d = true) ∧ ((T.mk k n ts).size ≤ 100000))) ∧ ((K (.int .i64 (T.mk k n ts).crd) []))
  | _, _, _ => False
def cCRed : Con
  | [.st [.int .i64 k, .int .i64 n, .slc ts (.arg 0)]], [], K => ((∃ d, (T.mk k n ts).shp d = true) ∧ ((T.mk k n ts).size ≤ 100000)) ∧ ((K (.int .i64 (T.mk k n ts).crd) []))
  | _, _, _ => False
theorem CRed_ok (m : Nat) (k n : Int) (ts : List T) (K : AV → List AV → Prop) (hm : ((T.mk k n ts).size) < m + 1) (hp : ((∃ d, (T.mk k n ts).shp d = true) ∧ ((T.mk k n ts).size ≤ 100000))) (hk : ((K (.int .i64 (T.mk k n ts).crd) []))) :
    bodyQ [(42, cCRedM m), (41, cRedex)] TY [(5, { ι := Nat × Int, ok := fun x => x.1 ≤ ts.length ∧ 0 ≤ x.2 ∧ x.2 + crdL (ts.drop x.1) = (T.mk k n ts).crd, tl := fun x => [(3, .int .i64 (x.2)), (10, .slc ts (.arg 0)), (11, .int .i64 ts.length), (12, .int .i64 x.1)], hl := fun _ => [], fh := fun _ => [], μ := fun x => ts.length - x.1 })] Try.f42 (body Try.f42) [.st [.int .i64 k, .int .i64 n, .slc ts (.arg 0)]] [] K := by
  refine of_vc (A :=
    (((arity k) = (((List.length ts) : Nat) : Int)) ∧
     (Br (Decidable.decide ((T.rdx (T.mk k n ts)) ≠ (0 : Int)))
     ((∃ x : (Prod Nat Int),
     ((((Prod.fst x) ≤ (List.length ts)) ∧ (((0 : Int) ≤ (Prod.snd x)) ∧ (((Prod.snd x) + (crdL (List.drop (Prod.fst x) ts))) = (T.crd (T.mk k n ts))))) ∧
     (((1 : Int) = (Prod.snd x)) ∧
     ((ts = ts) ∧ (((((List.length ts) : Nat) : Int) = (((List.length ts) : Nat) : Int)) ∧ (((0 : Int) = (((Prod.fst x) : Nat) : Int)) ∧ True)))))) ∧
     (∀ x : (Prod Nat Int),
     ((((Prod.fst x) ≤ (List.length ts)) ∧ (((0 : Int) ≤ (Prod.snd x)) ∧ (((Prod.snd x) + (crdL (List.drop (Prod.fst x) ts))) = (T.crd (T.mk k n ts))))) →
     (Br (Decidable.decide ((((Prod.fst x) : Nat) : Int) < (((List.length ts) : Nat) : Int)))
     ((((0 : Int) ≤ (((Prod.fst x) : Nat) : Int)) ∧ ((((Prod.fst x) : Nat) : Int) < (((List.length ts) : Nat) : Int))) ∧
     ((((T.size (T.mk (T.k (List.getD ts (Int.toNat (((Prod.fst x) : Nat) : Int)) default)) (T.n (List.getD ts (Int.toNat (((Prod.fst x) : Nat) : Int)) default)) (T.kids (List.getD ts (Int.toNat (((Prod.fst x) : Nat) : Int)) default)))) < m) ∧
     ((∃ d : Int,
     ((T.shp (T.mk (T.k (List.getD ts (Int.toNat (((Prod.fst x) : Nat) : Int)) default)) (T.n (List.getD ts (Int.toNat (((Prod.fst x) : Nat) : Int)) default)) (T.kids (List.getD ts (Int.toNat (((Prod.fst x) : Nat) : Int)) default))) d) = true)) ∧
     ((T.size (T.mk (T.k (List.getD ts (Int.toNat (((Prod.fst x) : Nat) : Int)) default)) (T.n (List.getD ts (Int.toNat (((Prod.fst x) : Nat) : Int)) default)) (T.kids (List.getD ts (Int.toNat (((Prod.fst x) : Nat) : Int)) default)))) ≤ (100000 : Nat)))) ∧
     ((InR ((Prod.snd x) + (T.crd (T.mk (T.k (List.getD ts (Int.toNat (((Prod.fst x) : Nat) : Int)) default)) (T.n (List.getD ts (Int.toNat (((Prod.fst x) : Nat) : Int)) default)) (T.kids (List.getD ts (Int.toNat (((Prod.fst x) : Nat) : Int)) default)))))) ∧
     ((InR ((((Prod.fst x) : Nat) : Int) + (1 : Int))) ∧
     (∃ y : (Prod Nat Int),
     ((((Prod.fst y) ≤ (List.length ts)) ∧ (((0 : Int) ≤ (Prod.snd y)) ∧ (((Prod.snd y) + (crdL (List.drop (Prod.fst y) ts))) = (T.crd (T.mk k n ts))))) ∧
     ((((Prod.snd x) + (T.crd (T.mk (T.k (List.getD ts (Int.toNat (((Prod.fst x) : Nat) : Int)) default)) (T.n (List.getD ts (Int.toNat (((Prod.fst x) : Nat) : Int)) default)) (T.kids (List.getD ts (Int.toNat (((Prod.fst x) : Nat) : Int)) default))))) = (Prod.snd y)) ∧
     ((ts = ts) ∧
     (((((List.length ts) : Nat) : Int) = (((List.length ts) : Nat) : Int)) ∧
     ((((((Prod.fst x) : Nat) : Int) + (1 : Int)) = (((Prod.fst y) : Nat) : Int)) ∧
     ((Nat.succ ((List.length ts) - (Prod.fst y))) ≤ ((List.length ts) - (Prod.fst x)))))))))))))
     (Ret K (.int .i64 (Prod.snd x)) [])))))
     ((∃ x : (Prod Nat Int),
     ((((Prod.fst x) ≤ (List.length ts)) ∧ (((0 : Int) ≤ (Prod.snd x)) ∧ (((Prod.snd x) + (crdL (List.drop (Prod.fst x) ts))) = (T.crd (T.mk k n ts))))) ∧
     (((0 : Int) = (Prod.snd x)) ∧
     ((ts = ts) ∧ (((((List.length ts) : Nat) : Int) = (((List.length ts) : Nat) : Int)) ∧ (((0 : Int) = (((Prod.fst x) : Nat) : Int)) ∧ True)))))) ∧
     (∀ x : (Prod Nat Int),
     ((((Prod.fst x) ≤ (List.length ts)) ∧ (((0 : Int) ≤ (Prod.snd x)) ∧ (((Prod.snd x) + (crdL (List.drop (Prod.fst x) ts))) = (T.crd (T.mk k n ts))))) →
     (Br (Decidable.decide ((((Prod.fst x) : Nat) : Int) < (((List.length ts) : Nat) : Int)))
     ((((0 : Int) ≤ (((Prod.fst x) : Nat) : Int)) ∧ ((((Prod.fst x) : Nat) : Int) < (((List.length ts) : Nat) : Int))) ∧
     ((((T.size (T.mk (T.k (List.getD ts (Int.toNat (((Prod.fst x) : Nat) : Int)) default)) (T.n (List.getD ts (Int.toNat (((Prod.fst x) : Nat) : Int)) default)) (T.kids (List.getD ts (Int.toNat (((Prod.fst x) : Nat) : Int)) default)))) < m) ∧
     ((∃ d : Int,
     ((T.shp (T.mk (T.k (List.getD ts (Int.toNat (((Prod.fst x) : Nat) : Int)) default)) (T.n (List.getD ts (Int.toNat (((Prod.fst x) : Nat) : Int)) default)) (T.kids (List.getD ts (Int.toNat (((Prod.fst x) : Nat) : Int)) default))) d) = true)) ∧
     ((T.size (T.mk (T.k (List.getD ts (Int.toNat (((Prod.fst x) : Nat) : Int)) default)) (T.n (List.getD ts (Int.toNat (((Prod.fst x) : Nat) : Int)) default)) (T.kids (List.getD ts (Int.toNat (((Prod.fst x) : Nat) : Int)) default)))) ≤ (100000 : Nat)))) ∧
     ((InR ((Prod.snd x) + (T.crd (T.mk (T.k (List.getD ts (Int.toNat (((Prod.fst x) : Nat) : Int)) default)) (T.n (List.getD ts (Int.toNat (((Prod.fst x) : Nat) : Int)) default)) (T.kids (List.getD ts (Int.toNat (((Prod.fst x) : Nat) : Int)) default)))))) ∧
     ((InR ((((Prod.fst x) : Nat) : Int) + (1 : Int))) ∧
     (∃ y : (Prod Nat Int),
     ((((Prod.fst y) ≤ (List.length ts)) ∧ (((0 : Int) ≤ (Prod.snd y)) ∧ (((Prod.snd y) + (crdL (List.drop (Prod.fst y) ts))) = (T.crd (T.mk k n ts))))) ∧
     ((((Prod.snd x) + (T.crd (T.mk (T.k (List.getD ts (Int.toNat (((Prod.fst x) : Nat) : Int)) default)) (T.n (List.getD ts (Int.toNat (((Prod.fst x) : Nat) : Int)) default)) (T.kids (List.getD ts (Int.toNat (((Prod.fst x) : Nat) : Int)) default))))) = (Prod.snd y)) ∧
     ((ts = ts) ∧
     (((((List.length ts) : Nat) : Int) = (((List.length ts) : Nat) : Int)) ∧
     ((((((Prod.fst x) : Nat) : Int) + (1 : Int)) = (((Prod.fst y) : Nat) : Int)) ∧
     ((Nat.succ ((List.length ts) - (Prod.fst y))) ≤ ((List.length ts) - (Prod.fst x)))))))))))))
     (Ret K (.int .i64 (Prod.snd x)) [])))))))) ?_ (by kernel_rfl)
  obtain ⟨⟨d, hd⟩, hx⟩ := hp
  have hm' : (T.mk k n ts).size < m + 1 := hm
  have hll := length_le_sizeL ts
  have hs : (T.mk k n ts).size = 1 + sizeL ts := rfl
  have hr := T.crd_range (.mk k n ts)
  have e : (T.mk k n ts).crd = (if (T.mk k n ts).rdx ≠ 0 then 1 else 0) + crdL ts := rfl
  have body : ∀ x : Nat × Int, (x.1 ≤ ts.length ∧ 0 ≤ x.2 ∧ x.2 + crdL (ts.drop x.1) = (T.mk k n ts).crd) → _ := fun x hx => hx
  have q : arity k = ts.length := shp_arity hd
  simp only [T.eta]
  refine ⟨q, br (fun h => ⟨⟨(0, 1), ⟨Nat.zero_le _, by show (0 : Int) ≤ 1; omega, ?_⟩, (by repeat' first | trivial | rfl | (simp; done) | apply And.intro)⟩, ?_⟩) (fun h => ⟨⟨(0, 0), ⟨Nat.zero_le _, by show (0 : Int) ≤ 0; omega, ?_⟩, (by repeat' first | trivial | rfl | (simp; done) | apply And.intro)⟩, ?_⟩)⟩
  · rw [e, if_pos (of_decide_eq_true h)]; rfl
  rotate_left
  · rw [e, if_neg (of_decide_eq_false h)]; rfl
  all_goals
    rintro ⟨i, c⟩ ⟨g1, g2, g3⟩
    simp only at g1 g2 g3 ⊢
    refine br (fun h2 => ?_) (fun h2 => retI hk ?_)
    · have hi : i < ts.length := by simpa using h2
      have hk1 := kid_ok hd hi
      have hk2 := crdL_drop hi
      have hk3 := T.crd_range (ts.getD i default)
      have hk4 := crdL_range (ts.drop (i + 1))
      have hk5 : (0 : Int) ≤ c + (ts.getD i default).crd := by omega
      simp only [Int.toNat_natCast]
      refine ⟨⟨by omega, by omega⟩, ⟨by omega, ⟨_, hk1.1⟩, by omega⟩, by unfold InR; omega, by unfold InR; omega, (i + 1, c + (ts.getD i default).crd), ⟨by show i + 1 ≤ _; omega, hk5, by show c + (ts.getD i default).crd + crdL (ts.drop (i + 1)) = _; omega⟩, rfl, trivial, trivial, by simp, by show Nat.succ (ts.length - (i + 1)) ≤ ts.length - i; omega⟩
    · have hi : ¬ i < ts.length := by simpa using h2
      rw [List.drop_of_length_le (by omega)] at g3
      simpa [crdL] using g3
theorem CRed_soundM : ∀ m : Nat, Sound Try.prog 42 (cCRedM m)
  | 0 => by
      refine soundF (G := []) gnil Try.func42 rfl (by kernel_rfl) fun args hs K hCC => ?_
      unfold cCRedM at hCC
      split at hCC
      case h_2 => exact hCC.elim
      exact absurd hCC.1.1 (Nat.not_lt_zero _)
  | m + 1 => by
      refine soundF (G := [(42, cCRedM m), (41, cRedex)]) ((gcons (CRed_soundM m) (gcons Redex_sound gnil))) Try.func42 rfl (by kernel_rfl) fun args hs K hCC => ?_
      unfold cCRedM at hCC
      split at hCC
      case h_2 => exact hCC.elim
      rename_i k n ts
      exact ⟨Nat.le_of_ble_eq_true rfl, _, CRed_ok m k n ts K hCC.1.1 hCC.1.2 hCC.2⟩
theorem CRed_sound : Sound Try.prog 42 cCRed := by
  refine sound_of_all (c := cCRedM) (fun m => (CRed_soundM m)) fun args hs K hCC => ?_
  unfold cCRed at hCC
  split at hCC
  case h_2 => exact hCC.elim
  exact ⟨_, ⟨Nat.lt_succ_self _, hCC.1⟩, hCC.2⟩
/-- impl.CountRedexes -/
def cCountRedexes : Con
  | [.st [.int .i64 k, .int .i64 n, .slc ts (.arg 0)]], [], K => True ∧ ((K (.int .i64 (if (T.mk k n ts).valid then (T.mk k n ts).crd else 0)) []))
  | _, _, _ => False
theorem CountRedexes_ok (k n : Int) (ts : List T) (K : AV → List AV → Prop) (hp : True) (hk : ((K (.int .i64 (if (T.mk k n ts).valid then (T.mk k n ts).crd else 0)) []))) :
    bodyQ [(14, cTermValid), (42, cCRed)] TY [] Try.f17 (body Try.f17) [.st [.int .i64 k, .int .i64 n, .slc ts (.arg 0)]] [] K := by
  refine of_vc (A :=
    (True ∧
     (Br (Bool.not (T.valid (T.mk k n ts)))
     (Ret K (.int .i64 0) [])
     (((∃ d : Int, ((T.shp (T.mk k n ts) d) = true)) ∧ ((T.size (T.mk k n ts)) ≤ (100000 : Nat))) ∧ (Ret K (.int .i64 (T.crd (T.mk k n ts))) []))))) ?_ (by kernel_rfl)
  refine ⟨trivial, br (fun h => retI hk ?_) (fun h => ⟨?_, retI hk ?_⟩)⟩
  · rw [Bool.not_eq_true'] at h; rw [h]; rfl
  · rw [Bool.not_eq_false'] at h
    have := T.valid_size h
    exact ⟨⟨30, valid_shp h⟩, by omega⟩
  · rw [Bool.not_eq_false'] at h; rw [h]; rfl
theorem CountRedexes_sound : Sound Try.prog 17 cCountRedexes := by
  refine soundF (G := [(14, cTermValid), (42, cCRed)]) ((gcons TermValid_sound (gcons CRed_sound gnil))) Try.func17 rfl (by kernel_rfl) fun args hs K hCC => ?_
  unfold cCountRedexes at hCC
  split at hCC
  case h_2 => exact hCC.elim
  rename_i k n ts
  exact ⟨Nat.le_of_ble_eq_true rfl, _, CountRedexes_ok k n ts K hCC.1 hCC.2⟩
/-- impl.outer -/
def cOuterM (m : Nat) : Con
  | [.st [.int .i64 k, .int .i64 n, .slc ts (.arg 0)]], [], K => (((T.mk k n ts).size) < m ∧ ((∃ d, (T.mk k n ts).shp d = true) ∧ ((T.mk k n ts).size ≤ 100000))) ∧ ((∀ w : List Int, w.length ≤ (T.mk k n ts).size → (plO.o (T.mk k n ts) = true → w = plO.w (T.mk k n ts)) → K (.tup [.ints .i64 w (.iv 4 0 true (.tok 0)), .bool (plO.o (T.mk k n ts))]) []))
  | _, _, _ => False
def cOuter : Con
  | [.st [.int .i64 k, .int .i64 n, .slc ts (.arg 0)]], [], K => ((∃ d, (T.mk k n ts).shp d = true) ∧ ((T.mk k n ts).size ≤ 100000)) ∧ ((∀ w : List Int, w.length ≤ (T.mk k n ts).size → (plO.o (T.mk k n ts) = true → w = plO.w (T.mk k n ts)) → K (.tup [.ints .i64 w (.iv 4 0 true (.tok 0)), .bool (plO.o (T.mk k n ts))]) []))
  | _, _, _ => False
theorem Outer_ok (m : Nat) (k n : Int) (ts : List T) (K : AV → List AV → Prop) (hm : ((T.mk k n ts).size) < m + 1) (hp : ((∃ d, (T.mk k n ts).shp d = true) ∧ ((T.mk k n ts).size ≤ 100000))) (hk : ((∀ w : List Int, w.length ≤ (T.mk k n ts).size → (plO.o (T.mk k n ts) = true → w = plO.w (T.mk k n ts)) → K (.tup [.ints .i64 w (.iv 4 0 true (.tok 0)), .bool (plO.o (T.mk k n ts))]) []))) :
    bodyQ [(39, cOuterM m), (41, cRedex)] TY [(4, { ι := Nat, ok := fun i => i ≤ ts.length ∧ nrmL ts = nrmL (ts.drop i) ∧ outwL ts 0 = outwL (ts.drop i) i, tl := fun i => [(2, .ints .i64 [] (.iv 0 0 true .full)), (3, .bool false), (12, .slc ts (.arg 0)), (13, .int .i64 ts.length), (14, .int .i64 i)], hl := fun _ => [], fh := fun _ => [], μ := fun i => ts.length - i })] Try.f39 (body Try.f39) [.st [.int .i64 k, .int .i64 n, .slc ts (.arg 0)]] [] K := by
  refine of_vc (A :=
    (((arity k) = (((List.length ts) : Nat) : Int)) ∧
     (Br (Decidable.decide ((T.rdx (T.mk k n ts)) ≠ (0 : Int)))
     (Ret K (.tup [(.ints .i64 ([] : List Int) (.iv 0 0 true .full)), (.bool true)]) [])
     ((∃ x : Nat,
     (((x ≤ (List.length ts)) ∧ (((nrmL ts) = (nrmL (List.drop x ts))) ∧ ((outwL ts (0 : Nat)) = (outwL (List.drop x ts) x)))) ∧
     ((([] : List Int) = ([] : List Int)) ∧
     ((false = false) ∧ ((ts = ts) ∧ (((((List.length ts) : Nat) : Int) = (((List.length ts) : Nat) : Int)) ∧ (((0 : Int) = ((x : Nat) : Int)) ∧ True))))))) ∧
     (∀ x : Nat,
     (((x ≤ (List.length ts)) ∧ (((nrmL ts) = (nrmL (List.drop x ts))) ∧ ((outwL ts (0 : Nat)) = (outwL (List.drop x ts) x)))) →
     (Br (Decidable.decide (((x : Nat) : Int) < (((List.length ts) : Nat) : Int)))
     ((((0 : Int) ≤ ((x : Nat) : Int)) ∧ (((x : Nat) : Int) < (((List.length ts) : Nat) : Int))) ∧
     ((((T.size (T.mk (T.k (List.getD ts (Int.toNat ((x : Nat) : Int)) default)) (T.n (List.getD ts (Int.toNat ((x : Nat) : Int)) default)) (T.kids (List.getD ts (Int.toNat ((x : Nat) : Int)) default)))) < m) ∧
     ((∃ d : Int,
     ((T.shp (T.mk (T.k (List.getD ts (Int.toNat ((x : Nat) : Int)) default)) (T.n (List.getD ts (Int.toNat ((x : Nat) : Int)) default)) (T.kids (List.getD ts (Int.toNat ((x : Nat) : Int)) default))) d) = true)) ∧
     ((T.size (T.mk (T.k (List.getD ts (Int.toNat ((x : Nat) : Int)) default)) (T.n (List.getD ts (Int.toNat ((x : Nat) : Int)) default)) (T.kids (List.getD ts (Int.toNat ((x : Nat) : Int)) default)))) ≤ (100000 : Nat)))) ∧
     (∀ w : (List Int),
     (((List.length w) ≤ (T.size (T.mk (T.k (List.getD ts (Int.toNat ((x : Nat) : Int)) default)) (T.n (List.getD ts (Int.toNat ((x : Nat) : Int)) default)) (T.kids (List.getD ts (Int.toNat ((x : Nat) : Int)) default))))) →
     ((((Pl.o plO (T.mk (T.k (List.getD ts (Int.toNat ((x : Nat) : Int)) default)) (T.n (List.getD ts (Int.toNat ((x : Nat) : Int)) default)) (T.kids (List.getD ts (Int.toNat ((x : Nat) : Int)) default)))) = true) → (w = (Pl.w plO (T.mk (T.k (List.getD ts (Int.toNat ((x : Nat) : Int)) default)) (T.n (List.getD ts (Int.toNat ((x : Nat) : Int)) default)) (T.kids (List.getD ts (Int.toNat ((x : Nat) : Int)) default)))))) →
     (Br (Pl.o plO (T.mk (T.k (List.getD ts (Int.toNat ((x : Nat) : Int)) default)) (T.n (List.getD ts (Int.toNat ((x : Nat) : Int)) default)) (T.kids (List.getD ts (Int.toNat ((x : Nat) : Int)) default))))
     ((((1 : Int) + (((List.length w) : Nat) : Int)) ≤ (1099511627776 : Int)) ∧
     (Ret K (.tup [(.ints .i64 ([((x : Nat) : Int)] ++ w) (.iv 4 0 true (.tok 0))), (.bool true)]) []))
     ((InR (((x : Nat) : Int) + (1 : Int))) ∧
     (∃ y : Nat,
     (((y ≤ (List.length ts)) ∧ (((nrmL ts) = (nrmL (List.drop y ts))) ∧ ((outwL ts (0 : Nat)) = (outwL (List.drop y ts) y)))) ∧
     ((([] : List Int) = ([] : List Int)) ∧
     ((false = false) ∧
     ((ts = ts) ∧
     (((((List.length ts) : Nat) : Int) = (((List.length ts) : Nat) : Int)) ∧
     (((((x : Nat) : Int) + (1 : Int)) = ((y : Nat) : Int)) ∧ ((Nat.succ ((List.length ts) - y)) ≤ ((List.length ts) - x))))))))))))))))
     (Ret K (.tup [(.ints .i64 ([] : List Int) (.iv 0 0 true .full)), (.bool false)]) [])))))))) ?_ (by kernel_rfl)
  obtain ⟨⟨d, hd⟩, hx⟩ := hp
  have hm' : (T.mk k n ts).size < m + 1 := hm
  have hll := length_le_sizeL ts
  have hs : (T.mk k n ts).size = 1 + sizeL ts := rfl
  have q : arity k = ts.length := shp_arity hd
  have e1 : plO.o (T.mk k n ts) = !(nrmL ts && decide ((T.mk k n ts).rdx = 0)) := rfl
  have e2 : plO.w (T.mk k n ts) = if (T.mk k n ts).rdx ≠ 0 then [] else outwL ts 0 := rfl
  simp only [T.eta]
  refine ⟨q, br (fun h => ?_) (fun h => ⟨⟨0, ⟨Nat.zero_le _, rfl, rfl⟩, (by repeat' first | trivial | rfl | (simp; done) | apply And.intro)⟩, ?_⟩)⟩
  · have h := of_decide_eq_true h
    have ho : plO.o (T.mk k n ts) = true := by rw [e1, decide_eq_false h, Bool.and_false]; rfl
    rw [ho] at hk
    exact fin (hk [] (Nat.zero_le _) fun _ => by rw [e2, if_pos h]) (by repeat' first | trivial | rfl | (simp; done) | apply And.intro) trivial
  rintro i ⟨g1, g2, g3⟩
  have h := of_decide_eq_false h
  have h : (T.mk k n ts).rdx = 0 := by omega
  rw [if_neg (by omega), g3] at e2
  rw [decide_eq_true h, Bool.and_true, g2] at e1
  refine br (fun h2 => ?_) (fun h2 => ?_)
  · have hi : i < ts.length := by simpa using h2
    have hk1 := kid_ok hd hi
    have hk2 := nrmL_drop hi
    have hk3 := outwL_drop hi
    have hk4 := T.outw_len (ts.getD i default)
    have eo : plO.o (ts.getD i default) = !(ts.getD i default).nrm := rfl
    have ew : plO.w (ts.getD i default) = (ts.getD i default).outw := rfl
    simp only [Int.toNat_natCast]
    refine ⟨⟨by omega, by omega⟩, ⟨by omega, ⟨_, hk1.1⟩, by omega⟩, fun w hwl hw => ?_⟩
    rw [eo, ew] at hw
    rw [eo]
    refine br (fun h3 => ?_) (fun h3 => ?_)
    · have h3 : (ts.getD i default).nrm = false := by simpa using h3
      have hw := hw (by rw [h3]; rfl)
      rw [hk2, h3, Bool.false_and] at e1
      rw [hk3, h3] at e2
      rw [e1] at hk
      refine ⟨by rw [hw]; omega, fin (hk ([(i : Int)] ++ w) (by have := sizeL_mem (getD_mem hi); simp; omega) fun _ => ?_) (by repeat' first | trivial | rfl | (simp; done) | apply And.intro) trivial⟩
      rw [e2, hw]; rfl
    · have h3 : (ts.getD i default).nrm = true := by simpa using h3
      refine ⟨by unfold InR; omega, i + 1, ⟨by omega, ?_, ?_⟩, (by repeat' first | trivial | rfl | (simp; done) | (dsimp only; omega) | omega | apply And.intro)⟩
      · rw [g2, hk2, h3]; rfl
      · rw [g3, hk3, h3]; rfl
  · have hi : ¬ i < ts.length := by simpa using h2
    rw [List.drop_of_length_le (by omega)] at e1
    have e1 : plO.o (T.mk k n ts) = false := e1
    rw [e1] at hk
    exact fin (hk [] (Nat.zero_le _) fun h => by cases h) (by repeat' first | trivial | rfl | (simp; done) | apply And.intro) trivial
theorem Outer_soundM : ∀ m : Nat, Sound Try.prog 39 (cOuterM m)
  | 0 => by
      refine soundF (G := []) gnil Try.func39 rfl (by kernel_rfl) fun args hs K hCC => ?_
      unfold cOuterM at hCC
      split at hCC
      case h_2 => exact hCC.elim
      exact absurd hCC.1.1 (Nat.not_lt_zero _)
  | m + 1 => by
      refine soundF (G := [(39, cOuterM m), (41, cRedex)]) ((gcons (Outer_soundM m) (gcons Redex_sound gnil))) Try.func39 rfl (by kernel_rfl) fun args hs K hCC => ?_
      unfold cOuterM at hCC
      split at hCC
      case h_2 => exact hCC.elim
      rename_i k n ts
      exact ⟨Nat.le_of_ble_eq_true rfl, _, Outer_ok m k n ts K hCC.1.1 hCC.1.2 hCC.2⟩
theorem Outer_sound : Sound Try.prog 39 cOuter := by
  refine sound_of_all (c := cOuterM) (fun m => (Outer_soundM m)) fun args hs K hCC => ?_
  unfold cOuter at hCC
  split at hCC
  case h_2 => exact hCC.elim
  exact ⟨_, ⟨Nat.lt_succ_self _, hCC.1⟩, hCC.2⟩
/-- impl.NormalTerm -/
def cNormalTerm : Con
  | [.st [.int .i64 k, .int .i64 n, .slc ts (.arg 0)]], [], K => True ∧ ((K (.bool ((T.mk k n ts).valid && (T.mk k n ts).nrm)) []))
  | _, _, _ => False
theorem NormalTerm_ok (k n : Int) (ts : List T) (K : AV → List AV → Prop) (hp : True) (hk : ((K (.bool ((T.mk k n ts).valid && (T.mk k n ts).nrm)) []))) :
    bodyQ [(14, cTermValid), (39, cOuter)] TY [] Try.f12 (body Try.f12) [.st [.int .i64 k, .int .i64 n, .slc ts (.arg 0)]] [] K := by
  refine of_vc (A :=
    (True ∧
     (Br (Bool.not (T.valid (T.mk k n ts)))
     (Ret K (.bool false) [])
     (((∃ d : Int, ((T.shp (T.mk k n ts) d) = true)) ∧ ((T.size (T.mk k n ts)) ≤ (100000 : Nat))) ∧
     (∀ w : (List Int),
     (((List.length w) ≤ (T.size (T.mk k n ts))) →
     ((((Pl.o plO (T.mk k n ts)) = true) → (w = (Pl.w plO (T.mk k n ts)))) → (Ret K (.bool (Bool.not (Pl.o plO (T.mk k n ts)))) [])))))))) ?_ (by kernel_rfl)
  refine ⟨trivial, br (fun h => retB hk ?_) (fun h => ?_)⟩
  · rw [Bool.not_eq_true'] at h; rw [h]; rfl
  · rw [Bool.not_eq_false'] at h
    have := T.valid_size h
    refine ⟨⟨⟨30, valid_shp h⟩, by omega⟩, fun w _ _ => retB hk ?_⟩
    have eo : plO.o (T.mk k n ts) = !(T.mk k n ts).nrm := rfl
    rw [h, eo]; simp
theorem NormalTerm_sound : Sound Try.prog 12 cNormalTerm := by
  refine soundF (G := [(14, cTermValid), (39, cOuter)]) ((gcons TermValid_sound (gcons Outer_sound gnil))) Try.func12 rfl (by kernel_rfl) fun args hs K hCC => ?_
  unfold cNormalTerm at hCC
  split at hCC
  case h_2 => exact hCC.elim
  rename_i k n ts
  exact ⟨Nat.le_of_ble_eq_true rfl, _, NormalTerm_ok k n ts K hCC.1 hCC.2⟩
end Go.Dk
