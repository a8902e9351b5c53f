/- Terms: the program's functions on terms. -/
import Derived.Test.YteamklllllembaaDoorTv
namespace Go.Dk
set_option linter.unusedVariables false
open Go.Proofs
/-- impl.within -/
def cWithin : Con
  | [.int .i64 n, .int .i64 l, .int .i64 h], [], K => True ∧ ((K (.bool (decide (l ≤ n ∧ n ≤ h))) []))
  | _, _, _ => False
theorem Within_ok (n l h : Int) (K : AV → List AV → Prop) (hp : True) (hk : ((K (.bool (decide (l ≤ n ∧ n ≤ h))) []))) :
    bodyQ [] TY [] Tryd.f61 (body Tryd.f61) [.int .i64 n, .int .i64 l, .int .i64 h] [] K := by
  refine of_vc (A :=
    (Br (Decidable.decide (l ≤ n)) (Ret K (.bool (Decidable.decide (n ≤ h))) []) (Ret K (.bool false) []))) ?_ (by kernel_rfl)
  refine br (fun h1 => retB hk ?_) (fun h1 => retB hk ?_)
  · simp at h1; simp [h1]
  · simp at h1; have : ¬ l ≤ n := by omega
    simp [this]
theorem Within_sound : Sound Tryd.prog 61 cWithin := by
  refine soundF (G := []) (gnil) Tryd.func61 rfl (by kernel_rfl) fun args hs K hCC => ?_
  unfold cWithin at hCC
  split at hCC
  case h_2 => exact hCC.elim
  rename_i n l h
  exact ⟨Nat.le_of_ble_eq_true rfl, _, Within_ok n l h K hCC.1 hCC.2⟩
/-- impl.operands -/
def cOperands : Con
  | [.int .i64 k], [], K => True ∧ ((K (.int .i64 (arity k)) []))
  | _, _, _ => False
theorem Operands_ok (k : Int) (K : AV → List AV → Prop) (hp : True) (hk : ((K (.int .i64 (arity k)) []))) :
    bodyQ [(61, cWithin)] TY [] Tryd.f60 (body Tryd.f60) [.int .i64 k] [] K := by
  refine of_vc (A :=
    (True ∧
     (Br (Bool.not (Decidable.decide (((1 : Int) ≤ k) ∧ (k ≤ (16 : Int)))))
     (Ret K (.int .i64 (- (1 : Int))) [])
     ((InR (k - (1 : Int))) ∧
     ((((0 : Int) ≤ (k - (1 : Int))) ∧ ((k - (1 : Int)) < (16 : Int))) ∧
     (Ret K (.int .i64 (List.getD [(0 : Int), (0 : Int), (2 : Int), (2 : Int), (2 : Int), (0 : Int), (0 : Int), (1 : Int), (4 : Int), (3 : Int), (1 : Int), (3 : Int), (2 : Int), (3 : Int), (1 : Int), (1 : Int)] (Int.toNat (k - (1 : Int))) (0 : Int))) [])))))) ?_ (by kernel_rfl)
  refine ⟨trivial, br (fun h => ?_) (fun h => ?_)⟩
  · have h : ¬ (1 ≤ k ∧ k ≤ 16) := by simp at h; omega
    refine retI hk ?_
    unfold arity; repeat' split <;> omega
  · have h : 1 ≤ k ∧ k ≤ 16 := by simpa using h
    refine ⟨by unfold InR; omega, by omega, retI hk ?_⟩
    obtain ⟨i, hi⟩ := Int.eq_ofNat_of_zero_le (by omega : 0 ≤ k - 1)
    have hk' : k = i + 1 := by omega
    have : i < 16 := by omega
    subst hk'
    match i, this with
    | 0, _ | 1, _ | 2, _ | 3, _ | 4, _ | 5, _ | 6, _ | 7, _ | 8, _ | 9, _ | 10, _ | 11, _ | 12, _ | 13, _ | 14, _ | 15, _ => rfl
theorem Operands_sound : Sound Tryd.prog 60 cOperands := by
  refine soundF (G := [(61, cWithin)]) ((gcons Within_sound gnil)) Tryd.func60 rfl (by kernel_rfl) fun args hs K hCC => ?_
  unfold cOperands at hCC
  split at hCC
  case h_2 => exact hCC.elim
  rename_i k
  exact ⟨Nat.le_of_ble_eq_true rfl, _, Operands_ok k K hCC.1 hCC.2⟩
/-- impl.most -/
def cMost : Con
  | [.int .i64 k], [], K => True ∧ ((K (.int .i64 (mostN k)) []))
  | _, _, _ => False
theorem Most_ok (k : Int) (K : AV → List AV → Prop) (hp : True) (hk : ((K (.int .i64 (mostN k)) []))) :
    bodyQ [] TY [] Tryd.f62 (body Tryd.f62) [.int .i64 k] [] K := by
  refine of_vc (A :=
    (Br (Decidable.decide (k = (1 : Int)))
     (Ret K (.int .i64 20) [])
     (Br (Decidable.decide (k = (2 : Int))) (Ret K (.int .i64 3) []) (Ret K (.int .i64 0) [])))) ?_ (by kernel_rfl)
  unfold mostN at hk
  refine br (fun h => ?_) (fun h => br (fun h2 => ?_) (fun h2 => ?_))
  · exact retI hk (by simp at h; rw [if_pos h])
  · exact retI hk (by simp at h h2; rw [if_neg h, if_pos h2])
  · exact retI hk (by simp at h h2; rw [if_neg h, if_neg h2])
theorem Most_sound : Sound Tryd.prog 62 cMost := by
  refine soundF (G := []) (gnil) Tryd.func62 rfl (by kernel_rfl) fun args hs K hCC => ?_
  unfold cMost at hCC
  split at hCC
  case h_2 => exact hCC.elim
  rename_i k
  exact ⟨Nat.le_of_ble_eq_true rfl, _, Most_ok k K hCC.1 hCC.2⟩
/-- impl.scan -/
def cScanM (m : Nat) : Con
  | [.st [.int .i64 k, .int .i64 n, .slc ts (.arg 0)], .int .i64 deep, .fptr 0], [.int .i64 c], K => (((T.mk k n ts).size) < m ∧ ((0 ≤ c ∧ c ≤ 400 ∧ 0 ≤ deep ∧ deep ≤ 31))) ∧ ((K (.bool ((T.mk k n ts).scan deep c).1) [.int .i64 ((T.mk k n ts).scan deep c).2]))
  | _, _, _ => False
def cScan : Con
  | [.st [.int .i64 k, .int .i64 n, .slc ts (.arg 0)], .int .i64 deep, .fptr 0], [.int .i64 c], K => ((0 ≤ c ∧ c ≤ 400 ∧ 0 ≤ deep ∧ deep ≤ 31)) ∧ ((K (.bool ((T.mk k n ts).scan deep c).1) [.int .i64 ((T.mk k n ts).scan deep c).2]))
  | _, _, _ => False
theorem Scan_ok (m : Nat) (k n : Int) (ts : List T) (deep c : Int) (K : AV → List AV → Prop) (hm : ((T.mk k n ts).size) < m + 1) (hp : ((0 ≤ c ∧ c ≤ 400 ∧ 0 ≤ deep ∧ deep ≤ 31))) (hk : ((K (.bool ((T.mk k n ts).scan deep c).1) [.int .i64 ((T.mk k n ts).scan deep c).2]))) :
    bodyQ [(33, cScanM m), (61, cWithin), (60, cOperands), (62, cMost)] TY [(5, { ι := Nat × Int, ok := fun x => x.1 ≤ ts.length ∧ 0 ≤ x.2 ∧ x.2 ≤ 400 ∧ scanL ts (deep + 1) (c + 1) = scanL (ts.drop x.1) (deep + 1) x.2, tl := fun x => [(1, .int .i64 deep), (2, .fptr 0), (41, .slc ts (.arg 0)), (42, .int .i64 ts.length), (43, .int .i64 x.1)], hl := fun _ => [], fh := fun x => [.int .i64 x.2], μ := fun x => ts.length - x.1 })] Tryd.f33 (body Tryd.f33) [.st [.int .i64 k, .int .i64 n, .slc ts (.arg 0)], .int .i64 deep, .fptr 0] [.int .i64 c] K := by
  refine of_vc (A :=
    ((InR (c + (1 : Int))) ∧
     (Br (Decidable.decide ((400 : Int) < (c + (1 : Int))))
     (Ret K (.bool false) [(.int .i64 (c + (1 : Int)))])
     (Br (Decidable.decide ((30 : Int) < deep))
     (Ret K (.bool false) [(.int .i64 (c + (1 : Int)))])
     (True ∧
     ((ts = ts) ∧
     (Br (Decidable.decide ((arity k) ≠ (((List.length ts) : Nat) : Int)))
     (Ret K (.bool false) [(.int .i64 (c + (1 : Int)))])
     (True ∧
     ((n = n) ∧
     (True ∧
     (Br (Bool.not (Decidable.decide (((0 : Int) ≤ n) ∧ (n ≤ (mostN k)))))
     (Ret K (.bool false) [(.int .i64 (c + (1 : Int)))])
     ((∃ x : (Prod Nat Int),
     ((((Prod.fst x) ≤ (List.length ts)) ∧
     (((0 : Int) ≤ (Prod.snd x)) ∧
     (((Prod.snd x) ≤ (400 : Int)) ∧ ((scanL ts (deep + (1 : Int)) (c + (1 : Int))) = (scanL (List.drop (Prod.fst x) ts) (deep + (1 : Int)) (Prod.snd x)))))) ∧
     ((deep = deep) ∧
     ((ts = ts) ∧
     (((((List.length ts) : Nat) : Int) = (((List.length ts) : Nat) : Int)) ∧
     (((0 : Int) = (((Prod.fst x) : Nat) : Int)) ∧ (((c + (1 : Int)) = (Prod.snd x)) ∧ True))))))) ∧
     (∀ x : (Prod Nat Int),
     ((((Prod.fst x) ≤ (List.length ts)) ∧ (((0 : Int) ≤ (Prod.snd x)) ∧ (((Prod.snd x) ≤ (400 : Int)) ∧ ((scanL ts (deep + (1 : Int)) (c + (1 : Int))) = (scanL (List.drop (Prod.fst x) ts) (deep + (1 : Int)) (Prod.snd x)))))) →
     (Br (Decidable.decide ((((Prod.fst x) : Nat) : Int) < (((List.length ts) : Nat) : Int)))
     ((((0 : Int) ≤ (((Prod.fst x) : Nat) : Int)) ∧ ((((Prod.fst x) : Nat) : Int) < (((List.length ts) : Nat) : Int))) ∧
     ((InR (deep + (1 : Int))) ∧
     ((((T.size (T.mk (T.k (List.getD ts (Int.toNat (((Prod.fst x) : Nat) : Int)) default)) (T.n (List.getD ts (Int.toNat (((Prod.fst x) : Nat) : Int)) default)) (T.kids (List.getD ts (Int.toNat (((Prod.fst x) : Nat) : Int)) default)))) < m) ∧
     (((0 : Int) ≤ (Prod.snd x)) ∧ (((Prod.snd x) ≤ (400 : Int)) ∧ (((0 : Int) ≤ (deep + (1 : Int))) ∧ ((deep + (1 : Int)) ≤ (31 : Int)))))) ∧
     (Br (Bool.not (Prod.fst (T.scan (T.mk (T.k (List.getD ts (Int.toNat (((Prod.fst x) : Nat) : Int)) default)) (T.n (List.getD ts (Int.toNat (((Prod.fst x) : Nat) : Int)) default)) (T.kids (List.getD ts (Int.toNat (((Prod.fst x) : Nat) : Int)) default))) (deep + (1 : Int)) (Prod.snd x))))
     (Ret K (.bool false) [(.int .i64 (Prod.snd (T.scan (T.mk (T.k (List.getD ts (Int.toNat (((Prod.fst x) : Nat) : Int)) default)) (T.n (List.getD ts (Int.toNat (((Prod.fst x) : Nat) : Int)) default)) (T.kids (List.getD ts (Int.toNat (((Prod.fst x) : Nat) : Int)) default))) (deep + (1 : Int)) (Prod.snd x))))])
     ((InR ((((Prod.fst x) : Nat) : Int) + (1 : Int))) ∧
     (∃ y : (Prod Nat Int),
     ((((Prod.fst y) ≤ (List.length ts)) ∧
     (((0 : Int) ≤ (Prod.snd y)) ∧
     (((Prod.snd y) ≤ (400 : Int)) ∧ ((scanL ts (deep + (1 : Int)) (c + (1 : Int))) = (scanL (List.drop (Prod.fst y) ts) (deep + (1 : Int)) (Prod.snd y)))))) ∧
     ((deep = deep) ∧
     ((ts = ts) ∧
     (((((List.length ts) : Nat) : Int) = (((List.length ts) : Nat) : Int)) ∧
     ((((((Prod.fst x) : Nat) : Int) + (1 : Int)) = (((Prod.fst y) : Nat) : Int)) ∧
     (((Prod.snd (T.scan (T.mk (T.k (List.getD ts (Int.toNat (((Prod.fst x) : Nat) : Int)) default)) (T.n (List.getD ts (Int.toNat (((Prod.fst x) : Nat) : Int)) default)) (T.kids (List.getD ts (Int.toNat (((Prod.fst x) : Nat) : Int)) default))) (deep + (1 : Int)) (Prod.snd x))) = (Prod.snd y)) ∧
     ((Nat.succ ((List.length ts) - (Prod.fst y))) ≤ ((List.length ts) - (Prod.fst x)))))))))))))))
     (Ret K (.bool true) [(.int .i64 (Prod.snd x))])))))))))))))))) ?_ (by kernel_rfl)
  obtain ⟨h0, h1, h2, h3⟩ := hp
  have hm' : 1 + sizeL ts < m + 1 := hm
  by_cases hc : c + 1 ≤ 400 ∧ deep ≤ 30 ∧ rootOk k n ts.length = true
  · have hr : arity k = ts.length ∧ 0 ≤ n ∧ n ≤ mostN k := by simpa [rootOk] using hc.2.2
    rw [T.scan, if_pos hc] at hk
    have hl := length_le_sizeL ts
    refine ⟨by unfold InR; omega, br (fun h => ?_) (fun _ => br (fun h => ?_) (fun _ => ⟨trivial, rfl, br (fun h => ?_) (fun _ => ⟨trivial, rfl, trivial, br (fun h => ?_) (fun _ => ?_)⟩)⟩))⟩
    · simp at h; omega
    · simp at h; omega
    · simp at h; omega
    · simp at h; omega
    refine ⟨⟨(0, c + 1), ⟨Nat.zero_le _, by show (0 : Int) ≤ c + 1; omega, hc.1, rfl⟩, rfl, rfl, rfl, rfl, rfl, trivial⟩, ?_⟩
    rintro ⟨i, c'⟩ ⟨g1, g2, g3, g4⟩
    refine br (fun h => ?_) (fun h => ?_)
    · have hi : i < ts.length := by simpa using h
      have hs := sizeL_mem (getD_mem hi)
      simp only [Int.toNat_natCast, T.eta] at g1 g2 g3 g4 ⊢
      have hd := drop_getD hi
      obtain ⟨s1, s2, s3, s4⟩ := T.scan_spec (ts.getD i default) (deep + 1) c' g2 g3
      refine ⟨⟨by omega, by omega⟩, by unfold InR; omega, ⟨by omega, g2, g3, by omega, by omega⟩, br (fun h => ?_) (fun h => ?_)⟩
      · rw [g4, hd, scanL, if_neg (by simpa using h)] at hk
        exact retBI hk (by simp at h; exact h.symm) rfl
      · have h : ((ts.getD i default).scan (deep + 1) c').1 = true := by simpa using h
        refine ⟨by unfold InR; have := hr.1; have := arity_range k; omega, (i + 1, _), ⟨by show i + 1 ≤ _; omega, ?_, ?_, ?_⟩, (by first | trivial | rfl | (simp; done)), (by first | trivial | rfl | (simp; done)), (by first | trivial | rfl | (simp; done)), by simp, (by first | trivial | rfl | (simp; done)), by show Nat.succ (_ - (i + 1)) ≤ _; omega⟩
        · exact s1
        · show (T.scan _ _ _).2 ≤ 400
          rw [s4 h]; exact (s3.1 h).2
        · rw [g4, hd, scanL, if_pos h]
    · have hi : ¬ i < ts.length := by simpa using h
      rw [g4, drop_len hi] at hk
      exact retBI hk rfl rfl
  · rw [T.scan, if_neg hc] at hk
    refine ⟨by unfold InR; omega, br (fun h => retBI hk rfl rfl) (fun g1 => br (fun h => retBI hk rfl rfl) (fun g2 => ⟨trivial, rfl, br (fun h => retBI hk rfl rfl) (fun g3 => ⟨trivial, rfl, trivial, br (fun h => retBI hk rfl rfl) (fun g4 => ?_)⟩)⟩))⟩
    simp at g1 g2 g3 g4
    refine absurd ⟨by omega, by omega, ?_⟩ hc
    simp [rootOk]; omega
theorem Scan_soundM : ∀ m : Nat, Sound Tryd.prog 33 (cScanM m)
  | 0 => by
      refine soundF (G := []) gnil Tryd.func33 rfl (by kernel_rfl) fun args hs K hCC => ?_
      unfold cScanM at hCC
      split at hCC
      case h_2 => exact hCC.elim
      exact absurd hCC.1.1 (Nat.not_lt_zero _)
  | m + 1 => by
      refine soundF (G := [(33, cScanM m), (61, cWithin), (60, cOperands), (62, cMost)]) ((gcons (Scan_soundM m) (gcons Within_sound (gcons Operands_sound (gcons Most_sound gnil))))) Tryd.func33 rfl (by kernel_rfl) fun args hs K hCC => ?_
      unfold cScanM at hCC
      split at hCC
      case h_2 => exact hCC.elim
      rename_i k n ts deep c
      exact ⟨Nat.le_of_ble_eq_true rfl, _, Scan_ok m k n ts deep c K hCC.1.1 hCC.1.2 hCC.2⟩
theorem Scan_sound : Sound Tryd.prog 33 cScan := by
  refine sound_of_all (c := cScanM) (fun m => (Scan_soundM m)) fun args hs K hCC => ?_
  unfold cScan at hCC
  split at hCC
  case h_2 => exact hCC.elim
  exact ⟨_, ⟨Nat.lt_succ_self _, hCC.1⟩, hCC.2⟩
/-- impl.TermValid -/
def cTermValid : Con
  | [.st [.int .i64 k, .int .i64 n, .slc ts (.arg 0)]], [], K => True ∧ ((K (.bool (T.mk k n ts).valid) []))
  | _, _, _ => False
theorem TermValid_ok (k n : Int) (ts : List T) (K : AV → List AV → Prop) (hp : True) (hk : ((K (.bool (T.mk k n ts).valid) []))) :
    bodyQ [(33, cScan)] TY [] Tryd.f16 (body Tryd.f16) [.st [.int .i64 k, .int .i64 n, .slc ts (.arg 0)]] [] K := by
  refine of_vc (A :=
    ((((0 : Int) ≤ (0 : Int)) ∧ (((0 : Int) ≤ (400 : Int)) ∧ (((0 : Int) ≤ (1 : Int)) ∧ ((1 : Int) ≤ (31 : Int))))) ∧
     (Ret K (.bool (Prod.fst (T.scan (T.mk k n ts) (1 : Int) (0 : Int)))) []))) ?_ (by kernel_rfl)
  rw [← T.valid_scan] at hk
  exact ⟨by omega, retB hk rfl⟩
theorem TermValid_sound : Sound Tryd.prog 16 cTermValid := by
  refine soundF (G := [(33, cScan)]) ((gcons Scan_sound gnil)) Tryd.func16 rfl (by kernel_rfl) fun args hs K hCC => ?_
  unfold cTermValid at hCC
  split at hCC
  case h_2 => exact hCC.elim
  rename_i k n ts
  exact ⟨Nat.le_of_ble_eq_true rfl, _, TermValid_ok k n ts K hCC.1 hCC.2⟩
/-- impl.TermSame -/
def cTermSameM (m : Nat) : Con
  | [.st [.int .i64 k, .int .i64 n, .slc ts (.arg 0)], .st [.int .i64 k', .int .i64 n', .slc ts' (.arg 1)]], [], K => ((2 * (1 + sizeL ts)) < m ∧ ((sizeL ts ≤ 1099511627776))) ∧ ((K (.bool ((T.mk k n ts).same (.mk k' n' ts'))) []))
  | _, _, _ => False
def cTermSame : Con
  | [.st [.int .i64 k, .int .i64 n, .slc ts (.arg 0)], .st [.int .i64 k', .int .i64 n', .slc ts' (.arg 1)]], [], K => ((sizeL ts ≤ 1099511627776)) ∧ ((K (.bool ((T.mk k n ts).same (.mk k' n' ts'))) []))
  | _, _, _ => False
/-- impl.Term] -/
def cEqualFuncM (m : Nat) : Con
  | [.slc ts (.arg 0), .slc ts' (.arg 1), .fn 18 []], [], K => ((2 * sizeL ts + 1) < m ∧ ((sizeL ts ≤ 1099511627776))) ∧ ((K (.bool (sameL ts ts')) []))
  | _, _, _ => False
def cEqualFunc : Con
  | [.slc ts (.arg 0), .slc ts' (.arg 1), .fn 18 []], [], K => ((sizeL ts ≤ 1099511627776)) ∧ ((K (.bool (sameL ts ts')) []))
  | _, _, _ => False
theorem TermSame_ok (m : Nat) (k n : Int) (ts : List T) (k' n' : Int) (ts' : List T) (K : AV → List AV → Prop) (hm : (2 * (1 + sizeL ts)) < m + 1) (hp : ((sizeL ts ≤ 1099511627776))) (hk : ((K (.bool ((T.mk k n ts).same (.mk k' n' ts'))) []))) :
    bodyQ [(18, cTermSameM m), (36, cEqualFuncM m)] TY [] Tryd.f18 (body Tryd.f18) [.st [.int .i64 k, .int .i64 n, .slc ts (.arg 0)], .st [.int .i64 k', .int .i64 n', .slc ts' (.arg 1)]] [] K := by
  refine of_vc (A :=
    (Br (Decidable.decide (k = k'))
     (Br (Decidable.decide (n = n'))
     ((((((2 : Nat) * (sizeL ts)) + (1 : Nat)) < m) ∧ ((sizeL ts) ≤ (1099511627776 : Nat))) ∧ (Ret K (.bool (sameL ts ts')) []))
     (Ret K (.bool false) []))
     (Ret K (.bool false) []))) ?_ (by kernel_rfl)
  refine br (fun h => br (fun h2 => ⟨⟨by omega, hp⟩, retB hk ?_⟩) (fun h2 => retB hk ?_)) (fun h => retB hk ?_)
  · simp at h h2; simp [T.same, h, h2]
  · simp at h2; simp [T.same, h2]
  · simp at h; simp [T.same, h]
theorem EqualFunc_ok (m : Nat) (ts ts' : List T) (K : AV → List AV → Prop) (hm : (2 * sizeL ts + 1) < m + 1) (hp : ((sizeL ts ≤ 1099511627776))) (hk : ((K (.bool (sameL ts ts')) []))) :
    bodyQ [(18, cTermSameM m), (36, cEqualFuncM m)] TY [(4, { ι := Nat, ok := fun i => i ≤ ts.length ∧ sameL ts ts' = sameL (ts.drop i) (ts'.drop i), tl := fun i => [(0, .slc ts (.arg 0)), (1, .slc ts' (.arg 1)), (2, .fn 18 []), (15, .slc ts (.arg 0)), (16, .int .i64 ts.length), (17, .int .i64 i)], hl := fun _ => [], fh := fun _ => [], μ := fun i => ts.length - i })] Tryd.f36 (body Tryd.f36) [.slc ts (.arg 0), .slc ts' (.arg 1), .fn 18 []] [] K := by
  refine of_vc (A :=
    (Br (Decidable.decide ((((List.length ts) : Nat) : Int) ≠ (((List.length ts') : Nat) : Int)))
     (Ret K (.bool false) [])
     ((∃ x : Nat,
     (((x ≤ (List.length ts)) ∧ ((sameL ts ts') = (sameL (List.drop x ts) (List.drop x ts')))) ∧
     ((ts = ts) ∧ ((ts' = ts') ∧ ((ts = ts) ∧ (((((List.length ts) : Nat) : Int) = (((List.length ts) : Nat) : Int)) ∧ (((0 : Int) = ((x : Nat) : Int)) ∧ True))))))) ∧
     (∀ x : Nat,
     (((x ≤ (List.length ts)) ∧ ((sameL ts ts') = (sameL (List.drop x ts) (List.drop x ts')))) →
     (Br (Decidable.decide (((x : Nat) : Int) < (((List.length ts) : Nat) : Int)))
     ((((0 : Int) ≤ ((x : Nat) : Int)) ∧ (((x : Nat) : Int) < (((List.length ts) : Nat) : Int))) ∧
     ((((0 : Int) ≤ ((x : Nat) : Int)) ∧ (((x : Nat) : Int) < (((List.length ts') : Nat) : Int))) ∧
     (((((2 : Nat) * ((1 : Nat) + (sizeL (T.kids (List.getD ts (Int.toNat ((x : Nat) : Int)) default))))) < m) ∧
     ((sizeL (T.kids (List.getD ts (Int.toNat ((x : Nat) : Int)) default))) ≤ (1099511627776 : Nat))) ∧
     (Br (Bool.not (T.same (T.mk (T.k (List.getD ts (Int.toNat ((x : Nat) : Int)) default)) (T.n (List.getD ts (Int.toNat ((x : Nat) : Int)) default)) (T.kids (List.getD ts (Int.toNat ((x : Nat) : Int)) default))) (T.mk (T.k (List.getD ts' (Int.toNat ((x : Nat) : Int)) default)) (T.n (List.getD ts' (Int.toNat ((x : Nat) : Int)) default)) (T.kids (List.getD ts' (Int.toNat ((x : Nat) : Int)) default)))))
     (Ret K (.bool false) [])
     ((InR (((x : Nat) : Int) + (1 : Int))) ∧
     (∃ y : Nat,
     (((y ≤ (List.length ts)) ∧ ((sameL ts ts') = (sameL (List.drop y ts) (List.drop y ts')))) ∧
     ((ts = ts) ∧
     ((ts' = ts') ∧
     ((ts = ts) ∧
     (((((List.length ts) : Nat) : Int) = (((List.length ts) : Nat) : Int)) ∧
     (((((x : Nat) : Int) + (1 : Int)) = ((y : Nat) : Int)) ∧ ((Nat.succ ((List.length ts) - y)) ≤ ((List.length ts) - x))))))))))))))
     (Ret K (.bool true) []))))))) ?_ (by kernel_rfl)
  refine br (fun h => ?_) (fun h => ?_)
  · have h : ts.length ≠ ts'.length := by simp at h; omega
    exact retB hk (sameL_length h).symm
  · have hlen : ts.length = ts'.length := by simp at h; omega
    have hl := length_le_sizeL ts
    refine ⟨⟨0, ⟨Nat.zero_le _, rfl⟩, rfl, rfl, rfl, rfl, rfl, trivial⟩, fun i hi0 => br (fun h => ?_) (fun h => ?_)⟩
    · have hi : i < ts.length := by simpa using h
      have hs := sizeL_mem (getD_mem hi)
      rw [T.size_eq] at hs
      have hd := sameL_drop hi (by omega : i < ts'.length)
      simp only [Int.toNat_natCast, T.eta]
      refine ⟨⟨by omega, by simpa using hi⟩, ⟨by omega, by omega⟩, ⟨by omega, by omega⟩, br (fun h => ?_) (fun h => ?_)⟩
      · exact retB hk (by rw [hi0.2, hd]; simp at h; simp [h])
      · refine ⟨inR_succ hi (by omega), i + 1, ⟨by omega, ?_⟩, trivial, trivial, trivial, trivial, by simp, by omega⟩
        rw [hi0.2, hd]; simp at h; simp [h]
    · have hi : ¬ i < ts.length := by simpa using h
      exact retB hk (by rw [hi0.2, drop_len hi, drop_len (by omega)]; rfl)
theorem TermSame_soundM : ∀ m : Nat, Sound Tryd.prog 18 (cTermSameM m) ∧ Sound Tryd.prog 36 (cEqualFuncM m)
  | 0 => ⟨by
      refine soundF (G := []) gnil Tryd.func18 rfl (by kernel_rfl) fun args hs K hCC => ?_
      unfold cTermSameM at hCC
      split at hCC
      case h_2 => exact hCC.elim
      exact absurd hCC.1.1 (Nat.not_lt_zero _), by
      refine soundF (G := []) gnil Tryd.func36 rfl (by kernel_rfl) fun args hs K hCC => ?_
      unfold cEqualFuncM at hCC
      split at hCC
      case h_2 => exact hCC.elim
      exact absurd hCC.1.1 (Nat.not_lt_zero _)⟩
  | m + 1 => ⟨by
      refine soundF (G := [(18, cTermSameM m), (36, cEqualFuncM m)]) ((gcons (TermSame_soundM m).1 (gcons (TermSame_soundM m).2 gnil))) Tryd.func18 rfl (by kernel_rfl) fun args hs K hCC => ?_
      unfold cTermSameM at hCC
      split at hCC
      case h_2 => exact hCC.elim
      rename_i k n ts k' n' ts'
      exact ⟨Nat.le_of_ble_eq_true rfl, _, TermSame_ok m k n ts k' n' ts' K hCC.1.1 hCC.1.2 hCC.2⟩, by
      refine soundF (G := [(18, cTermSameM m), (36, cEqualFuncM m)]) ((gcons (TermSame_soundM m).1 (gcons (TermSame_soundM m).2 gnil))) Tryd.func36 rfl (by kernel_rfl) fun args hs K hCC => ?_
      unfold cEqualFuncM at hCC
      split at hCC
      case h_2 => exact hCC.elim
      rename_i ts ts'
      exact ⟨Nat.le_of_ble_eq_true rfl, _, EqualFunc_ok m ts ts' K hCC.1.1 hCC.1.2 hCC.2⟩⟩
theorem TermSame_sound : Sound Tryd.prog 18 cTermSame := by
  refine sound_of_all (c := cTermSameM) (fun m => (TermSame_soundM m).1) fun args hs K hCC => ?_
  unfold cTermSame at hCC
  split at hCC
  case h_2 => exact hCC.elim
  exact ⟨_, ⟨Nat.lt_succ_self _, hCC.1⟩, hCC.2⟩
theorem EqualFunc_sound : Sound Tryd.prog 36 cEqualFunc := by
  refine sound_of_all (c := cEqualFuncM) (fun m => (TermSame_soundM m).2) fun args hs K hCC => ?_
  unfold cEqualFunc at hCC
  split at hCC
  case h_2 => exact hCC.elim
  exact ⟨_, ⟨Nat.lt_succ_self _, hCC.1⟩, hCC.2⟩
/-- impl.CountNodes -/
def cCountNodes : Con
  | [.st [.int .i64 k, .int .i64 n, .slc ts (.arg 0)]], [], K => True ∧ ((K (.int .i64 (if (T.mk k n ts).valid then (T.mk k n ts).size else 0)) []))
  | _, _, _ => False
theorem CountNodes_ok (k n : Int) (ts : List T) (K : AV → List AV → Prop) (hp : True) (hk : ((K (.int .i64 (if (T.mk k n ts).valid then (T.mk k n ts).size else 0)) []))) :
    bodyQ [(33, cScan)] TY [] Tryd.f24 (body Tryd.f24) [.st [.int .i64 k, .int .i64 n, .slc ts (.arg 0)]] [] K := by
  refine of_vc (A :=
    ((((0 : Int) ≤ (0 : Int)) ∧ (((0 : Int) ≤ (400 : Int)) ∧ (((0 : Int) ≤ (1 : Int)) ∧ ((1 : Int) ≤ (31 : Int))))) ∧
     (Br (Bool.not (Prod.fst (T.scan (T.mk k n ts) (1 : Int) (0 : Int))))
     (Ret K (.int .i64 0) [])
     (Ret K (.int .i64 (Prod.snd (T.scan (T.mk k n ts) (1 : Int) (0 : Int)))) [])))) ?_ (by kernel_rfl)
  have hs := (T.scan_spec (.mk k n ts) 1 0 (by omega) (by omega)).2.2.2
  rw [T.valid_scan] at hs ⊢
  refine ⟨by omega, br (fun h => retI hk ?_) (fun h => retI hk ?_)⟩
  · rw [if_neg (by simpa using h)]
  · have h : (T.mk k n ts).valid = true := by simpa using h
    rw [if_pos h, hs h]; omega
theorem CountNodes_sound : Sound Tryd.prog 24 cCountNodes := by
  refine soundF (G := [(33, cScan)]) ((gcons Scan_sound gnil)) Tryd.func24 rfl (by kernel_rfl) fun args hs K hCC => ?_
  unfold cCountNodes at hCC
  split at hCC
  case h_2 => exact hCC.elim
  rename_i k n ts
  exact ⟨Nat.le_of_ble_eq_true rfl, _, CountNodes_ok k n ts K hCC.1 hCC.2⟩
end Go.Dk
