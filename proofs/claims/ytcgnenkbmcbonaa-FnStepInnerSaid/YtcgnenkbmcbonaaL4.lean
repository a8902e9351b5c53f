/- Places, steps, reductions: the program's functions. -/
import Derived.Test.YtcgnenkbmcbonaaL3
import Derived.Test.YtcgnenkbmcbonaaL3c
import Derived.Test.YtcgnenkbmcbonaaSt2
namespace Go.Dk
set_option linter.unusedVariables false
open Go.Proofs
theorem retTII {K : AV → List AV → Prop} {t : T} {k n : Int} {ts : List T} {g g' : Tag} {a a' b b' : Int} (hk : K (.tup [t.av g', .int .i64 a', .int .i64 b']) []) (h : T.mk k n ts = t) (ha : a = a') (hb : b = b') (hg : g.le g' = true := by rfl) :
    Ret K (.tup [.st [.int .i64 k, .int .i64 n, .slc ts g], .int .i64 a, .int .i64 b]) [] := by
  subst h ha hb; exact fin hk ⟨⟨⟨rfl, rfl⟩, ⟨rfl, rfl⟩, ⟨rfl, hg⟩, True.intro⟩, ⟨rfl, rfl⟩, ⟨rfl, rfl⟩, True.intro⟩ True.intro
/-- impl.inner -/
def cInnerM (m : Nat) : Con
  | [.st [.int .i64 k, .int .i64 n, .slc ts (.arg 0)]], [], K => (((T.mk k n ts).size) < m ∧ ((∃ d, (T.mk k n ts).shp d = true) ∧ ((T.mk k n ts).size ≤ 100000))) ∧ ((∀ w : List Int, w.length ≤ (T.mk k n ts).size → (plI.o (T.mk k n ts) = true → w = plI.w (T.mk k n ts)) → K (.tup [.ints .i64 w (.iv 4 0 true (.tok 0)), .bool (plI.o (T.mk k n ts))]) []))
  | _, _, _ => False
def cInner : Con
  | [.st [.int .i64 k, .int .i64 n, .slc ts (.arg 0)]], [], K => ((∃ d, (T.mk k n ts).shp d = true) ∧ ((T.mk k n ts).size ≤ 100000)) ∧ ((∀ w : List Int, w.length ≤ (T.mk k n ts).size → (plI.o (T.mk k n ts) = true → w = plI.w (T.mk k n ts)) → K (.tup [.ints .i64 w (.iv 4 0 true (.tok 0)), .bool (plI.o (T.mk k n ts))]) []))
  | _, _, _ => False
theorem Inner_ok (m : Nat) (k n : Int) (ts : List T) (K : AV → List AV → Prop) (hm : ((T.mk k n ts).size) < m + 1) (hp : ((∃ d, (T.mk k n ts).shp d = true) ∧ ((T.mk k n ts).size ≤ 100000))) (hk : ((∀ w : List Int, w.length ≤ (T.mk k n ts).size → (plI.o (T.mk k n ts) = true → w = plI.w (T.mk k n ts)) → K (.tup [.ints .i64 w (.iv 4 0 true (.tok 0)), .bool (plI.o (T.mk k n ts))]) []))) :
    bodyQ [(42, cInnerM m), (54, cRedex)] TY [(2, { ι := Nat, ok := fun i => i ≤ ts.length ∧ nrmL ts = nrmL (ts.drop i) ∧ innwL ts 0 = innwL (ts.drop i) i, tl := fun i => [(1, .ptr 1), (2, .ints .i64 [] (.iv 0 0 true .full)), (3, .bool false), (9, .slc ts (.arg 0)), (10, .int .i64 ts.length), (11, .int .i64 i)], hl := fun i => [(1, .st [.int .i64 k, .int .i64 n, .slc ts (.arg 0)])], fh := fun _ => [], μ := fun i => ts.length - i })] Try.f42 (body Try.f42) [.st [.int .i64 k, .int .i64 n, .slc ts (.arg 0)]] [] K := by
  refine of_vc (A :=
    ((∃ x : Nat,
     (((x ≤ (List.length ts)) ∧ (((nrmL ts) = (nrmL (List.drop x ts))) ∧ ((innwL ts (0 : Nat)) = (innwL (List.drop x ts) x)))) ∧
     ((([] : List Int) = ([] : List Int)) ∧
     ((false = false) ∧
     ((ts = ts) ∧
     (((((List.length ts) : Nat) : Int) = (((List.length ts) : Nat) : Int)) ∧ (((0 : Int) = ((x : Nat) : Int)) ∧ ((k = k) ∧ ((n = n) ∧ ((ts = ts) ∧ True)))))))))) ∧
     (∀ x : Nat,
     (((x ≤ (List.length ts)) ∧ (((nrmL ts) = (nrmL (List.drop x ts))) ∧ ((innwL ts (0 : Nat)) = (innwL (List.drop x ts) x)))) →
     (Br (Decidable.decide (((x : Nat) : Int) < (((List.length ts) : Nat) : Int)))
     ((((0 : Int) ≤ ((x : Nat) : Int)) ∧ (((x : Nat) : Int) < (((List.length ts) : Nat) : Int))) ∧
     ((((T.size (T.mk (T.k (List.getD ts (Int.toNat ((x : Nat) : Int)) default)) (T.n (List.getD ts (Int.toNat ((x : Nat) : Int)) default)) (T.kids (List.getD ts (Int.toNat ((x : Nat) : Int)) default)))) < m) ∧
     ((∃ d : Int,
     ((T.shp (T.mk (T.k (List.getD ts (Int.toNat ((x : Nat) : Int)) default)) (T.n (List.getD ts (Int.toNat ((x : Nat) : Int)) default)) (T.kids (List.getD ts (Int.toNat ((x : Nat) : Int)) default))) d) = true)) ∧
     ((T.size (T.mk (T.k (List.getD ts (Int.toNat ((x : Nat) : Int)) default)) (T.n (List.getD ts (Int.toNat ((x : Nat) : Int)) default)) (T.kids (List.getD ts (Int.toNat ((x : Nat) : Int)) default)))) ≤ (100000 : Nat)))) ∧
     (∀ w : (List Int),
     (((List.length w) ≤ (T.size (T.mk (T.k (List.getD ts (Int.toNat ((x : Nat) : Int)) default)) (T.n (List.getD ts (Int.toNat ((x : Nat) : Int)) default)) (T.kids (List.getD ts (Int.toNat ((x : Nat) : Int)) default))))) →
     ((((Pl.o plI (T.mk (T.k (List.getD ts (Int.toNat ((x : Nat) : Int)) default)) (T.n (List.getD ts (Int.toNat ((x : Nat) : Int)) default)) (T.kids (List.getD ts (Int.toNat ((x : Nat) : Int)) default)))) = true) → (w = (Pl.w plI (T.mk (T.k (List.getD ts (Int.toNat ((x : Nat) : Int)) default)) (T.n (List.getD ts (Int.toNat ((x : Nat) : Int)) default)) (T.kids (List.getD ts (Int.toNat ((x : Nat) : Int)) default)))))) →
     (Br (Pl.o plI (T.mk (T.k (List.getD ts (Int.toNat ((x : Nat) : Int)) default)) (T.n (List.getD ts (Int.toNat ((x : Nat) : Int)) default)) (T.kids (List.getD ts (Int.toNat ((x : Nat) : Int)) default))))
     ((((1 : Int) + (((List.length w) : Nat) : Int)) ≤ (1099511627776 : Int)) ∧
     (Ret K (.tup [(.ints .i64 ([((x : Nat) : Int)] ++ w) (.iv 4 0 true (.tok 0))), (.bool true)]) []))
     ((InR (((x : Nat) : Int) + (1 : Int))) ∧
     (∃ y : Nat,
     (((y ≤ (List.length ts)) ∧ (((nrmL ts) = (nrmL (List.drop y ts))) ∧ ((innwL ts (0 : Nat)) = (innwL (List.drop y ts) y)))) ∧
     ((([] : List Int) = ([] : List Int)) ∧
     ((false = false) ∧
     ((ts = ts) ∧
     (((((List.length ts) : Nat) : Int) = (((List.length ts) : Nat) : Int)) ∧
     (((((x : Nat) : Int) + (1 : Int)) = ((y : Nat) : Int)) ∧ ((k = k) ∧ ((n = n) ∧ ((ts = ts) ∧ ((Nat.succ ((List.length ts) - y)) ≤ ((List.length ts) - x)))))))))))))))))))
     (((arity k) = (((List.length ts) : Nat) : Int)) ∧
     (Ret K (.tup [(.ints .i64 ([] : List Int) (.iv 0 0 true .full)), (.bool (Decidable.decide ((T.rdx (T.mk k n ts)) ≠ (0 : Int))))]) []))))))) ?_ (by kernel_rfl)
  obtain ⟨⟨d, hd⟩, hx⟩ := hp
  have hm' : (T.mk k n ts).size < m + 1 := hm
  have hll := length_le_sizeL ts
  have hs : (T.mk k n ts).size = 1 + sizeL ts := rfl
  have q : arity k = ts.length := shp_arity hd
  have e0 : plI.o (T.mk k n ts) = !(nrmL ts && decide ((T.mk k n ts).rdx = 0)) := rfl
  have e2 : plI.w (T.mk k n ts) = if nrmL ts then [] else innwL ts 0 := rfl
  simp only [T.eta]
  refine ⟨⟨0, ⟨Nat.zero_le _, rfl, rfl⟩, (by repeat' first | trivial | rfl | (simp; done) | apply And.intro)⟩, ?_⟩
  rintro i ⟨g1, g2, g3⟩
  refine br (fun h2 => ?_) (fun h2 => ?_)
  · have hi : i < ts.length := by simpa using h2
    have hk1 := kid_ok hd hi
    have hk2 := nrmL_drop hi
    have hk3 := innwL_drop hi
    have hk4 := T.innw_len (ts.getD i default)
    simp only [Int.toNat_natCast]
    refine ⟨⟨by omega, by omega⟩, ⟨by omega, ⟨_, hk1.1⟩, by omega⟩, fun w hwl hw => ?_⟩
    have eo : plI.o (ts.getD i default) = !(ts.getD i default).nrm := rfl
    have ew : plI.w (ts.getD i default) = (ts.getD i default).innw := rfl
    rw [eo, ew] at hw
    rw [eo]
    refine br (fun h3 => ?_) (fun h3 => ?_)
    · have h3 : (ts.getD i default).nrm = false := by simpa using h3
      have hw := hw (by rw [h3]; rfl)
      rw [hk2, h3, Bool.false_and] at g2
      rw [hk3, h3] at g3
      have hn : plI.o (T.mk k n ts) = true := by rw [e0, g2]; rfl
      rw [hn] at hk
      refine ⟨by rw [hw]; omega, fin (hk ([(i : Int)] ++ w) (by have := sizeL_mem (getD_mem hi); simp; omega) fun _ => ?_) (by repeat' first | trivial | rfl | (simp; done) | apply And.intro) trivial⟩
      rw [e2, g2, hw, g3]; rfl
    · have h3 : (ts.getD i default).nrm = true := by simpa using h3
      refine ⟨by unfold InR; omega, i + 1, ⟨by omega, ?_, ?_⟩, (by repeat' first | trivial | rfl | (simp; done) | (dsimp only; omega) | omega | apply And.intro)⟩
      · rw [g2, hk2, h3]; rfl
      · rw [g3, hk3, h3]; rfl
  · have hi : ¬ i < ts.length := by simpa using h2
    rw [List.drop_of_length_le (by omega)] at g2
    refine ⟨q, ?_⟩
    have e3 : plI.o (T.mk k n ts) = decide ((T.mk k n ts).rdx ≠ 0) := by rw [e0, g2]; simp [nrmL]
    rw [e3] at hk
    exact fin (hk [] (Nat.zero_le _) fun _ => by rw [e2, g2]; rfl) (by repeat' first | trivial | rfl | (simp; done) | apply And.intro) trivial
theorem Inner_soundM : ∀ m : Nat, Sound Try.prog 42 (cInnerM m)
  | 0 => by
      refine soundF (G := []) gnil Try.func42 rfl (by kernel_rfl) fun args hs K hCC => ?_
      unfold cInnerM at hCC
      split at hCC
      case h_2 => exact hCC.elim
      exact absurd hCC.1.1 (Nat.not_lt_zero _)
  | m + 1 => by
      refine soundF (G := [(42, cInnerM m), (54, cRedex)]) ((gcons (Inner_soundM m) (gcons Redex_sound gnil))) Try.func42 rfl (by kernel_rfl) fun args hs K hCC => ?_
      unfold cInnerM at hCC
      split at hCC
      case h_2 => exact hCC.elim
      rename_i k n ts
      exact ⟨Nat.le_of_ble_eq_true rfl, _, Inner_ok m k n ts K hCC.1.1 hCC.1.2 hCC.2⟩
theorem Inner_sound : Sound Try.prog 42 cInner := by
  refine sound_of_all (c := cInnerM) (fun m => (Inner_soundM m)) fun args hs K hCC => ?_
  unfold cInner at hCC
  split at hCC
  case h_2 => exact hCC.elim
  exact ⟨_, ⟨Nat.lt_succ_self _, hCC.1⟩, hCC.2⟩
/-- impl.head -/
def cHeadM (m : Nat) : Con
  | [.st [.int .i64 k, .int .i64 n, .slc ts (.arg 0)]], [], K => (((T.mk k n ts).size) < m ∧ ((∃ d, (T.mk k n ts).shp d = true) ∧ ((T.mk k n ts).size ≤ 100000))) ∧ ((∀ w : List Int, w.length ≤ (T.mk k n ts).size → (plH.o (T.mk k n ts) = true → w = plH.w (T.mk k n ts)) → K (.tup [.ints .i64 w (.iv 4 0 true (.tok 0)), .bool (plH.o (T.mk k n ts))]) []))
  | _, _, _ => False
def cHead : Con
  | [.st [.int .i64 k, .int .i64 n, .slc ts (.arg 0)]], [], K => ((∃ d, (T.mk k n ts).shp d = true) ∧ ((T.mk k n ts).size ≤ 100000)) ∧ ((∀ w : List Int, w.length ≤ (T.mk k n ts).size → (plH.o (T.mk k n ts) = true → w = plH.w (T.mk k n ts)) → K (.tup [.ints .i64 w (.iv 4 0 true (.tok 0)), .bool (plH.o (T.mk k n ts))]) []))
  | _, _, _ => False
theorem Head_ok (m : Nat) (k n : Int) (ts : List T) (K : AV → List AV → Prop) (hm : ((T.mk k n ts).size) < m + 1) (hp : ((∃ d, (T.mk k n ts).shp d = true) ∧ ((T.mk k n ts).size ≤ 100000))) (hk : ((∀ w : List Int, w.length ≤ (T.mk k n ts).size → (plH.o (T.mk k n ts) = true → w = plH.w (T.mk k n ts)) → K (.tup [.ints .i64 w (.iv 4 0 true (.tok 0)), .bool (plH.o (T.mk k n ts))]) []))) :
    bodyQ [(56, cHeadM m), (54, cRedex)] TY [] Try.f56 (body Try.f56) [.st [.int .i64 k, .int .i64 n, .slc ts (.arg 0)]] [] K := by
  refine of_vc (A :=
    (((arity k) = (((List.length ts) : Nat) : Int)) ∧
     (Br (Decidable.decide ((T.rdx (T.mk k n ts)) ≠ (0 : Int)))
     (Ret K (.tup [(.ints .i64 ([] : List Int) (.iv 0 0 true .full)), (.bool true)]) [])
     (Br (Decidable.decide (k = (5 : Int)))
     ((((0 : Int) ≤ (0 : Int)) ∧ ((0 : Int) < (((List.length ts) : Nat) : Int))) ∧
     ((((T.size (T.mk (T.k (List.getD ts 0 default)) (T.n (List.getD ts 0 default)) (T.kids (List.getD ts 0 default)))) < m) ∧
     ((∃ d : Int,
     ((T.shp (T.mk (T.k (List.getD ts 0 default)) (T.n (List.getD ts 0 default)) (T.kids (List.getD ts 0 default))) d) = true)) ∧
     ((T.size (T.mk (T.k (List.getD ts 0 default)) (T.n (List.getD ts 0 default)) (T.kids (List.getD ts 0 default)))) ≤ (100000 : Nat)))) ∧
     (∀ w : (List Int),
     (((List.length w) ≤ (T.size (T.mk (T.k (List.getD ts 0 default)) (T.n (List.getD ts 0 default)) (T.kids (List.getD ts 0 default))))) →
     ((((Pl.o plH (T.mk (T.k (List.getD ts 0 default)) (T.n (List.getD ts 0 default)) (T.kids (List.getD ts 0 default)))) = true) → (w = (Pl.w plH (T.mk (T.k (List.getD ts 0 default)) (T.n (List.getD ts 0 default)) (T.kids (List.getD ts 0 default)))))) →
     ((((1 : Int) + (((List.length w) : Nat) : Int)) ≤ (1099511627776 : Int)) ∧
     (Ret K (.tup [(.ints .i64 ([(0 : Int)] ++ w) (.iv 4 0 true (.tok 0))), (.bool (Pl.o plH (T.mk (T.k (List.getD ts 0 default)) (T.n (List.getD ts 0 default)) (T.kids (List.getD ts 0 default)))))]) [])))))))
     (Br (Decidable.decide (k = (15 : Int)))
     ((((0 : Int) ≤ (0 : Int)) ∧ ((0 : Int) < (((List.length ts) : Nat) : Int))) ∧
     ((((T.size (T.mk (T.k (List.getD ts 0 default)) (T.n (List.getD ts 0 default)) (T.kids (List.getD ts 0 default)))) < m) ∧
     ((∃ d : Int,
     ((T.shp (T.mk (T.k (List.getD ts 0 default)) (T.n (List.getD ts 0 default)) (T.kids (List.getD ts 0 default))) d) = true)) ∧
     ((T.size (T.mk (T.k (List.getD ts 0 default)) (T.n (List.getD ts 0 default)) (T.kids (List.getD ts 0 default)))) ≤ (100000 : Nat)))) ∧
     (∀ w : (List Int),
     (((List.length w) ≤ (T.size (T.mk (T.k (List.getD ts 0 default)) (T.n (List.getD ts 0 default)) (T.kids (List.getD ts 0 default))))) →
     ((((Pl.o plH (T.mk (T.k (List.getD ts 0 default)) (T.n (List.getD ts 0 default)) (T.kids (List.getD ts 0 default)))) = true) → (w = (Pl.w plH (T.mk (T.k (List.getD ts 0 default)) (T.n (List.getD ts 0 default)) (T.kids (List.getD ts 0 default)))))) →
     ((((1 : Int) + (((List.length w) : Nat) : Int)) ≤ (1099511627776 : Int)) ∧
     (Ret K (.tup [(.ints .i64 ([(0 : Int)] ++ w) (.iv 4 0 true (.tok 0))), (.bool (Pl.o plH (T.mk (T.k (List.getD ts 0 default)) (T.n (List.getD ts 0 default)) (T.kids (List.getD ts 0 default)))))]) [])))))))
     (Br (Decidable.decide (k = (16 : Int)))
     ((((0 : Int) ≤ (0 : Int)) ∧ ((0 : Int) < (((List.length ts) : Nat) : Int))) ∧
     ((((T.size (T.mk (T.k (List.getD ts 0 default)) (T.n (List.getD ts 0 default)) (T.kids (List.getD ts 0 default)))) < m) ∧
     ((∃ d : Int,
     ((T.shp (T.mk (T.k (List.getD ts 0 default)) (T.n (List.getD ts 0 default)) (T.kids (List.getD ts 0 default))) d) = true)) ∧
     ((T.size (T.mk (T.k (List.getD ts 0 default)) (T.n (List.getD ts 0 default)) (T.kids (List.getD ts 0 default)))) ≤ (100000 : Nat)))) ∧
     (∀ w : (List Int),
     (((List.length w) ≤ (T.size (T.mk (T.k (List.getD ts 0 default)) (T.n (List.getD ts 0 default)) (T.kids (List.getD ts 0 default))))) →
     ((((Pl.o plH (T.mk (T.k (List.getD ts 0 default)) (T.n (List.getD ts 0 default)) (T.kids (List.getD ts 0 default)))) = true) → (w = (Pl.w plH (T.mk (T.k (List.getD ts 0 default)) (T.n (List.getD ts 0 default)) (T.kids (List.getD ts 0 default)))))) →
     ((((1 : Int) + (((List.length w) : Nat) : Int)) ≤ (1099511627776 : Int)) ∧
     (Ret K (.tup [(.ints .i64 ([(0 : Int)] ++ w) (.iv 4 0 true (.tok 0))), (.bool (Pl.o plH (T.mk (T.k (List.getD ts 0 default)) (T.n (List.getD ts 0 default)) (T.kids (List.getD ts 0 default)))))]) [])))))))
     (Br (Decidable.decide (k = (9 : Int)))
     ((((0 : Int) ≤ (3 : Int)) ∧ ((3 : Int) < (((List.length ts) : Nat) : Int))) ∧
     ((((T.size (T.mk (T.k (List.getD ts 3 default)) (T.n (List.getD ts 3 default)) (T.kids (List.getD ts 3 default)))) < m) ∧
     ((∃ d : Int,
     ((T.shp (T.mk (T.k (List.getD ts 3 default)) (T.n (List.getD ts 3 default)) (T.kids (List.getD ts 3 default))) d) = true)) ∧
     ((T.size (T.mk (T.k (List.getD ts 3 default)) (T.n (List.getD ts 3 default)) (T.kids (List.getD ts 3 default)))) ≤ (100000 : Nat)))) ∧
     (∀ w : (List Int),
     (((List.length w) ≤ (T.size (T.mk (T.k (List.getD ts 3 default)) (T.n (List.getD ts 3 default)) (T.kids (List.getD ts 3 default))))) →
     ((((Pl.o plH (T.mk (T.k (List.getD ts 3 default)) (T.n (List.getD ts 3 default)) (T.kids (List.getD ts 3 default)))) = true) → (w = (Pl.w plH (T.mk (T.k (List.getD ts 3 default)) (T.n (List.getD ts 3 default)) (T.kids (List.getD ts 3 default)))))) →
     ((((1 : Int) + (((List.length w) : Nat) : Int)) ≤ (1099511627776 : Int)) ∧
     (Ret K (.tup [(.ints .i64 ([(3 : Int)] ++ w) (.iv 4 0 true (.tok 0))), (.bool (Pl.o plH (T.mk (T.k (List.getD ts 3 default)) (T.n (List.getD ts 3 default)) (T.kids (List.getD ts 3 default)))))]) [])))))))
     (Br (Decidable.decide (k = (12 : Int)))
     ((((0 : Int) ≤ (1 : Int)) ∧ ((1 : Int) < (((List.length ts) : Nat) : Int))) ∧
     ((((T.size (T.mk (T.k (List.getD ts 1 default)) (T.n (List.getD ts 1 default)) (T.kids (List.getD ts 1 default)))) < m) ∧
     ((∃ d : Int,
     ((T.shp (T.mk (T.k (List.getD ts 1 default)) (T.n (List.getD ts 1 default)) (T.kids (List.getD ts 1 default))) d) = true)) ∧
     ((T.size (T.mk (T.k (List.getD ts 1 default)) (T.n (List.getD ts 1 default)) (T.kids (List.getD ts 1 default)))) ≤ (100000 : Nat)))) ∧
     (∀ w : (List Int),
     (((List.length w) ≤ (T.size (T.mk (T.k (List.getD ts 1 default)) (T.n (List.getD ts 1 default)) (T.kids (List.getD ts 1 default))))) →
     ((((Pl.o plH (T.mk (T.k (List.getD ts 1 default)) (T.n (List.getD ts 1 default)) (T.kids (List.getD ts 1 default)))) = true) → (w = (Pl.w plH (T.mk (T.k (List.getD ts 1 default)) (T.n (List.getD ts 1 default)) (T.kids (List.getD ts 1 default)))))) →
     ((((1 : Int) + (((List.length w) : Nat) : Int)) ≤ (1099511627776 : Int)) ∧
     (Ret K (.tup [(.ints .i64 ([(1 : Int)] ++ w) (.iv 4 0 true (.tok 0))), (.bool (Pl.o plH (T.mk (T.k (List.getD ts 1 default)) (T.n (List.getD ts 1 default)) (T.kids (List.getD ts 1 default)))))]) [])))))))
     (Ret K (.tup [(.ints .i64 ([] : List Int) (.iv 0 0 true .full)), (.bool false)]) []))))))))) ?_ (by kernel_rfl)
  obtain ⟨⟨d, hd⟩, hx⟩ := hp
  have q : arity k = ts.length := shp_arity hd
  have hm' : (T.mk k n ts).size < m + 1 := hm
  have hs : (T.mk k n ts).size = 1 + sizeL ts := rfl
  have al : (k = 5 → ts.length = 2) ∧ (k = 15 → ts.length = 1) ∧ (k = 16 → ts.length = 1) ∧ (k = 9 → ts.length = 4) ∧ (k = 12 → ts.length = 3) := by
    refine ⟨fun e => ?_, fun e => ?_, fun e => ?_, fun e => ?_, fun e => ?_⟩ <;> subst e
    · have q : (2 : Int) = ts.length := q; omega
    · have q : (1 : Int) = ts.length := q; omega
    · have q : (1 : Int) = ts.length := q; omega
    · have q : (4 : Int) = ts.length := q; omega
    · have q : (3 : Int) = ts.length := q; omega
  have e0 : plH.o (T.mk k n ts) = if (T.mk k n ts).rdx ≠ 0 then true else if mainK k < 0 then false else hdoL ts (mainK k).toNat := by
    show (T.mk k n ts).hdo = _
    unfold T.hdo; rfl
  have e1 : plH.w (T.mk k n ts) = if (T.mk k n ts).rdx ≠ 0 then [] else if mainK k < 0 then [] else mainK k :: hdwL ts (mainK k).toNat := by
    show (T.mk k n ts).hdw = _
    unfold T.hdw; rfl
  have go : ∀ j : Nat, j < ts.length → mainK k = (j : Int) → ¬ (T.mk k n ts).rdx ≠ 0 → ((ts.getD j default).size < m ∧ (∃ d, (ts.getD j default).shp d = true) ∧ (ts.getD j default).size ≤ 100000) ∧ ∀ w : List Int, w.length ≤ (ts.getD j default).size → (plH.o (ts.getD j default) = true → w = plH.w (ts.getD j default)) → ((1 : Int) + (w.length : Nat) ≤ 1099511627776) ∧ Ret K (.tup [.ints .i64 ([(j : Int)] ++ w) (.iv 4 0 true (.tok 0)), .bool (plH.o (ts.getD j default))]) [] := by
    intro j hj hmk hr
    have hk1 := kid_ok hd hj
    refine ⟨⟨by omega, ⟨_, hk1.1⟩, by omega⟩, fun w hw1 hw2 => ⟨by omega, ?_⟩⟩
    rw [if_neg hr, hmk, if_neg (by omega), Int.toNat_natCast] at e0 e1
    rw [hdoL_get hj] at e0
    rw [hdwL_get hj] at e1
    rw [e0] at hk
    exact fin (hk ([(j : Int)] ++ w) (by have := sizeL_mem (getD_mem hj); simp; omega) fun h => by rw [e1, hw2 h]; rfl) (by repeat' first | trivial | rfl | (simp; done) | apply And.intro) trivial
  simp only [T.eta]
  refine ⟨q, br (fun h => ?_) (fun h => ?_)⟩
  · have h := of_decide_eq_true h
    rw [if_pos h] at e0 e1
    rw [e0] at hk
    exact fin (hk [] (Nat.zero_le _) fun _ => e1.symm) (by repeat' first | trivial | rfl | (simp; done) | apply And.intro) trivial
  have hr := of_decide_eq_false h
  have m0 : k = 5 ∨ k = 15 ∨ k = 16 → mainK k = 0 := fun e => if_pos e
  have m3 : k = 9 → mainK k = 3 := fun e => by subst e; decide
  have m1 : k = 12 → mainK k = 1 := fun e => by subst e; decide
  refine br (fun h => ?_) (fun h5 => br (fun h => ?_) (fun h15 => br (fun h => ?_) (fun h16 => br (fun h => ?_) (fun h9 => br (fun h => ?_) (fun h12 => ?_)))))
  · have h := of_decide_eq_true h
    have := al.1 h
    exact ⟨⟨by omega, by omega⟩, go 0 (by omega) (m0 (.inl h)) hr⟩
  · have h := of_decide_eq_true h
    have := al.2.1 h
    exact ⟨⟨by omega, by omega⟩, go 0 (by omega) (m0 (.inr (.inl h))) hr⟩
  · have h := of_decide_eq_true h
    have := al.2.2.1 h
    exact ⟨⟨by omega, by omega⟩, go 0 (by omega) (m0 (.inr (.inr h))) hr⟩
  · have h := of_decide_eq_true h
    have := al.2.2.2.1 h
    exact ⟨⟨by omega, by omega⟩, go 3 (by omega) (m3 h) hr⟩
  · have h := of_decide_eq_true h
    have := al.2.2.2.2 h
    exact ⟨⟨by omega, by omega⟩, go 1 (by omega) (m1 h) hr⟩
  · have h5 := of_decide_eq_false h5; have h15 := of_decide_eq_false h15; have h16 := of_decide_eq_false h16; have h9 := of_decide_eq_false h9; have h12 := of_decide_eq_false h12
    have hm1 : mainK k = -1 := by unfold mainK; rw [if_neg (by omega), if_neg h9, if_neg h12]
    rw [if_neg hr, hm1, if_pos (by omega)] at e0
    rw [e0] at hk
    exact fin (hk [] (Nat.zero_le _) nofun) (by repeat' first | trivial | rfl | (simp; done) | apply And.intro) trivial
theorem Head_soundM : ∀ m : Nat, Sound Try.prog 56 (cHeadM m)
  | 0 => by
      refine soundF (G := []) gnil Try.func56 rfl (by kernel_rfl) fun args hs K hCC => ?_
      unfold cHeadM at hCC
      split at hCC
      case h_2 => exact hCC.elim
      exact absurd hCC.1.1 (Nat.not_lt_zero _)
  | m + 1 => by
      refine soundF (G := [(56, cHeadM m), (54, cRedex)]) ((gcons (Head_soundM m) (gcons Redex_sound gnil))) Try.func56 rfl (by kernel_rfl) fun args hs K hCC => ?_
      unfold cHeadM at hCC
      split at hCC
      case h_2 => exact hCC.elim
      rename_i k n ts
      exact ⟨Nat.le_of_ble_eq_true rfl, _, Head_ok m k n ts K hCC.1.1 hCC.1.2 hCC.2⟩
theorem Head_sound : Sound Try.prog 56 cHead := by
  refine sound_of_all (c := cHeadM) (fun m => (Head_soundM m)) fun args hs K hCC => ?_
  unfold cHead at hCC
  split at hCC
  case h_2 => exact hCC.elim
  exact ⟨_, ⟨Nat.lt_succ_self _, hCC.1⟩, hCC.2⟩
/-- impl.at -/
def cAt : Con
  | [.st [.int .i64 k, .int .i64 n, .slc ts (.arg 0)], .ints .i64 w (.arg 1)], [], K => (((T.mk k n ts).has w) ∧ (w.length ≤ 1000000)) ∧ ((K (((T.mk k n ts).at w).av (.iv 2 2 false .no)) []))
  | _, _, _ => False
theorem At_ok (k n : Int) (ts : List T) (w : List Int) (K : AV → List AV → Prop) (hp : (((T.mk k n ts).has w) ∧ (w.length ≤ 1000000))) (hk : ((K (((T.mk k n ts).at w).av (.iv 2 2 false .no)) []))) :
    bodyQ [] TY [(2, { ι := Nat × T, ok := fun x => x.1 ≤ w.length ∧ x.2.has (w.drop x.1) ∧ x.2.at (w.drop x.1) = (T.mk k n ts).at w, tl := fun x => [(2, .ptr 2), (4, .ptr 4), (7, .ints .i64 w (.arg 1)), (8, .int .i64 w.length), (9, .int .i64 x.1)], hl := fun x => [(2, x.2.av (.iv 2 2 false .no)), (4, (T.mk 0 0 []).av (.iv 0 0 true .full))], fh := fun _ => [], μ := fun x => w.length - x.1 })] Try.f89 (body Try.f89) [.st [.int .i64 k, .int .i64 n, .slc ts (.arg 0)], .ints .i64 w (.arg 1)] [] K := by
  refine of_vc (A :=
    ((∃ x : (Prod Nat T),
     ((((Prod.fst x) ≤ (List.length w)) ∧
     ((T.has (Prod.snd x) (List.drop (Prod.fst x) w)) ∧ ((T.at (Prod.snd x) (List.drop (Prod.fst x) w)) = (T.at (T.mk k n ts) w)))) ∧
     ((w = w) ∧
     (((((List.length w) : Nat) : Int) = (((List.length w) : Nat) : Int)) ∧
     (((0 : Int) = (((Prod.fst x) : Nat) : Int)) ∧
     ((k = (T.k (Prod.snd x))) ∧
     ((n = (T.n (Prod.snd x))) ∧ ((ts = (T.kids (Prod.snd x))) ∧ (((0 : Int) = (0 : Int)) ∧ (((0 : Int) = (0 : Int)) ∧ ((([] : List T) = ([] : List T)) ∧ True))))))))))) ∧
     (∀ x : (Prod Nat T),
     ((((Prod.fst x) ≤ (List.length w)) ∧ ((T.has (Prod.snd x) (List.drop (Prod.fst x) w)) ∧ ((T.at (Prod.snd x) (List.drop (Prod.fst x) w)) = (T.at (T.mk k n ts) w)))) →
     (Br (Decidable.decide ((((Prod.fst x) : Nat) : Int) < (((List.length w) : Nat) : Int)))
     ((((0 : Int) ≤ (((Prod.fst x) : Nat) : Int)) ∧ ((((Prod.fst x) : Nat) : Int) < (((List.length w) : Nat) : Int))) ∧
     ((((0 : Int) ≤ (List.getD w (Int.toNat (((Prod.fst x) : Nat) : Int)) (0 : Int))) ∧
     ((List.getD w (Int.toNat (((Prod.fst x) : Nat) : Int)) (0 : Int)) < (((List.length (T.kids (Prod.snd x))) : Nat) : Int))) ∧
     ((InR ((((Prod.fst x) : Nat) : Int) + (1 : Int))) ∧
     (∃ y : (Prod Nat T),
     ((((Prod.fst y) ≤ (List.length w)) ∧
     ((T.has (Prod.snd y) (List.drop (Prod.fst y) w)) ∧ ((T.at (Prod.snd y) (List.drop (Prod.fst y) w)) = (T.at (T.mk k n ts) w)))) ∧
     ((w = w) ∧
     (((((List.length w) : Nat) : Int) = (((List.length w) : Nat) : Int)) ∧
     ((((((Prod.fst x) : Nat) : Int) + (1 : Int)) = (((Prod.fst y) : Nat) : Int)) ∧
     (((T.k (List.getD (T.kids (Prod.snd x)) (Int.toNat (List.getD w (Int.toNat (((Prod.fst x) : Nat) : Int)) (0 : Int))) default)) = (T.k (Prod.snd y))) ∧
     (((T.n (List.getD (T.kids (Prod.snd x)) (Int.toNat (List.getD w (Int.toNat (((Prod.fst x) : Nat) : Int)) (0 : Int))) default)) = (T.n (Prod.snd y))) ∧
     (((T.kids (List.getD (T.kids (Prod.snd x)) (Int.toNat (List.getD w (Int.toNat (((Prod.fst x) : Nat) : Int)) (0 : Int))) default)) = (T.kids (Prod.snd y))) ∧
     (((0 : Int) = (0 : Int)) ∧
     (((0 : Int) = (0 : Int)) ∧ ((([] : List T) = ([] : List T)) ∧ ((Nat.succ ((List.length w) - (Prod.fst y))) ≤ ((List.length w) - (Prod.fst x)))))))))))))))))
     (Ret K (.st [(.int .i64 (T.k (Prod.snd x))), (.int .i64 (T.n (Prod.snd x))), (.slc (T.kids (Prod.snd x)) (.iv 2 2 false .no))]) [])))))) ?_ (by kernel_rfl)
  obtain ⟨hh, hw⟩ := hp
  refine ⟨⟨(0, T.mk k n ts), ⟨Nat.zero_le _, hh, rfl⟩, (by repeat' first | trivial | rfl | (simp; done) | apply And.intro)⟩, ?_⟩
  rintro ⟨i, t⟩ ⟨g1, g2, g3⟩
  simp only at g1 g2 g3
  refine br (fun h => ?_) (fun h => ?_)
  · have hi : i < w.length := by simpa using h
    rw [drop_getD hi] at g2 g3
    obtain ⟨g4, g5⟩ := g2
    have g3 : (t.kids.getD (w.getD i default).toNat default).at (w.drop (i + 1)) = (T.mk k n ts).at w := g3
    have ed : w.getD i default = w.getD i 0 := rfl
    rw [ed] at g3 g4 g5
    simp only [Int.toNat_natCast]
    refine ⟨⟨by omega, by omega⟩, ⟨g4.1, g4.2⟩, inR_succ hi (by omega), (i + 1, t.kids.getD (w.getD i 0).toNat default), ⟨by show i + 1 ≤ _; omega, g5, g3⟩, (by repeat' first | trivial | rfl | (simp; done) | (dsimp only; omega) | omega | apply And.intro)⟩
  · have hi : ¬ i < w.length := by simpa using h
    rw [List.drop_of_length_le (by omega)] at g3
    have g3 : t = (T.mk k n ts).at w := g3
    exact retT (t := (T.mk k n ts).at w) hk (by rw [g3, T.eta])
theorem At_sound : Sound Try.prog 89 cAt := by
  refine soundF (G := []) (gnil) Try.func89 rfl (by kernel_rfl) fun args hs K hCC => ?_
  unfold cAt at hCC
  split at hCC
  case h_2 => exact hCC.elim
  rename_i k n ts w
  exact ⟨Nat.le_of_ble_eq_true rfl, _, At_ok k n ts w K hCC.1 hCC.2⟩
/-- impl.Term] -/
def cClone : Con
  | [.slc ts (.arg 0)], [], K => ((ts.length ≤ 1048576)) ∧ ((K (.slc ts (.iv 4 2 false (.tok 0))) []))
  | _, _, _ => False
theorem Clone_ok (ts : List T) (K : AV → List AV → Prop) (hp : ((ts.length ≤ 1048576))) (hk : ((K (.slc ts (.iv 4 2 false (.tok 0))) []))) :
    bodyQ [] TY [] Try.f107 (body Try.f107) [.slc ts (.arg 0)] [] K := by
  refine of_vc (A :=
    (∀ b : Bool,
     (((b = true) → (ts = ([] : List T))) →
     (Br b
     (Ret K (.slc [] (.iv 0 0 true .full)) [])
     ((((0 : Int) + (((List.length ts) : Nat) : Int)) ≤ (1099511627776 : Int)) ∧
     (Ret K (.slc (([] : List T) ++ ts) (.iv 4 2 false (.tok 0))) [])))))) ?_ (by kernel_rfl)
  intro b hb
  cases b with
  | true => have := hb rfl; subst this; exact retS hk rfl
  | false => exact ⟨by simp; omega, retS hk (by simp)⟩
theorem Clone_sound : Sound Try.prog 107 cClone := by
  refine soundF (G := []) (gnil) Try.func107 rfl (by kernel_rfl) fun args hs K hCC => ?_
  unfold cClone at hCC
  split at hCC
  case h_2 => exact hCC.elim
  rename_i ts
  exact ⟨Nat.le_of_ble_eq_true rfl, _, Clone_ok ts K hCC.1 hCC.2⟩
/-- impl.put -/
def cPutM (m : Nat) : Con
  | [.st [.int .i64 k, .int .i64 n, .slc ts (.arg 0)], .ints .i64 w (.arg 1), .st [.int .i64 ku, .int .i64 nu, .slc us (.arg 2)]], [], K => ((w.length) < m ∧ (((T.mk k n ts).has w) ∧ ((T.mk k n ts).size ≤ 1000000 ∧ w.length ≤ 1000000))) ∧ ((K (((T.mk k n ts).put w (.mk ku nu us)).av (.iv 6 6 false .no)) []))
  | _, _, _ => False
def cPut : Con
  | [.st [.int .i64 k, .int .i64 n, .slc ts (.arg 0)], .ints .i64 w (.arg 1), .st [.int .i64 ku, .int .i64 nu, .slc us (.arg 2)]], [], K => (((T.mk k n ts).has w) ∧ ((T.mk k n ts).size ≤ 1000000 ∧ w.length ≤ 1000000)) ∧ ((K (((T.mk k n ts).put w (.mk ku nu us)).av (.iv 6 6 false .no)) []))
  | _, _, _ => False
theorem Put_ok (m : Nat) (k n : Int) (ts : List T) (w : List Int) (ku nu : Int) (us : List T) (K : AV → List AV → Prop) (hm : (w.length) < m + 1) (hp : (((T.mk k n ts).has w) ∧ ((T.mk k n ts).size ≤ 1000000 ∧ w.length ≤ 1000000))) (hk : ((K (((T.mk k n ts).put w (.mk ku nu us)).av (.iv 6 6 false .no)) []))) :
    bodyQ [(90, cPutM m), (107, cClone)] TY [(1000004, retagL 7)] Try.f90 (body Try.f90) [.st [.int .i64 k, .int .i64 n, .slc ts (.arg 0)], .ints .i64 w (.arg 1), .st [.int .i64 ku, .int .i64 nu, .slc us (.arg 2)]] [] K := by
  refine of_vc (A :=
    (Br (Decidable.decide ((((List.length w) : Nat) : Int) = (0 : Int)))
     (Ret K (.st [(.int .i64 ku), (.int .i64 nu), (.slc us (.arg 2))]) [])
     (((ts = ts) ∧
     ((n = n) ∧
     ((k = k) ∧
     (((List.length ts) ≤ (1048576 : Nat)) ∧
     ((n = n) ∧
     ((k = k) ∧
     ((((0 : Int) ≤ (0 : Int)) ∧ ((0 : Int) < (((List.length w) : Nat) : Int))) ∧
     ((((0 : Int) ≤ (0 : Int)) ∧ ((0 : Int) < (((List.length w) : Nat) : Int))) ∧
     ((((0 : Int) ≤ (List.getD w (0 : Nat) (0 : Int))) ∧ ((List.getD w (0 : Nat) (0 : Int)) < (((List.length ts) : Nat) : Int))) ∧
     ((((0 : Int) ≤ (1 : Int)) ∧ ((1 : Int) ≤ (((List.length w) : Nat) : Int))) ∧
     ((((List.length (List.drop (1 : Nat) w)) < m) ∧
     ((T.has (T.mk (T.k (List.getD ts (Int.toNat (List.getD w (0 : Nat) (0 : Int))) default)) (T.n (List.getD ts (Int.toNat (List.getD w (0 : Nat) (0 : Int))) default)) (T.kids (List.getD ts (Int.toNat (List.getD w (0 : Nat) (0 : Int))) default))) (List.drop (1 : Nat) w)) ∧
     (((T.size (T.mk (T.k (List.getD ts (Int.toNat (List.getD w (0 : Nat) (0 : Int))) default)) (T.n (List.getD ts (Int.toNat (List.getD w (0 : Nat) (0 : Int))) default)) (T.kids (List.getD ts (Int.toNat (List.getD w (0 : Nat) (0 : Int))) default)))) ≤ (1000000 : Nat)) ∧
     ((List.length (List.drop (1 : Nat) w)) ≤ (1000000 : Nat))))) ∧
     (((List.getD w (0 : Nat) (0 : Int)) = (List.getD w (0 : Nat) (0 : Int))) ∧
     ((ts = ts) ∧
     ((((0 : Int) ≤ (List.getD w (0 : Nat) (0 : Int))) ∧ ((List.getD w (0 : Nat) (0 : Int)) < (((List.length ts) : Nat) : Int))) ∧
     (Ret K (.st [(.int .i64 k), (.int .i64 n), (.slc (List.set ts (Int.toNat (List.getD w (0 : Nat) (0 : Int))) (T.mk (T.k (T.put (T.mk (T.k (List.getD ts (Int.toNat (List.getD w (0 : Nat) (0 : Int))) default)) (T.n (List.getD ts (Int.toNat (List.getD w (0 : Nat) (0 : Int))) default)) (T.kids (List.getD ts (Int.toNat (List.getD w (0 : Nat) (0 : Int))) default))) (List.drop (1 : Nat) w) (T.mk ku nu us))) (T.n (T.put (T.mk (T.k (List.getD ts (Int.toNat (List.getD w (0 : Nat) (0 : Int))) default)) (T.n (List.getD ts (Int.toNat (List.getD w (0 : Nat) (0 : Int))) default)) (T.kids (List.getD ts (Int.toNat (List.getD w (0 : Nat) (0 : Int))) default))) (List.drop (1 : Nat) w) (T.mk ku nu us))) (T.kids (T.put (T.mk (T.k (List.getD ts (Int.toNat (List.getD w (0 : Nat) (0 : Int))) default)) (T.n (List.getD ts (Int.toNat (List.getD w (0 : Nat) (0 : Int))) default)) (T.kids (List.getD ts (Int.toNat (List.getD w (0 : Nat) (0 : Int))) default))) (List.drop (1 : Nat) w) (T.mk ku nu us))))) (.iv 4 6 false (.tok 0)))]) []))))))))))))))) ∧
     (((List.length ts) ≤ (1048576 : Nat)) ∧
     ((n = n) ∧
     ((k = k) ∧
     ((k = k) ∧
     ((n = n) ∧
     ((ts = ts) ∧
     ((n = n) ∧
     ((k = k) ∧
     ((((0 : Int) ≤ (0 : Int)) ∧ ((0 : Int) < (((List.length w) : Nat) : Int))) ∧
     ((((0 : Int) ≤ (0 : Int)) ∧ ((0 : Int) < (((List.length w) : Nat) : Int))) ∧
     ((((0 : Int) ≤ (List.getD w (0 : Nat) (0 : Int))) ∧ ((List.getD w (0 : Nat) (0 : Int)) < (((List.length ts) : Nat) : Int))) ∧
     ((((0 : Int) ≤ (1 : Int)) ∧ ((1 : Int) ≤ (((List.length w) : Nat) : Int))) ∧
     ((((List.length (List.drop (1 : Nat) w)) < m) ∧
     ((T.has (T.mk (T.k (List.getD ts (Int.toNat (List.getD w (0 : Nat) (0 : Int))) default)) (T.n (List.getD ts (Int.toNat (List.getD w (0 : Nat) (0 : Int))) default)) (T.kids (List.getD ts (Int.toNat (List.getD w (0 : Nat) (0 : Int))) default))) (List.drop (1 : Nat) w)) ∧
     (((T.size (T.mk (T.k (List.getD ts (Int.toNat (List.getD w (0 : Nat) (0 : Int))) default)) (T.n (List.getD ts (Int.toNat (List.getD w (0 : Nat) (0 : Int))) default)) (T.kids (List.getD ts (Int.toNat (List.getD w (0 : Nat) (0 : Int))) default)))) ≤ (1000000 : Nat)) ∧
     ((List.length (List.drop (1 : Nat) w)) ≤ (1000000 : Nat))))) ∧
     (((List.getD w (0 : Nat) (0 : Int)) = (List.getD w (0 : Nat) (0 : Int))) ∧
     ((ts = ts) ∧
     ((((0 : Int) ≤ (List.getD w (0 : Nat) (0 : Int))) ∧ ((List.getD w (0 : Nat) (0 : Int)) < (((List.length ts) : Nat) : Int))) ∧
     (Ret K (.st [(.int .i64 k), (.int .i64 n), (.slc (List.set ts (Int.toNat (List.getD w (0 : Nat) (0 : Int))) (T.mk (T.k (T.put (T.mk (T.k (List.getD ts (Int.toNat (List.getD w (0 : Nat) (0 : Int))) default)) (T.n (List.getD ts (Int.toNat (List.getD w (0 : Nat) (0 : Int))) default)) (T.kids (List.getD ts (Int.toNat (List.getD w (0 : Nat) (0 : Int))) default))) (List.drop (1 : Nat) w) (T.mk ku nu us))) (T.n (T.put (T.mk (T.k (List.getD ts (Int.toNat (List.getD w (0 : Nat) (0 : Int))) default)) (T.n (List.getD ts (Int.toNat (List.getD w (0 : Nat) (0 : Int))) default)) (T.kids (List.getD ts (Int.toNat (List.getD w (0 : Nat) (0 : Int))) default))) (List.drop (1 : Nat) w) (T.mk ku nu us))) (T.kids (T.put (T.mk (T.k (List.getD ts (Int.toNat (List.getD w (0 : Nat) (0 : Int))) default)) (T.n (List.getD ts (Int.toNat (List.getD w (0 : Nat) (0 : Int))) default)) (T.kids (List.getD ts (Int.toNat (List.getD w (0 : Nat) (0 : Int))) default))) (List.drop (1 : Nat) w) (T.mk ku nu us))))) (.iv 4 6 false (.tok 0)))]) [])))))))))))))))))))) ?_ (by kernel_rfl)
  obtain ⟨hh, hs, hl⟩ := hp
  have hs : 1 + sizeL ts ≤ 1000000 := hs
  have hll := length_le_sizeL ts
  refine br (fun h => ?_) (fun h => ?_)
  · have h := of_decide_eq_true h
    have e : w = [] := List.eq_nil_of_length_eq_zero (by omega)
    subst e
    exact retT (t := .mk ku nu us) hk rfl
  · cases w with
    | nil => exact absurd h (by simp)
    | cons i w =>
      obtain ⟨hi, hw⟩ := hh
      have hi : 0 ≤ i ∧ i < (ts.length : Int) := hi
      have hw : T.has (ts.getD i.toNat default) w := hw
      have hm' : w.length + 1 < m + 1 := hm
      have hl : w.length + 1 ≤ 1000000 := hl
      have hz := sizeL_mem (getD_mem (show i.toNat < ts.length by omega))
      have e : (T.mk k n ts).put (i :: w) (.mk ku nu us) = .mk k n (ts.set i.toNat ((ts.getD i.toNat default).put w (.mk ku nu us))) := rfl
      simp only [List.getD_cons_zero, List.drop_succ_cons, List.drop_zero, T.eta, List.length_cons]
      refine ⟨?_, ?_⟩
      all_goals repeat' first | trivial | rfl | omega | exact hw | exact retT hk e.symm | apply And.intro
theorem Put_soundM : ∀ m : Nat, Sound Try.prog 90 (cPutM m)
  | 0 => by
      refine soundF (G := []) gnil Try.func90 rfl (by kernel_rfl) fun args hs K hCC => ?_
      unfold cPutM at hCC
      split at hCC
      case h_2 => exact hCC.elim
      exact absurd hCC.1.1 (Nat.not_lt_zero _)
  | m + 1 => by
      refine soundF (G := [(90, cPutM m), (107, cClone)]) ((gcons (Put_soundM m) (gcons Clone_sound gnil))) Try.func90 rfl (by kernel_rfl) fun args hs K hCC => ?_
      unfold cPutM at hCC
      split at hCC
      case h_2 => exact hCC.elim
      rename_i k n ts w ku nu us
      exact ⟨Nat.le_of_ble_eq_true rfl, _, Put_ok m k n ts w ku nu us K hCC.1.1 hCC.1.2 hCC.2⟩
theorem Put_sound : Sound Try.prog 90 cPut := by
  refine sound_of_all (c := cPutM) (fun m => (Put_soundM m)) fun args hs K hCC => ?_
  unfold cPut at hCC
  split at hCC
  case h_2 => exact hCC.elim
  exact ⟨_, ⟨Nat.lt_succ_self _, hCC.1⟩, hCC.2⟩
/-- A step that may be too large. -/
def T.cnO (t : T) (w : List Int) : Bool := (t.stp w).valid
def T.cnR (t : T) (w : List Int) : T := if t.cnO w = true then t.stp w else .mk 0 0 []
/-- impl.contracted -/
def cContracted : Con
  | [.st [.int .i64 k, .int .i64 n, .slc ts (.arg 0)], .ints .i64 w (.arg 1)], [], K => (((T.mk k n ts).valid = true) ∧ ((T.mk k n ts).has w ∧ ((T.mk k n ts).at w).rdx ≠ 0 ∧ w.length ≤ 1000000)) ∧ ((K (.tup [((T.mk k n ts).cnR w).fr, .bool ((T.mk k n ts).cnO w)]) []))
  | _, _, _ => False
theorem Contracted_ok (k n : Int) (ts : List T) (w : List Int) (K : AV → List AV → Prop) (hp : (((T.mk k n ts).valid = true) ∧ ((T.mk k n ts).has w ∧ ((T.mk k n ts).at w).rdx ≠ 0 ∧ w.length ≤ 1000000))) (hk : ((K (.tup [((T.mk k n ts).cnR w).fr, .bool ((T.mk k n ts).cnO w)]) []))) :
    bodyQ [(89, cAt), (51, cContract), (90, cPut), (64, cOwn), (76, cValid)] TY [] Try.f65 (body Try.f65) [.st [.int .i64 k, .int .i64 n, .slc ts (.arg 0)], .ints .i64 w (.arg 1)] [] K := by
  refine of_vc (A :=
    (((T.has (T.mk k n ts) w) ∧ ((List.length w) ≤ (1000000 : Nat))) ∧
     (((T.valid (T.mk (T.k (T.at (T.mk k n ts) w)) (T.n (T.at (T.mk k n ts) w)) (T.kids (T.at (T.mk k n ts) w)))) = true) ∧
     (Br (Bool.not (T.coO (T.mk (T.k (T.at (T.mk k n ts) w)) (T.n (T.at (T.mk k n ts) w)) (T.kids (T.at (T.mk k n ts) w)))))
     (Ret K (.tup [(.st [(.int .i64 0), (.int .i64 0), (.slc [] (.iv 0 0 true .full))]), (.bool false)]) [])
     (((T.has (T.mk k n ts) w) ∧ (((T.size (T.mk k n ts)) ≤ (1000000 : Nat)) ∧ ((List.length w) ≤ (1000000 : Nat)))) ∧
     (((sizeL (T.kids (T.put (T.mk k n ts) w (T.mk (T.k (T.coR (T.mk (T.k (T.at (T.mk k n ts) w)) (T.n (T.at (T.mk k n ts) w)) (T.kids (T.at (T.mk k n ts) w))))) (T.n (T.coR (T.mk (T.k (T.at (T.mk k n ts) w)) (T.n (T.at (T.mk k n ts) w)) (T.kids (T.at (T.mk k n ts) w))))) (T.kids (T.coR (T.mk (T.k (T.at (T.mk k n ts) w)) (T.n (T.at (T.mk k n ts) w)) (T.kids (T.at (T.mk k n ts) w))))))))) ≤ (1048576 : Nat)) ∧
     (True ∧
     ((((T.valid (T.mk (T.k (T.mk (T.k (T.put (T.mk k n ts) w (T.mk (T.k (T.coR (T.mk (T.k (T.at (T.mk k n ts) w)) (T.n (T.at (T.mk k n ts) w)) (T.kids (T.at (T.mk k n ts) w))))) (T.n (T.coR (T.mk (T.k (T.at (T.mk k n ts) w)) (T.n (T.at (T.mk k n ts) w)) (T.kids (T.at (T.mk k n ts) w))))) (T.kids (T.coR (T.mk (T.k (T.at (T.mk k n ts) w)) (T.n (T.at (T.mk k n ts) w)) (T.kids (T.at (T.mk k n ts) w)))))))) (T.n (T.put (T.mk k n ts) w (T.mk (T.k (T.coR (T.mk (T.k (T.at (T.mk k n ts) w)) (T.n (T.at (T.mk k n ts) w)) (T.kids (T.at (T.mk k n ts) w))))) (T.n (T.coR (T.mk (T.k (T.at (T.mk k n ts) w)) (T.n (T.at (T.mk k n ts) w)) (T.kids (T.at (T.mk k n ts) w))))) (T.kids (T.coR (T.mk (T.k (T.at (T.mk k n ts) w)) (T.n (T.at (T.mk k n ts) w)) (T.kids (T.at (T.mk k n ts) w)))))))) (T.kids (T.put (T.mk k n ts) w (T.mk (T.k (T.coR (T.mk (T.k (T.at (T.mk k n ts) w)) (T.n (T.at (T.mk k n ts) w)) (T.kids (T.at (T.mk k n ts) w))))) (T.n (T.coR (T.mk (T.k (T.at (T.mk k n ts) w)) (T.n (T.at (T.mk k n ts) w)) (T.kids (T.at (T.mk k n ts) w))))) (T.kids (T.coR (T.mk (T.k (T.at (T.mk k n ts) w)) (T.n (T.at (T.mk k n ts) w)) (T.kids (T.at (T.mk k n ts) w)))))))))) (T.n (T.mk (T.k (T.put (T.mk k n ts) w (T.mk (T.k (T.coR (T.mk (T.k (T.at (T.mk k n ts) w)) (T.n (T.at (T.mk k n ts) w)) (T.kids (T.at (T.mk k n ts) w))))) (T.n (T.coR (T.mk (T.k (T.at (T.mk k n ts) w)) (T.n (T.at (T.mk k n ts) w)) (T.kids (T.at (T.mk k n ts) w))))) (T.kids (T.coR (T.mk (T.k (T.at (T.mk k n ts) w)) (T.n (T.at (T.mk k n ts) w)) (T.kids (T.at (T.mk k n ts) w)))))))) (T.n (T.put (T.mk k n ts) w (T.mk (T.k (T.coR (T.mk (T.k (T.at (T.mk k n ts) w)) (T.n (T.at (T.mk k n ts) w)) (T.kids (T.at (T.mk k n ts) w))))) (T.n (T.coR (T.mk (T.k (T.at (T.mk k n ts) w)) (T.n (T.at (T.mk k n ts) w)) (T.kids (T.at (T.mk k n ts) w))))) (T.kids (T.coR (T.mk (T.k (T.at (T.mk k n ts) w)) (T.n (T.at (T.mk k n ts) w)) (T.kids (T.at (T.mk k n ts) w)))))))) (T.kids (T.put (T.mk k n ts) w (T.mk (T.k (T.coR (T.mk (T.k (T.at (T.mk k n ts) w)) (T.n (T.at (T.mk k n ts) w)) (T.kids (T.at (T.mk k n ts) w))))) (T.n (T.coR (T.mk (T.k (T.at (T.mk k n ts) w)) (T.n (T.at (T.mk k n ts) w)) (T.kids (T.at (T.mk k n ts) w))))) (T.kids (T.coR (T.mk (T.k (T.at (T.mk k n ts) w)) (T.n (T.at (T.mk k n ts) w)) (T.kids (T.at (T.mk k n ts) w)))))))))) (T.kids (T.mk (T.k (T.put (T.mk k n ts) w (T.mk (T.k (T.coR (T.mk (T.k (T.at (T.mk k n ts) w)) (T.n (T.at (T.mk k n ts) w)) (T.kids (T.at (T.mk k n ts) w))))) (T.n (T.coR (T.mk (T.k (T.at (T.mk k n ts) w)) (T.n (T.at (T.mk k n ts) w)) (T.kids (T.at (T.mk k n ts) w))))) (T.kids (T.coR (T.mk (T.k (T.at (T.mk k n ts) w)) (T.n (T.at (T.mk k n ts) w)) (T.kids (T.at (T.mk k n ts) w)))))))) (T.n (T.put (T.mk k n ts) w (T.mk (T.k (T.coR (T.mk (T.k (T.at (T.mk k n ts) w)) (T.n (T.at (T.mk k n ts) w)) (T.kids (T.at (T.mk k n ts) w))))) (T.n (T.coR (T.mk (T.k (T.at (T.mk k n ts) w)) (T.n (T.at (T.mk k n ts) w)) (T.kids (T.at (T.mk k n ts) w))))) (T.kids (T.coR (T.mk (T.k (T.at (T.mk k n ts) w)) (T.n (T.at (T.mk k n ts) w)) (T.kids (T.at (T.mk k n ts) w)))))))) (T.kids (T.put (T.mk k n ts) w (T.mk (T.k (T.coR (T.mk (T.k (T.at (T.mk k n ts) w)) (T.n (T.at (T.mk k n ts) w)) (T.kids (T.at (T.mk k n ts) w))))) (T.n (T.coR (T.mk (T.k (T.at (T.mk k n ts) w)) (T.n (T.at (T.mk k n ts) w)) (T.kids (T.at (T.mk k n ts) w))))) (T.kids (T.coR (T.mk (T.k (T.at (T.mk k n ts) w)) (T.n (T.at (T.mk k n ts) w)) (T.kids (T.at (T.mk k n ts) w)))))))))))) = true) →
     (Ret K (.tup [(.st [(.int .i64 (T.k (T.mk (T.k (T.put (T.mk k n ts) w (T.mk (T.k (T.coR (T.mk (T.k (T.at (T.mk k n ts) w)) (T.n (T.at (T.mk k n ts) w)) (T.kids (T.at (T.mk k n ts) w))))) (T.n (T.coR (T.mk (T.k (T.at (T.mk k n ts) w)) (T.n (T.at (T.mk k n ts) w)) (T.kids (T.at (T.mk k n ts) w))))) (T.kids (T.coR (T.mk (T.k (T.at (T.mk k n ts) w)) (T.n (T.at (T.mk k n ts) w)) (T.kids (T.at (T.mk k n ts) w)))))))) (T.n (T.put (T.mk k n ts) w (T.mk (T.k (T.coR (T.mk (T.k (T.at (T.mk k n ts) w)) (T.n (T.at (T.mk k n ts) w)) (T.kids (T.at (T.mk k n ts) w))))) (T.n (T.coR (T.mk (T.k (T.at (T.mk k n ts) w)) (T.n (T.at (T.mk k n ts) w)) (T.kids (T.at (T.mk k n ts) w))))) (T.kids (T.coR (T.mk (T.k (T.at (T.mk k n ts) w)) (T.n (T.at (T.mk k n ts) w)) (T.kids (T.at (T.mk k n ts) w)))))))) (T.kids (T.put (T.mk k n ts) w (T.mk (T.k (T.coR (T.mk (T.k (T.at (T.mk k n ts) w)) (T.n (T.at (T.mk k n ts) w)) (T.kids (T.at (T.mk k n ts) w))))) (T.n (T.coR (T.mk (T.k (T.at (T.mk k n ts) w)) (T.n (T.at (T.mk k n ts) w)) (T.kids (T.at (T.mk k n ts) w))))) (T.kids (T.coR (T.mk (T.k (T.at (T.mk k n ts) w)) (T.n (T.at (T.mk k n ts) w)) (T.kids (T.at (T.mk k n ts) w))))))))))), (.int .i64 (T.n (T.mk (T.k (T.put (T.mk k n ts) w (T.mk (T.k (T.coR (T.mk (T.k (T.at (T.mk k n ts) w)) (T.n (T.at (T.mk k n ts) w)) (T.kids (T.at (T.mk k n ts) w))))) (T.n (T.coR (T.mk (T.k (T.at (T.mk k n ts) w)) (T.n (T.at (T.mk k n ts) w)) (T.kids (T.at (T.mk k n ts) w))))) (T.kids (T.coR (T.mk (T.k (T.at (T.mk k n ts) w)) (T.n (T.at (T.mk k n ts) w)) (T.kids (T.at (T.mk k n ts) w)))))))) (T.n (T.put (T.mk k n ts) w (T.mk (T.k (T.coR (T.mk (T.k (T.at (T.mk k n ts) w)) (T.n (T.at (T.mk k n ts) w)) (T.kids (T.at (T.mk k n ts) w))))) (T.n (T.coR (T.mk (T.k (T.at (T.mk k n ts) w)) (T.n (T.at (T.mk k n ts) w)) (T.kids (T.at (T.mk k n ts) w))))) (T.kids (T.coR (T.mk (T.k (T.at (T.mk k n ts) w)) (T.n (T.at (T.mk k n ts) w)) (T.kids (T.at (T.mk k n ts) w)))))))) (T.kids (T.put (T.mk k n ts) w (T.mk (T.k (T.coR (T.mk (T.k (T.at (T.mk k n ts) w)) (T.n (T.at (T.mk k n ts) w)) (T.kids (T.at (T.mk k n ts) w))))) (T.n (T.coR (T.mk (T.k (T.at (T.mk k n ts) w)) (T.n (T.at (T.mk k n ts) w)) (T.kids (T.at (T.mk k n ts) w))))) (T.kids (T.coR (T.mk (T.k (T.at (T.mk k n ts) w)) (T.n (T.at (T.mk k n ts) w)) (T.kids (T.at (T.mk k n ts) w))))))))))), (.slc (T.kids (T.mk (T.k (T.put (T.mk k n ts) w (T.mk (T.k (T.coR (T.mk (T.k (T.at (T.mk k n ts) w)) (T.n (T.at (T.mk k n ts) w)) (T.kids (T.at (T.mk k n ts) w))))) (T.n (T.coR (T.mk (T.k (T.at (T.mk k n ts) w)) (T.n (T.at (T.mk k n ts) w)) (T.kids (T.at (T.mk k n ts) w))))) (T.kids (T.coR (T.mk (T.k (T.at (T.mk k n ts) w)) (T.n (T.at (T.mk k n ts) w)) (T.kids (T.at (T.mk k n ts) w)))))))) (T.n (T.put (T.mk k n ts) w (T.mk (T.k (T.coR (T.mk (T.k (T.at (T.mk k n ts) w)) (T.n (T.at (T.mk k n ts) w)) (T.kids (T.at (T.mk k n ts) w))))) (T.n (T.coR (T.mk (T.k (T.at (T.mk k n ts) w)) (T.n (T.at (T.mk k n ts) w)) (T.kids (T.at (T.mk k n ts) w))))) (T.kids (T.coR (T.mk (T.k (T.at (T.mk k n ts) w)) (T.n (T.at (T.mk k n ts) w)) (T.kids (T.at (T.mk k n ts) w)))))))) (T.kids (T.put (T.mk k n ts) w (T.mk (T.k (T.coR (T.mk (T.k (T.at (T.mk k n ts) w)) (T.n (T.at (T.mk k n ts) w)) (T.kids (T.at (T.mk k n ts) w))))) (T.n (T.coR (T.mk (T.k (T.at (T.mk k n ts) w)) (T.n (T.at (T.mk k n ts) w)) (T.kids (T.at (T.mk k n ts) w))))) (T.kids (T.coR (T.mk (T.k (T.at (T.mk k n ts) w)) (T.n (T.at (T.mk k n ts) w)) (T.kids (T.at (T.mk k n ts) w)))))))))) (.iv 4 4 true (.tok 0)))]), (.bool true)]) [])) ∧
     (((T.valid (T.mk (T.k (T.mk (T.k (T.put (T.mk k n ts) w (T.mk (T.k (T.coR (T.mk (T.k (T.at (T.mk k n ts) w)) (T.n (T.at (T.mk k n ts) w)) (T.kids (T.at (T.mk k n ts) w))))) (T.n (T.coR (T.mk (T.k (T.at (T.mk k n ts) w)) (T.n (T.at (T.mk k n ts) w)) (T.kids (T.at (T.mk k n ts) w))))) (T.kids (T.coR (T.mk (T.k (T.at (T.mk k n ts) w)) (T.n (T.at (T.mk k n ts) w)) (T.kids (T.at (T.mk k n ts) w)))))))) (T.n (T.put (T.mk k n ts) w (T.mk (T.k (T.coR (T.mk (T.k (T.at (T.mk k n ts) w)) (T.n (T.at (T.mk k n ts) w)) (T.kids (T.at (T.mk k n ts) w))))) (T.n (T.coR (T.mk (T.k (T.at (T.mk k n ts) w)) (T.n (T.at (T.mk k n ts) w)) (T.kids (T.at (T.mk k n ts) w))))) (T.kids (T.coR (T.mk (T.k (T.at (T.mk k n ts) w)) (T.n (T.at (T.mk k n ts) w)) (T.kids (T.at (T.mk k n ts) w)))))))) (T.kids (T.put (T.mk k n ts) w (T.mk (T.k (T.coR (T.mk (T.k (T.at (T.mk k n ts) w)) (T.n (T.at (T.mk k n ts) w)) (T.kids (T.at (T.mk k n ts) w))))) (T.n (T.coR (T.mk (T.k (T.at (T.mk k n ts) w)) (T.n (T.at (T.mk k n ts) w)) (T.kids (T.at (T.mk k n ts) w))))) (T.kids (T.coR (T.mk (T.k (T.at (T.mk k n ts) w)) (T.n (T.at (T.mk k n ts) w)) (T.kids (T.at (T.mk k n ts) w)))))))))) (T.n (T.mk (T.k (T.put (T.mk k n ts) w (T.mk (T.k (T.coR (T.mk (T.k (T.at (T.mk k n ts) w)) (T.n (T.at (T.mk k n ts) w)) (T.kids (T.at (T.mk k n ts) w))))) (T.n (T.coR (T.mk (T.k (T.at (T.mk k n ts) w)) (T.n (T.at (T.mk k n ts) w)) (T.kids (T.at (T.mk k n ts) w))))) (T.kids (T.coR (T.mk (T.k (T.at (T.mk k n ts) w)) (T.n (T.at (T.mk k n ts) w)) (T.kids (T.at (T.mk k n ts) w)))))))) (T.n (T.put (T.mk k n ts) w (T.mk (T.k (T.coR (T.mk (T.k (T.at (T.mk k n ts) w)) (T.n (T.at (T.mk k n ts) w)) (T.kids (T.at (T.mk k n ts) w))))) (T.n (T.coR (T.mk (T.k (T.at (T.mk k n ts) w)) (T.n (T.at (T.mk k n ts) w)) (T.kids (T.at (T.mk k n ts) w))))) (T.kids (T.coR (T.mk (T.k (T.at (T.mk k n ts) w)) (T.n (T.at (T.mk k n ts) w)) (T.kids (T.at (T.mk k n ts) w)))))))) (T.kids (T.put (T.mk k n ts) w (T.mk (T.k (T.coR (T.mk (T.k (T.at (T.mk k n ts) w)) (T.n (T.at (T.mk k n ts) w)) (T.kids (T.at (T.mk k n ts) w))))) (T.n (T.coR (T.mk (T.k (T.at (T.mk k n ts) w)) (T.n (T.at (T.mk k n ts) w)) (T.kids (T.at (T.mk k n ts) w))))) (T.kids (T.coR (T.mk (T.k (T.at (T.mk k n ts) w)) (T.n (T.at (T.mk k n ts) w)) (T.kids (T.at (T.mk k n ts) w)))))))))) (T.kids (T.mk (T.k (T.put (T.mk k n ts) w (T.mk (T.k (T.coR (T.mk (T.k (T.at (T.mk k n ts) w)) (T.n (T.at (T.mk k n ts) w)) (T.kids (T.at (T.mk k n ts) w))))) (T.n (T.coR (T.mk (T.k (T.at (T.mk k n ts) w)) (T.n (T.at (T.mk k n ts) w)) (T.kids (T.at (T.mk k n ts) w))))) (T.kids (T.coR (T.mk (T.k (T.at (T.mk k n ts) w)) (T.n (T.at (T.mk k n ts) w)) (T.kids (T.at (T.mk k n ts) w)))))))) (T.n (T.put (T.mk k n ts) w (T.mk (T.k (T.coR (T.mk (T.k (T.at (T.mk k n ts) w)) (T.n (T.at (T.mk k n ts) w)) (T.kids (T.at (T.mk k n ts) w))))) (T.n (T.coR (T.mk (T.k (T.at (T.mk k n ts) w)) (T.n (T.at (T.mk k n ts) w)) (T.kids (T.at (T.mk k n ts) w))))) (T.kids (T.coR (T.mk (T.k (T.at (T.mk k n ts) w)) (T.n (T.at (T.mk k n ts) w)) (T.kids (T.at (T.mk k n ts) w)))))))) (T.kids (T.put (T.mk k n ts) w (T.mk (T.k (T.coR (T.mk (T.k (T.at (T.mk k n ts) w)) (T.n (T.at (T.mk k n ts) w)) (T.kids (T.at (T.mk k n ts) w))))) (T.n (T.coR (T.mk (T.k (T.at (T.mk k n ts) w)) (T.n (T.at (T.mk k n ts) w)) (T.kids (T.at (T.mk k n ts) w))))) (T.kids (T.coR (T.mk (T.k (T.at (T.mk k n ts) w)) (T.n (T.at (T.mk k n ts) w)) (T.kids (T.at (T.mk k n ts) w)))))))))))) = false) →
     (Ret K (.tup [(.st [(.int .i64 0), (.int .i64 0), (.slc [] (.iv 4 4 true (.tok 0)))]), (.bool false)]) [])))))))))) ?_ (by kernel_rfl)
  obtain ⟨hv, hw, hr, hl⟩ := hp
  have hav := T.at_valid hw hv
  have hsz := T.valid_size hv
  have hcs := coR_small ((T.mk k n ts).at w)
  simp only [T.eta]
  refine ⟨⟨hw, hl⟩, hav, br (fun h => ?_) (fun h => ?_)⟩
  · have h : ((T.mk k n ts).at w).coO = false := by simpa using h
    have hc : ((T.mk k n ts).at w).ctr.valid = false := by
      unfold T.coO at h
      rwa [decide_eq_true hr, Bool.true_and] at h
    have hn : (T.mk k n ts).cnO w = false := by
      unfold T.cnO
      cases hs : ((T.mk k n ts).stp w).valid with
      | false => rfl
      | true => exact absurd (T.put_valid hw hs) (by rw [hc]; simp)
    have hR : (T.mk k n ts).cnR w = .mk 0 0 [] := by unfold T.cnR; rw [hn, if_neg (by simp)]
    rw [hn, hR] at hk
    exact retTB hk rfl rfl
  · have h : ((T.mk k n ts).at w).coO = true := by simpa using h
    have hc : ((T.mk k n ts).at w).coR = ((T.mk k n ts).at w).ctr := by unfold T.coR; rw [if_pos h]
    rw [hc] at hcs ⊢
    have hp := T.put_size w (T.mk k n ts) ((T.mk k n ts).at w).ctr hw
    have hq := T.size_eq ((T.mk k n ts).put w ((T.mk k n ts).at w).ctr)
    have hq2 := T.size_eq ((T.mk k n ts).at w).ctr
    refine ⟨⟨hw, by omega, hl⟩, by omega, trivial, fun h2 => ?_, fun h2 => ?_⟩
    · have hn : (T.mk k n ts).cnO w = true := h2
      have hR : (T.mk k n ts).cnR w = (T.mk k n ts).stp w := by unfold T.cnR; rw [if_pos hn]
      rw [hn, hR] at hk
      exact retTB hk (T.eta _) rfl
    · have hn : (T.mk k n ts).cnO w = false := h2
      have hR : (T.mk k n ts).cnR w = .mk 0 0 [] := by unfold T.cnR; rw [hn, if_neg (by simp)]
      rw [hn, hR] at hk
      exact retTB hk rfl rfl
theorem Contracted_sound : Sound Try.prog 65 cContracted := by
  refine soundF (G := [(89, cAt), (51, cContract), (90, cPut), (64, cOwn), (76, cValid)]) ((gcons At_sound (gcons Contract_sound (gcons Put_sound (gcons Own_sound (gcons Valid_sound gnil)))))) Try.func65 rfl (by kernel_rfl) fun args hs K hCC => ?_
  unfold cContracted at hCC
  split at hCC
  case h_2 => exact hCC.elim
  rename_i k n ts w
  exact ⟨Nat.le_of_ble_eq_true rfl, _, Contracted_ok k n ts w K hCC.1 hCC.2⟩
/-- impl.step -/
def cStepO : Con
  | [.st [.int .i64 k, .int .i64 n, .slc ts (.arg 0)], .fn 48 []], [], K => True ∧ ((K (.tup [((T.mk k n ts).stR plO).fr, .int .i64 ((T.mk k n ts).stC plO)]) []))
  | _, _, _ => False
theorem StepO_ok (k n : Int) (ts : List T) (K : AV → List AV → Prop) (hp : True) (hk : ((K (.tup [((T.mk k n ts).stR plO).fr, .int .i64 ((T.mk k n ts).stC plO)]) []))) :
    bodyQ [(49, cTermValid), (48, cOuter), (64, cOwn), (65, cContracted)] TY [] Try.f41 (body Try.f41) [.st [.int .i64 k, .int .i64 n, .slc ts (.arg 0)], .fn 48 []] [] K := by
  refine of_vc (A :=
    (True ∧
     (Br (Bool.not (T.valid (T.mk k n ts)))
     (Ret K (.tup [(.st [(.int .i64 0), (.int .i64 0), (.slc [] (.iv 0 0 true .full))]), (.int .i64 3)]) [])
     (((∃ d : Int, ((T.shp (T.mk k n ts) d) = true)) ∧ ((T.size (T.mk k n ts)) ≤ (100000 : Nat))) ∧
     (∀ w : (List Int),
     (((List.length w) ≤ (T.size (T.mk k n ts))) →
     ((((Pl.o plO (T.mk k n ts)) = true) → (w = (Pl.w plO (T.mk k n ts)))) →
     (Br (Bool.not (Pl.o plO (T.mk k n ts)))
     (((sizeL ts) ≤ (1048576 : Nat)) ∧
     (Ret K (.tup [(.st [(.int .i64 (T.k (T.mk k n ts))), (.int .i64 (T.n (T.mk k n ts))), (.slc (T.kids (T.mk k n ts)) (.iv 4 4 true (.tok 0)))]), (.int .i64 0)]) []))
     ((((T.valid (T.mk k n ts)) = true) ∧ ((T.has (T.mk k n ts) w) ∧ (((T.rdx (T.at (T.mk k n ts) w)) ≠ (0 : Int)) ∧ ((List.length w) ≤ (1000000 : Nat))))) ∧
     (Br (Bool.not (T.cnO (T.mk k n ts) w))
     (Ret K (.tup [(.st [(.int .i64 0), (.int .i64 0), (.slc [] (.iv 0 0 true .full))]), (.int .i64 2)]) [])
     (Ret K (.tup [(.st [(.int .i64 (T.k (T.cnR (T.mk k n ts) w))), (.int .i64 (T.n (T.cnR (T.mk k n ts) w))), (.slc (T.kids (T.cnR (T.mk k n ts) w)) (.iv 4 4 true (.tok 0)))]), (.int .i64 1)]) []))))))))))) ?_ (by kernel_rfl)
  have kr : ∀ (r : T) (c : Int), (T.mk k n ts).stR plO = r → (T.mk k n ts).stC plO = c → K (.tup [r.fr, .int .i64 c]) [] := fun r c h1 h2 => by rw [h1, h2] at hk; exact hk
  refine ⟨trivial, br (fun h => ?_) (fun h => ?_)⟩
  · have h : (T.mk k n ts).valid = false := by simpa using h
    exact retTI (kr (.mk 0 0 []) 3 (by unfold T.stR; rw [h, if_neg (by simp)]) (by unfold T.stC; rw [h, if_neg (by simp)])) rfl rfl
  have hv : (T.mk k n ts).valid = true := by simpa using h
  have hs := T.valid_size hv
  refine ⟨⟨⟨30, valid_shp hv⟩, by omega⟩, fun w hwl hw => br (fun h2 => ?_) (fun h2 => ?_)⟩
  · have h2 : plO.o (T.mk k n ts) = false := by simpa using h2
    have hs' : (T.mk k n ts).size = 1 + sizeL ts := rfl
    exact ⟨by omega, retTI (kr (.mk k n ts) 0 (by unfold T.stR; rw [if_pos hv, h2, if_neg (by simp)]) (by unfold T.stC; rw [if_pos hv, h2, if_neg (by simp)])) rfl rfl⟩
  have h2 : plO.o (T.mk k n ts) = true := by simpa using h2
  have hw := hw h2
  obtain ⟨p1, p2⟩ := plO.ok _ h2
  rw [← hw] at p1 p2
  refine ⟨⟨hv, p1, p2, by omega⟩, br (fun h3 => ?_) (fun h3 => ?_)⟩
  · have h3 : (T.mk k n ts).cnO w = false := by simpa using h3
    unfold T.cnO at h3
    rw [hw] at h3
    exact retTI (kr (.mk 0 0 []) 2 (by unfold T.stR; rw [if_pos hv, if_pos h2, h3, if_neg (by simp)]) (by unfold T.stC; rw [if_pos hv, if_pos h2, h3, if_neg (by simp)])) rfl rfl
  · have h3 : (T.mk k n ts).cnO w = true := by simpa using h3
    have hR : (T.mk k n ts).cnR w = (T.mk k n ts).stp w := by unfold T.cnR; rw [if_pos h3]
    unfold T.cnO at h3
    rw [hR, hw]
    rw [hw] at h3
    exact retTI (kr ((T.mk k n ts).stp (plO.w (T.mk k n ts))) 1 (by unfold T.stR; rw [if_pos hv, if_pos h2, if_pos h3]) (by unfold T.stC; rw [if_pos hv, if_pos h2, if_pos h3])) (T.eta _) rfl
theorem StepO_sound : Sound Try.prog 41 cStepO := by
  refine soundF (G := [(49, cTermValid), (48, cOuter), (64, cOwn), (65, cContracted)]) ((gcons TermValid_sound (gcons Outer_sound (gcons Own_sound (gcons Contracted_sound gnil))))) Try.func41 rfl (by kernel_rfl) fun args hs K hCC => ?_
  unfold cStepO at hCC
  split at hCC
  case h_2 => exact hCC.elim
  rename_i k n ts
  exact ⟨Nat.le_of_ble_eq_true rfl, _, StepO_ok k n ts K hCC.1 hCC.2⟩
/-- impl.StepTerm -/
def cStepTerm : Con
  | [.st [.int .i64 k, .int .i64 n, .slc ts (.arg 0)]], [], K => True ∧ ((K (.tup [((T.mk k n ts).stR plO).fr, .int .i64 ((T.mk k n ts).stC plO)]) []))
  | _, _, _ => False
theorem StepTerm_ok (k n : Int) (ts : List T) (K : AV → List AV → Prop) (hp : True) (hk : ((K (.tup [((T.mk k n ts).stR plO).fr, .int .i64 ((T.mk k n ts).stC plO)]) []))) :
    bodyQ [(41, cStepO)] TY [] Try.f24 (body Try.f24) [.st [.int .i64 k, .int .i64 n, .slc ts (.arg 0)]] [] K := by
  refine of_vc (A :=
    (True ∧
     (Ret K (.tup [(.st [(.int .i64 (T.k (T.stR (T.mk k n ts) plO))), (.int .i64 (T.n (T.stR (T.mk k n ts) plO))), (.slc (T.kids (T.stR (T.mk k n ts) plO)) (.iv 4 4 true (.tok 0)))]), (.int .i64 (T.stC (T.mk k n ts) plO))]) []))) ?_ (by kernel_rfl)
  exact ⟨trivial, retTI hk (T.eta _) rfl⟩
theorem StepTerm_sound : Sound Try.prog 24 cStepTerm := by
  refine soundF (G := [(41, cStepO)]) ((gcons StepO_sound gnil)) Try.func24 rfl (by kernel_rfl) fun args hs K hCC => ?_
  unfold cStepTerm at hCC
  split at hCC
  case h_2 => exact hCC.elim
  rename_i k n ts
  exact ⟨Nat.le_of_ble_eq_true rfl, _, StepTerm_ok k n ts K hCC.1 hCC.2⟩
/-- impl.reduce -/
def cReduceO : Con
  | [.st [.int .i64 k, .int .i64 n, .slc ts (.arg 0)], .int .i64 (f), .fn 48 []], [], K => True ∧ ((K (.tup [((T.mk k n ts).red plO f).1.fr, .int .i64 ((T.mk k n ts).red plO f).2.1, .int .i64 ((T.mk k n ts).red plO f).2.2]) []))
  | _, _, _ => False
theorem ReduceO_ok (k n : Int) (ts : List T) (f : Int) (K : AV → List AV → Prop) (hp : True) (hk : ((K (.tup [((T.mk k n ts).red plO f).1.fr, .int .i64 ((T.mk k n ts).red plO f).2.1, .int .i64 ((T.mk k n ts).red plO f).2.2]) []))) :
    bodyQ [(49, cTermValid), (71, cWithin), (48, cOuter), (64, cOwn), (65, cContracted)] TY [(5, { ι := T × Nat, ok := fun x => x.1.valid = true ∧ x.2 ≤ 200 ∧ (x.2 : Int) ≤ f ∧ x.1.rdc plO (f - x.2).toNat x.2 = (T.mk k n ts).rdc plO f.toNat 0, tl := fun x => [(1, .int .i64 (f)), (2, .fn 48 []), (3, .ptr 3), (6, .ptr 6), (9, .int .i64 x.2)], hl := fun x => [(3, x.1.av .any), (6, (T.mk 0 0 []).av (.iv 0 0 true .full))], fh := fun _ => [], μ := fun x => 201 - x.2 })] Try.f47 (body Try.f47) [.st [.int .i64 k, .int .i64 n, .slc ts (.arg 0)], .int .i64 (f), .fn 48 []] [] K := by
  refine of_vc (A :=
    (True ∧
     (Br (Bool.not (T.valid (T.mk k n ts)))
     (Ret K (.tup [(.st [(.int .i64 0), (.int .i64 0), (.slc [] (.iv 0 0 true .full))]), (.int .i64 0), (.int .i64 3)]) [])
     (True ∧
     (Br (Bool.not (Decidable.decide (((0 : Int) ≤ f) ∧ (f ≤ (200 : Int)))))
     (Ret K (.tup [(.st [(.int .i64 0), (.int .i64 0), (.slc [] (.iv 0 0 true .full))]), (.int .i64 0), (.int .i64 3)]) [])
     ((∃ x : (Prod T Nat),
     ((((T.valid (Prod.fst x)) = true) ∧
     (((Prod.snd x) ≤ (200 : Nat)) ∧
     (((((Prod.snd x) : Nat) : Int) ≤ f) ∧
     ((T.rdc plO (Int.toNat (f - (((Prod.snd x) : Nat) : Int))) (Prod.fst x) (((Prod.snd x) : Nat) : Int)) = (T.rdc plO (Int.toNat f) (T.mk k n ts) (0 : Int)))))) ∧
     ((f = f) ∧
     (((0 : Int) = (((Prod.snd x) : Nat) : Int)) ∧
     ((k = (T.k (Prod.fst x))) ∧
     ((n = (T.n (Prod.fst x))) ∧ ((ts = (T.kids (Prod.fst x))) ∧ (((0 : Int) = (0 : Int)) ∧ (((0 : Int) = (0 : Int)) ∧ ((([] : List T) = ([] : List T)) ∧ True)))))))))) ∧
     (∀ x : (Prod T Nat),
     ((((T.valid (Prod.fst x)) = true) ∧ (((Prod.snd x) ≤ (200 : Nat)) ∧ (((((Prod.snd x) : Nat) : Int) ≤ f) ∧ ((T.rdc plO (Int.toNat (f - (((Prod.snd x) : Nat) : Int))) (Prod.fst x) (((Prod.snd x) : Nat) : Int)) = (T.rdc plO (Int.toNat f) (T.mk k n ts) (0 : Int)))))) →
     (((∃ d : Int, ((T.shp (T.mk (T.k (Prod.fst x)) (T.n (Prod.fst x)) (T.kids (Prod.fst x))) d) = true)) ∧
     ((T.size (T.mk (T.k (Prod.fst x)) (T.n (Prod.fst x)) (T.kids (Prod.fst x)))) ≤ (100000 : Nat))) ∧
     (∀ w : (List Int),
     (((List.length w) ≤ (T.size (T.mk (T.k (Prod.fst x)) (T.n (Prod.fst x)) (T.kids (Prod.fst x))))) →
     ((((Pl.o plO (T.mk (T.k (Prod.fst x)) (T.n (Prod.fst x)) (T.kids (Prod.fst x)))) = true) → (w = (Pl.w plO (T.mk (T.k (Prod.fst x)) (T.n (Prod.fst x)) (T.kids (Prod.fst x)))))) →
     (Br (Bool.not (Pl.o plO (T.mk (T.k (Prod.fst x)) (T.n (Prod.fst x)) (T.kids (Prod.fst x)))))
     (((sizeL (T.kids (Prod.fst x))) ≤ (1048576 : Nat)) ∧
     (Ret K (.tup [(.st [(.int .i64 (T.k (T.mk (T.k (Prod.fst x)) (T.n (Prod.fst x)) (T.kids (Prod.fst x))))), (.int .i64 (T.n (T.mk (T.k (Prod.fst x)) (T.n (Prod.fst x)) (T.kids (Prod.fst x))))), (.slc (T.kids (T.mk (T.k (Prod.fst x)) (T.n (Prod.fst x)) (T.kids (Prod.fst x)))) (.iv 4 4 true (.tok 0)))]), (.int .i64 (((Prod.snd x) : Nat) : Int)), (.int .i64 0)]) []))
     (Br (Decidable.decide ((((Prod.snd x) : Nat) : Int) = f))
     (Ret K (.tup [(.st [(.int .i64 0), (.int .i64 0), (.slc [] (.iv 0 0 true .full))]), (.int .i64 (((Prod.snd x) : Nat) : Int)), (.int .i64 1)]) [])
     ((((T.valid (T.mk (T.k (Prod.fst x)) (T.n (Prod.fst x)) (T.kids (Prod.fst x)))) = true) ∧
     ((T.has (T.mk (T.k (Prod.fst x)) (T.n (Prod.fst x)) (T.kids (Prod.fst x))) w) ∧
     (((T.rdx (T.at (T.mk (T.k (Prod.fst x)) (T.n (Prod.fst x)) (T.kids (Prod.fst x))) w)) ≠ (0 : Int)) ∧ ((List.length w) ≤ (1000000 : Nat))))) ∧
     (Br (Bool.not (T.cnO (T.mk (T.k (Prod.fst x)) (T.n (Prod.fst x)) (T.kids (Prod.fst x))) w))
     (Ret K (.tup [(.st [(.int .i64 0), (.int .i64 0), (.slc [] (.iv 0 0 true .full))]), (.int .i64 (((Prod.snd x) : Nat) : Int)), (.int .i64 2)]) [])
     ((InR ((((Prod.snd x) : Nat) : Int) + (1 : Int))) ∧
     (∃ y : (Prod T Nat),
     ((((T.valid (Prod.fst y)) = true) ∧
     (((Prod.snd y) ≤ (200 : Nat)) ∧
     (((((Prod.snd y) : Nat) : Int) ≤ f) ∧
     ((T.rdc plO (Int.toNat (f - (((Prod.snd y) : Nat) : Int))) (Prod.fst y) (((Prod.snd y) : Nat) : Int)) = (T.rdc plO (Int.toNat f) (T.mk k n ts) (0 : Int)))))) ∧
     ((f = f) ∧
     ((((((Prod.snd x) : Nat) : Int) + (1 : Int)) = (((Prod.snd y) : Nat) : Int)) ∧
     (((T.k (T.cnR (T.mk (T.k (Prod.fst x)) (T.n (Prod.fst x)) (T.kids (Prod.fst x))) w)) = (T.k (Prod.fst y))) ∧
     (((T.n (T.cnR (T.mk (T.k (Prod.fst x)) (T.n (Prod.fst x)) (T.kids (Prod.fst x))) w)) = (T.n (Prod.fst y))) ∧
     (((T.kids (T.cnR (T.mk (T.k (Prod.fst x)) (T.n (Prod.fst x)) (T.kids (Prod.fst x))) w)) = (T.kids (Prod.fst y))) ∧
     (((0 : Int) = (0 : Int)) ∧
     (((0 : Int) = (0 : Int)) ∧ ((([] : List T) = ([] : List T)) ∧ ((Nat.succ ((201 : Nat) - (Prod.snd y))) ≤ ((201 : Nat) - (Prod.snd x)))))))))))))))))))))))))))))) ?_ (by kernel_rfl)
  have kr : ∀ r : T × Int × Int, (T.mk k n ts).red plO f = r → K (.tup [r.1.fr, .int .i64 r.2.1, .int .i64 r.2.2]) [] := fun r h => by rw [h] at hk; exact hk
  simp only [T.eta]
  refine ⟨trivial, br (fun h => ?_) (fun h => ⟨trivial, br (fun h2 => ?_) (fun h2 => ?_)⟩)⟩
  · have h : (T.mk k n ts).valid = false := by simpa using h
    exact retTII (kr (.mk 0 0 [], 0, 3) (by unfold T.red; rw [if_neg (by rw [h]; simp)])) rfl rfl rfl
  · have h2 : ¬ (0 ≤ f ∧ f ≤ 200) := of_decide_eq_false (by rw [Bool.not_eq_true'] at h2; exact h2)
    exact retTII (kr (.mk 0 0 [], 0, 3) (by unfold T.red; rw [if_neg (fun e => h2 e.2)])) rfl rfl rfl
  have hv : (T.mk k n ts).valid = true := by simpa using h
  have h2 : 0 ≤ f ∧ f ≤ 200 := by simpa using h2
  have he : (T.mk k n ts).red plO f = (T.mk k n ts).rdc plO f.toNat 0 := by unfold T.red; rw [if_pos ⟨hv, h2⟩]
  refine ⟨⟨(T.mk k n ts, 0), ⟨hv, Nat.zero_le _, by show (0 : Int) ≤ f; omega, by show (T.mk k n ts).rdc plO (f - 0).toNat 0 = _; rw [Int.sub_zero]⟩, (by repeat' first | trivial | rfl | (simp; done) | apply And.intro)⟩, ?_⟩
  rintro ⟨t, c⟩ ⟨g1, g2, g3, g4⟩
  simp only at g1 g2 g3 g4 ⊢
  rw [← he] at g4
  have hs := T.valid_size g1
  refine ⟨⟨⟨30, valid_shp g1⟩, by omega⟩, fun w hwl hw => br (fun h3 => ?_) (fun h3 => br (fun h4 => ?_) (fun h4 => ?_))⟩
  · have h3 : plO.o t = false := by simpa using h3
    rw [rdc_no h3] at g4
    have hq := T.size_eq t
    exact ⟨by omega, retTII (kr _ g4.symm) (T.eta _) rfl rfl⟩
  · have h3 : plO.o t = true := by simpa using h3
    have h4 : (c : Int) = f := by simpa using h4
    rw [show (f - (c : Int)).toNat = 0 by omega, rdc_zero h3] at g4
    exact retTII (kr _ g4.symm) rfl rfl rfl
  · have h3 : plO.o t = true := by simpa using h3
    have h4 : ¬ (c : Int) = f := by simpa using h4
    have hw := hw h3
    obtain ⟨p1, p2⟩ := plO.ok _ h3
    rw [← hw] at p1 p2
    rw [show (f - (c : Int)).toNat = (f - ((c + 1 : Nat) : Int)).toNat + 1 by omega] at g4
    refine ⟨⟨g1, p1, p2, by omega⟩, br (fun h5 => ?_) (fun h5 => ?_)⟩
    · have h5 : t.cnO w = false := by simpa using h5
      unfold T.cnO at h5
      rw [hw] at h5
      rw [rdc_large h3 _ _ h5] at g4
      exact retTII (kr _ g4.symm) rfl rfl rfl
    · have h5 : t.cnO w = true := by simpa using h5
      have hR : t.cnR w = t.stp w := by unfold T.cnR; rw [if_pos h5]
      unfold T.cnO at h5
      rw [hR]
      have h5' := h5
      rw [hw] at h5
      rw [rdc_step h3 _ _ h5] at g4
      refine ⟨by unfold InR; omega, (t.stp w, c + 1), ⟨h5', by show c + 1 ≤ 200; omega, by show ((c + 1 : Nat) : Int) ≤ f; omega, ?_⟩, (by repeat' first | trivial | rfl | (simp; done) | (dsimp only; omega) | omega | apply And.intro)⟩
      show (t.stp w).rdc plO (f - ((c + 1 : Nat) : Int)).toNat ((c + 1 : Nat) : Int) = _
      rw [hw, ← he, ← g4]
      rfl
theorem ReduceO_sound : Sound Try.prog 47 cReduceO := by
  refine soundF (G := [(49, cTermValid), (71, cWithin), (48, cOuter), (64, cOwn), (65, cContracted)]) ((gcons TermValid_sound (gcons Within_sound (gcons Outer_sound (gcons Own_sound (gcons Contracted_sound gnil)))))) Try.func47 rfl (by kernel_rfl) fun args hs K hCC => ?_
  unfold cReduceO at hCC
  split at hCC
  case h_2 => exact hCC.elim
  rename_i k n ts f
  exact ⟨Nat.le_of_ble_eq_true rfl, _, ReduceO_ok k n ts f K hCC.1 hCC.2⟩
/-- impl.Normalize -/
def cNormalize : Con
  | [.st [.int .i64 k, .int .i64 n, .slc ts (.arg 0)], .int .i64 (f)], [], K => True ∧ ((K (.tup [((T.mk k n ts).red plO f).1.fr, .int .i64 ((T.mk k n ts).red plO f).2.2]) []))
  | _, _, _ => False
theorem Normalize_ok (k n : Int) (ts : List T) (f : Int) (K : AV → List AV → Prop) (hp : True) (hk : ((K (.tup [((T.mk k n ts).red plO f).1.fr, .int .i64 ((T.mk k n ts).red plO f).2.2]) []))) :
    bodyQ [(47, cReduceO)] TY [] Try.f18 (body Try.f18) [.st [.int .i64 k, .int .i64 n, .slc ts (.arg 0)], .int .i64 (f)] [] K := by
  refine of_vc (A :=
    (True ∧
     (Ret K (.tup [(.st [(.int .i64 (T.k (Prod.fst (T.red (T.mk k n ts) plO f)))), (.int .i64 (T.n (Prod.fst (T.red (T.mk k n ts) plO f)))), (.slc (T.kids (Prod.fst (T.red (T.mk k n ts) plO f))) (.iv 4 4 true (.tok 0)))]), (.int .i64 (Prod.snd (Prod.snd (T.red (T.mk k n ts) plO f))))]) []))) ?_ (by kernel_rfl)
  exact ⟨trivial, retTI hk (T.eta _) rfl⟩
theorem Normalize_sound : Sound Try.prog 18 cNormalize := by
  refine soundF (G := [(47, cReduceO)]) ((gcons ReduceO_sound gnil)) Try.func18 rfl (by kernel_rfl) fun args hs K hCC => ?_
  unfold cNormalize at hCC
  split at hCC
  case h_2 => exact hCC.elim
  rename_i k n ts f
  exact ⟨Nat.le_of_ble_eq_true rfl, _, Normalize_ok k n ts f K hCC.1 hCC.2⟩
/-- impl.step -/
def cStepI : Con
  | [.st [.int .i64 k, .int .i64 n, .slc ts (.arg 0)], .fn 42 []], [], K => True ∧ ((K (.tup [((T.mk k n ts).stR plI).fr, .int .i64 ((T.mk k n ts).stC plI)]) []))
  | _, _, _ => False
theorem StepI_ok (k n : Int) (ts : List T) (K : AV → List AV → Prop) (hp : True) (hk : ((K (.tup [((T.mk k n ts).stR plI).fr, .int .i64 ((T.mk k n ts).stC plI)]) []))) :
    bodyQ [(49, cTermValid), (42, cInner), (64, cOwn), (65, cContracted)] TY [] Try.f41 (body Try.f41) [.st [.int .i64 k, .int .i64 n, .slc ts (.arg 0)], .fn 42 []] [] K := by
  refine of_vc (A :=
    (True ∧
     (Br (Bool.not (T.valid (T.mk k n ts)))
     (Ret K (.tup [(.st [(.int .i64 0), (.int .i64 0), (.slc [] (.iv 0 0 true .full))]), (.int .i64 3)]) [])
     (((∃ d : Int, ((T.shp (T.mk k n ts) d) = true)) ∧ ((T.size (T.mk k n ts)) ≤ (100000 : Nat))) ∧
     (∀ w : (List Int),
     (((List.length w) ≤ (T.size (T.mk k n ts))) →
     ((((Pl.o plI (T.mk k n ts)) = true) → (w = (Pl.w plI (T.mk k n ts)))) →
     (Br (Bool.not (Pl.o plI (T.mk k n ts)))
     (((sizeL ts) ≤ (1048576 : Nat)) ∧
     (Ret K (.tup [(.st [(.int .i64 (T.k (T.mk k n ts))), (.int .i64 (T.n (T.mk k n ts))), (.slc (T.kids (T.mk k n ts)) (.iv 4 4 true (.tok 0)))]), (.int .i64 0)]) []))
     ((((T.valid (T.mk k n ts)) = true) ∧ ((T.has (T.mk k n ts) w) ∧ (((T.rdx (T.at (T.mk k n ts) w)) ≠ (0 : Int)) ∧ ((List.length w) ≤ (1000000 : Nat))))) ∧
     (Br (Bool.not (T.cnO (T.mk k n ts) w))
     (Ret K (.tup [(.st [(.int .i64 0), (.int .i64 0), (.slc [] (.iv 0 0 true .full))]), (.int .i64 2)]) [])
     (Ret K (.tup [(.st [(.int .i64 (T.k (T.cnR (T.mk k n ts) w))), (.int .i64 (T.n (T.cnR (T.mk k n ts) w))), (.slc (T.kids (T.cnR (T.mk k n ts) w)) (.iv 4 4 true (.tok 0)))]), (.int .i64 1)]) []))))))))))) ?_ (by kernel_rfl)
  have kr : ∀ (r : T) (c : Int), (T.mk k n ts).stR plI = r → (T.mk k n ts).stC plI = c → K (.tup [r.fr, .int .i64 c]) [] := fun r c h1 h2 => by rw [h1, h2] at hk; exact hk
  refine ⟨trivial, br (fun h => ?_) (fun h => ?_)⟩
  · have h : (T.mk k n ts).valid = false := by simpa using h
    exact retTI (kr (.mk 0 0 []) 3 (by unfold T.stR; rw [h, if_neg (by simp)]) (by unfold T.stC; rw [h, if_neg (by simp)])) rfl rfl
  have hv : (T.mk k n ts).valid = true := by simpa using h
  have hs := T.valid_size hv
  refine ⟨⟨⟨30, valid_shp hv⟩, by omega⟩, fun w hwl hw => br (fun h2 => ?_) (fun h2 => ?_)⟩
  · have h2 : plI.o (T.mk k n ts) = false := by simpa using h2
    have hs' : (T.mk k n ts).size = 1 + sizeL ts := rfl
    exact ⟨by omega, retTI (kr (.mk k n ts) 0 (by unfold T.stR; rw [if_pos hv, h2, if_neg (by simp)]) (by unfold T.stC; rw [if_pos hv, h2, if_neg (by simp)])) rfl rfl⟩
  have h2 : plI.o (T.mk k n ts) = true := by simpa using h2
  have hw := hw h2
  obtain ⟨p1, p2⟩ := plI.ok _ h2
  rw [← hw] at p1 p2
  refine ⟨⟨hv, p1, p2, by omega⟩, br (fun h3 => ?_) (fun h3 => ?_)⟩
  · have h3 : (T.mk k n ts).cnO w = false := by simpa using h3
    unfold T.cnO at h3
    rw [hw] at h3
    exact retTI (kr (.mk 0 0 []) 2 (by unfold T.stR; rw [if_pos hv, if_pos h2, h3, if_neg (by simp)]) (by unfold T.stC; rw [if_pos hv, if_pos h2, h3, if_neg (by simp)])) rfl rfl
  · have h3 : (T.mk k n ts).cnO w = true := by simpa using h3
    have hR : (T.mk k n ts).cnR w = (T.mk k n ts).stp w := by unfold T.cnR; rw [if_pos h3]
    unfold T.cnO at h3
    rw [hR, hw]
    rw [hw] at h3
    exact retTI (kr ((T.mk k n ts).stp (plI.w (T.mk k n ts))) 1 (by unfold T.stR; rw [if_pos hv, if_pos h2, if_pos h3]) (by unfold T.stC; rw [if_pos hv, if_pos h2, if_pos h3])) (T.eta _) rfl
theorem StepI_sound : Sound Try.prog 41 cStepI := by
  refine soundF (G := [(49, cTermValid), (42, cInner), (64, cOwn), (65, cContracted)]) ((gcons TermValid_sound (gcons Inner_sound (gcons Own_sound (gcons Contracted_sound gnil))))) Try.func41 rfl (by kernel_rfl) fun args hs K hCC => ?_
  unfold cStepI at hCC
  split at hCC
  case h_2 => exact hCC.elim
  rename_i k n ts
  exact ⟨Nat.le_of_ble_eq_true rfl, _, StepI_ok k n ts K hCC.1 hCC.2⟩
/-- impl.StepInner -/
def cStepInner : Con
  | [.st [.int .i64 k, .int .i64 n, .slc ts (.arg 0)]], [], K => True ∧ ((K (.tup [((T.mk k n ts).stR plI).fr, .int .i64 ((T.mk k n ts).stC plI)]) []))
  | _, _, _ => False
theorem StepInner_ok (k n : Int) (ts : List T) (K : AV → List AV → Prop) (hp : True) (hk : ((K (.tup [((T.mk k n ts).stR plI).fr, .int .i64 ((T.mk k n ts).stC plI)]) []))) :
    bodyQ [(41, cStepI)] TY [] Try.f15 (body Try.f15) [.st [.int .i64 k, .int .i64 n, .slc ts (.arg 0)]] [] K := by
  refine of_vc (A :=
    (True ∧
     (Ret K (.tup [(.st [(.int .i64 (T.k (T.stR (T.mk k n ts) plI))), (.int .i64 (T.n (T.stR (T.mk k n ts) plI))), (.slc (T.kids (T.stR (T.mk k n ts) plI)) (.iv 4 4 true (.tok 0)))]), (.int .i64 (T.stC (T.mk k n ts) plI))]) []))) ?_ (by kernel_rfl)
  exact ⟨trivial, retTI hk (T.eta _) rfl⟩
theorem StepInner_sound : Sound Try.prog 15 cStepInner := by
  refine soundF (G := [(41, cStepI)]) ((gcons StepI_sound gnil)) Try.func15 rfl (by kernel_rfl) fun args hs K hCC => ?_
  unfold cStepInner at hCC
  split at hCC
  case h_2 => exact hCC.elim
  rename_i k n ts
  exact ⟨Nat.le_of_ble_eq_true rfl, _, StepInner_ok k n ts K hCC.1 hCC.2⟩
/-- impl.reduce -/
def cReduceI : Con
  | [.st [.int .i64 k, .int .i64 n, .slc ts (.arg 0)], .int .i64 (f), .fn 42 []], [], K => True ∧ ((K (.tup [((T.mk k n ts).red plI f).1.fr, .int .i64 ((T.mk k n ts).red plI f).2.1, .int .i64 ((T.mk k n ts).red plI f).2.2]) []))
  | _, _, _ => False
theorem ReduceI_ok (k n : Int) (ts : List T) (f : Int) (K : AV → List AV → Prop) (hp : True) (hk : ((K (.tup [((T.mk k n ts).red plI f).1.fr, .int .i64 ((T.mk k n ts).red plI f).2.1, .int .i64 ((T.mk k n ts).red plI f).2.2]) []))) :
    bodyQ [(49, cTermValid), (71, cWithin), (42, cInner), (64, cOwn), (65, cContracted)] TY [(5, { ι := T × Nat, ok := fun x => x.1.valid = true ∧ x.2 ≤ 200 ∧ (x.2 : Int) ≤ f ∧ x.1.rdc plI (f - x.2).toNat x.2 = (T.mk k n ts).rdc plI f.toNat 0, tl := fun x => [(1, .int .i64 (f)), (2, .fn 42 []), (3, .ptr 3), (6, .ptr 6), (9, .int .i64 x.2)], hl := fun x => [(3, x.1.av .any), (6, (T.mk 0 0 []).av (.iv 0 0 true .full))], fh := fun _ => [], μ := fun x => 201 - x.2 })] Try.f47 (body Try.f47) [.st [.int .i64 k, .int .i64 n, .slc ts (.arg 0)], .int .i64 (f), .fn 42 []] [] K := by
  refine of_vc (A :=
    (True ∧
     (Br (Bool.not (T.valid (T.mk k n ts)))
     (Ret K (.tup [(.st [(.int .i64 0), (.int .i64 0), (.slc [] (.iv 0 0 true .full))]), (.int .i64 0), (.int .i64 3)]) [])
     (True ∧
     (Br (Bool.not (Decidable.decide (((0 : Int) ≤ f) ∧ (f ≤ (200 : Int)))))
     (Ret K (.tup [(.st [(.int .i64 0), (.int .i64 0), (.slc [] (.iv 0 0 true .full))]), (.int .i64 0), (.int .i64 3)]) [])
     ((∃ x : (Prod T Nat),
     ((((T.valid (Prod.fst x)) = true) ∧
     (((Prod.snd x) ≤ (200 : Nat)) ∧
     (((((Prod.snd x) : Nat) : Int) ≤ f) ∧
     ((T.rdc plI (Int.toNat (f - (((Prod.snd x) : Nat) : Int))) (Prod.fst x) (((Prod.snd x) : Nat) : Int)) = (T.rdc plI (Int.toNat f) (T.mk k n ts) (0 : Int)))))) ∧
     ((f = f) ∧
     (((0 : Int) = (((Prod.snd x) : Nat) : Int)) ∧
     ((k = (T.k (Prod.fst x))) ∧
     ((n = (T.n (Prod.fst x))) ∧ ((ts = (T.kids (Prod.fst x))) ∧ (((0 : Int) = (0 : Int)) ∧ (((0 : Int) = (0 : Int)) ∧ ((([] : List T) = ([] : List T)) ∧ True)))))))))) ∧
     (∀ x : (Prod T Nat),
     ((((T.valid (Prod.fst x)) = true) ∧ (((Prod.snd x) ≤ (200 : Nat)) ∧ (((((Prod.snd x) : Nat) : Int) ≤ f) ∧ ((T.rdc plI (Int.toNat (f - (((Prod.snd x) : Nat) : Int))) (Prod.fst x) (((Prod.snd x) : Nat) : Int)) = (T.rdc plI (Int.toNat f) (T.mk k n ts) (0 : Int)))))) →
     (((∃ d : Int, ((T.shp (T.mk (T.k (Prod.fst x)) (T.n (Prod.fst x)) (T.kids (Prod.fst x))) d) = true)) ∧
     ((T.size (T.mk (T.k (Prod.fst x)) (T.n (Prod.fst x)) (T.kids (Prod.fst x)))) ≤ (100000 : Nat))) ∧
     (∀ w : (List Int),
     (((List.length w) ≤ (T.size (T.mk (T.k (Prod.fst x)) (T.n (Prod.fst x)) (T.kids (Prod.fst x))))) →
     ((((Pl.o plI (T.mk (T.k (Prod.fst x)) (T.n (Prod.fst x)) (T.kids (Prod.fst x)))) = true) → (w = (Pl.w plI (T.mk (T.k (Prod.fst x)) (T.n (Prod.fst x)) (T.kids (Prod.fst x)))))) →
     (Br (Bool.not (Pl.o plI (T.mk (T.k (Prod.fst x)) (T.n (Prod.fst x)) (T.kids (Prod.fst x)))))
     (((sizeL (T.kids (Prod.fst x))) ≤ (1048576 : Nat)) ∧
     (Ret K (.tup [(.st [(.int .i64 (T.k (T.mk (T.k (Prod.fst x)) (T.n (Prod.fst x)) (T.kids (Prod.fst x))))), (.int .i64 (T.n (T.mk (T.k (Prod.fst x)) (T.n (Prod.fst x)) (T.kids (Prod.fst x))))), (.slc (T.kids (T.mk (T.k (Prod.fst x)) (T.n (Prod.fst x)) (T.kids (Prod.fst x)))) (.iv 4 4 true (.tok 0)))]), (.int .i64 (((Prod.snd x) : Nat) : Int)), (.int .i64 0)]) []))
     (Br (Decidable.decide ((((Prod.snd x) : Nat) : Int) = f))
     (Ret K (.tup [(.st [(.int .i64 0), (.int .i64 0), (.slc [] (.iv 0 0 true .full))]), (.int .i64 (((Prod.snd x) : Nat) : Int)), (.int .i64 1)]) [])
     ((((T.valid (T.mk (T.k (Prod.fst x)) (T.n (Prod.fst x)) (T.kids (Prod.fst x)))) = true) ∧
     ((T.has (T.mk (T.k (Prod.fst x)) (T.n (Prod.fst x)) (T.kids (Prod.fst x))) w) ∧
     (((T.rdx (T.at (T.mk (T.k (Prod.fst x)) (T.n (Prod.fst x)) (T.kids (Prod.fst x))) w)) ≠ (0 : Int)) ∧ ((List.length w) ≤ (1000000 : Nat))))) ∧
     (Br (Bool.not (T.cnO (T.mk (T.k (Prod.fst x)) (T.n (Prod.fst x)) (T.kids (Prod.fst x))) w))
     (Ret K (.tup [(.st [(.int .i64 0), (.int .i64 0), (.slc [] (.iv 0 0 true .full))]), (.int .i64 (((Prod.snd x) : Nat) : Int)), (.int .i64 2)]) [])
     ((InR ((((Prod.snd x) : Nat) : Int) + (1 : Int))) ∧
     (∃ y : (Prod T Nat),
     ((((T.valid (Prod.fst y)) = true) ∧
     (((Prod.snd y) ≤ (200 : Nat)) ∧
     (((((Prod.snd y) : Nat) : Int) ≤ f) ∧
     ((T.rdc plI (Int.toNat (f - (((Prod.snd y) : Nat) : Int))) (Prod.fst y) (((Prod.snd y) : Nat) : Int)) = (T.rdc plI (Int.toNat f) (T.mk k n ts) (0 : Int)))))) ∧
     ((f = f) ∧
     ((((((Prod.snd x) : Nat) : Int) + (1 : Int)) = (((Prod.snd y) : Nat) : Int)) ∧
     (((T.k (T.cnR (T.mk (T.k (Prod.fst x)) (T.n (Prod.fst x)) (T.kids (Prod.fst x))) w)) = (T.k (Prod.fst y))) ∧
     (((T.n (T.cnR (T.mk (T.k (Prod.fst x)) (T.n (Prod.fst x)) (T.kids (Prod.fst x))) w)) = (T.n (Prod.fst y))) ∧
     (((T.kids (T.cnR (T.mk (T.k (Prod.fst x)) (T.n (Prod.fst x)) (T.kids (Prod.fst x))) w)) = (T.kids (Prod.fst y))) ∧
     (((0 : Int) = (0 : Int)) ∧
     (((0 : Int) = (0 : Int)) ∧ ((([] : List T) = ([] : List T)) ∧ ((Nat.succ ((201 : Nat) - (Prod.snd y))) ≤ ((201 : Nat) - (Prod.snd x)))))))))))))))))))))))))))))) ?_ (by kernel_rfl)
  have kr : ∀ r : T × Int × Int, (T.mk k n ts).red plI f = r → K (.tup [r.1.fr, .int .i64 r.2.1, .int .i64 r.2.2]) [] := fun r h => by rw [h] at hk; exact hk
  simp only [T.eta]
  refine ⟨trivial, br (fun h => ?_) (fun h => ⟨trivial, br (fun h2 => ?_) (fun h2 => ?_)⟩)⟩
  · have h : (T.mk k n ts).valid = false := by simpa using h
    exact retTII (kr (.mk 0 0 [], 0, 3) (by unfold T.red; rw [if_neg (by rw [h]; simp)])) rfl rfl rfl
  · have h2 : ¬ (0 ≤ f ∧ f ≤ 200) := of_decide_eq_false (by rw [Bool.not_eq_true'] at h2; exact h2)
    exact retTII (kr (.mk 0 0 [], 0, 3) (by unfold T.red; rw [if_neg (fun e => h2 e.2)])) rfl rfl rfl
  have hv : (T.mk k n ts).valid = true := by simpa using h
  have h2 : 0 ≤ f ∧ f ≤ 200 := by simpa using h2
  have he : (T.mk k n ts).red plI f = (T.mk k n ts).rdc plI f.toNat 0 := by unfold T.red; rw [if_pos ⟨hv, h2⟩]
  refine ⟨⟨(T.mk k n ts, 0), ⟨hv, Nat.zero_le _, by show (0 : Int) ≤ f; omega, by show (T.mk k n ts).rdc plI (f - 0).toNat 0 = _; rw [Int.sub_zero]⟩, (by repeat' first | trivial | rfl | (simp; done) | apply And.intro)⟩, ?_⟩
  rintro ⟨t, c⟩ ⟨g1, g2, g3, g4⟩
  simp only at g1 g2 g3 g4 ⊢
  rw [← he] at g4
  have hs := T.valid_size g1
  refine ⟨⟨⟨30, valid_shp g1⟩, by omega⟩, fun w hwl hw => br (fun h3 => ?_) (fun h3 => br (fun h4 => ?_) (fun h4 => ?_))⟩
  · have h3 : plI.o t = false := by simpa using h3
    rw [rdc_no h3] at g4
    have hq := T.size_eq t
    exact ⟨by omega, retTII (kr _ g4.symm) (T.eta _) rfl rfl⟩
  · have h3 : plI.o t = true := by simpa using h3
    have h4 : (c : Int) = f := by simpa using h4
    rw [show (f - (c : Int)).toNat = 0 by omega, rdc_zero h3] at g4
    exact retTII (kr _ g4.symm) rfl rfl rfl
  · have h3 : plI.o t = true := by simpa using h3
    have h4 : ¬ (c : Int) = f := by simpa using h4
    have hw := hw h3
    obtain ⟨p1, p2⟩ := plI.ok _ h3
    rw [← hw] at p1 p2
    rw [show (f - (c : Int)).toNat = (f - ((c + 1 : Nat) : Int)).toNat + 1 by omega] at g4
    refine ⟨⟨g1, p1, p2, by omega⟩, br (fun h5 => ?_) (fun h5 => ?_)⟩
    · have h5 : t.cnO w = false := by simpa using h5
      unfold T.cnO at h5
      rw [hw] at h5
      rw [rdc_large h3 _ _ h5] at g4
      exact retTII (kr _ g4.symm) rfl rfl rfl
    · have h5 : t.cnO w = true := by simpa using h5
      have hR : t.cnR w = t.stp w := by unfold T.cnR; rw [if_pos h5]
      unfold T.cnO at h5
      rw [hR]
      have h5' := h5
      rw [hw] at h5
      rw [rdc_step h3 _ _ h5] at g4
      refine ⟨by unfold InR; omega, (t.stp w, c + 1), ⟨h5', by show c + 1 ≤ 200; omega, by show ((c + 1 : Nat) : Int) ≤ f; omega, ?_⟩, (by repeat' first | trivial | rfl | (simp; done) | (dsimp only; omega) | omega | apply And.intro)⟩
      show (t.stp w).rdc plI (f - ((c + 1 : Nat) : Int)).toNat ((c + 1 : Nat) : Int) = _
      rw [hw, ← he, ← g4]
      rfl
theorem ReduceI_sound : Sound Try.prog 47 cReduceI := by
  refine soundF (G := [(49, cTermValid), (71, cWithin), (42, cInner), (64, cOwn), (65, cContracted)]) ((gcons TermValid_sound (gcons Within_sound (gcons Inner_sound (gcons Own_sound (gcons Contracted_sound gnil)))))) Try.func47 rfl (by kernel_rfl) fun args hs K hCC => ?_
  unfold cReduceI at hCC
  split at hCC
  case h_2 => exact hCC.elim
  rename_i k n ts f
  exact ⟨Nat.le_of_ble_eq_true rfl, _, ReduceI_ok k n ts f K hCC.1 hCC.2⟩
/-- impl.NormalizeInner -/
def cNormalizeInner : Con
  | [.st [.int .i64 k, .int .i64 n, .slc ts (.arg 0)], .int .i64 (f)], [], K => True ∧ ((K (.tup [((T.mk k n ts).red plI f).1.fr, .int .i64 ((T.mk k n ts).red plI f).2.2]) []))
  | _, _, _ => False
theorem NormalizeInner_ok (k n : Int) (ts : List T) (f : Int) (K : AV → List AV → Prop) (hp : True) (hk : ((K (.tup [((T.mk k n ts).red plI f).1.fr, .int .i64 ((T.mk k n ts).red plI f).2.2]) []))) :
    bodyQ [(47, cReduceI)] TY [] Try.f35 (body Try.f35) [.st [.int .i64 k, .int .i64 n, .slc ts (.arg 0)], .int .i64 (f)] [] K := by
  refine of_vc (A :=
    (True ∧
     (Ret K (.tup [(.st [(.int .i64 (T.k (Prod.fst (T.red (T.mk k n ts) plI f)))), (.int .i64 (T.n (Prod.fst (T.red (T.mk k n ts) plI f)))), (.slc (T.kids (Prod.fst (T.red (T.mk k n ts) plI f))) (.iv 4 4 true (.tok 0)))]), (.int .i64 (Prod.snd (Prod.snd (T.red (T.mk k n ts) plI f))))]) []))) ?_ (by kernel_rfl)
  exact ⟨trivial, retTI hk (T.eta _) rfl⟩
theorem NormalizeInner_sound : Sound Try.prog 35 cNormalizeInner := by
  refine soundF (G := [(47, cReduceI)]) ((gcons ReduceI_sound gnil)) Try.func35 rfl (by kernel_rfl) fun args hs K hCC => ?_
  unfold cNormalizeInner at hCC
  split at hCC
  case h_2 => exact hCC.elim
  rename_i k n ts f
  exact ⟨Nat.le_of_ble_eq_true rfl, _, NormalizeInner_ok k n ts f K hCC.1 hCC.2⟩
/-- impl.reduce -/
def cReduceH : Con
  | [.st [.int .i64 k, .int .i64 n, .slc ts (.arg 0)], .int .i64 (f), .fn 56 []], [], K => True ∧ ((K (.tup [((T.mk k n ts).red plH f).1.fr, .int .i64 ((T.mk k n ts).red plH f).2.1, .int .i64 ((T.mk k n ts).red plH f).2.2]) []))
  | _, _, _ => False
theorem ReduceH_ok (k n : Int) (ts : List T) (f : Int) (K : AV → List AV → Prop) (hp : True) (hk : ((K (.tup [((T.mk k n ts).red plH f).1.fr, .int .i64 ((T.mk k n ts).red plH f).2.1, .int .i64 ((T.mk k n ts).red plH f).2.2]) []))) :
    bodyQ [(49, cTermValid), (71, cWithin), (56, cHead), (64, cOwn), (65, cContracted)] TY [(5, { ι := T × Nat, ok := fun x => x.1.valid = true ∧ x.2 ≤ 200 ∧ (x.2 : Int) ≤ f ∧ x.1.rdc plH (f - x.2).toNat x.2 = (T.mk k n ts).rdc plH f.toNat 0, tl := fun x => [(1, .int .i64 (f)), (2, .fn 56 []), (3, .ptr 3), (6, .ptr 6), (9, .int .i64 x.2)], hl := fun x => [(3, x.1.av .any), (6, (T.mk 0 0 []).av (.iv 0 0 true .full))], fh := fun _ => [], μ := fun x => 201 - x.2 })] Try.f47 (body Try.f47) [.st [.int .i64 k, .int .i64 n, .slc ts (.arg 0)], .int .i64 (f), .fn 56 []] [] K := by
  refine of_vc (A :=
    (True ∧
     (Br (Bool.not (T.valid (T.mk k n ts)))
     (Ret K (.tup [(.st [(.int .i64 0), (.int .i64 0), (.slc [] (.iv 0 0 true .full))]), (.int .i64 0), (.int .i64 3)]) [])
     (True ∧
     (Br (Bool.not (Decidable.decide (((0 : Int) ≤ f) ∧ (f ≤ (200 : Int)))))
     (Ret K (.tup [(.st [(.int .i64 0), (.int .i64 0), (.slc [] (.iv 0 0 true .full))]), (.int .i64 0), (.int .i64 3)]) [])
     ((∃ x : (Prod T Nat),
     ((((T.valid (Prod.fst x)) = true) ∧
     (((Prod.snd x) ≤ (200 : Nat)) ∧
     (((((Prod.snd x) : Nat) : Int) ≤ f) ∧
     ((T.rdc plH (Int.toNat (f - (((Prod.snd x) : Nat) : Int))) (Prod.fst x) (((Prod.snd x) : Nat) : Int)) = (T.rdc plH (Int.toNat f) (T.mk k n ts) (0 : Int)))))) ∧
     ((f = f) ∧
     (((0 : Int) = (((Prod.snd x) : Nat) : Int)) ∧
     ((k = (T.k (Prod.fst x))) ∧
     ((n = (T.n (Prod.fst x))) ∧ ((ts = (T.kids (Prod.fst x))) ∧ (((0 : Int) = (0 : Int)) ∧ (((0 : Int) = (0 : Int)) ∧ ((([] : List T) = ([] : List T)) ∧ True)))))))))) ∧
     (∀ x : (Prod T Nat),
     ((((T.valid (Prod.fst x)) = true) ∧ (((Prod.snd x) ≤ (200 : Nat)) ∧ (((((Prod.snd x) : Nat) : Int) ≤ f) ∧ ((T.rdc plH (Int.toNat (f - (((Prod.snd x) : Nat) : Int))) (Prod.fst x) (((Prod.snd x) : Nat) : Int)) = (T.rdc plH (Int.toNat f) (T.mk k n ts) (0 : Int)))))) →
     (((∃ d : Int, ((T.shp (T.mk (T.k (Prod.fst x)) (T.n (Prod.fst x)) (T.kids (Prod.fst x))) d) = true)) ∧
     ((T.size (T.mk (T.k (Prod.fst x)) (T.n (Prod.fst x)) (T.kids (Prod.fst x)))) ≤ (100000 : Nat))) ∧
     (∀ w : (List Int),
     (((List.length w) ≤ (T.size (T.mk (T.k (Prod.fst x)) (T.n (Prod.fst x)) (T.kids (Prod.fst x))))) →
     ((((Pl.o plH (T.mk (T.k (Prod.fst x)) (T.n (Prod.fst x)) (T.kids (Prod.fst x)))) = true) → (w = (Pl.w plH (T.mk (T.k (Prod.fst x)) (T.n (Prod.fst x)) (T.kids (Prod.fst x)))))) →
     (Br (Bool.not (Pl.o plH (T.mk (T.k (Prod.fst x)) (T.n (Prod.fst x)) (T.kids (Prod.fst x)))))
     (((sizeL (T.kids (Prod.fst x))) ≤ (1048576 : Nat)) ∧
     (Ret K (.tup [(.st [(.int .i64 (T.k (T.mk (T.k (Prod.fst x)) (T.n (Prod.fst x)) (T.kids (Prod.fst x))))), (.int .i64 (T.n (T.mk (T.k (Prod.fst x)) (T.n (Prod.fst x)) (T.kids (Prod.fst x))))), (.slc (T.kids (T.mk (T.k (Prod.fst x)) (T.n (Prod.fst x)) (T.kids (Prod.fst x)))) (.iv 4 4 true (.tok 0)))]), (.int .i64 (((Prod.snd x) : Nat) : Int)), (.int .i64 0)]) []))
     (Br (Decidable.decide ((((Prod.snd x) : Nat) : Int) = f))
     (Ret K (.tup [(.st [(.int .i64 0), (.int .i64 0), (.slc [] (.iv 0 0 true .full))]), (.int .i64 (((Prod.snd x) : Nat) : Int)), (.int .i64 1)]) [])
     ((((T.valid (T.mk (T.k (Prod.fst x)) (T.n (Prod.fst x)) (T.kids (Prod.fst x)))) = true) ∧
     ((T.has (T.mk (T.k (Prod.fst x)) (T.n (Prod.fst x)) (T.kids (Prod.fst x))) w) ∧
     (((T.rdx (T.at (T.mk (T.k (Prod.fst x)) (T.n (Prod.fst x)) (T.kids (Prod.fst x))) w)) ≠ (0 : Int)) ∧ ((List.length w) ≤ (1000000 : Nat))))) ∧
     (Br (Bool.not (T.cnO (T.mk (T.k (Prod.fst x)) (T.n (Prod.fst x)) (T.kids (Prod.fst x))) w))
     (Ret K (.tup [(.st [(.int .i64 0), (.int .i64 0), (.slc [] (.iv 0 0 true .full))]), (.int .i64 (((Prod.snd x) : Nat) : Int)), (.int .i64 2)]) [])
     ((InR ((((Prod.snd x) : Nat) : Int) + (1 : Int))) ∧
     (∃ y : (Prod T Nat),
     ((((T.valid (Prod.fst y)) = true) ∧
     (((Prod.snd y) ≤ (200 : Nat)) ∧
     (((((Prod.snd y) : Nat) : Int) ≤ f) ∧
     ((T.rdc plH (Int.toNat (f - (((Prod.snd y) : Nat) : Int))) (Prod.fst y) (((Prod.snd y) : Nat) : Int)) = (T.rdc plH (Int.toNat f) (T.mk k n ts) (0 : Int)))))) ∧
     ((f = f) ∧
     ((((((Prod.snd x) : Nat) : Int) + (1 : Int)) = (((Prod.snd y) : Nat) : Int)) ∧
     (((T.k (T.cnR (T.mk (T.k (Prod.fst x)) (T.n (Prod.fst x)) (T.kids (Prod.fst x))) w)) = (T.k (Prod.fst y))) ∧
     (((T.n (T.cnR (T.mk (T.k (Prod.fst x)) (T.n (Prod.fst x)) (T.kids (Prod.fst x))) w)) = (T.n (Prod.fst y))) ∧
     (((T.kids (T.cnR (T.mk (T.k (Prod.fst x)) (T.n (Prod.fst x)) (T.kids (Prod.fst x))) w)) = (T.kids (Prod.fst y))) ∧
     (((0 : Int) = (0 : Int)) ∧
     (((0 : Int) = (0 : Int)) ∧ ((([] : List T) = ([] : List T)) ∧ ((Nat.succ ((201 : Nat) - (Prod.snd y))) ≤ ((201 : Nat) - (Prod.snd x)))))))))))))))))))))))))))))) ?_ (by kernel_rfl)
  have kr : ∀ r : T × Int × Int, (T.mk k n ts).red plH f = r → K (.tup [r.1.fr, .int .i64 r.2.1, .int .i64 r.2.2]) [] := fun r h => by rw [h] at hk; exact hk
  simp only [T.eta]
  refine ⟨trivial, br (fun h => ?_) (fun h => ⟨trivial, br (fun h2 => ?_) (fun h2 => ?_)⟩)⟩
  · have h : (T.mk k n ts).valid = false := by simpa using h
    exact retTII (kr (.mk 0 0 [], 0, 3) (by unfold T.red; rw [if_neg (by rw [h]; simp)])) rfl rfl rfl
  · have h2 : ¬ (0 ≤ f ∧ f ≤ 200) := of_decide_eq_false (by rw [Bool.not_eq_true'] at h2; exact h2)
    exact retTII (kr (.mk 0 0 [], 0, 3) (by unfold T.red; rw [if_neg (fun e => h2 e.2)])) rfl rfl rfl
  have hv : (T.mk k n ts).valid = true := by simpa using h
  have h2 : 0 ≤ f ∧ f ≤ 200 := by simpa using h2
  have he : (T.mk k n ts).red plH f = (T.mk k n ts).rdc plH f.toNat 0 := by unfold T.red; rw [if_pos ⟨hv, h2⟩]
  refine ⟨⟨(T.mk k n ts, 0), ⟨hv, Nat.zero_le _, by show (0 : Int) ≤ f; omega, by show (T.mk k n ts).rdc plH (f - 0).toNat 0 = _; rw [Int.sub_zero]⟩, (by repeat' first | trivial | rfl | (simp; done) | apply And.intro)⟩, ?_⟩
  rintro ⟨t, c⟩ ⟨g1, g2, g3, g4⟩
  simp only at g1 g2 g3 g4 ⊢
  rw [← he] at g4
  have hs := T.valid_size g1
  refine ⟨⟨⟨30, valid_shp g1⟩, by omega⟩, fun w hwl hw => br (fun h3 => ?_) (fun h3 => br (fun h4 => ?_) (fun h4 => ?_))⟩
  · have h3 : plH.o t = false := by simpa using h3
    rw [rdc_no h3] at g4
    have hq := T.size_eq t
    exact ⟨by omega, retTII (kr _ g4.symm) (T.eta _) rfl rfl⟩
  · have h3 : plH.o t = true := by simpa using h3
    have h4 : (c : Int) = f := by simpa using h4
    rw [show (f - (c : Int)).toNat = 0 by omega, rdc_zero h3] at g4
    exact retTII (kr _ g4.symm) rfl rfl rfl
  · have h3 : plH.o t = true := by simpa using h3
    have h4 : ¬ (c : Int) = f := by simpa using h4
    have hw := hw h3
    obtain ⟨p1, p2⟩ := plH.ok _ h3
    rw [← hw] at p1 p2
    rw [show (f - (c : Int)).toNat = (f - ((c + 1 : Nat) : Int)).toNat + 1 by omega] at g4
    refine ⟨⟨g1, p1, p2, by omega⟩, br (fun h5 => ?_) (fun h5 => ?_)⟩
    · have h5 : t.cnO w = false := by simpa using h5
      unfold T.cnO at h5
      rw [hw] at h5
      rw [rdc_large h3 _ _ h5] at g4
      exact retTII (kr _ g4.symm) rfl rfl rfl
    · have h5 : t.cnO w = true := by simpa using h5
      have hR : t.cnR w = t.stp w := by unfold T.cnR; rw [if_pos h5]
      unfold T.cnO at h5
      rw [hR]
      have h5' := h5
      rw [hw] at h5
      rw [rdc_step h3 _ _ h5] at g4
      refine ⟨by unfold InR; omega, (t.stp w, c + 1), ⟨h5', by show c + 1 ≤ 200; omega, by show ((c + 1 : Nat) : Int) ≤ f; omega, ?_⟩, (by repeat' first | trivial | rfl | (simp; done) | (dsimp only; omega) | omega | apply And.intro)⟩
      show (t.stp w).rdc plH (f - ((c + 1 : Nat) : Int)).toNat ((c + 1 : Nat) : Int) = _
      rw [hw, ← he, ← g4]
      rfl
theorem ReduceH_sound : Sound Try.prog 47 cReduceH := by
  refine soundF (G := [(49, cTermValid), (71, cWithin), (56, cHead), (64, cOwn), (65, cContracted)]) ((gcons TermValid_sound (gcons Within_sound (gcons Head_sound (gcons Own_sound (gcons Contracted_sound gnil)))))) Try.func47 rfl (by kernel_rfl) fun args hs K hCC => ?_
  unfold cReduceH at hCC
  split at hCC
  case h_2 => exact hCC.elim
  rename_i k n ts f
  exact ⟨Nat.le_of_ble_eq_true rfl, _, ReduceH_ok k n ts f K hCC.1 hCC.2⟩
/-- impl.HeadNormal -/
def cHeadNormal : Con
  | [.st [.int .i64 k, .int .i64 n, .slc ts (.arg 0)], .int .i64 (f)], [], K => True ∧ ((K (.tup [((T.mk k n ts).red plH f).1.fr, .int .i64 ((T.mk k n ts).red plH f).2.2]) []))
  | _, _, _ => False
theorem HeadNormal_ok (k n : Int) (ts : List T) (f : Int) (K : AV → List AV → Prop) (hp : True) (hk : ((K (.tup [((T.mk k n ts).red plH f).1.fr, .int .i64 ((T.mk k n ts).red plH f).2.2]) []))) :
    bodyQ [(47, cReduceH)] TY [] Try.f30 (body Try.f30) [.st [.int .i64 k, .int .i64 n, .slc ts (.arg 0)], .int .i64 (f)] [] K := by
  refine of_vc (A :=
    (True ∧
     (Ret K (.tup [(.st [(.int .i64 (T.k (Prod.fst (T.red (T.mk k n ts) plH f)))), (.int .i64 (T.n (Prod.fst (T.red (T.mk k n ts) plH f)))), (.slc (T.kids (Prod.fst (T.red (T.mk k n ts) plH f))) (.iv 4 4 true (.tok 0)))]), (.int .i64 (Prod.snd (Prod.snd (T.red (T.mk k n ts) plH f))))]) []))) ?_ (by kernel_rfl)
  exact ⟨trivial, retTI hk (T.eta _) rfl⟩
theorem HeadNormal_sound : Sound Try.prog 30 cHeadNormal := by
  refine soundF (G := [(47, cReduceH)]) ((gcons ReduceH_sound gnil)) Try.func30 rfl (by kernel_rfl) fun args hs K hCC => ?_
  unfold cHeadNormal at hCC
  split at hCC
  case h_2 => exact hCC.elim
  rename_i k n ts f
  exact ⟨Nat.le_of_ble_eq_true rfl, _, HeadNormal_ok k n ts f K hCC.1 hCC.2⟩
/-- impl.ReduceSteps -/
def cReduceSteps : Con
  | [.st [.int .i64 k, .int .i64 n, .slc ts (.arg 0)], .int .i64 (f)], [], K => True ∧ ((K (.tup [.int .i64 ((T.mk k n ts).red plO f).2.1, .int .i64 ((T.mk k n ts).red plO f).2.2]) []))
  | _, _, _ => False
theorem ReduceSteps_ok (k n : Int) (ts : List T) (f : Int) (K : AV → List AV → Prop) (hp : True) (hk : ((K (.tup [.int .i64 ((T.mk k n ts).red plO f).2.1, .int .i64 ((T.mk k n ts).red plO f).2.2]) []))) :
    bodyQ [(47, cReduceO)] TY [] Try.f27 (body Try.f27) [.st [.int .i64 k, .int .i64 n, .slc ts (.arg 0)], .int .i64 (f)] [] K := by
  refine of_vc (A :=
    (True ∧ (Ret K (.tup [(.int .i64 (Prod.fst (Prod.snd (T.red (T.mk k n ts) plO f)))), (.int .i64 (Prod.snd (Prod.snd (T.red (T.mk k n ts) plO f))))]) []))) ?_ (by kernel_rfl)
  exact ⟨trivial, fin hk (by repeat' first | trivial | rfl | (simp; done) | apply And.intro) trivial⟩
theorem ReduceSteps_sound : Sound Try.prog 27 cReduceSteps := by
  refine soundF (G := [(47, cReduceO)]) ((gcons ReduceO_sound gnil)) Try.func27 rfl (by kernel_rfl) fun args hs K hCC => ?_
  unfold cReduceSteps at hCC
  split at hCC
  case h_2 => exact hCC.elim
  rename_i k n ts f
  exact ⟨Nat.le_of_ble_eq_true rfl, _, ReduceSteps_ok k n ts f K hCC.1 hCC.2⟩
end Go.Dk
