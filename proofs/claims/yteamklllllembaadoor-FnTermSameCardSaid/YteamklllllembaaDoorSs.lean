/- Texts: the reference's writer and reader. -/
import Derived.Test.YteamklllllembaaDoorL1s
import Derived.Test.YteamklllllembaaDoorTx
namespace Go.Dk
set_option linter.unusedVariables false
set_option linter.unusedSimpArgs false
open Go.Proofs
@[reducible] def fz : Tag := .iv 7 7 false .no
def prs (len a : Int) (t : T) (e : Int) : Prop := (e = -1 ∨ (a < e ∧ e ≤ len ∧ (t.size : Int) ≤ e - a)) ∧ (t.size : Int) ≤ 1 + max 0 (len - a)
theorem brd {p : Prop} [Decidable p] {A B : Prop} (h1 : p → A) (h2 : ¬p → B) : Br (decide p) A B := br (fun h => h1 (of_decide_eq_true h)) (fun h => h2 (of_decide_eq_false h))
theorem brn {p : Prop} [Decidable p] {A B : Prop} (h1 : ¬p → A) (h2 : p → B) : Br (!decide p) A B := br (fun h => h1 (by simpa using h)) (fun h => h2 (by simpa using h))
theorem brt {A B : Prop} (h : A) : Br true A B := br (fun _ => h) (fun h => nomatch h)
theorem brf {A B : Prop} (h : B) : Br false A B := br (fun h => nomatch h) (fun _ => h)
theorem retSI {K : AV → List AV → Prop} {ts : List T} {g g' : Tag} {b b' : Int} (hk : K (.tup [.slc ts g', .int .i64 b']) []) (hb : b = b') (hg : g.le g' = true := by rfl) : Ret K (.tup [.slc ts g, .int .i64 b]) [] := by
  subst hb; exact fin hk ⟨⟨rfl, hg⟩, ⟨rfl, rfl⟩, True.intro⟩ True.intro
theorem retII {K : AV → List AV → Prop} {a a' b b' : Int} (hk : K (.tup [.int .i64 a', .int .i64 b']) []) (ha : a = a') (hb : b = b') : Ret K (.tup [.int .i64 a, .int .i64 b]) [] := by
  subst ha hb; exact fin hk ⟨⟨rfl, rfl⟩, ⟨rfl, rfl⟩, True.intro⟩ True.intro
theorem retStr {K : AV → List AV → Prop} {a a' : List UInt8} (hk : K (.str a') []) (ha : a = a') : Ret K (.str a) [] := fin hk ha True.intro
/-- spec.l19Dec -/
def csDecM (m : Nat) : Con
  | [.int .i64 (n)], [], K => (((0 - n).toNat) < m ∧ ((0 ≤ n ∧ n ≤ 99))) ∧ ((K (.str (decD n)) []))
  | _, _, _ => False
def csDec : Con
  | [.int .i64 (n)], [], K => ((0 ≤ n ∧ n ≤ 99)) ∧ ((K (.str (decD n)) []))
  | _, _, _ => False
theorem sDec_ok (m : Nat) (n : Int) (K : AV → List AV → Prop) (hm : ((0 - n).toNat) < m + 1) (hp : ((0 ≤ n ∧ n ≤ 99))) (hk : ((K (.str (decD n)) []))) :
    bodyQ [(58, csDecM m)] TY [(6, { ι := Int × List UInt8, ok := fun x => x.1 = n ∧ x.2 = [] ∨ 9 < n ∧ x.1 = n / 10 ∧ x.2 = [UInt8.ofNat (48 + n % 10).toNat], tl := fun x => [(0, .int .i64 x.1), (3, .str x.2)], hl := fun _ => [], fh := fun _ => [], μ := fun x => x.1.toNat })] Tryd.f58 (body Tryd.f58) [.int .i64 (n)] [] K := by
  refine of_vc (A :=
    (Br (Decidable.decide (n < (- (9223372036854775807 : Int))))
     (Ret K (.str [(45 : UInt8), (57 : UInt8), (50 : UInt8), (50 : UInt8), (51 : UInt8), (51 : UInt8), (55 : UInt8), (50 : UInt8), (48 : UInt8), (51 : UInt8), (54 : UInt8), (56 : UInt8), (53 : UInt8), (52 : UInt8), (55 : UInt8), (55 : UInt8), (53 : UInt8), (56 : UInt8), (48 : UInt8), (56 : UInt8)]) [])
     (Br (Decidable.decide (n < (0 : Int)))
     ((InR (- n)) ∧
     ((((Int.toNat ((0 : Int) - (- n))) < m) ∧ (((0 : Int) ≤ (- n)) ∧ ((- n) ≤ (99 : Int)))) ∧
     ((((1 : Int) + (((List.length (decD (- n))) : Nat) : Int)) ≤ (1099511627776 : Int)) ∧ (Ret K (.str ([(45 : UInt8)] ++ (decD (- n)))) []))))
     ((∃ x : (Prod Int (List UInt8)),
     (((((Prod.fst x) = n) ∧ ((Prod.snd x) = ([] : List UInt8))) ∨ (((9 : Int) < n) ∧ (((Prod.fst x) = (n / (10 : Int))) ∧ ((Prod.snd x) = [(UInt8.ofNat (Int.toNat ((48 : Int) + (n % (10 : Int)))))])))) ∧
     ((n = (Prod.fst x)) ∧ ((([] : List UInt8) = (Prod.snd x)) ∧ True)))) ∧
     (∀ x : (Prod Int (List UInt8)),
     (((((Prod.fst x) = n) ∧ ((Prod.snd x) = ([] : List UInt8))) ∨ (((9 : Int) < n) ∧ (((Prod.fst x) = (n / (10 : Int))) ∧ ((Prod.snd x) = [(UInt8.ofNat (Int.toNat ((48 : Int) + (n % (10 : Int)))))])))) →
     (Br (Decidable.decide ((9 : Int) < (Prod.fst x)))
     ((((0 : Int) ≤ (Prod.fst x)) ∧ (((0 : Int) < (10 : Int)) ∧ ((10 : Int) ≤ (9223372036854775807 : Int)))) ∧
     ((InR ((48 : Int) + ((Prod.fst x) % (10 : Int)))) ∧
     ((((0 : Int) ≤ ((48 : Int) + ((Prod.fst x) % (10 : Int)))) ∧ (((48 : Int) + ((Prod.fst x) % (10 : Int))) ≤ (255 : Int))) ∧
     ((((1 : Int) + (((List.length (Prod.snd x)) : Nat) : Int)) ≤ (1099511627776 : Int)) ∧
     ((((0 : Int) ≤ (Prod.fst x)) ∧ (((0 : Int) < (10 : Int)) ∧ ((Prod.fst x) ≤ (9223372036854775807 : Int)))) ∧
     (∃ y : (Prod Int (List UInt8)),
     (((((Prod.fst y) = n) ∧ ((Prod.snd y) = ([] : List UInt8))) ∨ (((9 : Int) < n) ∧ (((Prod.fst y) = (n / (10 : Int))) ∧ ((Prod.snd y) = [(UInt8.ofNat (Int.toNat ((48 : Int) + (n % (10 : Int)))))])))) ∧
     ((((Prod.fst x) / (10 : Int)) = (Prod.fst y)) ∧
     ((([(UInt8.ofNat (Int.toNat ((48 : Int) + ((Prod.fst x) % (10 : Int)))))] ++ (Prod.snd x)) = (Prod.snd y)) ∧
     ((Nat.succ (Int.toNat (Prod.fst y))) ≤ (Int.toNat (Prod.fst x))))))))))))
     ((InR ((48 : Int) + (Prod.fst x))) ∧
     ((((0 : Int) ≤ ((48 : Int) + (Prod.fst x))) ∧ (((48 : Int) + (Prod.fst x)) ≤ (255 : Int))) ∧
     ((((1 : Int) + (((List.length (Prod.snd x)) : Nat) : Int)) ≤ (1099511627776 : Int)) ∧
     (Ret K (.str ([(UInt8.ofNat (Int.toNat ((48 : Int) + (Prod.fst x))))] ++ (Prod.snd x))) []))))))))))) ?_ (by kernel_rfl)
  refine brd (fun h => absurd h (by omega)) (fun _ => brd (fun h => absurd h (by omega)) (fun _ => ?_))
  refine ⟨⟨(n, []), .inl ⟨rfl, rfl⟩, rfl, rfl, trivial⟩, ?_⟩
  rintro ⟨x, s⟩ h
  simp only at h ⊢
  rcases h with ⟨h1, h2⟩ | ⟨h0, h1, h2⟩
  · subst h1 h2
    refine brd (fun g => ?_) (fun g => ?_)
    · exact ⟨by omega, by unfold InR; omega, by omega, by simp, by omega, (_, _), .inr ⟨g, rfl, List.append_nil _⟩, rfl, rfl, by omega⟩
    · exact ⟨by unfold InR; omega, by omega, by simp, retStr hk (by
        unfold decD
        rw [if_pos (by omega), List.append_nil]
        congr 2
        omega)⟩
  · subst h1 h2
    refine brd (fun g => absurd g (by omega)) (fun g => ?_)
    exact ⟨by unfold InR; omega, by omega, by simp, retStr hk (by
        unfold decD
        rw [if_neg (by omega)]
        simp only [List.cons_append, List.nil_append]
        congr 2
        · omega
        · congr 2
          omega)⟩
theorem sDec_soundM : ∀ m : Nat, Sound Tryd.prog 58 (csDecM m)
  | 0 => by
      refine soundF (G := []) gnil Tryd.func58 rfl (by kernel_rfl) fun args hs K hCC => ?_
      unfold csDecM at hCC
      split at hCC
      case h_2 => exact hCC.elim
      exact absurd hCC.1.1 (Nat.not_lt_zero _)
  | m + 1 => by
      refine soundF (G := [(58, csDecM m)]) ((gcons (sDec_soundM m) gnil)) Tryd.func58 rfl (by kernel_rfl) fun args hs K hCC => ?_
      unfold csDecM at hCC
      split at hCC
      case h_2 => exact hCC.elim
      rename_i n
      exact ⟨Nat.le_of_ble_eq_true rfl, _, sDec_ok m n K hCC.1.1 hCC.1.2 hCC.2⟩
theorem sDec_sound : Sound Tryd.prog 58 csDec := by
  refine sound_of_all (c := csDecM) (fun m => (sDec_soundM m)) fun args hs K hCC => ?_
  unfold csDec at hCC
  split at hCC
  case h_2 => exact hCC.elim
  exact ⟨_, ⟨Nat.lt_succ_self _, hCC.1⟩, hCC.2⟩
/-- spec.l1Text -/
def csTextM (m : Nat) : Con
  | [.st [.int .i64 k, .int .i64 n, .slc ts (.arg 0)]], [], K => ((2 * (T.mk k n ts).size) < m ∧ (((∃ d, (T.mk k n ts).shp d = true) ∧ (T.mk k n ts).size ≤ 400))) ∧ ((K (.str (T.mk k n ts).text) []))
  | _, _, _ => False
def csText : Con
  | [.st [.int .i64 k, .int .i64 n, .slc ts (.arg 0)]], [], K => (((∃ d, (T.mk k n ts).shp d = true) ∧ (T.mk k n ts).size ≤ 400)) ∧ ((K (.str (T.mk k n ts).text) []))
  | _, _, _ => False
/-- spec.l1List -/
def csListM (m : Nat) : Con
  | [.slc ts (.arg 0)], [], K => ((2 * sizeL ts + 1) < m ∧ (((∃ d, shpL ts d = true) ∧ sizeL ts ≤ 400))) ∧ ((K (.str (commaT ts)) []))
  | _, _, _ => False
def csList : Con
  | [.slc ts (.arg 0)], [], K => (((∃ d, shpL ts d = true) ∧ sizeL ts ≤ 400)) ∧ ((K (.str (commaT ts)) []))
  | _, _, _ => False
theorem sText_ok (m : Nat) (k n : Int) (ts : List T) (K : AV → List AV → Prop) (hm : (2 * (T.mk k n ts).size) < m + 1) (hp : (((∃ d, (T.mk k n ts).shp d = true) ∧ (T.mk k n ts).size ≤ 400))) (hk : ((K (.str (T.mk k n ts).text) []))) :
    bodyQ [(32, csTextM m), (59, csListM m), (58, csDec)] TY [] Tryd.f32 (body Tryd.f32) [.st [.int .i64 k, .int .i64 n, .slc ts (.arg 0)]] [] K := by
  refine of_vc (A :=
    (Br (Decidable.decide (k = (1 : Int)))
     ((((0 : Int) ≤ n) ∧ (n ≤ (99 : Int))) ∧
     ((((1 : Int) + (((List.length (decD n)) : Nat) : Int)) ≤ (1099511627776 : Int)) ∧ (Ret K (.str ([(35 : UInt8)] ++ (decD n))) [])))
     (Br (Decidable.decide (k = (2 : Int)))
     ((((0 : Int) ≤ n) ∧ (n ≤ (99 : Int))) ∧
     ((((1 : Int) + (((List.length (decD n)) : Nat) : Int)) ≤ (1099511627776 : Int)) ∧ (Ret K (.str ([(42 : UInt8)] ++ (decD n))) [])))
     (Br (Decidable.decide (k = (6 : Int)))
     (Ret K (.str [(78 : UInt8)]) [])
     (Br (Decidable.decide (k = (7 : Int)))
     (Ret K (.str [(48 : UInt8)]) [])
     (Br (Decidable.decide (k = (8 : Int)))
     ((((0 : Int) ≤ (0 : Int)) ∧ ((0 : Int) < (((List.length ts) : Nat) : Int))) ∧
     (((((2 : Nat) * (T.size (T.mk (T.k (List.getD ts 0 default)) (T.n (List.getD ts 0 default)) (T.kids (List.getD ts 0 default))))) < m) ∧
     ((∃ d : Int,
     ((T.shp (T.mk (T.k (List.getD ts 0 default)) (T.n (List.getD ts 0 default)) (T.kids (List.getD ts 0 default))) d) = true)) ∧
     ((T.size (T.mk (T.k (List.getD ts 0 default)) (T.n (List.getD ts 0 default)) (T.kids (List.getD ts 0 default)))) ≤ (400 : Nat)))) ∧
     ((((1 : Int) + (((List.length (T.text (T.mk (T.k (List.getD ts 0 default)) (T.n (List.getD ts 0 default)) (T.kids (List.getD ts 0 default))))) : Nat) : Int)) ≤ (1099511627776 : Int)) ∧
     (Ret K (.str ([(43 : UInt8)] ++ (T.text (T.mk (T.k (List.getD ts 0 default)) (T.n (List.getD ts 0 default)) (T.kids (List.getD ts 0 default)))))) []))))
     (Br (Decidable.decide (k = (11 : Int)))
     ((((0 : Int) ≤ (0 : Int)) ∧ ((0 : Int) < (((List.length ts) : Nat) : Int))) ∧
     (((((2 : Nat) * (T.size (T.mk (T.k (List.getD ts 0 default)) (T.n (List.getD ts 0 default)) (T.kids (List.getD ts 0 default))))) < m) ∧
     ((∃ d : Int,
     ((T.shp (T.mk (T.k (List.getD ts 0 default)) (T.n (List.getD ts 0 default)) (T.kids (List.getD ts 0 default))) d) = true)) ∧
     ((T.size (T.mk (T.k (List.getD ts 0 default)) (T.n (List.getD ts 0 default)) (T.kids (List.getD ts 0 default)))) ≤ (400 : Nat)))) ∧
     ((((1 : Int) + (((List.length (T.text (T.mk (T.k (List.getD ts 0 default)) (T.n (List.getD ts 0 default)) (T.kids (List.getD ts 0 default))))) : Nat) : Int)) ≤ (1099511627776 : Int)) ∧
     (Ret K (.str ([(33 : UInt8)] ++ (T.text (T.mk (T.k (List.getD ts 0 default)) (T.n (List.getD ts 0 default)) (T.kids (List.getD ts 0 default)))))) []))))
     (Br (Decidable.decide (k = (15 : Int)))
     ((((0 : Int) ≤ (0 : Int)) ∧ ((0 : Int) < (((List.length ts) : Nat) : Int))) ∧
     (((((2 : Nat) * (T.size (T.mk (T.k (List.getD ts 0 default)) (T.n (List.getD ts 0 default)) (T.kids (List.getD ts 0 default))))) < m) ∧
     ((∃ d : Int,
     ((T.shp (T.mk (T.k (List.getD ts 0 default)) (T.n (List.getD ts 0 default)) (T.kids (List.getD ts 0 default))) d) = true)) ∧
     ((T.size (T.mk (T.k (List.getD ts 0 default)) (T.n (List.getD ts 0 default)) (T.kids (List.getD ts 0 default)))) ≤ (400 : Nat)))) ∧
     ((((1 : Int) + (((List.length (T.text (T.mk (T.k (List.getD ts 0 default)) (T.n (List.getD ts 0 default)) (T.kids (List.getD ts 0 default))))) : Nat) : Int)) ≤ (1099511627776 : Int)) ∧
     (Ret K (.str ([(94 : UInt8)] ++ (T.text (T.mk (T.k (List.getD ts 0 default)) (T.n (List.getD ts 0 default)) (T.kids (List.getD ts 0 default)))))) []))))
     (Br (Decidable.decide (k = (16 : Int)))
     ((((0 : Int) ≤ (0 : Int)) ∧ ((0 : Int) < (((List.length ts) : Nat) : Int))) ∧
     (((((2 : Nat) * (T.size (T.mk (T.k (List.getD ts 0 default)) (T.n (List.getD ts 0 default)) (T.kids (List.getD ts 0 default))))) < m) ∧
     ((∃ d : Int,
     ((T.shp (T.mk (T.k (List.getD ts 0 default)) (T.n (List.getD ts 0 default)) (T.kids (List.getD ts 0 default))) d) = true)) ∧
     ((T.size (T.mk (T.k (List.getD ts 0 default)) (T.n (List.getD ts 0 default)) (T.kids (List.getD ts 0 default)))) ≤ (400 : Nat)))) ∧
     ((((1 : Int) + (((List.length (T.text (T.mk (T.k (List.getD ts 0 default)) (T.n (List.getD ts 0 default)) (T.kids (List.getD ts 0 default))))) : Nat) : Int)) ≤ (1099511627776 : Int)) ∧
     (Ret K (.str ([(95 : UInt8)] ++ (T.text (T.mk (T.k (List.getD ts 0 default)) (T.n (List.getD ts 0 default)) (T.kids (List.getD ts 0 default)))))) []))))
     (Br (Decidable.decide (k = (3 : Int)))
     ((((0 : Int) ≤ (0 : Int)) ∧ ((0 : Int) < (((List.length ts) : Nat) : Int))) ∧
     ((((0 : Int) ≤ (1 : Int)) ∧ ((1 : Int) < (((List.length ts) : Nat) : Int))) ∧
     (((((2 : Nat) * (T.size (T.mk (T.k (List.getD ts 0 default)) (T.n (List.getD ts 0 default)) (T.kids (List.getD ts 0 default))))) < m) ∧
     ((∃ d : Int,
     ((T.shp (T.mk (T.k (List.getD ts 0 default)) (T.n (List.getD ts 0 default)) (T.kids (List.getD ts 0 default))) d) = true)) ∧
     ((T.size (T.mk (T.k (List.getD ts 0 default)) (T.n (List.getD ts 0 default)) (T.kids (List.getD ts 0 default)))) ≤ (400 : Nat)))) ∧
     (((T.k (List.getD ts 1 default)) = (T.k (List.getD ts 1 default))) ∧
     (((T.n (List.getD ts 1 default)) = (T.n (List.getD ts 1 default))) ∧
     (((T.kids (List.getD ts 1 default)) = (T.kids (List.getD ts 1 default))) ∧
     ((ts = ts) ∧
     ((((1 : Int) + (((List.length (T.text (T.mk (T.k (List.getD ts 0 default)) (T.n (List.getD ts 0 default)) (T.kids (List.getD ts 0 default))))) : Nat) : Int)) ≤ (1099511627776 : Int)) ∧
     ((((((List.length ([(40 : UInt8)] ++ (T.text (T.mk (T.k (List.getD ts 0 default)) (T.n (List.getD ts 0 default)) (T.kids (List.getD ts 0 default)))))) : Nat) : Int) + (1 : Int)) ≤ (1099511627776 : Int)) ∧
     (((((2 : Nat) * (T.size (T.mk (T.k (List.getD ts 1 default)) (T.n (List.getD ts 1 default)) (T.kids (List.getD ts 1 default))))) < m) ∧
     ((∃ d : Int,
     ((T.shp (T.mk (T.k (List.getD ts 1 default)) (T.n (List.getD ts 1 default)) (T.kids (List.getD ts 1 default))) d) = true)) ∧
     ((T.size (T.mk (T.k (List.getD ts 1 default)) (T.n (List.getD ts 1 default)) (T.kids (List.getD ts 1 default)))) ≤ (400 : Nat)))) ∧
     ((((((List.length (([(40 : UInt8)] ++ (T.text (T.mk (T.k (List.getD ts 0 default)) (T.n (List.getD ts 0 default)) (T.kids (List.getD ts 0 default))))) ++ [(62 : UInt8)])) : Nat) : Int) + (((List.length (T.text (T.mk (T.k (List.getD ts 1 default)) (T.n (List.getD ts 1 default)) (T.kids (List.getD ts 1 default))))) : Nat) : Int)) ≤ (1099511627776 : Int)) ∧
     ((((((List.length ((([(40 : UInt8)] ++ (T.text (T.mk (T.k (List.getD ts 0 default)) (T.n (List.getD ts 0 default)) (T.kids (List.getD ts 0 default))))) ++ [(62 : UInt8)]) ++ (T.text (T.mk (T.k (List.getD ts 1 default)) (T.n (List.getD ts 1 default)) (T.kids (List.getD ts 1 default)))))) : Nat) : Int) + (1 : Int)) ≤ (1099511627776 : Int)) ∧
     (Ret K (.str (((([(40 : UInt8)] ++ (T.text (T.mk (T.k (List.getD ts 0 default)) (T.n (List.getD ts 0 default)) (T.kids (List.getD ts 0 default))))) ++ [(62 : UInt8)]) ++ (T.text (T.mk (T.k (List.getD ts 1 default)) (T.n (List.getD ts 1 default)) (T.kids (List.getD ts 1 default))))) ++ [(41 : UInt8)])) [])))))))))))))
     (Br (Decidable.decide (k = (13 : Int)))
     ((((0 : Int) ≤ (0 : Int)) ∧ ((0 : Int) < (((List.length ts) : Nat) : Int))) ∧
     ((((0 : Int) ≤ (1 : Int)) ∧ ((1 : Int) < (((List.length ts) : Nat) : Int))) ∧
     (((((2 : Nat) * (T.size (T.mk (T.k (List.getD ts 0 default)) (T.n (List.getD ts 0 default)) (T.kids (List.getD ts 0 default))))) < m) ∧
     ((∃ d : Int,
     ((T.shp (T.mk (T.k (List.getD ts 0 default)) (T.n (List.getD ts 0 default)) (T.kids (List.getD ts 0 default))) d) = true)) ∧
     ((T.size (T.mk (T.k (List.getD ts 0 default)) (T.n (List.getD ts 0 default)) (T.kids (List.getD ts 0 default)))) ≤ (400 : Nat)))) ∧
     (((T.k (List.getD ts 1 default)) = (T.k (List.getD ts 1 default))) ∧
     (((T.n (List.getD ts 1 default)) = (T.n (List.getD ts 1 default))) ∧
     (((T.kids (List.getD ts 1 default)) = (T.kids (List.getD ts 1 default))) ∧
     ((ts = ts) ∧
     ((((1 : Int) + (((List.length (T.text (T.mk (T.k (List.getD ts 0 default)) (T.n (List.getD ts 0 default)) (T.kids (List.getD ts 0 default))))) : Nat) : Int)) ≤ (1099511627776 : Int)) ∧
     ((((((List.length ([(40 : UInt8)] ++ (T.text (T.mk (T.k (List.getD ts 0 default)) (T.n (List.getD ts 0 default)) (T.kids (List.getD ts 0 default)))))) : Nat) : Int) + (1 : Int)) ≤ (1099511627776 : Int)) ∧
     (((((2 : Nat) * (T.size (T.mk (T.k (List.getD ts 1 default)) (T.n (List.getD ts 1 default)) (T.kids (List.getD ts 1 default))))) < m) ∧
     ((∃ d : Int,
     ((T.shp (T.mk (T.k (List.getD ts 1 default)) (T.n (List.getD ts 1 default)) (T.kids (List.getD ts 1 default))) d) = true)) ∧
     ((T.size (T.mk (T.k (List.getD ts 1 default)) (T.n (List.getD ts 1 default)) (T.kids (List.getD ts 1 default)))) ≤ (400 : Nat)))) ∧
     ((((((List.length (([(40 : UInt8)] ++ (T.text (T.mk (T.k (List.getD ts 0 default)) (T.n (List.getD ts 0 default)) (T.kids (List.getD ts 0 default))))) ++ [(42 : UInt8)])) : Nat) : Int) + (((List.length (T.text (T.mk (T.k (List.getD ts 1 default)) (T.n (List.getD ts 1 default)) (T.kids (List.getD ts 1 default))))) : Nat) : Int)) ≤ (1099511627776 : Int)) ∧
     ((((((List.length ((([(40 : UInt8)] ++ (T.text (T.mk (T.k (List.getD ts 0 default)) (T.n (List.getD ts 0 default)) (T.kids (List.getD ts 0 default))))) ++ [(42 : UInt8)]) ++ (T.text (T.mk (T.k (List.getD ts 1 default)) (T.n (List.getD ts 1 default)) (T.kids (List.getD ts 1 default)))))) : Nat) : Int) + (1 : Int)) ≤ (1099511627776 : Int)) ∧
     (Ret K (.str (((([(40 : UInt8)] ++ (T.text (T.mk (T.k (List.getD ts 0 default)) (T.n (List.getD ts 0 default)) (T.kids (List.getD ts 0 default))))) ++ [(42 : UInt8)]) ++ (T.text (T.mk (T.k (List.getD ts 1 default)) (T.n (List.getD ts 1 default)) (T.kids (List.getD ts 1 default))))) ++ [(41 : UInt8)])) [])))))))))))))
     (Br (Decidable.decide (k = (5 : Int)))
     ((((0 : Int) ≤ (0 : Int)) ∧ ((0 : Int) < (((List.length ts) : Nat) : Int))) ∧
     ((((0 : Int) ≤ (1 : Int)) ∧ ((1 : Int) < (((List.length ts) : Nat) : Int))) ∧
     (((((2 : Nat) * (T.size (T.mk (T.k (List.getD ts 0 default)) (T.n (List.getD ts 0 default)) (T.kids (List.getD ts 0 default))))) < m) ∧
     ((∃ d : Int,
     ((T.shp (T.mk (T.k (List.getD ts 0 default)) (T.n (List.getD ts 0 default)) (T.kids (List.getD ts 0 default))) d) = true)) ∧
     ((T.size (T.mk (T.k (List.getD ts 0 default)) (T.n (List.getD ts 0 default)) (T.kids (List.getD ts 0 default)))) ≤ (400 : Nat)))) ∧
     (((T.k (List.getD ts 1 default)) = (T.k (List.getD ts 1 default))) ∧
     (((T.n (List.getD ts 1 default)) = (T.n (List.getD ts 1 default))) ∧
     (((T.kids (List.getD ts 1 default)) = (T.kids (List.getD ts 1 default))) ∧
     ((ts = ts) ∧
     ((((1 : Int) + (((List.length (T.text (T.mk (T.k (List.getD ts 0 default)) (T.n (List.getD ts 0 default)) (T.kids (List.getD ts 0 default))))) : Nat) : Int)) ≤ (1099511627776 : Int)) ∧
     ((((((List.length ([(40 : UInt8)] ++ (T.text (T.mk (T.k (List.getD ts 0 default)) (T.n (List.getD ts 0 default)) (T.kids (List.getD ts 0 default)))))) : Nat) : Int) + (1 : Int)) ≤ (1099511627776 : Int)) ∧
     (((((2 : Nat) * (T.size (T.mk (T.k (List.getD ts 1 default)) (T.n (List.getD ts 1 default)) (T.kids (List.getD ts 1 default))))) < m) ∧
     ((∃ d : Int,
     ((T.shp (T.mk (T.k (List.getD ts 1 default)) (T.n (List.getD ts 1 default)) (T.kids (List.getD ts 1 default))) d) = true)) ∧
     ((T.size (T.mk (T.k (List.getD ts 1 default)) (T.n (List.getD ts 1 default)) (T.kids (List.getD ts 1 default)))) ≤ (400 : Nat)))) ∧
     ((((((List.length (([(40 : UInt8)] ++ (T.text (T.mk (T.k (List.getD ts 0 default)) (T.n (List.getD ts 0 default)) (T.kids (List.getD ts 0 default))))) ++ [(32 : UInt8)])) : Nat) : Int) + (((List.length (T.text (T.mk (T.k (List.getD ts 1 default)) (T.n (List.getD ts 1 default)) (T.kids (List.getD ts 1 default))))) : Nat) : Int)) ≤ (1099511627776 : Int)) ∧
     ((((((List.length ((([(40 : UInt8)] ++ (T.text (T.mk (T.k (List.getD ts 0 default)) (T.n (List.getD ts 0 default)) (T.kids (List.getD ts 0 default))))) ++ [(32 : UInt8)]) ++ (T.text (T.mk (T.k (List.getD ts 1 default)) (T.n (List.getD ts 1 default)) (T.kids (List.getD ts 1 default)))))) : Nat) : Int) + (1 : Int)) ≤ (1099511627776 : Int)) ∧
     (Ret K (.str (((([(40 : UInt8)] ++ (T.text (T.mk (T.k (List.getD ts 0 default)) (T.n (List.getD ts 0 default)) (T.kids (List.getD ts 0 default))))) ++ [(32 : UInt8)]) ++ (T.text (T.mk (T.k (List.getD ts 1 default)) (T.n (List.getD ts 1 default)) (T.kids (List.getD ts 1 default))))) ++ [(41 : UInt8)])) [])))))))))))))
     (Br (Decidable.decide (k = (4 : Int)))
     ((((0 : Int) ≤ (0 : Int)) ∧ ((0 : Int) < (((List.length ts) : Nat) : Int))) ∧
     ((((0 : Int) ≤ (1 : Int)) ∧ ((1 : Int) < (((List.length ts) : Nat) : Int))) ∧
     (((((2 : Nat) * (T.size (T.mk (T.k (List.getD ts 0 default)) (T.n (List.getD ts 0 default)) (T.kids (List.getD ts 0 default))))) < m) ∧
     ((∃ d : Int,
     ((T.shp (T.mk (T.k (List.getD ts 0 default)) (T.n (List.getD ts 0 default)) (T.kids (List.getD ts 0 default))) d) = true)) ∧
     ((T.size (T.mk (T.k (List.getD ts 0 default)) (T.n (List.getD ts 0 default)) (T.kids (List.getD ts 0 default)))) ≤ (400 : Nat)))) ∧
     (((T.k (List.getD ts 1 default)) = (T.k (List.getD ts 1 default))) ∧
     (((T.n (List.getD ts 1 default)) = (T.n (List.getD ts 1 default))) ∧
     (((T.kids (List.getD ts 1 default)) = (T.kids (List.getD ts 1 default))) ∧
     ((ts = ts) ∧
     ((((1 : Int) + (((List.length (T.text (T.mk (T.k (List.getD ts 0 default)) (T.n (List.getD ts 0 default)) (T.kids (List.getD ts 0 default))))) : Nat) : Int)) ≤ (1099511627776 : Int)) ∧
     ((((((List.length ([(91 : UInt8)] ++ (T.text (T.mk (T.k (List.getD ts 0 default)) (T.n (List.getD ts 0 default)) (T.kids (List.getD ts 0 default)))))) : Nat) : Int) + (1 : Int)) ≤ (1099511627776 : Int)) ∧
     (((((2 : Nat) * (T.size (T.mk (T.k (List.getD ts 1 default)) (T.n (List.getD ts 1 default)) (T.kids (List.getD ts 1 default))))) < m) ∧
     ((∃ d : Int,
     ((T.shp (T.mk (T.k (List.getD ts 1 default)) (T.n (List.getD ts 1 default)) (T.kids (List.getD ts 1 default))) d) = true)) ∧
     ((T.size (T.mk (T.k (List.getD ts 1 default)) (T.n (List.getD ts 1 default)) (T.kids (List.getD ts 1 default)))) ≤ (400 : Nat)))) ∧
     ((((((List.length (([(91 : UInt8)] ++ (T.text (T.mk (T.k (List.getD ts 0 default)) (T.n (List.getD ts 0 default)) (T.kids (List.getD ts 0 default))))) ++ [(93 : UInt8)])) : Nat) : Int) + (((List.length (T.text (T.mk (T.k (List.getD ts 1 default)) (T.n (List.getD ts 1 default)) (T.kids (List.getD ts 1 default))))) : Nat) : Int)) ≤ (1099511627776 : Int)) ∧
     (Ret K (.str ((([(91 : UInt8)] ++ (T.text (T.mk (T.k (List.getD ts 0 default)) (T.n (List.getD ts 0 default)) (T.kids (List.getD ts 0 default))))) ++ [(93 : UInt8)]) ++ (T.text (T.mk (T.k (List.getD ts 1 default)) (T.n (List.getD ts 1 default)) (T.kids (List.getD ts 1 default)))))) []))))))))))))
     (Br (Decidable.decide (k = (10 : Int)))
     ((((((2 : Nat) * (sizeL ts)) + (1 : Nat)) < m) ∧ ((∃ d : Int, ((shpL ts d) = true)) ∧ ((sizeL ts) ≤ (400 : Nat)))) ∧
     ((((1 : Int) + (((List.length (commaT ts)) : Nat) : Int)) ≤ (1099511627776 : Int)) ∧
     ((((((List.length ([(123 : UInt8)] ++ (commaT ts))) : Nat) : Int) + (1 : Int)) ≤ (1099511627776 : Int)) ∧
     (Ret K (.str (([(123 : UInt8)] ++ (commaT ts)) ++ [(125 : UInt8)])) []))))
     (Br (Decidable.decide (k = (14 : Int)))
     ((((((2 : Nat) * (sizeL ts)) + (1 : Nat)) < m) ∧ ((∃ d : Int, ((shpL ts d) = true)) ∧ ((sizeL ts) ≤ (400 : Nat)))) ∧
     ((((1 : Int) + (((List.length (commaT ts)) : Nat) : Int)) ≤ (1099511627776 : Int)) ∧
     ((((((List.length ([(124 : UInt8)] ++ (commaT ts))) : Nat) : Int) + (1 : Int)) ≤ (1099511627776 : Int)) ∧
     (Ret K (.str (([(124 : UInt8)] ++ (commaT ts)) ++ [(124 : UInt8)])) []))))
     (Br (Decidable.decide (k = (12 : Int)))
     ((((((2 : Nat) * (sizeL ts)) + (1 : Nat)) < m) ∧ ((∃ d : Int, ((shpL ts d) = true)) ∧ ((sizeL ts) ≤ (400 : Nat)))) ∧
     ((((2 : Int) + (((List.length (commaT ts)) : Nat) : Int)) ≤ (1099511627776 : Int)) ∧
     ((((((List.length ([(64 : UInt8), (60 : UInt8)] ++ (commaT ts))) : Nat) : Int) + (1 : Int)) ≤ (1099511627776 : Int)) ∧
     (Ret K (.str (([(64 : UInt8), (60 : UInt8)] ++ (commaT ts)) ++ [(62 : UInt8)])) []))))
     ((((((2 : Nat) * (sizeL ts)) + (1 : Nat)) < m) ∧ ((∃ d : Int, ((shpL ts d) = true)) ∧ ((sizeL ts) ≤ (400 : Nat)))) ∧
     ((((1 : Int) + (((List.length (commaT ts)) : Nat) : Int)) ≤ (1099511627776 : Int)) ∧
     ((((((List.length ([(60 : UInt8)] ++ (commaT ts))) : Nat) : Int) + (1 : Int)) ≤ (1099511627776 : Int)) ∧
     (Ret K (.str (([(60 : UInt8)] ++ (commaT ts)) ++ [(62 : UInt8)])) [])))))))))))))))))))) ?_ (by kernel_rfl)
  obtain ⟨⟨d, hd⟩, hz⟩ := hp
  have rt : ∀ l, l = (T.mk k n ts).text → Ret K (.str l) [] := fun l h => retStr hk h
  clear hk
  have t0 := (ts.getD 0 default).text_le
  have t1 := (ts.getD 1 default).text_le
  have t2 := commaT_le ts
  have t3 := decD_len n
  have hf := frm hd
  clear hd
  simp only [T.eta]
  cases hf
  all_goals
    simp only [T.size, sizeL, List.getD_cons_zero, List.getD_cons_succ, List.length_cons, List.length_nil] at t0 t1 t2 t3 hm hz ⊢
    repeat' first
      | exact absurd True.intro ‹¬True›
      | omega
      | refine brd (fun _ => ?_) (fun _ => ?_)
      | (refine rt _ ?_; simp only [tx1, tx2, tx3, tx4, tx5, tx6, tx7, tx8, tx9, tx10, tx11, tx12, tx13, tx14, tx15, tx16, commaT, sufL, List.append_assoc, List.cons_append, List.nil_append, List.append_nil]; done)
      | exact ⟨_, ‹_›⟩
      | exact ⟨_, shpL2 ‹_› ‹_› ‹_›⟩
      | exact ⟨_, shpL3 ‹_› ‹_› ‹_› ‹_›⟩
      | apply And.intro
      | exact rfl
      | exact trivial
      | (simp only [List.length_append, List.length_cons, List.length_nil]; omega)
theorem sList_ok (m : Nat) (ts : List T) (K : AV → List AV → Prop) (hm : (2 * sizeL ts + 1) < m + 1) (hp : (((∃ d, shpL ts d = true) ∧ sizeL ts ≤ 400))) (hk : ((K (.str (commaT ts)) []))) :
    bodyQ [(32, csTextM m), (59, csListM m)] TY [(3, { ι := Nat × List UInt8, ok := fun x => x.1 ≤ ts.length ∧ x.2 ++ sufL (x.1 == 0) (ts.drop x.1) = commaT ts, tl := fun x => [(0, .slc ts (.arg 0)), (3, .str x.2), (4, .int .i64 x.1)], hl := fun _ => [], fh := fun _ => [], μ := fun x => ts.length - x.1 })] Tryd.f59 (body Tryd.f59) [.slc ts (.arg 0)] [] K := by
  refine of_vc (A :=
    ((∃ x : (Prod Nat (List UInt8)),
     ((((Prod.fst x) ≤ (List.length ts)) ∧ (((Prod.snd x) ++ (sufL (BEq.beq (Prod.fst x) (0 : Nat)) (List.drop (Prod.fst x) ts))) = (commaT ts))) ∧
     ((ts = ts) ∧ ((([] : List UInt8) = (Prod.snd x)) ∧ (((0 : Int) = (((Prod.fst x) : Nat) : Int)) ∧ True))))) ∧
     (∀ x : (Prod Nat (List UInt8)),
     ((((Prod.fst x) ≤ (List.length ts)) ∧ (((Prod.snd x) ++ (sufL (BEq.beq (Prod.fst x) (0 : Nat)) (List.drop (Prod.fst x) ts))) = (commaT ts))) →
     (Br (Decidable.decide ((((Prod.fst x) : Nat) : Int) < (((List.length ts) : Nat) : Int)))
     (Br (Decidable.decide ((0 : Int) < (((Prod.fst x) : Nat) : Int)))
     ((((((List.length (Prod.snd x)) : Nat) : Int) + (1 : Int)) ≤ (1099511627776 : Int)) ∧
     ((((0 : Int) ≤ (((Prod.fst x) : Nat) : Int)) ∧ ((((Prod.fst x) : Nat) : Int) < (((List.length ts) : Nat) : Int))) ∧
     (((((2 : Nat) * (T.size (T.mk (T.k (List.getD ts (Int.toNat (((Prod.fst x) : Nat) : Int)) default)) (T.n (List.getD ts (Int.toNat (((Prod.fst x) : Nat) : Int)) default)) (T.kids (List.getD ts (Int.toNat (((Prod.fst x) : Nat) : Int)) default))))) < m) ∧
     ((∃ d : Int,
     ((T.shp (T.mk (T.k (List.getD ts (Int.toNat (((Prod.fst x) : Nat) : Int)) default)) (T.n (List.getD ts (Int.toNat (((Prod.fst x) : Nat) : Int)) default)) (T.kids (List.getD ts (Int.toNat (((Prod.fst x) : Nat) : Int)) default))) d) = true)) ∧
     ((T.size (T.mk (T.k (List.getD ts (Int.toNat (((Prod.fst x) : Nat) : Int)) default)) (T.n (List.getD ts (Int.toNat (((Prod.fst x) : Nat) : Int)) default)) (T.kids (List.getD ts (Int.toNat (((Prod.fst x) : Nat) : Int)) default)))) ≤ (400 : Nat)))) ∧
     ((((((List.length ((Prod.snd x) ++ [(44 : UInt8)])) : Nat) : Int) + (((List.length (T.text (T.mk (T.k (List.getD ts (Int.toNat (((Prod.fst x) : Nat) : Int)) default)) (T.n (List.getD ts (Int.toNat (((Prod.fst x) : Nat) : Int)) default)) (T.kids (List.getD ts (Int.toNat (((Prod.fst x) : Nat) : Int)) default))))) : Nat) : Int)) ≤ (1099511627776 : Int)) ∧
     ((InR ((((Prod.fst x) : Nat) : Int) + (1 : Int))) ∧
     (∃ y : (Prod Nat (List UInt8)),
     ((((Prod.fst y) ≤ (List.length ts)) ∧ (((Prod.snd y) ++ (sufL (BEq.beq (Prod.fst y) (0 : Nat)) (List.drop (Prod.fst y) ts))) = (commaT ts))) ∧
     ((ts = ts) ∧
     (((((Prod.snd x) ++ [(44 : UInt8)]) ++ (T.text (T.mk (T.k (List.getD ts (Int.toNat (((Prod.fst x) : Nat) : Int)) default)) (T.n (List.getD ts (Int.toNat (((Prod.fst x) : Nat) : Int)) default)) (T.kids (List.getD ts (Int.toNat (((Prod.fst x) : Nat) : Int)) default))))) = (Prod.snd y)) ∧
     ((((((Prod.fst x) : Nat) : Int) + (1 : Int)) = (((Prod.fst y) : Nat) : Int)) ∧
     ((Nat.succ ((List.length ts) - (Prod.fst y))) ≤ ((List.length ts) - (Prod.fst x)))))))))))))
     ((((0 : Int) ≤ (((Prod.fst x) : Nat) : Int)) ∧ ((((Prod.fst x) : Nat) : Int) < (((List.length ts) : Nat) : Int))) ∧
     (((((2 : Nat) * (T.size (T.mk (T.k (List.getD ts (Int.toNat (((Prod.fst x) : Nat) : Int)) default)) (T.n (List.getD ts (Int.toNat (((Prod.fst x) : Nat) : Int)) default)) (T.kids (List.getD ts (Int.toNat (((Prod.fst x) : Nat) : Int)) default))))) < m) ∧
     ((∃ d : Int,
     ((T.shp (T.mk (T.k (List.getD ts (Int.toNat (((Prod.fst x) : Nat) : Int)) default)) (T.n (List.getD ts (Int.toNat (((Prod.fst x) : Nat) : Int)) default)) (T.kids (List.getD ts (Int.toNat (((Prod.fst x) : Nat) : Int)) default))) d) = true)) ∧
     ((T.size (T.mk (T.k (List.getD ts (Int.toNat (((Prod.fst x) : Nat) : Int)) default)) (T.n (List.getD ts (Int.toNat (((Prod.fst x) : Nat) : Int)) default)) (T.kids (List.getD ts (Int.toNat (((Prod.fst x) : Nat) : Int)) default)))) ≤ (400 : Nat)))) ∧
     ((((((List.length (Prod.snd x)) : Nat) : Int) + (((List.length (T.text (T.mk (T.k (List.getD ts (Int.toNat (((Prod.fst x) : Nat) : Int)) default)) (T.n (List.getD ts (Int.toNat (((Prod.fst x) : Nat) : Int)) default)) (T.kids (List.getD ts (Int.toNat (((Prod.fst x) : Nat) : Int)) default))))) : Nat) : Int)) ≤ (1099511627776 : Int)) ∧
     ((InR ((((Prod.fst x) : Nat) : Int) + (1 : Int))) ∧
     (∃ y : (Prod Nat (List UInt8)),
     ((((Prod.fst y) ≤ (List.length ts)) ∧ (((Prod.snd y) ++ (sufL (BEq.beq (Prod.fst y) (0 : Nat)) (List.drop (Prod.fst y) ts))) = (commaT ts))) ∧
     ((ts = ts) ∧
     ((((Prod.snd x) ++ (T.text (T.mk (T.k (List.getD ts (Int.toNat (((Prod.fst x) : Nat) : Int)) default)) (T.n (List.getD ts (Int.toNat (((Prod.fst x) : Nat) : Int)) default)) (T.kids (List.getD ts (Int.toNat (((Prod.fst x) : Nat) : Int)) default))))) = (Prod.snd y)) ∧
     ((((((Prod.fst x) : Nat) : Int) + (1 : Int)) = (((Prod.fst y) : Nat) : Int)) ∧
     ((Nat.succ ((List.length ts) - (Prod.fst y))) ≤ ((List.length ts) - (Prod.fst x)))))))))))))
     (Ret K (.str (Prod.snd x)) [])))))) ?_ (by kernel_rfl)
  obtain ⟨⟨d, hd⟩, hz⟩ := hp
  have hl := length_le_sizeL ts
  refine ⟨⟨(0, []), ⟨Nat.zero_le _, rfl⟩, rfl, rfl, rfl, trivial⟩, ?_⟩
  rintro ⟨i, s⟩ ⟨h1, h2⟩
  simp only at h1 h2
  simp only [T.eta, Int.toNat_natCast]
  have hb : (s ++ sufL (i == 0) (ts.drop i)).length ≤ 4 * sizeL ts := by rw [h2]; exact commaT_le ts
  rw [List.length_append] at hb
  refine brd (fun h => ?_) (fun h => ?_)
  · have hi : i < ts.length := by omega
    have hm' := sizeL_mem (getD_mem hi)
    have ht := (ts.getD i default).text_le
    have sh : ∃ d, (ts.getD i default).shp d = true := ⟨_, shpL_mem hd (getD_mem hi)⟩
    rw [drop_getD hi] at h2
    clear hk
    by_cases h0 : i = 0
    · subst h0
      have h3 : s ++ ((ts.getD 0 default).text ++ sufL false (ts.drop 1)) = commaT ts := h2
      repeat' first
        | exact sh
        | omega
        | refine ⟨(0 + 1, _), ⟨hi, (by rw [← h3, List.append_assoc]; rfl)⟩, trivial, rfl, rfl, by show Nat.succ (_ - 1) ≤ _; omega⟩
        | refine brd (fun _ => ?_) (fun _ => ?_)
        | apply And.intro
        | (unfold InR; omega)
        | (simp only [List.length_append, List.length_cons, List.length_nil]; omega)
        | intro
    · have h3 : s ++ (44 :: ((ts.getD i default).text ++ sufL false (ts.drop (i + 1)))) = commaT ts := by
        have e : (i == 0) = false := by simpa using h0
        rw [e] at h2; exact h2
      repeat' first
        | exact sh
        | omega
        | refine ⟨(i + 1, _), ⟨hi, (by rw [← h3]; simp only [List.append_assoc, List.cons_append, List.nil_append]; rfl)⟩, trivial, rfl, rfl, by show Nat.succ (_ - (i + 1)) ≤ _; omega⟩
        | refine brd (fun _ => ?_) (fun _ => ?_)
        | apply And.intro
        | (unfold InR; omega)
        | (simp only [List.length_append, List.length_cons, List.length_nil]; omega)
        | intro
  · have hi : ¬ i < ts.length := by omega
    rw [drop_len hi] at h2
    have e : ∀ b, sufL b [] = [] := fun b => by cases b <;> rfl
    rw [e, List.append_nil] at h2
    exact retStr hk h2
theorem sText_soundM : ∀ m : Nat, Sound Tryd.prog 32 (csTextM m) ∧ Sound Tryd.prog 59 (csListM m)
  | 0 => ⟨by
      refine soundF (G := []) gnil Tryd.func32 rfl (by kernel_rfl) fun args hs K hCC => ?_
      unfold csTextM at hCC
      split at hCC
      case h_2 => exact hCC.elim
      exact absurd hCC.1.1 (Nat.not_lt_zero _), by
      refine soundF (G := []) gnil Tryd.func59 rfl (by kernel_rfl) fun args hs K hCC => ?_
      unfold csListM at hCC
      split at hCC
      case h_2 => exact hCC.elim
      exact absurd hCC.1.1 (Nat.not_lt_zero _)⟩
  | m + 1 => ⟨by
      refine soundF (G := [(32, csTextM m), (59, csListM m), (58, csDec)]) ((gcons (sText_soundM m).1 (gcons (sText_soundM m).2 (gcons sDec_sound gnil)))) Tryd.func32 rfl (by kernel_rfl) fun args hs K hCC => ?_
      unfold csTextM at hCC
      split at hCC
      case h_2 => exact hCC.elim
      rename_i k n ts
      exact ⟨Nat.le_of_ble_eq_true rfl, _, sText_ok m k n ts K hCC.1.1 hCC.1.2 hCC.2⟩, by
      refine soundF (G := [(32, csTextM m), (59, csListM m)]) ((gcons (sText_soundM m).1 (gcons (sText_soundM m).2 gnil))) Tryd.func59 rfl (by kernel_rfl) fun args hs K hCC => ?_
      unfold csListM at hCC
      split at hCC
      case h_2 => exact hCC.elim
      rename_i ts
      exact ⟨Nat.le_of_ble_eq_true rfl, _, sList_ok m ts K hCC.1.1 hCC.1.2 hCC.2⟩⟩
theorem sText_sound : Sound Tryd.prog 32 csText := by
  refine sound_of_all (c := csTextM) (fun m => (sText_soundM m).1) fun args hs K hCC => ?_
  unfold csText at hCC
  split at hCC
  case h_2 => exact hCC.elim
  exact ⟨_, ⟨Nat.lt_succ_self _, hCC.1⟩, hCC.2⟩
theorem sList_sound : Sound Tryd.prog 59 csList := by
  refine sound_of_all (c := csListM) (fun m => (sText_soundM m).2) fun args hs K hCC => ?_
  unfold csList at hCC
  split at hCC
  case h_2 => exact hCC.elim
  exact ⟨_, ⟨Nat.lt_succ_self _, hCC.1⟩, hCC.2⟩
/-- spec.FormatTerm -/
def csFormat : Con
  | [.st [.int .i64 k, .int .i64 n, .slc ts (.arg 0)]], [], K => True ∧ ((K (.str (if (T.mk k n ts).valid = true then (T.mk k n ts).text else [])) []))
  | _, _, _ => False
theorem sFormat_ok (k n : Int) (ts : List T) (K : AV → List AV → Prop) (hp : True) (hk : ((K (.str (if (T.mk k n ts).valid = true then (T.mk k n ts).text else [])) []))) :
    bodyQ [(17, csTermValid), (32, csText)] TY [] Tryd.f15 (body Tryd.f15) [.st [.int .i64 k, .int .i64 n, .slc ts (.arg 0)]] [] K := by
  refine of_vc (A :=
    (True ∧
     (Br (Bool.not (T.valid (T.mk k n ts)))
     (Ret K (.str []) [])
     (((∃ d : Int, ((T.shp (T.mk k n ts) d) = true)) ∧ ((T.size (T.mk k n ts)) ≤ (400 : Nat))) ∧ (Ret K (.str (T.text (T.mk k n ts))) []))))) ?_ (by kernel_rfl)
  exact ⟨trivial, br (fun h => retStr hk (by rw [Bool.not_eq_true'] at h; rw [h]; rfl)) (fun h => by
    rw [Bool.not_eq_false'] at h
    have hz := T.valid_size h
    exact ⟨⟨⟨30, T.valid_shp h⟩, hz⟩, retStr hk (by rw [if_pos h])⟩)⟩
theorem sFormat_sound : Sound Tryd.prog 15 csFormat := by
  refine soundF (G := [(17, csTermValid), (32, csText)]) ((gcons sTermValid_sound (gcons sText_sound gnil))) Tryd.func15 rfl (by kernel_rfl) fun args hs K hCC => ?_
  unfold csFormat at hCC
  split at hCC
  case h_2 => exact hCC.elim
  rename_i k n ts
  exact ⟨Nat.le_of_ble_eq_true rfl, _, sFormat_ok k n ts K hCC.1 hCC.2⟩
end Go.Dk
