/- Binding: the program's functions. -/
import Derived.Test.YtmeplbnophmmdaaL1
import Derived.Test.YtmeplbnophmmdaaTb
namespace Go.Dk
set_option linter.unusedVariables false
open Go.Proofs
def shf (y c b n : Int) : T := vr (if c + b ≤ n then n + y else n)
def shk (y c b n : Int) : Bool := decide (n - b < c ∨ (c ≤ n + y - b ∧ n + y ≤ 20))
theorem shf_eq (y c b n : Int) : shf y c b n = vr (if c + b ≤ n then n + y else n) := rfl
/-- impl.isBinder -/
def cisBinder : Con
  | [.int .i64 (k)], [], K => True ∧ ((K (.bool (decide (k = 3 ∨ k = 4 ∨ k = 13))) []))
  | _, _, _ => False
theorem isBinder_ok (k : Int) (K : AV → List AV → Prop) (hp : True) (hk : ((K (.bool (decide (k = 3 ∨ k = 4 ∨ k = 13))) []))) :
    bodyQ [] TY [] Try.f62 (body Try.f62) [.int .i64 (k)] [] K := by
  refine of_vc (A :=
    (Br (Decidable.decide (k = (3 : Int)))
     (Ret K (.bool true) [])
     (Br (Decidable.decide (k = (4 : Int))) (Ret K (.bool true) []) (Ret K (.bool (Decidable.decide (k = (13 : Int)))) [])))) ?_ (by kernel_rfl)
  refine br (fun h => retB hk ?_) (fun h => br (fun h2 => retB hk ?_) (fun h2 => retB hk ?_))
  · have h := of_decide_eq_true h; simp [h]
  · have h2 := of_decide_eq_true h2; simp [h2]
  · have h := of_decide_eq_false h; have h2 := of_decide_eq_false h2; simp [h, h2]
theorem isBinder_sound : Sound Try.prog 62 cisBinder := by
  refine soundF (G := []) (gnil) Try.func62 rfl (by kernel_rfl) fun args hs K hCC => ?_
  unfold cisBinder at hCC
  split at hCC
  case h_2 => exact hCC.elim
  rename_i k
  exact ⟨Nat.le_of_ble_eq_true rfl, _, isBinder_ok k K hCC.1 hCC.2⟩
/-- impl.under -/
def cUnder : Con
  | [.int .i64 (k), .int .i64 (i)], [], K => True ∧ ((K (.int .i64 (und k i)) []))
  | _, _, _ => False
theorem Under_ok (k i : Int) (K : AV → List AV → Prop) (hp : True) (hk : ((K (.int .i64 (und k i)) []))) :
    bodyQ [(62, cisBinder)] TY [] Try.f51 (body Try.f51) [.int .i64 (k), .int .i64 (i)] [] K := by
  refine of_vc (A :=
    (Br (Decidable.decide (i = (1 : Int)))
     (True ∧ (Br (Decidable.decide ((k = (3 : Int)) ∨ ((k = (4 : Int)) ∨ (k = (13 : Int))))) (Ret K (.int .i64 1) []) (Ret K (.int .i64 0) [])))
     (Ret K (.int .i64 0) []))) ?_ (by kernel_rfl)
  refine br (fun h => ⟨trivial, br (fun h2 => retI hk ?_) (fun h2 => retI hk ?_)⟩) (fun h => retI hk ?_)
  · have h := of_decide_eq_true h; have h2 := of_decide_eq_true h2; simp [und, h, h2]
  · have h := of_decide_eq_true h; have h2 := of_decide_eq_false h2; simp [und, h2]
  · have h := of_decide_eq_false h; simp [und, h]
theorem Under_sound : Sound Try.prog 51 cUnder := by
  refine soundF (G := [(62, cisBinder)]) ((gcons isBinder_sound gnil)) Try.func51 rfl (by kernel_rfl) fun args hs K hCC => ?_
  unfold cUnder at hCC
  split at hCC
  case h_2 => exact hCC.elim
  rename_i k i
  exact ⟨Nat.le_of_ble_eq_true rfl, _, Under_ok k i K hCC.1 hCC.2⟩
/-- impl.variable -/
def cVariable : Con
  | [.int .i64 (n)], [], K => True ∧ ((K ((vr n).fr) []))
  | _, _, _ => False
theorem Variable_ok (n : Int) (K : AV → List AV → Prop) (hp : True) (hk : ((K ((vr n).fr) []))) :
    bodyQ [] TY [] Try.f31 (body Try.f31) [.int .i64 (n)] [] K := by
  refine of_vc (A :=
    (Ret K (.st [(.int .i64 1), (.int .i64 n), (.slc [] (.iv 0 0 true .full))]) [])) ?_ (by kernel_rfl)
  exact retT (t := vr n) hk rfl
theorem Variable_sound : Sound Try.prog 31 cVariable := by
  refine soundF (G := []) (gnil) Try.func31 rfl (by kernel_rfl) fun args hs K hCC => ?_
  unfold cVariable at hCC
  split at hCC
  case h_2 => exact hCC.elim
  rename_i n
  exact ⟨Nat.le_of_ble_eq_true rfl, _, Variable_ok n K hCC.1 hCC.2⟩
/-- What the program's shift says. -/
def T.shO (y c : Int) (t : T) : Bool := (t.vs 0).all (fun p => shk y c p.1 p.2) && (t.mv (shf y c) 0).valid
def T.shR (y c : Int) (t : T) : T := if t.shO y c = true then t.mv (shf y c) 0 else .mk 0 0 []
def sbfI (j : Int) (u : T) (b n : Int) : T := if n - b = j then u.shR b 0 else if j < n - b then vr (n - 1) else vr n
def sbk (j : Int) (u : T) (b n : Int) : Bool := if n - b = j then u.shO b 0 else true
/-- What the program's substitution says. -/
def T.sbO (t : T) (j : Int) (u : T) : Bool := (t.vs 0).all (fun p => sbk j u p.1 p.2) && (t.mv (sbfI j u) 0).valid
def T.sbR (t : T) (j : Int) (u : T) : T := if t.sbO j u = true then t.mv (sbfI j u) 0 else .mk 0 0 []
def rnf (ns : List Int) (b n : Int) : T := vr (if b ≤ n then ns.getD (n - b).toNat 0 + b else n)
/-- impl.RenameTerm$2 -/
def crenameC : Con
  | [.int .i64 (n), .int .i64 (b), .fptr 0], [.ints .i64 ns .any], K => ((0 ≤ n ∧ n ≤ 20 ∧ 0 ≤ b ∧ b ≤ 60 ∧ (∀ x ∈ ns, 0 ≤ x ∧ x ≤ 20) ∧ n - b < ns.length)) ∧ ((K ((rnf ns b n).fr) [.ints .i64 ns .any]))
  | _, _, _ => False
theorem renameC_ok (n b : Int) (ns : List Int) (K : AV → List AV → Prop) (hp : ((0 ≤ n ∧ n ≤ 20 ∧ 0 ≤ b ∧ b ≤ 60 ∧ (∀ x ∈ ns, 0 ≤ x ∧ x ≤ 20) ∧ n - b < ns.length))) (hk : ((K ((rnf ns b n).fr) [.ints .i64 ns .any]))) :
    bodyQ [(31, cVariable)] TY [] Try.f30 (body Try.f30) [.int .i64 (n), .int .i64 (b), .fptr 0] [.ints .i64 ns .any] K := by
  refine of_vc (A :=
    (Br (Decidable.decide (b ≤ n))
     ((InR (n - b)) ∧
     ((((0 : Int) ≤ (n - b)) ∧ ((n - b) < (((List.length ns) : Nat) : Int))) ∧
     ((InR ((List.getD ns (Int.toNat (n - b)) (0 : Int)) + b)) ∧
     (True ∧
     (Ret K (.st [(.int .i64 1), (.int .i64 (T.n (T.mk (1 : Int) ((List.getD ns (Int.toNat (n - b)) (0 : Int)) + b) ([] : List T)))), (.slc [] (.iv 4 4 true (.tok 0)))]) [(.ints .i64 ns .any)])))))
     (True ∧
     (Ret K (.st [(.int .i64 1), (.int .i64 (T.n (T.mk (1 : Int) n ([] : List T)))), (.slc [] (.iv 4 4 true (.tok 0)))]) [(.ints .i64 ns .any)])))) ?_ (by kernel_rfl)
  obtain ⟨h0, h1, h2, h3, h4, h5⟩ := hp
  unfold rnf at hk
  refine br (fun g => ?_) (fun g => ⟨trivial, ?_⟩)
  · have g := of_decide_eq_true g
    have hm : ns.getD (n - b).toNat 0 ∈ ns := by rw [List.getD_eq_getElem?_getD, List.getElem?_eq_getElem (by omega)]; exact List.getElem_mem _
    have hx := h4 _ hm
    rw [if_pos g] at hk
    exact ⟨by unfold InR; omega, ⟨by omega, h5⟩, by unfold InR; omega, trivial, fin hk (by repeat' first | trivial | rfl | (simp; done) | apply And.intro) (by repeat' first | trivial | rfl | (simp; done) | apply And.intro)⟩
  · rw [if_neg (of_decide_eq_false g)] at hk
    exact fin hk (by repeat' first | trivial | rfl | (simp; done) | apply And.intro) (by repeat' first | trivial | rfl | (simp; done) | apply And.intro)
theorem renameC_sound : Sound Try.prog 30 crenameC := by
  refine soundF (G := [(31, cVariable)]) ((gcons Variable_sound gnil)) Try.func30 rfl (by kernel_rfl) fun args hs K hCC => ?_
  unfold crenameC at hCC
  split at hCC
  case h_2 => exact hCC.elim
  rename_i n b ns
  exact ⟨Nat.le_of_ble_eq_true rfl, _, renameC_ok n b ns K hCC.1 hCC.2⟩
/-- impl.changed -/
def cchRenameM (m : Nat) : Con
  | [.st [.int .i64 k, .int .i64 n, .slc ts (.arg 0)], .int .i64 (b), .fn 30 [.fptr 0]], [.ints .i64 ns .any], K => (((T.mk k n ts).size) < m ∧ ((∃ d, (T.mk k n ts).shp d = true ∧ 0 ≤ b ∧ b + d ≤ 60) ∧ ((∀ x ∈ ns, 0 ≤ x ∧ x ≤ 20) ∧ (∀ p ∈ (T.mk k n ts).vs b, p.2 - p.1 < ns.length)))) ∧ ((K (((T.mk k n ts).mv (rnf ns) b).fr) [.ints .i64 ns .any]))
  | _, _, _ => False
def cchRename : Con
  | [.st [.int .i64 k, .int .i64 n, .slc ts (.arg 0)], .int .i64 (b), .fn 30 [.fptr 0]], [.ints .i64 ns .any], K => ((∃ d, (T.mk k n ts).shp d = true ∧ 0 ≤ b ∧ b + d ≤ 60) ∧ ((∀ x ∈ ns, 0 ≤ x ∧ x ≤ 20) ∧ (∀ p ∈ (T.mk k n ts).vs b, p.2 - p.1 < ns.length))) ∧ ((K (((T.mk k n ts).mv (rnf ns) b).fr) [.ints .i64 ns .any]))
  | _, _, _ => False
theorem chRename_ok (m : Nat) (k n : Int) (ts : List T) (b : Int) (ns : List Int) (K : AV → List AV → Prop) (hm : ((T.mk k n ts).size) < m + 1) (hp : ((∃ d, (T.mk k n ts).shp d = true ∧ 0 ≤ b ∧ b + d ≤ 60) ∧ ((∀ x ∈ ns, 0 ≤ x ∧ x ≤ 20) ∧ (∀ p ∈ (T.mk k n ts).vs b, p.2 - p.1 < ns.length)))) (hk : ((K (((T.mk k n ts).mv (rnf ns) b).fr) [.ints .i64 ns .any]))) :
    bodyQ [(29, cchRenameM m), (51, cUnder), (30, crenameC)] TY [(5, { ι := Nat × (List T × Bool), ok := fun x => x.1 ≤ ts.length ∧ x.2.1.length = x.1 ∧ x.2.1 ++ mvL (rnf ns) b k x.1 (ts.drop x.1) = mvL (rnf ns) b k 0 ts ∧ True, tl := fun x => [(1, .int .i64 (b)), (2, (.fn 30 [(.fptr 0)])), (3, (.ptr 3)), (6, (.ptr 6)), (7, (.ptr 7)), (24, .slc ts (.arg 0)), (25, .int .i64 ts.length), (26, .int .i64 x.1)], hl := fun x => [(3, .st [.int .i64 k, .int .i64 n, .slc ts (.arg 0)]), (6, (T.mk 0 0 []).av (.iv 0 0 true .full)), (7, .st [.int .i64 k, .int .i64 n, .slc x.2.1 (.iv 4 4 true (.tok 43))])], fh := fun x => [.ints .i64 ns .any], μ := fun x => ts.length - x.1 })] Try.f29 (body Try.f29) [.st [.int .i64 k, .int .i64 n, .slc ts (.arg 0)], .int .i64 (b), .fn 30 [.fptr 0]] [.ints .i64 ns .any] K := by
  refine of_vc (A :=
    (Br (Decidable.decide (k = (1 : Int)))
     ((((0 : Int) ≤ n) ∧
     ((n ≤ (20 : Int)) ∧
     (((0 : Int) ≤ b) ∧
     ((b ≤ (60 : Int)) ∧ ((∀ x : Int, ((Membership.mem ns x) → (((0 : Int) ≤ x) ∧ (x ≤ (20 : Int))))) ∧ ((n - b) < (((List.length ns) : Nat) : Int))))))) ∧
     (Ret K (.st [(.int .i64 1), (.int .i64 (T.n (T.mk (1 : Int) (if (b ≤ n) then ((List.getD ns (Int.toNat (n - b)) (0 : Int)) + b) else n) ([] : List T)))), (.slc [] (.iv 4 4 true (.tok 0)))]) [(.ints .i64 ns .any)]))
     ((∃ x : (Prod Nat (Prod (List T) Bool)),
     ((((Prod.fst x) ≤ (List.length ts)) ∧
     (((List.length (Prod.fst (Prod.snd x))) = (Prod.fst x)) ∧
     ((((Prod.fst (Prod.snd x)) ++ (mvL (rnf ns) b k (Prod.fst x) (List.drop (Prod.fst x) ts))) = (mvL (rnf ns) b k (0 : Nat) ts)) ∧ True))) ∧
     ((b = b) ∧
     ((ts = ts) ∧
     (((((List.length ts) : Nat) : Int) = (((List.length ts) : Nat) : Int)) ∧
     (((0 : Int) = (((Prod.fst x) : Nat) : Int)) ∧
     ((k = k) ∧
     ((n = n) ∧
     ((ts = ts) ∧
     (((0 : Int) = (0 : Int)) ∧
     (((0 : Int) = (0 : Int)) ∧ ((([] : List T) = ([] : List T)) ∧ ((k = k) ∧ ((n = n) ∧ ((([] : List T) = (Prod.fst (Prod.snd x))) ∧ ((ns = ns) ∧ True)))))))))))))))) ∧
     (∀ x : (Prod Nat (Prod (List T) Bool)),
     ((((Prod.fst x) ≤ (List.length ts)) ∧ (((List.length (Prod.fst (Prod.snd x))) = (Prod.fst x)) ∧ ((((Prod.fst (Prod.snd x)) ++ (mvL (rnf ns) b k (Prod.fst x) (List.drop (Prod.fst x) ts))) = (mvL (rnf ns) b k (0 : Nat) ts)) ∧ True))) →
     (Br (Decidable.decide ((((Prod.fst x) : Nat) : Int) < (((List.length ts) : Nat) : Int)))
     ((((0 : Int) ≤ (((Prod.fst x) : Nat) : Int)) ∧ ((((Prod.fst x) : Nat) : Int) < (((List.length ts) : Nat) : Int))) ∧
     (True ∧
     (((T.k (List.getD ts (Int.toNat (((Prod.fst x) : Nat) : Int)) default)) = (T.k (List.getD ts (Int.toNat (((Prod.fst x) : Nat) : Int)) default))) ∧
     (((T.n (List.getD ts (Int.toNat (((Prod.fst x) : Nat) : Int)) default)) = (T.n (List.getD ts (Int.toNat (((Prod.fst x) : Nat) : Int)) default))) ∧
     (((T.kids (List.getD ts (Int.toNat (((Prod.fst x) : Nat) : Int)) default)) = (T.kids (List.getD ts (Int.toNat (((Prod.fst x) : Nat) : Int)) default))) ∧
     (((Prod.fst (Prod.snd x)) = (Prod.fst (Prod.snd x))) ∧
     ((InR (b + (und k (((Prod.fst x) : Nat) : Int)))) ∧
     ((((T.size (T.mk (T.k (List.getD ts (Int.toNat (((Prod.fst x) : Nat) : Int)) default)) (T.n (List.getD ts (Int.toNat (((Prod.fst x) : Nat) : Int)) default)) (T.kids (List.getD ts (Int.toNat (((Prod.fst x) : Nat) : Int)) default)))) < m) ∧
     ((∃ d : Int,
     (((T.shp (T.mk (T.k (List.getD ts (Int.toNat (((Prod.fst x) : Nat) : Int)) default)) (T.n (List.getD ts (Int.toNat (((Prod.fst x) : Nat) : Int)) default)) (T.kids (List.getD ts (Int.toNat (((Prod.fst x) : Nat) : Int)) default))) d) = true) ∧
     (((0 : Int) ≤ (b + (und k (((Prod.fst x) : Nat) : Int)))) ∧ (((b + (und k (((Prod.fst x) : Nat) : Int))) + d) ≤ (60 : Int))))) ∧
     ((∀ x1 : Int, ((Membership.mem ns x1) → (((0 : Int) ≤ x1) ∧ (x1 ≤ (20 : Int))))) ∧
     (∀ p : (Prod Int Int),
     ((Membership.mem (T.vs (b + (und k (((Prod.fst x) : Nat) : Int))) (T.mk (T.k (List.getD ts (Int.toNat (((Prod.fst x) : Nat) : Int)) default)) (T.n (List.getD ts (Int.toNat (((Prod.fst x) : Nat) : Int)) default)) (T.kids (List.getD ts (Int.toNat (((Prod.fst x) : Nat) : Int)) default)))) p) →
     (((Prod.snd p) - (Prod.fst p)) < (((List.length ns) : Nat) : Int))))))) ∧
     (((Prod.fst (Prod.snd x)) = (Prod.fst (Prod.snd x))) ∧
     ((((((List.length (Prod.fst (Prod.snd x))) : Nat) : Int) + (1 : Int)) ≤ (1099511627776 : Int)) ∧
     ((InR ((((Prod.fst x) : Nat) : Int) + (1 : Int))) ∧
     (∃ y : (Prod Nat (Prod (List T) Bool)),
     ((((Prod.fst y) ≤ (List.length ts)) ∧
     (((List.length (Prod.fst (Prod.snd y))) = (Prod.fst y)) ∧
     ((((Prod.fst (Prod.snd y)) ++ (mvL (rnf ns) b k (Prod.fst y) (List.drop (Prod.fst y) ts))) = (mvL (rnf ns) b k (0 : Nat) ts)) ∧ True))) ∧
     ((b = b) ∧
     ((ts = ts) ∧
     (((((List.length ts) : Nat) : Int) = (((List.length ts) : Nat) : Int)) ∧
     ((((((Prod.fst x) : Nat) : Int) + (1 : Int)) = (((Prod.fst y) : Nat) : Int)) ∧
     ((k = k) ∧
     ((n = n) ∧
     ((ts = ts) ∧
     (((0 : Int) = (0 : Int)) ∧
     (((0 : Int) = (0 : Int)) ∧
     ((([] : List T) = ([] : List T)) ∧
     ((k = k) ∧
     ((n = n) ∧
     ((((Prod.fst (Prod.snd x)) ++ [(T.mk (T.k (T.mv (rnf ns) (b + (und k (((Prod.fst x) : Nat) : Int))) (T.mk (T.k (List.getD ts (Int.toNat (((Prod.fst x) : Nat) : Int)) default)) (T.n (List.getD ts (Int.toNat (((Prod.fst x) : Nat) : Int)) default)) (T.kids (List.getD ts (Int.toNat (((Prod.fst x) : Nat) : Int)) default))))) (T.n (T.mv (rnf ns) (b + (und k (((Prod.fst x) : Nat) : Int))) (T.mk (T.k (List.getD ts (Int.toNat (((Prod.fst x) : Nat) : Int)) default)) (T.n (List.getD ts (Int.toNat (((Prod.fst x) : Nat) : Int)) default)) (T.kids (List.getD ts (Int.toNat (((Prod.fst x) : Nat) : Int)) default))))) (T.kids (T.mv (rnf ns) (b + (und k (((Prod.fst x) : Nat) : Int))) (T.mk (T.k (List.getD ts (Int.toNat (((Prod.fst x) : Nat) : Int)) default)) (T.n (List.getD ts (Int.toNat (((Prod.fst x) : Nat) : Int)) default)) (T.kids (List.getD ts (Int.toNat (((Prod.fst x) : Nat) : Int)) default))))))]) = (Prod.fst (Prod.snd y))) ∧
     ((ns = ns) ∧ ((Nat.succ ((List.length ts) - (Prod.fst y))) ≤ ((List.length ts) - (Prod.fst x))))))))))))))))))))))))))))))
     (Ret K (.st [(.int .i64 k), (.int .i64 n), (.slc (Prod.fst (Prod.snd x)) (.iv 4 4 true (.tok 0)))]) [(.ints .i64 ns .any)]))))))) ?_ (by kernel_rfl)
  obtain ⟨⟨d, hd, hb, hbd⟩, hc⟩ := hp
  have hd1 := T.shp_pos hd
  refine br (fun h => ?_) (fun h => ?_)
  · have h := of_decide_eq_true h
    subst h
    have hr := (T.shp_root hd).2
    rw [show mostN 1 = 20 from rfl] at hr
    rw [T.mv_var] at hk
    refine ⟨⟨by omega, by omega, by omega, by omega, hc.1, by have := hc.2 (b, n) (by rw [T.vs_var]; simp); exact this⟩, fin hk (by repeat' first | trivial | rfl | (simp; done) | apply And.intro) (by repeat' first | trivial | rfl | (simp; done) | apply And.intro)⟩
  · have h := of_decide_eq_false h
    rw [T.mv_node h] at hk
    have h' := h
    have hsh := T.shp_kids hd
    have hm' : 1 + sizeL ts < m + 1 := hm
    have hll := length_le_sizeL ts
    have har := (T.shp_root hd).1
    have har2 := (arity_range k).2
    refine ⟨⟨(0, ([], true)), ⟨Nat.zero_le _, rfl, rfl, trivial⟩, (by repeat' first | trivial | rfl | (simp; done) | apply And.intro)⟩, ?_⟩
    rintro ⟨i, ⟨acc, o⟩⟩ ⟨g1, g2, g3, g4⟩
    simp only at g1 g2 g3 g4
    refine br (fun h => ?_) (fun h => ?_)
    · have h := of_decide_eq_true h
      simp only at h
      have hi : i < ts.length := by omega
      have hmem := getD_mem hi
      have hs := sizeL_mem hmem
      have hu := und_range k i
      rw [drop_getD hi] at g3
      simp only [mvL] at g3
      simp only [Int.toNat_natCast, T.eta]
      refine ⟨⟨by omega, by omega⟩, (by first | trivial | rfl | (simp; done)), (by first | trivial | rfl | (simp; done)), (by first | trivial | rfl | (simp; done)), (by first | trivial | rfl | (simp; done)), (by first | trivial | rfl | (simp; done)), by unfold InR; omega, ⟨by omega, ⟨d - 1, shpL_mem hsh hmem, by omega, by omega⟩, hc.1, fun p hp => hc.2 p (by rw [T.vs_node h']; exact vsL_mem hi (by simpa using hp))⟩, (by first | trivial | rfl | (simp; done)), by omega, by unfold InR; omega, (i + 1, (acc ++ [(ts.getD i default).mv (rnf ns) (b + und k i)], o)), ⟨by show i + 1 ≤ _; omega, by show (acc ++ [_]).length = i + 1; simp [g2], ?_, trivial⟩, (by repeat' first | trivial | rfl | (simp; done) | (dsimp only; omega) | omega | apply And.intro)⟩
      · show (acc ++ [_]) ++ mvL (rnf ns) b k (i + 1) (ts.drop (i + 1)) = _
        rw [← g3]; simp
    · have h := of_decide_eq_false h
      simp only at h
      have hi : ¬ i < ts.length := by omega
      rw [drop_len hi] at g3
      simp only [mvL, List.append_nil] at g3
      rw [← g3] at hk
      exact fin hk (by repeat' first | trivial | rfl | (simp; done) | apply And.intro) (by repeat' first | trivial | rfl | (simp; done) | apply And.intro)
theorem chRename_soundM : ∀ m : Nat, Sound Try.prog 29 (cchRenameM m)
  | 0 => by
      refine soundF (G := []) gnil Try.func29 rfl (by kernel_rfl) fun args hs K hCC => ?_
      unfold cchRenameM at hCC
      split at hCC
      case h_2 => exact hCC.elim
      exact absurd hCC.1.1 (Nat.not_lt_zero _)
  | m + 1 => by
      refine soundF (G := [(29, cchRenameM m), (51, cUnder), (30, crenameC)]) ((gcons (chRename_soundM m) (gcons Under_sound (gcons renameC_sound gnil)))) Try.func29 rfl (by kernel_rfl) fun args hs K hCC => ?_
      unfold cchRenameM at hCC
      split at hCC
      case h_2 => exact hCC.elim
      rename_i k n ts b ns
      exact ⟨Nat.le_of_ble_eq_true rfl, _, chRename_ok m k n ts b ns K hCC.1.1 hCC.1.2 hCC.2⟩
theorem chRename_sound : Sound Try.prog 29 cchRename := by
  refine sound_of_all (c := cchRenameM) (fun m => (chRename_soundM m)) fun args hs K hCC => ?_
  unfold cchRename at hCC
  split at hCC
  case h_2 => exact hCC.elim
  exact ⟨_, ⟨Nat.lt_succ_self _, hCC.1⟩, hCC.2⟩
/-- How often a free variable occurs. -/
def cnL (j : Int) (l : List (Int × Int)) : Int := (l.countP fun p => decide (p.2 = j + p.1) : Nat)
theorem cnL_nil {j : Int} : cnL j [] = 0 := rfl
theorem cnL_append {j : Int} {l l' : List (Int × Int)} : cnL j (l ++ l') = cnL j l + cnL j l' := by simp [cnL]
theorem cnL_le {j : Int} {l : List (Int × Int)} : 0 ≤ cnL j l ∧ cnL j l ≤ l.length := by
  have := List.countP_le_length (p := fun p : Int × Int => decide (p.2 = j + p.1)) (l := l)
  unfold cnL; omega
/-- The greatest free variable, and 1. -/
def mfL : List (Int × Int) → Int
  | [] => 0
  | p :: l => max (if p.1 ≤ p.2 then p.2 - p.1 + 1 else 0) (mfL l)
theorem mfL_nonneg : ∀ l, 0 ≤ mfL l
  | [] => Int.le_refl _
  | p :: l => by have := mfL_nonneg l; simp only [mfL]; omega
theorem mfL_append : ∀ l l', mfL (l ++ l') = max (mfL l) (mfL l')
  | [], l' => by have := mfL_nonneg l'; simp only [List.nil_append, mfL]; omega
  | p :: l, l' => by simp only [List.cons_append, mfL, mfL_append l]; omega
theorem mfL_mem {p : Int × Int} : ∀ {l : List (Int × Int)}, p ∈ l → p.2 - p.1 + 1 ≤ mfL l
  | q :: l, h => by
    simp only [mfL]
    rcases List.mem_cons.1 h with rfl | h
    · have := mfL_nonneg l; split <;> omega
    · have := mfL_mem h; omega
/-- impl.maxFree$1 -/
def cmaxC : Con
  | [.int .i64 (i), .fptr 0], [.int .i64 (c)], K => ((0 ≤ i ∧ i ≤ 1000)) ∧ ((K (.tup []) [.int .i64 (max c (i + 1))]))
  | _, _, _ => False
theorem maxC_ok (i c : Int) (K : AV → List AV → Prop) (hp : ((0 ≤ i ∧ i ≤ 1000))) (hk : ((K (.tup []) [.int .i64 (max c (i + 1))]))) :
    bodyQ [] TY [] Try.f49 (body Try.f49) [.int .i64 (i), .fptr 0] [.int .i64 (c)] K := by
  refine of_vc (A :=
    ((InR (i + (1 : Int))) ∧ (Ret K (.tup []) [(.int .i64 (Max.max c (i + (1 : Int))))]))) ?_ (by kernel_rfl)
  exact ⟨by unfold InR; omega, fin hk (by repeat' first | trivial | rfl | (simp; done) | apply And.intro) (by repeat' first | trivial | rfl | (simp; done) | apply And.intro)⟩
theorem maxC_sound : Sound Try.prog 49 cmaxC := by
  refine soundF (G := []) (gnil) Try.func49 rfl (by kernel_rfl) fun args hs K hCC => ?_
  unfold cmaxC at hCC
  split at hCC
  case h_2 => exact hCC.elim
  rename_i i c
  exact ⟨Nat.le_of_ble_eq_true rfl, _, maxC_ok i c K hCC.1 hCC.2⟩
/-- impl.free -/
def cfrMaxM (m : Nat) : Con
  | [.st [.int .i64 k, .int .i64 n, .slc ts (.arg 0)], .int .i64 (b), .fn 49 [.fptr 0]], [.int .i64 (c)], K => (((T.mk k n ts).size) < m ∧ ((∃ d, (T.mk k n ts).shp d = true ∧ 0 ≤ b ∧ b + d ≤ 60) ∧ (0 ≤ c))) ∧ ((K (.tup []) [.int .i64 (max c (mfL ((T.mk k n ts).vs b)))]))
  | _, _, _ => False
def cfrMax : Con
  | [.st [.int .i64 k, .int .i64 n, .slc ts (.arg 0)], .int .i64 (b), .fn 49 [.fptr 0]], [.int .i64 (c)], K => ((∃ d, (T.mk k n ts).shp d = true ∧ 0 ≤ b ∧ b + d ≤ 60) ∧ (0 ≤ c)) ∧ ((K (.tup []) [.int .i64 (max c (mfL ((T.mk k n ts).vs b)))]))
  | _, _, _ => False
theorem frMax_ok (m : Nat) (k n : Int) (ts : List T) (b c : Int) (K : AV → List AV → Prop) (hm : ((T.mk k n ts).size) < m + 1) (hp : ((∃ d, (T.mk k n ts).shp d = true ∧ 0 ≤ b ∧ b + d ≤ 60) ∧ (0 ≤ c))) (hk : ((K (.tup []) [.int .i64 (max c (mfL ((T.mk k n ts).vs b)))]))) :
    bodyQ [(48, cfrMaxM m), (51, cUnder), (49, cmaxC)] TY [(4, { ι := Nat × Int, ok := fun x => x.1 ≤ ts.length ∧ 0 ≤ x.2 ∧ max x.2 (mfL (vsL b k x.1 (ts.drop x.1))) = max c (mfL ((T.mk k n ts).vs b)), tl := fun x => [(1, .int .i64 (b)), (2, (.fn 49 [(.fptr 0)])), (3, (.ptr 3)), (24, .slc ts (.arg 0)), (25, .int .i64 ts.length), (26, .int .i64 x.1)], hl := fun x => [(3, .st [.int .i64 k, .int .i64 n, .slc ts (.arg 0)])], fh := fun x => [.int .i64 (x.2)], μ := fun x => ts.length - x.1 })] Try.f48 (body Try.f48) [.st [.int .i64 k, .int .i64 n, .slc ts (.arg 0)], .int .i64 (b), .fn 49 [.fptr 0]] [.int .i64 (c)] K := by
  refine of_vc (A :=
    (Br (Decidable.decide (k = (1 : Int)))
     (Br (Decidable.decide (b ≤ n))
     ((InR (n - b)) ∧
     ((((0 : Int) ≤ (n - b)) ∧ ((n - b) ≤ (1000 : Int))) ∧
     ((∃ x : (Prod Nat Int),
     ((((Prod.fst x) ≤ (List.length ts)) ∧
     (((0 : Int) ≤ (Prod.snd x)) ∧ ((Max.max (Prod.snd x) (mfL (vsL b k (Prod.fst x) (List.drop (Prod.fst x) ts)))) = (Max.max c (mfL (T.vs b (T.mk k n ts))))))) ∧
     ((b = b) ∧
     ((ts = ts) ∧
     (((((List.length ts) : Nat) : Int) = (((List.length ts) : Nat) : Int)) ∧
     (((0 : Int) = (((Prod.fst x) : Nat) : Int)) ∧ ((k = k) ∧ ((n = n) ∧ ((ts = ts) ∧ (((Max.max c ((n - b) + (1 : Int))) = (Prod.snd x)) ∧ True)))))))))) ∧
     (∀ x : (Prod Nat Int),
     ((((Prod.fst x) ≤ (List.length ts)) ∧ (((0 : Int) ≤ (Prod.snd x)) ∧ ((Max.max (Prod.snd x) (mfL (vsL b k (Prod.fst x) (List.drop (Prod.fst x) ts)))) = (Max.max c (mfL (T.vs b (T.mk k n ts))))))) →
     (Br (Decidable.decide ((((Prod.fst x) : Nat) : Int) < (((List.length ts) : Nat) : Int)))
     ((((0 : Int) ≤ (((Prod.fst x) : Nat) : Int)) ∧ ((((Prod.fst x) : Nat) : Int) < (((List.length ts) : Nat) : Int))) ∧
     (True ∧
     (((T.k (List.getD ts (Int.toNat (((Prod.fst x) : Nat) : Int)) default)) = (T.k (List.getD ts (Int.toNat (((Prod.fst x) : Nat) : Int)) default))) ∧
     (((T.n (List.getD ts (Int.toNat (((Prod.fst x) : Nat) : Int)) default)) = (T.n (List.getD ts (Int.toNat (((Prod.fst x) : Nat) : Int)) default))) ∧
     (((T.kids (List.getD ts (Int.toNat (((Prod.fst x) : Nat) : Int)) default)) = (T.kids (List.getD ts (Int.toNat (((Prod.fst x) : Nat) : Int)) default))) ∧
     ((InR (b + (und k (((Prod.fst x) : Nat) : Int)))) ∧
     ((((T.size (T.mk (T.k (List.getD ts (Int.toNat (((Prod.fst x) : Nat) : Int)) default)) (T.n (List.getD ts (Int.toNat (((Prod.fst x) : Nat) : Int)) default)) (T.kids (List.getD ts (Int.toNat (((Prod.fst x) : Nat) : Int)) default)))) < m) ∧
     ((∃ d : Int,
     (((T.shp (T.mk (T.k (List.getD ts (Int.toNat (((Prod.fst x) : Nat) : Int)) default)) (T.n (List.getD ts (Int.toNat (((Prod.fst x) : Nat) : Int)) default)) (T.kids (List.getD ts (Int.toNat (((Prod.fst x) : Nat) : Int)) default))) d) = true) ∧
     (((0 : Int) ≤ (b + (und k (((Prod.fst x) : Nat) : Int)))) ∧ (((b + (und k (((Prod.fst x) : Nat) : Int))) + d) ≤ (60 : Int))))) ∧
     ((0 : Int) ≤ (Prod.snd x)))) ∧
     ((InR ((((Prod.fst x) : Nat) : Int) + (1 : Int))) ∧
     (∃ y : (Prod Nat Int),
     ((((Prod.fst y) ≤ (List.length ts)) ∧
     (((0 : Int) ≤ (Prod.snd y)) ∧ ((Max.max (Prod.snd y) (mfL (vsL b k (Prod.fst y) (List.drop (Prod.fst y) ts)))) = (Max.max c (mfL (T.vs b (T.mk k n ts))))))) ∧
     ((b = b) ∧
     ((ts = ts) ∧
     (((((List.length ts) : Nat) : Int) = (((List.length ts) : Nat) : Int)) ∧
     ((((((Prod.fst x) : Nat) : Int) + (1 : Int)) = (((Prod.fst y) : Nat) : Int)) ∧
     ((k = k) ∧
     ((n = n) ∧
     ((ts = ts) ∧
     (((Max.max (Prod.snd x) (mfL (T.vs (b + (und k (((Prod.fst x) : Nat) : Int))) (T.mk (T.k (List.getD ts (Int.toNat (((Prod.fst x) : Nat) : Int)) default)) (T.n (List.getD ts (Int.toNat (((Prod.fst x) : Nat) : Int)) default)) (T.kids (List.getD ts (Int.toNat (((Prod.fst x) : Nat) : Int)) default)))))) = (Prod.snd y)) ∧
     ((Nat.succ ((List.length ts) - (Prod.fst y))) ≤ ((List.length ts) - (Prod.fst x)))))))))))))))))))))
     (Ret K (.tup []) [(.int .i64 (Prod.snd x))])))))))
     ((∃ x : (Prod Nat Int),
     ((((Prod.fst x) ≤ (List.length ts)) ∧
     (((0 : Int) ≤ (Prod.snd x)) ∧ ((Max.max (Prod.snd x) (mfL (vsL b k (Prod.fst x) (List.drop (Prod.fst x) ts)))) = (Max.max c (mfL (T.vs b (T.mk k n ts))))))) ∧
     ((b = b) ∧
     ((ts = ts) ∧
     (((((List.length ts) : Nat) : Int) = (((List.length ts) : Nat) : Int)) ∧
     (((0 : Int) = (((Prod.fst x) : Nat) : Int)) ∧ ((k = k) ∧ ((n = n) ∧ ((ts = ts) ∧ ((c = (Prod.snd x)) ∧ True)))))))))) ∧
     (∀ x : (Prod Nat Int),
     ((((Prod.fst x) ≤ (List.length ts)) ∧ (((0 : Int) ≤ (Prod.snd x)) ∧ ((Max.max (Prod.snd x) (mfL (vsL b k (Prod.fst x) (List.drop (Prod.fst x) ts)))) = (Max.max c (mfL (T.vs b (T.mk k n ts))))))) →
     (Br (Decidable.decide ((((Prod.fst x) : Nat) : Int) < (((List.length ts) : Nat) : Int)))
     ((((0 : Int) ≤ (((Prod.fst x) : Nat) : Int)) ∧ ((((Prod.fst x) : Nat) : Int) < (((List.length ts) : Nat) : Int))) ∧
     (True ∧
     (((T.k (List.getD ts (Int.toNat (((Prod.fst x) : Nat) : Int)) default)) = (T.k (List.getD ts (Int.toNat (((Prod.fst x) : Nat) : Int)) default))) ∧
     (((T.n (List.getD ts (Int.toNat (((Prod.fst x) : Nat) : Int)) default)) = (T.n (List.getD ts (Int.toNat (((Prod.fst x) : Nat) : Int)) default))) ∧
     (((T.kids (List.getD ts (Int.toNat (((Prod.fst x) : Nat) : Int)) default)) = (T.kids (List.getD ts (Int.toNat (((Prod.fst x) : Nat) : Int)) default))) ∧
     ((InR (b + (und k (((Prod.fst x) : Nat) : Int)))) ∧
     ((((T.size (T.mk (T.k (List.getD ts (Int.toNat (((Prod.fst x) : Nat) : Int)) default)) (T.n (List.getD ts (Int.toNat (((Prod.fst x) : Nat) : Int)) default)) (T.kids (List.getD ts (Int.toNat (((Prod.fst x) : Nat) : Int)) default)))) < m) ∧
     ((∃ d : Int,
     (((T.shp (T.mk (T.k (List.getD ts (Int.toNat (((Prod.fst x) : Nat) : Int)) default)) (T.n (List.getD ts (Int.toNat (((Prod.fst x) : Nat) : Int)) default)) (T.kids (List.getD ts (Int.toNat (((Prod.fst x) : Nat) : Int)) default))) d) = true) ∧
     (((0 : Int) ≤ (b + (und k (((Prod.fst x) : Nat) : Int)))) ∧ (((b + (und k (((Prod.fst x) : Nat) : Int))) + d) ≤ (60 : Int))))) ∧
     ((0 : Int) ≤ (Prod.snd x)))) ∧
     ((InR ((((Prod.fst x) : Nat) : Int) + (1 : Int))) ∧
     (∃ y : (Prod Nat Int),
     ((((Prod.fst y) ≤ (List.length ts)) ∧
     (((0 : Int) ≤ (Prod.snd y)) ∧ ((Max.max (Prod.snd y) (mfL (vsL b k (Prod.fst y) (List.drop (Prod.fst y) ts)))) = (Max.max c (mfL (T.vs b (T.mk k n ts))))))) ∧
     ((b = b) ∧
     ((ts = ts) ∧
     (((((List.length ts) : Nat) : Int) = (((List.length ts) : Nat) : Int)) ∧
     ((((((Prod.fst x) : Nat) : Int) + (1 : Int)) = (((Prod.fst y) : Nat) : Int)) ∧
     ((k = k) ∧
     ((n = n) ∧
     ((ts = ts) ∧
     (((Max.max (Prod.snd x) (mfL (T.vs (b + (und k (((Prod.fst x) : Nat) : Int))) (T.mk (T.k (List.getD ts (Int.toNat (((Prod.fst x) : Nat) : Int)) default)) (T.n (List.getD ts (Int.toNat (((Prod.fst x) : Nat) : Int)) default)) (T.kids (List.getD ts (Int.toNat (((Prod.fst x) : Nat) : Int)) default)))))) = (Prod.snd y)) ∧
     ((Nat.succ ((List.length ts) - (Prod.fst y))) ≤ ((List.length ts) - (Prod.fst x)))))))))))))))))))))
     (Ret K (.tup []) [(.int .i64 (Prod.snd x))]))))))
     ((∃ x : (Prod Nat Int),
     ((((Prod.fst x) ≤ (List.length ts)) ∧
     (((0 : Int) ≤ (Prod.snd x)) ∧ ((Max.max (Prod.snd x) (mfL (vsL b k (Prod.fst x) (List.drop (Prod.fst x) ts)))) = (Max.max c (mfL (T.vs b (T.mk k n ts))))))) ∧
     ((b = b) ∧
     ((ts = ts) ∧
     (((((List.length ts) : Nat) : Int) = (((List.length ts) : Nat) : Int)) ∧
     (((0 : Int) = (((Prod.fst x) : Nat) : Int)) ∧ ((k = k) ∧ ((n = n) ∧ ((ts = ts) ∧ ((c = (Prod.snd x)) ∧ True)))))))))) ∧
     (∀ x : (Prod Nat Int),
     ((((Prod.fst x) ≤ (List.length ts)) ∧ (((0 : Int) ≤ (Prod.snd x)) ∧ ((Max.max (Prod.snd x) (mfL (vsL b k (Prod.fst x) (List.drop (Prod.fst x) ts)))) = (Max.max c (mfL (T.vs b (T.mk k n ts))))))) →
     (Br (Decidable.decide ((((Prod.fst x) : Nat) : Int) < (((List.length ts) : Nat) : Int)))
     ((((0 : Int) ≤ (((Prod.fst x) : Nat) : Int)) ∧ ((((Prod.fst x) : Nat) : Int) < (((List.length ts) : Nat) : Int))) ∧
     (True ∧
     (((T.k (List.getD ts (Int.toNat (((Prod.fst x) : Nat) : Int)) default)) = (T.k (List.getD ts (Int.toNat (((Prod.fst x) : Nat) : Int)) default))) ∧
     (((T.n (List.getD ts (Int.toNat (((Prod.fst x) : Nat) : Int)) default)) = (T.n (List.getD ts (Int.toNat (((Prod.fst x) : Nat) : Int)) default))) ∧
     (((T.kids (List.getD ts (Int.toNat (((Prod.fst x) : Nat) : Int)) default)) = (T.kids (List.getD ts (Int.toNat (((Prod.fst x) : Nat) : Int)) default))) ∧
     ((InR (b + (und k (((Prod.fst x) : Nat) : Int)))) ∧
     ((((T.size (T.mk (T.k (List.getD ts (Int.toNat (((Prod.fst x) : Nat) : Int)) default)) (T.n (List.getD ts (Int.toNat (((Prod.fst x) : Nat) : Int)) default)) (T.kids (List.getD ts (Int.toNat (((Prod.fst x) : Nat) : Int)) default)))) < m) ∧
     ((∃ d : Int,
     (((T.shp (T.mk (T.k (List.getD ts (Int.toNat (((Prod.fst x) : Nat) : Int)) default)) (T.n (List.getD ts (Int.toNat (((Prod.fst x) : Nat) : Int)) default)) (T.kids (List.getD ts (Int.toNat (((Prod.fst x) : Nat) : Int)) default))) d) = true) ∧
     (((0 : Int) ≤ (b + (und k (((Prod.fst x) : Nat) : Int)))) ∧ (((b + (und k (((Prod.fst x) : Nat) : Int))) + d) ≤ (60 : Int))))) ∧
     ((0 : Int) ≤ (Prod.snd x)))) ∧
     ((InR ((((Prod.fst x) : Nat) : Int) + (1 : Int))) ∧
     (∃ y : (Prod Nat Int),
     ((((Prod.fst y) ≤ (List.length ts)) ∧
     (((0 : Int) ≤ (Prod.snd y)) ∧ ((Max.max (Prod.snd y) (mfL (vsL b k (Prod.fst y) (List.drop (Prod.fst y) ts)))) = (Max.max c (mfL (T.vs b (T.mk k n ts))))))) ∧
     ((b = b) ∧
     ((ts = ts) ∧
     (((((List.length ts) : Nat) : Int) = (((List.length ts) : Nat) : Int)) ∧
     ((((((Prod.fst x) : Nat) : Int) + (1 : Int)) = (((Prod.fst y) : Nat) : Int)) ∧
     ((k = k) ∧
     ((n = n) ∧
     ((ts = ts) ∧
     (((Max.max (Prod.snd x) (mfL (T.vs (b + (und k (((Prod.fst x) : Nat) : Int))) (T.mk (T.k (List.getD ts (Int.toNat (((Prod.fst x) : Nat) : Int)) default)) (T.n (List.getD ts (Int.toNat (((Prod.fst x) : Nat) : Int)) default)) (T.kids (List.getD ts (Int.toNat (((Prod.fst x) : Nat) : Int)) default)))))) = (Prod.snd y)) ∧
     ((Nat.succ ((List.length ts) - (Prod.fst y))) ≤ ((List.length ts) - (Prod.fst x)))))))))))))))))))))
     (Ret K (.tup []) [(.int .i64 (Prod.snd x))]))))))) ?_ (by kernel_rfl)
  obtain ⟨⟨d, hd, hb, hbd⟩, hc⟩ := hp
  have hd1 := T.shp_pos hd
  have hsh := T.shp_kids hd
  have hm' : 1 + sizeL ts < m + 1 := hm
  have hll := length_le_sizeL ts
  have hr := T.shp_root hd
  have har2 := (arity_range k).2
  have e1 : k = 1 → vsL b k 0 ts = [] ∧ (T.mk k n ts).vs b = [(b, n)] ∧ 0 ≤ n ∧ n ≤ 20 := fun e => by
    subst e
    rw [show mostN 1 = 20 from rfl] at hr
    exact ⟨by rw [T.shp_var hd]; rfl, T.vs_var, hr.2⟩
  have e2 : k ≠ 1 → (T.mk k n ts).vs b = vsL b k 0 ts := T.vs_node
  generalize hV : (T.mk k n ts).vs b = V at *
  refine br (fun g => br (fun g2 => ⟨?_, ?_, ⟨(0, _), ⟨?i1, ?i2, ?i4⟩, (by repeat' first | trivial | rfl | (simp; done) | apply And.intro)⟩, fun x hx => ?l1⟩) (fun g2 => ⟨⟨(0, c), ⟨?j1, ?j2, ?j4⟩, (by repeat' first | trivial | rfl | (simp; done) | apply And.intro)⟩, fun x hx => ?l2⟩)) (fun g => ⟨⟨(0, c), ⟨?k1, ?k2, ?k4⟩, (by repeat' first | trivial | rfl | (simp; done) | apply And.intro)⟩, fun x hx => ?l3⟩)
  case i1 | j1 | k1 => exact Nat.zero_le _
  case j2 | k2 => exact hc
  case l1 | l2 | l3 =>
    obtain ⟨i, q⟩ := x
    obtain ⟨g1, g2, g4⟩ := hx
    simp only at g1 g2 g4
    refine br (fun h => ?_) (fun h => ?_)
    · have h := of_decide_eq_true h
      simp only at h
      have hi : i < ts.length := by omega
      have hmem := getD_mem hi
      have hs := sizeL_mem hmem
      have hu := und_range k i
      rw [drop_getD hi] at g4
      simp only [vsL, mfL_append] at g4
      simp only [Int.toNat_natCast, T.eta]
      refine ⟨⟨by omega, by omega⟩, (by first | trivial | rfl | (simp; done)), (by first | trivial | rfl | (simp; done)), (by first | trivial | rfl | (simp; done)), (by first | trivial | rfl | (simp; done)), by unfold InR; omega, ⟨by omega, ⟨d - 1, shpL_mem hsh hmem, by omega, by omega⟩, by omega⟩, by unfold InR; omega, (i + 1, max q (mfL ((ts.getD i default).vs (b + und k i)))), ⟨by show i + 1 ≤ _; omega, by show 0 ≤ max q _; omega, ?_⟩, (by repeat' first | trivial | rfl | (simp; done) | (dsimp only; omega) | omega | apply And.intro)⟩
      show max (max q (mfL _)) (mfL (vsL b k (i + 1) (ts.drop (i + 1)))) = _; omega
    · have h := of_decide_eq_false h
      simp only at h
      have hi : ¬ i < ts.length := by omega
      rw [drop_len hi] at g4
      simp only [vsL, mfL] at g4
      rw [← g4] at hk
      exact fin hk (by repeat' first | trivial | rfl | (simp; done) | apply And.intro) ⟨⟨rfl, by omega⟩, trivial⟩
  case k4 => show max c (mfL (vsL b k 0 ts)) = max c (mfL V); rw [e2 (of_decide_eq_false g)]
  case j4 =>
    have g2 := of_decide_eq_false g2
    obtain ⟨h1, h2, -⟩ := e1 (of_decide_eq_true g)
    show max c (mfL (vsL b k 0 ts)) = max c (mfL V)
    rw [h1, h2]; simp only [mfL]; rw [if_neg (by show ¬ b ≤ n; omega)]; rfl
  case i4 =>
    have g2 := of_decide_eq_true g2
    obtain ⟨h1, h2, -⟩ := e1 (of_decide_eq_true g)
    show max (max c (n - b + 1)) (mfL (vsL b k 0 ts)) = max c (mfL V)
    rw [h1, h2]; simp only [mfL]; rw [if_pos (by show b ≤ n; omega)]; omega
  case i2 => show 0 ≤ max c _; omega
  · have := e1 (of_decide_eq_true g); unfold InR; omega
  · have := e1 (of_decide_eq_true g); have := of_decide_eq_true g2; omega
theorem frMax_soundM : ∀ m : Nat, Sound Try.prog 48 (cfrMaxM m)
  | 0 => by
      refine soundF (G := []) gnil Try.func48 rfl (by kernel_rfl) fun args hs K hCC => ?_
      unfold cfrMaxM at hCC
      split at hCC
      case h_2 => exact hCC.elim
      exact absurd hCC.1.1 (Nat.not_lt_zero _)
  | m + 1 => by
      refine soundF (G := [(48, cfrMaxM m), (51, cUnder), (49, cmaxC)]) ((gcons (frMax_soundM m) (gcons Under_sound (gcons maxC_sound gnil)))) Try.func48 rfl (by kernel_rfl) fun args hs K hCC => ?_
      unfold cfrMaxM at hCC
      split at hCC
      case h_2 => exact hCC.elim
      rename_i k n ts b c
      exact ⟨Nat.le_of_ble_eq_true rfl, _, frMax_ok m k n ts b c K hCC.1.1 hCC.1.2 hCC.2⟩
theorem frMax_sound : Sound Try.prog 48 cfrMax := by
  refine sound_of_all (c := cfrMaxM) (fun m => (frMax_soundM m)) fun args hs K hCC => ?_
  unfold cfrMax at hCC
  split at hCC
  case h_2 => exact hCC.elim
  exact ⟨_, ⟨Nat.lt_succ_self _, hCC.1⟩, hCC.2⟩
/-- What CountVar answers. -/
def T.cv (t : T) (j : Int) : Int := if t.valid = true ∧ 0 ≤ j ∧ j ≤ 20 then cnL j (t.vs 0) else 0
/-- impl.maxFree -/
def cmaxFree : Con
  | [.st [.int .i64 k, .int .i64 n, .slc ts (.arg 0)]], [], K => (((T.mk k n ts).valid = true)) ∧ ((K (.int .i64 (mfL ((T.mk k n ts).vs 0))) []))
  | _, _, _ => False
theorem maxFree_ok (k n : Int) (ts : List T) (K : AV → List AV → Prop) (hp : (((T.mk k n ts).valid = true))) (hk : ((K (.int .i64 (mfL ((T.mk k n ts).vs 0))) []))) :
    bodyQ [(48, cfrMax)] TY [] Try.f24 (body Try.f24) [.st [.int .i64 k, .int .i64 n, .slc ts (.arg 0)]] [] K := by
  refine of_vc (A :=
    (((∃ d : Int, (((T.shp (T.mk k n ts) d) = true) ∧ (((0 : Int) ≤ (0 : Int)) ∧ (((0 : Int) + d) ≤ (60 : Int))))) ∧ ((0 : Int) ≤ (0 : Int))) ∧
     (Ret K (.int .i64 (Max.max (0 : Int) (mfL (T.vs (0 : Int) (T.mk k n ts))))) []))) ?_ (by kernel_rfl)
  refine ⟨⟨⟨30, T.valid_shp hp, by omega, by omega⟩, by omega⟩, retI hk ?_⟩
  have := mfL_nonneg ((T.mk k n ts).vs 0); omega
theorem maxFree_sound : Sound Try.prog 24 cmaxFree := by
  refine soundF (G := [(48, cfrMax)]) ((gcons frMax_sound gnil)) Try.func24 rfl (by kernel_rfl) fun args hs K hCC => ?_
  unfold cmaxFree at hCC
  split at hCC
  case h_2 => exact hCC.elim
  rename_i k n ts
  exact ⟨Nat.le_of_ble_eq_true rfl, _, maxFree_ok k n ts K hCC.1 hCC.2⟩
def T.mf (t : T) : Int := if t.valid = true then mfL (t.vs 0) else -1
/-- What ShiftTerm answers. -/
def T.ShO (t : T) (y c : Int) : Bool := t.valid && (decide (-20 ≤ y ∧ y ≤ 20 ∧ 0 ≤ c ∧ c ≤ 20) && t.shO y c)
def T.ShR (t : T) (y c : Int) : T := if t.ShO y c = true then t.mv (shf y c) 0 else .mk 0 0 []
/-- What SubstTerm answers. -/
def T.SbO (t : T) (j : Int) (u : T) : Bool := t.valid && (u.valid && (decide (0 ≤ j ∧ j ≤ 20) && t.sbO j u))
def T.SbR (t : T) (j : Int) (u : T) : T := if t.SbO j u = true then t.mv (sbfI j u) 0 else .mk 0 0 []
/-- impl.RenameTerm$1 -/
def cnameC : Con
  | [.int .i64 (n)], [], K => True ∧ ((K (.bool (!decide (0 ≤ n ∧ n ≤ 20))) []))
  | _, _, _ => False
theorem nameC_ok (n : Int) (K : AV → List AV → Prop) (hp : True) (hk : ((K (.bool (!decide (0 ≤ n ∧ n ≤ 20))) []))) :
    bodyQ [(27, cWithin)] TY [] Try.f26 (body Try.f26) [.int .i64 (n)] [] K := by
  refine of_vc (A :=
    (True ∧ (Ret K (.bool (Bool.not (Decidable.decide (((0 : Int) ≤ n) ∧ (n ≤ (20 : Int)))))) []))) ?_ (by kernel_rfl)
  exact ⟨trivial, retB hk rfl⟩
theorem nameC_sound : Sound Try.prog 26 cnameC := by
  refine soundF (G := [(27, cWithin)]) ((gcons Within_sound gnil)) Try.func26 rfl (by kernel_rfl) fun args hs K hCC => ?_
  unfold cnameC at hCC
  split at hCC
  case h_2 => exact hCC.elim
  rename_i n
  exact ⟨Nat.le_of_ble_eq_true rfl, _, nameC_ok n K hCC.1 hCC.2⟩
/-- slices.IndexFunc[[]int,int] -/
def cIndexFunc : Con
  | [.ints .i64 ns (.arg 0), .fn 26 []], [], K => ((ns.length ≤ 1000)) ∧ ((∀ r : Int, (0 ≤ r ↔ ¬ ∀ x ∈ ns, 0 ≤ x ∧ x ≤ 20) → K (.int .i64 r) []))
  | _, _, _ => False
theorem IndexFunc_ok (ns : List Int) (K : AV → List AV → Prop) (hp : ((ns.length ≤ 1000))) (hk : ((∀ r : Int, (0 ≤ r ↔ ¬ ∀ x ∈ ns, 0 ≤ x ∧ x ≤ 20) → K (.int .i64 r) []))) :
    bodyQ [(26, cnameC)] TY [(2, { ι := Nat, ok := fun i => i ≤ ns.length ∧ ∀ x ∈ ns.take i, 0 ≤ x ∧ x ≤ 20, tl := fun i => [(0, .ints .i64 ns (.arg 0)), (1, (.fn 26 [])), (6, .ints .i64 ns (.arg 0)), (7, .int .i64 ns.length), (8, .int .i64 i)], hl := fun _ => [], fh := fun _ => [], μ := fun i => ns.length - i })] Try.f50 (body Try.f50) [.ints .i64 ns (.arg 0), .fn 26 []] [] K := by
  refine of_vc (A :=
    ((∃ x : Nat,
     (((x ≤ (List.length ns)) ∧ (∀ x1 : Int, ((Membership.mem (List.take x ns) x1) → (((0 : Int) ≤ x1) ∧ (x1 ≤ (20 : Int)))))) ∧
     ((ns = ns) ∧ ((ns = ns) ∧ (((((List.length ns) : Nat) : Int) = (((List.length ns) : Nat) : Int)) ∧ (((0 : Int) = ((x : Nat) : Int)) ∧ True)))))) ∧
     (∀ x : Nat,
     (((x ≤ (List.length ns)) ∧ (∀ x1 : Int, ((Membership.mem (List.take x ns) x1) → (((0 : Int) ≤ x1) ∧ (x1 ≤ (20 : Int)))))) →
     (Br (Decidable.decide (((x : Nat) : Int) < (((List.length ns) : Nat) : Int)))
     ((((0 : Int) ≤ ((x : Nat) : Int)) ∧ (((x : Nat) : Int) < (((List.length ns) : Nat) : Int))) ∧
     (True ∧
     (Br (Bool.not (Decidable.decide (((0 : Int) ≤ (List.getD ns (Int.toNat ((x : Nat) : Int)) (0 : Int))) ∧ ((List.getD ns (Int.toNat ((x : Nat) : Int)) (0 : Int)) ≤ (20 : Int)))))
     (Ret K (.int .i64 ((x : Nat) : Int)) [])
     ((InR (((x : Nat) : Int) + (1 : Int))) ∧
     (∃ y : Nat,
     (((y ≤ (List.length ns)) ∧ (∀ x1 : Int, ((Membership.mem (List.take y ns) x1) → (((0 : Int) ≤ x1) ∧ (x1 ≤ (20 : Int)))))) ∧
     ((ns = ns) ∧
     ((ns = ns) ∧
     (((((List.length ns) : Nat) : Int) = (((List.length ns) : Nat) : Int)) ∧
     (((((x : Nat) : Int) + (1 : Int)) = ((y : Nat) : Int)) ∧ ((Nat.succ ((List.length ns) - y)) ≤ ((List.length ns) - x))))))))))))
     (Ret K (.int .i64 (- (1 : Int))) [])))))) ?_ (by kernel_rfl)
  refine ⟨⟨0, ⟨Nat.zero_le _, by simp⟩, (by repeat' first | trivial | rfl | (simp; done) | apply And.intro)⟩, ?_⟩
  rintro i ⟨g1, g2⟩
  refine br (fun h => ?_) (fun h => ?_)
  · have h := of_decide_eq_true h
    have hi : i < ns.length := by omega
    have hm : ns.getD i 0 ∈ ns := by rw [List.getD_eq_getElem?_getD, List.getElem?_eq_getElem hi]; exact List.getElem_mem _
    simp only [Int.toNat_natCast]
    refine ⟨⟨by omega, by omega⟩, trivial, br (fun h2 => ?_) (fun h2 => ⟨by unfold InR; omega, i + 1, ⟨by omega, ?_⟩, (by repeat' first | trivial | rfl | (simp; done) | (dsimp only; omega) | omega | apply And.intro)⟩)⟩
    · rw [Bool.not_eq_true', decide_eq_false_iff_not] at h2
      exact retI (hk i ⟨fun _ c => h2 (c _ hm), fun _ => by omega⟩) rfl
    · rw [Bool.not_eq_false', decide_eq_true_eq] at h2
      intro x hx
      rw [List.take_succ_eq_append_getElem hi, List.mem_append] at hx
      rcases hx with hx | hx
      · exact g2 x hx
      · rw [List.getD_eq_getElem?_getD, List.getElem?_eq_getElem hi] at h2
        simp at hx; subst hx; exact h2
  · have h := of_decide_eq_false h
    rw [List.take_of_length_le (by omega)] at g2
    exact retI (hk (-1) ⟨fun c => absurd c (by decide), fun c => absurd g2 c⟩) rfl
theorem IndexFunc_sound : Sound Try.prog 50 cIndexFunc := by
  refine soundF (G := [(26, cnameC)]) ((gcons nameC_sound gnil)) Try.func50 rfl (by kernel_rfl) fun args hs K hCC => ?_
  unfold cIndexFunc at hCC
  split at hCC
  case h_2 => exact hCC.elim
  rename_i ns
  exact ⟨Nat.le_of_ble_eq_true rfl, _, IndexFunc_ok ns K hCC.1 hCC.2⟩
/-- slices.ContainsFunc[[]int,int] -/
def cContainsFunc : Con
  | [.ints .i64 ns (.arg 0), .fn 26 []], [], K => ((ns.length ≤ 1000)) ∧ ((K (.bool (!decide (∀ x ∈ ns, 0 ≤ x ∧ x ≤ 20))) []))
  | _, _, _ => False
theorem ContainsFunc_ok (ns : List Int) (K : AV → List AV → Prop) (hp : ((ns.length ≤ 1000))) (hk : ((K (.bool (!decide (∀ x ∈ ns, 0 ≤ x ∧ x ≤ 20))) []))) :
    bodyQ [(50, cIndexFunc)] TY [] Try.f25 (body Try.f25) [.ints .i64 ns (.arg 0), .fn 26 []] [] K := by
  refine of_vc (A :=
    (((List.length ns) ≤ (1000 : Nat)) ∧
     (∀ r : Int,
     ((((0 : Int) ≤ r) ↔ (¬ (∀ x : Int, ((Membership.mem ns x) → (((0 : Int) ≤ x) ∧ (x ≤ (20 : Int))))))) → (Ret K (.bool (Decidable.decide ((0 : Int) ≤ r))) []))))) ?_ (by kernel_rfl)
  refine ⟨hp, fun r hr => retB hk ?_⟩
  by_cases h : ∀ x ∈ ns, 0 ≤ x ∧ x ≤ 20
  · rw [decide_eq_true h, decide_eq_false (fun c => hr.1 c h)]; rfl
  · rw [decide_eq_false h, decide_eq_true (hr.2 h)]; rfl
theorem ContainsFunc_sound : Sound Try.prog 25 cContainsFunc := by
  refine soundF (G := [(50, cIndexFunc)]) ((gcons IndexFunc_sound gnil)) Try.func25 rfl (by kernel_rfl) fun args hs K hCC => ?_
  unfold cContainsFunc at hCC
  split at hCC
  case h_2 => exact hCC.elim
  rename_i ns
  exact ⟨Nat.le_of_ble_eq_true rfl, _, ContainsFunc_ok ns K hCC.1 hCC.2⟩
/-- What RenameTerm answers. -/
def T.RnO (t : T) (ns : List Int) : Bool := t.valid && (decide (ns.length ≤ 21) && (decide (mfL (t.vs 0) ≤ ns.length) && (decide (∀ x ∈ ns, 0 ≤ x ∧ x ≤ 20) && (t.mv (rnf ns) 0).valid)))
def T.RnR (t : T) (ns : List Int) : T := if t.RnO ns = true then t.mv (rnf ns) 0 else .mk 0 0 []
/-- impl.RenameTerm -/
def cRenameTerm : Con
  | [.st [.int .i64 k, .int .i64 n, .slc ts (.arg 0)], .ints .i64 ns (.arg 1)], [], K => True ∧ ((K (.tup [((T.mk k n ts).RnR ns).fr, .bool ((T.mk k n ts).RnO ns)]) []))
  | _, _, _ => False
theorem RenameTerm_ok (k n : Int) (ts : List T) (ns : List Int) (K : AV → List AV → Prop) (hp : True) (hk : ((K (.tup [((T.mk k n ts).RnR ns).fr, .bool ((T.mk k n ts).RnO ns)]) []))) :
    bodyQ [(14, cTermValid), (24, cmaxFree), (25, cContainsFunc), (29, cchRename), (28, cValid)] TY [] Try.f7 (body Try.f7) [.st [.int .i64 k, .int .i64 n, .slc ts (.arg 0)], .ints .i64 ns (.arg 1)] [] K := by
  refine of_vc (A :=
    (True ∧
     (Br (Bool.not (T.valid (T.mk k n ts)))
     (Ret K (.tup [(.st [(.int .i64 0), (.int .i64 0), (.slc [] (.iv 0 0 true .full))]), (.bool false)]) [])
     (Br (Decidable.decide ((21 : Int) < (((List.length ns) : Nat) : Int)))
     (Ret K (.tup [(.st [(.int .i64 0), (.int .i64 0), (.slc [] (.iv 0 0 true .full))]), (.bool false)]) [])
     (((T.valid (T.mk k n ts)) = true) ∧
     ((ns = ns) ∧
     (Br (Decidable.decide ((((List.length ns) : Nat) : Int) < (mfL (T.vs (0 : Int) (T.mk k n ts)))))
     (Ret K (.tup [(.st [(.int .i64 0), (.int .i64 0), (.slc [] (.iv 0 0 true .full))]), (.bool false)]) [])
     (((List.length ns) ≤ (1000 : Nat)) ∧
     (Br (Bool.not (Decidable.decide (∀ x : Int, ((Membership.mem ns x) → (((0 : Int) ≤ x) ∧ (x ≤ (20 : Int)))))))
     (Ret K (.tup [(.st [(.int .i64 0), (.int .i64 0), (.slc [] (.iv 0 0 true .full))]), (.bool false)]) [])
     (((∃ d : Int, (((T.shp (T.mk k n ts) d) = true) ∧ (((0 : Int) ≤ (0 : Int)) ∧ (((0 : Int) + d) ≤ (60 : Int))))) ∧
     ((∀ x : Int, ((Membership.mem ns x) → (((0 : Int) ≤ x) ∧ (x ≤ (20 : Int))))) ∧
     (∀ p : (Prod Int Int), ((Membership.mem (T.vs (0 : Int) (T.mk k n ts)) p) → (((Prod.snd p) - (Prod.fst p)) < (((List.length ns) : Nat) : Int)))))) ∧
     (True ∧
     ((((T.valid (T.mk (T.k (T.mv (rnf ns) (0 : Int) (T.mk k n ts))) (T.n (T.mv (rnf ns) (0 : Int) (T.mk k n ts))) (T.kids (T.mv (rnf ns) (0 : Int) (T.mk k n ts))))) = true) →
     (Ret K (.tup [(.st [(.int .i64 (T.k (T.mv (rnf ns) (0 : Int) (T.mk k n ts)))), (.int .i64 (T.n (T.mv (rnf ns) (0 : Int) (T.mk k n ts)))), (.slc (T.kids (T.mv (rnf ns) (0 : Int) (T.mk k n ts))) (.iv 4 4 true (.tok 0)))]), (.bool true)]) [])) ∧
     (((T.valid (T.mk (T.k (T.mv (rnf ns) (0 : Int) (T.mk k n ts))) (T.n (T.mv (rnf ns) (0 : Int) (T.mk k n ts))) (T.kids (T.mv (rnf ns) (0 : Int) (T.mk k n ts))))) = false) →
     (Ret K (.tup [(.st [(.int .i64 0), (.int .i64 0), (.slc [] (.iv 4 4 true (.tok 0)))]), (.bool false)]) [])))))))))))))) ?_ (by kernel_rfl)
  have bad : (T.mk k n ts).RnO ns = false → Ret K (.tup [(.st [(.int .i64 (0 : Int)), (.int .i64 (0 : Int)), (.slc ([] : List T) (.iv (0 : Nat) (0 : Nat) true .full))]), (.bool false)]) [] := by
    intro e
    unfold T.RnR at hk
    rw [e, if_neg (by simp)] at hk
    exact fin hk (by repeat' first | trivial | rfl | (simp; done) | apply And.intro) (by repeat' first | trivial | rfl | (simp; done) | apply And.intro)
  refine ⟨trivial, br (fun g => bad ?_) (fun g => br (fun g2 => bad ?_) (fun g2 => ⟨by simpa using g, rfl, br (fun g3 => bad ?_) (fun g3 => ⟨?_, br (fun g4 => bad ?_) (fun g4 => ⟨⟨⟨30, T.valid_shp (by simpa using g), by omega, by omega⟩, by simpa using g4, ?_⟩, trivial, fun g5 => ?_, fun g5 => ?_⟩)⟩)⟩))⟩
  · unfold T.RnO; rw [Bool.not_eq_true'] at g; rw [g]; rfl
  · have g2 := of_decide_eq_true g2
    unfold T.RnO; rw [decide_eq_false (p := ns.length ≤ 21) (by omega)]; simp
  · have g3 := of_decide_eq_true g3
    unfold T.RnO; rw [decide_eq_false (p := mfL _ ≤ _) (by omega)]; simp
  · have g2 := of_decide_eq_false g2; omega
  · unfold T.RnO; rw [Bool.not_eq_true'] at g4; rw [g4]; simp
  · intro p hp
    have := mfL_mem hp
    have g3 := of_decide_eq_false g3
    omega
  · have g : (T.mk k n ts).valid = true := by simpa using g
    have g2 := of_decide_eq_false g2
    have g3 := of_decide_eq_false g3
    rw [Bool.not_eq_false'] at g4
    rw [T.eta] at g5
    have e : (T.mk k n ts).RnO ns = true := by unfold T.RnO; rw [g, decide_eq_true (p := ns.length ≤ 21) (by omega), decide_eq_true (p := mfL _ ≤ _) (by omega), g4, g5]; rfl
    unfold T.RnR at hk
    rw [e, if_pos rfl] at hk
    exact fin hk (by repeat' first | trivial | rfl | (simp; done) | apply And.intro) (by repeat' first | trivial | rfl | (simp; done) | apply And.intro)
  · rw [T.eta] at g5
    have e : (T.mk k n ts).RnO ns = false := by unfold T.RnO; rw [g5]; simp
    unfold T.RnR at hk
    rw [e, if_neg (by simp)] at hk
    exact fin hk (by repeat' first | trivial | rfl | (simp; done) | apply And.intro) (by repeat' first | trivial | rfl | (simp; done) | apply And.intro)
theorem RenameTerm_sound : Sound Try.prog 7 cRenameTerm := by
  refine soundF (G := [(14, cTermValid), (24, cmaxFree), (25, cContainsFunc), (29, cchRename), (28, cValid)]) ((gcons TermValid_sound (gcons maxFree_sound (gcons ContainsFunc_sound (gcons chRename_sound (gcons Valid_sound gnil)))))) Try.func7 rfl (by kernel_rfl) fun args hs K hCC => ?_
  unfold cRenameTerm at hCC
  split at hCC
  case h_2 => exact hCC.elim
  rename_i k n ts ns
  exact ⟨Nat.le_of_ble_eq_true rfl, _, RenameTerm_ok k n ts ns K hCC.1 hCC.2⟩
end Go.Dk
