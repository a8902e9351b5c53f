/- Texts: the program's writer. -/
import Derived.Test.YteamklllllembaaDoorSs
import Derived.Test.YteamklllllembaaDoorTi
namespace Go.Dk
set_option linter.unusedVariables false
set_option linter.unusedSimpArgs false
open Go.Proofs
theorem retSs {K : AV → List AV → Prop} {a a' : List (List UInt8)} (hk : K (.strs a') []) (ha : a = a') : Ret K (.strs a) [] := fin hk ha True.intro
/-- impl.shapes -/
def ciShapes : Con
  | [], [], K => True ∧ ((∀ ss : List (List UInt8), IsShapes ss → K (.strs ss) []))
  | _, _, _ => False
theorem iShapes_ok  (K : AV → List AV → Prop) (hp : True) (hk : ((∀ ss : List (List UInt8), IsShapes ss → K (.strs ss) []))) :
    bodyQ [] TY [] Tryd.f53 (body Tryd.f53) [] [] K := by
  refine of_vc (A :=
    (Ret K (.strs [[(35 : UInt8)], [(42 : UInt8)], [(40 : UInt8), (46 : UInt8), (62 : UInt8), (46 : UInt8), (41 : UInt8)], [(91 : UInt8), (46 : UInt8), (93 : UInt8), (46 : UInt8)], [(40 : UInt8), (46 : UInt8), (32 : UInt8), (46 : UInt8), (41 : UInt8)], [(78 : UInt8)], [(48 : UInt8)], [(43 : UInt8), (46 : UInt8)], [(60 : UInt8), (46 : UInt8), (44 : UInt8), (46 : UInt8), (44 : UInt8), (46 : UInt8), (44 : UInt8), (46 : UInt8), (62 : UInt8)], [(123 : UInt8), (46 : UInt8), (44 : UInt8), (46 : UInt8), (44 : UInt8), (46 : UInt8), (125 : UInt8)], [(33 : UInt8), (46 : UInt8)], [(64 : UInt8), (60 : UInt8), (46 : UInt8), (44 : UInt8), (46 : UInt8), (44 : UInt8), (46 : UInt8), (62 : UInt8)], [(40 : UInt8), (46 : UInt8), (42 : UInt8), (46 : UInt8), (41 : UInt8)], [(124 : UInt8), (46 : UInt8), (44 : UInt8), (46 : UInt8), (44 : UInt8), (46 : UInt8), (124 : UInt8)], [(94 : UInt8), (46 : UInt8)], [(95 : UInt8), (46 : UInt8)]]) [])) ?_ (by kernel_rfl)
  exact retSs (hk _ rfl) rfl
theorem iShapes_sound : Sound Tryd.prog 53 ciShapes := by
  refine soundF (G := []) (gnil) Tryd.func53 rfl (by kernel_rfl) fun args hs K hCC => ?_
  unfold ciShapes at hCC
  split at hCC
  case h_2 => exact hCC.elim
  exact ⟨Nat.le_of_ble_eq_true rfl, _, iShapes_ok  K hCC.1 hCC.2⟩
/-- impl.termText -/
def ciTextM (m : Nat) : Con
  | [.st [.int .i64 k, .int .i64 n, .slc ts (.arg 0)]], [], K => (((T.mk k n ts).size) < m ∧ (((∃ d, (T.mk k n ts).shp d = true) ∧ (T.mk k n ts).size ≤ 400))) ∧ ((K (.str (T.mk k n ts).text) []))
  | _, _, _ => False
def ciText : Con
  | [.st [.int .i64 k, .int .i64 n, .slc ts (.arg 0)]], [], K => (((∃ d, (T.mk k n ts).shp d = true) ∧ (T.mk k n ts).size ≤ 400)) ∧ ((K (.str (T.mk k n ts).text) []))
  | _, _, _ => False
theorem iText_ok (m : Nat) (k n : Int) (ts : List T) (K : AV → List AV → Prop) (hm : ((T.mk k n ts).size) < m + 1) (hp : (((∃ d, (T.mk k n ts).shp d = true) ∧ (T.mk k n ts).size ≤ 400))) (hk : ((K (.str (T.mk k n ts).text) []))) :
    bodyQ [(27, ciTextM m), (53, ciShapes), (55, cItoa), (52, cSplit)] TY [(7, { ι := Nat × List UInt8 × List (List UInt8), ok := fun x => x.1 ≤ ts.length ∧ x.2.2 = seps k ∧ x.2.1 ++ textL ((seps k).drop (x.1 + 1)) (ts.drop x.1) = (T.mk k n ts).text, tl := fun x => [(4, .strs x.2.2), (5, .str x.2.1), (33, .slc ts (.arg 0)), (34, .int .i64 ts.length), (35, .int .i64 x.1)], hl := fun _ => [], fh := fun _ => [], μ := fun x => ts.length - x.1 })] Tryd.f27 (body Tryd.f27) [.st [.int .i64 k, .int .i64 n, .slc ts (.arg 0)]] [] K := by
  refine of_vc (A :=
    ((InR (k - (1 : Int))) ∧
     (True ∧
     (∀ ss : (List (List UInt8)),
     ((IsShapes ss) →
     ((k = k) ∧
     ((((0 : Int) ≤ (k - (1 : Int))) ∧ ((k - (1 : Int)) < (((List.length ss) : Nat) : Int))) ∧
     (Br (Decidable.decide (k = (1 : Int)))
     ((((0 : Int) ≤ n) ∧ (n ≤ (99 : Int))) ∧
     ((((((List.length (List.getD ss (Int.toNat (k - (1 : Int))) ([] : List UInt8))) : Nat) : Int) + (((List.length (decD n)) : Nat) : Int)) ≤ (1099511627776 : Int)) ∧
     (Ret K (.str ((List.getD ss (Int.toNat (k - (1 : Int))) ([] : List UInt8)) ++ (decD n))) [])))
     (Br (Decidable.decide (k = (2 : Int)))
     ((((0 : Int) ≤ n) ∧ (n ≤ (99 : Int))) ∧
     ((((((List.length (List.getD ss (Int.toNat (k - (1 : Int))) ([] : List UInt8))) : Nat) : Int) + (((List.length (decD n)) : Nat) : Int)) ≤ (1099511627776 : Int)) ∧
     (Ret K (.str ((List.getD ss (Int.toNat (k - (1 : Int))) ([] : List UInt8)) ++ (decD n))) [])))
     (((∃ i : Nat, (IsShape i (List.getD ss (Int.toNat (k - (1 : Int))) ([] : List UInt8)))) ∧ ([(46 : UInt8)] = [(46 : UInt8)])) ∧
     (∀ ps : (List (List UInt8)),
     ((∀ i : Nat, (((2 : Nat) ≤ i) → ((IsShape i (List.getD ss (Int.toNat (k - (1 : Int))) ([] : List UInt8))) → (ps = (seps (((i : Nat) : Int) + (1 : Int))))))) →
     ((((0 : Int) ≤ (0 : Int)) ∧ ((0 : Int) < (((List.length ps) : Nat) : Int))) ∧
     ((∃ x : (Prod Nat (Prod (List UInt8) (List (List UInt8)))),
     ((((Prod.fst x) ≤ (List.length ts)) ∧
     (((Prod.snd (Prod.snd x)) = (seps k)) ∧
     (((Prod.fst (Prod.snd x)) ++ (textL (List.drop ((Prod.fst x) + (1 : Nat)) (seps k)) (List.drop (Prod.fst x) ts))) = (T.text (T.mk k n ts))))) ∧
     ((ps = (Prod.snd (Prod.snd x))) ∧
     (((List.getD ps (0 : Nat) ([] : List UInt8)) = (Prod.fst (Prod.snd x))) ∧
     ((ts = ts) ∧ (((((List.length ts) : Nat) : Int) = (((List.length ts) : Nat) : Int)) ∧ (((0 : Int) = (((Prod.fst x) : Nat) : Int)) ∧ True))))))) ∧
     (∀ x : (Prod Nat (Prod (List UInt8) (List (List UInt8)))),
     ((((Prod.fst x) ≤ (List.length ts)) ∧ (((Prod.snd (Prod.snd x)) = (seps k)) ∧ (((Prod.fst (Prod.snd x)) ++ (textL (List.drop ((Prod.fst x) + (1 : Nat)) (seps k)) (List.drop (Prod.fst x) ts))) = (T.text (T.mk k n ts))))) →
     (Br (Decidable.decide ((((Prod.fst x) : Nat) : Int) < (((List.length ts) : Nat) : Int)))
     ((((0 : Int) ≤ (((Prod.fst x) : Nat) : Int)) ∧ ((((Prod.fst x) : Nat) : Int) < (((List.length ts) : Nat) : Int))) ∧
     ((InR ((((Prod.fst x) : Nat) : Int) + (1 : Int))) ∧
     ((((0 : Int) ≤ ((((Prod.fst x) : Nat) : Int) + (1 : Int))) ∧
     (((((Prod.fst x) : Nat) : Int) + (1 : Int)) < (((List.length (Prod.snd (Prod.snd x))) : Nat) : Int))) ∧
     ((((T.size (T.mk (T.k (List.getD ts (Int.toNat (((Prod.fst x) : Nat) : Int)) default)) (T.n (List.getD ts (Int.toNat (((Prod.fst x) : Nat) : Int)) default)) (T.kids (List.getD ts (Int.toNat (((Prod.fst x) : Nat) : Int)) default)))) < m) ∧
     ((∃ d : Int,
     ((T.shp (T.mk (T.k (List.getD ts (Int.toNat (((Prod.fst x) : Nat) : Int)) default)) (T.n (List.getD ts (Int.toNat (((Prod.fst x) : Nat) : Int)) default)) (T.kids (List.getD ts (Int.toNat (((Prod.fst x) : Nat) : Int)) default))) d) = true)) ∧
     ((T.size (T.mk (T.k (List.getD ts (Int.toNat (((Prod.fst x) : Nat) : Int)) default)) (T.n (List.getD ts (Int.toNat (((Prod.fst x) : Nat) : Int)) default)) (T.kids (List.getD ts (Int.toNat (((Prod.fst x) : Nat) : Int)) default)))) ≤ (400 : Nat)))) ∧
     (((List.getD (Prod.snd (Prod.snd x)) (Int.toNat ((((Prod.fst x) : Nat) : Int) + (1 : Int))) ([] : List UInt8)) = (List.getD (Prod.snd (Prod.snd x)) (Int.toNat ((((Prod.fst x) : Nat) : Int) + (1 : Int))) ([] : List UInt8))) ∧
     ((((((List.length (T.text (T.mk (T.k (List.getD ts (Int.toNat (((Prod.fst x) : Nat) : Int)) default)) (T.n (List.getD ts (Int.toNat (((Prod.fst x) : Nat) : Int)) default)) (T.kids (List.getD ts (Int.toNat (((Prod.fst x) : Nat) : Int)) default))))) : Nat) : Int) + (((List.length (List.getD (Prod.snd (Prod.snd x)) (Int.toNat ((((Prod.fst x) : Nat) : Int) + (1 : Int))) ([] : List UInt8))) : Nat) : Int)) ≤ (1099511627776 : Int)) ∧
     ((((((List.length (Prod.fst (Prod.snd x))) : Nat) : Int) + (((List.length ((T.text (T.mk (T.k (List.getD ts (Int.toNat (((Prod.fst x) : Nat) : Int)) default)) (T.n (List.getD ts (Int.toNat (((Prod.fst x) : Nat) : Int)) default)) (T.kids (List.getD ts (Int.toNat (((Prod.fst x) : Nat) : Int)) default)))) ++ (List.getD (Prod.snd (Prod.snd x)) (Int.toNat ((((Prod.fst x) : Nat) : Int) + (1 : Int))) ([] : List UInt8)))) : Nat) : Int)) ≤ (1099511627776 : Int)) ∧
     ((InR ((((Prod.fst x) : Nat) : Int) + (1 : Int))) ∧
     (∃ y : (Prod Nat (Prod (List UInt8) (List (List UInt8)))),
     ((((Prod.fst y) ≤ (List.length ts)) ∧
     (((Prod.snd (Prod.snd y)) = (seps k)) ∧
     (((Prod.fst (Prod.snd y)) ++ (textL (List.drop ((Prod.fst y) + (1 : Nat)) (seps k)) (List.drop (Prod.fst y) ts))) = (T.text (T.mk k n ts))))) ∧
     (((Prod.snd (Prod.snd x)) = (Prod.snd (Prod.snd y))) ∧
     ((((Prod.fst (Prod.snd x)) ++ ((T.text (T.mk (T.k (List.getD ts (Int.toNat (((Prod.fst x) : Nat) : Int)) default)) (T.n (List.getD ts (Int.toNat (((Prod.fst x) : Nat) : Int)) default)) (T.kids (List.getD ts (Int.toNat (((Prod.fst x) : Nat) : Int)) default)))) ++ (List.getD (Prod.snd (Prod.snd x)) (Int.toNat ((((Prod.fst x) : Nat) : Int) + (1 : Int))) ([] : List UInt8)))) = (Prod.fst (Prod.snd y))) ∧
     ((ts = ts) ∧
     (((((List.length ts) : Nat) : Int) = (((List.length ts) : Nat) : Int)) ∧
     ((((((Prod.fst x) : Nat) : Int) + (1 : Int)) = (((Prod.fst y) : Nat) : Int)) ∧
     ((Nat.succ ((List.length ts) - (Prod.fst y))) ≤ ((List.length ts) - (Prod.fst x))))))))))))))))))
     (Ret K (.str (Prod.fst (Prod.snd x))) [])))))))))))))))))) ?_ (by kernel_rfl)
  obtain ⟨⟨d, hd⟩, hz⟩ := hp
  obtain ⟨u1, u2, u3, u4, u5, _⟩ := shp_k hd
  have hrt := T.shp_root hd
  have u1 : 1 ≤ k := u1
  have u2 : k ≤ 16 := u2
  have u3 : arity k = ts.length := u3
  have hdn := decD_len n
  have htl := (T.mk k n ts).text_le
  refine ⟨by unfold InR; omega, trivial, fun ss hss => ⟨rfl, ?_⟩⟩
  have hss : ss = shapesL := hss
  subst hss
  have h16 : shapesL.length = 16 := rfl
  refine ⟨⟨by omega, by rw [h16]; omega⟩, brd (fun h => ?_) (fun h1 => brd (fun h => ?_) (fun h2 => ⟨⟨⟨(k - 1).toNat, by omega, rfl⟩, rfl⟩, fun ps hps => ?_⟩))⟩
  · subst h
    have : n ≤ 20 := hrt.2.2
    have e : shapesL.getD ((1 : Int) - 1).toNat [] = [35] := rfl
    rw [e]
    have h0 := hrt.2.1
    exact ⟨⟨h0, by omega⟩, by simp only [List.length_cons, List.length_nil]; omega, retStr hk rfl⟩
  · subst h
    have : n ≤ 3 := hrt.2.2
    have e : shapesL.getD ((2 : Int) - 1).toNat [] = [42] := rfl
    rw [e]
    have h0 := hrt.2.1
    exact ⟨⟨h0, by omega⟩, by simp only [List.length_cons, List.length_nil]; omega, retStr hk rfl⟩
  have e : ((k - 1).toNat : Int) + 1 = k := by omega
  have hps : ps = seps k := by rw [hps (k - 1).toNat (by omega) ⟨by omega, rfl⟩, e]
  obtain ⟨p1, p2, p3⟩ := seps_pos (k := k) ⟨u1, u2⟩
  have p3 := p3 (by omega)
  subst hps
  have ht : (T.mk k n ts).text = (seps k).getD 0 [] ++ textL ((seps k).drop 1) ts := text_eq (u := T.mk k n ts) (by show 3 ≤ k; omega)
  refine ⟨⟨by omega, by omega⟩, ⟨(0, _, _), ⟨Nat.zero_le _, rfl, ht.symm⟩, rfl, rfl, rfl, rfl, rfl, trivial⟩, ?_⟩
  rintro ⟨i, out, ps⟩ ⟨h3, h4, h5⟩
  simp only at h3 h4 h5
  subst h4
  simp only [T.eta, Int.toNat_natCast]
  have e1 : ((i : Int) + 1).toNat = i + 1 := by omega
  rw [e1]
  refine brd (fun h => ?_) (fun h => ?_)
  · have hi : i < ts.length := by omega
    have hm' := sizeL_mem (getD_mem hi)
    have hsz : (T.mk k n ts).size = 1 + sizeL ts := rfl
    have d1 := drop_getD hi
    have d2 : (seps k).drop (i + 1) = (seps k).getD (i + 1) [] :: (seps k).drop (i + 1 + 1) := drop_getD (by omega)
    rw [d1, d2] at h5
    have h6 : out ++ ((ts.getD i default).text ++ ((seps k).getD (i + 1) [] ++ textL ((seps k).drop (i + 1 + 1)) (ts.drop (i + 1)))) = (T.mk k n ts).text := h5
    have hlen : out.length + ((ts.getD i default).text.length + (((seps k).getD (i + 1) []).length + (textL ((seps k).drop (i + 1 + 1)) (ts.drop (i + 1))).length)) = (T.mk k n ts).text.length := by rw [← h6]; simp only [List.length_append]
    refine ⟨⟨by omega, by omega⟩, by unfold InR; omega, ⟨by omega, by omega⟩, ⟨by omega, ⟨_, shpL_mem u4 (getD_mem hi)⟩, by omega⟩, trivial, by omega, by rw [List.length_append]; omega, by unfold InR; omega, (i + 1, _, _), ⟨hi, rfl, ?_⟩, rfl, rfl, trivial, trivial, rfl, by show (ts.length - (i + 1)).succ ≤ _; omega⟩
    rw [← h6]; simp only [List.append_assoc]
  · have hi : ¬ i < ts.length := by omega
    rw [drop_len hi] at h5
    have e : ∀ ps, textL ps [] = [] := fun ps => by cases ps <;> rfl
    rw [e, List.append_nil] at h5
    exact retStr hk h5
theorem iText_soundM : ∀ m : Nat, Sound Tryd.prog 27 (ciTextM m)
  | 0 => by
      refine soundF (G := []) gnil Tryd.func27 rfl (by kernel_rfl) fun args hs K hCC => ?_
      unfold ciTextM at hCC
      split at hCC
      case h_2 => exact hCC.elim
      exact absurd hCC.1.1 (Nat.not_lt_zero _)
  | m + 1 => by
      refine soundF (G := [(27, ciTextM m), (53, ciShapes), (55, cItoa), (52, cSplit)]) ((gcons (iText_soundM m) (gcons iShapes_sound (gcons Itoa_sound (gcons Split_sound gnil))))) Tryd.func27 rfl (by kernel_rfl) fun args hs K hCC => ?_
      unfold ciTextM at hCC
      split at hCC
      case h_2 => exact hCC.elim
      rename_i k n ts
      exact ⟨Nat.le_of_ble_eq_true rfl, _, iText_ok m k n ts K hCC.1.1 hCC.1.2 hCC.2⟩
theorem iText_sound : Sound Tryd.prog 27 ciText := by
  refine sound_of_all (c := ciTextM) (fun m => (iText_soundM m)) fun args hs K hCC => ?_
  unfold ciText at hCC
  split at hCC
  case h_2 => exact hCC.elim
  exact ⟨_, ⟨Nat.lt_succ_self _, hCC.1⟩, hCC.2⟩
end Go.Dk
