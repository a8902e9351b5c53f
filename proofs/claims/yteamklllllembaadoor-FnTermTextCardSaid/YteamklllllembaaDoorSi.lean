/- Texts: the program's reader. -/
import Derived.Test.YteamklllllembaaDoorSf
import Derived.Test.YteamklllllembaaDoorLc
namespace Go.Dk
set_option linter.unusedVariables false
set_option linter.unusedSimpArgs false
open Go.Proofs
theorem retTSB {K : AV → List AV → Prop} {t : T} {k n : Int} {ts : List T} {g g' : Tag} {l l' : List UInt8} {b b' : Bool} (hk : K (.tup [t.av g', .str l', .bool b']) []) (h : T.mk k n ts = t) (hl : l = l') (hb : b = b') (hg : g.le g' = true := by rfl) : Ret K (.tup [.st [.int .i64 k, .int .i64 n, .slc ts g], .str l, .bool b]) [] := by
  subst h hl hb; exact fin hk ⟨⟨⟨rfl, rfl⟩, ⟨rfl, rfl⟩, ⟨rfl, hg⟩, True.intro⟩, rfl, rfl, True.intro⟩ True.intro
theorem retIS {K : AV → List AV → Prop} {a a' : Int} {l l' : List UInt8} (hk : K (.tup [.int .i64 a', .str l']) []) (ha : a = a') (hl : l = l') : Ret K (.tup [.int .i64 a, .str l]) [] := by
  subst ha hl; exact fin hk ⟨⟨rfl, rfl⟩, rfl, True.intro⟩ True.intro
/-- impl.kindAt -/
def ciKindAt : Con
  | [.str s], [], K => True ∧ ((∀ k : Int, KAt s k → K (.int .i64 k) []))
  | _, _, _ => False
theorem iKindAt_ok (s : List UInt8) (K : AV → List AV → Prop) (hp : True) (hk : ((∀ k : Int, KAt s k → K (.int .i64 k) []))) :
    bodyQ [(53, ciShapes)] TY [(4, { ι := Nat × List (List UInt8), ok := fun x => KInv s x.1 x.2, tl := fun x => [(0, .str s), (7, .strs x.2), (8, .int .i64 x.2.length), (9, .int .i64 x.1)], hl := fun _ => [], fh := fun _ => [], μ := fun x => 16 - x.1 })] Tryd.f50 (body Tryd.f50) [.str s] [] K := by
  refine of_vc (A :=
    (Br (Decidable.decide (s = (Array.toList (ByteArray.data (ByteArray.mk (List.toArray ([] : List UInt8)))))))
     (Ret K (.int .i64 (- (1 : Int))) [])
     (True ∧
     (∀ ss : (List (List UInt8)),
     ((IsShapes ss) →
     ((∃ x : (Prod Nat (List (List UInt8))),
     ((KInv s (Prod.fst x) (Prod.snd x)) ∧
     ((s = s) ∧
     ((ss = (Prod.snd x)) ∧ (((((List.length ss) : Nat) : Int) = (((List.length (Prod.snd x)) : Nat) : Int)) ∧ (((0 : Int) = (((Prod.fst x) : Nat) : Int)) ∧ True)))))) ∧
     (∀ x : (Prod Nat (List (List UInt8))),
     ((KInv s (Prod.fst x) (Prod.snd x)) →
     (Br (Decidable.decide ((((Prod.fst x) : Nat) : Int) < (((List.length (Prod.snd x)) : Nat) : Int)))
     ((((0 : Int) ≤ (((Prod.fst x) : Nat) : Int)) ∧ ((((Prod.fst x) : Nat) : Int) < (((List.length (Prod.snd x)) : Nat) : Int))) ∧
     ((((0 : Int) ≤ (0 : Int)) ∧ ((0 : Int) < (((List.length (List.getD (Prod.snd x) (Int.toNat (((Prod.fst x) : Nat) : Int)) ([] : List UInt8))) : Nat) : Int))) ∧
     ((((0 : Int) ≤ (0 : Int)) ∧ ((0 : Int) < (((List.length s) : Nat) : Int))) ∧
     (Br (Decidable.decide ((((UInt8.toNat (List.getD (List.getD (Prod.snd x) (Int.toNat (((Prod.fst x) : Nat) : Int)) ([] : List UInt8)) (Int.toNat (0 : Int)) (0 : UInt8))) : Nat) : Int) = (((UInt8.toNat (List.getD s (Int.toNat (0 : Int)) (0 : UInt8))) : Nat) : Int)))
     ((InR ((1 : Int) + (((Prod.fst x) : Nat) : Int))) ∧ (Ret K (.int .i64 ((1 : Int) + (((Prod.fst x) : Nat) : Int))) []))
     ((InR ((((Prod.fst x) : Nat) : Int) + (1 : Int))) ∧
     (∃ y : (Prod Nat (List (List UInt8))),
     ((KInv s (Prod.fst y) (Prod.snd y)) ∧
     ((s = s) ∧
     (((Prod.snd x) = (Prod.snd y)) ∧
     (((((List.length (Prod.snd x)) : Nat) : Int) = (((List.length (Prod.snd y)) : Nat) : Int)) ∧
     ((((((Prod.fst x) : Nat) : Int) + (1 : Int)) = (((Prod.fst y) : Nat) : Int)) ∧ ((Nat.succ ((16 : Nat) - (Prod.fst y))) ≤ ((16 : Nat) - (Prod.fst x))))))))))))))
     (Ret K (.int .i64 (- (1 : Int))) [])))))))))) ?_ (by kernel_rfl)
  refine brd (fun h => retI (hk (-1) (.inl ⟨h, rfl⟩)) rfl) (fun h => ⟨trivial, fun ss hss => ?_⟩)
  have h : s ≠ [] := h
  have hl : 0 < s.length := List.length_pos_iff.2 h
  have hss : ss = shapesL := hss
  subst hss
  refine ⟨⟨(0, shapesL), ⟨Nat.zero_le _, rfl, h, fun j hj => absurd hj (Nat.not_lt_zero j)⟩, rfl, rfl, rfl, rfl, trivial⟩, ?_⟩
  rintro ⟨i, ss⟩ ⟨h1, h2, h3, h4⟩
  simp only at h1 h2 h4
  subst h2
  have h16 : shapesL.length = 16 := rfl
  have tab : ∀ i, i < 16 → 0 < (shapesL.getD i []).length ∧ (shapesL.getD i []).getD 0 0 = firsts.getD i 0 := by decide +kernel
  simp only [Int.toNat_natCast, h16]
  refine brd (fun g => ?_) (fun g => retI (hk (-1) (.inr ⟨h, .inl ⟨rfl, fun j hj => h4 j (by omega)⟩⟩)) rfl)
  have hi : i < 16 := by omega
  obtain ⟨t1, t2⟩ := tab i hi
  refine ⟨⟨by omega, by omega⟩, ⟨by omega, by omega⟩, ⟨by omega, by omega⟩, brd (fun g2 => ⟨by unfold InR; omega, retI (hk (i + 1) (.inr ⟨h, .inr ⟨by omega, ?_, fun j hj => h4 j (by omega)⟩⟩)) (by omega)⟩) (fun g2 => ⟨by unfold InR; omega, (i + 1, _), ⟨hi, rfl, h, fun j hj => ?_⟩, trivial, rfl, rfl, rfl, by show (16 - (i + 1)).succ ≤ _; omega⟩)⟩
  · have : ((i : Int) + 1 - 1).toNat = i := by omega
    rw [this]
    have g2 : (((shapesL.getD i []).getD 0 0).toNat : Int) = (s.getD 0 0).toNat := g2
    rw [t2] at g2
    exact UInt8.toNat_inj.1 (by omega)
  · by_cases hj' : j = i
    · subst hj'
      intro e
      have g2 : ¬ (((shapesL.getD j []).getD 0 0).toNat : Int) = (s.getD 0 0).toNat := g2
      rw [t2, e] at g2; exact g2 rfl
    · exact h4 j (by omega)
theorem iKindAt_sound : Sound Tryd.prog 50 ciKindAt := by
  refine soundF (G := [(53, ciShapes)]) ((gcons iShapes_sound gnil)) Tryd.func50 rfl (by kernel_rfl) fun args hs K hCC => ?_
  unfold ciKindAt at hCC
  split at hCC
  case h_2 => exact hCC.elim
  rename_i s
  exact ⟨Nat.le_of_ble_eq_true rfl, _, iKindAt_ok s K hCC.1 hCC.2⟩
/-- impl.readNumber -/
def ciReadNumber : Con
  | [.str s], [], K => ((s.length ≤ 1048576)) ∧ ((∀ (v : Int) (rest : List UInt8), InR v → rest.length ≤ s.length → (∀ m r, 0 ≤ m → m ≤ 20 → nd r → s = decD m ++ r → v = m ∧ rest = r) → K (.tup [.int .i64 v, .str rest]) []))
  | _, _, _ => False
theorem iReadNumber_ok (s : List UInt8) (K : AV → List AV → Prop) (hp : ((s.length ≤ 1048576))) (hk : ((∀ (v : Int) (rest : List UInt8), InR v → rest.length ≤ s.length → (∀ m r, 0 ≤ m → m ≤ 20 → nd r → s = decD m ++ r → v = m ∧ rest = r) → K (.tup [.int .i64 v, .str rest]) []))) :
    bodyQ [(70, cAtoi)] TY [(2, { ι := Int, ok := fun x => 0 ≤ x ∧ x ≤ s.length ∧ (∀ m r, 0 ≤ m → m ≤ 20 → nd r → s = decD m ++ r → x ≤ (decD m).length), tl := fun x => [(0, .str s), (4, .int .i64 x)], hl := fun _ => [], fh := fun _ => [], μ := fun x => (s.length - x).toNat })] Tryd.f51 (body Tryd.f51) [.str s] [] K := by
  refine of_vc (A :=
    ((∃ x : Int,
     ((((0 : Int) ≤ x) ∧
     ((x ≤ (((List.length s) : Nat) : Int)) ∧
     (∀ m : Int, (∀ r : (List UInt8), (((0 : Int) ≤ m) → ((m ≤ (20 : Int)) → ((nd r) → ((s = ((decD m) ++ r)) → (x ≤ (((List.length (decD m)) : Nat) : Int)))))))))) ∧
     ((s = s) ∧ (((0 : Int) = x) ∧ True)))) ∧
     (∀ x : Int,
     ((((0 : Int) ≤ x) ∧ ((x ≤ (((List.length s) : Nat) : Int)) ∧ (∀ m : Int, (∀ r : (List UInt8), (((0 : Int) ≤ m) → ((m ≤ (20 : Int)) → ((nd r) → ((s = ((decD m) ++ r)) → (x ≤ (((List.length (decD m)) : Nat) : Int)))))))))) →
     (Br (Decidable.decide (x < (((List.length s) : Nat) : Int)))
     ((((0 : Int) ≤ x) ∧ (x < (((List.length s) : Nat) : Int))) ∧
     (Br (Decidable.decide ((48 : Int) ≤ (((UInt8.toNat (List.getD s (Int.toNat x) (0 : UInt8))) : Nat) : Int)))
     ((((0 : Int) ≤ x) ∧ (x < (((List.length s) : Nat) : Int))) ∧
     (Br (Decidable.decide ((((UInt8.toNat (List.getD s (Int.toNat x) (0 : UInt8))) : Nat) : Int) ≤ (57 : Int)))
     ((InR (x + (1 : Int))) ∧
     (∃ y : Int,
     ((((0 : Int) ≤ y) ∧
     ((y ≤ (((List.length s) : Nat) : Int)) ∧
     (∀ m : Int, (∀ r : (List UInt8), (((0 : Int) ≤ m) → ((m ≤ (20 : Int)) → ((nd r) → ((s = ((decD m) ++ r)) → (y ≤ (((List.length (decD m)) : Nat) : Int)))))))))) ∧
     ((s = s) ∧ (((x + (1 : Int)) = y) ∧ ((Nat.succ (Int.toNat ((((List.length s) : Nat) : Int) - y))) ≤ (Int.toNat ((((List.length s) : Nat) : Int) - x))))))))
     ((((0 : Int) ≤ (0 : Int)) ∧ (((0 : Int) ≤ x) ∧ (x ≤ (((List.length s) : Nat) : Int)))) ∧
     (((List.length (List.take ((Int.toNat x) - (0 : Nat)) (List.drop (0 : Nat) s))) ≤ (1048576 : Nat)) ∧
     ((∀ v : Int,
     ((InR v) →
     (((Go.Lib.atoiAll (List.take ((Int.toNat x) - (0 : Nat)) (List.drop (0 : Nat) s))) = (Go.Lib.NumEnd.ok v)) →
     ((((0 : Int) ≤ x) ∧ (x ≤ (((List.length s) : Nat) : Int))) ∧ (Ret K (.tup [(.int .i64 v), (.str (List.drop (Int.toNat x) s))]) []))))) ∧
     (∀ v : Int,
     ((InR v) →
     ((∀ u : Int, ((Go.Lib.atoiAll (List.take ((Int.toNat x) - (0 : Nat)) (List.drop (0 : Nat) s))) ≠ (Go.Lib.NumEnd.ok u))) →
     (Ret K (.tup [(.int .i64 (- (1 : Int))), (.str [])]) [])))))))))
     ((((0 : Int) ≤ (0 : Int)) ∧ (((0 : Int) ≤ x) ∧ (x ≤ (((List.length s) : Nat) : Int)))) ∧
     (((List.length (List.take ((Int.toNat x) - (0 : Nat)) (List.drop (0 : Nat) s))) ≤ (1048576 : Nat)) ∧
     ((∀ v : Int,
     ((InR v) →
     (((Go.Lib.atoiAll (List.take ((Int.toNat x) - (0 : Nat)) (List.drop (0 : Nat) s))) = (Go.Lib.NumEnd.ok v)) →
     ((((0 : Int) ≤ x) ∧ (x ≤ (((List.length s) : Nat) : Int))) ∧ (Ret K (.tup [(.int .i64 v), (.str (List.drop (Int.toNat x) s))]) []))))) ∧
     (∀ v : Int,
     ((InR v) →
     ((∀ u : Int, ((Go.Lib.atoiAll (List.take ((Int.toNat x) - (0 : Nat)) (List.drop (0 : Nat) s))) ≠ (Go.Lib.NumEnd.ok u))) →
     (Ret K (.tup [(.int .i64 (- (1 : Int))), (.str [])]) [])))))))))
     ((((0 : Int) ≤ (0 : Int)) ∧ (((0 : Int) ≤ x) ∧ (x ≤ (((List.length s) : Nat) : Int)))) ∧
     (((List.length (List.take ((Int.toNat x) - (0 : Nat)) (List.drop (0 : Nat) s))) ≤ (1048576 : Nat)) ∧
     ((∀ v : Int,
     ((InR v) →
     (((Go.Lib.atoiAll (List.take ((Int.toNat x) - (0 : Nat)) (List.drop (0 : Nat) s))) = (Go.Lib.NumEnd.ok v)) →
     ((((0 : Int) ≤ x) ∧ (x ≤ (((List.length s) : Nat) : Int))) ∧ (Ret K (.tup [(.int .i64 v), (.str (List.drop (Int.toNat x) s))]) []))))) ∧
     (∀ v : Int,
     ((InR v) →
     ((∀ u : Int, ((Go.Lib.atoiAll (List.take ((Int.toNat x) - (0 : Nat)) (List.drop (0 : Nat) s))) ≠ (Go.Lib.NumEnd.ok u))) →
     (Ret K (.tup [(.int .i64 (- (1 : Int))), (.str [])]) [])))))))))))) ?_ (by kernel_rfl)
  have F : ∀ m r, 0 ≤ m → m ≤ 20 → nd r → s = decD m ++ r → _ := fun m r h0 h1 hr e => numF (l := s) (a := 0) (d := 2) h0 (by omega : m ≤ 99) (fun _ => rfl) hr ⟨Int.le_refl 0, by omega⟩ (by omega) (by rw [e]; rfl)
  have ex : ∀ x : Int, 0 ≤ x → x ≤ s.length → (∀ m r, 0 ≤ m → m ≤ 20 → nd r → s = decD m ++ r → x = (decD m).length) →
      (((0 : Int) ≤ 0 ∧ 0 ≤ x ∧ x ≤ s.length) ∧ (List.take (x.toNat - 0) (List.drop 0 s)).length ≤ 1048576 ∧ (∀ (v : Int), InR v → Lib.atoiAll (List.take (x.toNat - 0) (List.drop 0 s)) = Lib.NumEnd.ok v → (0 ≤ x ∧ x ≤ s.length) ∧ Ret K (.tup [.int .i64 v, .str (List.drop x.toNat s)]) []) ∧
        ∀ (v : Int), InR v → (∀ (u : Int), Lib.atoiAll (List.take (x.toNat - 0) (List.drop 0 s)) ≠ Lib.NumEnd.ok u) → Ret K (.tup [.int .i64 (-1), .str []]) []) := fun x h1 h2 h3 => by
    have val : ∀ m r, 0 ≤ m → m ≤ 20 → nd r → s = decD m ++ r → Lib.atoiAll (List.take (x.toNat - 0) (List.drop 0 s)) = Lib.NumEnd.ok m ∧ List.drop x.toNat s = r := fun m r g0 g1 hr e => by
      obtain ⟨k, k1, k2, k3, k4, k5, k6, k7⟩ := F m r g0 g1 hr e
      have hx := h3 m r g0 g1 hr e
      have h7 := k7 x (by omega)
      have e0 : Int.toNat 0 = 0 := rfl
      rw [e0] at h7
      rw [h7]
      refine ⟨atoi_dec g0 g1, ?_⟩
      have : x.toNat = (decD m).length := by omega
      rw [this, e, List.drop_append_of_le_length (Nat.le_refl _), List.drop_length, List.nil_append]
    refine ⟨⟨by omega, h1, h2⟩, by rw [List.length_take, List.length_drop]; omega, fun v hv ha => ⟨⟨h1, h2⟩, retIS (hk v _ hv (by rw [List.length_drop]; omega) (fun m r g0 g1 hr e => ?_)) rfl rfl⟩, fun v hv ha => retIS (hk (-1) [] (by unfold InR; omega) (Nat.zero_le _) (fun m r g0 g1 hr e => absurd (val m r g0 g1 hr e).1 (ha m))) rfl rfl⟩
    obtain ⟨v1, v2⟩ := val m r g0 g1 hr e
    rw [ha] at v1
    exact ⟨by cases v1; rfl, v2⟩
  refine ⟨⟨0, ⟨Int.le_refl 0, by omega, fun m r _ _ _ _ => by omega⟩, rfl, rfl, trivial⟩, ?_⟩
  rintro x ⟨h1, h2, h4⟩
  have fin' : ∀ m r, 0 ≤ m → m ≤ 20 → nd r → s = decD m ++ r → (x < (decD m).length → 48 ≤ (s.getD x.toNat 0).toNat ∧ (s.getD x.toNat 0).toNat ≤ 57) ∧ (x = (decD m).length → x < s.length → (s.getD x.toNat 0).toNat < 48 ∨ 57 < (s.getD x.toNat 0).toNat) ∧ x ≤ (decD m).length ∧ (decD m).length ≤ s.length := fun m r g0 g1 hr e => by
    obtain ⟨k, k1, k2, k3, k4, k5, k6, k7⟩ := F m r g0 g1 hr e
    have := h4 m r g0 g1 hr e
    exact ⟨fun h => k5 x h1 (by omega), fun h => k6 x (by omega), this, by omega⟩
  refine brd (fun c1 => ⟨⟨h1, c1⟩, brd (fun c3 => ⟨⟨h1, c1⟩, brd (fun c4 => ?_) (fun c4 => ?_)⟩) (fun c3 => ?_)⟩) (fun c1 => ?_)
  · refine ⟨by unfold InR; omega, x + 1, ⟨by omega, by omega, fun m r g0 g1 hr e => ?_⟩, rfl, rfl, by omega⟩
    obtain ⟨f1, f2, f3, f4⟩ := fin' m r g0 g1 hr e
    by_cases hx : x = (decD m).length
    · have := f2 hx c1; omega
    · omega
  all_goals
    refine ex x h1 h2 (fun m r g0 g1 hr e => ?_)
    obtain ⟨f1, f2, f3, f4⟩ := fin' m r g0 g1 hr e
    by_cases hx : x < (decD m).length
    · have := f1 hx; omega
    · omega
theorem iReadNumber_sound : Sound Tryd.prog 51 ciReadNumber := by
  refine soundF (G := [(70, cAtoi)]) ((gcons Atoi_sound gnil)) Tryd.func51 rfl (by kernel_rfl) fun args hs K hCC => ?_
  unfold ciReadNumber at hCC
  split at hCC
  case h_2 => exact hCC.elim
  rename_i s
  exact ⟨Nat.le_of_ble_eq_true rfl, _, iReadNumber_ok s K hCC.1 hCC.2⟩
/-- impl.readTerm -/
def ciReadTermM (m : Nat) : Con
  | [.str s, .int .i64 (d)], [], K => (((31 - d).toNat) < m ∧ ((s.length ≤ 1048576 ∧ 1 ≤ d ∧ d ≤ 31))) ∧ ((∀ (t : T) (rest : List UInt8) (b : Bool), t.size ≤ s.length + 1 → (b = true → t.size + rest.length ≤ s.length) → rest.length ≤ s.length → fndR s (31 - d) t rest b → K (.tup [t.fr, .str rest, .bool b]) []))
  | _, _, _ => False
def ciReadTerm : Con
  | [.str s, .int .i64 (d)], [], K => ((s.length ≤ 1048576 ∧ 1 ≤ d ∧ d ≤ 31)) ∧ ((∀ (t : T) (rest : List UInt8) (b : Bool), t.size ≤ s.length + 1 → (b = true → t.size + rest.length ≤ s.length) → rest.length ≤ s.length → fndR s (31 - d) t rest b → K (.tup [t.fr, .str rest, .bool b]) []))
  | _, _, _ => False
theorem iReadTerm_ok (m : Nat) (s : List UInt8) (d : Int) (K : AV → List AV → Prop) (hm : ((31 - d).toNat) < m + 1) (hp : ((s.length ≤ 1048576 ∧ 1 ≤ d ∧ d ≤ 31))) (hk : ((∀ (t : T) (rest : List UInt8) (b : Bool), t.size ≤ s.length + 1 → (b = true → t.size + rest.length ≤ s.length) → rest.length ≤ s.length → fndR s (31 - d) t rest b → K (.tup [t.fr, .str rest, .bool b]) []))) :
    bodyQ [(26, ciReadTermM m), (50, ciKindAt), (51, ciReadNumber), (53, ciShapes), (52, cSplit), (54, cCut)] TY [(12, { ι := (Int × List T) × List (List UInt8) × List UInt8 × Bool × Nat, ok := fun x => RdInv s (31 - d) x.1.1 x.1.2 x.2.1 x.2.2.1 x.2.2.2.1 x.2.2.2.2, tl := fun x => [(0, .str s), (1, .int .i64 d), (4, .ptr 4), (8, .ptr 8), (11, .strs x.2.1), (12, .str x.2.2.1), (13, .bool x.2.2.2.1), (14, .int .i64 x.2.2.2.2)], hl := fun x => [(4, (T.mk 0 0 []).av (.iv 0 0 true .full)), (8, .st [.int .i64 x.1.1, .int .i64 0, .slc x.1.2 (.iv 4 4 true (.tok 85))])], fh := fun _ => [], μ := fun x => 6 - x.2.2.2.2 })] Tryd.f26 (body Tryd.f26) [.str s, .int .i64 (d)] [] K := by
  refine of_vc (A :=
    (True ∧
     (∀ k : Int,
     ((KAt s k) →
     (Br (Decidable.decide (k < (0 : Int)))
     (Ret K (.tup [(.st [(.int .i64 0), (.int .i64 0), (.slc [] (.iv 0 0 true .full))]), (.str []), (.bool false)]) [])
     (Br (Decidable.decide ((30 : Int) < d))
     (Ret K (.tup [(.st [(.int .i64 0), (.int .i64 0), (.slc [] (.iv 0 0 true .full))]), (.str []), (.bool false)]) [])
     (Br (Decidable.decide (k = (1 : Int)))
     ((((0 : Int) ≤ (1 : Int)) ∧ ((1 : Int) ≤ (((List.length s) : Nat) : Int))) ∧
     (((List.length (List.drop (1 : Nat) s)) ≤ (1048576 : Nat)) ∧
     (∀ v : Int,
     (∀ rest : (List UInt8),
     ((InR v) →
     (((List.length rest) ≤ (List.length (List.drop (1 : Nat) s))) →
     ((∀ m1 : Int, (∀ r : (List UInt8), (((0 : Int) ≤ m1) → ((m1 ≤ (20 : Int)) → ((nd r) → (((List.drop (1 : Nat) s) = ((decD m1) ++ r)) → ((v = m1) ∧ (rest = r)))))))) →
     (Ret K (.tup [(.st [(.int .i64 k), (.int .i64 v), (.slc [] (.iv 0 0 true .full))]), (.str rest), (.bool (Decidable.decide ((0 : Int) ≤ v)))]) []))))))))
     (Br (Decidable.decide (k = (2 : Int)))
     ((((0 : Int) ≤ (1 : Int)) ∧ ((1 : Int) ≤ (((List.length s) : Nat) : Int))) ∧
     (((List.length (List.drop (1 : Nat) s)) ≤ (1048576 : Nat)) ∧
     (∀ v : Int,
     (∀ rest : (List UInt8),
     ((InR v) →
     (((List.length rest) ≤ (List.length (List.drop (1 : Nat) s))) →
     ((∀ m1 : Int, (∀ r : (List UInt8), (((0 : Int) ≤ m1) → ((m1 ≤ (20 : Int)) → ((nd r) → (((List.drop (1 : Nat) s) = ((decD m1) ++ r)) → ((v = m1) ∧ (rest = r)))))))) →
     (Ret K (.tup [(.st [(.int .i64 k), (.int .i64 v), (.slc [] (.iv 0 0 true .full))]), (.str rest), (.bool (Decidable.decide ((0 : Int) ≤ v)))]) []))))))))
     (True ∧
     (∀ ss : (List (List UInt8)),
     ((IsShapes ss) →
     ((InR (k - (1 : Int))) ∧
     ((((0 : Int) ≤ (k - (1 : Int))) ∧ ((k - (1 : Int)) < (((List.length ss) : Nat) : Int))) ∧
     (((∃ i : Nat, (IsShape i (List.getD ss (Int.toNat (k - (1 : Int))) ([] : List UInt8)))) ∧ ([(46 : UInt8)] = [(46 : UInt8)])) ∧
     (∀ ps : (List (List UInt8)),
     ((∀ i : Nat, (((2 : Nat) ≤ i) → ((IsShape i (List.getD ss (Int.toNat (k - (1 : Int))) ([] : List UInt8))) → (ps = (seps (((i : Nat) : Int) + (1 : Int))))))) →
     ((((0 : Int) ≤ (0 : Int)) ∧ ((0 : Int) < (((List.length ps) : Nat) : Int))) ∧
     ((∃ x : (Prod (Prod Int (List T)) (Prod (List (List UInt8)) (Prod (List UInt8) (Prod Bool Nat)))),
     ((RdInv s ((31 : Int) - d) (Prod.fst (Prod.fst x)) (Prod.snd (Prod.fst x)) (Prod.fst (Prod.snd x)) (Prod.fst (Prod.snd (Prod.snd x))) (Prod.fst (Prod.snd (Prod.snd (Prod.snd x)))) (Prod.snd (Prod.snd (Prod.snd (Prod.snd x))))) ∧
     ((s = s) ∧
     ((d = d) ∧
     ((ps = (Prod.fst (Prod.snd x))) ∧
     (((Go.Lib.trimPrefix s (List.getD ps (0 : Nat) ([] : List UInt8))) = (Prod.fst (Prod.snd (Prod.snd x)))) ∧
     (((Go.Lib.hasPrefix s (List.getD ps (0 : Nat) ([] : List UInt8))) = (Prod.fst (Prod.snd (Prod.snd (Prod.snd x))))) ∧
     (((1 : Int) = (((Prod.snd (Prod.snd (Prod.snd (Prod.snd x)))) : Nat) : Int)) ∧
     (((0 : Int) = (0 : Int)) ∧
     (((0 : Int) = (0 : Int)) ∧
     ((([] : List T) = ([] : List T)) ∧ ((k = (Prod.fst (Prod.fst x))) ∧ (((0 : Int) = (0 : Int)) ∧ ((([] : List T) = (Prod.snd (Prod.fst x))) ∧ True)))))))))))))) ∧
     (∀ x : (Prod (Prod Int (List T)) (Prod (List (List UInt8)) (Prod (List UInt8) (Prod Bool Nat)))),
     ((RdInv s ((31 : Int) - d) (Prod.fst (Prod.fst x)) (Prod.snd (Prod.fst x)) (Prod.fst (Prod.snd x)) (Prod.fst (Prod.snd (Prod.snd x))) (Prod.fst (Prod.snd (Prod.snd (Prod.snd x)))) (Prod.snd (Prod.snd (Prod.snd (Prod.snd x))))) →
     (Br (Decidable.decide ((((Prod.snd (Prod.snd (Prod.snd (Prod.snd x)))) : Nat) : Int) < (((List.length (Prod.fst (Prod.snd x))) : Nat) : Int)))
     (Br (Prod.fst (Prod.snd (Prod.snd (Prod.snd x))))
     ((InR (d + (1 : Int))) ∧
     ((((Int.toNat ((31 : Int) - (d + (1 : Int)))) < m) ∧
     (((List.length (Prod.fst (Prod.snd (Prod.snd x)))) ≤ (1048576 : Nat)) ∧ (((1 : Int) ≤ (d + (1 : Int))) ∧ ((d + (1 : Int)) ≤ (31 : Int))))) ∧
     (∀ t : T,
     (∀ rest : (List UInt8),
     (∀ b : Bool,
     (((T.size t) ≤ ((List.length (Prod.fst (Prod.snd (Prod.snd x)))) + (1 : Nat))) →
     (((b = true) → (((T.size t) + (List.length rest)) ≤ (List.length (Prod.fst (Prod.snd (Prod.snd x)))))) →
     (((List.length rest) ≤ (List.length (Prod.fst (Prod.snd (Prod.snd x))))) →
     ((fndR (Prod.fst (Prod.snd (Prod.snd x))) ((31 : Int) - (d + (1 : Int))) t rest b) →
     (Br (Bool.not b)
     (Ret K (.tup [(.st [(.int .i64 0), (.int .i64 0), (.slc [] (.iv 0 0 true .full))]), (.str []), (.bool false)]) [])
     ((((((List.length (Prod.snd (Prod.fst x))) : Nat) : Int) + (1 : Int)) ≤ (1099511627776 : Int)) ∧
     ((((0 : Int) ≤ (0 : Int)) ∧ ((0 : Int) < (((List.length s) : Nat) : Int))) ∧
     (Br (Decidable.decide ((((UInt8.toNat (List.getD s (Int.toNat (0 : Int)) (0 : UInt8))) : Nat) : Int) = (40 : Int)))
     (Br (Decidable.decide ((((Prod.snd (Prod.snd (Prod.snd (Prod.snd x)))) : Nat) : Int) = (1 : Int)))
     (Br (Decidable.decide (rest ≠ (Array.toList (ByteArray.data (ByteArray.mk (List.toArray ([] : List UInt8)))))))
     ((((0 : Int) ≤ (0 : Int)) ∧ ((0 : Int) < (((List.length rest) : Nat) : Int))) ∧
     (Br (Decidable.decide ((((UInt8.toNat (List.getD rest (Int.toNat (0 : Int)) (0 : UInt8))) : Nat) : Int) = (32 : Int)))
     ((InR (4 : Int)) ∧
     (True ∧
     (∀ ss1 : (List (List UInt8)),
     ((IsShapes ss1) →
     (((5 : Int) = (5 : Int)) ∧
     ((((0 : Int) ≤ (4 : Int)) ∧ ((4 : Int) < (((List.length ss1) : Nat) : Int))) ∧
     (((∃ i : Nat, (IsShape i (List.getD ss1 (4 : Nat) ([] : List UInt8)))) ∧ ([(46 : UInt8)] = [(46 : UInt8)])) ∧
     (∀ ps1 : (List (List UInt8)),
     ((∀ i : Nat, (((2 : Nat) ≤ i) → ((IsShape i (List.getD ss1 (4 : Nat) ([] : List UInt8))) → (ps1 = (seps (((i : Nat) : Int) + (1 : Int))))))) →
     ((((0 : Int) ≤ (((Prod.snd (Prod.snd (Prod.snd (Prod.snd x)))) : Nat) : Int)) ∧
     ((((Prod.snd (Prod.snd (Prod.snd (Prod.snd x)))) : Nat) : Int) < (((List.length ps1) : Nat) : Int))) ∧
     ((InR ((((Prod.snd (Prod.snd (Prod.snd (Prod.snd x)))) : Nat) : Int) + (1 : Int))) ∧
     (∃ y : (Prod (Prod Int (List T)) (Prod (List (List UInt8)) (Prod (List UInt8) (Prod Bool Nat)))),
     ((RdInv s ((31 : Int) - d) (Prod.fst (Prod.fst y)) (Prod.snd (Prod.fst y)) (Prod.fst (Prod.snd y)) (Prod.fst (Prod.snd (Prod.snd y))) (Prod.fst (Prod.snd (Prod.snd (Prod.snd y)))) (Prod.snd (Prod.snd (Prod.snd (Prod.snd y))))) ∧
     ((s = s) ∧
     ((d = d) ∧
     ((ps1 = (Prod.fst (Prod.snd y))) ∧
     (((Go.Lib.trimPrefix rest (List.getD ps1 (Int.toNat (((Prod.snd (Prod.snd (Prod.snd (Prod.snd x)))) : Nat) : Int)) ([] : List UInt8))) = (Prod.fst (Prod.snd (Prod.snd y)))) ∧
     (((Go.Lib.hasPrefix rest (List.getD ps1 (Int.toNat (((Prod.snd (Prod.snd (Prod.snd (Prod.snd x)))) : Nat) : Int)) ([] : List UInt8))) = (Prod.fst (Prod.snd (Prod.snd (Prod.snd y))))) ∧
     ((((((Prod.snd (Prod.snd (Prod.snd (Prod.snd x)))) : Nat) : Int) + (1 : Int)) = (((Prod.snd (Prod.snd (Prod.snd (Prod.snd y)))) : Nat) : Int)) ∧
     (((0 : Int) = (0 : Int)) ∧
     (((0 : Int) = (0 : Int)) ∧
     ((([] : List T) = ([] : List T)) ∧
     (((5 : Int) = (Prod.fst (Prod.fst y))) ∧
     (((0 : Int) = (0 : Int)) ∧
     ((((Prod.snd (Prod.fst x)) ++ [(T.mk (T.k t) (T.n t) (T.kids t))]) = (Prod.snd (Prod.fst y))) ∧
     ((Nat.succ ((6 : Nat) - (Prod.snd (Prod.snd (Prod.snd (Prod.snd y)))))) ≤ ((6 : Nat) - (Prod.snd (Prod.snd (Prod.snd (Prod.snd x)))))))))))))))))))))))))))))))
     (Br (Decidable.decide ((((UInt8.toNat (List.getD rest (Int.toNat (0 : Int)) (0 : UInt8))) : Nat) : Int) = (42 : Int)))
     ((InR (12 : Int)) ∧
     (True ∧
     (∀ ss1 : (List (List UInt8)),
     ((IsShapes ss1) →
     (((13 : Int) = (13 : Int)) ∧
     ((((0 : Int) ≤ (12 : Int)) ∧ ((12 : Int) < (((List.length ss1) : Nat) : Int))) ∧
     (((∃ i : Nat, (IsShape i (List.getD ss1 (12 : Nat) ([] : List UInt8)))) ∧ ([(46 : UInt8)] = [(46 : UInt8)])) ∧
     (∀ ps1 : (List (List UInt8)),
     ((∀ i : Nat, (((2 : Nat) ≤ i) → ((IsShape i (List.getD ss1 (12 : Nat) ([] : List UInt8))) → (ps1 = (seps (((i : Nat) : Int) + (1 : Int))))))) →
     ((((0 : Int) ≤ (((Prod.snd (Prod.snd (Prod.snd (Prod.snd x)))) : Nat) : Int)) ∧
     ((((Prod.snd (Prod.snd (Prod.snd (Prod.snd x)))) : Nat) : Int) < (((List.length ps1) : Nat) : Int))) ∧
     ((InR ((((Prod.snd (Prod.snd (Prod.snd (Prod.snd x)))) : Nat) : Int) + (1 : Int))) ∧
     (∃ y : (Prod (Prod Int (List T)) (Prod (List (List UInt8)) (Prod (List UInt8) (Prod Bool Nat)))),
     ((RdInv s ((31 : Int) - d) (Prod.fst (Prod.fst y)) (Prod.snd (Prod.fst y)) (Prod.fst (Prod.snd y)) (Prod.fst (Prod.snd (Prod.snd y))) (Prod.fst (Prod.snd (Prod.snd (Prod.snd y)))) (Prod.snd (Prod.snd (Prod.snd (Prod.snd y))))) ∧
     ((s = s) ∧
     ((d = d) ∧
     ((ps1 = (Prod.fst (Prod.snd y))) ∧
     (((Go.Lib.trimPrefix rest (List.getD ps1 (Int.toNat (((Prod.snd (Prod.snd (Prod.snd (Prod.snd x)))) : Nat) : Int)) ([] : List UInt8))) = (Prod.fst (Prod.snd (Prod.snd y)))) ∧
     (((Go.Lib.hasPrefix rest (List.getD ps1 (Int.toNat (((Prod.snd (Prod.snd (Prod.snd (Prod.snd x)))) : Nat) : Int)) ([] : List UInt8))) = (Prod.fst (Prod.snd (Prod.snd (Prod.snd y))))) ∧
     ((((((Prod.snd (Prod.snd (Prod.snd (Prod.snd x)))) : Nat) : Int) + (1 : Int)) = (((Prod.snd (Prod.snd (Prod.snd (Prod.snd y)))) : Nat) : Int)) ∧
     (((0 : Int) = (0 : Int)) ∧
     (((0 : Int) = (0 : Int)) ∧
     ((([] : List T) = ([] : List T)) ∧
     (((13 : Int) = (Prod.fst (Prod.fst y))) ∧
     (((0 : Int) = (0 : Int)) ∧
     ((((Prod.snd (Prod.fst x)) ++ [(T.mk (T.k t) (T.n t) (T.kids t))]) = (Prod.snd (Prod.fst y))) ∧
     ((Nat.succ ((6 : Nat) - (Prod.snd (Prod.snd (Prod.snd (Prod.snd y)))))) ≤ ((6 : Nat) - (Prod.snd (Prod.snd (Prod.snd (Prod.snd x)))))))))))))))))))))))))))))))
     ((InR (2 : Int)) ∧
     (True ∧
     (∀ ss1 : (List (List UInt8)),
     ((IsShapes ss1) →
     (((3 : Int) = (3 : Int)) ∧
     ((((0 : Int) ≤ (2 : Int)) ∧ ((2 : Int) < (((List.length ss1) : Nat) : Int))) ∧
     (((∃ i : Nat, (IsShape i (List.getD ss1 (2 : Nat) ([] : List UInt8)))) ∧ ([(46 : UInt8)] = [(46 : UInt8)])) ∧
     (∀ ps1 : (List (List UInt8)),
     ((∀ i : Nat, (((2 : Nat) ≤ i) → ((IsShape i (List.getD ss1 (2 : Nat) ([] : List UInt8))) → (ps1 = (seps (((i : Nat) : Int) + (1 : Int))))))) →
     ((((0 : Int) ≤ (((Prod.snd (Prod.snd (Prod.snd (Prod.snd x)))) : Nat) : Int)) ∧
     ((((Prod.snd (Prod.snd (Prod.snd (Prod.snd x)))) : Nat) : Int) < (((List.length ps1) : Nat) : Int))) ∧
     ((InR ((((Prod.snd (Prod.snd (Prod.snd (Prod.snd x)))) : Nat) : Int) + (1 : Int))) ∧
     (∃ y : (Prod (Prod Int (List T)) (Prod (List (List UInt8)) (Prod (List UInt8) (Prod Bool Nat)))),
     ((RdInv s ((31 : Int) - d) (Prod.fst (Prod.fst y)) (Prod.snd (Prod.fst y)) (Prod.fst (Prod.snd y)) (Prod.fst (Prod.snd (Prod.snd y))) (Prod.fst (Prod.snd (Prod.snd (Prod.snd y)))) (Prod.snd (Prod.snd (Prod.snd (Prod.snd y))))) ∧
     ((s = s) ∧
     ((d = d) ∧
     ((ps1 = (Prod.fst (Prod.snd y))) ∧
     (((Go.Lib.trimPrefix rest (List.getD ps1 (Int.toNat (((Prod.snd (Prod.snd (Prod.snd (Prod.snd x)))) : Nat) : Int)) ([] : List UInt8))) = (Prod.fst (Prod.snd (Prod.snd y)))) ∧
     (((Go.Lib.hasPrefix rest (List.getD ps1 (Int.toNat (((Prod.snd (Prod.snd (Prod.snd (Prod.snd x)))) : Nat) : Int)) ([] : List UInt8))) = (Prod.fst (Prod.snd (Prod.snd (Prod.snd y))))) ∧
     ((((((Prod.snd (Prod.snd (Prod.snd (Prod.snd x)))) : Nat) : Int) + (1 : Int)) = (((Prod.snd (Prod.snd (Prod.snd (Prod.snd y)))) : Nat) : Int)) ∧
     (((0 : Int) = (0 : Int)) ∧
     (((0 : Int) = (0 : Int)) ∧
     ((([] : List T) = ([] : List T)) ∧
     (((3 : Int) = (Prod.fst (Prod.fst y))) ∧
     (((0 : Int) = (0 : Int)) ∧
     ((((Prod.snd (Prod.fst x)) ++ [(T.mk (T.k t) (T.n t) (T.kids t))]) = (Prod.snd (Prod.fst y))) ∧
     ((Nat.succ ((6 : Nat) - (Prod.snd (Prod.snd (Prod.snd (Prod.snd y)))))) ≤ ((6 : Nat) - (Prod.snd (Prod.snd (Prod.snd (Prod.snd x))))))))))))))))))))))))))))))))))
     ((((0 : Int) ≤ (((Prod.snd (Prod.snd (Prod.snd (Prod.snd x)))) : Nat) : Int)) ∧
     ((((Prod.snd (Prod.snd (Prod.snd (Prod.snd x)))) : Nat) : Int) < (((List.length (Prod.fst (Prod.snd x))) : Nat) : Int))) ∧
     ((InR ((((Prod.snd (Prod.snd (Prod.snd (Prod.snd x)))) : Nat) : Int) + (1 : Int))) ∧
     (∃ y : (Prod (Prod Int (List T)) (Prod (List (List UInt8)) (Prod (List UInt8) (Prod Bool Nat)))),
     ((RdInv s ((31 : Int) - d) (Prod.fst (Prod.fst y)) (Prod.snd (Prod.fst y)) (Prod.fst (Prod.snd y)) (Prod.fst (Prod.snd (Prod.snd y))) (Prod.fst (Prod.snd (Prod.snd (Prod.snd y)))) (Prod.snd (Prod.snd (Prod.snd (Prod.snd y))))) ∧
     ((s = s) ∧
     ((d = d) ∧
     (((Prod.fst (Prod.snd x)) = (Prod.fst (Prod.snd y))) ∧
     (((Go.Lib.trimPrefix rest (List.getD (Prod.fst (Prod.snd x)) (Int.toNat (((Prod.snd (Prod.snd (Prod.snd (Prod.snd x)))) : Nat) : Int)) ([] : List UInt8))) = (Prod.fst (Prod.snd (Prod.snd y)))) ∧
     (((Go.Lib.hasPrefix rest (List.getD (Prod.fst (Prod.snd x)) (Int.toNat (((Prod.snd (Prod.snd (Prod.snd (Prod.snd x)))) : Nat) : Int)) ([] : List UInt8))) = (Prod.fst (Prod.snd (Prod.snd (Prod.snd y))))) ∧
     ((((((Prod.snd (Prod.snd (Prod.snd (Prod.snd x)))) : Nat) : Int) + (1 : Int)) = (((Prod.snd (Prod.snd (Prod.snd (Prod.snd y)))) : Nat) : Int)) ∧
     (((0 : Int) = (0 : Int)) ∧
     (((0 : Int) = (0 : Int)) ∧
     ((([] : List T) = ([] : List T)) ∧
     (((Prod.fst (Prod.fst x)) = (Prod.fst (Prod.fst y))) ∧
     (((0 : Int) = (0 : Int)) ∧
     ((((Prod.snd (Prod.fst x)) ++ [(T.mk (T.k t) (T.n t) (T.kids t))]) = (Prod.snd (Prod.fst y))) ∧
     ((Nat.succ ((6 : Nat) - (Prod.snd (Prod.snd (Prod.snd (Prod.snd y)))))) ≤ ((6 : Nat) - (Prod.snd (Prod.snd (Prod.snd (Prod.snd x)))))))))))))))))))))))
     ((((0 : Int) ≤ (((Prod.snd (Prod.snd (Prod.snd (Prod.snd x)))) : Nat) : Int)) ∧
     ((((Prod.snd (Prod.snd (Prod.snd (Prod.snd x)))) : Nat) : Int) < (((List.length (Prod.fst (Prod.snd x))) : Nat) : Int))) ∧
     ((InR ((((Prod.snd (Prod.snd (Prod.snd (Prod.snd x)))) : Nat) : Int) + (1 : Int))) ∧
     (∃ y : (Prod (Prod Int (List T)) (Prod (List (List UInt8)) (Prod (List UInt8) (Prod Bool Nat)))),
     ((RdInv s ((31 : Int) - d) (Prod.fst (Prod.fst y)) (Prod.snd (Prod.fst y)) (Prod.fst (Prod.snd y)) (Prod.fst (Prod.snd (Prod.snd y))) (Prod.fst (Prod.snd (Prod.snd (Prod.snd y)))) (Prod.snd (Prod.snd (Prod.snd (Prod.snd y))))) ∧
     ((s = s) ∧
     ((d = d) ∧
     (((Prod.fst (Prod.snd x)) = (Prod.fst (Prod.snd y))) ∧
     (((Go.Lib.trimPrefix rest (List.getD (Prod.fst (Prod.snd x)) (Int.toNat (((Prod.snd (Prod.snd (Prod.snd (Prod.snd x)))) : Nat) : Int)) ([] : List UInt8))) = (Prod.fst (Prod.snd (Prod.snd y)))) ∧
     (((Go.Lib.hasPrefix rest (List.getD (Prod.fst (Prod.snd x)) (Int.toNat (((Prod.snd (Prod.snd (Prod.snd (Prod.snd x)))) : Nat) : Int)) ([] : List UInt8))) = (Prod.fst (Prod.snd (Prod.snd (Prod.snd y))))) ∧
     ((((((Prod.snd (Prod.snd (Prod.snd (Prod.snd x)))) : Nat) : Int) + (1 : Int)) = (((Prod.snd (Prod.snd (Prod.snd (Prod.snd y)))) : Nat) : Int)) ∧
     (((0 : Int) = (0 : Int)) ∧
     (((0 : Int) = (0 : Int)) ∧
     ((([] : List T) = ([] : List T)) ∧
     (((Prod.fst (Prod.fst x)) = (Prod.fst (Prod.fst y))) ∧
     (((0 : Int) = (0 : Int)) ∧
     ((((Prod.snd (Prod.fst x)) ++ [(T.mk (T.k t) (T.n t) (T.kids t))]) = (Prod.snd (Prod.fst y))) ∧
     ((Nat.succ ((6 : Nat) - (Prod.snd (Prod.snd (Prod.snd (Prod.snd y)))))) ≤ ((6 : Nat) - (Prod.snd (Prod.snd (Prod.snd (Prod.snd x)))))))))))))))))))))))
     ((((0 : Int) ≤ (((Prod.snd (Prod.snd (Prod.snd (Prod.snd x)))) : Nat) : Int)) ∧
     ((((Prod.snd (Prod.snd (Prod.snd (Prod.snd x)))) : Nat) : Int) < (((List.length (Prod.fst (Prod.snd x))) : Nat) : Int))) ∧
     ((InR ((((Prod.snd (Prod.snd (Prod.snd (Prod.snd x)))) : Nat) : Int) + (1 : Int))) ∧
     (∃ y : (Prod (Prod Int (List T)) (Prod (List (List UInt8)) (Prod (List UInt8) (Prod Bool Nat)))),
     ((RdInv s ((31 : Int) - d) (Prod.fst (Prod.fst y)) (Prod.snd (Prod.fst y)) (Prod.fst (Prod.snd y)) (Prod.fst (Prod.snd (Prod.snd y))) (Prod.fst (Prod.snd (Prod.snd (Prod.snd y)))) (Prod.snd (Prod.snd (Prod.snd (Prod.snd y))))) ∧
     ((s = s) ∧
     ((d = d) ∧
     (((Prod.fst (Prod.snd x)) = (Prod.fst (Prod.snd y))) ∧
     (((Go.Lib.trimPrefix rest (List.getD (Prod.fst (Prod.snd x)) (Int.toNat (((Prod.snd (Prod.snd (Prod.snd (Prod.snd x)))) : Nat) : Int)) ([] : List UInt8))) = (Prod.fst (Prod.snd (Prod.snd y)))) ∧
     (((Go.Lib.hasPrefix rest (List.getD (Prod.fst (Prod.snd x)) (Int.toNat (((Prod.snd (Prod.snd (Prod.snd (Prod.snd x)))) : Nat) : Int)) ([] : List UInt8))) = (Prod.fst (Prod.snd (Prod.snd (Prod.snd y))))) ∧
     ((((((Prod.snd (Prod.snd (Prod.snd (Prod.snd x)))) : Nat) : Int) + (1 : Int)) = (((Prod.snd (Prod.snd (Prod.snd (Prod.snd y)))) : Nat) : Int)) ∧
     (((0 : Int) = (0 : Int)) ∧
     (((0 : Int) = (0 : Int)) ∧
     ((([] : List T) = ([] : List T)) ∧
     (((Prod.fst (Prod.fst x)) = (Prod.fst (Prod.fst y))) ∧
     (((0 : Int) = (0 : Int)) ∧
     ((((Prod.snd (Prod.fst x)) ++ [(T.mk (T.k t) (T.n t) (T.kids t))]) = (Prod.snd (Prod.fst y))) ∧
     ((Nat.succ ((6 : Nat) - (Prod.snd (Prod.snd (Prod.snd (Prod.snd y)))))) ≤ ((6 : Nat) - (Prod.snd (Prod.snd (Prod.snd (Prod.snd x)))))))))))))))))))))))))))))))))))
     (Ret K (.tup [(.st [(.int .i64 (Prod.fst (Prod.fst x))), (.int .i64 0), (.slc (Prod.snd (Prod.fst x)) (.iv 4 4 true (.tok 0)))]), (.str (Prod.fst (Prod.snd (Prod.snd x)))), (.bool (Prod.fst (Prod.snd (Prod.snd (Prod.snd x)))))]) []))
     (Ret K (.tup [(.st [(.int .i64 (Prod.fst (Prod.fst x))), (.int .i64 0), (.slc (Prod.snd (Prod.fst x)) (.iv 4 4 true (.tok 0)))]), (.str (Prod.fst (Prod.snd (Prod.snd x)))), (.bool (Prod.fst (Prod.snd (Prod.snd (Prod.snd x)))))]) [])))))))))))))))))))))) ?_ (by kernel_rfl)
  obtain ⟨hl, hd1, hd2⟩ := hp
  have zero : fndR s (31 - d) (.mk 0 0 []) [] false → Ret K (.tup [.st [.int .i64 0, .int .i64 0, .slc [] (.iv 0 0 true .full)], .str [], .bool false]) [] := fun h => retTSB (hk (.mk 0 0 []) [] false (by simp only [T.size, sizeL]; omega) (fun h => by cases h) (Nat.zero_le _) h) rfl rfl rfl
  have ed : 31 - d - 1 = 31 - (d + 1) := by omega
  refine ⟨trivial, fun k hA => brd (fun c0 => zero (fun u r hu hr h => ?_)) (fun c0 => brd (fun c30 => zero (fun u r hu hr h => ?_)) (fun c30 => ?_))⟩
  · have := kAt_fact hA hu h; have := shp_k hu; omega
  · have := shp_k hu; omega
  have hs : s ≠ [] := by rcases hA with ⟨_, h⟩ | ⟨h, _⟩ <;> first | exact h | omega
  have hs1 : 1 ≤ s.length := List.length_pos_iff.2 hs
  have num : ∀ (v : Int) (rest : List UInt8), k = 1 ∨ k = 2 → InR v → rest.length ≤ (List.drop 1 s).length → (∀ (m1 : Int) (r : List UInt8), 0 ≤ m1 → m1 ≤ 20 → nd r → List.drop 1 s = decD m1 ++ r → v = m1 ∧ rest = r) →
      Ret K (.tup [.st [.int .i64 k, .int .i64 v, .slc [] (.iv 0 0 true .full)], .str rest, .bool (decide (0 ≤ v))]) [] := fun v rest hk' hv hr0 hn => by
    rw [List.length_drop] at hr0
    refine retTSB (hk (.mk k v []) rest _ (by simp only [T.size, sizeL]; omega) (fun _ => by simp only [T.size, sizeL]; omega) (by omega) (fun u r hu hr h => ?_)) rfl rfl rfl
    have hf := frm hu
    have hka := kAt_fact hA hu h
    subst h
    cases hf
    all_goals
      simp only [T.k] at hka
      first | omega | skip
    all_goals
      simp only [tx1, tx2, List.cons_append, List.drop_succ_cons, List.drop_zero] at hn
      obtain ⟨n1, n2⟩ := hn _ r (by assumption) (by omega) hr rfl
      subst n1
      rcases hka with rfl | hka
      · exact ⟨rfl, n2, decide_eq_true (by assumption)⟩
      · omega
  refine brd (fun c1 => ⟨⟨by omega, by omega⟩, by rw [List.length_drop]; omega, fun v rest hv hr0 hn => num v rest (.inl c1) hv hr0 hn⟩) (fun c1 => ?_)
  refine brd (fun c2 => ⟨⟨by omega, by omega⟩, by rw [List.length_drop]; omega, fun v rest hv hr0 hn => num v rest (.inr c2) hv hr0 hn⟩) (fun c2 => ⟨trivial, fun ss hss => ?_⟩)
  have hss : ss = shapesL := hss
  subst hss
  have h16 : shapesL.length = 16 := rfl
  have k3 : 3 ≤ k ∧ k ≤ 16 := by rcases hA with ⟨_, h⟩ | ⟨_, ⟨h, _⟩ | ⟨h, _⟩⟩ <;> omega
  have ek : ((k - 1).toNat : Int) + 1 = k := by omega
  refine ⟨by unfold InR; omega, ⟨by omega, by rw [h16]; omega⟩, ⟨⟨(k - 1).toNat, by omega, rfl⟩, rfl⟩, fun ps hps => ?_⟩
  have hps : ps = seps k := by rw [hps (k - 1).toNat (by omega) ⟨by omega, rfl⟩, ek]
  have hpl := (seps_pos (k := k) ⟨by omega, k3.2⟩).1
  rw [← hps] at hpl
  refine ⟨⟨by omega, by omega⟩, ⟨((k, []), ps, _, _, 1), rd_start hA k3 hps, rfl, rfl, rfl, rfl, rfl, rfl, rfl, rfl, rfl, rfl, rfl, rfl, trivial⟩, ?_⟩
  clear hpl k3 ek hA num
  rintro ⟨⟨k, ts⟩, ps, rest, b, i⟩ I
  simp only at I
  simp only [T.eta, Int.toNat_natCast]
  have i1 := I.i1
  have i5 := I.i5
  have k3 := I.k3
  have hsz := I.sz
  have hln := I.len
  have done : ¬ i < ps.length ∨ b = false → Ret K (.tup [.st [.int .i64 k, .int .i64 0, .slc ts (.iv 4 4 true (.tok 0))], .str rest, .bool b]) [] := fun h =>
    retTSB (hk (.mk k 0 ts) rest b (by show 1 + sizeL ts ≤ _; omega) (fun hb => by have := I.szb hb; show 1 + sizeL ts + _ ≤ _; omega) (by omega) (rd_end I h)) rfl rfl rfl
  refine brd (fun g => br (fun hb => ?_) (fun hb => done (.inr hb))) (fun g => done (.inl (by omega)))
  have hi : i < ps.length := by omega
  refine ⟨by unfold InR; omega, ⟨by omega, by omega, by omega, by omega⟩, fun t behind fine hz1 hz2 hz3 hf => ?_⟩
  rw [← ed] at hf
  refine br (fun hfine => ?_) (fun hfine => ?_)
  · have : fine = false := by simpa using hfine
    rw [this] at hf
    exact zero (rd_bad I hi hf)
  have hfine : fine = true := by simpa using hfine
  rw [hfine] at hf
  have hz := hz2 hfine
  have e0 : Int.toNat 0 = 0 := rfl
  rw [e0]
  have e1 : ((i : Int) + 1) = ((i + 1 : Nat) : Int) := rfl
  -- the next state, by the kind
  have next : ∀ (k2 : Int) (ps2 : List (List UInt8)), 3 ≤ k2 ∧ k2 ≤ 16 → ps2 = seps k2 → i < ps2.length →
      (∀ (u : T) (r x : List UInt8), u.shp (31 - d) = true → nd r → s = u.text ++ r → (k = u.k ∨ i = 1 ∧ k = 3 ∧ (u.k = 5 ∨ u.k = 13)) → 3 ≤ u.k → behind = (seps u.k).getD i [] ++ x → k2 = u.k) →
      RdInv s (31 - d) k2 (ts ++ [t]) ps2 (Lib.trimPrefix behind (ps2.getD i [])) (Lib.hasPrefix behind (ps2.getD i [])) (i + 1) := fun k2 ps2 h1 h2 h3 h4 => rd_step I hb hi h3 hf hz h1 h2 h4
  have f40 : ∀ (u : T) (r : List UInt8), u.shp (31 - d) = true → s = u.text ++ r → (((s.getD 0 0).toNat : Int) = 40 ↔ (u.k = 3 ∨ u.k = 5 ∨ u.k = 13)) := fun u r hu h => by
    obtain ⟨u1, u2, _⟩ := shp_k hu
    rw [(first_fact hu h).2]
    have tab : ∀ j, j < 16 → (((firsts.getD j 0).toNat : Int) = 40 ↔ (j = 2 ∨ j = 4 ∨ j = 12)) := by decide +kernel
    rw [tab _ (by omega)]
    omega
  have mid : ∀ (u : T) (x : List UInt8), (u.k = 3 ∨ u.k = 5 ∨ u.k = 13) → i = 1 → behind = (seps u.k).getD i [] ++ x → behind ≠ [] ∧ ((behind.getD 0 0).toNat : Int) = (if u.k = 3 then 62 else if u.k = 5 then 32 else 42) := fun u x hu h1 h => by
    subst h1
    rcases hu with e | e | e <;> (rw [e] at h ⊢; subst h; exact ⟨List.cons_ne_nil _ _, rfl⟩)
  have hwr : (i : Int) + 1 ≤ 9223372036854775807 := by omega
  refine ⟨by omega, ⟨by omega, by omega⟩, brd (fun h40 => brd (fun hi1 => brd (fun hne => ⟨⟨by omega, by have := List.length_pos_iff.2 (show behind ≠ [] from hne); omega⟩, ?_⟩) (fun hne => ?_)) (fun hi1 => ?_)) (fun h40 => ?_)⟩
  · have hi1 : i = 1 := by omega
    have take : ∀ (j : Nat), (2 ≤ j ∧ j < 16) → (seps ((j : Int) + 1)).length = 3 → (∀ (u : T), (u.k = 3 ∨ u.k = 5 ∨ u.k = 13) → ((behind.getD 0 0).toNat : Int) = (if u.k = 3 then 62 else if u.k = 5 then 32 else 42) → (j : Int) + 1 = u.k) → ∀ ps1 : List (List UInt8), (∀ (i : Nat), 2 ≤ i → IsShape i (shapesL.getD j []) → ps1 = seps ((i : Int) + 1)) →
        i < ps1.length ∧ RdInv s (31 - d) ((j : Int) + 1) (ts ++ [t]) ps1 (Lib.trimPrefix behind (ps1.getD i [])) (Lib.hasPrefix behind (ps1.getD i [])) (i + 1) := fun j hj hl3 hu ps1 h1 => by
      have h2 := h1 j hj.1 ⟨hj.2, rfl⟩
      have h3 : i < ps1.length := by rw [h2, hl3]; omega
      refine ⟨h3, next _ _ ⟨by omega, by omega⟩ h2 h3 (fun u r x hu1 hr h4 _ _ h5 => ?_)⟩
      have hk4 := (f40 u r hu1 h4).1 h40
      exact hu u hk4 (mid u x hk4 hi1 h5).2
    refine brd (fun h32 => ⟨by unfold InR; omega, trivial, fun ss1 hs1 => ?_⟩) (fun h32 => brd (fun h42 => ⟨by unfold InR; omega, trivial, fun ss1 hs1 => ?_⟩) (fun h42 => ⟨by unfold InR; omega, trivial, fun ss1 hs1 => ?_⟩))
    · have hs1 : ss1 = shapesL := hs1
      subst hs1
      refine ⟨(by first | exact rfl | exact True.intro), ⟨by omega, by rw [h16]; omega⟩, ⟨⟨4, by omega, rfl⟩, (by first | exact rfl | exact True.intro)⟩, fun ps1 h1 => ?_⟩
      obtain ⟨q1, q2⟩ := take 4 ⟨by omega, by omega⟩ rfl (fun u h1 h2 => by rw [h32] at h2; split at h2 <;> (try split at h2) <;> omega) ps1 h1
      exact ⟨⟨by omega, by omega⟩, by unfold InR; omega, ((5, _), _, _, _, i + 1), q2, (by first | exact rfl | exact True.intro), (by first | exact rfl | exact True.intro), (by first | exact rfl | exact True.intro), (by first | exact rfl | exact True.intro), (by first | exact rfl | exact True.intro), (by first | exact rfl | exact True.intro), (by first | exact rfl | exact True.intro), (by first | exact rfl | exact True.intro), (by first | exact rfl | exact True.intro), (by first | exact rfl | exact True.intro), (by first | exact rfl | exact True.intro), (by first | exact rfl | exact True.intro), by show (6 - (i + 1)).succ ≤ 6 - i; omega⟩
    · have hs1 : ss1 = shapesL := hs1
      subst hs1
      refine ⟨(by first | exact rfl | exact True.intro), ⟨by omega, by rw [h16]; omega⟩, ⟨⟨12, by omega, rfl⟩, (by first | exact rfl | exact True.intro)⟩, fun ps1 h1 => ?_⟩
      obtain ⟨q1, q2⟩ := take 12 ⟨by omega, by omega⟩ rfl (fun u h1 h2 => by rw [h42] at h2; split at h2 <;> (try split at h2) <;> omega) ps1 h1
      exact ⟨⟨by omega, by omega⟩, by unfold InR; omega, ((13, _), _, _, _, i + 1), q2, (by first | exact rfl | exact True.intro), (by first | exact rfl | exact True.intro), (by first | exact rfl | exact True.intro), (by first | exact rfl | exact True.intro), (by first | exact rfl | exact True.intro), (by first | exact rfl | exact True.intro), (by first | exact rfl | exact True.intro), (by first | exact rfl | exact True.intro), (by first | exact rfl | exact True.intro), (by first | exact rfl | exact True.intro), (by first | exact rfl | exact True.intro), (by first | exact rfl | exact True.intro), by show (6 - (i + 1)).succ ≤ 6 - i; omega⟩
    · have hs1 : ss1 = shapesL := hs1
      subst hs1
      refine ⟨(by first | exact rfl | exact True.intro), ⟨by omega, by rw [h16]; omega⟩, ⟨⟨2, by omega, rfl⟩, (by first | exact rfl | exact True.intro)⟩, fun ps1 h1 => ?_⟩
      obtain ⟨q1, q2⟩ := take 2 ⟨by omega, by omega⟩ rfl (fun u h1 h2 => by rcases h1 with h | h | h <;> rw [h] at h2 ⊢ <;> first | rfl | exact absurd h2 (by assumption)) ps1 h1
      exact ⟨⟨by omega, by omega⟩, by unfold InR; omega, ((3, _), _, _, _, i + 1), q2, (by first | exact rfl | exact True.intro), (by first | exact rfl | exact True.intro), (by first | exact rfl | exact True.intro), (by first | exact rfl | exact True.intro), (by first | exact rfl | exact True.intro), (by first | exact rfl | exact True.intro), (by first | exact rfl | exact True.intro), (by first | exact rfl | exact True.intro), (by first | exact rfl | exact True.intro), (by first | exact rfl | exact True.intro), (by first | exact rfl | exact True.intro), (by first | exact rfl | exact True.intro), by show (6 - (i + 1)).succ ≤ 6 - i; omega⟩
  all_goals
    refine ⟨⟨by omega, by omega⟩, by unfold InR; omega, ((k, _), _, _, _, i + 1), next k ps k3 I.ps hi (fun u r x hu1 hr h4 h5 h6 h7 => ?_), (by first | exact rfl | exact True.intro), (by first | exact rfl | exact True.intro), (by first | exact rfl | exact True.intro), (by first | exact rfl | exact True.intro), (by first | exact rfl | exact True.intro), (by first | exact rfl | exact True.intro), (by first | exact rfl | exact True.intro), (by first | exact rfl | exact True.intro), (by first | exact rfl | exact True.intro), (by first | exact rfl | exact True.intro), (by first | exact rfl | exact True.intro), (by first | exact rfl | exact True.intro), by show (6 - (i + 1)).succ ≤ 6 - i; omega⟩
    have hf4 := f40 u r hu1 h4
  · have hk4 := hf4.1 h40
    exact absurd (mid u x hk4 (by omega) h7).1 hne
  · omega
  · rcases h5 with h5 | h5
    · exact h5
    · exact absurd (hf4.2 (by omega)) h40
theorem iReadTerm_soundM : ∀ m : Nat, Sound Tryd.prog 26 (ciReadTermM m)
  | 0 => by
      refine soundF (G := []) gnil Tryd.func26 rfl (by kernel_rfl) fun args hs K hCC => ?_
      unfold ciReadTermM at hCC
      split at hCC
      case h_2 => exact hCC.elim
      exact absurd hCC.1.1 (Nat.not_lt_zero _)
  | m + 1 => by
      refine soundF (G := [(26, ciReadTermM m), (50, ciKindAt), (51, ciReadNumber), (53, ciShapes), (52, cSplit), (54, cCut)]) ((gcons (iReadTerm_soundM m) (gcons iKindAt_sound (gcons iReadNumber_sound (gcons iShapes_sound (gcons Split_sound (gcons Cut_sound gnil))))))) Tryd.func26 rfl (by kernel_rfl) fun args hs K hCC => ?_
      unfold ciReadTermM at hCC
      split at hCC
      case h_2 => exact hCC.elim
      rename_i s d
      exact ⟨Nat.le_of_ble_eq_true rfl, _, iReadTerm_ok m s d K hCC.1.1 hCC.1.2 hCC.2⟩
theorem iReadTerm_sound : Sound Tryd.prog 26 ciReadTerm := by
  refine sound_of_all (c := ciReadTermM) (fun m => (iReadTerm_soundM m)) fun args hs K hCC => ?_
  unfold ciReadTerm at hCC
  split at hCC
  case h_2 => exact hCC.elim
  exact ⟨_, ⟨Nat.lt_succ_self _, hCC.1⟩, hCC.2⟩
end Go.Dk
