/- Texts of terms. -/
import Derived.Test.YteamklllllembaaDoorTv
namespace Go.Dk
set_option linter.unusedVariables false
/-- Decimal digits of a small number. -/
def decD (n : Int) : List UInt8 := if n ≤ 9 then [UInt8.ofNat (48 + n.toNat)] else [UInt8.ofNat (48 + n.toNat / 10), UInt8.ofNat (48 + n.toNat % 10)]
/-- What stands ahead of a kind's operands, between them and behind them. -/
def seps (k : Int) : List (List UInt8) :=
  if k = 1 then [[35]] else if k = 2 then [[42]] else if k = 3 then [[40], [62], [41]] else if k = 4 then [[91], [93], []] else if k = 5 then [[40], [32], [41]] else if k = 6 then [[78]] else if k = 7 then [[48]] else
  if k = 8 then [[43], []] else if k = 9 then [[60], [44], [44], [44], [62]] else if k = 10 then [[123], [44], [44], [125]] else if k = 11 then [[33], []] else if k = 12 then [[64, 60], [44], [44], [62]] else
  if k = 13 then [[40], [42], [41]] else if k = 14 then [[124], [44], [44], [124]] else if k = 15 then [[94], []] else if k = 16 then [[95], []] else []
mutual
def T.text : T → List UInt8
  | .mk k n ts => if k = 1 then 35 :: decD n else if k = 2 then 42 :: decD n else (seps k).headD [] ++ textL (seps k).tail ts
def textL : List (List UInt8) → List T → List UInt8
  | p :: ps, t :: ts => t.text ++ (p ++ textL ps ts)
  | _, _ => []
end
/-- The forms of well-formed terms. -/
inductive Frm : T → Int → Prop where
  | var {n d : Int} : 0 ≤ n → n ≤ 20 → 1 ≤ d → Frm (.mk 1 n []) d
  | sort {n d : Int} : 0 ≤ n → n ≤ 3 → 1 ≤ d → Frm (.mk 2 n []) d
  | pi {a b : T} {d : Int} : a.shp (d - 1) = true → b.shp (d - 1) = true → 1 ≤ d → Frm (.mk 3 0 [a, b]) d
  | lam {a b : T} {d : Int} : a.shp (d - 1) = true → b.shp (d - 1) = true → 1 ≤ d → Frm (.mk 4 0 [a, b]) d
  | app {a b : T} {d : Int} : a.shp (d - 1) = true → b.shp (d - 1) = true → 1 ≤ d → Frm (.mk 5 0 [a, b]) d
  | nat {d : Int} : 1 ≤ d → Frm (.mk 6 0 []) d
  | zero {d : Int} : 1 ≤ d → Frm (.mk 7 0 []) d
  | succ {a : T} {d : Int} : a.shp (d - 1) = true → 1 ≤ d → Frm (.mk 8 0 [a]) d
  | elim {a b c e : T} {d : Int} : a.shp (d - 1) = true → b.shp (d - 1) = true → c.shp (d - 1) = true → e.shp (d - 1) = true → 1 ≤ d → Frm (.mk 9 0 [a, b, c, e]) d
  | id {a b c : T} {d : Int} : a.shp (d - 1) = true → b.shp (d - 1) = true → c.shp (d - 1) = true → 1 ≤ d → Frm (.mk 10 0 [a, b, c]) d
  | refl {a : T} {d : Int} : a.shp (d - 1) = true → 1 ≤ d → Frm (.mk 11 0 [a]) d
  | move {a b c : T} {d : Int} : a.shp (d - 1) = true → b.shp (d - 1) = true → c.shp (d - 1) = true → 1 ≤ d → Frm (.mk 12 0 [a, b, c]) d
  | sig {a b : T} {d : Int} : a.shp (d - 1) = true → b.shp (d - 1) = true → 1 ≤ d → Frm (.mk 13 0 [a, b]) d
  | pair {a b c : T} {d : Int} : a.shp (d - 1) = true → b.shp (d - 1) = true → c.shp (d - 1) = true → 1 ≤ d → Frm (.mk 14 0 [a, b, c]) d
  | fst {a : T} {d : Int} : a.shp (d - 1) = true → 1 ≤ d → Frm (.mk 15 0 [a]) d
  | snd {a : T} {d : Int} : a.shp (d - 1) = true → 1 ≤ d → Frm (.mk 16 0 [a]) d
theorem frm : ∀ {u : T} {d : Int}, u.shp d = true → Frm u d
  | .mk k n ts, d, h => by
    simp only [T.shp, rootOk, Bool.and_eq_true, decide_eq_true_eq] at h
    obtain ⟨h0, ⟨h1, h2, h3⟩, h4⟩ := h
    have hk : 1 ≤ k ∧ k ≤ 16 := by
      unfold arity at h1
      repeat' split at h1
      all_goals omega
    have e : k = 1 ∨ k = 2 ∨ k = 3 ∨ k = 4 ∨ k = 5 ∨ k = 6 ∨ k = 7 ∨ k = 8 ∨ k = 9 ∨ k = 10 ∨ k = 11 ∨ k = 12 ∨ k = 13 ∨ k = 14 ∨ k = 15 ∨ k = 16 := by omega
    rcases e with rfl | rfl | rfl | rfl | rfl | rfl | rfl | rfl | rfl | rfl | rfl | rfl | rfl | rfl | rfl | rfl
    all_goals
      simp [arity, mostN] at h1 h3
      rcases ts with _ | ⟨a, _ | ⟨b, _ | ⟨c, _ | ⟨e, _ | ⟨f, ts⟩⟩⟩⟩⟩
      all_goals first
        | (exfalso; simp only [List.length_cons, List.length_nil] at h1; omega)
        | (simp only [shpL, Bool.and_eq_true, and_true] at h4
           first
             | exact .var h2 h3 h0
             | exact .sort h2 h3 h0
             | (obtain rfl : n = 0 := by omega
                first
                  | exact .pi h4.1 h4.2 h0
                  | exact .lam h4.1 h4.2 h0
                  | exact .app h4.1 h4.2 h0
                  | exact .nat h0
                  | exact .zero h0
                  | exact .succ h4 h0
                  | exact .elim h4.1 h4.2.1 h4.2.2.1 h4.2.2.2 h0
                  | exact .id h4.1 h4.2.1 h4.2.2 h0
                  | exact .refl h4 h0
                  | exact .move h4.1 h4.2.1 h4.2.2 h0
                  | exact .sig h4.1 h4.2 h0
                  | exact .pair h4.1 h4.2.1 h4.2.2 h0
                  | exact .fst h4 h0
                  | exact .snd h4 h0))
section
variable (n : Int) (a b c e : T)
theorem tx1 : (T.mk 1 n []).text = 35 :: decD n := rfl
theorem tx2 : (T.mk 2 n []).text = 42 :: decD n := rfl
theorem tx3 : (T.mk 3 n [a, b]).text = 40 :: (a.text ++ 62 :: (b.text ++ [41])) := by simp [T.text, textL, seps]
theorem tx4 : (T.mk 4 n [a, b]).text = 91 :: (a.text ++ 93 :: b.text) := by simp [T.text, textL, seps]
theorem tx5 : (T.mk 5 n [a, b]).text = 40 :: (a.text ++ 32 :: (b.text ++ [41])) := by simp [T.text, textL, seps]
theorem tx6 : (T.mk 6 n []).text = [78] := rfl
theorem tx7 : (T.mk 7 n []).text = [48] := rfl
theorem tx8 : (T.mk 8 n [a]).text = 43 :: a.text := by simp [T.text, textL, seps]
theorem tx9 : (T.mk 9 n [a, b, c, e]).text = 60 :: (a.text ++ 44 :: (b.text ++ 44 :: (c.text ++ 44 :: (e.text ++ [62])))) := by simp [T.text, textL, seps]
theorem tx10 : (T.mk 10 n [a, b, c]).text = 123 :: (a.text ++ 44 :: (b.text ++ 44 :: (c.text ++ [125]))) := by simp [T.text, textL, seps]
theorem tx11 : (T.mk 11 n [a]).text = 33 :: a.text := by simp [T.text, textL, seps]
theorem tx12 : (T.mk 12 n [a, b, c]).text = 64 :: 60 :: (a.text ++ 44 :: (b.text ++ 44 :: (c.text ++ [62]))) := by simp [T.text, textL, seps]
theorem tx13 : (T.mk 13 n [a, b]).text = 40 :: (a.text ++ 42 :: (b.text ++ [41])) := by simp [T.text, textL, seps]
theorem tx14 : (T.mk 14 n [a, b, c]).text = 124 :: (a.text ++ 44 :: (b.text ++ 44 :: (c.text ++ [124]))) := by simp [T.text, textL, seps]
theorem tx15 : (T.mk 15 n [a]).text = 94 :: a.text := by simp [T.text, textL, seps]
theorem tx16 : (T.mk 16 n [a]).text = 95 :: a.text := by simp [T.text, textL, seps]
end
theorem decD_len (n : Int) : 1 ≤ (decD n).length ∧ (decD n).length ≤ 2 := by unfold decD; split <;> simp
/-- The kinds, one by one. -/
theorem kinds {P : Int → Prop} (h : ∀ i : Nat, i < 16 → P (i + 1)) (h0 : ∀ k, ¬ (1 ≤ k ∧ k ≤ 16) → P k) (k : Int) : P k := by
  by_cases hk : 1 ≤ k ∧ k ≤ 16
  · obtain ⟨i, hi⟩ := Int.eq_ofNat_of_zero_le (by omega : 0 ≤ k - 1)
    have e : k = i + 1 := by omega
    rw [e]; exact h i (by omega)
  · exact h0 k hk
theorem seps_none {k : Int} (h : ¬ (1 ≤ k ∧ k ≤ 16)) : seps k = [] := by
  unfold seps
  rw [if_neg (by omega), if_neg (by omega), if_neg (by omega), if_neg (by omega), if_neg (by omega), if_neg (by omega), if_neg (by omega), if_neg (by omega), if_neg (by omega), if_neg (by omega), if_neg (by omega), if_neg (by omega), if_neg (by omega), if_neg (by omega), if_neg (by omega), if_neg (by omega)]
theorem seps_len (k : Int) : ((seps k).headD []).length ≤ 2 ∧ ∀ p ∈ (seps k).tail, p.length ≤ 1 :=
  kinds (P := fun k => ((seps k).headD []).length ≤ 2 ∧ ∀ p ∈ (seps k).tail, p.length ≤ 1) (by decide +kernel) (fun k h => by rw [seps_none h]; exact ⟨by simp, by simp⟩) k
theorem arity_none {k : Int} (h : ¬ (1 ≤ k ∧ k ≤ 16)) : arity k = -1 := by
  unfold arity
  rw [if_neg (by omega), if_neg (by omega), if_neg (by omega), if_neg (by omega), if_neg (by omega)]
theorem seps_arity (k : Int) : k = 1 ∨ k = 2 ∨ arity k = -1 ∨ (1 ≤ ((seps k).headD []).length ∧ arity k = (seps k).tail.length) :=
  kinds (P := fun k => k = 1 ∨ k = 2 ∨ arity k = -1 ∨ (1 ≤ ((seps k).headD []).length ∧ arity k = (seps k).tail.length)) (by decide +kernel) (fun k h => .inr (.inr (.inl (arity_none h)))) k
mutual
/-- Each node gives some bytes. -/
theorem T.text_le : ∀ t : T, t.text.length + 1 ≤ 4 * t.size
  | .mk k n ts => by
    unfold T.text T.size
    have := decD_len n
    obtain ⟨h1, h2⟩ := seps_len k
    have h3 := textL_le ((seps k).tail) ts h2
    split
    · simp; omega
    · split
      · simp; omega
      · rw [List.length_append]; omega
theorem textL_le : ∀ (ps : List (List UInt8)) (ts : List T), (∀ p ∈ ps, p.length ≤ 1) → (textL ps ts).length ≤ 4 * sizeL ts
  | [], [], _ => by simp [textL]
  | [], _ :: _, _ => by simp [textL]
  | _ :: _, [], _ => by simp [textL]
  | p :: ps, t :: ts, h => by
    have h1 := t.text_le
    have h2 := textL_le ps ts fun q hq => h q (by simp [hq])
    have h3 := h p (by simp)
    simp only [textL, List.length_append, sizeL]; omega
end
mutual
/-- A well-formed term's text has at least as many bytes as the term has nodes. -/
theorem T.text_ge : ∀ (t : T) (d : Int), t.shp d = true → t.size ≤ t.text.length
  | .mk k n ts, d, h => by
    have hr := T.shp_root h
    have hs := T.shp_kids h
    have hd := decD_len n
    have e : k = 1 ∨ k = 2 ∨ ((k ≠ 1 ∧ k ≠ 2) ∧ 1 ≤ ((seps k).headD []).length ∧ ts.length ≤ (seps k).tail.length) := by
      have h1 := hr.1
      rcases seps_arity k with e | e | e | ⟨e, e'⟩
      · exact .inl e
      · exact .inr (.inl e)
      · omega
      · by_cases k1 : k = 1
        · exact .inl k1
        · by_cases k2 : k = 2
          · exact .inr (.inl k2)
          · exact .inr (.inr ⟨⟨k1, k2⟩, e, by omega⟩)
    unfold T.text T.size
    rcases e with rfl | rfl | ⟨⟨e1, e2⟩, e3, e4⟩
    · have : ts = [] := List.length_eq_zero_iff.1 (by have := hr.1; simp [arity] at this; omega)
      subst this; simp [sizeL]
    · have : ts = [] := List.length_eq_zero_iff.1 (by have := hr.1; simp [arity] at this; omega)
      subst this; simp [sizeL]
    · rw [if_neg e1, if_neg e2, List.length_append]
      have := textL_ge _ ts _ e4 hs
      omega
theorem textL_ge : ∀ (ps : List (List UInt8)) (ts : List T) (d : Int), ts.length ≤ ps.length → shpL ts d = true → sizeL ts ≤ (textL ps ts).length
  | _, [], _, _, _ => by simp [sizeL]
  | [], _ :: _, _, h, _ => by simp at h
  | p :: ps, t :: ts, d, h, hs => by
    simp only [shpL, Bool.and_eq_true] at hs
    have h1 := t.text_ge d hs.1
    have h2 := textL_ge ps ts d (by simpa using h) hs.2
    simp only [textL, List.length_append, sizeL]; omega
end
/-- It does not go on with a digit. -/
def nd (r : List UInt8) : Prop := ∀ c, r.head? = some c → c < 48 ∨ 57 < c
/-- Texts with commas between them. -/
def sufL : Bool → List T → List UInt8
  | _, [] => []
  | true, t :: ts => t.text ++ sufL false ts
  | false, t :: ts => 44 :: (t.text ++ sufL false ts)
def commaT (ts : List T) : List UInt8 := sufL true ts
theorem nd_nil : nd [] := fun c h => by cases h
theorem nd_cons {c : UInt8} {r : List UInt8} (h : c < 48 ∨ 57 < c) : nd (c :: r) := fun x hx => by cases hx; exact h
/-- What is behind a prefix. -/
theorem drop_after {l x r : List UInt8} {a : Nat} (h : l.drop a = x ++ r) (ha : a ≤ l.length) : l.drop (l.length - r.length) = r ∧ l.length - r.length = a + x.length ∧ a + x.length + r.length = l.length := by
  have hl : (l.drop a).length = x.length + r.length := by rw [h, List.length_append]
  rw [List.length_drop] at hl
  have e : l.length - r.length = a + x.length := by omega
  refine ⟨?_, e, by omega⟩
  rw [e, ← List.drop_drop, h, List.drop_append_of_le_length (Nat.le_refl _), List.drop_length, List.nil_append]
theorem drop_head {l r : List UInt8} {c : UInt8} {a : Nat} (h : l.drop a = c :: r) : a < l.length ∧ l.getD a 0 = c ∧ l.drop (a + 1) = r := by
  have ha : a < l.length := by
    by_cases ha : a < l.length
    · exact ha
    · rw [List.drop_eq_nil_of_le (by omega)] at h; cases h
  rw [List.drop_eq_getElem_cons ha] at h
  obtain ⟨h1, h2⟩ := List.cons.inj h
  exact ⟨ha, by rw [List.getD_eq_getElem?_getD, List.getElem?_eq_getElem ha]; exact h1, h2⟩
/-- A parser's answer is right wherever there is a term's text. -/
def fnd (l : List UInt8) (a d : Int) (t : T) (e : Int) : Prop := ∀ (u : T) (r : List UInt8), u.shp d = true → nd r → l.drop a.toNat = u.text ++ r → t = u ∧ e = (l.length : Int) - r.length
theorem decD_facts {m : Int} (h0 : 0 ≤ m) (h1 : m ≤ 99) : (m ≤ 9 ∧ (decD m).length = 1 ∧ (((decD m).getD 0 0).toNat : Int) = 48 + m) ∨ (9 < m ∧ (decD m).length = 2 ∧ (((decD m).getD 0 0).toNat : Int) = 48 + m / 10 ∧ (((decD m).getD 1 0).toNat : Int) = 48 + m % 10) := by
  obtain ⟨k, rfl⟩ := Int.eq_ofNat_of_zero_le h0
  unfold decD
  by_cases h : (k : Int) ≤ 9
  · rw [if_pos h]
    refine .inl ⟨h, rfl, ?_⟩
    simp only [List.getD_cons_zero, UInt8.toNat_ofNat', Int.toNat_natCast]
    omega
  · rw [if_neg h]
    refine .inr ⟨by omega, rfl, ?_, ?_⟩
    · simp only [List.getD_cons_zero, UInt8.toNat_ofNat', Int.toNat_natCast]
      omega
    · simp only [List.getD_cons_succ, List.getD_cons_zero, UInt8.toNat_ofNat', Int.toNat_natCast]
      omega
theorem sufL_le : ∀ (b : Bool) (ts : List T), (sufL b ts).length ≤ 4 * sizeL ts
  | true, [] => by simp [sufL]
  | false, [] => by simp [sufL]
  | true, t :: ts => by
    have := t.text_le
    have := sufL_le false ts
    simp only [sufL, sizeL, List.length_append]; omega
  | false, t :: ts => by
    have := t.text_le
    have := sufL_le false ts
    simp only [sufL, sizeL, List.length_append, List.length_cons]; omega
theorem commaT_le (ts : List T) : (commaT ts).length ≤ 4 * sizeL ts := sufL_le true ts
theorem shpL2 {a b c : T} {d : Int} (h1 : a.shp d = true) (h2 : b.shp d = true) (h3 : c.shp d = true) : shpL [a, b, c] d = true := by simp [shpL, h1, h2, h3]
theorem shpL3 {a b c e : T} {d : Int} (h1 : a.shp d = true) (h2 : b.shp d = true) (h3 : c.shp d = true) (h4 : e.shp d = true) : shpL [a, b, c, e] d = true := by simp [shpL, h1, h2, h3, h4]
end Go.Dk
