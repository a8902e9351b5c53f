/- Reading texts: what a reader's answers mean. -/
import Derived.Test.YteamklllllembaaDoorTx
namespace Go.Dk
set_option linter.unusedVariables false
theorem hd1 {l x : List UInt8} {a : Int} {c : UInt8} (ha : 0 ≤ a) (h : l.drop a.toNat = c :: x) : a < l.length ∧ ((l.getD a.toNat 0).toNat : Int) = c.toNat ∧ l.drop (a + 1).toNat = x := by
  obtain ⟨h1, h2, h3⟩ := drop_head h
  refine ⟨by omega, by rw [h2], ?_⟩
  rw [show (a + 1).toNat = a.toNat + 1 by omega]; exact h3
theorem after1 {l x r : List UInt8} {a e : Int} {c : UInt8} (ha : 0 ≤ a) (hl : a ≤ l.length) (h : l.drop a.toNat = x ++ c :: r) (he : e = (l.length : Int) - (c :: r).length) :
    0 ≤ e ∧ e < l.length ∧ e = a + x.length ∧ ((l.getD e.toNat 0).toNat : Int) = c.toNat ∧ l.drop (e + 1).toNat = r := by
  obtain ⟨g1, g2, g3⟩ := drop_after h (by omega)
  rw [List.length_cons] at he g1 g2 g3
  have he' : e = a + x.length := by omega
  have e2 : e.toNat = l.length - (r.length + 1) := by omega
  rw [← e2] at g1
  obtain ⟨k1, k2, k3⟩ := hd1 (by omega) g1
  exact ⟨by omega, by omega, he', k2, k3⟩
theorem text_lt {l r : List UInt8} {u : T} {a d : Int} (ha : 0 ≤ a) (hu : u.shp d = true) (h : l.drop a.toNat = u.text ++ r) : 1 ≤ d ∧ a < l.length := by
  have hf := frm hu
  cases hf
  all_goals
    simp only [tx1, tx2, tx3, tx4, tx5, tx6, tx7, tx8, tx9, tx10, tx11, tx12, tx13, tx14, tx15, tx16, List.cons_append] at h
    exact ⟨by assumption, (hd1 ha h).1⟩
theorem fnd_none {l : List UInt8} {a d : Int} {t : T} {e : Int} (h : ∀ (u : T) (r : List UInt8), u.shp d = true → nd r → l.drop a.toNat = u.text ++ r → False) : fnd l a d t e := fun u r hu hr he => (h u r hu hr he).elim
section
variable {l : List UInt8} {a d : Int} (ha : 0 ≤ a)
include ha
/-- The number of a variable. -/
theorem fnd_var (hb : ((l.getD a.toNat 0).toNat : Int) = 35) {n e : Int} (hn : ∀ m r, 0 ≤ m → m ≤ 99 → nd r → l.drop (a + 1).toNat = decD m ++ r → n = m ∧ e = (l.length : Int) - r.length) : fnd l a d (.mk 1 n []) e := by
  intro u r hu hr h
  have hf := frm hu
  cases hf
  all_goals
    simp only [tx1, tx2, tx3, tx4, tx5, tx6, tx7, tx8, tx9, tx10, tx11, tx12, tx13, tx14, tx15, tx16, List.cons_append] at h
    obtain ⟨q1, q2, q3⟩ := hd1 ha h
    rw [hb] at q2
    first | exact absurd q2 (by decide) | skip
  obtain ⟨k1, k2⟩ := hn _ r (by assumption) (by omega) hr q3
  exact ⟨by rw [k1], k2⟩
theorem fnd_sort (hb : ((l.getD a.toNat 0).toNat : Int) = 42) {n e : Int} (hn : ∀ m r, 0 ≤ m → m ≤ 9 → nd r → l.drop (a + 1).toNat = decD m ++ r → n = m ∧ e = (l.length : Int) - r.length) : fnd l a d (.mk 2 n []) e := by
  intro u r hu hr h
  have hf := frm hu
  cases hf
  all_goals
    simp only [tx1, tx2, tx3, tx4, tx5, tx6, tx7, tx8, tx9, tx10, tx11, tx12, tx13, tx14, tx15, tx16, List.cons_append] at h
    obtain ⟨q1, q2, q3⟩ := hd1 ha h
    rw [hb] at q2
    first | exact absurd q2 (by decide) | skip
  obtain ⟨k1, k2⟩ := hn _ r (by assumption) (by omega) hr q3
  exact ⟨by rw [k1], k2⟩
theorem fnd_leaf {k c : Int} (hk : k = 6 ∧ c = 78 ∨ k = 7 ∧ c = 48) (hb : ((l.getD a.toNat 0).toNat : Int) = c) : fnd l a d (.mk k 0 []) (a + 1) := by
  intro u r hu hr h
  have hf := frm hu
  have g := drop_after h (by have := (text_lt ha hu h).2; omega)
  cases hf
  all_goals
    simp only [tx1, tx2, tx3, tx4, tx5, tx6, tx7, tx8, tx9, tx10, tx11, tx12, tx13, tx14, tx15, tx16, List.cons_append, List.nil_append] at h g
    obtain ⟨q1, q2, q3⟩ := hd1 ha h
    rw [hb] at q2
    rcases hk with ⟨rfl, rfl⟩ | ⟨rfl, rfl⟩
    all_goals first | exact absurd q2 (by decide) | exact ⟨rfl, by have := g.2.2; simp only [List.length_cons, List.length_nil] at this; omega⟩
theorem fnd_pre {k c : Int} (hk : k = 8 ∧ c = 43 ∨ k = 11 ∧ c = 33 ∨ k = 15 ∧ c = 94 ∨ k = 16 ∧ c = 95) (hb : ((l.getD a.toNat 0).toNat : Int) = c) {t : T} {e : Int} (ht : fnd l (a + 1) (d - 1) t e) : fnd l a d (.mk k 0 [t]) e := by
  intro u r hu hr h
  have hf := frm hu
  cases hf
  all_goals
    simp only [tx1, tx2, tx3, tx4, tx5, tx6, tx7, tx8, tx9, tx10, tx11, tx12, tx13, tx14, tx15, tx16, List.cons_append] at h
    obtain ⟨q1, q2, q3⟩ := hd1 ha h
    rw [hb] at q2
    rcases hk with ⟨rfl, rfl⟩ | ⟨rfl, rfl⟩ | ⟨rfl, rfl⟩ | ⟨rfl, rfl⟩
    all_goals first | exact absurd q2 (by decide) | (obtain ⟨k1, k2⟩ := ht _ _ (by assumption) hr q3; exact ⟨by rw [k1], k2⟩)
theorem lam1 (hb : ((l.getD a.toNat 0).toNat : Int) = 91) {t : T} {e : Int} (ht : fnd l (a + 1) (d - 1) t e) {u : T} {r : List UInt8} (hu : u.shp d = true) (h : l.drop a.toNat = u.text ++ r) :
    ∃ y, u = .mk 4 0 [t, y] ∧ y.shp (d - 1) = true ∧ 0 ≤ e ∧ e < l.length ∧ ((l.getD e.toNat 0).toNat : Int) = 93 ∧ l.drop (e + 1).toNat = y.text ++ r := by
  have hf := frm hu
  cases hf
  all_goals
    simp only [tx1, tx2, tx3, tx4, tx5, tx6, tx7, tx8, tx9, tx10, tx11, tx12, tx13, tx14, tx15, tx16, List.cons_append, List.append_assoc] at h
    obtain ⟨q1, q2, q3⟩ := hd1 ha h
    rw [hb] at q2
    first | exact absurd q2 (by decide) | skip
  rename_i x y hx hy h1
  obtain ⟨k1, k2⟩ := ht _ _ hx (nd_cons (.inr (by decide))) q3
  obtain ⟨g1, g2, g3, g4, g5⟩ := after1 (by omega) (by omega) q3 k2
  exact ⟨y, by rw [k1], hy, g1, g2, g4, g5⟩
theorem fnd_lam (hb : ((l.getD a.toNat 0).toNat : Int) = 91) {t t1 : T} {e e1 : Int} (ht : fnd l (a + 1) (d - 1) t e) (ht1 : fnd l (e + 1) (d - 1) t1 e1) : fnd l a d (.mk 4 0 [t, t1]) e1 := by
  intro u r hu hr h
  obtain ⟨y, rfl, h1, h2, h3, h4, h5⟩ := lam1 ha hb ht hu h
  obtain ⟨k1, k2⟩ := ht1 _ _ h1 hr h5
  exact ⟨by rw [k1], k2⟩
theorem fnd_lam_bad (hb : ((l.getD a.toNat 0).toNat : Int) = 91) {t t1 : T} {e e1 : Int} (ht : fnd l (a + 1) (d - 1) t e) (hbad : 0 ≤ e → e < l.length → ((l.getD e.toNat 0).toNat : Int) = 93 → False) : fnd l a d t1 e1 := by
  intro u r hu hr h
  obtain ⟨y, rfl, h1, h2, h3, h4, h5⟩ := lam1 ha hb ht hu h
  exact (hbad h2 h3 h4).elim
/-- Behind a round bracket. -/
theorem rnd1 (hb : ((l.getD a.toNat 0).toNat : Int) = 40) {t : T} {e : Int} (ht : fnd l (a + 1) d t e) {u : T} {r : List UInt8} (hu : u.shp (d + 1) = true) (h : l.drop a.toNat = u.text ++ r) :
    ∃ k c y, u = .mk k 0 [t, y] ∧ (k = 3 ∧ c = 62 ∨ k = 13 ∧ c = 42 ∨ k = 5 ∧ c = 32) ∧ y.shp d = true ∧ 0 ≤ e ∧ e < l.length ∧ ((l.getD e.toNat 0).toNat : Int) = c ∧ l.drop (e + 1).toNat = y.text ++ 41 :: r := by
  have hf := frm hu
  have ed : d + 1 - 1 = d := by omega
  cases hf
  all_goals
    simp only [tx1, tx2, tx3, tx4, tx5, tx6, tx7, tx8, tx9, tx10, tx11, tx12, tx13, tx14, tx15, tx16, List.cons_append, List.append_assoc, List.nil_append] at h
    obtain ⟨q1, q2, q3⟩ := hd1 ha h
    rw [hb] at q2
    first | exact absurd q2 (by decide) | skip
  all_goals
    rename_i x y hx hy h1
    rw [ed] at hx hy
    first
      | (obtain ⟨k1, k2⟩ := ht _ _ hx (nd_cons (.inl (by decide))) q3
         obtain ⟨g1, g2, g3, g4, g5⟩ := after1 (by omega) (by omega) q3 k2
         first
           | exact ⟨13, 42, y, by rw [k1], by decide, hy, g1, g2, g4, g5⟩
           | exact ⟨5, 32, y, by rw [k1], by decide, hy, g1, g2, g4, g5⟩)
      | (obtain ⟨k1, k2⟩ := ht _ _ hx (nd_cons (.inr (by decide))) q3
         obtain ⟨g1, g2, g3, g4, g5⟩ := after1 (by omega) (by omega) q3 k2
         exact ⟨3, 62, y, by rw [k1], by decide, hy, g1, g2, g4, g5⟩)
theorem fnd_rnd (hb : ((l.getD a.toNat 0).toNat : Int) = 40) {t t1 : T} {e e1 k c : Int} (ht : fnd l (a + 1) d t e) (hk : k = 3 ∧ c = 62 ∨ k = 13 ∧ c = 42 ∨ k = 5 ∧ c = 32) (hc : ((l.getD e.toNat 0).toNat : Int) = c) (ht1 : fnd l (e + 1) d t1 e1) :
    fnd l a (d + 1) (.mk k 0 [t, t1]) (e1 + 1) := by
  intro u r hu hr h
  obtain ⟨k', c', y, rfl, h0, h1, h2, h3, h4, h5⟩ := rnd1 ha hb ht hu h
  obtain ⟨k1, k2⟩ := ht1 _ _ h1 (nd_cons (.inl (by decide))) h5
  have : k = k' := by omega
  subst this
  exact ⟨by rw [k1], by rw [List.length_cons] at k2; omega⟩
theorem fnd_rnd_bad (hb : ((l.getD a.toNat 0).toNat : Int) = 40) {t t1 : T} {e e1 : Int} (ht : fnd l (a + 1) d t e) (hbad : 0 ≤ e → e < l.length → (((l.getD e.toNat 0).toNat : Int) = 62 ∨ ((l.getD e.toNat 0).toNat : Int) = 42 ∨ ((l.getD e.toNat 0).toNat : Int) = 32) → False) : fnd l a (d + 1) t1 e1 := by
  intro u r hu hr h
  obtain ⟨k', c', y, rfl, h0, h1, h2, h3, h4, h5⟩ := rnd1 ha hb ht hu h
  exact (hbad h2 h3 (by omega)).elim
theorem fnd_rnd_bad2 (hb : ((l.getD a.toNat 0).toNat : Int) = 40) {t t1 t2 : T} {e e1 e2 : Int} (ht : fnd l (a + 1) d t e) (ht1 : fnd l (e + 1) d t1 e1) (hbad : 0 ≤ e1 → e1 < l.length → ((l.getD e1.toNat 0).toNat : Int) = 41 → False) : fnd l a (d + 1) t2 e2 := by
  intro u r hu hr h
  obtain ⟨k', c', y, rfl, h0, h1, h2, h3, h4, h5⟩ := rnd1 ha hb ht hu h
  obtain ⟨k1, k2⟩ := ht1 _ _ h1 (nd_cons (.inl (by decide))) h5
  obtain ⟨g1, g2, g3, g4, g5⟩ := after1 (by omega) (by omega) h5 k2
  exact (hbad g1 g2 g4).elim
end
/-- What a reader of some operands answers. -/
def fndL (l : List UInt8) (a d w c : Int) (ts : List T) (e : Int) : Prop := ∀ us r, (us.length : Int) = w → shpL us d = true → l.drop a.toNat = textL (List.replicate (us.length - 1) [44] ++ [[UInt8.ofNat c.toNat]]) us ++ r → ts = us ∧ e = (l.length : Int) - r.length
section
variable {l : List UInt8} {a d : Int} (ha : 0 ≤ a)
include ha
theorem fnd_blk {k b c w : Int} (hk : k = 9 ∧ b = 60 ∧ c = 62 ∧ w = 4 ∨ k = 10 ∧ b = 123 ∧ c = 125 ∧ w = 3 ∨ k = 14 ∧ b = 124 ∧ c = 124 ∧ w = 3) (hb : ((l.getD a.toNat 0).toNat : Int) = b) {ts : List T} {e : Int} (ht : fndL l (a + 1) (d - 1) w c ts e) : fnd l a d (.mk k 0 ts) e := by
  intro u r hu hr h
  have hf := frm hu
  have hs : shpL u.kids (d - 1) = true := by cases u; exact T.shp_kids hu
  cases hf
  all_goals
    simp only [tx1, tx2, tx3, tx4, tx5, tx6, tx7, tx8, tx9, tx10, tx11, tx12, tx13, tx14, tx15, tx16, List.cons_append, List.append_assoc, List.nil_append] at h
    obtain ⟨q1, q2, q3⟩ := hd1 ha h
    rw [hb] at q2
    rcases hk with ⟨rfl, rfl, rfl, rfl⟩ | ⟨rfl, rfl, rfl, rfl⟩ | ⟨rfl, rfl, rfl, rfl⟩
    all_goals first | exact absurd q2 (by decide) | (obtain ⟨k1, k2⟩ := ht _ r rfl hs (by rw [q3]; simp [T.kids, textL, List.replicate]); exact ⟨by rw [k1]; rfl, k2⟩)
theorem fnd_move (hb : ((l.getD a.toNat 0).toNat : Int) = 64) {ts : List T} {e : Int} (ht : fndL l (a + 2) (d - 1) 3 62 ts e) : fnd l a d (.mk 12 0 ts) e := by
  intro u r hu hr h
  have hf := frm hu
  have hs : shpL u.kids (d - 1) = true := by cases u; exact T.shp_kids hu
  cases hf
  all_goals
    simp only [tx1, tx2, tx3, tx4, tx5, tx6, tx7, tx8, tx9, tx10, tx11, tx12, tx13, tx14, tx15, tx16, List.cons_append, List.append_assoc, List.nil_append] at h
    obtain ⟨q1, q2, q3⟩ := hd1 ha h
    rw [hb] at q2
    first | exact absurd q2 (by decide) | skip
  obtain ⟨p1, p2, p3⟩ := hd1 (by omega) q3
  have e2 : a + 1 + 1 = a + 2 := by omega
  rw [e2] at p3
  obtain ⟨k1, k2⟩ := ht _ r rfl hs (by rw [p3]; simp [T.kids, textL, List.replicate])
  exact ⟨by rw [k1]; rfl, k2⟩
theorem fnd_move_bad (hb : ((l.getD a.toNat 0).toNat : Int) = 64) {t : T} {e : Int} (hbad : a + 1 < l.length → ((l.getD (a + 1).toNat 0).toNat : Int) = 60 → False) : fnd l a d t e := by
  intro u r hu hr h
  have hf := frm hu
  cases hf
  all_goals
    simp only [tx1, tx2, tx3, tx4, tx5, tx6, tx7, tx8, tx9, tx10, tx11, tx12, tx13, tx14, tx15, tx16, List.cons_append, List.append_assoc, List.nil_append] at h
    obtain ⟨q1, q2, q3⟩ := hd1 ha h
    rw [hb] at q2
    first | exact absurd q2 (by decide) | skip
  obtain ⟨p1, p2, p3⟩ := hd1 (by omega) q3
  exact (hbad p1 p2).elim
theorem fnd_other {t : T} {e : Int} (hb : ∀ c : Int, c = ((l.getD a.toNat 0).toNat : Int) → c ≠ 35 ∧ c ≠ 42 ∧ c ≠ 78 ∧ c ≠ 48 ∧ c ≠ 43 ∧ c ≠ 33 ∧ c ≠ 94 ∧ c ≠ 95 ∧ c ≠ 40 ∧ c ≠ 91 ∧ c ≠ 60 ∧ c ≠ 123 ∧ c ≠ 124 ∧ c ≠ 64) : fnd l a d t e := by
  intro u r hu hr h
  have hf := frm hu
  cases hf
  all_goals
    simp only [tx1, tx2, tx3, tx4, tx5, tx6, tx7, tx8, tx9, tx10, tx11, tx12, tx13, tx14, tx15, tx16, List.cons_append, List.append_assoc, List.nil_append] at h
    obtain ⟨q1, q2, q3⟩ := hd1 ha h
    have := hb _ q2.symm
    exact absurd this (by decide)
end
/-- One operand of some, and what is behind it. -/
theorem ser_step (c : UInt8) (v : T) (vs : List T) : textL (List.replicate ((v :: vs).length - 1) [44] ++ [[c]]) (v :: vs) = v.text ++ (if vs = [] then c else 44) :: textL (List.replicate (vs.length - 1) [44] ++ [[c]]) vs := by
  cases vs with
  | nil => simp [textL]
  | cons u us => simp [textL, List.replicate_succ]
theorem numF {l r : List UInt8} {a d m : Int} (h0 : 0 ≤ m) (h9 : m ≤ 99) (hd : 9 < m → d = 2) (hr : nd r) (ha : 0 ≤ a ∧ a ≤ l.length) (hd1 : 1 ≤ d) (h : l.drop a.toNat = decD m ++ r) :
    ∃ k : Nat, (k = 1 ∨ k = 2) ∧ (decD m).length = k ∧ a + k + r.length = l.length ∧ k ≤ d ∧ (∀ x : Int, a ≤ x → x < a + k → 48 ≤ (l.getD x.toNat 0).toNat ∧ (l.getD x.toNat 0).toNat ≤ 57) ∧
      (∀ x : Int, x = a + k → x < l.length → (l.getD x.toNat 0).toNat < 48 ∨ 57 < (l.getD x.toNat 0).toNat) ∧ (∀ x : Int, x = a + k → (l.drop a.toNat).take (x.toNat - a.toNat) = decD m) := by
  obtain ⟨g1, g2, g3⟩ := drop_after h (by omega)
  have hD := decD_facts h0 h9
  have hg : ∀ j, l.getD (a.toNat + j) 0 = (decD m ++ r).getD j 0 := fun j => by rw [← h, List.getD_eq_getElem?_getD, List.getD_eq_getElem?_getD, List.getElem?_drop]
  refine ⟨(decD m).length, by omega, rfl, by omega, by omega, fun x h1 h2 => ?_, fun x h1 h2 => ?_, fun x h1 => ?_⟩
  · have e : x.toNat = a.toNat + (x.toNat - a.toNat) := by omega
    rw [e, hg, List.getD_eq_getElem?_getD, List.getElem?_append_left (by omega), ← List.getD_eq_getElem?_getD]
    have : x.toNat - a.toNat = 0 ∨ x.toNat - a.toNat = 1 := by omega
    rcases this with e | e <;> rw [e] <;> omega
  · have e : x.toNat = a.toNat + (decD m).length := by omega
    rw [e, hg]
    cases r with
    | nil => simp at g3; omega
    | cons c r =>
      have hc := hr c rfl
      rw [List.getD_eq_getElem?_getD, List.getElem?_append_right (Nat.le_refl _), Nat.sub_self, List.getElem?_cons_zero, Option.getD_some]
      rcases hc with hc | hc
      · exact .inl (by simpa using UInt8.lt_iff_toNat_lt.1 hc)
      · exact .inr (by simpa using UInt8.lt_iff_toNat_lt.1 hc)
  · have e : x.toNat - a.toNat = (decD m).length := by omega
    rw [e, h, List.take_append_of_le_length (Nat.le_refl _), List.take_length]
/-- What a reader of a whole text answers. -/
def PrT (l : List UInt8) (t : T) (b : Bool) : Prop := (b = true → t.valid = true ∧ t.text = l ∧ ∀ u : T, u.valid = true → u.text = l → t = u) ∧ (b = false → t = .mk 0 0 [] ∧ ∀ u : T, u.valid = true → u.text ≠ l)
theorem PrT.uniq {l : List UInt8} {t u : T} {b c : Bool} (h : PrT l t b) (g : PrT l u c) : t = u ∧ b = c := by
  cases b with
  | true =>
    obtain ⟨h1, h2, h3⟩ := h.1 rfl
    cases c with
    | true => exact ⟨h3 u (g.1 rfl).1 (g.1 rfl).2.1, rfl⟩
    | false => exact absurd h2 ((g.2 rfl).2 t h1)
  | false =>
    cases c with
    | true => exact absurd (g.1 rfl).2.1 ((h.2 rfl).2 u (g.1 rfl).1)
    | false => exact ⟨(h.2 rfl).1.trans (g.2 rfl).1.symm, rfl⟩
theorem PrT.size {l : List UInt8} {t : T} {b : Bool} (h : PrT l t b) : t.size ≤ 400 := by
  cases b with
  | true => exact T.valid_size (h.1 rfl).1
  | false => rw [(h.2 rfl).1]; simp [T.size, sizeL]
end Go.Dk
