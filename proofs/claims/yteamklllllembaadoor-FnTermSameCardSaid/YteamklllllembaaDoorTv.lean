/- Valid trees. -/
import Derived.Test.YteamklllllembaaDoorTm
namespace Go.Dk
set_option linter.unusedVariables false
/-- How many operands a kind has. -/
def arity (k : Int) : Int :=
  if k = 1 ∨ k = 2 ∨ k = 6 ∨ k = 7 then 0 else if k = 8 ∨ k = 11 ∨ k = 15 ∨ k = 16 then 1 else if k = 3 ∨ k = 4 ∨ k = 5 ∨ k = 13 then 2 else if k = 10 ∨ k = 12 ∨ k = 14 then 3 else if k = 9 then 4 else -1
def mostN (k : Int) : Int := if k = 1 then 20 else if k = 2 then 3 else 0
/-- Is the root in order? -/
def rootOk (k n : Int) (len : Nat) : Bool := decide (arity k = len ∧ 0 ≤ n ∧ n ≤ mostN k)
mutual
/-- Well-formed down to a depth. -/
def T.shp : T → Int → Bool
  | .mk k n ts, d => decide (1 ≤ d) && (rootOk k n ts.length && shpL ts (d - 1))
def shpL : List T → Int → Bool
  | [], _ => true
  | t :: ts, d => t.shp d && shpL ts d
end
def T.valid (t : T) : Bool := t.shp 30 && decide (t.size ≤ 400)
mutual
/-- The program's check, with its count. -/
def T.scan : T → Int → Int → Bool × Int
  | .mk k n ts, deep, c => if c + 1 ≤ 400 ∧ deep ≤ 30 ∧ rootOk k n ts.length = true then scanL ts (deep + 1) (c + 1) else (false, c + 1)
def scanL : List T → Int → Int → Bool × Int
  | [], _, c => (true, c)
  | t :: ts, deep, c => if (t.scan deep c).1 = true then scanL ts deep (t.scan deep c).2 else t.scan deep c
end
mutual
theorem T.scan_spec : ∀ (t : T) (deep c : Int), 0 ≤ c → c ≤ 400 → 0 ≤ (t.scan deep c).2 ∧ (t.scan deep c).2 ≤ 401 ∧ ((t.scan deep c).1 = true ↔ t.shp (31 - deep) = true ∧ c + t.size ≤ 400) ∧ ((t.scan deep c).1 = true → (t.scan deep c).2 = c + t.size)
  | .mk k n ts, deep, c, h0, h1 => by
    unfold T.scan T.shp T.size
    by_cases h : c + 1 ≤ 400 ∧ deep ≤ 30 ∧ rootOk k n ts.length = true
    · rw [if_pos h]
      obtain ⟨g1, g2, g3, g4⟩ := scanL_spec ts (deep + 1) (c + 1) (by omega) h.1
      have e : 31 - deep - 1 = 31 - (deep + 1) := by omega
      refine ⟨g1, g2, ?_, fun hh => by rw [g4 hh]; omega⟩
      rw [g3, h.2.2, e]
      simp only [Bool.and_eq_true, decide_eq_true_eq, true_and]
      exact ⟨fun hh => ⟨⟨by omega, hh.1⟩, by have := hh.2; omega⟩, fun hh => ⟨hh.1.2, by have := hh.2; omega⟩⟩
    · rw [if_neg h]
      refine ⟨by simp; omega, by simp; omega, ?_, nofun⟩
      simp
      intro k1 k2 k3
      have : 0 ≤ sizeL ts := Nat.zero_le _
      by_cases hd : deep ≤ 30
      · have : ¬ (c + 1 ≤ 400) := fun hc => h ⟨hc, hd, k2⟩
        omega
      · omega
theorem scanL_spec : ∀ (ts : List T) (deep c : Int), 0 ≤ c → c ≤ 400 → 0 ≤ (scanL ts deep c).2 ∧ (scanL ts deep c).2 ≤ 401 ∧ ((scanL ts deep c).1 = true ↔ shpL ts (31 - deep) = true ∧ c + sizeL ts ≤ 400) ∧ ((scanL ts deep c).1 = true → (scanL ts deep c).2 = c + sizeL ts)
  | [], deep, c, h0, h1 => by simp [scanL, shpL, sizeL]; omega
  | t :: ts, deep, c, h0, h1 => by
    obtain ⟨g1, g2, g3, g4⟩ := T.scan_spec t deep c h0 h1
    unfold scanL shpL sizeL
    by_cases h : (t.scan deep c).1 = true
    · rw [if_pos h]
      have h4 := g4 h
      have h3 := g3.1 h
      obtain ⟨k1, k2, k3, k4⟩ := scanL_spec ts deep (t.scan deep c).2 g1 (by omega)
      refine ⟨k1, k2, ?_, fun hh => by rw [k4 hh, h4]; omega⟩
      rw [k3, h4, h3.1]
      simp only [Bool.true_and]
      exact ⟨fun hh => ⟨hh.1, by have := hh.2; omega⟩, fun hh => ⟨hh.1, by have := hh.2; omega⟩⟩
    · rw [if_neg h]
      refine ⟨g1, g2, ?_, fun hh => absurd hh h⟩
      constructor
      · intro hh; exact absurd hh h
      · intro hh
        refine absurd (g3.2 ⟨?_, ?_⟩) h
        · have := hh.1; simp at this; exact this.1
        · have := hh.2; omega
end
theorem T.valid_scan (t : T) : (t.scan 1 0).1 = t.valid := by
  have h := (T.scan_spec t 1 0 (by omega) (by omega)).2.2.1
  unfold T.valid
  cases hs : (t.scan 1 0).1 with
  | true => have := h.1 hs; simp at this ⊢; exact ⟨this.1, by omega⟩
  | false =>
    cases hv : (t.shp 30 && decide (t.size ≤ 400)) with
    | false => rfl
    | true =>
      simp at hv
      have := h.2 ⟨hv.1, by omega⟩
      rw [hs] at this; cases this
theorem T.valid_size {t : T} (h : t.valid = true) : t.size ≤ 400 := by simp [T.valid] at h; exact h.2
theorem T.valid_shp {t : T} (h : t.valid = true) : t.shp 30 = true := by simp [T.valid] at h; exact h.1
theorem arity_range (k : Int) : -1 ≤ arity k ∧ arity k ≤ 4 := by unfold arity; repeat' split <;> omega
theorem T.shp_root {k n : Int} {ts : List T} {d : Int} (h : (T.mk k n ts).shp d = true) : arity k = ts.length ∧ 0 ≤ n ∧ n ≤ mostN k := by
  simp [T.shp, rootOk] at h; exact h.2.1
theorem shpL_mem : ∀ {ts : List T} {t : T} {d : Int}, shpL ts d = true → t ∈ ts → t.shp d = true
  | u :: ts, t, d, h, hm => by
    simp [shpL] at h
    rcases List.mem_cons.1 hm with rfl | hm
    · exact h.1
    · exact shpL_mem h.2 hm
theorem T.shp_kids {k n : Int} {ts : List T} {d : Int} (h : (T.mk k n ts).shp d = true) : shpL ts (d - 1) = true := by
  simp [T.shp] at h; exact h.2.2
mutual
theorem T.shp_mono : ∀ {t : T} {d e : Int}, d ≤ e → t.shp d = true → t.shp e = true
  | .mk k n ts, d, e, h, hs => by
    simp [T.shp] at hs ⊢
    exact ⟨by omega, hs.2.1, shpL_mono (by omega) hs.2.2⟩
theorem shpL_mono : ∀ {ts : List T} {d e : Int}, d ≤ e → shpL ts d = true → shpL ts e = true
  | [], d, e, h, hs => rfl
  | t :: ts, d, e, h, hs => by
    simp [shpL] at hs ⊢
    exact ⟨T.shp_mono h hs.1, shpL_mono h hs.2⟩
end
/-- The operands of a valid tree are valid. -/
theorem T.valid_kid {t u : T} (h : t.valid = true) (hm : u ∈ t.kids) : u.valid = true := by
  cases t with
  | mk k n ts =>
    have h1 := T.valid_shp h
    have h2 := T.valid_size h
    have h3 := shpL_mem (T.shp_kids h1) hm
    have h4 := sizeL_mem hm
    simp only [T.size, T.kids] at h2 h4
    simp only [T.valid, Bool.and_eq_true, decide_eq_true_eq]
    exact ⟨T.shp_mono (by omega) h3, by omega⟩
mutual
def T.dep : T → Int
  | .mk _ _ ts => depL ts + 1
def depL : List T → Int
  | [] => 0
  | t :: ts => max t.dep (depL ts)
end
mutual
theorem T.dep_bound : ∀ t : T, 1 ≤ t.dep ∧ t.dep ≤ t.size
  | .mk k n ts => by have := depL_bound ts; simp only [T.dep, T.size]; omega
theorem depL_bound : ∀ ts : List T, 0 ≤ depL ts ∧ depL ts ≤ sizeL ts
  | [] => by simp [depL, sizeL]
  | t :: ts => by have := depL_bound ts; have := t.dep_bound; simp only [depL, sizeL]; omega
end
def T.num : Nat → T
  | 0 => .mk 7 0 []
  | n + 1 => .mk 8 0 [T.num n]
theorem T.num_size : ∀ n, (T.num n).size = n + 1
  | 0 => rfl
  | n + 1 => by simp only [T.num, T.size, sizeL, T.num_size n]; omega
/-- A term below its successors, and how many there are. -/
def T.strip : T → Nat × T
  | .mk k n [] => (0, .mk k n [])
  | .mk k n (t :: ts) => if k = 8 then (t.strip.1 + 1, t.strip.2) else (0, .mk k n (t :: ts))
def T.nv (t : T) : Int := if t.valid = true ∧ t.strip.2.k = 7 ∧ t.strip.1 ≤ 20 then t.strip.1 else 0
def T.nvOk (t : T) : Bool := decide (t.valid = true ∧ t.strip.2.k = 7 ∧ t.strip.1 ≤ 20)
theorem T.strip_succ {n : Int} {t : T} {ts : List T} : (T.mk 8 n (t :: ts)).strip = (t.strip.1 + 1, t.strip.2) := by rw [T.strip, if_pos rfl]
theorem T.strip_other {k n : Int} {ts : List T} (h : k ≠ 8) : (T.mk k n ts).strip = (0, .mk k n ts) := by
  cases ts with
  | nil => rfl
  | cons t ts => rw [T.strip, if_neg h]
/-- A valid successor has one operand. -/
theorem T.valid_succ {t : T} (h : t.valid = true) (hk : t.k = 8) : ∃ u, t = .mk 8 0 [u] ∧ u.valid = true := by
  cases t with
  | mk k n ts =>
    have hk : k = 8 := hk
    subst hk
    obtain ⟨h1, h2, h3⟩ := T.shp_root (T.valid_shp h)
    have h1 : (1 : Int) = ts.length := h1
    have h3 : n ≤ 0 := h3
    match ts, h1 with
    | [u], _ =>
      have : n = 0 := by omega
      subst this
      exact ⟨u, rfl, T.valid_kid h (List.mem_singleton.2 rfl)⟩
mutual
/-- The reference's count, up to a number. -/
def T.cnt : T → Int → Int
  | .mk _ _ ts, most => cntL ts most 1
def cntL : List T → Int → Int → Int
  | [], _, n => n
  | t :: ts, most, n => if n ≤ most then cntL ts most (n + t.cnt (most - n)) else n
end
mutual
theorem T.cnt_spec : ∀ (t : T) (most : Int), 0 ≤ most → 1 ≤ t.cnt most ∧ t.cnt most ≤ most + 1 ∧ (t.cnt most ≤ most ↔ t.size ≤ most) ∧ (t.size ≤ most → t.cnt most = t.size)
  | .mk k n ts, most, h => by
    obtain ⟨h1, h2, h3, h4⟩ := cntL_spec ts most 1 (by omega) (by omega) h
    unfold T.cnt T.size
    exact ⟨h1, h2, by rw [h3]; omega, fun hh => by rw [h4 (by omega)]; omega⟩
theorem cntL_spec : ∀ (ts : List T) (most n : Int), 1 ≤ n → n ≤ most + 1 → 0 ≤ most → n ≤ cntL ts most n ∧ cntL ts most n ≤ most + 1 ∧ (cntL ts most n ≤ most ↔ n + sizeL ts ≤ most) ∧ (n + sizeL ts ≤ most → cntL ts most n = n + sizeL ts)
  | [], most, n, h1, h2, h3 => by simp [cntL, sizeL]; exact h2
  | t :: ts, most, n, h1, h2, h3 => by
    have hs : 1 ≤ t.size := by rw [T.size_eq]; omega
    unfold cntL sizeL
    by_cases h : n ≤ most
    · rw [if_pos h]
      obtain ⟨g1, g2, g3, g4⟩ := T.cnt_spec t (most - n) (by omega)
      obtain ⟨k1, k2, k3, k4⟩ := cntL_spec ts most (n + t.cnt (most - n)) (by omega) (by omega) h3
      refine ⟨by omega, k2, ?_, fun hh => ?_⟩
      · rw [k3]
        constructor
        · intro hh; have := g4 (g3.1 (by omega)); omega
        · intro hh; have := g4 (by omega); omega
      · have := g4 (by omega); rw [k4 (by omega)]; omega
    · rw [if_neg h]
      refine ⟨by omega, h2, ⟨by omega, by omega⟩, by omega⟩
end
theorem T.valid_cnt (t : T) : (t.shp 30 && decide (t.cnt 400 ≤ 400)) = t.valid := by
  have h := (T.cnt_spec t 400 (by omega)).2.2.1
  have e : (t.cnt 400 ≤ 400) = (t.size ≤ 400) := propext (by rw [h]; omega)
  unfold T.valid
  rw [decide_eq_decide.2 (by rw [e])]
end Go.Dk
