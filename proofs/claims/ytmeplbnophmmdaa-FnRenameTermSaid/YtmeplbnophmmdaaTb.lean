/- Binding: trees whose variables are changed. -/
import Derived.Test.YtmeplbnophmmdaaTv
namespace Go.Dk
set_option linter.unusedVariables false
/-- How many binders an operand adds. -/
def und (k i : Int) : Int := if i = 1 ∧ (k = 3 ∨ k = 4 ∨ k = 13) then 1 else 0
theorem und_range (k i : Int) : 0 ≤ und k i ∧ und k i ≤ 1 := by unfold und; split <;> omega
def vr (n : Int) : T := .mk 1 n []
mutual
/-- Variables changed: f is told the binders around one, and its index. -/
def T.mv (f : Int → Int → T) : Int → T → T
  | b, .mk k n ts => if k = 1 then f b n else .mk k n (mvL f b k 0 ts)
def mvL (f : Int → Int → T) : Int → Int → Nat → List T → List T
  | _, _, _, [] => []
  | b, k, i, t :: ts => t.mv f (b + und k i) :: mvL f b k (i + 1) ts
end
mutual
/-- The variables, each with the binders around it. -/
def T.vs : Int → T → List (Int × Int)
  | b, .mk k n ts => if k = 1 then [(b, n)] else vsL b k 0 ts
def vsL : Int → Int → Nat → List T → List (Int × Int)
  | _, _, _, [] => []
  | b, k, i, t :: ts => t.vs (b + und k i) ++ vsL b k (i + 1) ts
end
theorem T.mv_var {f : Int → Int → T} {b n : Int} {ts : List T} : (T.mk 1 n ts).mv f b = f b n := by simp [T.mv]
theorem T.mv_node {f : Int → Int → T} {b k n : Int} {ts : List T} (h : k ≠ 1) : (T.mk k n ts).mv f b = .mk k n (mvL f b k 0 ts) := by simp [T.mv, h]
theorem T.vs_var {b n : Int} {ts : List T} : (T.mk 1 n ts).vs b = [(b, n)] := by simp [T.vs]
theorem T.vs_node {b k n : Int} {ts : List T} (h : k ≠ 1) : (T.mk k n ts).vs b = vsL b k 0 ts := by simp [T.vs, h]
theorem mv_vr {f : Int → Int → T} {b n : Int} : (vr n).mv f b = f b n := T.mv_var
theorem vs_vr {b n : Int} : (vr n).vs b = [(b, n)] := T.vs_var
theorem mvL_length {f : Int → Int → T} {b k : Int} : ∀ (ts : List T) (i : Nat), (mvL f b k i ts).length = ts.length
  | [], _ => rfl
  | t :: ts, i => by simp [mvL, mvL_length ts]
theorem mvL_getD {f : Int → Int → T} {b k : Int} : ∀ (ts : List T) (i j : Nat), j < ts.length → (mvL f b k i ts).getD j default = (ts.getD j default).mv f (b + und k ((i + j : Nat) : Int))
  | [], _, _, h => absurd h (Nat.not_lt_zero _)
  | t :: ts, i, 0, _ => by simp [mvL]
  | t :: ts, i, j + 1, h => by
    have := mvL_getD (f := f) (b := b) (k := k) ts (i + 1) j (by simpa using h)
    simp only [mvL, List.getD_cons_succ, this]
    rw [show i + 1 + j = i + (j + 1) by omega]
theorem vsL_mem {b k : Int} {p : Int × Int} : ∀ {ts : List T} {i j : Nat}, j < ts.length → p ∈ (ts.getD j default).vs (b + und k ((i + j : Nat) : Int)) → p ∈ vsL b k i ts
  | [], _, _, h, _ => absurd h (Nat.not_lt_zero _)
  | t :: ts, i, 0, _, h => by simp only [vsL, List.mem_append]; exact .inl (by simpa using h)
  | t :: ts, i, j + 1, hj, h => by
    simp only [vsL, List.mem_append]
    refine .inr (vsL_mem (j := j) (by simpa using hj) ?_)
    rw [show i + 1 + j = i + (j + 1) by omega]
    simpa using h
section
variable {f g h : Int → Int → T} {u : Int}
mutual
theorem T.mv_eq : ∀ (t : T) (b : Int), (∀ p ∈ t.vs b, f p.1 p.2 = g (p.1 + u) p.2) → t.mv f b = t.mv g (b + u)
  | .mk k n ts, b, H => by
    by_cases hk : k = 1
    · subst hk
      rw [T.vs_var] at H
      rw [T.mv_var, T.mv_var]; exact H (b, n) (by simp)
    · rw [T.vs_node hk] at H
      rw [T.mv_node hk, T.mv_node hk, mvL_eq ts b k 0 H]
theorem mvL_eq : ∀ (ts : List T) (b k : Int) (i : Nat), (∀ p ∈ vsL b k i ts, f p.1 p.2 = g (p.1 + u) p.2) → mvL f b k i ts = mvL g (b + u) k i ts
  | [], _, _, _, _ => rfl
  | t :: ts, b, k, i, H => by
    simp only [vsL, List.mem_append] at H
    simp only [mvL]
    rw [T.mv_eq t (b + und k i) fun p hp => H p (.inl hp), mvL_eq ts b k (i + 1) fun p hp => H p (.inr hp), show b + und k i + u = b + u + und k i by omega]
end
mutual
theorem T.mv_mv : ∀ (t : T) (b : Int), (∀ p ∈ t.vs b, (f p.1 p.2).mv g (p.1 + u) = h p.1 p.2) → (t.mv f b).mv g (b + u) = t.mv h b
  | .mk k n ts, b, H => by
    by_cases hk : k = 1
    · subst hk
      rw [T.vs_var] at H
      rw [T.mv_var, T.mv_var]; exact H (b, n) (by simp)
    · rw [T.vs_node hk] at H
      rw [T.mv_node hk, T.mv_node hk, T.mv_node hk, mvL_mvL ts b k 0 H]
theorem mvL_mvL : ∀ (ts : List T) (b k : Int) (i : Nat), (∀ p ∈ vsL b k i ts, (f p.1 p.2).mv g (p.1 + u) = h p.1 p.2) → mvL g (b + u) k i (mvL f b k i ts) = mvL h b k i ts
  | [], _, _, _, _ => rfl
  | t :: ts, b, k, i, H => by
    simp only [vsL, List.mem_append] at H
    simp only [mvL]
    rw [mvL_mvL ts b k (i + 1) fun p hp => H p (.inr hp), ← T.mv_mv t (b + und k i) fun p hp => H p (.inl hp), show b + und k i + u = b + u + und k i by omega]
end
mutual
theorem T.vs_mv : ∀ (t : T) (b : Int), (t.mv f b).vs (b + u) = (t.vs b).flatMap fun p => (f p.1 p.2).vs (p.1 + u)
  | .mk k n ts, b => by
    by_cases hk : k = 1
    · subst hk; rw [T.vs_var, T.mv_var]; simp
    · rw [T.vs_node hk, T.mv_node hk, T.vs_node hk, vsL_mvL ts b k 0]
theorem vsL_mvL : ∀ (ts : List T) (b k : Int) (i : Nat), vsL (b + u) k i (mvL f b k i ts) = (vsL b k i ts).flatMap fun p => (f p.1 p.2).vs (p.1 + u)
  | [], _, _, _ => rfl
  | t :: ts, b, k, i => by
    simp only [vsL, mvL, List.flatMap_append]
    rw [vsL_mvL ts b k (i + 1), ← T.vs_mv t (b + und k i), show b + und k i + u = b + u + und k i by omega]
end
mutual
/-- The binders counted from elsewhere. -/
theorem T.vs_add : ∀ (t : T) (b : Int), t.vs (b + u) = (t.vs b).map fun p => (p.1 + u, p.2)
  | .mk k n ts, b => by
    by_cases hk : k = 1
    · subst hk; rw [T.vs_var, T.vs_var]; rfl
    · rw [T.vs_node hk, T.vs_node hk, vsL_add ts b k 0]
theorem vsL_add : ∀ (ts : List T) (b k : Int) (i : Nat), vsL (b + u) k i ts = (vsL b k i ts).map fun p => (p.1 + u, p.2)
  | [], _, _, _ => rfl
  | t :: ts, b, k, i => by
    simp only [vsL, List.map_append]
    rw [vsL_add ts b k (i + 1), ← T.vs_add t (b + und k i), show b + und k i + u = b + u + und k i by omega]
end
end
theorem T.shp_var {n : Int} {ts : List T} {d : Int} (h : (T.mk 1 n ts).shp d = true) : ts = [] := by
  have := (T.shp_root h).1
  have e : arity 1 = 0 := rfl
  rw [e] at this
  exact List.eq_nil_of_length_eq_zero (by omega)
theorem T.shp_pos {t : T} {d : Int} (h : t.shp d = true) : 1 ≤ d := by
  cases t; simp [T.shp] at h; exact h.1
section
variable {f : Int → Int → T}
mutual
theorem T.vs_range : ∀ (t : T) (b d : Int), t.shp d = true → ∀ p ∈ t.vs b, 0 ≤ p.2 ∧ p.2 ≤ 20 ∧ b ≤ p.1 ∧ p.1 ≤ b + d - 1
  | .mk k n ts, b, d, h, p, hp => by
    have h1 := T.shp_pos h
    by_cases hk : k = 1
    · subst hk
      rw [T.vs_var] at hp
      simp at hp; subst hp
      have h2 := (T.shp_root h).2
      have e : mostN 1 = 20 := rfl
      rw [e] at h2
      exact ⟨h2.1, h2.2, Int.le_refl _, by show b ≤ b + d - 1; omega⟩
    · rw [T.vs_node hk] at hp
      have := vsL_range ts b k 0 (d - 1) (T.shp_kids h) p hp
      omega
theorem vsL_range : ∀ (ts : List T) (b k : Int) (i : Nat) (d : Int), shpL ts d = true → ∀ p ∈ vsL b k i ts, 0 ≤ p.2 ∧ p.2 ≤ 20 ∧ b ≤ p.1 ∧ p.1 ≤ b + d
  | [], _, _, _, _, _, p, hp => by simp [vsL] at hp
  | t :: ts, b, k, i, d, h, p, hp => by
    simp [shpL] at h
    simp only [vsL, List.mem_append] at hp
    have hu := und_range k i
    rcases hp with hp | hp
    · have := T.vs_range t (b + und k i) d h.1 p hp; omega
    · exact vsL_range ts b k (i + 1) d h.2 p hp
end
mutual
theorem T.mv_id : ∀ (t : T) (b d : Int), t.shp d = true → (∀ p ∈ t.vs b, f p.1 p.2 = vr p.2) → t.mv f b = t
  | .mk k n ts, b, d, h, H => by
    by_cases hk : k = 1
    · subst hk
      rw [T.vs_var] at H
      rw [T.mv_var, H (b, n) (by simp), T.shp_var h]; rfl
    · rw [T.vs_node hk] at H
      rw [T.mv_node hk, mvL_id ts b k 0 (d - 1) (T.shp_kids h) H]
theorem mvL_id : ∀ (ts : List T) (b k : Int) (i : Nat) (d : Int), shpL ts d = true → (∀ p ∈ vsL b k i ts, f p.1 p.2 = vr p.2) → mvL f b k i ts = ts
  | [], _, _, _, _, _, _ => rfl
  | t :: ts, b, k, i, d, h, H => by
    simp [shpL] at h
    simp only [vsL, List.mem_append] at H
    simp only [mvL]
    rw [T.mv_id t _ d h.1 fun p hp => H p (.inl hp), mvL_id ts b k (i + 1) d h.2 fun p hp => H p (.inr hp)]
end
mutual
theorem T.vs_len1 : ∀ (t : T) (b : Int), (t.vs b).length ≤ t.size
  | .mk k n ts, b => by
    by_cases hk : k = 1
    · subst hk; rw [T.vs_var]; simp [T.size]
    · rw [T.vs_node hk]; have := vsL_len1 ts b k 0; simp only [T.size]; omega
theorem vsL_len1 : ∀ (ts : List T) (b k : Int) (i : Nat), (vsL b k i ts).length ≤ sizeL ts
  | [], _, _, _ => Nat.le_refl _
  | t :: ts, b, k, i => by
    have h1 := T.vs_len1 t (b + und k i)
    have h2 := vsL_len1 ts b k (i + 1)
    simp only [vsL, sizeL, List.length_append]; omega
end
/-- The sum of the sizes of what stands in the variables' places. -/
def szs (f : Int → Int → T) (l : List (Int × Int)) : Nat := (l.map fun p => (f p.1 p.2).size).sum
theorem szs_nil : szs f [] = 0 := rfl
theorem szs_cons {p : Int × Int} {l : List (Int × Int)} : szs f (p :: l) = (f p.1 p.2).size + szs f l := by simp [szs]
theorem szs_append {l l' : List (Int × Int)} : szs f (l ++ l') = szs f l + szs f l' := by simp [szs]
mutual
theorem T.size_mv : ∀ (t : T) (b d : Int), t.shp d = true → (t.mv f b).size + (t.vs b).length = t.size + szs f (t.vs b)
  | .mk k n ts, b, d, h => by
    by_cases hk : k = 1
    · subst hk
      rw [T.vs_var, T.mv_var, T.shp_var h]
      simp [T.size, sizeL, szs]; omega
    · rw [T.vs_node hk, T.mv_node hk]
      have := sizeL_mvL ts b k 0 (d - 1) (T.shp_kids h)
      simp only [T.size]; omega
theorem sizeL_mvL : ∀ (ts : List T) (b k : Int) (i : Nat) (d : Int), shpL ts d = true → sizeL (mvL f b k i ts) + (vsL b k i ts).length = sizeL ts + szs f (vsL b k i ts)
  | [], _, _, _, _, _ => rfl
  | t :: ts, b, k, i, d, h => by
    simp [shpL] at h
    have h1 := T.size_mv t (b + und k i) d h.1
    have h2 := sizeL_mvL ts b k (i + 1) d h.2
    simp only [vsL, mvL, sizeL, List.length_append, szs_append]; omega
end
mutual
theorem T.shp_sub : ∀ (t : T) (b d : Int), (t.mv f b).shp d = true → ∀ p ∈ t.vs b, (f p.1 p.2).shp d = true ∧ (f p.1 p.2).size ≤ (t.mv f b).size
  | .mk k n ts, b, d, h, p, hp => by
    by_cases hk : k = 1
    · subst hk
      rw [T.vs_var] at hp
      rw [T.mv_var] at h ⊢
      simp at hp; subst hp
      exact ⟨h, Nat.le_refl _⟩
    · rw [T.vs_node hk] at hp
      rw [T.mv_node hk] at h ⊢
      have := shpL_sub ts b k 0 (d - 1) (T.shp_kids h) p hp
      exact ⟨T.shp_mono (by omega) this.1, by simp only [T.size]; omega⟩
theorem shpL_sub : ∀ (ts : List T) (b k : Int) (i : Nat) (d : Int), shpL (mvL f b k i ts) d = true → ∀ p ∈ vsL b k i ts, (f p.1 p.2).shp d = true ∧ (f p.1 p.2).size ≤ sizeL (mvL f b k i ts)
  | [], _, _, _, _, _, p, hp => by simp [vsL] at hp
  | t :: ts, b, k, i, d, h, p, hp => by
    simp [mvL, shpL] at h
    simp only [vsL, List.mem_append] at hp
    simp only [mvL, sizeL]
    rcases hp with hp | hp
    · have := T.shp_sub t (b + und k i) d h.1 p hp; exact ⟨this.1, by omega⟩
    · have := shpL_sub ts b k (i + 1) d h.2 p hp; exact ⟨this.1, by omega⟩
end
/-- What stands in a variable's place in a valid tree is valid. -/
theorem T.valid_sub {t : T} {b : Int} (h : (t.mv f b).valid = true) {p : Int × Int} (hp : p ∈ t.vs b) : (f p.1 p.2).valid = true := by
  have h1 := T.valid_shp h
  have h2 := T.valid_size h
  obtain ⟨h3, h4⟩ := T.shp_sub t b 30 h1 p hp
  simp only [T.valid, Bool.and_eq_true, decide_eq_true_eq]
  exact ⟨h3, by omega⟩
end
theorem vr_shp {n d : Int} (h : 1 ≤ d) : (vr n).shp d = decide (0 ≤ n ∧ n ≤ 20) := by
  have e : rootOk 1 n 0 = decide (0 ≤ n ∧ n ≤ 20) := by unfold rootOk; rw [show mostN 1 = 20 from rfl, show arity 1 = 0 from rfl]; simp
  simp [vr, T.shp, shpL, h, e]
section
variable {g : Int → Int → Int}
mutual
/-- Variables put in variables' places. -/
theorem T.shp_ren : ∀ (t : T) (b d : Int), t.shp d = true → (t.mv (fun b n => vr (g b n)) b).shp d = (t.vs b).all fun p => decide (0 ≤ g p.1 p.2 ∧ g p.1 p.2 ≤ 20)
  | .mk k n ts, b, d, h => by
    have h1 := T.shp_pos h
    by_cases hk : k = 1
    · subst hk
      rw [T.vs_var, T.mv_var, vr_shp h1]; simp
    · rw [T.vs_node hk, T.mv_node hk]
      have hr := T.shp_root h
      have e : rootOk k n (mvL (fun b n => vr (g b n)) b k 0 ts).length = true := by rw [mvL_length]; simpa [rootOk] using hr
      rw [T.shp, e, shpL_ren ts b k 0 (d - 1) (T.shp_kids h)]
      simp [h1]
theorem shpL_ren : ∀ (ts : List T) (b k : Int) (i : Nat) (d : Int), shpL ts d = true → shpL (mvL (fun b n => vr (g b n)) b k i ts) d = (vsL b k i ts).all fun p => decide (0 ≤ g p.1 p.2 ∧ g p.1 p.2 ≤ 20)
  | [], _, _, _, _, _ => rfl
  | t :: ts, b, k, i, d, h => by
    simp [shpL] at h
    simp only [vsL, mvL, shpL, List.all_append]
    rw [T.shp_ren t _ d h.1, shpL_ren ts b k (i + 1) d h.2]
end
theorem szs_vr : ∀ l : List (Int × Int), szs (fun b n => vr (g b n)) l = l.length
  | [] => rfl
  | p :: l => by rw [szs_cons, szs_vr l]; simp [vr, T.size, sizeL]; omega
theorem T.size_ren {t : T} {b d : Int} (h : t.shp d = true) : (t.mv (fun b n => vr (g b n)) b).size = t.size := by
  have := T.size_mv (f := fun b n => vr (g b n)) t b d h
  rw [szs_vr] at this; omega
theorem T.valid_ren {t : T} {b : Int} (h : t.valid = true) : (t.mv (fun b n => vr (g b n)) b).valid = (t.vs b).all fun p => decide (0 ≤ g p.1 p.2 ∧ g p.1 p.2 ≤ 20) := by
  have h1 := T.valid_shp h
  unfold T.valid
  rw [T.shp_ren t b 30 h1, T.size_ren h1]
  simp [T.valid_size h]
end
end Go.Dk
