/- A law's arguments, opened, and its row. -/
import Derived.Test.YteamklllllembaaDoorRows
import Derived.Test.YteamklllllembaaDoorBase
namespace Go.Dk
open Go.ChangeShapes Go.WideShapes Go.RowKit Go.Proofs
/-- The slice in an argument. -/
def slOf : Value → Value
  | .agg cs => cs.getD 2 .nilFunc
  | v => v
/-- Bytes. -/
def Bs (bs : List Int) : Prop := ∀ x ∈ bs, 0 ≤ x ∧ x ≤ 255
section
variable {H : Type} {enc : TypeId × Value → H} {P : Program} {W : World} {sp : Nat → Bool} {held : Bool}
theorem cells_one {v x : Value} (h : v.cells.toList = [x]) (hx : ∀ cs, v ≠ .agg cs) : v = x := by
  cases v <;> first | (simpa [Value.cells] using h) | exact absurd rfl (hx _)
theorem open_term {t i l : TypeId} (Y : TmT P t i l) {v : Value} {d : DataW H} {p : List MemPlace} (h : DataW.Trod enc P W 0 sp held t v d p) :
    ∃ k n ts, (T.mk k n ts).fits ∧ ∀ (hI : Inv W ∧ NG ≤ W.heap.size) (av : Nat → Value) (j : Nat), av j = slOf v → Rel3 (lawFr W hI av) (lawFr W hI av).g0 3 W (.st [.int .i64 k, .int .i64 n, .slc ts (.arg j)]) v := by
  obtain ⟨fuel, h⟩ := h
  obtain ⟨k, n, a, ts, cap, fp, e, h1, h2, h3⟩ := term_open Y fuel _ _ h
  have hv : v = .agg #[.int .i64 k, .int .i64 n, .slice a ts.length cap] := by
    cases v <;> simp [Value.cells] at e
    rename_i cs
    first | exact congrArg Value.agg (Array.toList_inj.1 e) | exact congrArg Value.agg e
  subst hv
  exact ⟨k, n, ts, h3, fun hI av j hj => in_term hj h1 h2⟩
theorem ints_open {t e : TypeId} {k : IntKind} (hl : P.underlying t = some (.slice e)) (he : P.underlying e = some (.int k)) (hc : P.cellsOf e = 1) {fuel : Nat} {cs : List Value} {x : DataW H × List MemPlace} (h : DataW.trod enc P W 0 sp held fuel t cs = some x) :
    ∃ a ns cap fp, cs = [.slice a ns.length cap] ∧ ns.length ≤ cap ∧ InI (limOf W) W k ns a fp ∧ ns.length ≤ 9223372036854775807 ∧ ∀ n ∈ ns, (Lit.int k n).wf = true := by
  rcases DataW.trod_slice hl h with ⟨rfl, _⟩ | ⟨a, len, cap, elems, rest, m, rfl, rfl, _, _, hlc, hm, hlen, hel, _, _⟩
  · exact ⟨none, [], 0, [], rfl, Nat.le_refl _, .inl ⟨rfl, rfl⟩, by simp, by simp⟩
  · have hm : cap ≤ 9223372036854775807 := hm
    by_cases h0 : len = 0
    · subst h0
      exact ⟨some a, [], cap, [], rfl, Nat.zero_le _, .inl ⟨rfl, rfl⟩, by simp, by simp⟩
    have each : ∀ j, j < len → ∃ n, W.cell? (a.add j) = some (.int k n) ∧ (Lit.int k n).wf = true := by
      intro j hj
      have hj' : j < elems.length := by omega
      have := hel j hj
      rw [List.getElem?_eq_getElem hj', hc] at this
      obtain ⟨cs, hcs, ht⟩ := Option.bind_eq_some_iff.1 this
      obtain ⟨n, rfl, hw⟩ := trod_int_open he ht
      refine ⟨n, ?_, hw⟩
      simp only [World.cells?, Nat.zero_le, if_true, Nat.mul_one] at hcs
      have e : (List.range 1).mapM (fun i => W.cell? ((a.add j).add i)) = (do let x ← W.cell? ((a.add j).add 0); pure [x]) := by
        simp [List.range_succ]

      rw [e] at hcs
      simp only [Option.bind_eq_bind, Option.bind_eq_some_iff, Option.pure_def, Option.some.injEq] at hcs
      obtain ⟨c0, q0, q3⟩ := hcs
      injection q3 with e0 _
      subst e0
      simpa [Addr.add] using q0
    obtain ⟨n0, c0, _⟩ := each 0 (by omega)
    have c0 : W.cell? a = some (.int k n0) := by simpa [Addr.add] using c0
    have ha := cell_plain c0
    have hadd : ∀ j, a.add j = ⟨a.block, a.off + j, none⟩ := fun j => by
      unfold Addr.add
      by_cases hj : j = 0
      · rw [if_pos hj, hj]; exact ha
      · rw [if_neg hj]
    have mk : ∀ len start, (∀ j, j < len → ∃ n, W.cell? ⟨a.block, a.off + (start + j), none⟩ = some (.int k n) ∧ (Lit.int k n).wf = true) →
        ∃ ns : List Int, ns.length = len ∧ (∀ j, j < len → W.cell? ⟨a.block, a.off + (start + j), none⟩ = some (.int k (ns.getD j 0))) ∧ ∀ n ∈ ns, (Lit.int k n).wf = true := by
      intro len
      induction len with
      | zero => intro s _; exact ⟨[], rfl, fun j hj => absurd hj (Nat.not_lt_zero _), by simp⟩
      | succ len ih =>
        intro s hs
        obtain ⟨n, h1, h2⟩ := hs 0 (by omega)
        obtain ⟨ns, k1, k2, k3⟩ := ih (s + 1) fun j hj => by
          obtain ⟨n, g1, g2⟩ := hs (j + 1) (by omega)
          exact ⟨n, by rw [show s + 1 + j = s + (j + 1) by omega]; exact g1, g2⟩
        refine ⟨n :: ns, by simp [k1], fun j hj => ?_, fun x hx => ?_⟩
        · cases j with
          | zero => simpa using h1
          | succ j => have := k2 j (by omega); rw [show s + 1 + j = s + (j + 1) by omega] at this; simpa using this
        · rcases List.mem_cons.1 hx with rfl | hx
          · exact h2
          · exact k3 x hx
    obtain ⟨ns, q1, q2, q3⟩ := mk len 0 fun j hj => by
      obtain ⟨n, g1, g2⟩ := each j hj
      exact ⟨n, by rw [Nat.zero_add, ← hadd]; exact g1, g2⟩
    have hne : ns ≠ [] := fun e => by subst e; simp at q1; omega
    refine ⟨some a, ns, cap, [a.block], by rw [q1], by omega, .inr ⟨a.block, a.off, hne, by rw [← ha], rfl, fun j hj => ?_⟩, by omega, q3⟩
    have := q2 j (by omega)
    rw [Nat.zero_add] at this
    exact ⟨this, limOf_cell this⟩
theorem open_ints {t e : TypeId} {k : IntKind} (hl : P.underlying t = some (.slice e)) (he : P.underlying e = some (.int k)) (hc : P.cellsOf e = 1) {v : Value} {d : DataW H} {p : List MemPlace} (hv : ∀ cs, v ≠ .agg cs) (h : DataW.Trod enc P W 0 sp held t v d p) :
    ∃ ns, ns.length ≤ 9223372036854775807 ∧ (∀ n ∈ ns, (Lit.int k n).wf = true) ∧ ∀ (hI : Inv W ∧ NG ≤ W.heap.size) (av : Nat → Value) (j : Nat), av j = slOf v → Rel3 (lawFr W hI av) (lawFr W hI av).g0 3 W (.ints k ns (.arg j)) v := by
  obtain ⟨fuel, h⟩ := h
  obtain ⟨a, ns, cap, fp, e, h1, h2, h3, h4⟩ := ints_open hl he hc h
  have := cells_one e hv
  subst this
  exact ⟨ns, h3, h4, fun hI av j hj => in_ints hj h1 h2⟩
theorem open_bytes {t e : TypeId} (hl : P.underlying t = some (.slice e)) (he : P.underlying e = some (.int .u8)) (hc : P.cellsOf e = 1) {v : Value} {d : DataW H} {p : List MemPlace} (hv : ∀ cs, v ≠ .agg cs) (h : DataW.Trod enc P W 0 sp held t v d p) :
    ∃ bs, bs.length ≤ 9223372036854775807 ∧ Bs bs ∧ ∀ (hI : Inv W ∧ NG ≤ W.heap.size) (av : Nat → Value) (j : Nat), av j = slOf v → Rel3 (lawFr W hI av) (lawFr W hI av).g0 3 W (.ints .u8 bs (.arg j)) v := by
  obtain ⟨ns, h1, h2, h3⟩ := open_ints hl he hc hv h
  exact ⟨ns, h1, fun x hx => wf_u8 (h2 x hx), h3⟩
theorem open_list {t e : TypeId} (hl : P.underlying t = some (.slice e)) (he : P.underlying e = some (.int .i64)) (hc : P.cellsOf e = 1) {v : Value} {d : DataW H} {p : List MemPlace} (hv : ∀ cs, v ≠ .agg cs) (h : DataW.Trod enc P W 0 sp held t v d p) :
    ∃ ns, ns.length ≤ 9223372036854775807 ∧ (∀ n ∈ ns, InR n) ∧ ∀ (hI : Inv W ∧ NG ≤ W.heap.size) (av : Nat → Value) (j : Nat), av j = slOf v → Rel3 (lawFr W hI av) (lawFr W hI av).g0 3 W (.ints .i64 ns (.arg j)) v := by
  obtain ⟨ns, h1, h2, h3⟩ := open_ints hl he hc hv h
  exact ⟨ns, h1, fun x hx => wf_i64 (h2 x hx), h3⟩
theorem open_int {t : TypeId} (he : P.underlying t = some (.int .i64)) {v : Value} {d : DataW H} {p : List MemPlace} (hv : ∀ cs, v ≠ .agg cs) (h : DataW.Trod enc P W 0 sp held t v d p) :
    ∃ n, InR n ∧ ∀ (hI : Inv W ∧ NG ≤ W.heap.size) (av : Nat → Value), Rel3 (lawFr W hI av) (lawFr W hI av).g0 3 W (.int .i64 n) v := by
  obtain ⟨fuel, h⟩ := h
  obtain ⟨n, e, hw⟩ := trod_int_open he h
  have := cells_one e hv
  subst this
  exact ⟨n, wf_i64 hw, fun hI av => rfl⟩
theorem open_str {r : Reach} {b0 : Nat} {t : TypeId} (ht : P.underlying t = some .string) {v : Value} {d : DataW H} {p : List MemPlace} (hval : Value.okWide P W r b0 t v) (h : DataW.Trod enc P W 0 sp held t v d p) :
    ∃ l : List UInt8, l.length ≤ 9223372036854775807 ∧ ∀ (hI : Inv W ∧ NG ≤ W.heap.size) (av : Nat → Value), Rel3 (lawFr W hI av) (lawFr W hI av).g0 3 W (.str l) v := by
  obtain ⟨s, rfl, _, _, hs⟩ := Go.ChangeMaps.open_string ht hval h
  exact ⟨s.data.toList, by rw [Array.length_toList]; exact hs, fun hI av => congrArg Value.string (str_data s)⟩
/-- A value of a type that is no struct is no aggregate. -/
theorem plain_slice {r : Reach} {base : Nat} {t e : TypeId} (hl : P.underlying t = some (.slice e)) {v : Value} (h : Value.okWide P W r base t v) : ∀ cs, v ≠ .agg cs := by
  intro cs e; subst e; simp [Value.okWide, hl, Cell.okWide, Cell.ok] at h
theorem plain_int {r : Reach} {base : Nat} {t : TypeId} {k : IntKind} (hl : P.underlying t = some (.int k)) {v : Value} (h : Value.okWide P W r base t v) : ∀ cs, v ≠ .agg cs := by
  intro cs e; subst e; simp [Value.okWide, hl, Cell.okWide, Cell.ok] at h
end
end Go.Dk
