/- The arguments of a law, read: what the row says of them is what the abstract machine is told. -/
import Derived.ProofKit
import Derived.Deep.Strs
import Derived.ReadAgain
import Derived.Test.YteamklllllembaaDoorFun
namespace Go.Dk
open Go.ChangeShapes Go.WideShapes Go.RowKit

mutual
/-- Sizes and numbers that a program can hold. -/
def T.fits : T → Prop
  | .mk k n ts => InR k ∧ InR n ∧ ts.length ≤ 9223372036854775807 ∧ fitsL ts
def fitsL : List T → Prop
  | [] => True
  | t :: ts => t.fits ∧ fitsL ts
end

def limOf (w : World) (b : Nat) : Nat := match w.heap[b]? with | some (.cells c _ _) => c.size | _ => 0
theorem limOf_cell {w : World} {b off : Nat} {v : Value} (h : w.cell? ⟨b, off, none⟩ = some v) : off < limOf w b := by
  unfold World.cell? at h
  unfold limOf
  cases hb : w.heap[b]? with
  | none => simp [hb] at h
  | some o =>
    cases o with
    | cells c t f => simp [hb] at h; exact (Array.getElem?_eq_some_iff.1 h).1
    | _ => simp [hb] at h
theorem cell_plain {w : World} {a : Addr} {v : Value} (h : w.cell? a = some v) : a = ⟨a.block, a.off, none⟩ := by
  obtain ⟨b, off, sp⟩ := a
  cases sp with
  | none => rfl
  | some s =>
    unfold World.cell? at h
    cases hb : w.heap[b]? with
    | none => simp [hb] at h
    | some o => cases o <;> simp [hb] at h

section
variable {H : Type} {enc : TypeId × Value → H} {P : Program} {w : World} {sp : Nat → Bool} {held : Bool}

/-- The types of a term. -/
structure TmT (P : Program) (t i l : TypeId) : Prop where
  st : ∃ f0 f1 f2 : Field, P.underlying t = some (.struct #[f0, f1, f2]) ∧ f0.type = i ∧ f1.type = i ∧ f2.type = l ∧ f0.offset = 0 ∧ f1.offset = 1 ∧ f2.offset = 2
  it : P.underlying i = some (.int .i64)
  lt : P.underlying l = some (.slice t)
  ci : P.cellsOf i = 1
  cl : P.cellsOf l = 1
  ct : P.cellsOf t = 3

theorem trod_int_open {t : TypeId} {k : IntKind} (ht : P.underlying t = some (.int k)) {fuel : Nat} {cs : List Value} {x : DataW H × List MemPlace} (h : DataW.trod enc P w 0 sp held fuel t cs = some x) :
    ∃ n, cs = [.int k n] ∧ (Lit.int k n).wf = true := by
  cases fuel with
  | zero => simp [DataW.trod] at h
  | succ m =>
    unfold DataW.trod at h
    rw [ht] at h
    split at h <;> simp_all
theorem wf_i64 {n : Int} (h : (Lit.int .i64 n).wf = true) : InR n := by
  simp only [Lit.wf, Bool.and_eq_true, decide_eq_true_eq] at h
  exact h
theorem wf_u8 {n : Int} (h : (Lit.int .u8 n).wf = true) : 0 ≤ n ∧ n ≤ 255 := by
  simp only [Lit.wf, Bool.and_eq_true, decide_eq_true_eq] at h
  exact h

theorem arr_of {Q : Nat → T → Prop} {b off : Nat} : ∀ (len start : Nat), (∀ i, i < len → ∃ t fp, TAt (limOf w) w t b (off + (start + i) * 3) fp ∧ Q (start + i) t) →
    ∃ ts fp, ts.length = len ∧ Arr (limOf w) w ts b (off + start * 3) fp ∧ ∀ i t, ts[i]? = some t → Q (start + i) t
  | 0, start, _ => ⟨[], [], rfl, rfl, fun i t h => by simp at h⟩
  | len + 1, start, h => by
    obtain ⟨t, f1, h1, h2⟩ := h 0 (by omega)
    obtain ⟨ts, f2, k1, k2, k3⟩ := arr_of len (start + 1) fun i hi => by
      obtain ⟨t, fp, g1, g2⟩ := h (i + 1) (by omega)
      have e : start + 1 + i = start + (i + 1) := by omega
      exact ⟨t, fp, by rw [e]; exact g1, by rw [e]; exact g2⟩
    refine ⟨t :: ts, f1 ++ f2, by simp [k1], ⟨f1, f2, rfl, by simpa using h1, ?_⟩, fun i u hu => ?_⟩
    · have e : off + start * 3 + 3 = off + (start + 1) * 3 := by omega
      rw [e]; exact k2
    · cases i with
      | zero => simp at hu; subst hu; exact h2
      | succ i => have := k3 i u (by simpa using hu); rwa [show start + 1 + i = start + (i + 1) by omega] at this
theorem fitsL_of : ∀ {ts : List T}, (∀ (i : Nat) t, ts[i]? = some t → t.fits) → fitsL ts
  | [], _ => trivial
  | t :: ts, h => ⟨h 0 t rfl, fitsL_of fun i u hu => h (i + 1) u (by simpa using hu)⟩

def TmOpen (w : World) (cs : List Value) : Prop :=
  ∃ k n a ts cap fp, cs = [.int .i64 k, .int .i64 n, .slice a ts.length cap] ∧ ts.length ≤ cap ∧ Els (limOf w) w ts a fp ∧ (T.mk k n ts).fits

/-- A slice of terms, from its elements. -/
theorem slice_open {t i l : TypeId} (Y : TmT P t i l) {fuel : Nat} (ih : ∀ m, m < fuel → ∀ cs x, DataW.trod enc P w 0 sp held m t cs = some x → TmOpen w cs) {cs : List Value} {x : DataW H × List MemPlace}
    (h : DataW.trod enc P w 0 sp held fuel l cs = some x) : ∃ a ts cap fp, cs = [.slice a ts.length cap] ∧ ts.length ≤ cap ∧ Els (limOf w) w ts a fp ∧ ts.length ≤ 9223372036854775807 ∧ fitsL ts := by
  rcases DataW.trod_slice Y.lt h with ⟨rfl, _⟩ | ⟨a, len, cap, elems, rest, m, rfl, rfl, _, _, hl, hm, hlen, hel, _, _⟩
  · exact ⟨none, [], 0, [], rfl, Nat.le_refl _, .inl ⟨rfl, rfl⟩, by simp, trivial⟩
  · have hm : cap ≤ 9223372036854775807 := hm
    by_cases h0 : len = 0
    · subst h0
      exact ⟨some a, [], cap, [], rfl, Nat.zero_le _, .inl ⟨rfl, rfl⟩, by simp, trivial⟩
    have each : ∀ j, j < len → ∃ k n x ts cp fp, w.cell? (a.add (j * 3)) = some (.int .i64 k) ∧ w.cell? ((a.add (j * 3)).add 1) = some (.int .i64 n) ∧ w.cell? ((a.add (j * 3)).add 2) = some (.slice x ts.length cp) ∧
        ts.length ≤ cp ∧ Els (limOf w) w ts x fp ∧ (T.mk k n ts).fits := by
      intro j hj
      have hj' : j < elems.length := by omega
      have := hel j hj
      rw [List.getElem?_eq_getElem hj', Y.ct] at this
      obtain ⟨cs, hc, ht⟩ := Option.bind_eq_some_iff.1 this
      obtain ⟨k, n, x, ts, cp, fp, rfl, k1, k2, k3⟩ := ih m (by omega) cs _ ht
      refine ⟨k, n, x, ts, cp, fp, ?_⟩
      simp only [World.cells?, Nat.zero_le, if_true] at hc
      have e : (List.range 3).mapM (fun i => w.cell? ((a.add (j * 3)).add i)) = (do
        let x ← w.cell? ((a.add (j * 3)).add 0); let y ← w.cell? ((a.add (j * 3)).add 1); let z ← w.cell? ((a.add (j * 3)).add 2); pure [x, y, z]) := by
        simp [List.range_succ]
        cases w.cell? ((a.add (j * 3)).add 0) <;> cases w.cell? ((a.add (j * 3)).add 1) <;> cases w.cell? ((a.add (j * 3)).add 2) <;> rfl
      rw [e] at hc
      simp only [Option.bind_eq_bind, Option.bind_eq_some_iff, Option.pure_def, Option.some.injEq] at hc
      obtain ⟨c0, q0, c1, q1, c2, q2, q3⟩ := hc
      injection q3 with e0 q3
      injection q3 with e1 q3
      injection q3 with e2 _
      subst e0 e1 e2
      exact ⟨by simpa [Addr.add] using q0, q1, q2, k1, k2, k3⟩
    obtain ⟨k0, _, _, _, _, _, c0, _⟩ := each 0 (by omega)
    have c0 : w.cell? a = some (.int .i64 k0) := by simpa [Addr.add] using c0
    have ha := cell_plain c0
    have hadd : ∀ j, a.add j = ⟨a.block, a.off + j, none⟩ := fun j => by
      unfold Addr.add
      by_cases hj : j = 0
      · rw [if_pos hj, hj]; exact ha
      · rw [if_neg hj]
    have hadd2 : ∀ j i, (a.add j).add i = ⟨a.block, a.off + j + i, none⟩ := fun j i => by
      rw [hadd]
      unfold Addr.add
      by_cases hj : i = 0
      · rw [if_pos hj, hj]; rfl
      · rw [if_neg hj]
    obtain ⟨ts, fp, t1, t2, t3⟩ := arr_of (w := w) (Q := fun _ t => t.fits) (b := a.block) (off := a.off) len 0 fun j hj => by
      obtain ⟨k, n, x, ts, cp, fp, g0, g1, g2, g3, g4, g5⟩ := each j hj
      rw [hadd] at g0
      rw [hadd2] at g1 g2
      rw [Nat.zero_add]
      exact ⟨.mk k n ts, fp, ⟨limOf_cell g2, g0, g1, x, cp, g2, g3, g4⟩, g5⟩
    have hne : ts ≠ [] := fun e => by subst e; simp at t1; omega
    refine ⟨some a, ts, cap, a.block :: fp, by rw [t1], by omega, .inr ⟨a.block, a.off, fp, hne, by rw [← ha], rfl, by simpa using t2⟩, by omega, fitsL_of fun i u hu => t3 i u hu⟩

theorem term_open {t i l : TypeId} (Y : TmT P t i l) : ∀ (fuel : Nat) (cs : List Value) (x : DataW H × List MemPlace), DataW.trod enc P w 0 sp held fuel t cs = some x → TmOpen w cs := by
  intro fuel
  induction fuel using Nat.strongRecOn with
  | _ fuel ih =>
    intro cs x h
    obtain ⟨f0, f1, f2, hst, e0, e1, e2, o0, o1, o2⟩ := Y.st
    obtain ⟨xs, n, hfu, _, hl, hlen, hf⟩ := DataW.trod_struct hst h
    rw [Y.ct] at hl
    match cs, hl with
    | [c0, c1, c2], _ =>
      match xs, hlen with
      | [y0, y1, y2], _ =>
        have h0 := hf 0 f0 rfl
        have h1 := hf 1 f1 rfl
        have h2 := hf 2 f2 rfl
        rw [e0, Y.ci, o0] at h0
        rw [e1, Y.ci, o1] at h1
        rw [e2, Y.cl, o2] at h2
        obtain ⟨k, g0, w0⟩ := trod_int_open Y.it h0
        obtain ⟨k', g1, w1⟩ := trod_int_open Y.it h1
        obtain ⟨a, ts, cap, fp, g2, g3, g4, g5, g6⟩ := slice_open Y (fuel := n) (fun m hm => ih m (by omega)) h2
        simp at g0 g1 g2
        subst g0 g1 g2
        exact ⟨k, k', a, ts, cap, fp, rfl, g3, g4, wf_i64 w0, wf_i64 w1, g5, g6⟩

/- THE LAW'S CALL. -/
/-- The world in which a law begins. -/
def lawFr (W : World) (hI : Inv W ∧ NG ≤ W.heap.size) (av : Nat → Value) : Fr := { w0 := W, lim0 := limOf W, floc := fun _ => 0, nf := 0, av := av, am := fun _ => True, inv := hI.1, ng := hI.2, nfl := fun i hi => absurd hi (Nat.not_lt_zero i) }
theorem lawFr_ok (W : World) (hI : Inv W ∧ NG ≤ W.heap.size) (av : Nat → Value) : FrOk (lawFr W hI av) :=
  { inj := fun i j hi => absurd hi (Nat.not_lt_zero i), lt := fun i hi => absurd hi (Nat.not_lt_zero i), limz := fun b hb => by
      have hb : W.heap.size ≤ b := hb
      show limOf W b = 0
      unfold limOf
      rw [Array.getElem?_eq_none hb] }
theorem els_lt {W : World} {ts : List T} {a : Option Addr} {fp : List Nat} (h : Els (limOf W) W ts a fp) : ∀ b ∈ fp, b < W.heap.size := h.lt

theorem in_slice {W : World} {hI : Inv W ∧ NG ≤ W.heap.size} {av : Nat → Value} {p : Nat} {a : Option Addr} {ts : List T} {cap : Nat} {fp : List Nat} (hp : av p = .slice a ts.length cap) (hl : ts.length ≤ cap) (h : Els (limOf W) W ts a fp) :
    RelE (lawFr W hI av) (lawFr W hI av).g0 3 W (.slc ts (.arg p)) (.slice a ts.length cap) :=
  ⟨a, cap, fp, rfl, hl, h, hp.symm, fun b hb => InM.two.2 ⟨h.lt b hb, trivial⟩⟩
theorem in_term {W : World} {hI : Inv W ∧ NG ≤ W.heap.size} {av : Nat → Value} {p : Nat} {k n : Int} {a : Option Addr} {ts : List T} {cap : Nat} {fp : List Nat} (hp : av p = .slice a ts.length cap) (hl : ts.length ≤ cap) (h : Els (limOf W) W ts a fp) :
    Rel3 (lawFr W hI av) (lawFr W hI av).g0 3 W (.st [.int .i64 k, .int .i64 n, .slc ts (.arg p)]) (.agg #[.int .i64 k, .int .i64 n, .slice a ts.length cap]) :=
  ⟨[.int .i64 k, .int .i64 n, .slice a ts.length cap], rfl, rfl, rfl, in_slice hp hl h, trivial⟩
theorem in_ints {W : World} {hI : Inv W ∧ NG ≤ W.heap.size} {av : Nat → Value} {p : Nat} {k : IntKind} {a : Option Addr} {ns : List Int} {cap : Nat} {fp : List Nat} (hp : av p = .slice a ns.length cap) (hl : ns.length ≤ cap) (h : InI (limOf W) W k ns a fp) :
    Rel3 (lawFr W hI av) (lawFr W hI av).g0 3 W (.ints k ns (.arg p)) (.slice a ns.length cap) :=
  ⟨a, cap, fp, rfl, hl, h, hp.symm, fun b hb => InM.two.2 ⟨h.lt b hb, trivial⟩⟩

/-- A call that hands back true and turns nothing that was there. -/
def TrueKept (W : World) (e : Ending) (W' : World) : Prop := e = .returned (.bool true) ∧ Below W.heap.size W W'
theorem law_call {P : Program} {f : Nat} {c : Con} (h : Sound P f c) {args : List AV} (hc : ∀ K : AV → List AV → Prop, K (.bool true) [] → c args [] K) {W : World} {hI : Inv W ∧ NG ≤ W.heap.size} (av : Nat → Value) {vals : List Value}
    (ha : All2 (Rel3 (lawFr W hI av) (lawFr W hI av).g0 3 W) args vals) : Calls P f vals.toArray W (TrueKept W) := by
  refine (h.2 args [] (fun r hs => r = .bool true) (hc _ rfl) (lawFr W hI av) vals (lawFr_ok W hI av) rfl ha (fun i u hu => by simp at hu)).mono fun e w' ⟨r, hs', v, γ', he, hr, ho⟩ => ?_
  subst hr
  have hv : v = .bool true := ho.rel
  subst hv
  exact ⟨he, ho.kept.os, ho.kept.tape, ho.kept.output, ho.kept.size, fun k hk => ho.kept.block k hk fun i hi => absurd hi (Nat.not_lt_zero i)⟩
end
end Go.Dk
