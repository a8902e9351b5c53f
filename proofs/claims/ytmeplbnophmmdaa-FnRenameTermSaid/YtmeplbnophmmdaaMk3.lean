/- The laws' marking functions mark: walked. -/
import Derived.Test.YtmeplbnophmmdaaChecked
import Derived.WalkKit
import Derived.Deep.LoopGhost
import Derived.Laws.Rows
import Derived.Test.YtmeplbnophmmdaaMk2
open Go.RowKit
namespace Go.Dk
open Go.Proofs
theorem hid {p : Prop} (h : p) : Hid p := h
theorem Wrote.refl {w : World} {fp : List Nat} (h : ∀ b ∈ fp, PlainB w b) : Wrote w w fp :=
  ⟨fun _ _ => rfl, fun b hb => let ⟨c, ty, e⟩ := h b hb; ⟨c, c, ty, e, e, rfl⟩, rfl, rfl, rfl, rfl, fun _ _ _ h => h⟩
theorem Wrote.trans {w w1 w2 : World} {fp : List Nat} (h : Wrote w w1 fp) (g : Wrote w1 w2 fp) : Wrote w w2 fp :=
  ⟨fun b hb => (g.other b hb).trans (h.other b hb), fun b hb => by
    obtain ⟨c, c1, ty, e1, e2, e3⟩ := h.self b hb
    obtain ⟨d, d1, ty', g1, g2, g3⟩ := g.self b hb
    rw [e2] at g1; cases g1
    exact ⟨c, d1, _, e1, g2, g3.trans e3⟩,
   g.size.trans h.size, g.os.trans h.os, g.tape.trans h.tape, g.output.trans h.output, fun b o n e => g.keep8 b o n (h.keep8 b o n e)⟩
theorem Wrote.plain {w w1 : World} {fp : List Nat} (h : Wrote w w1 fp) {b : Nat} (hb : PlainB w b) : PlainB w1 b := by
  by_cases hm : b ∈ fp
  · obtain ⟨c, c', ty, _, e, _⟩ := h.self b hm; exact ⟨c', ty, e⟩
  · exact hb.of (h.other b hm)
theorem Wrote.wide {w w1 : World} {fp fq : List Nat} (h : Wrote w w1 fp) (hs : ∀ b ∈ fp, b ∈ fq) (hp : ∀ b ∈ fq, PlainB w b) : Wrote w w1 fq :=
  ⟨fun b hb => h.other b fun hm => hb (hs b hm), fun b hb => by
    by_cases hm : b ∈ fp
    · exact h.self b hm
    · obtain ⟨c, ty, e⟩ := hp b hb
      exact ⟨c, c, ty, e, by rw [h.other b hm]; exact e, rfl⟩,
   h.size, h.os, h.tape, h.output, h.keep8⟩
theorem wrote_int {w : World} {b off : Nat} {n m : Int} (hp : PlainB w b) (hc : w.cell? ⟨b, off, none⟩ = some (.int .i64 n)) : Wrote w (w.setCell ⟨b, off, none⟩ (.int .i64 m)) [b] := by
  obtain ⟨c, ty, e⟩ := hp
  refine ⟨fun x hx => Below.heap_setCell w ⟨b, off, none⟩ _ x (by simpa using hx), fun x hx => ?_, by simp [World.setCell], rfl, rfl, rfl, fun x o k hk => ?_⟩
  · obtain rfl := List.mem_singleton.1 hx
    exact ⟨c, c.setIfInBounds off (.int .i64 m), ty, e, by simp [World.setCell, Array.getElem?_modify, e], by simp⟩
  · rw [World.cell?_setCell_other _ _ _ _ (fun e => by rw [← e, hc] at hk; cases hk)]; exact hk
theorem cell_set {w : World} {b off : Nat} {v u : Value} (hp : PlainB w b) (hc : w.cell? ⟨b, off, none⟩ = some u) : (w.setCell ⟨b, off, none⟩ v).cell? ⟨b, off, none⟩ = some v := by
  obtain ⟨c, ty, e⟩ := hp
  rw [cell_of_row w b off c ty _ e] at hc
  have e2 : (w.setCell ⟨b, off, none⟩ v).heap[b]? = some (.cells (c.setIfInBounds off v) ty (0, 0)) := by simp [World.setCell, Array.getElem?_modify, e]
  rw [cell_of_row _ b off _ ty _ e2]
  have := (Array.getElem?_eq_some_iff.1 hc).1
  simp [this]
theorem frozen_plain {w : World} {b off : Nat} (hp : PlainB w b) : w.frozen? ⟨b, off, none⟩ = false := by
  obtain ⟨c, ty, e⟩ := hp
  simp [World.frozen?, e]
/-- A part whose blocks have not changed. -/
theorem Arr.same {lim : Nat → Nat} {w w' : World} : ∀ (ts : List T) (b off : Nat) (fp : List Nat), Arr lim w ts b off fp → (∀ o, off ≤ o → o < off + ts.length * 3 → w'.cell? ⟨b, o, none⟩ = w.cell? ⟨b, o, none⟩) → (∀ x ∈ fp, w'.heap[x]? = w.heap[x]?) → Arr lim w' ts b off fp
  | [], _, _, _, h, _, _ => h
  | t :: ts, b, off, _, ⟨f1, f2, h1, h2, h3⟩, hc, hx => by
    subst h1
    simp only [List.length_cons] at hc
    refine ⟨f1, f2, rfl, ?_, Arr.same ts b (off + 3) f2 h3 (fun o h1 h2 => hc o (by omega) (by omega)) fun x hm => hx x (by simp [hm])⟩
    cases t with
    | mk k n us =>
      obtain ⟨g0, g1, g2, a, cap, g3, g4, g5⟩ := h2
      refine ⟨g0, by rw [hc _ (by omega) (by omega)]; exact g1, by rw [hc _ (by omega) (by omega)]; exact g2, a, cap, by rw [hc _ (by omega) (by omega)]; exact g3, g4, ?_⟩
      have g5 : Els lim w us a f1 := g5
      exact g5.wstep (B := fun x => w'.heap[x]? ≠ w.heap[x]?) (fun x hx => Classical.not_not.1 hx) fun x hm hne => hne (hx x (by simp [hm]))
theorem Arr.app {lim : Nat → Nat} {w : World} : ∀ (ts us : List T) (b off : Nat) (f g : List Nat), Arr lim w ts b off f → Arr lim w us b (off + ts.length * 3) g → Arr lim w (ts ++ us) b off (f ++ g)
  | [], us, b, off, f, g, h, h' => by rw [show f = [] from h]; simpa using h'
  | t :: ts, us, b, off, _, g, ⟨f1, f2, h1, h2, h3⟩, h' => by
    subst h1
    refine ⟨f1, f2 ++ g, by simp, h2, Arr.app ts us b (off + 3) f2 g h3 ?_⟩
    have e : off + 3 + ts.length * 3 = off + (t :: ts).length * 3 := by simp; omega
    rw [e]; exact h'
theorem markL_snoc : ∀ (ts : List T) (t : T) (k : Int), markL (ts ++ [t]) k = markL ts k ++ [t.mark (k + 2 * sizeL ts)]
  | [], t, k => by simp [markL, sizeL]
  | u :: ts, t, k => by
    simp only [List.cons_append, markL, markL_snoc ts t, sizeL]
    congr 4
    omega
theorem sizeL_app : ∀ (ts us : List T), sizeL (ts ++ us) = sizeL ts + sizeL us
  | [], us => by simp [sizeL]
  | t :: ts, us => by simp only [List.cons_append, sizeL, sizeL_app ts]; omega
theorem sizeL_snoc : ∀ (ts : List T) (t : T), sizeL (ts ++ [t]) = sizeL ts + t.size
  | [], t => by simp [sizeL]
  | u :: ts, t => by simp only [List.cons_append, sizeL, sizeL_snoc ts t]; omega
/-- The state of the marking of a slice: the first part marked, the second as it was. -/
structure Mkg (lim : Nat → Nat) (w0 : World) (ts : List T) (b off : Nat) (fp : List Nat) (k : Int) (w : World) (pre us : List T) : Prop where
  eq : ts = pre ++ us
  wrote : Wrote w0 w (b :: fp)
  fps : ∃ f g, fp = f ++ g ∧ Arr lim w (markL pre k) b off f ∧ Arr lim w us b (off + pre.length * 3) g
theorem more_alloc (w : World) (cs : Array Value) (ty : TypeId) : MoreB w (w.alloc (.cells cs ty)) := by
  refine ⟨fun b hb => heap_alloc hb, by simp, fun b h1 h2 => ?_, rfl, rfl, rfl⟩
  have : b = w.heap.size := by simp at h2; omega
  subst this
  exact ⟨cs, ty, heap_alloc_new w _⟩
end Go.Dk
