/- Functions that mark: what is asked of them. -/
import Derived.Test.YtmeplbnophmmdaaRel
namespace Go.Dk

/-- A block of cells that may be written. -/
def PlainB (w : World) (b : Nat) : Prop := ∃ c ty, w.heap[b]? = some (.cells c ty (0, 0))
theorem PlainB.of {w w' : World} {b : Nat} (h : PlainB w b) (e : w'.heap[b]? = w.heap[b]?) : PlainB w' b := by
  obtain ⟨c, ty, h⟩ := h; exact ⟨c, ty, by rw [e]; exact h⟩
def HasFn (P : Program) (f : Nat) : Prop := ∃ fn, P.funcs[f]? = some fn ∧ (fn.name == "runtime.NumGoroutine") = false ∧ fn.body.isNone = false
/-- Bytes are kept. -/
def Keep8 (w w' : World) : Prop := ∀ b off n, w.cell? ⟨b, off, none⟩ = some (.int .u8 n) → w'.cell? ⟨b, off, none⟩ = some (.int .u8 n)
/-- The cells of some blocks have changed, and nothing else. -/
structure Wrote (w w' : World) (fp : List Nat) : Prop where
  other : ∀ b, b ∉ fp → w'.heap[b]? = w.heap[b]?
  self : ∀ b ∈ fp, ∃ c c' ty, w.heap[b]? = some (.cells c ty (0, 0)) ∧ w'.heap[b]? = some (.cells c' ty (0, 0)) ∧ c'.size = c.size
  size : w'.heap.size = w.heap.size
  os : w'.os = w.os
  tape : w'.tape = w.tape
  output : w'.output = w.output
  keep8 : Keep8 w w'
/-- A block of cells more, or none. -/
structure MoreB (w w' : World) : Prop where
  old : ∀ b, b < w.heap.size → w'.heap[b]? = w.heap[b]?
  size : w.heap.size ≤ w'.heap.size
  new : ∀ b, w.heap.size ≤ b → b < w'.heap.size → PlainB w' b
  os : w'.os = w.os
  tape : w'.tape = w.tape
  output : w'.output = w.output
theorem MoreB.refl (w : World) : MoreB w w := ⟨fun _ _ => rfl, Nat.le_refl _, fun b h1 h2 => by omega, rfl, rfl, rfl⟩
/-- What is asked of a function that marks. -/
def MarkOk (P : Program) (f mk : Nat) : Prop :=
  (mk = 1 → HasFn P f ∧ ∀ (lim : Nat → Nat) (w : World) (ts : List T) (a : Option Addr) (cap : Nat) (fp : List Nat) (k : Int), Els lim w ts a fp → ts.length ≤ cap → fp.Nodup → (∀ b ∈ fp, PlainB w b) → 0 ≤ k → k + 2 * sizeL ts ≤ 9223372036854775807 →
    Calls P f #[.slice a ts.length cap, .int .i64 k] w fun e w' => e = .returned (.int .i64 (k + 2 * sizeL ts)) ∧ ∃ w1, MoreB w w1 ∧ Wrote w1 w' fp ∧ Els lim w' (markL ts k) a fp) ∧
  (mk = 2 → HasFn P f ∧ ∀ (lim : Nat → Nat) (w : World) (k0 n0 : Int) (ts : List T) (a : Option Addr) (cap : Nat) (fp : List Nat) (k : Int), Els lim w ts a fp → ts.length ≤ cap → fp.Nodup → (∀ b ∈ fp, PlainB w b) → 0 ≤ k → k + 2 * sizeL ts ≤ 9223372036854775807 →
    Calls P f #[.agg #[.int .i64 k0, .int .i64 n0, .slice a ts.length cap], .int .i64 k] w fun e w' => e = .returned (.int .i64 (k + 2 * sizeL ts)) ∧ ∃ w1, MoreB w w1 ∧ Wrote w1 w' fp ∧ Els lim w' (markL ts k) a fp) ∧
  (mk = 3 → HasFn P f ∧ ∀ (lim : Nat → Nat) (w : World) (ns : List Int) (a : Option Addr) (cap : Nat) (fp : List Nat) (k : Int), InI lim w .i64 ns a fp → ns.length ≤ cap → (∀ b ∈ fp, PlainB w b) → 0 ≤ k → k + ns.length ≤ 9223372036854775807 →
    Calls P f #[.slice a ns.length cap, .int .i64 k] w fun e w' => e = .returned (.int .i64 (k + ns.length)) ∧ ∃ w1, MoreB w w1 ∧ Wrote w1 w' fp ∧ InI lim w' .i64 (markI ns k) a fp)
theorem MarkOk.none {P : Program} {f : Nat} : MarkOk P f 0 := ⟨nofun, nofun, nofun⟩
end Go.Dk
