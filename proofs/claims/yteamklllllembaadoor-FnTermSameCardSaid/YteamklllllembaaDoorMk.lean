/- Functions that mark: what is asked of them. -/
import Derived.Test.YteamklllllembaaDoorRel
namespace Go.Dk

/-- A block of cells that may be written. -/
def PlainB (w : World) (b : Nat) : Prop := ∃ c ty, w.heap[b]? = some (.cells c ty (0, 0))
theorem PlainB.of {w w' : World} {b : Nat} (h : PlainB w b) (e : w'.heap[b]? = w.heap[b]?) : PlainB w' b := by
  obtain ⟨c, ty, h⟩ := h; exact ⟨c, ty, by rw [e]; exact h⟩
def HasFn (P : Program) (f : Nat) : Prop := ∃ fn, P.funcs[f]? = some fn ∧ (fn.name == "runtime.NumGoroutine") = false ∧ fn.body.isNone = false
/-- Bytes are kept. -/
def Keep8 (w w' : World) : Prop := ∀ b off n, w.cell? ⟨b, off, none⟩ = some (.int .u8 n) → w'.cell? ⟨b, off, none⟩ = some (.int .u8 n)
/-- The cells of some blocks have changed, and nothing else. -/
structure Wrote (w w' : World) (fp : List Nat) : Prop where
  other : ∀ b, b ∉ fp → w'.heap[b]? = w.heap[b]?
  self : ∀ b ∈ fp, ∃ c c' ty, w.heap[b]? = some (.cells c ty (0, 0)) ∧ w'.heap[b]? = some (.cells c' ty (0, 0)) ∧ c'.size = c.size
  size : w'.heap.size = w.heap.size
  os : w'.os = w.os
  tape : w'.tape = w.tape
  output : w'.output = w.output
  keep8 : Keep8 w w'
/-- A block of cells more, or none. -/
structure MoreB (w w' : World) : Prop where
  old : ∀ b, b < w.heap.size → w'.heap[b]? = w.heap[b]?
  size : w.heap.size ≤ w'.heap.size
  new : ∀ b, w.heap.size ≤ b → b < w'.heap.size → PlainB w' b
  os : w'.os = w.os
  tape : w'.tape = w.tape
  output : w'.output = w.output
theorem MoreB.refl (w : World) : MoreB w w := ⟨fun _ _ => rfl, Nat.le_refl _, fun b h1 h2 => by omega, rfl, rfl, rfl⟩
/-- What is asked of a function that marks. -/
def MarkOk (P : Program) (f mk : Nat) : Prop :=
  (mk = 1 → HasFn P f ∧ ∀ (lim : Nat → Nat) (w : World) (ts : List T) (a : Option Addr) (cap : Nat) (fp : List Nat) (k : Int), Els lim w ts a fp → ts.length ≤ cap → fp.Nodup → (∀ b ∈ fp, PlainB w b) → 0 ≤ k → k + 2 * sizeL ts ≤ 9223372036854775807 →
    Calls P f #[.slice a ts.length cap, .int .i64 k] w fun e w' => e = .returned (.int .i64 (k + 2 * sizeL ts)) ∧ ∃ w1, MoreB w w1 ∧ Wrote w1 w' fp ∧ Els lim w' (markL ts k) a fp) ∧
  (mk = 2 → HasFn P f ∧ ∀ (lim : Nat → Nat) (w : World) (k0 n0 : Int) (ts : List T) (a : Option Addr) (cap : Nat) (fp : List Nat) (k : Int), Els lim w ts a fp → ts.length ≤ cap → fp.Nodup → (∀ b ∈ fp, PlainB w b) → 0 ≤ k → k + 2 * sizeL ts ≤ 9223372036854775807 →
    Calls P f #[.agg #[.int .i64 k0, .int .i64 n0, .slice a ts.length cap], .int .i64 k] w fun e w' => e = .returned (.int .i64 (k + 2 * sizeL ts)) ∧ ∃ w1, MoreB w w1 ∧ Wrote w1 w' fp ∧ Els lim w' (markL ts k) a fp) ∧
  (mk = 3 → HasFn P f ∧ ∀ (lim : Nat → Nat) (w : World) (ns : List Int) (a : Option Addr) (cap : Nat) (fp : List Nat) (k : Int), InI lim w .i64 ns a fp → ns.length ≤ cap → (∀ b ∈ fp, PlainB w b) → 0 ≤ k → k + ns.length ≤ 9223372036854775807 →
    Calls P f #[.slice a ns.length cap, .int .i64 k] w fun e w' => e = .returned (.int .i64 (k + ns.length)) ∧ ∃ w1, MoreB w w1 ∧ Wrote w1 w' fp ∧ InI lim w' .i64 (markI ns k) a fp)
theorem MarkOk.none {P : Program} {f : Nat} : MarkOk P f 0 := ⟨nofun, nofun, nofun⟩
mutual
theorem TAt.pos {lim : Nat → Nat} {w : World} : ∀ (t : T) (b off : Nat) (fp : List Nat), TAt lim w t b off fp → 0 < lim b ∧ ∀ x ∈ fp, 0 < lim x
  | .mk k n ts, b, off, fp, ⟨h0, _, _, a, cap, _, _, h5⟩ => by
    refine ⟨by omega, ?_⟩
    rcases h5 with ⟨_, rfl⟩ | ⟨b', off', fp', h6, _, rfl, h9⟩
    · simp
    · obtain ⟨g1, g2⟩ := Arr.pos ts b' off' fp' h9
      intro x hx
      rcases List.mem_cons.1 hx with rfl | hx
      · exact g1 h6
      · exact g2 x hx
theorem Arr.pos {lim : Nat → Nat} {w : World} : ∀ (ts : List T) (b off : Nat) (fp : List Nat), Arr lim w ts b off fp → (ts ≠ [] → 0 < lim b) ∧ ∀ x ∈ fp, 0 < lim x
  | [], _, _, _, h => by rw [show _ = [] from h]; simp
  | t :: ts, b, off, fp, ⟨f1, f2, h1, h2, h3⟩ => by
    obtain ⟨g1, g2⟩ := TAt.pos t b off f1 h2
    obtain ⟨_, g4⟩ := Arr.pos ts b (off + 3) f2 h3
    refine ⟨fun _ => g1, fun x hx => ?_⟩
    rw [h1] at hx
    rcases List.mem_append.1 hx with hx | hx
    · exact g2 x hx
    · exact g4 x hx
end
theorem Els.pos {lim : Nat → Nat} {w : World} {ts : List T} {a : Option Addr} {fp : List Nat} (h : Els lim w ts a fp) : ∀ x ∈ fp, 0 < lim x := by
  rcases h with ⟨_, rfl⟩ | ⟨b, off, fp', hne, _, rfl, h4⟩
  · simp
  · obtain ⟨g1, g2⟩ := Arr.pos _ _ _ _ h4
    intro x hx
    rcases List.mem_cons.1 hx with rfl | hx
    · exact g1 hne
    · exact g2 x hx
theorem InI.pos {lim : Nat → Nat} {w : World} {k : IntKind} {ns : List Int} {a : Option Addr} {fp : List Nat} (h : InI lim w k ns a fp) : ∀ x ∈ fp, 0 < lim x := by
  rcases h with ⟨_, rfl⟩ | ⟨b, off, h0, _, rfl, h2⟩
  · simp
  · intro x hx
    obtain rfl := List.mem_singleton.1 hx
    have := (h2 0 (List.length_pos_iff.2 h0)).2
    omega
end Go.Dk
