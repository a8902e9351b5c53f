/- What an abstract value means in memory, and that it keeps its meaning while memory grows. -/
import Derived.Test.YtlfddfmoifjenaaAbs
namespace Go.Dk

def All2 {α β : Type} (R : α → β → Prop) : List α → List β → Prop
  | [], [] => True
  | a :: r, b :: s => R a b ∧ All2 R r s
  | _, _ => False
theorem All2.mono {α β : Type} {R S : α → β → Prop} (h : ∀ a b, R a b → S a b) : ∀ {l : List α} {m : List β}, All2 R l m → All2 S l m
  | [], [], _ => trivial
  | _ :: _, _ :: _, ⟨h1, h2⟩ => ⟨h _ _ h1, All2.mono h h2⟩
theorem All2.length {α β : Type} {R : α → β → Prop} : ∀ {l : List α} {m : List β}, All2 R l m → l.length = m.length
  | [], [], _ => rfl
  | _ :: _, _ :: _, ⟨_, h2⟩ => by simp [All2.length h2]
theorem All2.get {α β : Type} {R : α → β → Prop} : ∀ {l : List α} {m : List β}, All2 R l m → ∀ (i : Nat) (a : α), l[i]? = some a → ∃ b, m[i]? = some b ∧ R a b
  | [], [], _, i, a, h => by simp at h
  | _ :: _, y :: _, ⟨h1, h2⟩, 0, a, h => by simp at h; subst h; exact ⟨y, rfl, h1⟩
  | _ :: _, _ :: _, ⟨h1, h2⟩, i + 1, a, h => by simpa using All2.get h2 i a (by simpa using h)
theorem All2.set {α β : Type} {R : α → β → Prop} {a : α} {b : β} (hab : R a b) : ∀ {l : List α} {m : List β}, All2 R l m → ∀ i, All2 R (l.set i a) (m.set i b)
  | [], [], _, i => by simp [All2]
  | _ :: _, _ :: _, ⟨h1, h2⟩, 0 => ⟨hab, h2⟩
  | _ :: _, _ :: _, ⟨h1, h2⟩, i + 1 => ⟨h1, All2.set hab h2 i⟩
theorem All2.append {α β : Type} {R : α → β → Prop} : ∀ {l : List α} {m : List β} {l' : List α} {m' : List β}, All2 R l m → All2 R l' m' → All2 R (l ++ l') (m ++ m')
  | [], [], _, _, _, h => h
  | _ :: _, _ :: _, _, _, ⟨h1, h2⟩, h => ⟨h1, All2.append h2 h⟩

/-- What is known of memory beside it: of each block, how many of its first cells will not change; where the variables lie; which append owns a block's spare; how large memory was at the moments. -/
structure Gh where
  lim : Nat → Nat
  loc : Nat → Nat
  ow : Nat → Option Nat
  H : Nat → Nat
/-- What stays as it is through a call: the world at its begin, where the foreign variables lie, the slices among the arguments. -/
structure Fr where
  w0 : World
  lim0 : Nat → Nat
  floc : Nat → Nat
  nf : Nat
  av : Nat → Value
  n : Nat

section
variable (lim : Nat → Nat) (w : World)
mutual
/-- A term at an address: three cells; its operands elsewhere; fp: the blocks of all operands below it. -/
def TAt : T → Nat → Nat → List Nat → Prop
  | .mk k n ts, b, off, fp => off + 2 < lim b ∧ w.cell? ⟨b, off, none⟩ = some (.int .i64 k) ∧ w.cell? ⟨b, off + 1, none⟩ = some (.int .i64 n) ∧
      ∃ a cap, w.cell? ⟨b, off + 2, none⟩ = some (.slice a ts.length cap) ∧ ts.length ≤ cap ∧
        ((ts = [] ∧ fp = []) ∨ ∃ b' off' fp', ts ≠ [] ∧ a = some ⟨b', off', none⟩ ∧ fp = b' :: fp' ∧ Arr ts b' off' fp')
def Arr : List T → Nat → Nat → List Nat → Prop
  | [], _, _, fp => fp = []
  | t :: ts, b, off, fp => ∃ f1 f2, fp = f1 ++ f2 ∧ TAt t b off f1 ∧ Arr ts b (off + 3) f2
end
/-- A slice of terms: the first cell's address; fp: its own block and those below. -/
def Els (ts : List T) (a : Option Addr) (fp : List Nat) : Prop :=
  (ts = [] ∧ fp = []) ∨ ∃ b off fp', ts ≠ [] ∧ a = some ⟨b, off, none⟩ ∧ fp = b :: fp' ∧ Arr lim w ts b off fp'
def InI (k : IntKind) (ns : List Int) (a : Option Addr) : Prop :=
  ns = [] ∨ ∃ b off, a = some ⟨b, off, none⟩ ∧ ∀ j, j < ns.length → w.cell? ⟨b, off + j, none⟩ = some (.int k (ns.getD j 0)) ∧ off + j < lim b
def InS (ss : List (List UInt8)) (a : Option Addr) : Prop :=
  ss = [] ∨ ∃ b off, a = some ⟨b, off, none⟩ ∧ ∀ j, j < ss.length → w.cell? ⟨b, off + j, none⟩ = some (.string ⟨(ss.getD j []).toArray⟩) ∧ off + j < lim b
end

section
variable (C : Fr) (γ : Gh) (now : Nat) (w : World)

def bnd (e : Nat) : Nat := if e < now then γ.H e else w.heap.size
def OwnOk (es : Nat) (a : Option Addr) (len cap : Nat) : Own → Prop
  | .no => True
  | .full => cap = len
  | .tok k => len < cap → 0 < len ∧ ∃ b c ty, a = some ⟨b, 0, none⟩ ∧ γ.ow b = some k ∧ w.heap[b]? = some (.cells c ty (0, 0)) ∧ c.size = cap * es ∧ γ.lim b = len * es
def IvOk (lo hi : Nat) (nd : Bool) (fp : List Nat) : Prop :=
  lo < now ∧ (∀ b ∈ fp, γ.H lo ≤ b) ∧ (∀ b ∈ fp, b < bnd γ now w hi) ∧ (nd = true → fp.Nodup)
def TagOk (es : Nat) (a : Option Addr) (len cap : Nat) (fp : List Nat) : Tag → Prop
  | .any => True
  | .iv lo hi nd o => IvOk γ now w lo hi nd fp ∧ OwnOk γ w es a len cap o
  | .el lo hi nd => IvOk γ now w lo hi nd fp.tail
  | .arg i => .slice a len cap = C.av i ∧ ∀ b ∈ fp, b < γ.H 1
def OwnTag (es : Nat) (a : Option Addr) (len cap : Nat) : Tag → Prop
  | .any => True
  | .iv _ _ _ o => OwnOk γ w es a len cap o
  | .el _ _ _ => True
  | .arg i => .slice a len cap = C.av i

def RelE : AV → Value → Prop
  | .int k n, v => v = .int k n
  | .bool b, v => v = .bool b
  | .str l, v => v = .string ⟨l.toArray⟩
  | .slc ts g, v => ∃ a cap fp, v = .slice a ts.length cap ∧ ts.length ≤ cap ∧ Els γ.lim w ts a fp ∧ TagOk C γ now w 3 a ts.length cap fp g
  | .ints k ns g, v => ∃ a cap, v = .slice a ns.length cap ∧ ns.length ≤ cap ∧ InI γ.lim w k ns a ∧ OwnTag C γ w 1 a ns.length cap g
  | .strs ss, v => ∃ a cap, v = .slice a ss.length cap ∧ ss.length ≤ cap ∧ InS γ.lim w ss a
  | .nili, v => v = .nilIface
  | .ifc, v => ∃ t u, v = .iface t u
  | _, _ => False
def PtrV : AV → Value → Prop
  | .ptr i, v => v = .pointer (some ⟨γ.loc i, 0, none⟩)
  | .fptr i, v => v = .pointer (some ⟨C.floc i, 0, none⟩)
  | _, _ => False
def CelR (u : AV) (b off : Nat) : Prop :=
  match u with
  | .st fs => ∀ j, j < fs.length → ∃ v, w.cell? ⟨b, off + j, none⟩ = some v ∧ off + j < γ.lim b ∧ RelE C γ now w (fs.getD j .top) v
  | u => ∃ v, w.cell? ⟨b, off, none⟩ = some v ∧ off < γ.lim b ∧ RelE C γ now w u v
/-- Nothing in it can be struck. -/
def PlainC (u : AV) : Prop := ∀ x, (x = u ∨ ∃ fs, u = .st fs ∧ x ∈ fs) → ∀ kt kp, x.cl1 kt kp = x
def RelS : AV → Value → Prop
  | .top, _ => True
  | .ptr i, v => v = .pointer (some ⟨γ.loc i, 0, none⟩)
  | .fptr i, v => v = .pointer (some ⟨C.floc i, 0, none⟩)
  | .fld i j, v => v = .pointer (some ⟨γ.loc i, j, none⟩)
  | .ffld i j, v => v = .pointer (some ⟨C.floc i, j, none⟩)
  | .cel u, v => PlainC u ∧ ∃ b off, v = .pointer (some ⟨b, off, none⟩) ∧ CelR C γ now w u b off
  | .fn f caps, v => ∃ vs, v = .func (.func f) #[] vs.toArray ∧ All2 (PtrV C γ) caps vs
  | .int k n, v => RelE C γ now w (.int k n) v
  | .bool b, v => RelE C γ now w (.bool b) v
  | .str l, v => RelE C γ now w (.str l) v
  | .slc ts g, v => RelE C γ now w (.slc ts g) v
  | .ints k ns g, v => RelE C γ now w (.ints k ns g) v
  | .strs ss, v => RelE C γ now w (.strs ss) v
  | .nili, v => RelE C γ now w .nili v
  | .ifc, v => RelE C γ now w .ifc v
  | _, _ => False
def Rel2 : AV → Value → Prop
  | .st fs, v => ∃ cs, v = .agg cs.toArray ∧ All2 (RelS C γ now w) fs cs
  | u, v => RelS C γ now w u v
def Rel3 : AV → Value → Prop
  | .tup vs, v => ∃ us, v = .tuple us.toArray ∧ All2 (Rel2 C γ now w) vs us
  | u, v => Rel2 C γ now w u v
/-- A variable's cells. -/
def FlatR : AV → List Value → Prop
  | .st fs, cs => All2 (RelS C γ now w) fs cs
  | u, cs => ∃ v, cs = [v] ∧ RelS C γ now w u v
def VarR (b : Nat) (u : AV) : Prop := ∃ cs ty, w.heap[b]? = some (.cells cs.toArray ty (0, 0)) ∧ FlatR C γ now w u cs
end

/-- Memory has grown, and nothing that is known has changed, but for the tokens in kt and the variables in kp. -/
structure Step (γ : Gh) (now : Nat) (w : World) (γ' : Gh) (now' : Nat) (w' : World) (kt kp : Nat → Bool) : Prop where
  lim : ∀ b, γ.lim b ≤ γ'.lim b
  cell : ∀ b off, off < γ.lim b → ∀ v, w.cell? ⟨b, off, none⟩ = some v → w'.cell? ⟨b, off, none⟩ = some v
  size : w.heap.size ≤ w'.heap.size
  two : 2 ≤ now
  le : now ≤ now'
  Hlt : ∀ e, e < now → γ'.H e = γ.H e
  Hge : ∀ e, now ≤ e → e < now' → w.heap.size ≤ γ'.H e
  loc : ∀ i, kp i = false → γ'.loc i = γ.loc i
  ow : ∀ b k, γ.ow b = some k → kt k = false → γ'.ow b = some k ∧ w'.heap[b]? = w.heap[b]? ∧ γ'.lim b = γ.lim b

theorem block_lt {w : World} {b off : Nat} {v : Value} (h : w.cell? ⟨b, off, none⟩ = some v) : b < w.heap.size := World.block_lt_of_cell? w (a := ⟨b, off, none⟩) h

mutual
theorem TAt.step {lim lim' : Nat → Nat} {w w' : World} (hl : ∀ b, lim b ≤ lim' b) (hc : ∀ b off, off < lim b → ∀ v, w.cell? ⟨b, off, none⟩ = some v → w'.cell? ⟨b, off, none⟩ = some v) :
    ∀ (t : T) (b off : Nat) (fp : List Nat), TAt lim w t b off fp → TAt lim' w' t b off fp
  | .mk k n ts, b, off, fp, ⟨h0, h1, h2, a, cap, h3, h4, h5⟩ => by
    refine ⟨Nat.lt_of_lt_of_le h0 (hl b), hc _ _ (by omega) _ h1, hc _ _ (by omega) _ h2, a, cap, hc _ _ h0 _ h3, h4, ?_⟩
    rcases h5 with h5 | ⟨b', off', fp', h6, h7, h8, h9⟩
    · exact .inl h5
    · exact .inr ⟨b', off', fp', h6, h7, h8, Arr.step hl hc ts b' off' fp' h9⟩
theorem Arr.step {lim lim' : Nat → Nat} {w w' : World} (hl : ∀ b, lim b ≤ lim' b) (hc : ∀ b off, off < lim b → ∀ v, w.cell? ⟨b, off, none⟩ = some v → w'.cell? ⟨b, off, none⟩ = some v) :
    ∀ (ts : List T) (b off : Nat) (fp : List Nat), Arr lim w ts b off fp → Arr lim' w' ts b off fp
  | [], _, _, _, h => h
  | t :: ts, b, off, _, ⟨f1, f2, h1, h2, h3⟩ => ⟨f1, f2, h1, TAt.step hl hc t b off f1 h2, Arr.step hl hc ts b (off + 3) f2 h3⟩
end
section
variable {lim lim' : Nat → Nat} {w w' : World} (hl : ∀ b, lim b ≤ lim' b) (hc : ∀ b off, off < lim b → ∀ v, w.cell? ⟨b, off, none⟩ = some v → w'.cell? ⟨b, off, none⟩ = some v)
include hl hc
theorem Els.step {ts : List T} {a : Option Addr} {fp : List Nat} (h : Els lim w ts a fp) : Els lim' w' ts a fp := by
  rcases h with h | ⟨b, off, fp', h1, h2, h3, h4⟩
  · exact .inl h
  · exact .inr ⟨b, off, fp', h1, h2, h3, Arr.step hl hc _ _ _ _ h4⟩
theorem InI.step {k : IntKind} {ns : List Int} {a : Option Addr} (h : InI lim w k ns a) : InI lim' w' k ns a := by
  rcases h with h | ⟨b, off, h1, h2⟩
  · exact .inl h
  · exact .inr ⟨b, off, h1, fun j hj => ⟨hc _ _ (h2 j hj).2 _ (h2 j hj).1, Nat.lt_of_lt_of_le (h2 j hj).2 (hl b)⟩⟩
theorem InS.step {ss : List (List UInt8)} {a : Option Addr} (h : InS lim w ss a) : InS lim' w' ss a := by
  rcases h with h | ⟨b, off, h1, h2⟩
  · exact .inl h
  · exact .inr ⟨b, off, h1, fun j hj => ⟨hc _ _ (h2 j hj).2 _ (h2 j hj).1, Nat.lt_of_lt_of_le (h2 j hj).2 (hl b)⟩⟩
end

mutual
/-- The blocks of a tree are there. -/
theorem TAt.lt {lim : Nat → Nat} {w : World} : ∀ (t : T) (b off : Nat) (fp : List Nat), TAt lim w t b off fp → ∀ x ∈ fp, x < w.heap.size
  | .mk k n ts, b, off, fp, ⟨_, _, _, a, cap, _, _, h5⟩ => by
    rcases h5 with ⟨_, rfl⟩ | ⟨b', off', fp', h6, _, rfl, h9⟩
    · simp
    · intro x hx
      rcases List.mem_cons.1 hx with rfl | hx
      · cases ts with
        | nil => exact absurd rfl h6
        | cons t ts => obtain ⟨f1, f2, _, h2, _⟩ := h9; cases t with | mk k n ts => exact block_lt h2.2.1
      · exact Arr.lt ts b' off' fp' h9 x hx
theorem Arr.lt {lim : Nat → Nat} {w : World} : ∀ (ts : List T) (b off : Nat) (fp : List Nat), Arr lim w ts b off fp → ∀ x ∈ fp, x < w.heap.size
  | [], _, _, _, h => by rw [h]; simp
  | t :: ts, b, off, fp, ⟨f1, f2, h1, h2, h3⟩ => by
    intro x hx
    rw [h1] at hx
    rcases List.mem_append.1 hx with hx | hx
    · exact TAt.lt t b off f1 h2 x hx
    · exact Arr.lt ts b (off + 3) f2 h3 x hx
end
theorem Arr.block {lim : Nat → Nat} {w : World} {ts : List T} {b off : Nat} {fp : List Nat} (hne : ts ≠ []) (h : Arr lim w ts b off fp) : b < w.heap.size := by
  cases ts with
  | nil => exact absurd rfl hne
  | cons t ts => obtain ⟨f1, f2, _, h2, _⟩ := h; cases t with | mk k n ts => exact block_lt h2.2.1
theorem Els.lt {lim : Nat → Nat} {w : World} {ts : List T} {a : Option Addr} {fp : List Nat} (h : Els lim w ts a fp) : ∀ x ∈ fp, x < w.heap.size := by
  rcases h with ⟨_, rfl⟩ | ⟨b, off, fp', hne, _, rfl, h4⟩
  · simp
  · intro x hx
    rcases List.mem_cons.1 hx with rfl | hx
    · exact Arr.block hne h4
    · exact Arr.lt _ _ _ _ h4 x hx

theorem Rel2_eq {C : Fr} {γ : Gh} {now : Nat} {w : World} {u : AV} {v : Value} (hu : ∀ fs, u ≠ .st fs) : Rel2 C γ now w u v = RelS C γ now w u v := by
  cases u <;> first | rfl | exact absurd rfl (hu _)
theorem Rel3_eq {C : Fr} {γ : Gh} {now : Nat} {w : World} {u : AV} {v : Value} (hu : ∀ fs, u ≠ .tup fs) : Rel3 C γ now w u v = Rel2 C γ now w u v := by
  cases u <;> first | rfl | exact absurd rfl (hu _)
theorem FlatR_eq {C : Fr} {γ : Gh} {now : Nat} {w : World} {u : AV} {cs : List Value} (hu : ∀ fs, u ≠ .st fs) : FlatR C γ now w u cs = ∃ v, cs = [v] ∧ RelS C γ now w u v := by
  cases u <;> first | rfl | exact absurd rfl (hu _)
theorem cl2_eq {kt kp : Nat → Bool} {u : AV} (hu : ∀ fs, u ≠ .st fs) : u.cl2 kt kp = u.cl1 kt kp := by
  cases u <;> first | rfl | exact absurd rfl (hu _)
theorem cl_eq {kt kp : Nat → Bool} {u : AV} (hu : ∀ fs, u ≠ .tup fs) : u.cl kt kp = u.cl2 kt kp := by
  cases u <;> first | rfl | exact absurd rfl (hu _)
theorem cl1_ne_st {kt kp : Nat → Bool} {u : AV} (hu : ∀ fs, u ≠ .st fs) : ∀ fs, u.cl1 kt kp ≠ .st fs := by
  cases u <;> first | exact hu | (intro fs h; simp only [AV.cl1] at h; first | cases h | (split at h <;> cases h))
theorem cl2_ne_tup {kt kp : Nat → Bool} {u : AV} (hu : ∀ fs, u ≠ .tup fs) : ∀ fs, u.cl2 kt kp ≠ .tup fs := by
  cases u <;> first | exact hu | (intro fs h; simp only [AV.cl2, AV.cl1] at h; first | cases h | (split at h <;> cases h))

section
variable {C : Fr} {γ γ' : Gh} {now now' : Nat} {w w' : World} {kt kp : Nat → Bool} (S : Step γ now w γ' now' w' kt kp)
include S
theorem IvOk.step {lo hi : Nat} {nd : Bool} {fp : List Nat} (h : IvOk γ now w lo hi nd fp) : IvOk γ' now' w' lo hi nd fp := by
  obtain ⟨h0, h1, h2, h3⟩ := h
  refine ⟨Nat.lt_of_lt_of_le h0 S.le, fun b hb => by rw [S.Hlt lo h0]; exact h1 b hb, fun b hb => ?_, h3⟩
  have := h2 b hb
  have hs := S.size
  unfold bnd at *
  by_cases hh : hi < now
  · rw [if_pos hh] at this; rw [if_pos (Nat.lt_of_lt_of_le hh S.le), S.Hlt hi hh]; exact this
  · rw [if_neg hh] at this
    by_cases hh' : hi < now'
    · rw [if_pos hh']; exact Nat.lt_of_lt_of_le this (S.Hge hi (by omega) hh')
    · rw [if_neg hh']; omega
theorem OwnOk.step {es : Nat} {a : Option Addr} {len cap : Nat} {o : Own} (h : OwnOk γ w es a len cap o) : OwnOk γ' w' es a len cap (o.cl kt) := by
  cases o with
  | no => trivial
  | full => exact h
  | tok k =>
    cases hk : kt k with
    | true => simp only [Own.cl, hk]; trivial
    | false =>
      simp only [Own.cl, hk]
      intro hlt
      obtain ⟨h0, b, c, ty, h1, h2, h3, h4, h5⟩ := h hlt
      obtain ⟨g1, g2, g3⟩ := S.ow b k h2 hk
      exact ⟨h0, b, c, ty, h1, g1, by rw [g2]; exact h3, h4, by rw [g3]; exact h5⟩
theorem TagOk.step {es : Nat} {a : Option Addr} {len cap : Nat} {fp : List Nat} {g : Tag} (h : TagOk C γ now w es a len cap fp g) : TagOk C γ' now' w' es a len cap fp (g.cl kt) := by
  cases g with
  | any => trivial
  | iv lo hi nd o => exact ⟨IvOk.step S h.1, OwnOk.step S h.2⟩
  | el lo hi nd => exact IvOk.step S h
  | arg i => exact ⟨h.1, by rw [S.Hlt 1 (by have := S.two; omega)]; exact h.2⟩
theorem OwnTag.step {es : Nat} {a : Option Addr} {len cap : Nat} {g : Tag} (h : OwnTag C γ w es a len cap g) : OwnTag C γ' w' es a len cap (g.cl kt) := by
  cases g with
  | any => trivial
  | iv lo hi nd o => exact OwnOk.step S h
  | el lo hi nd => trivial
  | arg i => exact h
theorem RelE.step {u : AV} {v : Value} (h : RelE C γ now w u v) : RelE C γ' now' w' (u.cl1 kt kp) v := by
  cases u <;> simp only [RelE] at h <;> first | exact h.elim | exact h | skip
  · obtain ⟨a, cap, fp, h1, h2, h3, h4⟩ := h
    exact ⟨a, cap, fp, h1, h2, Els.step S.lim S.cell h3, TagOk.step S h4⟩
  · obtain ⟨a, cap, h1, h2, h3, h4⟩ := h
    exact ⟨a, cap, h1, h2, InI.step S.lim S.cell h3, OwnTag.step S h4⟩
  · obtain ⟨a, cap, h1, h2, h3⟩ := h
    exact ⟨a, cap, h1, h2, InS.step S.lim S.cell h3⟩
theorem PtrV.step : ∀ {caps : List AV} {vs : List Value}, ptrOk kp caps = true → All2 (PtrV C γ) caps vs → All2 (PtrV C γ') caps vs
  | [], [], _, _ => trivial
  | c :: r, v :: s, hp, ⟨h1, h2⟩ => by
    cases c <;> simp only [PtrV] at h1 <;> first | exact h1.elim | skip
    · rename_i i
      cases hi : kp i with
      | true => simp [ptrOk, hi] at hp
      | false =>
        simp only [ptrOk, hi] at hp
        exact ⟨by simp only [PtrV, S.loc i hi]; exact h1, PtrV.step hp h2⟩
    · exact ⟨h1, PtrV.step (by simpa [ptrOk] using hp) h2⟩
theorem CelR.step {u : AV} {b off : Nat} (h : CelR C γ now w u b off) (hcl : ∀ x, x = u ∨ (∃ fs, u = .st fs ∧ x ∈ fs) → x.cl1 kt kp = x) : CelR C γ' now' w' u b off := by
  cases u
  case st fs =>
    intro j hj
    obtain ⟨v, h1, h2, h3⟩ := h j hj
    refine ⟨v, S.cell _ _ h2 _ h1, Nat.lt_of_lt_of_le h2 (S.lim b), ?_⟩
    have hm : fs.getD j .top ∈ fs := by rw [List.getD_eq_getElem?_getD, List.getElem?_eq_getElem hj]; exact List.getElem_mem hj
    have := RelE.step S h3
    rwa [hcl _ (.inr ⟨fs, rfl, hm⟩)] at this
  all_goals
    obtain ⟨v, h1, h2, h3⟩ := h
    refine ⟨v, S.cell _ _ h2 _ h1, Nat.lt_of_lt_of_le h2 (S.lim b), ?_⟩
    have := RelE.step S h3
    rwa [hcl _ (.inl rfl)] at this
theorem RelS.step {u : AV} {v : Value} (h : RelS C γ now w u v) : RelS C γ' now' w' (u.cl1 kt kp) v := by
  cases u <;> simp only [RelS] at h <;> first | exact h.elim | exact RelE.step S h | skip
  · exact h
  · rename_i i
    cases hi : kp i with
    | true => simp only [AV.cl1, hi]; trivial
    | false => simp only [AV.cl1, hi, RelS, S.loc i hi]; exact h
  · exact h
  · rename_i i j
    cases hi : kp i with
    | true => simp only [AV.cl1, hi]; trivial
    | false => simp only [AV.cl1, hi, RelS, S.loc i hi]; exact h
  · exact h
  · obtain ⟨hp, b, off, h1, h2⟩ := h
    exact ⟨hp, b, off, h1, CelR.step S h2 fun x hx => hp x hx kt kp⟩
  · rename_i f caps
    obtain ⟨vs, h1, h2⟩ := h
    cases hi : ptrOk kp caps with
    | true => simp only [AV.cl1, hi]; exact ⟨vs, h1, PtrV.step S hi h2⟩
    | false => simp only [AV.cl1, hi]; trivial
theorem RelSL.step : ∀ {fs : List AV} {cs : List Value}, All2 (RelS C γ now w) fs cs → All2 (RelS C γ' now' w') (cl1L kt kp fs) cs
  | [], [], _ => trivial
  | _ :: _, _ :: _, ⟨h1, h2⟩ => ⟨RelS.step S h1, RelSL.step h2⟩
theorem Rel2.step {u : AV} {v : Value} (h : Rel2 C γ now w u v) : Rel2 C γ' now' w' (u.cl2 kt kp) v := by
  by_cases hu : ∃ fs, u = .st fs
  · obtain ⟨fs, rfl⟩ := hu; obtain ⟨cs, h1, h2⟩ := h; exact ⟨cs, h1, RelSL.step S h2⟩
  · have hu : ∀ fs, u ≠ .st fs := fun fs e => hu ⟨fs, e⟩
    rw [cl2_eq hu, Rel2_eq (cl1_ne_st hu)]; rw [Rel2_eq hu] at h; exact RelS.step S h
theorem Rel2L.step : ∀ {fs : List AV} {cs : List Value}, All2 (Rel2 C γ now w) fs cs → All2 (Rel2 C γ' now' w') (cl2L kt kp fs) cs
  | [], [], _ => trivial
  | _ :: _, _ :: _, ⟨h1, h2⟩ => ⟨Rel2.step S h1, Rel2L.step h2⟩
theorem Rel3.step {u : AV} {v : Value} (h : Rel3 C γ now w u v) : Rel3 C γ' now' w' (u.cl kt kp) v := by
  by_cases hu : ∃ fs, u = .tup fs
  · obtain ⟨fs, rfl⟩ := hu; obtain ⟨cs, h1, h2⟩ := h; exact ⟨cs, h1, Rel2L.step S h2⟩
  · have hu : ∀ fs, u ≠ .tup fs := fun fs e => hu ⟨fs, e⟩
    rw [cl_eq hu, Rel3_eq (cl2_ne_tup hu)]; rw [Rel3_eq hu] at h; exact Rel2.step S h
theorem FlatR.step {u : AV} {cs : List Value} (h : FlatR C γ now w u cs) : FlatR C γ' now' w' (u.cl kt kp) cs := by
  by_cases hu : ∃ fs, u = .st fs
  · obtain ⟨fs, rfl⟩ := hu; exact RelSL.step S h
  · have hu : ∀ fs, u ≠ .st fs := fun fs e => hu ⟨fs, e⟩
    rw [FlatR_eq hu] at h
    obtain ⟨v, h1, h2⟩ := h
    have ht : ∀ fs, u ≠ .tup fs := fun fs e => by subst e; exact h2
    rw [cl_eq ht, cl2_eq hu, FlatR_eq (cl1_ne_st hu)]
    exact ⟨v, h1, RelS.step S h2⟩
end
theorem cl1_id (u : AV) : u.cl1 is0 is0 = u := by
  cases u <;> first
    | rfl
    | (rename_i g; cases g <;> first | rfl | (rename_i o; cases o <;> rfl))
    | (rename_i c; simp only [AV.cl1]; suffices h : ptrOk is0 c = true by rw [h]
       induction c with
       | nil => rfl
       | cons x r ih => cases x <;> exact ih)
theorem cl1L_id : ∀ (l : List AV), cl1L is0 is0 l = l
  | [] => rfl
  | v :: r => by simp only [cl1L, cl1_id, cl1L_id r]
theorem cl2_id (u : AV) : u.cl2 is0 is0 = u := by
  by_cases hu : ∃ fs, u = .st fs
  · obtain ⟨fs, rfl⟩ := hu; simp only [AV.cl2, cl1L_id]
  · rw [cl2_eq fun fs e => hu ⟨fs, e⟩, cl1_id]
theorem cl2L_id : ∀ (l : List AV), cl2L is0 is0 l = l
  | [] => rfl
  | v :: r => by simp only [cl2L, cl2_id, cl2L_id r]
theorem cl_id (u : AV) : u.cl is0 is0 = u := by
  by_cases hu : ∃ fs, u = .tup fs
  · obtain ⟨fs, rfl⟩ := hu; simp only [AV.cl, cl2L_id]
  · rw [cl_eq fun fs e => hu ⟨fs, e⟩, cl2_id]
theorem clL_id : ∀ (l : List AV), clL is0 is0 l = l
  | [] => rfl
  | v :: r => by simp only [clL, cl_id, clL_id r]
end Go.Dk
