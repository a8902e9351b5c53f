/- What an abstract value means in memory, and that it keeps its meaning while memory grows. -/
import Derived.Test.YteamklllllembaaDoorAbs
namespace Go.Dk

def All2 {α β : Type} (R : α → β → Prop) : List α → List β → Prop
  | [], [] => True
  | a :: r, b :: s => R a b ∧ All2 R r s
  | _, _ => False
theorem All2.mono {α β : Type} {R S : α → β → Prop} (h : ∀ a b, R a b → S a b) : ∀ {l : List α} {m : List β}, All2 R l m → All2 S l m
  | [], [], _ => trivial
  | _ :: _, _ :: _, ⟨h1, h2⟩ => ⟨h _ _ h1, All2.mono h h2⟩
theorem All2.length {α β : Type} {R : α → β → Prop} : ∀ {l : List α} {m : List β}, All2 R l m → l.length = m.length
  | [], [], _ => rfl
  | _ :: _, _ :: _, ⟨_, h2⟩ => by simp [All2.length h2]
theorem All2.get {α β : Type} {R : α → β → Prop} : ∀ {l : List α} {m : List β}, All2 R l m → ∀ (i : Nat) (a : α), l[i]? = some a → ∃ b, m[i]? = some b ∧ R a b
  | [], [], _, i, a, h => by simp at h
  | _ :: _, y :: _, ⟨h1, h2⟩, 0, a, h => by simp at h; subst h; exact ⟨y, rfl, h1⟩
  | _ :: _, _ :: _, ⟨h1, h2⟩, i + 1, a, h => by simpa using All2.get h2 i a (by simpa using h)
theorem All2.set {α β : Type} {R : α → β → Prop} {a : α} {b : β} (hab : R a b) : ∀ {l : List α} {m : List β}, All2 R l m → ∀ i, All2 R (l.set i a) (m.set i b)
  | [], [], _, i => by simp [All2]
  | _ :: _, _ :: _, ⟨h1, h2⟩, 0 => ⟨hab, h2⟩
  | _ :: _, _ :: _, ⟨h1, h2⟩, i + 1 => ⟨h1, All2.set hab h2 i⟩
theorem All2.append {α β : Type} {R : α → β → Prop} : ∀ {l : List α} {m : List β} {l' : List α} {m' : List β}, All2 R l m → All2 R l' m' → All2 R (l ++ l') (m ++ m')
  | [], [], _, _, _, h => h
  | _ :: _, _ :: _, _, _, ⟨h1, h2⟩, h => ⟨h1, All2.append h2 h⟩

/-- What is known of memory beside it: of each block, how many of its first cells will not change; where the variables lie; which operation's slice owns a block's spare, and which slice that is; how large memory was at the moments. -/
structure Gh where
  lim : Nat → Nat
  loc : Nat → Nat
  ow : Nat → Option Nat
  vid : Nat → Value
  H : Nat → Nat
/-- What is asked of the package-level variables that the library's functions read. -/
def IfcCell (w : World) (g : Nat) : Prop := ∃ ev, w.cell? ⟨g, 0, none⟩ = some ev ∧ (ev = .nilIface ∨ ∃ te pe, ev = .iface te pe)
def NG : Nat := 2 + 1
def InvE (_ : World) : Prop := True
theorem InvE.of {w w' : World} (_ : InvE w) (_ : ∀ b, b < NG → ∀ v, w.cell? ⟨b, 0, none⟩ = some v → w'.cell? ⟨b, 0, none⟩ = some v) : InvE w' := True.intro
def Inv (w : World) : Prop := (∃ m, w.cell? ⟨2, 0, none⟩ = some (.int .i64 m)) ∧ InvE w
theorem Inv.of {w w' : World} (h : Inv w) (hb : ∀ b, b < NG → w'.heap[b]? = w.heap[b]?) : Inv w' := by
  have hc : ∀ b, b < NG → ∀ v, w.cell? ⟨b, 0, none⟩ = some v → w'.cell? ⟨b, 0, none⟩ = some v := fun b h v hv => by rw [← hv]; unfold World.cell?; simp only [hb b h]
  obtain ⟨⟨m, h1⟩, h2⟩ := h
  exact ⟨⟨m, hc _ (by decide) _ h1⟩, h2.of hc⟩
/-- What stays as it is through a call: the world at its begin, where the foreign variables lie, the slices among the arguments, the blocks that theirs are among. -/
structure Fr where
  w0 : World
  lim0 : Nat → Nat
  floc : Nat → Nat
  nf : Nat
  av : Nat → Value
  am : Nat → Prop
  inv : Inv w0
  ng : NG ≤ w0.heap.size
  nfl : ∀ i, i < nf → NG ≤ floc i

section
variable (lim : Nat → Nat) (w : World)
mutual
/-- A term at an address: three cells; its operands elsewhere; fp: the blocks of all operands below it. -/
def TAt : T → Nat → Nat → List Nat → Prop
  | .mk k n ts, b, off, fp => off + 2 < lim b ∧ w.cell? ⟨b, off, none⟩ = some (.int .i64 k) ∧ w.cell? ⟨b, off + 1, none⟩ = some (.int .i64 n) ∧
      ∃ a cap, w.cell? ⟨b, off + 2, none⟩ = some (.slice a ts.length cap) ∧ ts.length ≤ cap ∧
        ((ts = [] ∧ fp = []) ∨ ∃ b' off' fp', ts ≠ [] ∧ a = some ⟨b', off', none⟩ ∧ fp = b' :: fp' ∧ Arr ts b' off' fp')
def Arr : List T → Nat → Nat → List Nat → Prop
  | [], _, _, fp => fp = []
  | t :: ts, b, off, fp => ∃ f1 f2, fp = f1 ++ f2 ∧ TAt t b off f1 ∧ Arr ts b (off + 3) f2
end
/-- A slice of terms: the first cell's address; fp: its own block and those below. -/
def Els (ts : List T) (a : Option Addr) (fp : List Nat) : Prop :=
  (ts = [] ∧ fp = []) ∨ ∃ b off fp', ts ≠ [] ∧ a = some ⟨b, off, none⟩ ∧ fp = b :: fp' ∧ Arr lim w ts b off fp'
def InI (k : IntKind) (ns : List Int) (a : Option Addr) (fp : List Nat) : Prop :=
  (ns = [] ∧ fp = []) ∨ ∃ b off, ns ≠ [] ∧ a = some ⟨b, off, none⟩ ∧ fp = [b] ∧ ∀ j, j < ns.length → w.cell? ⟨b, off + j, none⟩ = some (.int k (ns.getD j 0)) ∧ off + j < lim b
def InS (ss : List (List UInt8)) (a : Option Addr) : Prop :=
  ss = [] ∨ ∃ b off, a = some ⟨b, off, none⟩ ∧ ∀ j, j < ss.length → w.cell? ⟨b, off + j, none⟩ = some (.string ⟨(ss.getD j []).toArray⟩) ∧ off + j < lim b
end

section
variable (C : Fr) (γ : Gh) (now : Nat) (w : World)

def bnd (e : Nat) : Nat := if e < now then γ.H e else w.heap.size
def OwnOk (es : Nat) (a : Option Addr) (len cap : Nat) : Own → Prop
  | .no => True
  | .full => cap = len
  | .tok k => len < cap → 0 < len ∧ ∃ b c ty, a = some ⟨b, 0, none⟩ ∧ γ.ow b = some k ∧ w.heap[b]? = some (.cells c ty (0, 0)) ∧ c.size = cap * es ∧ γ.lim b = len * es
  | .id k => γ.vid k = .slice a len cap ∧ (len < cap → 0 < len ∧ ∃ b c ty, a = some ⟨b, 0, none⟩ ∧ γ.ow b = some k ∧ w.heap[b]? = some (.cells c ty (0, 0)) ∧ c.size = cap * es ∧ γ.lim b = len * es)
/-- Is the block of this class? -/
def Cls (e b : Nat) : Prop :=
  (e = 0 ∧ b < γ.H 2 ∧ ¬ C.am b) ∨ (e = 1 ∧ b < γ.H 2 ∧ C.am b) ∨ (2 ≤ e ∧ e < now ∧ γ.H e ≤ b ∧ b < bnd γ now w (e + 1))
def InM (m b : Nat) : Prop := ∃ e, m.testBit e = true ∧ Cls C γ now w e b
def RtOk (r m : Nat) (nd : Bool) (fp : List Nat) : Prop := (∀ b ∈ fp.head?, InM C γ now w r b) ∧ (∀ b ∈ fp.tail, InM C γ now w m b) ∧ (nd = true → fp.Nodup)
def ElOk (m : Nat) (nd : Bool) (fp : List Nat) : Prop := (∀ b ∈ fp, InM C γ now w m b) ∧ (nd = true → fp.Nodup)
def TagOk (es : Nat) (a : Option Addr) (len cap : Nat) (fp : List Nat) : Tag → Prop
  | .any => True
  | .iv r m nd o => RtOk C γ now w r m nd fp ∧ OwnOk γ w es a len cap o
  | .el m nd o => ElOk C γ now w m nd fp.tail ∧ OwnOk γ w es a len cap o
  | .arg i => .slice a len cap = C.av i ∧ ∀ b ∈ fp, InM C γ now w 2 b

def RelE : AV → Value → Prop
  | .int k n, v => v = .int k n
  | .bool b, v => v = .bool b
  | .str l, v => v = .string ⟨l.toArray⟩
  | .slc ts g, v => ∃ a cap fp, v = .slice a ts.length cap ∧ ts.length ≤ cap ∧ Els γ.lim w ts a fp ∧ TagOk C γ now w 3 a ts.length cap fp g
  | .ints k ns g, v => ∃ a cap fp, v = .slice a ns.length cap ∧ ns.length ≤ cap ∧ InI γ.lim w k ns a fp ∧ TagOk C γ now w 1 a ns.length cap fp g
  | .strs ss, v => ∃ a cap, v = .slice a ss.length cap ∧ ss.length ≤ cap ∧ InS γ.lim w ss a
  | .nili, v => v = .nilIface
  | .ifc, v => ∃ t u, v = .iface t u
  | _, _ => False
def PtrV : AV → Value → Prop
  | .ptr i, v => v = .pointer (some ⟨γ.loc i, 0, none⟩)
  | .fptr i, v => v = .pointer (some ⟨C.floc i, 0, none⟩)
  | _, _ => False
/-- An element's address. -/
def ElR (u : AV) (es i j : Nat) (v : Value) : Prop :=
  ∃ b off len cap, RelE C γ now w u (.slice (some ⟨b, off, none⟩) len cap) ∧ i < len ∧ v = .pointer (some ⟨b, off + i * es + j, none⟩)
def RelS : AV → Value → Prop
  | .top, _ => True
  | .ptr i, v => v = .pointer (some ⟨γ.loc i, 0, none⟩)
  | .fptr i, v => v = .pointer (some ⟨C.floc i, 0, none⟩)
  | .fld i j, v => v = .pointer (some ⟨γ.loc i, j, none⟩)
  | .ffld i j, v => v = .pointer (some ⟨C.floc i, j, none⟩)
  | .cel u, v => (∃ l, u = .str l) ∧ ∃ b off x, v = .pointer (some ⟨b, off, none⟩) ∧ w.cell? ⟨b, off, none⟩ = some x ∧ off < γ.lim b ∧ RelE C γ now w u x
  | .elp ts g i, v => ElR C γ now w (.slc ts g) 3 i 0 v
  | .elf ts g i j, v => ElR C γ now w (.slc ts g) 3 i j v
  | .eli k ns g i, v => ElR C γ now w (.ints k ns g) 1 i 0 v
  | .fn f caps, v => ∃ vs, v = .func (.func f) #[] vs.toArray ∧ All2 (PtrV C γ) caps vs
  | .int k n, v => RelE C γ now w (.int k n) v
  | .bool b, v => RelE C γ now w (.bool b) v
  | .str l, v => RelE C γ now w (.str l) v
  | .slc ts g, v => RelE C γ now w (.slc ts g) v
  | .ints k ns g, v => RelE C γ now w (.ints k ns g) v
  | .strs ss, v => RelE C γ now w (.strs ss) v
  | .nili, v => RelE C γ now w .nili v
  | .ifc, v => RelE C γ now w .ifc v
  | _, _ => False
def Rel2 : AV → Value → Prop
  | .st fs, v => ∃ cs, v = .agg cs.toArray ∧ All2 (RelS C γ now w) fs cs
  | u, v => RelS C γ now w u v
def Rel3 : AV → Value → Prop
  | .tup vs, v => ∃ us, v = .tuple us.toArray ∧ All2 (Rel2 C γ now w) vs us
  | u, v => Rel2 C γ now w u v
/-- A variable's cells. -/
def FlatR : AV → List Value → Prop
  | .st fs, cs => All2 (RelS C γ now w) fs cs
  | u, cs => ∃ v, cs = [v] ∧ RelS C γ now w u v
def VarR (b : Nat) (u : AV) : Prop := ∃ cs ty, w.heap[b]? = some (.cells cs.toArray ty (0, 0)) ∧ FlatR C γ now w u cs
end

/-- Memory has grown, and nothing that is known has changed, but for the tokens in kt and the variables in kp. -/
structure Step (γ : Gh) (now : Nat) (w : World) (γ' : Gh) (now' : Nat) (w' : World) (kt kp : Nat → Bool) : Prop where
  lim : ∀ b, γ.lim b ≤ γ'.lim b
  cell : ∀ b off, off < γ.lim b → ∀ v, w.cell? ⟨b, off, none⟩ = some v → w'.cell? ⟨b, off, none⟩ = some v
  size : w.heap.size ≤ w'.heap.size
  two : 3 ≤ now
  le : now ≤ now'
  Hlt : ∀ e, e < now → γ'.H e = γ.H e
  Hge : ∀ e, now ≤ e → e < now' → w.heap.size ≤ γ'.H e
  loc : ∀ i, kp i = false → γ'.loc i = γ.loc i
  ow : ∀ b k, γ.ow b = some k → kt k = false → γ'.ow b = some k ∧ w'.heap[b]? = w.heap[b]? ∧ γ'.lim b = γ.lim b
  vid : ∀ k, kt k = false → γ'.vid k = γ.vid k

theorem block_lt {w : World} {b off : Nat} {v : Value} (h : w.cell? ⟨b, off, none⟩ = some v) : b < w.heap.size := World.block_lt_of_cell? w (a := ⟨b, off, none⟩) h

mutual
theorem TAt.step {lim lim' : Nat → Nat} {w w' : World} (hl : ∀ b, lim b ≤ lim' b) (hc : ∀ b off, off < lim b → ∀ v, w.cell? ⟨b, off, none⟩ = some v → w'.cell? ⟨b, off, none⟩ = some v) :
    ∀ (t : T) (b off : Nat) (fp : List Nat), TAt lim w t b off fp → TAt lim' w' t b off fp
  | .mk k n ts, b, off, fp, ⟨h0, h1, h2, a, cap, h3, h4, h5⟩ => by
    refine ⟨Nat.lt_of_lt_of_le h0 (hl b), hc _ _ (by omega) _ h1, hc _ _ (by omega) _ h2, a, cap, hc _ _ h0 _ h3, h4, ?_⟩
    rcases h5 with h5 | ⟨b', off', fp', h6, h7, h8, h9⟩
    · exact .inl h5
    · exact .inr ⟨b', off', fp', h6, h7, h8, Arr.step hl hc ts b' off' fp' h9⟩
theorem Arr.step {lim lim' : Nat → Nat} {w w' : World} (hl : ∀ b, lim b ≤ lim' b) (hc : ∀ b off, off < lim b → ∀ v, w.cell? ⟨b, off, none⟩ = some v → w'.cell? ⟨b, off, none⟩ = some v) :
    ∀ (ts : List T) (b off : Nat) (fp : List Nat), Arr lim w ts b off fp → Arr lim' w' ts b off fp
  | [], _, _, _, h => h
  | t :: ts, b, off, _, ⟨f1, f2, h1, h2, h3⟩ => ⟨f1, f2, h1, TAt.step hl hc t b off f1 h2, Arr.step hl hc ts b (off + 3) f2 h3⟩
end
section
variable {lim lim' : Nat → Nat} {w w' : World} (hl : ∀ b, lim b ≤ lim' b) (hc : ∀ b off, off < lim b → ∀ v, w.cell? ⟨b, off, none⟩ = some v → w'.cell? ⟨b, off, none⟩ = some v)
include hl hc
theorem Els.step {ts : List T} {a : Option Addr} {fp : List Nat} (h : Els lim w ts a fp) : Els lim' w' ts a fp := by
  rcases h with h | ⟨b, off, fp', h1, h2, h3, h4⟩
  · exact .inl h
  · exact .inr ⟨b, off, fp', h1, h2, h3, Arr.step hl hc _ _ _ _ h4⟩
theorem InI.step {k : IntKind} {ns : List Int} {a : Option Addr} {fp : List Nat} (h : InI lim w k ns a fp) : InI lim' w' k ns a fp := by
  rcases h with h | ⟨b, off, h0, h1, h3, h2⟩
  · exact .inl h
  · exact .inr ⟨b, off, h0, h1, h3, fun j hj => ⟨hc _ _ (h2 j hj).2 _ (h2 j hj).1, Nat.lt_of_lt_of_le (h2 j hj).2 (hl b)⟩⟩
theorem InS.step {ss : List (List UInt8)} {a : Option Addr} (h : InS lim w ss a) : InS lim' w' ss a := by
  rcases h with h | ⟨b, off, h1, h2⟩
  · exact .inl h
  · exact .inr ⟨b, off, h1, fun j hj => ⟨hc _ _ (h2 j hj).2 _ (h2 j hj).1, Nat.lt_of_lt_of_le (h2 j hj).2 (hl b)⟩⟩
end

mutual
/-- The blocks of a tree are there. -/
theorem TAt.lt {lim : Nat → Nat} {w : World} : ∀ (t : T) (b off : Nat) (fp : List Nat), TAt lim w t b off fp → ∀ x ∈ fp, x < w.heap.size
  | .mk k n ts, b, off, fp, ⟨_, _, _, a, cap, _, _, h5⟩ => by
    rcases h5 with ⟨_, rfl⟩ | ⟨b', off', fp', h6, _, rfl, h9⟩
    · simp
    · intro x hx
      rcases List.mem_cons.1 hx with rfl | hx
      · cases ts with
        | nil => exact absurd rfl h6
        | cons t ts => obtain ⟨f1, f2, _, h2, _⟩ := h9; cases t with | mk k n ts => exact block_lt h2.2.1
      · exact Arr.lt ts b' off' fp' h9 x hx
theorem Arr.lt {lim : Nat → Nat} {w : World} : ∀ (ts : List T) (b off : Nat) (fp : List Nat), Arr lim w ts b off fp → ∀ x ∈ fp, x < w.heap.size
  | [], _, _, _, h => by rw [h]; simp
  | t :: ts, b, off, fp, ⟨f1, f2, h1, h2, h3⟩ => by
    intro x hx
    rw [h1] at hx
    rcases List.mem_append.1 hx with hx | hx
    · exact TAt.lt t b off f1 h2 x hx
    · exact Arr.lt ts b (off + 3) f2 h3 x hx
end
theorem Arr.block {lim : Nat → Nat} {w : World} {ts : List T} {b off : Nat} {fp : List Nat} (hne : ts ≠ []) (h : Arr lim w ts b off fp) : b < w.heap.size := by
  cases ts with
  | nil => exact absurd rfl hne
  | cons t ts => obtain ⟨f1, f2, _, h2, _⟩ := h; cases t with | mk k n ts => exact block_lt h2.2.1
theorem Els.lt {lim : Nat → Nat} {w : World} {ts : List T} {a : Option Addr} {fp : List Nat} (h : Els lim w ts a fp) : ∀ x ∈ fp, x < w.heap.size := by
  rcases h with ⟨_, rfl⟩ | ⟨b, off, fp', hne, _, rfl, h4⟩
  · simp
  · intro x hx
    rcases List.mem_cons.1 hx with rfl | hx
    · exact Arr.block hne h4
    · exact Arr.lt _ _ _ _ h4 x hx

theorem InI.lt {lim : Nat → Nat} {w : World} {k : IntKind} {ns : List Int} {a : Option Addr} {fp : List Nat} (h : InI lim w k ns a fp) : ∀ x ∈ fp, x < w.heap.size := by
  rcases h with ⟨_, rfl⟩ | ⟨b, off, h0, _, rfl, h2⟩
  · simp
  · intro x hx
    obtain rfl := List.mem_singleton.1 hx
    exact block_lt (h2 0 (List.length_pos_iff.2 h0)).1

theorem Rel2_eq {C : Fr} {γ : Gh} {now : Nat} {w : World} {u : AV} {v : Value} (hu : ∀ fs, u ≠ .st fs) : Rel2 C γ now w u v = RelS C γ now w u v := by
  cases u <;> first | rfl | exact absurd rfl (hu _)
theorem Rel3_eq {C : Fr} {γ : Gh} {now : Nat} {w : World} {u : AV} {v : Value} (hu : ∀ fs, u ≠ .tup fs) : Rel3 C γ now w u v = Rel2 C γ now w u v := by
  cases u <;> first | rfl | exact absurd rfl (hu _)
theorem FlatR_eq {C : Fr} {γ : Gh} {now : Nat} {w : World} {u : AV} {cs : List Value} (hu : ∀ fs, u ≠ .st fs) : FlatR C γ now w u cs = ∃ v, cs = [v] ∧ RelS C γ now w u v := by
  cases u <;> first | rfl | exact absurd rfl (hu _)
theorem cl2_eq {kt kp : Nat → Bool} {u : AV} (hu : ∀ fs, u ≠ .st fs) : u.cl2 kt kp = u.cl1 kt kp := by
  cases u <;> first | rfl | exact absurd rfl (hu _)
theorem cl_eq {kt kp : Nat → Bool} {u : AV} (hu : ∀ fs, u ≠ .tup fs) : u.cl kt kp = u.cl2 kt kp := by
  cases u <;> first | rfl | exact absurd rfl (hu _)
theorem cl1_ne_st {kt kp : Nat → Bool} {u : AV} (hu : ∀ fs, u ≠ .st fs) : ∀ fs, u.cl1 kt kp ≠ .st fs := by
  cases u <;> first | exact hu | (intro fs h; simp only [AV.cl1] at h; first | cases h | (split at h <;> cases h))
theorem cl2_ne_tup {kt kp : Nat → Bool} {u : AV} (hu : ∀ fs, u ≠ .tup fs) : ∀ fs, u.cl2 kt kp ≠ .tup fs := by
  cases u <;> first | exact hu | (intro fs h; simp only [AV.cl2] at h; first | cases h | (split at h <;> cases h))

section
variable {C : Fr} {γ γ' : Gh} {now now' : Nat} {w w' : World} {kt kp : Nat → Bool} (S : Step γ now w γ' now' w' kt kp)
include S
theorem Cls.step {e b : Nat} (h : Cls C γ now w e b) : Cls C γ' now' w' e b := by
  have h3 := S.two
  rcases h with ⟨h1, h2, h4⟩ | ⟨h1, h2, h4⟩ | ⟨h0, h1, h2, h4⟩
  · exact .inl ⟨h1, by rw [S.Hlt 2 (by omega)]; exact h2, h4⟩
  · exact .inr (.inl ⟨h1, by rw [S.Hlt 2 (by omega)]; exact h2, h4⟩)
  · refine .inr (.inr ⟨h0, Nat.lt_of_lt_of_le h1 S.le, by rw [S.Hlt e h1]; exact h2, ?_⟩)
    have hs := S.size
    unfold bnd at *
    by_cases hh : e + 1 < now
    · rw [if_pos hh] at h4; rw [if_pos (Nat.lt_of_lt_of_le hh S.le), S.Hlt _ hh]; exact h4
    · rw [if_neg hh] at h4
      by_cases hh' : e + 1 < now'
      · rw [if_pos hh']; exact Nat.lt_of_lt_of_le h4 (S.Hge _ (by omega) hh')
      · rw [if_neg hh']; omega
theorem InM.step {m b : Nat} (h : InM C γ now w m b) : InM C γ' now' w' m b := let ⟨e, h1, h2⟩ := h; ⟨e, h1, h2.step S⟩
theorem RtOk.step {r m : Nat} {nd : Bool} {fp : List Nat} (h : RtOk C γ now w r m nd fp) : RtOk C γ' now' w' r m nd fp := ⟨fun b hb => (h.1 b hb).step S, fun b hb => (h.2.1 b hb).step S, h.2.2⟩
theorem ElOk.step {m : Nat} {nd : Bool} {fp : List Nat} (h : ElOk C γ now w m nd fp) : ElOk C γ' now' w' m nd fp := ⟨fun b hb => (h.1 b hb).step S, h.2⟩
theorem OwnOk.step {es : Nat} {a : Option Addr} {len cap : Nat} {o : Own} (h : OwnOk γ w es a len cap o) : OwnOk γ' w' es a len cap (o.cl kt) := by
  cases o with
  | no => trivial
  | full => exact h
  | tok k =>
    cases hk : kt k with
    | true => simp only [Own.cl, hk]; trivial
    | false =>
      simp only [Own.cl, hk]
      intro hlt
      obtain ⟨h0, b, c, ty, h1, h2, h3, h4, h5⟩ := h hlt
      obtain ⟨g1, g2, g3⟩ := S.ow b k h2 hk
      exact ⟨h0, b, c, ty, h1, g1, by rw [g2]; exact h3, h4, by rw [g3]; exact h5⟩
  | id k =>
    cases hk : kt k with
    | true => simp only [Own.cl, hk]; trivial
    | false =>
      simp only [Own.cl, hk]
      refine ⟨by rw [S.vid k hk]; exact h.1, fun hlt => ?_⟩
      obtain ⟨h0, b, c, ty, h1, h2, h3, h4, h5⟩ := h.2 hlt
      obtain ⟨g1, g2, g3⟩ := S.ow b k h2 hk
      exact ⟨h0, b, c, ty, h1, g1, by rw [g2]; exact h3, h4, by rw [g3]; exact h5⟩
theorem TagOk.step {es : Nat} {a : Option Addr} {len cap : Nat} {fp : List Nat} {g : Tag} (h : TagOk C γ now w es a len cap fp g) : TagOk C γ' now' w' es a len cap fp (g.cl kt) := by
  cases g with
  | any => trivial
  | iv r m nd o => exact ⟨RtOk.step S h.1, OwnOk.step S h.2⟩
  | el m nd o => exact ⟨ElOk.step S h.1, OwnOk.step S h.2⟩
  | arg i => exact ⟨h.1, fun b hb => (h.2 b hb).step S⟩
theorem RelE.step {u : AV} {v : Value} (h : RelE C γ now w u v) : RelE C γ' now' w' (u.cl1 kt kp) v := by
  cases u <;> simp only [RelE] at h <;> first | exact h.elim | exact h | skip
  · obtain ⟨a, cap, fp, h1, h2, h3, h4⟩ := h
    exact ⟨a, cap, fp, h1, h2, Els.step S.lim S.cell h3, TagOk.step S h4⟩
  · obtain ⟨a, cap, fp, h1, h2, h3, h4⟩ := h
    exact ⟨a, cap, fp, h1, h2, InI.step S.lim S.cell h3, TagOk.step S h4⟩
  · obtain ⟨a, cap, h1, h2, h3⟩ := h
    exact ⟨a, cap, h1, h2, InS.step S.lim S.cell h3⟩
theorem PtrV.step : ∀ {caps : List AV} {vs : List Value}, ptrOk kp caps = true → All2 (PtrV C γ) caps vs → All2 (PtrV C γ') caps vs
  | [], [], _, _ => trivial
  | c :: r, v :: s, hp, ⟨h1, h2⟩ => by
    cases c <;> simp only [PtrV] at h1 <;> first | exact h1.elim | skip
    · rename_i i
      cases hi : kp i with
      | true => simp [ptrOk, hi] at hp
      | false =>
        simp only [ptrOk, hi] at hp
        exact ⟨by simp only [PtrV, S.loc i hi]; exact h1, PtrV.step hp h2⟩
    · exact ⟨h1, PtrV.step (by simpa [ptrOk] using hp) h2⟩
theorem ElR.step {u u' : AV} {es i j : Nat} {v : Value} (hu : u' = u.cl1 kt kp) (h : ElR C γ now w u es i j v) : ElR C γ' now' w' u' es i j v := by
  obtain ⟨b, off, len, cap, h1, h2, h3⟩ := h
  exact ⟨b, off, len, cap, hu ▸ RelE.step S h1, h2, h3⟩
theorem RelS.step {u : AV} {v : Value} (h : RelS C γ now w u v) : RelS C γ' now' w' (u.cl1 kt kp) v := by
  cases u <;> simp only [RelS] at h <;> first | exact h.elim | exact RelE.step S h | skip
  · exact h
  · rename_i i
    cases hi : kp i with
    | true => simp only [AV.cl1, hi]; trivial
    | false => simp only [AV.cl1, hi, RelS, S.loc i hi]; exact h
  · exact h
  · rename_i i j
    cases hi : kp i with
    | true => simp only [AV.cl1, hi]; trivial
    | false => simp only [AV.cl1, hi, RelS, S.loc i hi]; exact h
  · exact h
  · obtain ⟨⟨l, rfl⟩, b, off, x, h1, h2, h3, h4⟩ := h
    exact ⟨⟨l, rfl⟩, b, off, x, h1, S.cell _ _ h3 _ h2, Nat.lt_of_lt_of_le h3 (S.lim b), h4⟩
  · exact ElR.step S rfl h
  · exact ElR.step S rfl h
  · exact ElR.step S rfl h
  · rename_i f caps
    obtain ⟨vs, h1, h2⟩ := h
    cases hi : ptrOk kp caps with
    | true => simp only [AV.cl1, hi]; exact ⟨vs, h1, PtrV.step S hi h2⟩
    | false => simp only [AV.cl1, hi]; trivial
theorem RelSL.step : ∀ {fs : List AV} {cs : List Value}, All2 (RelS C γ now w) fs cs → All2 (RelS C γ' now' w') (cl1L kt kp fs) cs
  | [], [], _ => trivial
  | _ :: _, _ :: _, ⟨h1, h2⟩ => ⟨RelS.step S h1, RelSL.step h2⟩
theorem Rel2.step {u : AV} {v : Value} (h : Rel2 C γ now w u v) : Rel2 C γ' now' w' (u.cl2 kt kp) v := by
  by_cases hu : ∃ fs, u = .st fs
  · obtain ⟨fs, rfl⟩ := hu; obtain ⟨cs, h1, h2⟩ := h; exact ⟨cs, h1, RelSL.step S h2⟩
  · have hu : ∀ fs, u ≠ .st fs := fun fs e => hu ⟨fs, e⟩
    rw [cl2_eq hu, Rel2_eq (cl1_ne_st hu)]; rw [Rel2_eq hu] at h; exact RelS.step S h
theorem Rel2L.step : ∀ {fs : List AV} {cs : List Value}, All2 (Rel2 C γ now w) fs cs → All2 (Rel2 C γ' now' w') (cl2L kt kp fs) cs
  | [], [], _ => trivial
  | _ :: _, _ :: _, ⟨h1, h2⟩ => ⟨Rel2.step S h1, Rel2L.step h2⟩
theorem Rel3.step {u : AV} {v : Value} (h : Rel3 C γ now w u v) : Rel3 C γ' now' w' (u.cl kt kp) v := by
  by_cases hu : ∃ fs, u = .tup fs
  · obtain ⟨fs, rfl⟩ := hu; obtain ⟨cs, h1, h2⟩ := h; exact ⟨cs, h1, Rel2L.step S h2⟩
  · have hu : ∀ fs, u ≠ .tup fs := fun fs e => hu ⟨fs, e⟩
    rw [cl_eq hu, Rel3_eq (cl2_ne_tup hu)]; rw [Rel3_eq hu] at h; exact Rel2.step S h
theorem FlatR.step {u : AV} {cs : List Value} (h : FlatR C γ now w u cs) : FlatR C γ' now' w' (u.cl kt kp) cs := by
  by_cases hu : ∃ fs, u = .st fs
  · obtain ⟨fs, rfl⟩ := hu; exact RelSL.step S h
  · have hu : ∀ fs, u ≠ .st fs := fun fs e => hu ⟨fs, e⟩
    rw [FlatR_eq hu] at h
    obtain ⟨v, h1, h2⟩ := h
    have ht : ∀ fs, u ≠ .tup fs := fun fs e => by subst e; exact h2
    rw [cl_eq ht, cl2_eq hu, FlatR_eq (cl1_ne_st hu)]
    exact ⟨v, h1, RelS.step S h2⟩
end
/- Masks. -/
section
variable {C : Fr} {γ : Gh} {now : Nat} {w : World}
theorem InM.or {a b x : Nat} : InM C γ now w (Nat.lor a b) x ↔ InM C γ now w a x ∨ InM C γ now w b x := by
  have e : Nat.lor a b = a ||| b := rfl
  unfold InM
  constructor
  · rintro ⟨e', h1, h2⟩
    rw [e, Nat.testBit_or, Bool.or_eq_true] at h1
    rcases h1 with h1 | h1
    · exact .inl ⟨e', h1, h2⟩
    · exact .inr ⟨e', h1, h2⟩
  · rintro (⟨e', h1, h2⟩ | ⟨e', h1, h2⟩)
    · exact ⟨e', by rw [e, Nat.testBit_or, h1]; rfl, h2⟩
    · exact ⟨e', by rw [e, Nat.testBit_or, h1, Bool.or_true], h2⟩
theorem Cls.uniq (hH : ∀ e e', e ≤ e' → e' < now → γ.H e ≤ γ.H e') {e e' b : Nat} (h : Cls C γ now w e b) (h' : Cls C γ now w e' b) : e = e' := by
  have key : ∀ e e', 2 ≤ e → e < e' → e' < now → b < bnd γ now w (e + 1) → γ.H e' ≤ b → False := fun e e' h0 h1 h2 h3 h4 => by
    unfold bnd at h3
    rw [if_pos (by omega)] at h3
    have := hH (e + 1) e' h1 h2
    omega
  rcases h with ⟨h1, h2, h4⟩ | ⟨h1, h2, h4⟩ | ⟨h0, h1, h2, h4⟩ <;> rcases h' with ⟨g1, g2, g4⟩ | ⟨g1, g2, g4⟩ | ⟨g0, g1, g2, g4⟩
  · omega
  · exact absurd g4 h4
  · have := hH 2 e' g0 g1; omega
  · exact absurd h4 g4
  · omega
  · have := hH 2 e' g0 g1; omega
  · have := hH 2 e h0 h1; omega
  · have := hH 2 e h0 h1; omega
  · rcases Nat.lt_trichotomy e e' with hlt | heq | hlt
    · exact (key e e' h0 hlt g1 h4 g2).elim
    · exact heq
    · exact (key e' e g0 hlt h1 g4 h2).elim
theorem InM.disj (hH : ∀ e e', e ≤ e' → e' < now → γ.H e ≤ γ.H e') {a b x : Nat} (h : noBits a b = true) (h1 : InM C γ now w a x) (h2 : InM C γ now w b x) : False := by
  obtain ⟨e, k1, k2⟩ := h1
  obtain ⟨e', g1, g2⟩ := h2
  have := k2.uniq hH g2
  subst this
  have h0 : a &&& b = 0 := Nat.eq_of_beq_eq_true h
  have := congrArg (fun n => Nat.testBit n e) h0
  simp only [Nat.testBit_and, k1, g1, Nat.zero_testBit] at this
  cases this
theorem InM.mono {a b x : Nat} (h : subM a b = true) (h1 : InM C γ now w a x) : InM C γ now w b x := by
  have h0 : Nat.lor a b = b := Nat.eq_of_beq_eq_true h
  rw [← h0]; exact InM.or.2 (.inl h1)
theorem InM.bit {e x : Nat} (h : Cls C γ now w e x) : InM C γ now w (Dk.bit e) x := ⟨e, by show (1 <<< e).testBit e = true; simp [Nat.testBit_shiftLeft], h⟩
theorem InM.bit_iff {e x : Nat} : InM C γ now w (Dk.bit e) x ↔ Cls C γ now w e x := by
  refine ⟨fun ⟨e', h1, h2⟩ => ?_, InM.bit⟩
  have h1 : (1 <<< e).testBit e' = true := h1
  rw [Nat.testBit_shiftLeft] at h1
  simp only [Bool.and_eq_true, decide_eq_true_eq] at h1
  have : e' - e = 0 := by
    have := h1.2
    rw [Nat.testBit_one_eq_true_iff_self_eq_zero] at this
    exact this
  have : e' = e := by omega
  subst this; exact h2
theorem InM.zero {x : Nat} (h : InM C γ now w 0 x) : False := by obtain ⟨e, h1, _⟩ := h; simp at h1
theorem InM.two {x : Nat} : InM C γ now w 2 x ↔ x < γ.H 2 ∧ C.am x := by
  have e : (2 : Nat) = Dk.bit 1 := rfl
  rw [e, InM.bit_iff]
  constructor
  · rintro (⟨h, _⟩ | ⟨_, h⟩ | ⟨h, _⟩)
    · omega
    · exact h
    · omega
  · exact fun h => .inr (.inl ⟨rfl, h⟩)
/-- Each block is of a class. -/
theorem InM.full (h3 : 3 ≤ now) {x : Nat} (hx : x < w.heap.size) : InM C γ now w (fullM now) x := by
  have e : ∀ k, (fullM now).testBit k = decide (k < now) := fun k => Nat.testBit_two_pow_sub_one now k
  have key : ∃ k, k < now ∧ Cls C γ now w k x := by
    by_cases h2 : x < γ.H 2
    · by_cases ha : C.am x
      · exact ⟨1, by omega, .inr (.inl ⟨rfl, h2, ha⟩)⟩
      · exact ⟨0, by omega, .inl ⟨rfl, h2, ha⟩⟩
    · have : ∀ j, 2 + j < now → γ.H (2 + j) ≤ x ∨ ∃ k, k < now ∧ Cls C γ now w k x := by
        intro j
        induction j with
        | zero => intro _; exact .inl (by simpa using h2)
        | succ j ih =>
          intro hj
          rcases ih (by omega) with h | h
          · by_cases hlt : x < γ.H (2 + (j + 1))
            · exact .inr ⟨2 + j, by omega, .inr (.inr ⟨by omega, by omega, h, by unfold bnd; rw [if_pos (by omega)]; exact hlt⟩)⟩
            · exact .inl (by omega)
          · exact .inr h
      rcases this (now - 3) (by omega) with h | h
      · exact ⟨now - 1, by omega, .inr (.inr ⟨by omega, by omega, by rw [show now - 1 = 2 + (now - 3) by omega]; exact h, by unfold bnd; rw [if_neg (by omega)]; exact hx⟩)⟩
      · exact h
  obtain ⟨k, k1, k2⟩ := key
  exact ⟨k, by rw [e]; exact decide_eq_true k1, k2⟩
theorem RtOk.nil {r m : Nat} {nd : Bool} : RtOk C γ now w r m nd [] := ⟨by simp, by simp, fun _ => List.nodup_nil⟩
theorem ElOk.nil {m : Nat} {nd : Bool} : ElOk C γ now w m nd [] := ⟨by simp, fun _ => List.nodup_nil⟩
theorem RtOk.el {r m : Nat} {nd : Bool} {fp : List Nat} (h : RtOk C γ now w r m nd fp) : ElOk C γ now w m nd fp.tail := ⟨h.2.1, fun e => (List.tail_sublist fp).nodup (h.2.2 e)⟩
theorem RtOk.all {r m : Nat} {nd : Bool} {fp : List Nat} (h : RtOk C γ now w r m nd fp) : ElOk C γ now w (Nat.lor r m) nd fp := by
  refine ⟨fun b hb => InM.or.2 ?_, h.2.2⟩
  cases fp with
  | nil => simp at hb
  | cons x r =>
    rcases List.mem_cons.1 hb with rfl | hb
    · exact .inl (h.1 b (by simp))
    · exact .inr (h.2.1 b hb)
theorem ElOk.sub {m : Nat} {nd : Bool} {fp f1 f f2 : List Nat} (h : ElOk C γ now w m nd fp) (e : fp = f1 ++ f ++ f2) : ElOk C γ now w m nd f := by
  subst e
  exact ⟨fun b hb => h.1 b (by simp [hb]), fun hn => (List.nodup_append.1 (List.nodup_append.1 (h.2 hn)).1).2.1⟩
theorem ElOk.rt {m : Nat} {nd : Bool} {fp : List Nat} (h : ElOk C γ now w m nd fp) : RtOk C γ now w m m nd fp := by
  refine ⟨fun b hb => h.1 b (List.mem_of_mem_head? hb), fun b hb => h.1 b (List.mem_of_mem_tail hb), h.2⟩
theorem and3_eq {a b c : Bool} : and3 a b c = true ↔ a = true ∧ b = true ∧ c = true := by cases a <;> cases b <;> cases c <;> simp [and3]
theorem ElOk.join (hH : ∀ e e', e ≤ e' → e' < now → γ.H e ≤ γ.H e') {m m' : Nat} {nd nd' : Bool} {f f' : List Nat} (h : ElOk C γ now w m nd f) (h' : ElOk C γ now w m' nd' f') :
    ElOk C γ now w (Nat.lor m m') (and3 nd nd' (noBits m m')) (f ++ f') := by
  refine ⟨fun b hb => InM.or.2 ?_, fun hn => ?_⟩
  · rcases List.mem_append.1 hb with hb | hb
    · exact .inl (h.1 b hb)
    · exact .inr (h'.1 b hb)
  · obtain ⟨h1, h2, h3⟩ := and3_eq.1 hn
    exact List.nodup_append.2 ⟨h.2 h1, h'.2 h2, fun x hx y hy exy => by subst exy; exact InM.disj hH h3 (h.1 x hx) (h'.1 x hy)⟩
end
theorem tag_cl_id (g : Tag) : g.cl is0 = g := by cases g <;> first | rfl | (rename_i o; cases o <;> rfl)
theorem ptrOk_id : ∀ (c : List AV), ptrOk is0 c = true
  | [] => rfl
  | x :: r => by cases x <;> exact ptrOk_id r
theorem cl1_id (u : AV) : u.cl1 is0 is0 = u := by
  cases u <;> first
    | rfl
    | (simp only [AV.cl1, tag_cl_id]; done)
    | (rename_i c; show (match ptrOk is0 c with | true => _ | false => _) = _; rw [ptrOk_id])
theorem cl1L_id : ∀ (l : List AV), cl1L is0 is0 l = l
  | [] => rfl
  | v :: r => by simp only [cl1L, cl1_id, cl1L_id r]
theorem cl2_id (u : AV) : u.cl2 is0 is0 = u := by
  by_cases hu : ∃ fs, u = .st fs
  · obtain ⟨fs, rfl⟩ := hu; simp only [AV.cl2, cl1L_id]
  · rw [cl2_eq fun fs e => hu ⟨fs, e⟩, cl1_id]
theorem cl2L_id : ∀ (l : List AV), cl2L is0 is0 l = l
  | [] => rfl
  | v :: r => by simp only [cl2L, cl2_id, cl2L_id r]
theorem cl_id (u : AV) : u.cl is0 is0 = u := by
  by_cases hu : ∃ fs, u = .tup fs
  · obtain ⟨fs, rfl⟩ := hu; simp only [AV.cl, cl2L_id]
  · rw [cl_eq fun fs e => hu ⟨fs, e⟩, cl2_id]
theorem clL_id : ∀ (l : List AV), clL is0 is0 l = l
  | [] => rfl
  | v :: r => by simp only [clL, cl_id, clL_id r]
end Go.Dk
