/- New memory for slices: literals. -/
import Derived.Test.YteamklllllembaaDoorOps6
namespace Go.Dk
section
variable {P : Program} {C : Fr} {n : Nat} {γ : Gh} {s : AS} {a : Act} {w : World} {TY : Nat → TyI} {G : List (Nat × Con)} {dr : Bool} {o : Oper} {K : AV → AS → Prop}

theorem state_id (s : AS) (now : Nat) : (⟨fun j => (s.t j).cl is0 is0, s.h, clL is0 is0 s.fh, now⟩ : AS) = ⟨s.t, s.h, s.fh, now⟩ := by
  simp only [cl_id, clL_id]

/-- A new block whose first N cells will not change. -/
def Gh.blk (γ : Gh) (w : World) (now N : Nat) (tok : Option Nat) : Gh :=
  { lim := fun b => if b = w.heap.size then N else γ.lim b, loc := γ.loc, ow := fun b => if b = w.heap.size then tok else γ.ow b, vid := γ.vid, H := fun e => if e = now then w.heap.size else γ.H e }
/-- Another slice for a number. -/
def Gh.name (γ : Gh) (tok : Option Nat) (v : Value) : Gh := { γ with vid := fun k => if some k = tok then v else γ.vid k }

/-- w2 is w, with one block more at its end (and perhaps another count of draws). -/
structure Grew (w w' : World) (cs : List Value) : Prop where
  at_ : ∃ ty, w'.heap[w.heap.size]? = some (.cells cs.toArray ty (0, 0))
  size : w'.heap.size = w.heap.size + 1
  other : ∀ b, b < w.heap.size → w'.heap[b]? = w.heap[b]?
  os : w'.os = w.os
  tape : w'.tape = w.tape
  output : w'.output = w.output
theorem Grew.alloc (w : World) (cs : List Value) (ty : TypeId) : Grew w (w.alloc (.cells cs.toArray ty)) cs :=
  ⟨⟨ty, heap_alloc_new w _⟩, by simp, fun b hb => heap_alloc hb, rfl, rfl, rfl⟩
theorem Grew.allocDrew (w : World) (cs : List Value) (ty : TypeId) : Grew w (w.drew.alloc (.cells cs.toArray ty)) cs :=
  ⟨⟨ty, heap_alloc_new w.drew _⟩, by simp, fun b hb => heap_alloc (w := w.drew) hb, rfl, rfl, rfl⟩

theorem Grew.step {w' : World} {cs : List Value} (g : Grew w w' cs) (R : Rel C n γ s a w) (N : Nat) (tok : Option Nat) (v : Value) (kt : Nat → Bool) (hk : ∀ k, tok = some k → kt k = true) {now' : Nat} (hn : now' = s.now ∨ now' = s.now + 1) :
    Step γ s.now w ((γ.blk w s.now N tok).name tok v) now' w' kt is0 :=
  { lim := fun b => by
      show γ.lim b ≤ if b = w.heap.size then N else γ.lim b
      split
      · rename_i e; rw [e, R.limz _ (Nat.le_refl _)]; exact Nat.zero_le _
      · exact Nat.le_refl _
    cell := fun b off hlt v hv => by rw [cell_block (g.other b (block_lt hv))]; exact hv
    size := by rw [g.size]; omega
    two := R.two
    le := by omega
    Hlt := fun e he => if_neg (by omega)
    Hge := fun e h1 h2 => by have : e = s.now := by omega
                             show _ ≤ if e = s.now then _ else _; rw [if_pos this]; exact Nat.le_refl _
    loc := fun _ _ => rfl
    ow := fun b k hb _ => by
      have := (R.ow b k hb).2
      exact ⟨by show (if b = w.heap.size then tok else γ.ow b) = _; rw [if_neg (by omega)]; exact hb, g.other b this, if_neg (by omega)⟩
    vid := fun k hkk => if_neg fun e => by rw [hk k e.symm] at hkk; cases hkk }
theorem Grew.plain {w' : World} {cs : List Value} (g : Grew w w' cs) (R : Rel C n γ s a w) {N : Nat} : ∀ b, C.w0.heap.size ≤ b → b < w'.heap.size → 0 < (if b = w.heap.size then N else γ.lim b) → PlainB w' b := by
  intro b h1 h2 hp
  by_cases e : b = w.heap.size
  · subst e; obtain ⟨ty, h⟩ := g.at_; exact ⟨_, ty, h⟩
  · have : b < w.heap.size := by rw [g.size] at h2; omega
    rw [if_neg e] at hp
    exact (R.plain b h1 this hp).of (g.other b this)
theorem Grew.rel {w' : World} {cs : List Value} (g : Grew w w' cs) (R : Rel C n γ s a w) (N : Nat) (tok : Option Nat) (v : Value) (kt : Nat → Bool) (hk : ∀ k, tok = some k → kt k = true) {now' : Nat} (hn : now' = s.now ∨ now' = s.now + 1) :
    Rel C n ((γ.blk w s.now N tok).name tok v) ⟨fun j => (s.t j).cl kt is0, fun j => (s.h j).cl kt is0, clL kt is0 s.fh, now'⟩ a w' := by
  refine R.grow (g.step R N tok v kt hk hn) (fun i _ => ⟨rfl, rfl⟩) (fun b hb ho => ⟨g.other b hb, if_neg (by omega), by show (if b = w.heap.size then tok else γ.ow b) = none; rw [if_neg (by omega)]; exact ho⟩)
    (g.plain R) (fun b k hb => ?_) (fun b hb => ?_) g.os g.tape g.output (fun e h1 h2 => if_pos (by omega))
  · have hb : (if b = w.heap.size then tok else γ.ow b) = some k := hb
    rw [g.size]
    split at hb
    · have := R.kept.size; omega
    · have := R.ow b k hb; omega
  · rw [g.size] at hb
    show (if b = w.heap.size then N else γ.lim b) = 0
    rw [if_neg (by omega)]; exact R.limz b (by omega)
theorem Grew.rel0 {w' : World} {cs : List Value} (g : Grew w w' cs) (R : Rel C n γ s a w) (N : Nat) {now' : Nat} (hn : now' = s.now ∨ now' = s.now + 1) :
    Rel C n ((γ.blk w s.now N none).name none undef) ⟨s.t, s.h, s.fh, now'⟩ a w' := by
  have := g.rel R N none undef is0 (by nofun) hn
  simp only [cl_id, clL_id] at this
  exact this
theorem Grew.cell {w' : World} {cs : List Value} (g : Grew w w' cs) (j : Nat) : w'.cell? ⟨w.heap.size, j, none⟩ = cs[j]? := by
  obtain ⟨ty, h⟩ := g.at_
  rw [cell_of_row w' _ j _ ty _ h]; simp

/-- Terms that lie elsewhere, their three cells each in one row. -/
inductive Row (lim : Nat → Nat) (w : World) : List T → List Value → List Nat → Prop where
  | nil : Row lim w [] [] []
  | cons {k n : Int} {ts : List T} {a : Option Addr} {cap : Nat} {f1 f2 : List Nat} {l : List T} {cs : List Value} (h1 : ts.length ≤ cap) (h2 : Els lim w ts a f1) (h3 : Row lim w l cs f2) :
      Row lim w (.mk k n ts :: l) (.int .i64 k :: .int .i64 n :: .slice a ts.length cap :: cs) (f1 ++ f2)
theorem Row.length {lim : Nat → Nat} {w : World} {l : List T} {cs : List Value} {fp : List Nat} (h : Row lim w l cs fp) : cs.length = l.length * 3 := by
  induction h with
  | nil => rfl
  | cons _ _ _ ih => simp [ih]; omega
theorem Row.one {lim : Nat → Nat} {w : World} {l : List T} {cs : List Value} {fp : List Nat} (h : Row lim w l cs fp) : ∀ c ∈ cs, c.oneCell' = true := by
  induction h with
  | nil => intro c hc; simp at hc
  | cons _ _ _ ih =>
    intro c hc
    simp only [List.mem_cons] at hc
    rcases hc with rfl | rfl | rfl | hc
    · rfl
    · rfl
    · rfl
    · exact ih c hc
theorem Row.append {lim : Nat → Nat} {w : World} {l l' : List T} {cs cs' : List Value} {fp fp' : List Nat} (h : Row lim w l cs fp) (h' : Row lim w l' cs' fp') : Row lim w (l ++ l') (cs ++ cs') (fp ++ fp') := by
  induction h with
  | nil => exact h'
  | cons h1 h2 _ ih => rw [List.append_assoc]; exact .cons h1 h2 ih
theorem Row.step {lim lim' : Nat → Nat} {w w' : World} (hl : ∀ b, lim b ≤ lim' b) (hc : ∀ b off, off < lim b → ∀ v, w.cell? ⟨b, off, none⟩ = some v → w'.cell? ⟨b, off, none⟩ = some v)
    {l : List T} {cs : List Value} {fp : List Nat} (h : Row lim w l cs fp) : Row lim' w' l cs fp := by
  induction h with
  | nil => exact .nil
  | cons h1 h2 _ ih => exact .cons h1 (Els.step hl hc h2) ih
theorem Row.lt {lim : Nat → Nat} {w : World} {l : List T} {cs : List Value} {fp : List Nat} (h : Row lim w l cs fp) : ∀ x ∈ fp, x < w.heap.size := by
  induction h with
  | nil => simp
  | cons _ h2 _ ih =>
    intro x hx
    rcases List.mem_append.1 hx with hx | hx
    · exact h2.lt x hx
    · exact ih x hx
/-- What is read at an address is such a row. -/
theorem Arr.row {lim : Nat → Nat} {w : World} : ∀ (ts : List T) (b off : Nat) (fp : List Nat), Arr lim w ts b off fp →
    ∃ cs, Row lim w ts cs fp ∧ ∀ (j : Nat) v, cs[j]? = some v → w.cell? ⟨b, off + j, none⟩ = some v
  | [], _, _, fp, h => by
    have h : fp = [] := h
    subst h
    exact ⟨[], .nil, fun j v hv => by simp at hv⟩
  | .mk k n ts :: l, b, off, fp, ⟨f1, f2, h1, h2, h3⟩ => by
    obtain ⟨cs, g1, g2⟩ := Arr.row l b (off + 3) f2 h3
    obtain ⟨_, c1, c2, a, cap, c3, c4, c5⟩ := h2
    subst h1
    refine ⟨_, Row.cons (k := k) (n := n) c4 c5 g1, fun j v hv => ?_⟩
    match j, hv with
    | 0, hv => simp at hv; subst hv; exact c1
    | 1, hv => simp at hv; subst hv; exact c2
    | 2, hv => simp at hv; subst hv; exact c3
    | j + 3, hv => have := g2 j v (by simpa using hv); rw [← this]; congr 2; omega
/-- And such a row laid somewhere reads so. -/
theorem Row.arr {lim : Nat → Nat} {w : World} {l : List T} {cs : List Value} {fp : List Nat} (h : Row lim w l cs fp) : ∀ (b off : Nat), off + cs.length ≤ lim b →
    (∀ (j : Nat) v, cs[j]? = some v → w.cell? ⟨b, off + j, none⟩ = some v) → Arr lim w l b off fp := by
  induction h with
  | nil => intro b off _ _; exact rfl
  | @cons k n ts a cap f1 f2 l cs h1 h2 h3 ih =>
    intro b off hlim hc
    simp only [List.length_cons] at hlim
    refine ⟨f1, f2, rfl, ⟨by omega, hc 0 _ rfl, hc 1 _ rfl, a, cap, hc 2 _ rfl, h1, h2⟩, ih b (off + 3) (by omega) fun j v hv => ?_⟩
    have := hc (j + 3) v (by simpa using hv)
    rw [← this]; congr 2; omega

/-- The new block's class. -/
theorem Grew.cls {w' : World} {cs : List Value} (g : Grew w w' cs) (R : Rel C n γ s a w) (N : Nat) (tok : Option Nat) (v : Value) : InM C ((γ.blk w s.now N tok).name tok v) (s.now + 1) w' (bit s.now) w.heap.size := by
  refine InM.bit (.inr (.inr ⟨by have := R.two; omega, by omega, ?_, ?_⟩))
  · show (if s.now = s.now then _ else _) ≤ _
    rw [if_pos rfl]; exact Nat.le_refl _
  · unfold bnd; rw [if_neg (by omega), g.size]; omega
theorem whole_ok {now es : Nat} {x : Option Addr} {len cap : Nat} {fp : List Nat} {g : Tag} {m : Nat} {nd : Bool} (hw : g.whole = some (m, nd)) (h : TagOk C γ now w es x len cap fp g) : ElOk C γ now w m nd fp := by
  cases g <;> simp only [Tag.whole] at hw <;> first | (cases hw; done) | skip
  · cases hw; exact h.1.all
  · cases hw; exact ⟨h.2, nofun⟩

theorem litTs_row (R : Rel C n γ s a w) : ∀ (l : List (Nat × Operand)) (r : List (T × Tag)), litTs (mapGet s l) = some r → ∃ cs fp, Row γ.lim w (fstL r) cs fp ∧ r.length = l.length ∧
    (l.map fun p => a.eval p.2).flatMap (·.cells.toList) = cs ∧ (∀ p ∈ l, (a.eval p.2).cells.size = 3) ∧ (∀ m nd, litM r = some (m, nd) → ElOk C γ s.now w m nd fp)
  | [], r, h => by simp [litTs] at h; subst h; exact ⟨[], [], .nil, rfl, rfl, by simp, by intro m nd e; cases e; exact ElOk.nil⟩
  | (i, x) :: l, r, h => by
    have hx := R.get x
    simp only [mapGet] at h
    revert h
    generalize s.get x = p at hx
    intro h
    unfold litTs at h
    split at h
    case h_1 e => cases e
    case h_3 => cases h
    rename_i k m ts g r' e
    obtain ⟨rfl, rfl⟩ := List.cons.inj e
    split at h
    case h_2 => cases h
    rename_i q hq
    cases h
    obtain ⟨cs, fp, g1, g2, g3, g4, g5⟩ := litTs_row R l q hq
    obtain ⟨us, hv, hall⟩ := hx
    match us, hall with
    | [u0, u1, u2], ⟨e0, e1, e2, _⟩ =>
      have e0 : u0 = .int .i64 k := e0
      have e1 : u1 = .int .i64 m := e1
      obtain ⟨b0, cap, f0, e2, hcap, he, ht⟩ : ∃ a cap fp, u2 = .slice a ts.length cap ∧ ts.length ≤ cap ∧ Els γ.lim w ts a fp ∧ TagOk C γ s.now w 3 a ts.length cap fp g := e2
      subst e0 e1 e2
      refine ⟨_, _, .cons hcap he g1, by simp [g2], ?_, ?_, ?_⟩
      · rw [List.map_cons, List.flatMap_cons, g3, hv]; rfl
      · intro p hp
        rcases List.mem_cons.1 hp with rfl | hp
        · rw [hv]; rfl
        · exact g4 p hp
      · intro mm nd' hm
        simp only [litM] at hm
        split at hm
        case h_2 => cases hm
        rename_i m1 n1 m2 n2 hw hr
        cases hm
        exact ElOk.join R.Hmono (whole_ok hw ht) (g5 _ _ hr)

theorem litInts_cells (R : Rel C n γ s a w) : ∀ (l : List (Nat × Operand)) (k : IntKind) (ns : List Int), litInts (mapGet s l) = some (k, ns) → ns.length = l.length ∧
    (l.map fun p => a.eval p.2).flatMap (·.cells.toList) = ns.map (Value.int k) ∧ ∀ p ∈ l, (a.eval p.2).cells.size = 1
  | [], k, ns, h => by simp [litInts] at h; obtain ⟨rfl, rfl⟩ := h; exact ⟨rfl, rfl, by simp⟩
  | (i, x) :: l, k, ns, h => by
    have hx := R.get x
    simp only [mapGet] at h
    revert h
    generalize s.get x = p at hx
    intro h
    unfold litInts at h
    split at h
    case h_1 e => cases e
    case h_3 => cases h
    rename_i k1 m r' e
    obtain ⟨rfl, rfl⟩ := List.cons.inj e
    have hx : a.eval x = .int k1 m := hx
    split at h
    case h_1 e2 =>
      simp at h
      obtain ⟨rfl, rfl⟩ := h
      have : l = [] := by cases l <;> simp [mapGet] at e2 ⊢
      subst this
      refine ⟨rfl, by simp [hx, Value.cells], fun p hp => ?_⟩
      simp at hp; subst hp; simp [hx, Value.cells]
    case h_2 =>
      split at h
      case h_2 => cases h
      rename_i k2 q hq
      split at h
      case h_2 => cases h
      rename_i hk
      obtain rfl := ikEq_iff.1 hk
      simp at h
      obtain ⟨rfl, rfl⟩ := h
      obtain ⟨g1, g2, g3⟩ := litInts_cells R l _ q hq
      refine ⟨by simp [g1], ?_, fun p hp => ?_⟩
      · rw [List.map_cons, List.flatMap_cons, g2, hx]; rfl
      · rcases List.mem_cons.1 hp with rfl | hp
        · simp [hx, Value.cells]
        · exact g3 p hp
theorem litStrs_cells (R : Rel C n γ s a w) : ∀ (l : List (Nat × Operand)) (ss : List (List UInt8)), litStrs (mapGet s l) = some ss → ss.length = l.length ∧
    (l.map fun p => a.eval p.2).flatMap (·.cells.toList) = ss.map (fun x => Value.string ⟨x.toArray⟩) ∧ ∀ p ∈ l, (a.eval p.2).cells.size = 1
  | [], ss, h => by simp [litStrs] at h; subst h; exact ⟨rfl, rfl, by simp⟩
  | (i, x) :: l, ss, h => by
    have hx := R.get x
    simp only [mapGet] at h
    revert h
    generalize s.get x = p at hx
    intro h
    unfold litStrs at h
    split at h
    case h_1 e => cases e
    case h_3 => cases h
    rename_i m r' e
    obtain ⟨rfl, rfl⟩ := List.cons.inj e
    have hx : a.eval x = .string ⟨m.toArray⟩ := hx
    split at h
    case h_2 => cases h
    rename_i q hq
    simp at h
    subst h
    obtain ⟨g1, g2, g3⟩ := litStrs_cells R l q hq
    refine ⟨by simp [g1], ?_, fun p hp => ?_⟩
    · rw [List.map_cons, List.flatMap_cons, g2, hx]; rfl
    · rcases List.mem_cons.1 hp with rfl | hp
      · simp [hx, Value.cells]
      · exact g3 p hp

theorem fstL_length : ∀ l : List (T × Tag), (fstL l).length = l.length
  | [] => rfl
  | _ :: r => by simp [fstL, fstL_length r]
theorem buildSlice_ok (hT : TyOk P TY) (R : Rel C n γ s a w) {ty len : Nat} {parts : Array (Nat × Operand)} (ho : o.op = .buildSlice ty len parts) (h : aop G TY dr s o K) : OpOk P C n a w o K := by
  simp only [aop, ho] at h
  split at h
  case h_2 => exact h.elim
  rename_i hord hlen hle
  have hlen : len = parts.toList.length := by simpa using hlen
  have hle : len ≤ 10000 := Nat.le_of_ble_eq_true hle
  have hpar : (parts.map fun (i, x) => (i, a.eval x)) = (parts.toList.map fun p => (p.1, a.eval p.2)).toArray := by cases parts; simp
  unfold buildS at h
  split at h
  case h_4 => exact h.elim
  case h_1 ts0 g0 zs hk hke =>
    split at h
    case h_2 => exact h.elim
    rename_i l hl
    obtain ⟨t1, q, t2, t3, t4, zs', t5, t6⟩ := ty_slc hT hk
    obtain ⟨cs, fp, r1, r2, r3, r4, r5⟩ := litTs_row R parts.toList l hl
    have hrun := buildSlice_run (P := P) (w := w) (a := a) t1 t2 t3 t5 hord (by omega) (by omega) r4
    rw [r3] at hrun
    have g := Grew.alloc w cs (TY ty).elem
    have hfl : (fstL l).length = len := by rw [fstL_length, r2, hlen]
    have main : ∀ now', (now' = s.now ∨ now' = s.now + 1) → (∀ γ', γ' = (γ.blk w s.now cs.length none).name none undef → ∀ fp', (fp' = [] ∨ fp' = w.heap.size :: fp) → (fstL l = [] → fp' = []) →
        TagOk C γ' now' (w.alloc (.cells cs.toArray (TY ty).elem)) 3 (some ⟨w.heap.size, 0, none⟩) (fstL l).length (fstL l).length fp' (tagsOf l dr s.now)) →
        K (.slc (fstL l) (tagsOf l dr s.now)) { s with now := now' } → OpOk P C n a w o K := by
      intro now' hn htag hK
      have S := g.step R cs.length none undef is0 (by nofun) hn
      have hrow := r1.step S.lim S.cell
      have harr := hrow.arr w.heap.size 0 (by show _ ≤ if w.heap.size = w.heap.size then _ else _; rw [if_pos rfl]; omega) fun j v hv => by rw [Nat.zero_add, g.cell j]; exact hv
      refine ⟨_, .slice (some ⟨w.heap.size, 0, none⟩) len len, _, _, _, (γ.blk w s.now cs.length none).name none undef, ?_, .inl rfl, hK, g.rel0 R cs.length hn, ?_⟩
      · simp only [execOp, ho, hpar, Sem.run_bind, hlen, hrun]; rfl
      · by_cases hne : fstL l = []
        · exact ⟨_, len, [], by rw [hfl], by rw [hfl]; exact Nat.le_refl _, .inl ⟨hne, rfl⟩, by rw [hfl]; rw [← hfl]; exact htag _ rfl _ (.inl rfl) (fun _ => rfl)⟩
        · exact ⟨_, len, w.heap.size :: fp, by rw [hfl], by rw [hfl]; exact Nat.le_refl _, .inr ⟨_, 0, fp, hne, rfl, rfl, harr⟩, by rw [← hfl]; exact htag _ rfl _ (.inr rfl) (fun e => absurd e hne)⟩
    have hlt := r1.lt
    have hnm : w.heap.size ∉ fp := fun hm => Nat.lt_irrefl _ (hlt _ hm)
    have hnil : l = [] → fstL l = [] := fun e => by rw [e]
    cases dr with
    | false =>
      refine main (s.now + 1) (.inr rfl) (fun γ' hγ fp' hfp hemp => ?_) h
      have S := g.step R cs.length none undef is0 (by nofun) (.inr rfl : s.now + 1 = s.now ∨ s.now + 1 = s.now + 1)
      have hcls := g.cls R cs.length none undef
      subst hγ
      unfold tagsOf
      split
      case h_1 => rw [hemp (hnil rfl)]; exact ⟨RtOk.nil, rfl⟩
      case h_2 =>
        split
        case h_3 e _ => cases e
        case h_4 e _ => cases e
        case h_1 m nd e hl' =>
          have hel := (r5 m nd hl').step S
          rcases hfp with rfl | rfl
          · exact ⟨RtOk.nil, rfl⟩
          · exact ⟨⟨fun b hb => by simp at hb; subst hb; exact hcls, fun b hb => hel.1 b hb, fun hn => List.nodup_cons.2 ⟨hnm, hel.2 hn⟩⟩, rfl⟩
        case h_2 e hl' =>
          rcases hfp with rfl | rfl
          · exact ⟨RtOk.nil, rfl⟩
          · refine ⟨⟨fun b hb => by simp at hb; subst hb; exact hcls, fun b hb => ?_, nofun⟩, rfl⟩
            have hb := hlt b hb
            exact (InM.full R.two hb).step S
    | true =>
      refine main s.now (.inl rfl) (fun γ' hγ fp' hfp hemp => ?_) h
      have S := g.step R cs.length none undef is0 (by nofun) (.inl rfl : s.now = s.now ∨ s.now = s.now + 1)
      subst hγ
      unfold tagsOf
      split
      case h_1 => rw [hemp (hnil rfl)]; exact ⟨RtOk.nil, rfl⟩
      case h_2 =>
        split
        case h_1 e _ => cases e
        case h_2 e _ => cases e
        case h_3 m nd e hl' =>
          have hel := (r5 m nd hl').step S
          rcases hfp with rfl | rfl
          · exact ⟨ElOk.nil, rfl⟩
          · exact ⟨hel, rfl⟩
        case h_4 => trivial
  case h_2 k0 ns0 g0 k z hk hke =>
    split at h
    case h_2 => exact h.elim
    rename_i k' ns hl
    obtain ⟨t1, t0, q, t2, t3, t4, z', t5, t6⟩ := ty_ints hT hk
    obtain ⟨r2, r3, r4⟩ := litInts_cells R parts.toList k' ns hl
    have hrun := buildSlice_run (P := P) (w := w) (a := a) t1 t2 t3 t5 hord (by omega) (by omega) r4
    rw [r3] at hrun
    have g := Grew.alloc w (ns.map (Value.int k')) (TY ty).elem
    have main : ∀ k'' now' tg, (ns ≠ [] → k'' = k') → (now' = s.now ∨ now' = s.now + 1) → (ns = [] ∧ tg = .iv 0 0 true .full ∨ tg = .el 0 true .full ∨ now' = s.now + 1 ∧ tg = .iv (bit s.now) 0 true .full) →
        K (.ints k'' ns tg) { s with now := now' } → OpOk P C n a w o K := by
      intro k'' now' tg hkk hn htg hK
      have hR := g.rel0 R ns.length hn
      have S := g.step R ns.length none undef is0 (by nofun) hn
      refine ⟨_, .slice (some ⟨w.heap.size, 0, none⟩) len len, _, _, _, (γ.blk w s.now ns.length none).name none undef, ?_, .inl rfl, hK, hR, ?_⟩
      · simp only [execOp, ho, hpar, Sem.run_bind, hlen, hrun]; rfl
      · have hfull : len = ns.length := by rw [r2, hlen]
        by_cases hne : ns = []
        · refine ⟨_, len, [], by rw [← hfull], by omega, .inl ⟨hne, rfl⟩, ?_⟩
          rcases htg with ⟨_, rfl⟩ | rfl | ⟨_, rfl⟩
          · exact ⟨RtOk.nil, hfull⟩
          · exact ⟨ElOk.nil, hfull⟩
          · exact ⟨RtOk.nil, hfull⟩
        · refine ⟨_, len, [w.heap.size], by rw [← hfull], by omega, .inr ⟨_, 0, hne, rfl, rfl, fun j hj => ⟨?_, ?_⟩⟩, ?_⟩
          · rw [Nat.zero_add, g.cell j, hkk hne]
            simp [List.getD_eq_getElem?_getD, hj]
          · show _ < if w.heap.size = w.heap.size then _ else _
            rw [if_pos rfl]; omega
          · rcases htg with ⟨e, _⟩ | rfl | ⟨rfl, rfl⟩
            · exact absurd e hne
            · exact ⟨ElOk.nil, hfull⟩
            · exact ⟨⟨fun b hb => by simp at hb; subst hb; exact g.cls R _ _ _, fun b hb => by simp at hb, fun _ => by simp⟩, hfull⟩
    split at h
    case h_1 e =>
      have : ns = [] := by
        have : parts.toList = [] := by revert e; cases parts.toList <;> simp [mapGet]
        rw [this] at r2; exact List.eq_nil_of_length_eq_zero r2
      subst this
      cases dr with
      | false => exact main _ _ _ (fun h => absurd rfl h) (.inr rfl) (.inl ⟨rfl, rfl⟩) h
      | true => exact main _ _ _ (fun h => absurd rfl h) (.inl rfl) (.inl ⟨rfl, rfl⟩) h
    case h_2 =>
      split at h
      case h_2 => exact h.elim
      rename_i hkk
      cases dr with
      | false => exact main _ _ _ (fun _ => ikEq_iff.1 hkk) (.inr rfl) (.inr (.inr ⟨rfl, rfl⟩)) h
      | true => exact main _ _ _ (fun _ => ikEq_iff.1 hkk) (.inl rfl) (.inr (.inl rfl)) h
  case h_3 ss0 z hk hke =>
    split at h
    case h_2 => exact h.elim
    rename_i ss hl
    obtain ⟨t1, q, t2, t3, t4, z', t5, t6⟩ := ty_strs hT hk
    obtain ⟨r2, r3, r4⟩ := litStrs_cells R parts.toList ss hl
    have hrun := buildSlice_run (P := P) (w := w) (a := a) t1 t2 t3 t5 hord (by omega) (by omega) r4
    rw [r3] at hrun
    have g := Grew.alloc w (ss.map fun x => Value.string ⟨x.toArray⟩) (TY ty).elem
    have hR := g.rel0 R ss.length (.inl rfl)
    refine ⟨_, .slice (some ⟨w.heap.size, 0, none⟩) len len, _, _, _, (γ.blk w s.now ss.length none).name none undef, ?_, .inl rfl, h, hR, ?_⟩
    · simp only [execOp, ho, hpar, Sem.run_bind, hlen, hrun]; rfl
    · refine ⟨_, len, by rw [r2, hlen], by omega, ?_⟩
      refine .inr ⟨_, 0, rfl, fun j hj => ⟨?_, ?_⟩⟩
      · rw [Nat.zero_add, g.cell j]
        simp [List.getD_eq_getElem?_getD, hj]
      · show _ < if w.heap.size = w.heap.size then _ else _
        rw [if_pos rfl]; omega
end
end Go.Dk
