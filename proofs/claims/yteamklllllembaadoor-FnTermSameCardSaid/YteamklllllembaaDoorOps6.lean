/- Conversions; structs and slices written out. -/
import Derived.Test.YteamklllllembaaDoorOps5
namespace Go.Dk
section
variable {P : Program} {C : Fr} {n : Nat} {γ : Gh} {s : AS} {a : Act} {w : World} {TY : Nat → TyI} {G : List (Nat × Con)} {dr : Bool} {o : Oper} {K : AV → AS → Prop}

theorem conv_int {src dst : Nat} {d : TypeDesc} {k k0 : IntKind} (hs : P.underlying src = some d) (hd : P.underlying dst = some (.int k)) (m : Int) :
    (convert src dst (.int k0 m)).run P w = .ok (.int k (k.wrap m)) w := by
  simp [convert, run_underlying hs, run_underlying hd, Conv.intToInt]
theorem foldl_push (ns : List Int) : ∀ l : List UInt8, ns.foldl (fun r n => r.push (UInt8.ofNat n.toNat)) (ByteArray.mk l.toArray) = ⟨(l ++ ns.map fun n => UInt8.ofNat n.toNat).toArray⟩ := by
  induction ns with
  | nil => intro l; simp
  | cons x r ih =>
    intro l
    have e : (ByteArray.mk l.toArray).push (UInt8.ofNat x.toNat) = ByteArray.mk (l ++ [UInt8.ofNat x.toNat]).toArray := by
      show ByteArray.mk (l.toArray.push _) = _
      simp
    rw [List.foldl_cons, e, ih]
    simp
theorem convert_ok (hT : TyOk P TY) (R : Rel C n γ s a w) {src dst : Nat} {x : Operand} (ho : o.op = .convert src dst x) (h : aop G TY dr s o K) : OpOk P C n a w o K := by
  simp only [aop, ho] at h
  have hx := R.get x
  revert h
  generalize s.get x = p at hx
  intro h
  split at h
  case h_3 => exact h.elim
  case h_1 k0 m0 k m1 k2 m hs hd =>
    have hx : a.eval x = .int k2 m := hx
    split at h
    case h_3 => exact h.elim
    case h_1 => exact .pure R h.2 (v := .int .i64 m) rfl (by simp [execOp, ho, hx, conv_int (ty_int hT hs) (ty_int hT hd), IntWalk.i64_in _ h.1])
    case h_2 => exact .pure R h.2 (v := .int .u8 m) rfl (by simp [execOp, ho, hx, conv_int (ty_int hT hs) (ty_int hT hd), IntWalk.u8_in _ h.1])
  case h_2 ns0 g0 l0 ns g hs hd =>
    obtain ⟨b0, cap, fp0, hv, hc, hin, _⟩ := hx
    obtain ⟨t1, t2, _⟩ := ty_ints hT hs
    refine .pure R h (v := .string ⟨(ns.map fun (n : Int) => UInt8.ofNat n.toNat).toArray⟩) rfl ?_
    have hr : (convert src dst (.slice b0 ns.length cap)).run P w = .ok (.string ⟨(ns.map fun (n : Int) => UInt8.ofNat n.toNat).toArray⟩) w := by
      rw [run_convert_bytes_string w src dst _ b0 ns.length cap t1 t2 (ty_str hT hd)]
      rcases hin with ⟨rfl, _⟩ | ⟨b, off, _, rfl, _, hcell⟩
      · cases b0 with
        | none => rfl
        | some ad =>
          exact run_bytesToString (P := P) w ad 0 cap [] (by simp [loadCells, loadCellsFrom])
      · have hl := run_loadCells_list (P := P) w ⟨b, off, none⟩ (ns.map (Value.int .u8)) (fun j v hv => by
          rw [Addr.add_lit]
          rw [List.getElem?_map] at hv
          cases hj : ns[j]? with
          | none => simp [hj] at hv
          | some q =>
            have hlt := (List.getElem?_eq_some_iff.1 hj).1
            have := (hcell j hlt).1
            simp [hj] at hv
            rw [this, ← hv]
            simp [List.getD_eq_getElem?_getD, hj])
        rw [List.length_map] at hl
        rw [run_bytesToString w ⟨b, off, none⟩ ns.length cap ns hl]
        have := foldl_push ns []
        simp only [List.nil_append] at this
        rw [← this]; rfl
    simp [execOp, ho, hv, hr]

/- Structs. -/
theorem places_ok : ∀ (fs : List Field) (k : Nat), (∀ (j : Nat) (f : Field), fs[j]? = some f → f.offset = k + j ∧ ∃ q, P.info? f.type = some q ∧ q.size = 1) →
    fs.mapM (fun f => (P.info? f.type).map fun i => (f.offset, i.size)) = some ((List.range' k fs.length).map fun j => (j, 1))
  | [], k, _ => by simp
  | f :: fs, k, h => by
    obtain ⟨h1, q, h2, h3⟩ := h 0 f rfl
    have ih := places_ok fs (k + 1) fun j g hg => by
      obtain ⟨e, r⟩ := h (j + 1) g (by simpa using hg)
      exact ⟨by omega, r⟩
    simp [List.mapM_cons, h1, h2, h3, ih, List.range'_succ]
theorem fill_st {place : Nat → Option (Nat × Nat)} {N : Nat} (hp : ∀ i, i < N → place i = some (i, 1)) : ∀ (parts : List (Nat × Value)) (cells : Array Value), cells.size = N → (∀ p ∈ parts, p.1 < N ∧ p.2.cells = #[p.2]) →
    Instr.fill place cells parts = some (parts.foldl (fun cs p => cs.setIfInBounds p.1 p.2) cells)
  | [], cells, _, _ => rfl
  | (i, v) :: r, cells, hc, h => by
    obtain ⟨h1, h2⟩ := h (i, v) (by simp)
    have h1 : i < N := h1
    have h2 : v.cells = #[v] := h2
    have hn : ¬ (i + 1 > N) := by omega
    simp only [Instr.fill, hp i h1, h2]
    rw [if_neg (by simp [hc]; omega)]
    rw [show (#[v] : Array Value).zipIdx.foldl (fun cs (c, j) => cs.setIfInBounds (i + j) c) cells = cells.setIfInBounds i v by simp [Array.zipIdx]]
    rw [fill_st hp r _ (by simp [hc]) fun p hm => h p (by simp [hm])]
    rfl
theorem build_all2 (R : Rel C n γ s a w) : ∀ (parts : List (Nat × Operand)) (zs : List AV) (cells : Array Value), All2 (RelS C γ s.now w) zs cells.toList → partsOk s zs.length parts = true →
    (∀ p ∈ parts.map (fun p => (p.1, a.eval p.2)), p.1 < zs.length ∧ p.2.cells = #[p.2]) ∧
    All2 (RelS C γ s.now w) (setParts s zs parts) ((parts.map (fun p => (p.1, a.eval p.2))).foldl (fun cs p => cs.setIfInBounds p.1 p.2) cells).toList
  | [], zs, cells, h, _ => ⟨by simp, h⟩
  | (i, x) :: r, zs, cells, h, hp => by
    simp only [partsOk] at hp
    split at hp
    case h_2 => cases hp
    rename_i hi hf
    have hi : i < zs.length := by simpa [Nat.blt_eq] using hi
    have hx := R.get x
    rw [rel3_flat hf] at hx
    obtain ⟨h1, h2⟩ := build_all2 R r (zs.set i (s.get x)) (cells.setIfInBounds i (a.eval x)) (by rw [Array.toList_setIfInBounds]; exact h.set hx i) (by simpa using hp)
    refine ⟨fun p hm => ?_, by simpa [setParts] using h2⟩
    simp only [List.map_cons, List.mem_cons] at hm
    rcases hm with rfl | hm
    · exact ⟨hi, (flat_cells hf hx).1⟩
    · have := h1 p hm; simpa using this
theorem build_ok (hT : TyOk P TY) (R : Rel C n γ s a w) {ty : Nat} {parts : Array (Nat × Operand)} (ho : o.op = .build ty parts) (h : aop G TY dr s o K) : OpOk P C n a w o K := by
  simp only [aop, ho] at h
  split at h
  case h_2 => exact h.elim
  rename_i zs hk
  split at h
  case h_2 => exact h.elim
  rename_i hp
  have hty := hT.ty ty
  rw [hk] at hty
  obtain ⟨fields, i, cs, h1, h3, h4, h5, h6, h7, h8⟩ := hty
  obtain ⟨g1, g2⟩ := build_all2 R parts.toList zs cs (zeroFL h7) hp
  have hcs : cs.size = zs.length := by have := h7.length; simpa using this.symm
  have hpl := places_ok (P := P) fields.toList 0 fun j f hf => by
    obtain ⟨e, r⟩ := h8 j f (by simpa using hf)
    exact ⟨by omega, r⟩
  have hpar : (parts.map fun (i, x) => (i, a.eval x)).toList = parts.toList.map fun p => (p.1, a.eval p.2) := by simp
  have hb : P.built ty (parts.map fun (i, x) => (i, a.eval x)).toList = some ((parts.toList.map fun p => (p.1, a.eval p.2)).foldl (fun cs p => cs.setIfInBounds p.1 p.2) cs) := by
    unfold Program.built
    simp only [h4, h1, h6, hpl]
    rw [hpar]
    refine fill_st (N := zs.length) (fun i hi => ?_) _ _ (by simpa [Value.cells] using hcs) g1
    have : i < fields.size := by omega
    simp [this]
  exact .pure R h (v := .agg _) ⟨_, rfl, g2⟩ (by simp [execOp, ho, run_build w ty _ _ hb])

/- Slices written out. -/
theorem setSeg : ∀ (vs : List Value) (k off : Nat) (cells : Array Value), off + k + vs.length ≤ cells.size →
    ((vs.zipIdx k).foldl (fun (cs : Array Value) (c, j) => cs.setIfInBounds (off + j) c) cells).toList = cells.toList.take (off + k) ++ vs ++ cells.toList.drop (off + k + vs.length)
  | [], k, off, cells, _ => by simp
  | v :: vs, k, off, cells, h => by
    simp only [List.zipIdx_cons, List.foldl_cons]
    have h' : off + k + (vs.length + 1) ≤ cells.toList.length := by simpa using h
    rw [setSeg vs (k + 1) off _ (by rw [Array.size_setIfInBounds]; simp only [List.length_cons] at h; omega), Array.toList_setIfInBounds]
    have e1 : (cells.toList.set (off + k) v).take (off + (k + 1)) = cells.toList.take (off + k) ++ [v] := by
      rw [show off + (k + 1) = off + k + 1 by omega, List.take_succ_eq_append_getElem (by rw [List.length_set]; omega), List.take_set_of_le (Nat.le_refl _)]
      simp
    have e2 : (cells.toList.set (off + k) v).drop (off + (k + 1) + vs.length) = cells.toList.drop (off + k + (vs.length + 1)) := by
      rw [List.drop_set_of_lt (by omega)]
      congr 1; omega
    rw [e1, e2]
    simp
theorem fill_sl {es : Nat} : ∀ (vs : List Value) (k : Nat) (cells : Array Value), (∀ v ∈ vs, v.cells.size = es) → (k + vs.length) * es ≤ cells.size →
    ∃ out, Instr.fill (fun i => some (i * es, es)) cells (vs.zipIdx k |>.map fun p => (p.2, p.1)) = some out ∧ out.toList = cells.toList.take (k * es) ++ vs.flatMap (·.cells.toList) ++ cells.toList.drop ((k + vs.length) * es)
  | [], k, cells, _, _ => ⟨cells, rfl, by simp⟩
  | v :: vs, k, cells, hv, h => by
    have hve : v.cells.size = es := hv v (by simp)
    have e0 : (k + (vs.length + 1)) * es = k * es + es + vs.length * es := by rw [Nat.add_mul, Nat.add_mul]; omega
    have h : (k + (vs.length + 1)) * es ≤ cells.size := h
    let cells' := v.cells.zipIdx.foldl (fun (cs : Array Value) (c, j) => cs.setIfInBounds (k * es + j) c) cells
    have hseg : cells'.toList = cells.toList.take (k * es) ++ v.cells.toList ++ cells.toList.drop (k * es + es) := by
      have := setSeg v.cells.toList 0 (k * es) cells (by simp [hve]; omega)
      simp only [Nat.add_zero, Array.length_toList, hve] at this
      rw [← this]
      simp only [cells', ← Array.foldl_toList, Array.toList_zipIdx]
    have hsz : cells'.size = cells.size := by
      have := congrArg List.length hseg
      simp [hve] at this
      omega
    have e1 : (k + 1 + vs.length) * es = k * es + es + vs.length * es := by rw [Nat.add_mul, Nat.add_mul]; omega
    obtain ⟨out, h1, h2⟩ := fill_sl vs (k + 1) cells' (fun x hx => hv x (by simp [hx])) (by rw [hsz]; omega)
    refine ⟨out, ?_, ?_⟩
    · simp only [List.zipIdx_cons, List.map_cons, Instr.fill]
      rw [if_neg (by simp [hve]; omega)]
      exact h1
    · rw [h2, hseg]
      have e2 : (k + 1) * es = k * es + es := by rw [Nat.add_mul]; omega
      have l1 : (cells.toList.take (k * es)).length = k * es := by simp; omega
      rw [e2, e1, List.flatMap_cons]
      have t1 : (cells.toList.take (k * es) ++ v.cells.toList ++ cells.toList.drop (k * es + es)).take (k * es + es) = cells.toList.take (k * es) ++ v.cells.toList := by
        rw [List.take_append_of_le_length (by simp [hve]; omega), List.take_of_length_le (by simp [hve]; omega)]
      have t2 : (cells.toList.take (k * es) ++ v.cells.toList ++ cells.toList.drop (k * es + es)).drop (k * es + es + vs.length * es) = cells.toList.drop (k * es + es + vs.length * es) := by
        rw [List.drop_append, List.drop_eq_nil_of_le (by simp [hve]; omega)]
        simp only [List.nil_append, List.length_append, l1, Array.length_toList, hve, List.drop_drop]
        congr 1; omega
      rw [t1, t2, List.length_cons, e0]
      simp [List.append_assoc]
theorem inOrder_eq : ∀ (k : Nat) (l : List (Nat × Operand)), inOrder k l = true → ∀ f : Operand → Value, l.map (fun p => (p.1, f p.2)) = ((l.map fun p => f p.2).zipIdx k).map fun p => (p.2, p.1)
  | _, [], _, _ => rfl
  | k, (i, x) :: r, h, f => by
    simp only [inOrder] at h
    split at h
    case h_2 => cases h
    rename_i hi
    have hi : i = k := by simpa using hi
    simp only [List.map_cons, List.zipIdx_cons]
    rw [inOrder_eq (k + 1) r h f, hi]
theorem buildSlice_run {ty e es : Nat} {j : TypeInfo} {z : Value} (h1 : P.underlying ty = some (.slice e)) (h2 : P.info? e = some j) (h3 : j.size = es) (h4 : j.zero = some z)
    {l : List (Nat × Operand)} (hl : inOrder 0 l = true) (hn : l.length ≤ 10000) (hes : es ≤ 64) (hv : ∀ p ∈ l, (a.eval p.2).cells.size = es) :
    (Instr.buildSlice ty l.length (l.map fun p => (p.1, a.eval p.2)).toArray).run P w =
      .ok (.slice (some ⟨w.heap.size, 0, none⟩) l.length l.length) (w.alloc (.cells ((l.map fun p => a.eval p.2).flatMap (·.cells.toList)).toArray e)) := by
  obtain ⟨out, g1, g2⟩ := fill_sl (es := es) (l.map fun p => a.eval p.2) 0 ((Array.range (l.length * es)).map (fun i => (if l.length * es = 0 then #[] else z.cells)[i % (if l.length * es = 0 then #[] else z.cells).size]!)) (by intro v hm; obtain ⟨p, hp, rfl⟩ := List.mem_map.1 hm; exact hv p hp) (by simp)
  rw [← inOrder_eq 0 l hl a.eval] at g1
  have hout : out = ((l.map fun p => a.eval p.2).flatMap (·.cells.toList)).toArray := by
    apply Array.ext'
    rw [g2]
    simp
  have hlen : ¬ (16777216 < l.length * es) := by
    have : l.length * es ≤ 10000 * 64 := Nat.mul_le_mul hn hes
    omega
  rw [hout] at g1
  by_cases h0 : l.length * es = 0
  · simp only [h0, if_true] at g1
    simp [Instr.buildSlice, run_underlying h1, sizeOf, typeInfo, h2, h3, h0, newRow]
    simp at g1
    rw [g1]
    simp
  · simp only [if_neg h0] at g1
    simp [Instr.buildSlice, run_underlying h1, sizeOf, typeInfo, zeroValue, h2, h3, h4, hlen, h0, newRow]
    rw [g1]
    simp
end
end Go.Dk
