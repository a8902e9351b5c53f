/- append. -/
import Derived.Test.YtnohobjbblbffaaOps7
import Derived.Laws.MakeOwn
set_option linter.unusedSimpArgs false
set_option linter.unusedVariables false
namespace Go.Dk
section
variable {P : Program} {C : Fr} {n : Nat} {γ : Gh} {s : AS} {a : Act} {w : World} {TY : Nat → TyI} {G : List (Nat × Con)} {dr : Bool} {o : Oper} {K : AV → AS → Prop}

/-- The operation itself: nothing appended; room; a new block. -/
theorem append_run {t ty e es : Nat} {i : TypeInfo} {z : Value} (ht : P.underlying t = some (.slice e)) (hi : P.info? e = some i) (hes : i.size = es) (hby : i.bytes ≤ 64) (hz : i.zero = some z) (hzs : z.cells.size = es)
    {ax ay : Option Addr} {lx cx ly cy : Nat} {olds news : List Value} (ho : olds.length = lx * es) (hn : news.length = ly * es) (hpos : 0 < es)
    (hox : olds = [] ∨ ∃ b off, ax = some ⟨b, off, none⟩ ∧ ∀ (j : Nat) v, olds[j]? = some v → w.cell? ⟨b, off + j, none⟩ = some v)
    (hny : news = [] ∨ ∃ b off, ay = some ⟨b, off, none⟩ ∧ ∀ (j : Nat) v, news[j]? = some v → w.cell? ⟨b, off + j, none⟩ = some v)
    (h1 : ∀ u ∈ news, u.oneCell' = true) (hcx : lx ≤ cx) (hsum : (lx : Int) + ly ≤ 1099511627776)
    (hown : lx < cx → 0 < lx ∧ ∃ b c ty, ax = some ⟨b, 0, none⟩ ∧ w.heap[b]? = some (.cells c ty (0, 0)) ∧ c.size = cx * es) :
    (ly = 0 ∧ (Builtin.append_ #[t, t] ty #[.slice ax lx cx, .slice ay ly cy]).run P w = .ok (.slice ax lx cx) w) ∨
    (0 < ly ∧ lx + ly ≤ cx ∧ 0 < lx ∧ ∃ b c ty', ax = some ⟨b, 0, none⟩ ∧ w.heap[b]? = some (.cells c ty' (0, 0)) ∧ c.size = cx * es ∧
      (Builtin.append_ #[t, t] ty #[.slice ax lx cx, .slice ay ly cy]).run P w = .ok (.slice ax (lx + ly) cx) (w.setRow b (c.toList.take (lx * es) ++ news ++ c.toList.drop (lx * es + news.length)).toArray)) ∨
    (0 < ly ∧ cx < lx + ly ∧ ∃ cap' rest, lx + ly ≤ cap' ∧ rest.length = (cap' - (lx + ly)) * es ∧
      (Builtin.append_ #[t, t] ty #[.slice ax lx cx, .slice ay ly cy]).run P w = .ok (.slice (some ⟨w.heap.size, 0, none⟩) (lx + ly) cap') (w.drew.alloc (.cells (olds ++ news ++ rest).toArray e))) := by
  subst hes
  by_cases h0 : ly = 0
  · left
    refine ⟨h0, ?_⟩
    subst h0
    have hf : (Builtin.firstCells i.size 0 (.slice ay 0 cy)).run P w = .ok #[] w := by
      cases ay <;> simp [Builtin.firstCells, loadCells, loadCellsFrom]
    cases ax <;> simp [Builtin.append_, run_underlying ht, sizeOf, typeInfo, hi, Builtin.lenOf, hcx, hf, storeCells]
  · right
    have hly : 0 < ly := Nat.pos_of_ne_zero h0
    have hnne : news ≠ [] := by
      intro e; rw [e] at hn
      have : 0 < ly * i.size := Nat.mul_pos hly hpos
      simp at hn; omega
    obtain ⟨by_, offy, rfl, hy⟩ := hny.resolve_left hnne
    have hy' : ∀ j v, news[j]? = some v → w.cell? ((⟨by_, offy, none⟩ : Addr).add j) = some v := fun j v hv => by rw [Addr.add_lit]; exact hy j v hv
    by_cases hroom : lx + ly ≤ cx
    · left
      obtain ⟨g0, b, c, ty', rfl, g2, g3⟩ := hown (by omega)
      refine ⟨hly, hroom, g0, b, c, ty', rfl, g2, g3, ?_⟩
      have hfit : lx * i.size + news.length ≤ c.size := by rw [hn, g3, ← Nat.add_mul]; exact Nat.mul_le_mul_right _ hroom
      have hf := run_firstCells_some (P := P) w i.size ly ⟨by_, offy, none⟩ ly cy news hn hy'
      have hst := run_storeCells_at P b (lx * i.size) ty' news 0 c w g2 (by simpa using hfit) h1
      simp only [Nat.add_zero] at hst
      simp [Builtin.append_, run_underlying ht, sizeOf, typeInfo, hi, Builtin.lenOf, hroom, hf, Addr.add_lit, hst]
    · right
      have hgrow : cx < lx + ly := by omega
      have hb : (lx + ly) * i.bytes ≤ 140737488355328 := by
        have h2 : lx + ly ≤ 1099511627776 := by omega
        exact Nat.le_trans (Nat.mul_le_mul h2 hby) (by decide)
      refine ⟨hly, hgrow, grownCap w (lx + ly) cx e, (Builtin.zeroCells z.cells (grownCap w (lx + ly) cx e - (lx + ly))).toList, grownCap_ge w _ _ _, ?_, ?_⟩
      · rw [Array.length_toList, size_zeroCells, hzs]
      · by_cases hlx : lx = 0
        · subst hlx
          have hcx0 : cx = 0 := by
            apply Nat.eq_zero_of_not_pos; intro hp; have := (hown hp).1; omega
          subst hcx0
          have holds : olds = [] := by simpa using ho
          subst holds
          cases ax with
          | none =>
            have := run_append_nil (P := P) w t ty e i z ht hi hz ⟨by_, offy, none⟩ ly cy news hn hy' hly (by omega) (Nat.le_trans (by simpa using hb) (by decide))
            simp only [Nat.zero_add] at this ⊢
            rw [this]
            congr 2
            simp
          | some ad =>
            have := run_append_grow (P := P) w t ty e i z ht hi hz ad 0 0 [] (by simp) (by simp) ⟨by_, offy, none⟩ ly cy news hn hy' (by omega) (by omega) (growslice_fits (by omega) hb)
            rw [this]
            congr 3
            simp
        · have hone : olds ≠ [] := by
            intro e; rw [e] at ho
            have : 0 < lx * i.size := Nat.mul_pos (by omega) hpos
            simp at ho; omega
          obtain ⟨bx, offx, rfl, hx⟩ := hox.resolve_left hone
          have := run_append_grow (P := P) w t ty e i z ht hi hz ⟨bx, offx, none⟩ lx cx olds ho (fun j v hv => by rw [Addr.add_lit]; exact hx j v hv) ⟨by_, offy, none⟩ ly cy news hn hy' hgrow (by omega) (growslice_fits hgrow hb)
          rw [this]
          congr 3
          simp

/-- In place: the block keeps its first cells. -/
theorem inPlace {k d : Nat} (R : Rel C n γ s a w) {b : Nat} {c : Array Value} {ty' : TypeId} (hb : w.heap[b]? = some (.cells c ty' (0, 0))) (how : γ.ow b = some k) {N N' : Nat} {news : List Value} (hlim : γ.lim b = N)
    (hN : N' = N + news.length) (hfit : N + news.length ≤ c.size) {kt : Nat → Bool} (hkk : kt k = true) (hkd : kt d = true) (v : Value) :
    let γ' : Gh := { lim := fun x => if x = b then N' else γ.lim x, loc := γ.loc, ow := fun x => if x = b then some d else γ.ow x, vid := fun j => if some j = some d then v else γ.vid j, H := fun e => if e = s.now then w.heap.size else γ.H e }
    let w' := w.setRow b (c.toList.take N ++ news ++ c.toList.drop (N + news.length)).toArray
    Step γ s.now w γ' (s.now + 1) w' kt is0 ∧ Rel C n γ' ⟨fun j => (s.t j).cl kt is0, fun j => (s.h j).cl kt is0, clL kt is0 s.fh, s.now + 1⟩ a w' := by
  intro γ' w'
  have hbl : b < w.heap.size := (Array.getElem?_eq_some_iff.1 hb).1
  have hother : ∀ x, x ≠ b → w'.heap[x]? = w.heap[x]? := fun x hx => setRow_other w b x _ hx
  have hself : w'.heap[b]? = some (.cells (c.toList.take N ++ news ++ c.toList.drop (N + news.length)).toArray ty' (0, 0)) := setRow_heap w b c _ ty' _ hb
  have hsz : w'.heap.size = w.heap.size := by simp [w']
  have S : Step γ s.now w γ' (s.now + 1) w' kt is0 :=
    { lim := fun x => by
        show γ.lim x ≤ if x = b then N' else γ.lim x
        split
        · rename_i e; rw [e, hlim]; omega
        · exact Nat.le_refl _
      cell := fun x off hlt v hv => by
        by_cases e : x = b
        · subst e
          rw [hlim] at hlt
          rw [cell_of_row w' x off _ ty' _ hself]
          rw [cell_of_row w x off _ ty' _ hb] at hv
          have hlen : off < (c.toList.take N).length := by simp; omega
          simp only [List.getElem?_toArray, List.append_assoc]
          rw [List.getElem?_append_left hlen, List.getElem?_take, if_pos hlt]
          simpa using hv
        · rw [cell_block (hother x e)]; exact hv
      size := by rw [hsz]; exact Nat.le_refl _
      two := R.two
      le := by omega
      Hlt := fun e he => if_neg (by omega)
      Hge := fun e h1 h2 => by
        have : e = s.now := by omega
        show _ ≤ if e = s.now then _ else _
        rw [if_pos this]; exact Nat.le_refl _
      loc := fun _ _ => rfl
      ow := fun x j hx hj => by
        have e : x ≠ b := fun e => by rw [e, how] at hx; cases hx; rw [hkk] at hj; cases hj
        exact ⟨by show (if x = b then some d else γ.ow x) = _; rw [if_neg e]; exact hx, hother x e, if_neg e⟩
      vid := fun j hj => if_neg fun e => by cases e; rw [hkd] at hj; cases hj }
  refine ⟨S, R.grow S (fun i _ => ⟨rfl, rfl⟩) (fun x hx ho => ?_) (fun x h1 h2 => ?_) (fun x j hx => ?_) (fun x hx => ?_) rfl rfl rfl (fun e h1 h2 => if_pos (by omega))⟩
  · have e : x ≠ b := fun e => by rw [e, how] at ho; cases ho
    exact ⟨hother x e, if_neg e, by show (if x = b then some d else γ.ow x) = none; rw [if_neg e]; exact ho⟩
  · by_cases e : x = b
    · subst e; exact ⟨_, _, hself⟩
    · rw [hsz] at h2; exact (R.plain x h1 h2).of (hother x e)
  · have hx : (if x = b then some d else γ.ow x) = some j := hx
    rw [hsz]
    split at hx
    · rename_i e; rw [e]; exact R.ow b k how
    · exact R.ow x j hx
  · rw [hsz] at hx
    show (if x = b then N' else γ.lim x) = 0
    rw [if_neg (by omega)]; exact R.limz x hx

theorem els_row {lim : Nat → Nat} {w : World} {ts : List T} {ax : Option Addr} {fp : List Nat} (h : Els lim w ts ax fp) :
    ∃ cs f, Row lim w ts cs f ∧ (cs = [] ∨ ∃ b off, ax = some ⟨b, off, none⟩ ∧ ∀ (j : Nat) v, cs[j]? = some v → w.cell? ⟨b, off + j, none⟩ = some v) ∧
      ((ts = [] ∧ fp = [] ∧ f = []) ∨ ∃ b off, ts ≠ [] ∧ ax = some ⟨b, off, none⟩ ∧ fp = b :: f ∧ Arr lim w ts b off f) := by
  rcases h with ⟨rfl, rfl⟩ | ⟨b, off, fp', hne, rfl, rfl, harr⟩
  · exact ⟨[], [], .nil, .inl rfl, .inl ⟨rfl, rfl, rfl⟩⟩
  · obtain ⟨cs, h1, h2⟩ := harr.row
    exact ⟨cs, fp', h1, .inr ⟨b, off, rfl, h2⟩, .inr ⟨b, off, hne, rfl, rfl, harr⟩⟩

theorem below_ok {now es : Nat} {x : Option Addr} {len cap : Nat} {fp : List Nat} {g : Tag} (h3 : 3 ≤ now) (hlt : ∀ b ∈ fp, b < w.heap.size) (h : TagOk C γ now w es x len cap fp g) : ElOk C γ now w (g.below now).1 (g.below now).2 fp.tail := by
  cases g with
  | any => exact ⟨fun b hb => InM.full h3 (hlt b (List.mem_of_mem_tail hb)), nofun⟩
  | iv r m nd o => exact h.1.el
  | el m nd o => exact h.1
  | arg i => exact ⟨fun b hb => h.2 b (List.mem_of_mem_tail hb), nofun⟩
theorem onto_ok {now es : Nat} {x : Option Addr} {len cap : Nat} {fp : List Nat} {g : Tag} {r m : Nat} {nd : Bool} {o : Own} (h3 : 3 ≤ now) (hlt : ∀ b ∈ fp, b < w.heap.size) (hg : g.onto now = some (r, m, nd, o)) (h : TagOk C γ now w es x len cap fp g) :
    RtOk C γ now w r m nd fp ∧ OwnOk γ w es x len cap o := by
  cases g <;> simp only [Tag.onto] at hg <;> first | (cases hg; done) | skip
  · cases hg; exact h
  · cases hg; exact ⟨⟨fun b hb => InM.full h3 (hlt b (List.mem_of_mem_head? hb)), h.1.1, nofun⟩, h.2⟩
theorem strk_ok {o : Own} {d : Nat} {kt : Nat → Bool} (h : strk o d = some kt) : (o = .full ∨ ∃ k, (o = .tok k ∨ o = .id k) ∧ kt k = true) ∧ kt d = true := by
  cases o <;> simp only [strk] at h <;> cases h
  · exact ⟨.inl rfl, by simp [is1]⟩
  · exact ⟨.inr ⟨_, .inl rfl, by simp [is2]⟩, by simp only [is2]; split <;> simp⟩
  · exact ⟨.inr ⟨_, .inr rfl, by simp [is2]⟩, by simp only [is2]; split <;> simp⟩
theorem append_slc (hT : TyOk P TY) (R : Rel C n γ s a w) {c : Call} {t : Nat} {x y : Operand} {d : Nat} (ho : o.op = .call c) (hc : c.callee = .builtin .append) (hat : c.argTypes = #[t, t]) (hargs : c.args = #[x, y])
    {ts0 : List T} {g0 : Tag} (hk : (TY t).k = .sc (.slc ts0 g0)) {xs ys : List T} {r m : Nat} {nd : Bool} {ow : Own} {g g' : Tag} (hx : s.get x = .slc xs g) (hg : g.onto s.now = some (r, m, nd, ow)) (hy : s.get y = .slc ys g')
    (hsum : (xs.length : Int) + ys.length ≤ 1099511627776) {kt : Nat → Bool} (how : ow = .full ∨ ∃ k, (ow = .tok k ∨ ow = .id k) ∧ kt k = true) (hkd : kt d = true)
    (hK : K (.slc (xs ++ ys) (joinT r m nd g' s.now d)) ⟨fun j => (s.t j).cl kt is0, fun j => (s.h j).cl kt is0, clL kt is0 s.fh, s.now + 1⟩) : OpOk P C n a w o K := by
  obtain ⟨t1, i, t2, t3, t4, zs, t5, t6⟩ := ty_slc hT hk
  have hx3 := R.get x
  have hy3 := R.get y
  rw [hx] at hx3
  rw [hy] at hy3
  obtain ⟨ax, cx, fpx, hvx, hcx, hex, htx0⟩ := hx3
  obtain ⟨htx, hox⟩ := onto_ok R.two hex.lt hg htx0
  obtain ⟨ay, cy, fpy, hvy, hcy, hey, hty⟩ := hy3
  obtain ⟨olds, fx, rx, rx2, rx3⟩ := els_row hex
  obtain ⟨news, fy, ry, ry2, ry3⟩ := els_row hey
  have hown : xs.length < cx → 0 < xs.length ∧ ∃ b c ty, ax = some ⟨b, 0, none⟩ ∧ w.heap[b]? = some (.cells c ty (0, 0)) ∧ c.size = cx * 3 ∧ ∃ k, kt k = true ∧ γ.ow b = some k ∧ γ.lim b = xs.length * 3 := by
    intro hlt
    rcases how with rfl | ⟨k, rfl | rfl, hkk⟩
    · have : cx = xs.length := hox
      omega
    · obtain ⟨e0, b, c, ty, e1, e2, e3, e4, e5⟩ := hox hlt
      exact ⟨e0, b, c, ty, e1, e3, e4, k, hkk, e2, e5⟩
    · obtain ⟨e0, b, c, ty, e1, e2, e3, e4, e5⟩ := hox.2 hlt
      exact ⟨e0, b, c, ty, e1, e3, e4, k, hkk, e2, e5⟩
  have hrun := append_run (P := P) (w := w) (ty := o.type) (cy := cy) t1 t2 t3 t4 t5 (by simpa [Value.cells] using t6) rx.length ry.length (by omega) rx2 ry2 ry.one hcx hsum
    (fun h => let ⟨e0, b, c, ty, e1, e2, e3, _⟩ := hown h; ⟨e0, b, c, ty, e1, e2, e3⟩)
  have hexec : ∀ {v : Value} {w' : World}, (Builtin.append_ #[t, t] o.type #[.slice ax xs.length cx, .slice ay ys.length cy]).run P w = .ok v w' → (execOp a.eval o).run P w = .ok (.value v) w' := by
    intro v w' h
    simp [execOp, ho, resolve, hc, hat, hargs, invoke, builtin, hvx, hvy, h]
  have Hmono := R.Hmono
  have hely := below_ok R.two hey.lt hty
  have hfy : fpy.tail = fy := by rcases ry3 with ⟨_, rfl, rfl⟩ | ⟨b, off, _, _, rfl, _⟩ <;> rfl
  rw [hfy] at hely
  have hfx : fpx.tail = fx := by rcases rx3 with ⟨_, rfl, rfl⟩ | ⟨b, off, _, _, rfl, _⟩ <;> rfl
  have hj : joinT r m nd g' s.now d = .iv (Nat.lor r (bit s.now)) (Nat.lor m (g'.below s.now).1) (and3 nd (g'.below s.now).2 (noBits (Nat.lor r m) (g'.below s.now).1)) (.id d) := rfl
  have h2 := R.two
  -- the joined blocks below
  have below : ∀ {γ' : Gh} {w' : World} {kt : Nat → Bool}, Step γ s.now w γ' (s.now + 1) w' kt is0 → ∀ b ∈ fx ++ fy, InM C γ' (s.now + 1) w' (Nat.lor m (g'.below s.now).1) b := by
    intro γ' w' kt S b hb
    refine InM.step S (InM.or.2 ?_)
    rcases List.mem_append.1 hb with hb | hb
    · exact .inl (htx.2.1 b (by rw [hfx]; exact hb))
    · exact .inr (hely.1 b hb)
  rcases hrun with ⟨hy0, hr⟩ | ⟨hy0, hroom, hx0, b, cc, ty', rfl, hb, hcc, hr⟩ | ⟨hy0, hgrow, cap', rest, hcap', hrest, hr⟩
  · -- nothing appended
    have hys : ys = [] := List.eq_nil_of_length_eq_zero hy0
    subst hys
    have rt : ∀ {γ' : Gh} {w' : World} {kt : Nat → Bool}, Step γ s.now w γ' (s.now + 1) w' kt is0 → RtOk C γ' (s.now + 1) w' (Nat.lor r (bit s.now)) (Nat.lor m (g'.below s.now).1) (and3 nd (g'.below s.now).2 (noBits (Nat.lor r m) (g'.below s.now).1)) fpx := by
      intro γ' w' kt S
      exact ⟨fun b hb => InM.or.2 (.inl ((htx.1 b hb).step S)), fun b hb => InM.or.2 (.inl ((htx.2.1 b hb).step S)), fun hn => htx.2.2 (and3_eq.1 hn).1⟩
    by_cases hlt : xs.length < cx
    · obtain ⟨e0, b, cc, ty', rfl, e2, e3, k, hkk, e4, e5⟩ := hown hlt
      have hcs : (cc.toList.take (xs.length * 3) ++ [] ++ cc.toList.drop (xs.length * 3 + ([] : List Value).length)).toArray = cc := by simp
      obtain ⟨S, R'⟩ := inPlace (d := d) R e2 e4 (N := xs.length * 3) (N' := xs.length * 3) (news := []) e5 (by simp) (by simp [e3]; omega) hkk hkd (.slice (some ⟨b, 0, none⟩) xs.length cx)
      simp only [hcs, setRow_self w b cc ty' (0, 0) e2] at S R'
      refine ⟨_, _, w, _, _, _, hexec hr, .inl rfl, hK, R', some ⟨b, 0, none⟩, cx, fpx, by simp, by simpa using hcx, by simpa using Els.step S.lim S.cell hex, ?_⟩
      rw [hj]
      refine ⟨rt S, by simp, fun _ => ?_⟩
      exact ⟨by simpa using e0, b, cc, ty', rfl, if_pos rfl, e2, by simpa using e3, by simp⟩
    · have S : Step γ s.now w { γ with vid := fun j => if some j = some d then .slice ax xs.length cx else γ.vid j, H := fun e => if e = s.now then w.heap.size else γ.H e } (s.now + 1) w kt is0 :=
        { lim := fun _ => Nat.le_refl _, cell := fun _ _ _ _ h => h, size := Nat.le_refl _, two := h2, le := by omega, Hlt := fun e he => if_neg (by omega),
          Hge := fun e h1 h2 => by have : e = s.now := by omega
                                   show _ ≤ if e = s.now then _ else _; rw [if_pos this]; exact Nat.le_refl _
          loc := fun _ _ => rfl, ow := fun b k hb _ => ⟨hb, rfl, rfl⟩, vid := fun j hj => if_neg fun e => by cases e; rw [hkd] at hj; cases hj }
      have R' := R.grow S (h' := fun j => (s.h j).cl kt is0) (fun i _ => ⟨rfl, rfl⟩) (fun b hb ho => ⟨rfl, rfl, ho⟩) R.plain R.ow R.limz rfl rfl rfl (fun e h1 h2 => if_pos (by omega))
      refine ⟨_, _, w, _, _, _, hexec hr, .inl rfl, hK, R', ax, cx, fpx, by simp, by simpa using hcx, by simpa using hex, ?_⟩
      rw [hj]
      exact ⟨rt S, by simp, fun h => by simp at h; omega⟩
  · -- room
    obtain ⟨e0, b', cc', ty'', e1, e2, e3, k, hkk, e4, e5⟩ := hown (by omega)
    cases e1
    rw [hb] at e2
    cases e2
    have hnl := ry.length
    obtain ⟨S, R'⟩ := inPlace (d := d) R hb e4 (N := xs.length * 3) (N' := (xs ++ ys).length * 3) (news := news) e5 (by simp; omega) (by rw [hnl, hcc]; omega) hkk hkd (.slice (some ⟨b, 0, none⟩) (xs ++ ys).length cx)
    have hbl : b < w.heap.size := (Array.getElem?_eq_some_iff.1 hb).1
    have hself : (w.setRow b (cc.toList.take (xs.length * 3) ++ news ++ cc.toList.drop (xs.length * 3 + news.length)).toArray).heap[b]? = some (.cells _ ty' (0, 0)) := setRow_heap w b cc _ ty' _ hb
    have hxne : xs ≠ [] := by intro e; rw [e] at hx0; simp at hx0
    obtain ⟨bx, offx, hax, rfl, harr⟩ : ∃ b1 off, (some ⟨b, 0, none⟩ : Option Addr) = some ⟨b1, off, none⟩ ∧ fpx = b1 :: fx ∧ Arr γ.lim w xs b1 off fx := by
      rcases rx3 with ⟨e, _⟩ | ⟨b, off, _, e, f, g⟩
      · exact absurd e hxne
      · exact ⟨b, off, e, f, g⟩
    cases hax
    have hne : xs ++ ys ≠ [] := by simp [hxne]
    have hrow := (rx.step S.lim S.cell).append (ry.step S.lim S.cell)
    have hrl := hrow.length
    have hcells : ∀ (j : Nat) v, (olds ++ news)[j]? = some v → (w.setRow b (cc.toList.take (xs.length * 3) ++ news ++ cc.toList.drop (xs.length * 3 + news.length)).toArray).cell? ⟨b, 0 + j, none⟩ = some v := by
      intro j v hv
      have hol := rx.length
      have htl : (cc.toList.take (xs.length * 3)).length = xs.length * 3 := by simp [hcc]; omega
      rw [cell_of_row _ b (0 + j) _ ty' _ hself, Nat.zero_add]
      simp only [List.getElem?_toArray, List.append_assoc]
      by_cases hj : j < xs.length * 3
      · rw [List.getElem?_append_left (by omega)] at hv
        rw [List.getElem?_append_left (by omega), List.getElem?_take, if_pos hj]
        obtain ⟨b1, off1, e, hc1⟩ := rx2.resolve_left (fun e => by rw [e] at hol; simp at hol; omega)
        cases e
        have := hc1 j v hv
        rw [cell_of_row w b (0 + j) _ ty' _ hb, Nat.zero_add] at this
        simpa using this
      · rw [List.getElem?_append_right (by omega)] at hv
        rw [List.getElem?_append_right (by omega), htl, List.getElem?_append_left (by
          have := (List.getElem?_eq_some_iff.1 hv).1; omega)]
        rw [← hv]; congr 1; omega
    have harr' := hrow.arr b 0 (by show _ ≤ if b = b then _ else _; rw [if_pos rfl]; omega) hcells
    have hels : Els _ _ (xs ++ ys) (some ⟨b, 0, none⟩) (b :: (fx ++ fy)) := .inr ⟨b, 0, _, hne, rfl, rfl, harr'⟩
    refine ⟨_, _, _, _, _, _, hexec hr, .inl rfl, hK, R', some ⟨b, 0, none⟩, cx, b :: (fx ++ fy), by simp, by simpa using hroom, hels, ?_⟩
    rw [hj]
    refine ⟨⟨fun x hx => ?_, fun x hx => below S x hx, fun hn => ?_⟩, by simp, fun _ => ?_⟩
    · simp at hx; subst hx
      exact InM.or.2 (.inl ((htx.1 b (by simp)).step S))
    · obtain ⟨n1, n2, n3⟩ := and3_eq.1 hn
      have hd := htx.2.2 n1
      have hall := htx.all.1
      obtain ⟨d1, d2⟩ := List.nodup_cons.1 hd
      have dis : ∀ x, x ∈ b :: fx → x ∉ fy := fun x hx hx' => InM.disj Hmono n3 (hall x hx) (hely.1 x hx')
      exact List.nodup_cons.2 ⟨fun hm => (List.mem_append.1 hm).elim d1 (dis b (by simp)), List.nodup_append.2 ⟨d2, hely.2 n2, fun x hx y hy e => by subst e; exact dis x (by simp [hx]) hy⟩⟩
    · refine ⟨by simp; omega, b, _, ty', rfl, if_pos rfl, hself, ?_, if_pos rfl⟩
      simp [hcc]; omega
  · -- a new block
    have g := Grew.allocDrew w (olds ++ news ++ rest) (TY t).elem
    have hkt : ∀ k, some d = some k → kt k = true := fun k e => by cases e; exact hkd
    have S := g.step R ((xs ++ ys).length * 3) (some d) (.slice (some ⟨w.heap.size, 0, none⟩) (xs ++ ys).length cap') kt hkt (.inr rfl)
    have R' := g.rel R ((xs ++ ys).length * 3) (some d) (.slice (some ⟨w.heap.size, 0, none⟩) (xs ++ ys).length cap') kt hkt (.inr rfl)
    have hyne : ys ≠ [] := by intro e; rw [e] at hy0; simp at hy0
    have hne : xs ++ ys ≠ [] := by simp [hyne]
    have hrow := (rx.step S.lim S.cell).append (ry.step S.lim S.cell)
    have hrl := hrow.length
    have harr' := hrow.arr w.heap.size 0 (by show _ ≤ if w.heap.size = w.heap.size then _ else _; rw [if_pos rfl]; omega) fun j v hv => by
      rw [Nat.zero_add, g.cell j, List.getElem?_append_left ((List.getElem?_eq_some_iff.1 hv).1)]; exact hv
    have hels : Els _ _ (xs ++ ys) (some ⟨w.heap.size, 0, none⟩) (w.heap.size :: (fx ++ fy)) := .inr ⟨_, 0, _, hne, rfl, rfl, harr'⟩
    refine ⟨_, _, _, _, _, _, hexec hr, .inl rfl, hK, R', some ⟨w.heap.size, 0, none⟩, cap', w.heap.size :: (fx ++ fy), by simp, by simpa using hcap', hels, ?_⟩
    rw [hj]
    refine ⟨⟨fun x hx => ?_, fun x hx => below S x hx, fun hn => ?_⟩, by simp [Gh.name], fun _ => ?_⟩
    · simp at hx; subst hx
      exact InM.or.2 (.inr (g.cls R _ _ _))
    · obtain ⟨n1, n2, n3⟩ := and3_eq.1 hn
      have hd := htx.el.2 n1
      rw [hfx] at hd
      have hall := htx.all.1
      have dis : ∀ x, x ∈ fx → x ∉ fy := fun x hx hx' => InM.disj Hmono n3 (hall x (List.mem_of_mem_tail (by rw [hfx]; exact hx))) (hely.1 x hx')
      exact List.nodup_cons.2 ⟨fun hm => (List.mem_append.1 hm).elim (fun h => Nat.lt_irrefl _ (rx.lt _ h)) (fun h => Nat.lt_irrefl _ (ry.lt _ h)),
        List.nodup_append.2 ⟨hd, hely.2 n2, fun x hx y hy e => by subst e; exact dis x hx hy⟩⟩
    · obtain ⟨ty', h'⟩ := g.at_
      refine ⟨by simp; omega, w.heap.size, _, ty', rfl, if_pos rfl, h', ?_, if_pos rfl⟩
      have h3 := rx.length
      have h4 := ry.length
      have h5 : (cap' - (xs.length + ys.length)) * 3 + (xs.length + ys.length) * 3 = cap' * 3 := by rw [← Nat.add_mul]; congr 1; omega
      simp [h3, h4, hrest]; omega

theorem inI_cells {lim : Nat → Nat} {w : World} {k : IntKind} {ns : List Int} {ax : Option Addr} {fp : List Nat} (h : InI lim w k ns ax fp) :
    (ns.map (Value.int k) = [] ∨ ∃ b off, ax = some ⟨b, off, none⟩ ∧ ∀ (j : Nat) v, (ns.map (Value.int k))[j]? = some v → w.cell? ⟨b, off + j, none⟩ = some v) := by
  rcases h with ⟨rfl, _⟩ | ⟨b, off, _, rfl, _, h⟩
  · exact .inl rfl
  · refine .inr ⟨b, off, rfl, fun j v hv => ?_⟩
    rw [List.getElem?_map] at hv
    cases hj : ns[j]? with
    | none => simp [hj] at hv
    | some q =>
      have hlt := (List.getElem?_eq_some_iff.1 hj).1
      rw [(h j hlt).1]
      simp [hj] at hv
      simp [List.getD_eq_getElem?_getD, hj, hv]
theorem append_ints (hT : TyOk P TY) (R : Rel C n γ s a w) {c : Call} {t : Nat} {x y : Operand} {d : Nat} (ho : o.op = .call c) (hc : c.callee = .builtin .append) (hat : c.argTypes = #[t, t]) (hargs : c.args = #[x, y])
    {k0 kk : IntKind} {ns0 : List Int} {g0 : Tag} (hk : (TY t).k = .sc (.ints k0 ns0 g0)) {xs ys : List Int} {r m : Nat} {nd : Bool} {ow : Own} {g g' : Tag} (hx : s.get x = .ints kk xs g) (hg : g.onto s.now = some (r, m, nd, ow)) (hy : s.get y = .ints kk ys g')
    (hsum : (xs.length : Int) + ys.length ≤ 1099511627776) {kt : Nat → Bool} (how : ow = .full ∨ ∃ k, (ow = .tok k ∨ ow = .id k) ∧ kt k = true) (hkd : kt d = true)
    (hK : K (.ints kk (xs ++ ys) (.iv (Nat.lor r (bit s.now)) 0 true (.id d))) ⟨fun j => (s.t j).cl kt is0, fun j => (s.h j).cl kt is0, clL kt is0 s.fh, s.now + 1⟩) : OpOk P C n a w o K := by
  obtain ⟨t1, t0, i, t2, t3, t4, z, t5, t6⟩ := ty_ints hT hk
  have hx3 := R.get x
  have hy3 := R.get y
  rw [hx] at hx3
  rw [hy] at hy3
  obtain ⟨ax, cx, fpx, hvx, hcx, hex, htx0⟩ := hx3
  obtain ⟨htx, hox⟩ := onto_ok R.two hex.lt hg htx0
  obtain ⟨ay, cy, fpy, hvy, hcy, hey, hty⟩ := hy3
  have rx2 := inI_cells hex
  have ry2 := inI_cells hey
  have hown : xs.length < cx → 0 < xs.length ∧ ∃ b c ty, ax = some ⟨b, 0, none⟩ ∧ w.heap[b]? = some (.cells c ty (0, 0)) ∧ c.size = cx * 1 ∧ ∃ k, kt k = true ∧ γ.ow b = some k ∧ γ.lim b = xs.length * 1 := by
    intro hlt
    rcases how with rfl | ⟨k, rfl | rfl, hkk⟩
    · have : cx = xs.length := hox
      omega
    · obtain ⟨e0, b, c, ty, e1, e2, e3, e4, e5⟩ := hox hlt
      exact ⟨e0, b, c, ty, e1, e3, e4, k, hkk, e2, e5⟩
    · obtain ⟨e0, b, c, ty, e1, e2, e3, e4, e5⟩ := hox.2 hlt
      exact ⟨e0, b, c, ty, e1, e3, e4, k, hkk, e2, e5⟩
  have hrun := append_run (P := P) (w := w) (ty := o.type) (cy := cy) (lx := xs.length) (ly := ys.length) (ay := ay) t1 t2 t3 t4 t5 t6 (by simp) (by simp) (by omega) rx2 ry2 (by intro u hu; obtain ⟨q, _, rfl⟩ := List.mem_map.1 hu; rfl) hcx hsum
    (fun h => let ⟨e0, b, c, ty, e1, e2, e3, _⟩ := hown h; ⟨e0, b, c, ty, e1, e2, e3⟩)
  have hexec : ∀ {v : Value} {w' : World}, (Builtin.append_ #[t, t] o.type #[.slice ax xs.length cx, .slice ay ys.length cy]).run P w = .ok v w' → (execOp a.eval o).run P w = .ok (.value v) w' := by
    intro v w' h
    simp [execOp, ho, resolve, hc, hat, hargs, invoke, builtin, hvx, hvy, h]
  have h2 := R.two
  -- the tag of what lies in x's block
  have rtx : ∀ {γ' : Gh} {w' : World} {kt : Nat → Bool}, Step γ s.now w γ' (s.now + 1) w' kt is0 → (∀ b ∈ fpx.tail, False) → RtOk C γ' (s.now + 1) w' (Nat.lor r (bit s.now)) 0 true fpx := by
    intro γ' w' kt S ht
    refine ⟨fun b hb => InM.or.2 (.inl ((htx.1 b hb).step S)), fun b hb => (ht b hb).elim, fun _ => ?_⟩
    match fpx, ht with
    | [], _ => exact List.nodup_nil
    | [b], _ => simp
    | b :: c :: r, ht => exact (ht c (by simp)).elim
  have hfx : ∀ b ∈ fpx.tail, False := by
    rcases hex with ⟨_, rfl⟩ | ⟨b, off, _, _, rfl, _⟩ <;> simp
  rcases hrun with ⟨hy0, hr⟩ | ⟨hy0, hroom, hx0, b, cc, ty', rfl, hb, hcc, hr⟩ | ⟨hy0, hgrow, cap', rest, hcap', hrest, hr⟩
  · have hys : ys = [] := List.eq_nil_of_length_eq_zero hy0
    subst hys
    by_cases hlt : xs.length < cx
    · obtain ⟨e0, b, cc, ty', rfl, e2, e3, k, hkk, e4, e5⟩ := hown hlt
      have hcs : (cc.toList.take (xs.length * 1) ++ [] ++ cc.toList.drop (xs.length * 1 + ([] : List Value).length)).toArray = cc := by simp
      obtain ⟨S, R'⟩ := inPlace (d := d) R e2 e4 (N := xs.length * 1) (N' := xs.length * 1) (news := []) e5 (by simp) (by simp [e3]; omega) hkk hkd (.slice (some ⟨b, 0, none⟩) xs.length cx)
      simp only [hcs, setRow_self w b cc ty' (0, 0) e2] at S R'
      refine ⟨_, _, w, _, _, _, hexec hr, .inl rfl, hK, R', some ⟨b, 0, none⟩, cx, fpx, by simp, by simpa using hcx, by simpa using InI.step S.lim S.cell hex, rtx S hfx, by simp, fun _ => ?_⟩
      exact ⟨by simpa using e0, b, cc, ty', rfl, if_pos rfl, e2, by simpa using e3, by simp⟩
    · have S : Step γ s.now w { γ with vid := fun j => if some j = some d then .slice ax xs.length cx else γ.vid j, H := fun e => if e = s.now then w.heap.size else γ.H e } (s.now + 1) w kt is0 :=
        { lim := fun _ => Nat.le_refl _, cell := fun _ _ _ _ h => h, size := Nat.le_refl _, two := h2, le := by omega, Hlt := fun e he => if_neg (by omega),
          Hge := fun e h1 h2 => by have : e = s.now := by omega
                                   show _ ≤ if e = s.now then _ else _; rw [if_pos this]; exact Nat.le_refl _
          loc := fun _ _ => rfl, ow := fun b k hb _ => ⟨hb, rfl, rfl⟩, vid := fun j hj => if_neg fun e => by cases e; rw [hkd] at hj; cases hj }
      have R' := R.grow S (h' := fun j => (s.h j).cl kt is0) (fun i _ => ⟨rfl, rfl⟩) (fun b hb ho => ⟨rfl, rfl, ho⟩) R.plain R.ow R.limz rfl rfl rfl (fun e h1 h2 => if_pos (by omega))
      exact ⟨_, _, w, _, _, _, hexec hr, .inl rfl, hK, R', ax, cx, fpx, by simp, by simpa using hcx, by simpa using hex, rtx S hfx, by simp, fun h => by simp at h; omega⟩
  · obtain ⟨e0, b', cc', ty'', e1, e2, e3, k, hkk, e4, e5⟩ := hown (by omega)
    cases e1
    rw [hb] at e2
    cases e2
    obtain ⟨S, R'⟩ := inPlace (d := d) R hb e4 (N := xs.length * 1) (N' := (xs ++ ys).length * 1) (news := ys.map (Value.int kk)) e5 (by simp) (by simp [hcc]; omega) hkk hkd (.slice (some ⟨b, 0, none⟩) (xs ++ ys).length cx)
    have hself : (w.setRow b (cc.toList.take (xs.length * 1) ++ ys.map (Value.int kk) ++ cc.toList.drop (xs.length * 1 + (ys.map (Value.int kk)).length)).toArray).heap[b]? = some (.cells _ ty' (0, 0)) := setRow_heap w b cc _ ty' _ hb
    have hxne : xs ≠ [] := by intro e; rw [e] at hx0; simp at hx0
    have hfp : fpx = [b] := by
      rcases hex with ⟨e, _⟩ | ⟨b1, off, _, e, rfl, _⟩
      · exact absurd e hxne
      · cases e; rfl
    refine ⟨_, _, _, _, _, _, hexec hr, .inl rfl, hK, R', some ⟨b, 0, none⟩, cx, [b], by simp, by simpa using hroom, .inr ⟨b, 0, by simp [hxne], rfl, rfl, fun j hj => ⟨?_, ?_⟩⟩, hfp ▸ rtx S hfx, by simp, fun _ => ?_⟩
    · have htl : (cc.toList.take (xs.length * 1)).length = xs.length := by simp [hcc]; omega
      rw [cell_of_row _ b (0 + j) _ ty' _ hself, Nat.zero_add]
      simp only [List.getElem?_toArray, List.append_assoc]
      by_cases hjx : j < xs.length
      · rw [List.getElem?_append_left (by omega), List.getElem?_take, if_pos (by omega)]
        obtain ⟨b1, off1, _, e, _, hc1⟩ := hex.resolve_left (fun e => hxne e.1)
        cases e
        have := (hc1 j hjx).1
        rw [cell_of_row w b (0 + j) _ ty' _ hb, Nat.zero_add] at this
        simp [List.getD_eq_getElem?_getD, List.getElem?_append_left hjx] at this ⊢
        exact this
      · have hj' : j - xs.length < ys.length := by simp at hj; omega
        rw [List.getElem?_append_right (by omega), htl, List.getElem?_append_left (by simpa using hj')]
        simp [List.getD_eq_getElem?_getD, List.getElem?_append_right (Nat.le_of_not_lt hjx), hj']
    · show _ < if b = b then _ else _
      rw [if_pos rfl]; simp at hj ⊢; omega
    · refine ⟨by simp; omega, b, _, ty', rfl, if_pos rfl, hself, ?_, if_pos rfl⟩
      simp [hcc]; omega
  · have g := Grew.allocDrew w (xs.map (Value.int kk) ++ ys.map (Value.int kk) ++ rest) (TY t).elem
    have hkt : ∀ k, some d = some k → kt k = true := fun k e => by cases e; exact hkd
    have R' := g.rel R ((xs ++ ys).length * 1) (some d) (.slice (some ⟨w.heap.size, 0, none⟩) (xs ++ ys).length cap') kt hkt (.inr rfl)
    have hyne : ys ≠ [] := by intro e; rw [e] at hy0; simp at hy0
    refine ⟨_, _, _, _, _, _, hexec hr, .inl rfl, hK, R', some ⟨w.heap.size, 0, none⟩, cap', [w.heap.size], by simp, by simpa using hcap', .inr ⟨_, 0, by simp [hyne], rfl, rfl, fun j hj => ⟨?_, ?_⟩⟩,
      ⟨fun b hb => by simp at hb; subst hb; exact InM.or.2 (.inr (g.cls R _ _ _)), fun b hb => by simp at hb, fun _ => by simp⟩, by simp [Gh.name], fun _ => ?_⟩
    · rw [Nat.zero_add, g.cell j, ← List.map_append, List.getElem?_append_left (by simpa using hj)]
      simp only [List.getElem?_map, List.getD_eq_getElem?_getD, List.getElem?_eq_getElem hj, Option.map_some, Option.getD_some]
    · show _ < if w.heap.size = w.heap.size then _ else _
      rw [if_pos rfl]; omega
    · obtain ⟨ty', h'⟩ := g.at_
      refine ⟨by simp; omega, w.heap.size, _, ty', rfl, if_pos rfl, h', ?_, if_pos rfl⟩
      simp [hrest]; omega

theorem append_ok (hT : TyOk P TY) (R : Rel C n γ s a w) {c : Call} {t : Nat} {x y : Operand} {d : Nat} (ho : o.op = .call c) (hc : c.callee = .builtin .append) (hat : c.argTypes = #[t, t]) (hargs : c.args = #[x, y])
    (h : appd (TY t).k s d (s.get x) (s.get y) K) : OpOk P C n a w o K := by
  unfold appd at h
  split at h
  case h_3 => exact h.elim
  case h_1 ts0 g0 xs g ys g' hk hx hy =>
    split at h
    case h_2 => exact h.elim
    rename_i r m nd ow hg
    split at h
    case h_2 => exact h.elim
    rename_i kt hkt
    obtain ⟨q1, q2⟩ := strk_ok hkt
    exact append_slc hT R ho hc hat hargs hk hx hg hy h.1 q1 q2 h.2
  case h_2 k0 ns0 g0 kk xs g kk' ys g' hk hx hy =>
    split at h
    case h_2 => exact h.elim
    rename_i r m nd ow hkk hg
    obtain rfl := ikEq_iff.1 hkk
    split at h
    case h_2 => exact h.elim
    rename_i kt hkt
    obtain ⟨q1, q2⟩ := strk_ok hkt
    exact append_ints hT R ho hc hat hargs hk hx hg hy h.1 q1 q2 h.2

/- make -/
theorem made_ts {lim : Nat → Nat} {w : World} {b : Nat} {p q : Int} : ∀ (N off : Nat), off + N * 3 ≤ lim b → (∀ j, j < N * 3 → w.cell? ⟨b, off + j, none⟩ = some ([Value.int .i64 p, .int .i64 q, .slice none 0 0].getD (j % 3) undef)) → Arr lim w (List.replicate N (.mk p q [])) b off []
  | 0, _, _, _ => rfl
  | N + 1, off, hl, hc => by
    rw [List.replicate_succ]
    refine ⟨[], [], rfl, ⟨by omega, ?_, ?_, none, 0, ?_, Nat.le_refl _, .inl ⟨rfl, rfl⟩⟩, made_ts N (off + 3) (by omega) fun j hj => ?_⟩
    · simpa using hc 0 (by omega)
    · simpa using hc 1 (by omega)
    · simpa using hc 2 (by omega)
    · have := hc (j + 3) (by omega)
      rw [show off + 3 + j = off + (j + 3) by omega, this]
      simp
theorem made_cell (z : Array Value) (n j : Nat) (hj : j < n) : (madeCells z n).toList[j]? = some (z[j % z.size]!) := by
  simp [madeCells, hj]
theorem make_ok (hT : TyOk P TY) (R : Rel C n γ s a w) {ty : Nat} {x y : Operand} (ho : o.op = .makeSlice ty x y) (h : aop G TY dr s o K) : OpOk P C n a w o K := by
  simp only [aop, ho] at h
  split at h
  case h_2 => exact h.elim
  rename_i d k1 m k2 c hd hx hy
  have hx := rel_int (R.get x) hx
  have hy := rel_int (R.get y) hy
  have h3 := R.two
  have hkt : ∀ k, some d = some k → is1 d k = true := fun k e => by cases e; exact is1_self d
  split at h
  case h_3 => exact h.elim
  case h_1 ts0 g0 p q g1 hk hke =>
    obtain ⟨⟨m0, rfl, m1⟩, hK⟩ := h
    obtain ⟨t1, i, t2, t3, t4, zs, t5, t6⟩ := ty_slc hT hk
    have he := hT.ty (TY ty).elem
    rw [hke] at he
    obtain ⟨fields, i', cs0, _, _, e3, e4, e5, e6, _⟩ := he
    rw [t2] at e3
    cases e3
    rw [t5] at e5
    cases e5
    have hz : zs = #[.int .i64 p, .int .i64 q, .slice none 0 0] := by
      match zs, e6 with
      | ⟨[z0, z1, z2]⟩, ⟨f0, f1, ⟨_, _, f2⟩, _⟩ =>
        have f0 : z0 = .int .i64 p := f0
        have f1 : z1 = .int .i64 q := f1
        subst f0 f1 f2; rfl
    subst hz
    have hrun := run_make (P := P) w ty _ i _ t1 t2 t5 k1 k2 m m m0 (Int.le_refl _) (by
      have : (i.bytes : Int) * m ≤ 64 * 1099511627776 := Int.mul_le_mul (by omega) m1 m0 (by omega)
      omega) (by omega)
    rw [t3] at hrun
    have hml : (madeCells (Value.agg #[.int .i64 p, .int .i64 q, .slice none 0 0]).cells (m.toNat * 3)) = (madeCells (Value.agg #[.int .i64 p, .int .i64 q, .slice none 0 0]).cells (m.toNat * 3)).toList.toArray := by simp
    rw [hml] at hrun
    have g := Grew.alloc w (madeCells (Value.agg #[.int .i64 p, .int .i64 q, .slice none 0 0]).cells (m.toNat * 3)).toList (TY ty).elem
    have R' := g.rel R (m.toNat * 3) (some d) (.slice (some ⟨w.heap.size, 0, none⟩) m.toNat m.toNat) (is1 d) hkt (.inr rfl)
    have harr : Arr ((γ.blk w s.now (m.toNat * 3) (some d)).name (some d) (.slice (some ⟨w.heap.size, 0, none⟩) m.toNat m.toNat)).lim (w.alloc (.cells (madeCells (Value.agg #[.int .i64 p, .int .i64 q, .slice none 0 0]).cells (m.toNat * 3)).toList.toArray (TY ty).elem)) (List.replicate m.toNat (.mk p q [])) w.heap.size 0 [] := by
      refine made_ts _ 0 (by show _ ≤ if w.heap.size = w.heap.size then _ else _; rw [if_pos rfl]; omega) fun j hj => ?_
      rw [Nat.zero_add, g.cell j, made_cell _ _ _ hj]
      have : j % 3 < 3 := Nat.mod_lt _ (by omega)
      match hq : j % 3, this with
      | 0, _ => simp [Value.cells, hq]
      | 1, _ => simp [Value.cells, hq]
      | 2, _ => simp [Value.cells, hq]
    refine ⟨_, .slice (some ⟨w.heap.size, 0, none⟩) m.toNat m.toNat, _, _, _, _, by simp only [execOp, ho, hx, hy, Sem.run_bind, hrun]; rfl, .inl rfl, hK, R', ?_⟩
    by_cases h0 : m.toNat = 0
    · refine ⟨some ⟨w.heap.size, 0, none⟩, m.toNat, [], by simp, by simp, .inl ⟨by simp [h0], rfl⟩, RtOk.nil, by simp [Gh.name], fun hlt => by simp at hlt⟩
    · refine ⟨some ⟨w.heap.size, 0, none⟩, m.toNat, [w.heap.size], by simp, by simp, .inr ⟨_, 0, [], by simpa using h0, rfl, rfl, harr⟩, ⟨fun b hb => by simp at hb; subst hb; exact g.cls R _ _ _, fun b hb => by simp at hb, fun _ => by simp⟩, by simp [Gh.name], fun hlt => by simp at hlt⟩
  case h_2 k0 ns0 g0 k z hk hke =>
    obtain ⟨⟨m0, rfl, m1⟩, hK⟩ := h
    obtain ⟨t1, t0, i, t2, t3, t4, z', t5, t6⟩ := ty_ints hT hk
    have he := hT.ty (TY ty).elem
    rw [hke] at he
    obtain ⟨d', i', zv, _, _, e3, _, e5, _, _, rfl⟩ := he
    rw [t2] at e3
    cases e3
    rw [t5] at e5
    cases e5
    have hrun := run_make (P := P) w ty _ i _ t1 t2 t5 k1 k2 m m m0 (Int.le_refl _) (by
      have : (i.bytes : Int) * m ≤ 64 * 1099511627776 := Int.mul_le_mul (by omega) m1 m0 (by omega)
      omega) (by omega)
    rw [t3, Nat.mul_one] at hrun
    have hml : (madeCells (Value.int k z).cells m.toNat) = (madeCells (Value.int k z).cells m.toNat).toList.toArray := by simp
    rw [hml] at hrun
    have g := Grew.alloc w (madeCells (Value.int k z).cells m.toNat).toList (TY ty).elem
    have R' := g.rel R m.toNat (some d) (.slice (some ⟨w.heap.size, 0, none⟩) m.toNat m.toNat) (is1 d) hkt (.inr rfl)
    refine ⟨_, .slice (some ⟨w.heap.size, 0, none⟩) m.toNat m.toNat, _, _, _, _, by simp only [execOp, ho, hx, hy, Sem.run_bind, hrun]; rfl, .inl rfl, hK, R', ?_⟩
    by_cases h0 : m.toNat = 0
    · refine ⟨some ⟨w.heap.size, 0, none⟩, m.toNat, [], by simp, by simp, .inl ⟨by simp [h0], rfl⟩, RtOk.nil, by simp [Gh.name], fun hlt => by simp at hlt⟩
    · refine ⟨some ⟨w.heap.size, 0, none⟩, m.toNat, [w.heap.size], by simp, by simp, .inr ⟨_, 0, by simpa using h0, rfl, rfl, fun j hj => ⟨?_, ?_⟩⟩, ⟨fun b hb => by simp at hb; subst hb; exact g.cls R _ _ _, fun b hb => by simp at hb, fun _ => by simp⟩, by simp [Gh.name], fun hlt => by simp at hlt⟩
      · have hj : j < m.toNat := by simpa using hj
        rw [Nat.zero_add, g.cell j, made_cell _ _ _ hj]
        simp [Value.cells, Nat.mod_one, hj, List.getD_eq_getElem?_getD]
      · show _ < if w.heap.size = w.heap.size then _ else _
        rw [if_pos rfl]; simpa using hj
end
end Go.Dk
