/- A call that marks, as an operation. -/
import Derived.Test.YteamklllllembaaDoorCall2
namespace Go.Dk
theorem markL_length : ∀ (ts : List T) (k : Int), (markL ts k).length = ts.length
  | [], _ => rfl
  | t :: ts, k => by simp [markL, markL_length ts]
theorem markI_length : ∀ (ns : List Int) (k : Int), (markI ns k).length = ns.length
  | [], _ => rfl
  | n :: ns, k => by simp [markI, markI_length ns]
section
variable {P : Program} {C : Fr} {n : Nat} {γ : Gh} {s : AS} {a : Act} {w : World} {TY : Nat → TyI} {K : AV → AS → Prop}
theorem Rel.grew (R : Rel C n γ s a w) {w1 : World} (g : MoreB w w1) : Step γ s.now w γ s.now w1 is0 is0 ∧ Rel C n γ s a w1 := by
  have S : Step γ s.now w γ s.now w1 is0 is0 :=
    { lim := fun _ => Nat.le_refl _, cell := fun b off _ v hv => by rw [cell_block (g.old b (block_lt hv))]; exact hv, size := g.size, two := R.two, le := Nat.le_refl _, Hlt := fun _ _ => rfl, Hge := fun e h1 h2 => by omega,
      loc := fun _ _ => rfl, ow := fun b k hb _ => ⟨hb, g.old b (R.ow b k hb).2, rfl⟩, vid := fun _ _ => rfl }
  refine ⟨S, ?_⟩
  have R1 := R.grow S (h' := s.h) (fun i _ => ⟨rfl, (cl_id _).symm⟩) (fun b hb ho => ⟨g.old b hb, rfl, ho⟩)
    (fun b h1 h2 hp => by
      by_cases hb : b < w.heap.size
      · exact (R.plain b h1 hb hp).of (g.old b hb)
      · exact g.new b (by omega) h2)
    (fun b k hb => ⟨(R.ow b k hb).1, Nat.lt_of_lt_of_le (R.ow b k hb).2 g.size⟩) (fun b hb => R.limz b (Nat.le_trans g.size hb)) g.os g.tape g.output (fun e h1 h2 => by omega)
  simp only [cl_id, clL_id] at R1
  exact R1
theorem Wrote.wstep (R : Rel C n γ s a w) {w' : World} {fp : List Nat} (h : Wrote w w' fp) (hp : ∀ x ∈ fp, 0 < γ.lim x) : WStep γ s.now w γ s.now w' (· ∈ fp) :=
  { lim := rfl, loc := rfl, ow := rfl, vid := rfl, other := h.other, self := h.self, pos := hp, size := h.size, two := R.two, le := Nat.le_refl _, Hlt := fun _ _ => rfl, Hge := fun e h1 h2 => by omega,
    os := h.os, tape := h.tape, output := h.output }
theorem mark_done (R : Rel C n γ s a w) {ts : List T} {k : Int} {r m d : Nat} {a0 : Option Addr} {cap : Nat} {fp : List Nat} (hr : noBits (Nat.lor r m) 3 = true) (hcap : ts.length ≤ cap)
    (hels : Els γ.lim w ts a0 fp) (ht : TagOk C γ s.now w 3 a0 ts.length cap fp (.iv r m true (.id d))) {w1 w' : World} (g : MoreB w w1) (h : Wrote w1 w' fp) (he : Els γ.lim w' (markL ts k) a0 fp) :
    Rel C n γ (wsS s d (Nat.lor r m) (.slc (markL ts k) (.iv r m true (.id d)))) a w' := by
  obtain ⟨S, R1⟩ := R.grew g
  have S2 := h.wstep R1 hels.pos
  have ht1 := TagOk.step S ht
  rw [tag_cl_id] at ht1
  refine R1.write S2 hr (fun b hb => ht1.1.all.1 b hb) ?_ (fun _ _ _ => h.keep8)
  refine ⟨a0, cap, fp, by rw [markL_length]; exact ht.2.1, by rw [markL_length]; exact hcap, he, ?_⟩
  rw [markL_length]; exact S2.tag ht1
theorem markI_done (R : Rel C n γ s a w) {ns : List Int} {k : Int} {r m d : Nat} {nd : Bool} {a0 : Option Addr} {cap : Nat} {fp : List Nat} (hr : noBits r 3 = true) (hcap : ns.length ≤ cap)
    (hels : InI γ.lim w .i64 ns a0 fp) (ht : TagOk C γ s.now w 1 a0 ns.length cap fp (.iv r m nd (.id d))) {w1 w' : World} (g : MoreB w w1) (h : Wrote w1 w' fp) (he : InI γ.lim w' .i64 (markI ns k) a0 fp) :
    Rel C n γ (wsS s d r (.ints .i64 (markI ns k) (.iv r m nd (.id d)))) a w' := by
  obtain ⟨S, R1⟩ := R.grew g
  have S2 := h.wstep R1 hels.pos
  have ht1 := TagOk.step S ht
  rw [tag_cl_id] at ht1
  have hone : ∀ b ∈ fp, b ∈ fp.head? := by
    rcases hels with ⟨_, rfl⟩ | ⟨b, off, _, _, rfl, _⟩
    · simp
    · simp
  refine R1.write S2 hr (fun b hb => ht1.1.1 b (hone b hb)) ?_ (fun _ _ _ => h.keep8)
  refine ⟨a0, cap, fp, by rw [markI_length]; exact ht.2.1, by rw [markI_length]; exact hcap, he, ?_⟩
  rw [markI_length]; exact S2.tag ht1
theorem amark_sound (hT : TyOk P TY) (R : Rel C n γ s a w) {f : Nat} {args : List AV} {vals : List Value} (hargs : All2 (Rel3 C γ s.now w) args vals) (h : amark (TY f).mark s args K) :
    HasFn P f ∧ Calls P f vals.toArray w fun e w' => ∃ av s' γ' v, e = .returned v ∧ K av s' ∧ Rel C n γ' s' a w' ∧ Rel3 C γ' s'.now w' av v := by
  obtain ⟨m1, m2, m3⟩ := hT.mark f
  have young : ∀ {x b : Nat}, noBits x 3 = true → InM C γ s.now w x b → b < w.heap.size → 0 < γ.lim b → PlainB w b := fun hx hb hl hp => R.plain _ (R.young hx hb) hl hp
  unfold amark at h
  split at h
  · rename_i ts g k
    split at h
    case h_2 => exact h.elim
    rename_i hm
    obtain ⟨hf, hc⟩ := m1 (Nat.eq_of_beq_eq_true hm)
    unfold amarkS at h
    split at h
    case h_2 => exact h.elim
    rename_i r m d
    split at h
    case h_2 => exact h.elim
    rename_i hr
    match vals, hargs with
    | [v0, v1], ⟨⟨a0, cap, fp, e0, hcap, hels, ht⟩, e1, _⟩ =>
      have e1 : v1 = .int .i64 k := e1
      subst e0 e1
      exact ⟨hf, (hc γ.lim w ts a0 cap fp k hels hcap (ht.1.2.2 rfl) (fun b hb => young hr (ht.1.all.1 b hb) (hels.lt b hb) (hels.pos b hb)) h.1.1 h.1.2).mono fun e w' ⟨he, w1, g, hw, hE⟩ =>
        ⟨_, _, _, _, he, h.2, mark_done R hr hcap hels ht g hw hE, rfl⟩⟩
  · rename_i k0 n0 ts g k
    split at h
    case h_2 => exact h.elim
    rename_i hm
    obtain ⟨hf, hc⟩ := m2 (Nat.eq_of_beq_eq_true hm)
    unfold amarkS at h
    split at h
    case h_2 => exact h.elim
    rename_i r m d
    split at h
    case h_2 => exact h.elim
    rename_i hr
    match vals, hargs with
    | [v0, v1], ⟨⟨cs, ec, hcs⟩, e1, _⟩ =>
      match cs, hcs with
      | [c0, c1, c2], ⟨x0, x1, ⟨a0, cap, fp, e0, hcap, hels, ht⟩, _⟩ =>
        have e1 : v1 = .int .i64 k := e1
        have x0 : c0 = .int .i64 k0 := x0
        have x1 : c1 = .int .i64 n0 := x1
        subst e0 e1 x0 x1 ec
        exact ⟨hf, (hc γ.lim w k0 n0 ts a0 cap fp k hels hcap (ht.1.2.2 rfl) (fun b hb => young hr (ht.1.all.1 b hb) (hels.lt b hb) (hels.pos b hb)) h.1.1 h.1.2).mono fun e w' ⟨he, w1, g, hw, hE⟩ =>
          ⟨_, _, _, _, he, h.2, mark_done R hr hcap hels ht g hw hE, rfl⟩⟩
  · rename_i ns g k
    split at h
    case h_2 => exact h.elim
    rename_i hm
    obtain ⟨hf, hc⟩ := m3 (Nat.eq_of_beq_eq_true hm)
    unfold amarkI at h
    split at h
    case h_2 => exact h.elim
    rename_i r m nd d
    split at h
    case h_2 => exact h.elim
    rename_i hr
    match vals, hargs with
    | [v0, v1], ⟨⟨a0, cap, fp, e0, hcap, hels, ht⟩, e1, _⟩ =>
      have e1 : v1 = .int .i64 k := e1
      subst e0 e1
      have hone : ∀ b ∈ fp, b ∈ fp.head? := by
        rcases hels with ⟨_, rfl⟩ | ⟨b, off, _, _, rfl, _⟩
        · simp
        · simp
      exact ⟨hf, (hc γ.lim w ns a0 cap fp k hels hcap (fun b hb => young hr (ht.1.1 b (hone b hb)) (hels.lt b hb) (hels.pos b hb)) h.1.1 h.1.2).mono fun e w' ⟨he, w1, g, hw, hE⟩ =>
        ⟨_, _, _, _, he, h.2, markI_done R hr hcap hels ht g hw hE, rfl⟩⟩
  · exact h.elim
end
end Go.Dk
