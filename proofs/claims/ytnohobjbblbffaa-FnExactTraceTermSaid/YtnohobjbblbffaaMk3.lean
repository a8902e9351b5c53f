/- The laws' marking functions mark: walked. -/
import Derived.Test.YtnohobjbblbffaaChecked
import Derived.WalkKit
import Derived.Deep.LoopGhost
import Derived.Laws.Rows
import Derived.Test.YtnohobjbblbffaaMk2
set_option linter.unusedSimpArgs false
set_option linter.unusedVariables false
open Go.RowKit
namespace Go.Dk
open Go.Proofs
theorem hid {p : Prop} (h : p) : Hid p := h
theorem Wrote.refl {w : World} {fp : List Nat} (h : ∀ b ∈ fp, PlainB w b) : Wrote w w fp :=
  ⟨fun _ _ => rfl, fun b hb => let ⟨c, ty, e⟩ := h b hb; ⟨c, c, ty, e, e, rfl⟩, rfl, rfl, rfl, rfl, fun _ _ _ h => h⟩
theorem Wrote.trans {w w1 w2 : World} {fp : List Nat} (h : Wrote w w1 fp) (g : Wrote w1 w2 fp) : Wrote w w2 fp :=
  ⟨fun b hb => (g.other b hb).trans (h.other b hb), fun b hb => by
    obtain ⟨c, c1, ty, e1, e2, e3⟩ := h.self b hb
    obtain ⟨d, d1, ty', g1, g2, g3⟩ := g.self b hb
    rw [e2] at g1; cases g1
    exact ⟨c, d1, _, e1, g2, g3.trans e3⟩,
   g.size.trans h.size, g.os.trans h.os, g.tape.trans h.tape, g.output.trans h.output, fun b o n e => g.keep8 b o n (h.keep8 b o n e)⟩
theorem Wrote.plain {w w1 : World} {fp : List Nat} (h : Wrote w w1 fp) {b : Nat} (hb : PlainB w b) : PlainB w1 b := by
  by_cases hm : b ∈ fp
  · obtain ⟨c, c', ty, _, e, _⟩ := h.self b hm; exact ⟨c', ty, e⟩
  · exact hb.of (h.other b hm)
theorem Wrote.wide {w w1 : World} {fp fq : List Nat} (h : Wrote w w1 fp) (hs : ∀ b ∈ fp, b ∈ fq) (hp : ∀ b ∈ fq, PlainB w b) : Wrote w w1 fq :=
  ⟨fun b hb => h.other b fun hm => hb (hs b hm), fun b hb => by
    by_cases hm : b ∈ fp
    · exact h.self b hm
    · obtain ⟨c, ty, e⟩ := hp b hb
      exact ⟨c, c, ty, e, by rw [h.other b hm]; exact e, rfl⟩,
   h.size, h.os, h.tape, h.output, h.keep8⟩
theorem wrote_int {w : World} {b off : Nat} {n m : Int} (hp : PlainB w b) (hc : w.cell? ⟨b, off, none⟩ = some (.int .i64 n)) : Wrote w (w.setCell ⟨b, off, none⟩ (.int .i64 m)) [b] := by
  obtain ⟨c, ty, e⟩ := hp
  refine ⟨fun x hx => Below.heap_setCell w ⟨b, off, none⟩ _ x (by simpa using hx), fun x hx => ?_, by simp [World.setCell], rfl, rfl, rfl, fun x o k hk => ?_⟩
  · obtain rfl := List.mem_singleton.1 hx
    exact ⟨c, c.setIfInBounds off (.int .i64 m), ty, e, by simp [World.setCell, Array.getElem?_modify, e], by simp⟩
  · rw [World.cell?_setCell_other _ _ _ _ (fun e => by rw [← e, hc] at hk; cases hk)]; exact hk
theorem cell_set {w : World} {b off : Nat} {v u : Value} (hp : PlainB w b) (hc : w.cell? ⟨b, off, none⟩ = some u) : (w.setCell ⟨b, off, none⟩ v).cell? ⟨b, off, none⟩ = some v := by
  obtain ⟨c, ty, e⟩ := hp
  rw [cell_of_row w b off c ty _ e] at hc
  have e2 : (w.setCell ⟨b, off, none⟩ v).heap[b]? = some (.cells (c.setIfInBounds off v) ty (0, 0)) := by simp [World.setCell, Array.getElem?_modify, e]
  rw [cell_of_row _ b off _ ty _ e2]
  have := (Array.getElem?_eq_some_iff.1 hc).1
  simp [this]
theorem frozen_plain {w : World} {b off : Nat} (hp : PlainB w b) : w.frozen? ⟨b, off, none⟩ = false := by
  obtain ⟨c, ty, e⟩ := hp
  simp [World.frozen?, e]
/-- A part whose blocks have not changed. -/
theorem Arr.same {lim : Nat → Nat} {w w' : World} : ∀ (ts : List T) (b off : Nat) (fp : List Nat), Arr lim w ts b off fp → (∀ o, off ≤ o → o < off + ts.length * 3 → w'.cell? ⟨b, o, none⟩ = w.cell? ⟨b, o, none⟩) → (∀ x ∈ fp, w'.heap[x]? = w.heap[x]?) → Arr lim w' ts b off fp
  | [], _, _, _, h, _, _ => h
  | t :: ts, b, off, _, ⟨f1, f2, h1, h2, h3⟩, hc, hx => by
    subst h1
    simp only [List.length_cons] at hc
    refine ⟨f1, f2, rfl, ?_, Arr.same ts b (off + 3) f2 h3 (fun o h1 h2 => hc o (by omega) (by omega)) fun x hm => hx x (by simp [hm])⟩
    cases t with
    | mk k n us =>
      obtain ⟨g0, g1, g2, a, cap, g3, g4, g5⟩ := h2
      refine ⟨g0, by rw [hc _ (by omega) (by omega)]; exact g1, by rw [hc _ (by omega) (by omega)]; exact g2, a, cap, by rw [hc _ (by omega) (by omega)]; exact g3, g4, ?_⟩
      have g5 : Els lim w us a f1 := g5
      exact g5.wstep (B := fun x => w'.heap[x]? ≠ w.heap[x]?) (fun x hx => Classical.not_not.1 hx) fun x hm hne => hne (hx x (by simp [hm]))
theorem Arr.app {lim : Nat → Nat} {w : World} : ∀ (ts us : List T) (b off : Nat) (f g : List Nat), Arr lim w ts b off f → Arr lim w us b (off + ts.length * 3) g → Arr lim w (ts ++ us) b off (f ++ g)
  | [], us, b, off, f, g, h, h' => by rw [show f = [] from h]; simpa using h'
  | t :: ts, us, b, off, _, g, ⟨f1, f2, h1, h2, h3⟩, h' => by
    subst h1
    refine ⟨f1, f2 ++ g, by simp, h2, Arr.app ts us b (off + 3) f2 g h3 ?_⟩
    have e : off + 3 + ts.length * 3 = off + (t :: ts).length * 3 := by simp; omega
    rw [e]; exact h'
theorem markL_snoc : ∀ (ts : List T) (t : T) (k : Int), markL (ts ++ [t]) k = markL ts k ++ [t.mark (k + 2 * sizeL ts)]
  | [], t, k => by simp [markL, sizeL]
  | u :: ts, t, k => by
    simp only [List.cons_append, markL, markL_snoc ts t, sizeL]
    congr 4
    omega
theorem sizeL_app : ∀ (ts us : List T), sizeL (ts ++ us) = sizeL ts + sizeL us
  | [], us => by simp [sizeL]
  | t :: ts, us => by simp only [List.cons_append, sizeL, sizeL_app ts]; omega
theorem sizeL_snoc : ∀ (ts : List T) (t : T), sizeL (ts ++ [t]) = sizeL ts + t.size
  | [], t => by simp [sizeL]
  | u :: ts, t => by simp only [List.cons_append, sizeL, sizeL_snoc ts t]; omega
/-- The state of the marking of a slice: the first part marked, the second as it was. -/
structure Mkg (lim : Nat → Nat) (w0 : World) (ts : List T) (b off : Nat) (fp : List Nat) (k : Int) (w : World) (pre us : List T) : Prop where
  eq : ts = pre ++ us
  wrote : Wrote w0 w (b :: fp)
  fps : ∃ f g, fp = f ++ g ∧ Arr lim w (markL pre k) b off f ∧ Arr lim w us b (off + pre.length * 3) g
theorem has_markS : HasFn Try.prog 27 := ⟨_, Try.func27, rfl, rfl⟩
theorem mkg_step {lim : Nat → Nat} {w0 w w2 w' : World} {ts pre us : List T} {b off : Nat} {f g f2 : List Nat} {k q k0 n0 : Int} {ts' : List T} (hfp : (b :: (f ++ (g ++ f2))).Nodup) (hpl : ∀ x ∈ b :: (f ++ (g ++ f2)), PlainB w0 x) (heq : ts = pre ++ .mk k0 n0 ts' :: us)
    (h0 : Wrote w0 w (b :: (f ++ (g ++ f2)))) (hp : Arr lim w (markL pre k) b off f) (ht : TAt lim w (.mk k0 n0 ts') b (off + pre.length * 3) g) (hu : Arr lim w us b (off + pre.length * 3 + 3) f2) (hq : q = k + 2 * sizeL pre)
    (hw2 : w2 = (w.setCell ⟨b, off + pre.length * 3, none⟩ (.int .i64 q)).setCell ⟨b, off + pre.length * 3 + 1, none⟩ (.int .i64 (q + 1))) {a : Option Addr} {cap : Nat} (hc : w.cell? ⟨b, off + pre.length * 3 + 2, none⟩ = some (.slice a ts'.length cap)) (hcap : ts'.length ≤ cap)
    (hw : Wrote w2 w' g) (he : Els lim w' (markL ts' (q + 1 + 1)) a g) : Mkg lim w0 ts b off (f ++ (g ++ f2)) k w' (pre ++ [.mk k0 n0 ts']) us := by
  obtain ⟨l0, c0, c1, _⟩ := ht
  have hpb : PlainB w b := h0.plain (hpl b (by simp))
  have s1 := wrote_int (m := q) hpb c0
  have s2 := wrote_int (m := q + 1) (s1.plain hpb) (w := w.setCell ⟨b, off + pre.length * 3, none⟩ (.int .i64 q)) (off := off + pre.length * 3 + 1) (n := n0) (by rw [World.cell?_setCell_other _ _ _ _ (by simp)]; exact c1)
  rw [← hw2] at s2
  have hpl1 : ∀ x ∈ b :: (f ++ (g ++ f2)), PlainB w x := fun x hx => h0.plain (hpl x hx)
  have hpl2 : ∀ x ∈ b :: (f ++ (g ++ f2)), PlainB w2 x := fun x hx => (s1.trans s2).plain (hpl1 x hx)
  have W := (h0.trans ((s1.trans s2).wide (by simp) hpl1)).trans (hw.wide (fun x hx => by simp [hx]) hpl2)
  obtain ⟨nb, nd⟩ := List.nodup_cons.1 hfp
  obtain ⟨nf, ngf, nd1⟩ := List.nodup_append.1 nd
  obtain ⟨ng, nf2, nd2⟩ := List.nodup_append.1 ngf
  have bb : w'.heap[b]? = w2.heap[b]? := hw.other b fun hm => nb (by simp [hm])
  have cb : ∀ o, w'.cell? ⟨b, o, none⟩ = w2.cell? ⟨b, o, none⟩ := fun o => cell_block bb o
  have cc : ∀ o, o ≠ off + pre.length * 3 → o ≠ off + pre.length * 3 + 1 → w'.cell? ⟨b, o, none⟩ = w.cell? ⟨b, o, none⟩ := fun o h1 h2 => by
    rw [cb, hw2, World.cell?_setCell_other _ _ _ _ (fun e => h2 (by cases e; rfl)), World.cell?_setCell_other _ _ _ _ (fun e => h1 (by cases e; rfl))]
  have ob : ∀ x, x ≠ b → x ∉ g → w'.heap[x]? = w.heap[x]? := fun x h1 h2 => by rw [hw.other x h2, (s1.trans s2).other x (by simpa using h1)]
  refine ⟨by rw [heq]; simp, W, f ++ g, f2, by simp, ?_, ?_⟩
  · rw [markL_snoc]
    refine Arr.app _ _ _ _ _ _ (Arr.same _ _ _ _ hp (fun o h1 h2 => cc o ?_ ?_) fun x hx => ob x (fun e => nb (by simp [← e, hx])) fun hg => nd1 x hx x (by simp [hg]) rfl) ?_
    · rw [markL_length] at h2; omega
    · rw [markL_length] at h2; omega
    · rw [markL_length, ← hq]
      refine ⟨g, [], by simp, ⟨l0, ?_, ?_, a, cap, ?_, by rw [markL_length]; exact hcap, ?_⟩, rfl⟩
      · rw [cb, hw2, World.cell?_setCell_other _ _ _ _ (by simp)]
        exact cell_set hpb c0
      · rw [cb, hw2]
        refine cell_set (u := .int .i64 n0) (s1.plain hpb) ?_
        rw [World.cell?_setCell_other _ _ _ _ (by simp)]; exact c1
      · rw [cc _ (by omega) (by omega), markL_length]; exact hc
      · rw [show q + 2 = q + 1 + 1 by omega]; exact he
  · refine Arr.same _ _ _ _ (by simpa [Nat.add_mul, Nat.add_assoc] using hu) (fun o h1 h2 => cc o ?_ ?_) fun x hx => ob x (fun e => nb (by simp [← e, hx])) fun hg => nd2 x hg x hx rfl
    · simp at h1; omega
    · simp at h1; omega
theorem markS_walk {ts : List T} (ih : ∀ (lim : Nat → Nat) (w : World) (us : List T) (a : Option Addr) (cap : Nat) (fp : List Nat) (k : Int), sizeL us < sizeL ts → Els lim w us a fp → us.length ≤ cap → fp.Nodup → (∀ b ∈ fp, PlainB w b) → 0 ≤ k → k + 2 * sizeL us ≤ 9223372036854775807 →
      Calls Try.prog 27 #[.slice a us.length cap, .int .i64 k] w fun e w' => e = .returned (.int .i64 (k + 2 * sizeL us)) ∧ Wrote w w' fp ∧ Els lim w' (markL us k) a fp)
    (lim : Nat → Nat) (w : World) (b off cap : Nat) (fp : List Nat) (k : Int) (hcap : ts.length ≤ cap) (hlen : ts.length ≤ 9223372036854775807) (harr : Arr lim w ts b off fp) (hnd : (b :: fp).Nodup) (hpl : ∀ x ∈ b :: fp, PlainB w x) (h0 : 0 ≤ k) (h1 : k + 2 * sizeL ts ≤ 9223372036854775807) :
    Calls Try.prog 27 #[.slice (some ⟨b, off, none⟩) ts.length cap, .int .i64 k] w fun e w' => e = .returned (.int .i64 (k + 2 * sizeL ts)) ∧ Wrote w w' (b :: fp) ∧ Arr lim w' (markL ts k) b off fp := by
  have start : Mkg lim w ts b off fp k w [] ts := ⟨rfl, Wrote.refl hpl, [], fp, rfl, rfl, by simpa using harr⟩
  obtain ⟨n, hn⟩ : ∃ n, n = ts.length := ⟨_, rfl⟩
  have HN := hid hn
  rw [← hn] at hcap hlen
  rw [← hn]
  clear hn
  have HI := hid ih
  have HP := hid hpl
  clear ih hpl
  go_enter Try.func27, Try.ntmps27
  go_wp2
  go_loopw [1, 5] (fun kk i W => ∃ (j : Nat) (pre us : List T) (q : Int), j ≤ n ∧ i = .int .i64 j ∧ kk = .int .i64 q ∧ Hid (q = k + 2 * sizeL pre) ∧ Hid (pre.length = j) ∧ Mkg lim w ts b off fp k W pre us) (fun _ i _ => n - (intOf i).toNat)
  case atStart => exact ⟨0, [], ts, k, Nat.zero_le _, rfl, rfl, hid (by simp [sizeL]), hid rfl, start⟩
  case round =>
    obtain ⟨j, pre, us, q, hj, rfl, rfl, HQ, HJ, M⟩ := hrel
    have hnl := HN.out
    have hjl := HJ.out
    have hq := HQ.out
    have hlen2 : ts.length = pre.length + us.length := by rw [M.eq]; simp
    have hsz : sizeL ts = sizeL pre + sizeL us := by rw [M.eq, sizeL_app]
    by_cases hlt : j < n
    · match us, M with
      | [], M => simp at hlen2; omega
      | .mk k0 n0 ts' :: us, ⟨heq, hw0, f, g0, hfp, hp, g, f2, hg, ht, hu⟩ =>
        have hpl := HP.out
        have ih := HI.out
        have hst : sizeL us + (1 + sizeL ts') = sizeL ts - sizeL pre := by simp only [sizeL, T.size] at hsz; omega
        have hjj : pre.length = j := hjl
        have ht' := ht
        obtain ⟨l0, c0, c1, a2, p2, c2, hp2, he⟩ := ht'
        have hpb : PlainB wr b := hw0.plain (hpl b (by simp))
        have f0 : wr.frozen? ⟨b, off + j * 3, none⟩ = false := frozen_plain hpb
        have f1 : wr.frozen? ⟨b, off + j * 3 + 1, none⟩ = false := frozen_plain hpb
        rw [hjj] at c0 c1 c2
        have b0 : 0 ≤ q := by omega
        have b1 : q + 2 ≤ 9223372036854775807 := by omega
        have b2 : q + 1 + 1 + 2 * sizeL ts' ≤ 9223372036854775807 := by simp only [sizeL, T.size] at hsz; omega
        have b3 : sizeL ts' < sizeL ts := by simp only [sizeL, T.size] at hsz; omega
        have hfp' : fp = f ++ (g ++ f2) := by rw [hfp, hg]
        subst hfp'
        obtain ⟨nb, nd⟩ := List.nodup_cons.1 hnd
        have ng : g.Nodup := (List.nodup_append.1 (List.nodup_append.1 nd).2.1).1
        have key : ∀ W2, W2 = (wr.setCell ⟨b, off + j * 3, none⟩ (.int .i64 q)).setCell ⟨b, off + j * 3 + 1, none⟩ (.int .i64 (q + 1)) →
            Calls Try.prog 27 #[.slice a2 ts'.length p2, .int .i64 (q + 1 + 1)] W2 fun e w' => e = .returned (.int .i64 (q + 1 + 1 + 2 * sizeL ts')) ∧ Mkg lim w ts b off (f ++ (g ++ f2)) k w' (pre ++ [.mk k0 n0 ts']) us := by
          intro W2 e2
          have s1 := wrote_int (m := q) hpb c0
          have s2 := wrote_int (m := q + 1) (s1.plain hpb) (w := wr.setCell ⟨b, off + j * 3, none⟩ (.int .i64 q)) (off := off + j * 3 + 1) (n := n0) (by rw [World.cell?_setCell_other _ _ _ _ (by simp)]; exact c1)
          rw [← e2] at s2
          have he2 : Els lim W2 ts' a2 g := Els.wstep (B := fun x => x = b) (fun x hx => by rw [(s1.trans s2).other x (by simpa using hx)]) he fun x hx e => nb (by simp [← e, hx])
          refine (ih lim W2 ts' a2 p2 g (q + 1 + 1) b3 he2 hp2 ng (fun x hx => (s1.trans s2).plain (hw0.plain (hpl x (by simp [hx])))) (by omega) b2).mono fun e w' ⟨h1, h2, h3⟩ => ⟨h1, ?_⟩
          exact mkg_step hnd hpl heq hw0 hp ht hu hq (by rw [hjj]; exact e2) (by rw [hjj]; exact c2) hp2 h2 h3
        have KEY := hid key
        have HB := hid b2
        have HS := hid hst
        have HZ := hid hsz
        clear key b2 hst hsz ih hpl hq hjl hjj hnl HI HP HN hfp hg heq hlen2 M start harr hp ht hu he nb nd ng hnd l0 b3 hw0 hpb h1
        go_wp2_with (go_at_call 27; refine (KEY.out _ rfl).mono ?_; rintro e w' ⟨rfl, hw⟩)
        go_roundw
        case rel => exact ⟨j + 1, pre ++ [.mk k0 n0 ts'], us, q + 1 + 1 + 2 * sizeL ts', by omega, by go_num, rfl, hid (by rw [HQ.out, sizeL_snoc]; simp only [T.size]; omega), hid (by rw [List.length_append, HJ.out]; rfl), hw⟩
        case measure => simp [intOf]; omega
    · have hu : us = [] := List.eq_nil_of_length_eq_zero (by omega)
      subst hu
      obtain ⟨heq, hw0, f, g0, hfp, hp, hg⟩ := M
      have heq : ts = pre := by rw [heq]; simp
      subst heq
      have hg : g0 = [] := hg
      subst hg
      have hfp : f = fp := by rw [hfp]; simp
      subst hfp
      have D := hid hq
      have HA := hid hp
      have HW := hid hw0
      clear hq h1 hsz hnl hjl hlen2 heq hfp hg hp hw0 harr start hnd
      go_wp2
      go_ret
      exact ⟨by rw [← D.out]; rfl, HW.out, HA.out⟩
theorem markS_all : ∀ (m : Nat) (lim : Nat → Nat) (w : World) (us : List T) (a : Option Addr) (cap : Nat) (fp : List Nat) (k : Int), sizeL us < m → Els lim w us a fp → us.length ≤ cap → fp.Nodup → (∀ b ∈ fp, PlainB w b) → 0 ≤ k → k + 2 * sizeL us ≤ 9223372036854775807 →
      Calls Try.prog 27 #[.slice a us.length cap, .int .i64 k] w fun e w' => e = .returned (.int .i64 (k + 2 * sizeL us)) ∧ Wrote w w' fp ∧ Els lim w' (markL us k) a fp
  | 0, _, _, _, _, _, _, _, h, _, _, _, _, _, _ => absurd h (Nat.not_lt_zero _)
  | m + 1, lim, w, us, a, cap, fp, k, h, he, hc, hn, hp, h0, h1 => by
    rcases he with ⟨rfl, rfl⟩ | ⟨b, off, fp', hne, rfl, rfl, harr⟩
    · go_enter Try.func27, Try.ntmps27
      go_wp2
      go_loop [1, 5] (fun kk i => kk = .int .i64 k ∧ i = .int .i64 0) (fun _ _ => 0)
      case atStart => exact ⟨rfl, rfl⟩
      case round =>
        obtain ⟨rfl, rfl⟩ := hrel
        go_wp2
        go_ret
        exact ⟨by simp [sizeL], Wrote.refl hp, .inl ⟨rfl, rfl⟩⟩
    · have hl : us.length ≤ sizeL us := by
        clear h harr hne hc h1
        induction us with
        | nil => exact Nat.le_refl _
        | cons t ts ih => have : 1 ≤ t.size := by cases t; simp [T.size]
                          simp only [List.length_cons, sizeL]; omega
      refine (markS_walk (ts := us) (fun lim w vs a cap fp k hs => markS_all m lim w vs a cap fp k (by omega)) lim w b off cap fp' k hc (by omega) harr hn hp h0 h1).mono fun e w' ⟨e1, e2, e3⟩ => ⟨e1, e2, .inr ⟨b, off, fp', ?_, rfl, rfl, e3⟩⟩
      intro e
      have := congrArg List.length e
      rw [markL_length] at this
      exact hne (List.eq_nil_of_length_eq_zero (by simpa using this))
theorem markS_ok : HasFn Try.prog 27 ∧ ∀ (lim : Nat → Nat) (w : World) (ts : List T) (a : Option Addr) (cap : Nat) (fp : List Nat) (k : Int), Els lim w ts a fp → ts.length ≤ cap → fp.Nodup → (∀ b ∈ fp, PlainB w b) → 0 ≤ k → k + 2 * sizeL ts ≤ 9223372036854775807 →
    Calls Try.prog 27 #[.slice a ts.length cap, .int .i64 k] w fun e w' => e = .returned (.int .i64 (k + 2 * sizeL ts)) ∧ ∃ w1, MoreB w w1 ∧ Wrote w1 w' fp ∧ Els lim w' (markL ts k) a fp :=
  ⟨has_markS, fun lim w ts a cap fp k h1 h2 h3 h4 h5 h6 => (markS_all _ lim w ts a cap fp k (Nat.lt_succ_self _) h1 h2 h3 h4 h5 h6).mono fun e w' ⟨e1, e2, e3⟩ => ⟨e1, w, MoreB.refl w, e2, e3⟩⟩
theorem more_alloc (w : World) (cs : Array Value) (ty : TypeId) : MoreB w (w.alloc (.cells cs ty)) := by
  refine ⟨fun b hb => heap_alloc hb, by simp, fun b h1 h2 => ?_, rfl, rfl, rfl⟩
  have : b = w.heap.size := by simp at h2; omega
  subst this
  exact ⟨cs, ty, heap_alloc_new w _⟩
theorem has_markT : HasFn Try.prog 20 := ⟨_, Try.func20, rfl, rfl⟩
theorem markT_ok : HasFn Try.prog 20 ∧ ∀ (lim : Nat → Nat) (w : World) (k0 n0 : Int) (ts : List T) (a : Option Addr) (cap : Nat) (fp : List Nat) (k : Int), Els lim w ts a fp → ts.length ≤ cap → fp.Nodup → (∀ b ∈ fp, PlainB w b) → 0 ≤ k → k + 2 * sizeL ts ≤ 9223372036854775807 →
    Calls Try.prog 20 #[.agg #[.int .i64 k0, .int .i64 n0, .slice a ts.length cap], .int .i64 k] w fun e w' => e = .returned (.int .i64 (k + 2 * sizeL ts)) ∧ ∃ w1, MoreB w w1 ∧ Wrote w1 w' fp ∧ Els lim w' (markL ts k) a fp := by
  refine ⟨has_markT, fun lim w k0 n0 ts a cap fp k h1 h2 h3 h4 h5 h6 => ?_⟩
  have key : ∀ W2, MoreB w W2 → Calls Try.prog 27 #[.slice a ts.length cap, .int .i64 k] W2 fun e w' => e = .returned (.int .i64 (k + 2 * sizeL ts)) ∧ ∃ w1, MoreB w w1 ∧ Wrote w1 w' fp ∧ Els lim w' (markL ts k) a fp := by
    intro W2 g
    have hE : Els lim W2 ts a fp := Els.step (fun _ => Nat.le_refl _) (fun b off _ v hv => by rw [cell_block (g.old b (block_lt hv))]; exact hv) h1
    exact (markS_all _ lim W2 ts a cap fp k (Nat.lt_succ_self _) hE h2 h3 (fun b hb => (h4 b hb).of (g.old b (h1.lt b hb))) h5 h6).mono fun e w' ⟨e1, e2, e3⟩ => ⟨e1, W2, g, e2, e3⟩
  have KEY := hid key
  generalize ts.length = len at *
  have HR : ∀ q : Int, q = k + 2 * sizeL ts → (.int .i64 q : Value) = .int .i64 (k + 2 * sizeL ts) := fun q e => by rw [e]
  have HR := hid HR
  clear key h1 h2 h3 h4 h5 h6
  go_enter Try.func20, Try.ntmps20
  go_wp2_with (go_at_call 27; refine (KEY.out _ (more_alloc _ _ _)).mono ?_; rintro e w' ⟨rfl, hw⟩)
  go_ret
  exact ⟨rfl, hw⟩
end Go.Dk
