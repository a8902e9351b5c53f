/- Every order that a drawing region may take: the walk. -/
import Derived.Orders
import Derived.Test.YteamklllllembaaDoorDraw3
namespace Go.Dk
section
variable {P : Program} {C : Fr} {n : Nat} {TY : Nat → TyI} {G : List (Nat × Con)} {cm : Bool} {ops : Array Oper} {b : Array Nat} {Q' : AS → Prop}

theorem eff_of {i : Nat} {o : Oper} (h : ops[i]? = some o) : eff ops i = isEff o := by simp [eff, h]

/-- Pure operations run in thought. -/
theorem DInv.advance (hB : OkP ops b) : ∀ (rest : List (Nat × List Nat)) (done : List Nat) (last : Option Nat) (listed : Array Bool) (s m : AS) (γ : Gh) (a : Act) (w : World), DInv C n G TY cm ops b Q' done last rest listed s m γ a w →
    ∃ done' last' rest' s', DInv C n G TY cm ops b Q' done' last' rest' listed s' m γ a w ∧ (rest' = [] ∨ ∃ e ls r o, rest' = (e, ls) :: r ∧ ops[e]? = some o ∧ isEff o = true)
  | [], done, last, listed, s, m, γ, a, w, I => ⟨done, last, [], s, I, .inl rfl⟩
  | (i, ls) :: r, done, last, listed, s, m, γ, a, w, I => by
    obtain ⟨o, ho, hf, hb, _, h1, h2⟩ := okFrom_cons I.ok
    cases he : isEff o with
    | true => exact ⟨done, last, _, s, I, .inr ⟨i, ls, r, o, rfl, ho, he⟩⟩
    | false =>
      obtain ⟨hls, hok⟩ := h2 he
      subst hls
      have hrun := I.run
      obtain ⟨hd, c, hw, g1, g2⟩ := step1_cases (aopsD_pure ho hrun)
      have hns : ∀ d, o.dst = some d → d ∉ slots o := fun d hdd => by
        have := (hB.slot i i o o d ho ho hdd).2.1
        rcases this with h | h | h
        · exact h
        · exact absurd (hb i (lt_of_op ho) h) hf
        · rw [he] at h; simp at h
      have hng : ∀ g want d, o.guard = some (g, want) → (ops[g]?).bind (·.dst) = some d → o.dst ≠ some d := fun g want d hg hgd e => by
        have := (hB.slot i i o o d ho ho e).2.2 g want hg hgd
        subst this
        exact hf (hb g (lt_of_op ho) (hB.guard g o g want ho hg).1)
      have key : ∃ v, POk n TY ops (s.put o.dst v) o ∧ aopsD G TY n cm ops r (s.put o.dst v) Q' := by
        cases c with
        | true =>
          obtain ⟨v, k1, k2⟩ := pure_congr (G' := []) he (g1 rfl)
          refine ⟨v, ⟨hd, he, true, hw.of fun g want d hg hgd => put_t_ne (hng g want d hg hgd), fun _ => ⟨v, fun d hdd => by rw [hdd, put_t_eq], fun m K' q1 q2 q3 => k2 m K' (fun x hx => ?_) (fun e => q2 e) q3⟩, nofun⟩, k1⟩
          rw [q1 x hx]
          exact get_of_slots (fun t ht => put_t_ne fun e => hns t e ht) x hx
        | false =>
          exact ⟨.tup [], ⟨hd, he, false, hw.of fun g want d hg hgd => put_t_ne (hng g want d hg hgd), nofun, fun _ d hdd => by rw [hdd, put_t_eq]⟩, g2 rfl⟩
      obtain ⟨v, k1, k2⟩ := key
      have hnl : listed.getD i false = false := by
        cases hl : listed.getD i false with
        | false => rfl
        | true => exact absurd (I.sub i hl) hf
      refine DInv.advance hB r (i :: done) last listed (s.put o.dst v) m γ a w
        { size := I.size
          sub := fun j hj => by simp [I.sub j hj]
          effs := fun j hj hej => by
            rcases List.mem_cons.1 hj with rfl | hj
            · rw [eff_of ho, he] at hej; cases hej
            · exact I.effs j hj hej
          clos := I.clos
          dok := ⟨hb, lt_of_op ho, I.dok⟩
          all := fun j hj => by
            rcases I.all j hj with h | h
            · exact .inl (by simp [h])
            · simp only [List.map_cons, List.mem_cons] at h
              rcases h with rfl | h
              · exact .inl (by simp)
              · exact .inr h
          ok := hok
          run := k2
          rel := I.rel
          agr := ⟨I.agr.h, I.agr.f, I.agr.n⟩
          mt := fun d hd' => by
            rw [I.mt d fun j oj hj hlj hoj => hd' j oj (by simp [hj]) hlj hoj]
            exact (put_t_ne (hd' i o (by simp) hnl ho)).symm
          pend := fun j oj hj hlj hoj => by
            rcases List.mem_cons.1 hj with rfl | hj
            · rw [ho] at hoj; cases hoj; exact k1
            · have hij : j ≠ i := fun e => hf (e ▸ hj)
              have hdep : before b j i = true → False := fun e => hf (I.dok.clos j i hj (lt_of_op ho) e)
              refine (I.pend j oj hj hlj hoj).of (fun t ht => put_t_ne fun e => ?_) (fun g want d hg hgd => put_t_ne fun e => ?_) (fun d hdj => put_t_ne fun e => ?_) (fun _ => ⟨rfl, rfl⟩)
              · rcases (hB.slot j i oj o t hoj ho e).2.1 with h | h | h
                · exact h ht
                · exact hdep h
                · rw [he] at h; simp at h
              · have := (hB.slot j i oj o d hoj ho e).2.2 g want hg hgd
                subst this
                exact hdep (hB.guard j oj g want hoj hg).1
              · rcases (hB.slot j i oj o d hoj ho e).1 with h | h
                · exact hij h
                · exact h hdj }

theorem getD_ft {listed : Array Bool} {i : Nat} (hi : i < listed.size) : listed.getD i true = listed.getD i false := by
  simp [Array.getD_eq_getD_getElem?, Array.getElem?_eq_getElem hi]
theorem ready_of {listed : Array Bool} (hB : OkP ops b) (hs : listed.size = ops.size) {i : Nat} {o : Oper} (ho : ops[i]? = some o) (hn : listed.getD i false = false)
    (hd : ∀ j, j < ops.size → before b i j = true → listed.getD j false = true) : i ∈ Region.ready .any ops listed := by
  refine mem_ready.2 ⟨by rw [getD_ft (by rw [hs]; exact lt_of_op ho)]; exact hn, o, ho, fun e he hb => ?_⟩
  obtain ⟨h1, h2⟩ := hB.edge i o e ho he hb
  exact hd _ h2 h1
theorem listed_all {listed : Array Bool} (hB : OkP ops b) (hs : listed.size = ops.size) (hr : Region.ready .any ops listed = []) : ∀ {d : List Nat}, DoneOk ops b d → ∀ i, i ∈ d → listed.getD i false = true
  | [], _, i, hi => by simp at hi
  | k :: d, ⟨h1, h2, h3⟩, i, hi => by
    have ih := listed_all hB hs hr h3
    rcases List.mem_cons.1 hi with rfl | hi
    · cases hl : listed.getD i false with
      | true => rfl
      | false =>
        have := ready_of hB hs (Array.getElem?_eq_getElem h2) hl fun j hj hb => ih j (h1 j hj hb)
        rw [hr] at this
        simp at this
    · exact ih i hi

theorem DInv.finish {done : List Nat} {last : Option Nat} {rest : List (Nat × List Nat)} {listed : Array Bool} {s m : AS} {γ : Gh} {a : Act} {w : World} (hB : OkP ops b)
    (I : DInv C n G TY cm ops b Q' done last rest listed s m γ a w) (hr : Region.ready .any ops listed = []) : ∃ s', Q' s' ∧ Rel C n γ s' a w := by
  obtain ⟨done', last', rest', s', I', h⟩ := DInv.advance hB rest done last listed s m γ a w I
  have hall := listed_all hB I'.size hr I'.dok
  rcases h with rfl | ⟨e, ls, r, o, rfl, ho, he⟩
  · have hm : m = s' := by
      obtain ⟨mt, mh, mf, mn⟩ := m
      obtain ⟨st, sh, sf, sn⟩ := s'
      have h1 : mh = sh := I'.agr.h
      have h2 : mf = sf := I'.agr.f
      have h3 : mn = sn := I'.agr.n
      have h4 : mt = st := funext fun d => I'.mt d fun i o hi hl _ _ => by rw [hall i hi] at hl; cases hl
      rw [h1, h2, h3, h4]
    exact ⟨s', I'.run, hm ▸ I'.rel⟩
  · obtain ⟨o', ho', hf, hb, _⟩ := okFrom_cons I'.ok
    have hl : listed.getD e false = false := by
      cases hl : listed.getD e false with
      | false => rfl
      | true => exact absurd (I'.sub e hl) hf
    have := ready_of hB I'.size ho hl fun j hj hbj => hall j (hb j hj hbj)
    rw [hr] at this
    simp at this

theorem set_get {listed : Array Bool} {i j : Nat} (hi : i < listed.size) : (listed.setIfInBounds i true).getD j false = (if j = i then true else listed.getD j false) := by
  by_cases h : j = i
  · subst h; simp [Array.getD_eq_getD_getElem?, hi]
  · rw [if_neg h]; exact getD_set_ne false (Ne.symm h)

/-- The listed ones hold what comes ahead of them. -/
theorem clos_set {listed : Array Bool} (hB : OkP ops b) (hs : listed.size = ops.size) {i : Nat} (hi : i ∈ Region.ready .any ops listed)
    (hc : ∀ i j, listed.getD i false = true → j < ops.size → before b i j = true → listed.getD j false = true) :
    (∀ j, j < ops.size → before b i j = true → listed.getD j false = true) ∧
    ∀ k j, (listed.setIfInBounds i true).getD k false = true → j < ops.size → before b k j = true → (listed.setIfInBounds i true).getD j false = true := by
  obtain ⟨h0, o, ho, hall⟩ := mem_ready.1 hi
  have hlt : i < listed.size := by rw [hs]; exact lt_of_op ho
  have key : ∀ j, j < ops.size → before b i j = true → listed.getD j false = true := fun j hj hb => by
    obtain ⟨e, he, h1, h2⟩ := hB.back i o j ho hj hb
    have := hall e he h1
    rcases h2 with rfl | h2
    · exact this
    · exact hc e.on j this hj h2
  refine ⟨key, fun k j hk hj hb => ?_⟩
  rw [set_get hlt] at hk ⊢
  by_cases hji : j = i
  · rw [if_pos hji]
  · rw [if_neg hji]
    by_cases hki : k = i
    · subst hki; exact key j hj hb
    · rw [if_neg hki] at hk; exact hc k j hk hj hb
end
end Go.Dk
