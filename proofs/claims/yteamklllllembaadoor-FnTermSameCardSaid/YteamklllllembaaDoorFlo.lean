/- Two operations of a drawing region that nothing orders: each order of the two is looked at. -/
import Derived.Test.YteamklllllembaaDoorDraw5
namespace Go.Dk
section
variable {P : Program} {ops : Array Oper} {Q : Exit → Act → World → Prop}

theorem addE_size (ops : Array Oper) (i j : Nat) : (addE ops i j).size = ops.size := by
  unfold addE
  split <;> simp
theorem addE_get (ops : Array Oper) (i j k : Nat) : (addE ops i j)[k]? = (ops[k]?).map fun o => if k = i then { o with after := o.after.push ⟨j, .data⟩ } else o := by
  unfold addE
  cases h : ops[i]? with
  | none =>
    by_cases e : k = i
    · subst e; simp [h]
    · simp [e]
  | some o =>
    have hi := lt_of_op h
    simp only [Array.getElem?_setIfInBounds]
    by_cases e : i = k
    · subst e; rw [if_pos rfl, if_pos hi, h]; simp
    · rw [if_neg e]
      cases ops[k]? with
      | none => rfl
      | some o' => simp [Ne.symm e]
theorem wpOp_addE {x e i : Nat} {K : Act → World → Prop} {a : Act} {w : World} : wpOp P (addE ops x e) Q i K a w ↔ wpOp P ops Q i K a w := by
  have hy : yielded (addE ops x e) a.tmps = yielded ops a.tmps := by
    funext k
    unfold yielded
    rw [addE_get]
    cases ops[k]? with
    | none => rfl
    | some o =>
      have : (if k = x then { o with after := o.after.push ⟨e, .data⟩ } else o).dst = o.dst := by split <;> rfl
      simp only [Option.map_some, Option.bind_some, this]
  unfold wpOp
  rw [hy, addE_get]
  cases h : ops[i]? with
  | none => exact Iff.rfl
  | some o =>
    simp only [Option.map_some]
    by_cases hi : i = x
    · rw [if_pos hi]; cases o; exact Iff.rfl
    · rw [if_neg hi]
theorem wpOps_addE {x e : Nat} : ∀ (L : List Nat) (a : Act) (w : World), wpOps P (addE ops x e) Q L a w → wpOps P ops Q L a w
  | [], a, w, h => by simpa [wpOps] using h
  | i :: L, a, w, h => by
    rw [wpOps_cons] at h ⊢
    exact wpOp_mono (fun a w => wpOps_addE L a w) (wpOp_addE.1 h)

/-- An order that the operations may take. -/
def Sched (ops : Array Oper) : Nat → Array Bool → List Nat → Prop
  | 0, _, L => L = []
  | fuel + 1, listed, L => (Region.ready .any ops listed = [] ∧ L = []) ∨ ∃ i L', i ∈ Region.ready .any ops listed ∧ L = i :: L' ∧ Sched ops fuel (listed.setIfInBounds i true) L'
theorem sched_lin : ∀ (fuel t : Nat) (listed : Array Bool), Sched ops fuel listed (Region.linearise.go .any ops fuel t listed []) := by
  intro fuel
  induction fuel with
  | zero => intro t listed; simp [Region.linearise.go, Sched]
  | succ fuel ih =>
    intro t listed
    simp only [Region.linearise.go]
    change Sched ops (fuel + 1) listed (match (Region.ready .any ops listed)[t % (Region.ready .any ops listed).length]? with
      | some i => Region.linearise.go .any ops fuel (t / (Region.ready .any ops listed).length) (listed.setIfInBounds i true) [i]
      | none => [].reverse)
    cases hi : (Region.ready .any ops listed)[t % (Region.ready .any ops listed).length]? with
    | none =>
      refine .inl ⟨?_, rfl⟩
      cases hr : Region.ready .any ops listed with
      | nil => rfl
      | cons x xs =>
        rw [hr] at hi
        have hlt : t % (x :: xs).length < (x :: xs).length := Nat.mod_lt _ (by simp)
        simp at hi
        simp at hlt
        omega
    | some i =>
      simp only []
      rw [linearise_go_acc, List.reverse_singleton, List.singleton_append]
      exact .inr ⟨i, _, List.mem_of_getElem? hi, rfl, ih _ _⟩
theorem sched_wp : ∀ (fuel : Nat) (listed : Array Bool) (L : List Nat) (a : Act) (w : World), Sched ops fuel listed L → wpAny P .any ops Q fuel listed a w → wpOps P ops Q L a w
  | 0, listed, L, a, w, hs, h => by
    have : L = [] := hs
    subst this
    simpa [wpOps] using h.2
  | fuel + 1, listed, L, a, w, hs, h => by
    rcases hs with ⟨hr, rfl⟩ | ⟨i, L', hi, rfl, hs⟩
    · simpa [wpOps] using h.1 hr
    · rw [wpOps_cons]
      exact wpOp_mono (fun a w => sched_wp fuel _ L' a w hs) (h.2 i hi)

theorem ready_addE {x e k : Nat} {listed : Array Bool} : k ∈ Region.ready .any (addE ops x e) listed ↔ k ∈ Region.ready .any ops listed ∧ (k = x → listed.getD e false = true) := by
  rw [mem_ready, mem_ready, addE_get]
  constructor
  · rintro ⟨h0, o, ho, hall⟩
    cases hk : ops[k]? with
    | none => rw [hk] at ho; cases ho
    | some o' =>
      rw [hk] at ho
      simp only [Option.map_some, Option.some.injEq] at ho
      by_cases hx : k = x
      · rw [if_pos hx] at ho
        subst ho
        exact ⟨⟨h0, o', rfl, fun d hd hb => hall d (by simp [hd]) hb⟩, fun _ => hall ⟨e, .data⟩ (by simp) rfl⟩
      · rw [if_neg hx] at ho
        subst ho
        exact ⟨⟨h0, o', rfl, hall⟩, fun h => absurd h hx⟩
  · rintro ⟨⟨h0, o, ho, hall⟩, he⟩
    refine ⟨h0, if k = x then { o with after := o.after.push ⟨e, .data⟩ } else o, by rw [ho]; rfl, fun d hd hb => ?_⟩
    by_cases hx : k = x
    · rw [if_pos hx] at hd
      simp only [Array.mem_push] at hd
      rcases hd with hd | rfl
      · exact hall d hd hb
      · exact he hx
    · rw [if_neg hx] at hd
      exact hall d hd hb
theorem ready_nil_addE {x e : Nat} {listed : Array Bool} (h : Region.ready .any ops listed = []) : Region.ready .any (addE ops x e) listed = [] :=
  List.eq_nil_iff_forall_not_mem.2 fun k hk => by
    have := (ready_addE.1 hk).1
    rw [h] at this
    simp at this
theorem getD_set_or {listed : Array Bool} {i j : Nat} (h : listed.getD j false = true) : (listed.setIfInBounds i true).getD j false = true := by
  by_cases e : i = j
  · subst e
    by_cases hi : i < listed.size
    · simp [Array.getD_eq_getD_getElem?, hi]
    · rw [Array.getD_eq_getD_getElem?, Array.getElem?_eq_none (by omega)] at h; cases h
  · rw [getD_set_ne false e]; exact h
/-- e has come: nothing waits for it. -/
theorem sched_done {x e : Nat} : ∀ (fuel : Nat) (listed : Array Bool) (L : List Nat), listed.getD e false = true → Sched ops fuel listed L → Sched (addE ops x e) fuel listed L
  | 0, _, _, _, hs => hs
  | fuel + 1, listed, L, he, hs => by
    rcases hs with ⟨hr, rfl⟩ | ⟨i, L', hi, rfl, hs⟩
    · exact .inl ⟨ready_nil_addE hr, rfl⟩
    · exact .inr ⟨i, L', ready_addE.2 ⟨hi, fun _ => he⟩, rfl, sched_done fuel _ L' (getD_set_or he) hs⟩
theorem sched_split {x e : Nat} (hne : x ≠ e) : ∀ (fuel : Nat) (listed : Array Bool) (L : List Nat), Sched ops fuel listed L → listed.size = ops.size → Sched (addE ops x e) fuel listed L ∨ Sched (addE ops e x) fuel listed L
  | 0, _, _, hs, _ => .inl hs
  | fuel + 1, listed, L, hs, hz => by
    rcases hs with ⟨hr, rfl⟩ | ⟨i, L', hi, rfl, hs⟩
    · exact .inl (.inl ⟨ready_nil_addE hr, rfl⟩)
    · have hlt : i < listed.size := by
        obtain ⟨_, o, ho, _⟩ := mem_ready.1 hi
        rw [hz]; exact lt_of_op ho
      have hset : (listed.setIfInBounds i true).getD i false = true := by rw [set_get hlt, if_pos rfl]
      by_cases h1 : i = x
      · subst h1
        exact .inr (.inr ⟨i, L', ready_addE.2 ⟨hi, fun h => absurd h hne⟩, rfl, sched_done fuel _ L' hset hs⟩)
      · by_cases h2 : i = e
        · subst h2
          exact .inl (.inr ⟨i, L', ready_addE.2 ⟨hi, fun h => absurd h h1⟩, rfl, sched_done fuel _ L' hset hs⟩)
        · rcases sched_split hne fuel _ L' hs (by simp [hz]) with h | h
          · exact .inl (.inr ⟨i, L', ready_addE.2 ⟨hi, fun h => absurd h h1⟩, rfl, h⟩)
          · exact .inr (.inr ⟨i, L', ready_addE.2 ⟨hi, fun h => absurd h h2⟩, rfl, h⟩)
end

section
variable {P : Program} {C : Fr} {n : Nat} {TY : Nat → TyI} {G : List (Nat × Con)} {Q' : AS → Prop}
theorem flo_wp (hG : ∀ p ∈ G, Sound P p.1 p.2) (hT : TyOk P TY) {Q : Exit → Act → World → Prop} {s : AS} {γ : Gh} {a : Act} {w : World}
    (hq : ∀ s' γ' a' w', Q' s' → Rel C n γ' s' a' w' → Q .normal a' w') (R : Rel C n γ s a w) : ∀ (fuel : Nat) (ops : Array Oper), drawP G TY n fuel ops s Q' →
    ∀ L, Sched ops ops.size (Array.replicate ops.size false) L → wpOps P ops Q L a { w with drawn := w.drawn + 1 }
  | 0, ops, h, L, hs => h.elim
  | fuel + 1, ops, h, L, hs => by
    simp only [drawP] at h
    split at h
    case h_1 h1 => exact sched_wp _ _ L _ _ hs (drawn_all hG hT hq R h1 h)
    case h_2 h1 =>
      split at h
      case h_2 => exact h.elim
      case h_1 x e hp =>
        split at h
        case h_1 => exact h.elim
        case h_2 hne =>
          have hne : x ≠ e := fun e' => by subst e'; simp at hne
          rcases sched_split hne _ _ L hs (by simp) with hs | hs
          · have hs : Sched (addE ops x e) (addE ops x e).size (Array.replicate (addE ops x e).size false) L := by rw [addE_size]; exact hs
            exact wpOps_addE L _ _ (flo_wp hG hT hq R fuel _ h.1 L hs)
          · have hs : Sched (addE ops e x) (addE ops e x).size (Array.replicate (addE ops e x).size false) L := by rw [addE_size]; exact hs
            exact wpOps_addE L _ _ (flo_wp hG hT hq R fuel _ h.2 L hs)
theorem pla_wp (hG : ∀ p ∈ G, Sound P p.1 p.2) (hT : TyOk P TY) {Q : Exit → Act → World → Prop} {s : AS} {γ : Gh} {a : Act} {w : World}
    (hq : ∀ s' γ' a' w', Q' s' → Rel C n γ' s' a' w' → Q .normal a' w') (R : Rel C n γ s a w) : ∀ (p : Plan) (ops : Array Oper), drawL G TY n p ops s Q' →
    ∀ L, Sched ops ops.size (Array.replicate ops.size false) L → wpOps P ops Q L a { w with drawn := w.drawn + 1 }
  | .no, ops, h, L, hs => flo_wp hG hT hq R 12 ops h L hs
  | .ord l, ops, h, L, hs => by
    simp only [drawL] at h
    split at h
    case h_1 h1 => exact sched_wp _ _ L _ _ hs (drawn_all hG hT hq R h1 h)
    case h_2 => exact h.elim
  | .two x e l r, ops, h, L, hs => by
    simp only [drawL] at h
    split at h
    case h_1 => exact h.elim
    case h_2 hne =>
      have hne : x ≠ e := fun e' => by subst e'; simp at hne
      rcases sched_split hne _ _ L hs (by simp) with hs | hs
      · have hs : Sched (addE ops x e) (addE ops x e).size (Array.replicate (addE ops x e).size false) L := by rw [addE_size]; exact hs
        exact wpOps_addE L _ _ (pla_wp hG hT hq R l _ h.1 L hs)
      · have hs : Sched (addE ops e x) (addE ops e x).size (Array.replicate (addE ops e x).size false) L := by rw [addE_size]; exact hs
        exact wpOps_addE L _ _ (pla_wp hG hT hq R r _ h.2 L hs)
theorem draw_wp_plan (hm : P.follows .mixedOrders = true) (hG : ∀ p ∈ G, Sound P p.1 p.2) (hT : TyOk P TY) {id : Nat} {ops : Array Oper} {Q : Exit → Act → World → Prop} {s : AS} {γ : Gh} {a : Act} {w : World}
    (hq : ∀ s' γ' a' w', Q' s' → Rel C n γ' s' a' w' → Q .normal a' w') (R : Rel C n γ s a w) {p : Plan} (h : drawL G TY n p ops s Q') : (Code.region id ops true).wp P Q a w :=
  wp_region_draw fun t => by
    simp only [Region.schedule, hm, Bool.true_or, if_true]
    exact pla_wp hG hT hq R p ops h _ (sched_lin _ _ _)
theorem draw_wp (hm : P.follows .mixedOrders = true) (hG : ∀ p ∈ G, Sound P p.1 p.2) (hT : TyOk P TY) {id : Nat} {ops : Array Oper} {Q : Exit → Act → World → Prop} {s : AS} {γ : Gh} {a : Act} {w : World}
    (hq : ∀ s' γ' a' w', Q' s' → Rel C n γ' s' a' w' → Q .normal a' w') (R : Rel C n γ s a w) {fuel : Nat} (h : drawP G TY n fuel ops s Q') : (Code.region id ops true).wp P Q a w :=
  wp_region_draw fun t => by
    simp only [Region.schedule, hm, Bool.true_or, if_true]
    exact flo_wp hG hT hq R fuel ops h _ (sched_lin _ _ _)
end
end Go.Dk
