/- Regions that draw their order: what holds of one order holds of each. -/
import Derived.Test.YtnohobjbblbffaaSound
set_option linter.unusedSimpArgs false
set_option linter.unusedVariables false
namespace Go.Dk
section
variable {P : Program} {C : Fr} {n : Nat} {γ : Gh} {s m : AS} {a : Act} {w : World} {TY : Nat → TyI} {G G' : List (Nat × Con)} {o : Oper} {K : AV → AS → Prop}

/-- A contract's upward closure. -/
def clo (c : Con) : Con := fun args hs K => ∃ K0, c args hs K0 ∧ ∀ r hs, K0 r hs → K r hs
theorem Sound.clo {f : Nat} {c : Con} (h : Sound P f c) : Sound P f (clo c) := by
  refine ⟨h.1, fun args hs K ⟨K0, h1, h2⟩ C vals g1 g2 g3 g4 => ?_⟩
  exact (h.2 args hs K0 h1 C vals g1 g2 g3 g4).mono fun e w' ⟨r, hs', v, γ', k1, k2, k3⟩ => ⟨r, hs', v, γ', k1, h2 _ _ k2, k3⟩
def cloG (G : List (Nat × Con)) : List (Nat × Con) := G.map fun p => (p.1, clo p.2)
theorem cloG_sound (hG : ∀ p ∈ G, Sound P p.1 p.2) : ∀ p ∈ cloG G, Sound P p.1 p.2 := by
  intro p hp
  obtain ⟨q, h1, rfl⟩ := List.mem_map.1 hp
  exact (hG q h1).clo
theorem lkC_clo : ∀ {G : List (Nat × Con)} {f : Nat} {args hs : List AV} {K K' : AV → List AV → Prop}, lkC G f args hs K → (∀ r hs, K r hs → K' r hs) → lkC (cloG G) f args hs K'
  | [], _, _, _, _, _, h, _ => h
  | (g, c) :: r, f, args, hs, K, K', h, hk => by
    simp only [lkC, cloG, List.map_cons] at h ⊢
    cases hb : Nat.beq f g with
    | true => rw [hb] at h; exact ⟨K, h, hk⟩
    | false => rw [hb] at h; exact lkC_clo h hk

theorem conts_congr (hh : m.h = s.h) (hf : m.fh = s.fh) : ∀ ps, conts m ps = conts s ps
  | [] => rfl
  | (true, i) :: r => by simp only [conts, hh, conts_congr hh hf r]
  | (false, i) :: r => by simp only [conts, hf, conts_congr hh hf r]
theorem okConts_congr (hh : m.h = s.h) (hf : m.fh = s.fh) : ∀ ps, okConts m ps = okConts s ps
  | [] => rfl
  | (true, i) :: r => by simp only [okConts, hh, okConts_congr hh hf r]
  | (false, i) :: r => by simp only [okConts, hf, okConts_congr hh hf r]
theorem deref_congr (hh : m.h = s.h) (hf : m.fh = s.fh) {p : AV} {K K' : AV → Prop} (h : deref s p K) (hk : ∀ v, K v → K' v) : deref m p K' := by
  cases p <;> simp only [deref] at h ⊢ <;> first | exact h.elim | exact hk _ h | skip
  · rw [hh]; exact hk _ h
  · rw [hf]; exact hk _ h
  · rw [hh]
    split at h
    · exact hk _ h
    · exact h.elim
  · rw [hf]
    split at h
    · exact hk _ h
    · exact h.elim
  · split at h
    case h_4 => exact h.elim
    all_goals exact hk _ h

theorem deref_val {p : AV} {X : AV → Prop} (h : deref s p X) : ∃ v, deref s p (fun u => u = v) ∧ X v := by
  cases p <;> simp only [deref] at h ⊢ <;> first | exact h.elim | exact ⟨_, rfl, h⟩ | skip
  · split at h
    · exact ⟨_, rfl, h⟩
    · exact h.elim
  · split at h
    · exact ⟨_, rfl, h⟩
    · exact h.elim
  · split at h
    case h_4 => exact h.elim
    all_goals exact ⟨_, rfl, h⟩

structure Agr (m s : AS) : Prop where
  h : m.h = s.h
  f : m.fh = s.fh
  n : m.now = s.now

def Rest (K : AV → AS → Prop) (s m : AS) (st : Bool) (v : AV) (m' : AS) : Prop :=
  ∃ s', K v s' ∧ Agr m' s' ∧ (∀ d, m.t d = s.t d → m'.t d = s'.t d) ∧ (st = false → s'.t = s.t) ∧ ∀ d, (∀ b, s.t d = .bool b → s'.t d = .bool b) ∧ (s.t d = .tup [] → s'.t d = .tup [])
theorem keep_id {s : AS} : ∀ d, (∀ b, s.t d = .bool b → s.t d = .bool b) ∧ (s.t d = .tup [] → s.t d = .tup []) := fun _ => ⟨fun _ h => h, fun h => h⟩
theorem keep_cl {kt kp : Nat → Bool} {s : AS} : ∀ d, (∀ b, s.t d = .bool b → (s.t d).cl kt kp = .bool b) ∧ (s.t d = .tup [] → (s.t d).cl kt kp = .tup []) := fun _ => ⟨fun _ h => by rw [h], fun h => by rw [h]⟩
theorem keep_ws {d' W : Nat} {nv : AV} {s : AS} : ∀ d, (∀ b, s.t d = .bool b → (s.t d).ws d' W nv = .bool b) ∧ (s.t d = .tup [] → (s.t d).ws d' W nv = .tup []) := fun _ => ⟨fun _ h => by rw [h], fun h => by rw [h]⟩

theorem setH_congr (A : Agr m s) {p u v : AV} (h : setH s p u (fun s' => K v s')) : setH m p u (fun m' => Rest K s m true v m') := by
  obtain ⟨h1, h2, h3⟩ := A
  cases p <;> simp only [setH] at h ⊢ <;> first | exact h.elim | skip
  · exact ⟨_, h, ⟨by rw [h1], h2, h3⟩, fun _ e => e, fun _ => rfl, keep_id⟩
  · exact ⟨_, h, ⟨h1, by rw [h2], h3⟩, fun _ e => e, fun _ => rfl, keep_id⟩
  · rw [h1]
    split at h
    · exact ⟨_, h, ⟨rfl, h2, h3⟩, fun _ e => e, fun _ => rfl, keep_id⟩
    · exact h.elim
  · rw [h2]
    split at h
    · exact ⟨_, h, ⟨h1, rfl, h3⟩, fun _ e => e, fun _ => rfl, keep_id⟩
    · exact h.elim
  · split at h
    case h_2 => exact h.elim
    split at h
    case h_2 => exact h.elim
    split at h
    case h_2 => exact h.elim
    exact ⟨_, h, ⟨by simp only [h1], by simp only [h2], h3⟩, fun d e => by simp only [e], nofun, keep_ws⟩
  · split at h
    case h_2 => exact h.elim
    split at h
    case h_2 => exact h.elim
    exact ⟨_, h, ⟨by simp only [h1], by simp only [h2], h3⟩, fun d e => by simp only [e], nofun, keep_ws⟩

theorem wb_congr (now al : Nat) : ∀ (ps : List (Bool × Nat)) (hs : List AV) {s m : AS} {K K' : AS → Prop}, wb now al ps hs s K → Agr m s →
    (∀ s' m', K s' → Agr m' s' → s'.t = s.t → m'.t = m.t → K' m') → wb now al ps hs m K'
  | [], hs, s, m, K, K', h, A, hk => by
    have h : K s := by cases hs <;> exact h
    have : K' m := hk s m h A rfl rfl
    cases hs <;> exact this
  | (b, i) :: r, [], s, m, K, K', h, A, hk => by cases b <;> exact h.elim
  | (true, i) :: r, v :: hs, s, m, K, K', h, A, hk => by
    simp only [wb, force_eq] at h ⊢
    exact wb_congr now al r hs h ⟨by simp [A.h], A.f, A.n⟩ hk
  | (false, i) :: r, v :: hs, s, m, K, K', h, A, hk => by
    simp only [wb, force_eq] at h ⊢
    exact wb_congr now al r hs h ⟨A.h, by simp [A.f], A.n⟩ hk

theorem acall_congr (A : Agr m s) {d : Option Nat} {f : Nat} {args : List AV} (h : acall G true s d f args K) : acall (cloG G) true m d f args (fun v m' => Rest K s m false v m') := by
  unfold acall at h ⊢
  rw [okConts_congr A.h A.f, conts_congr A.h A.f]
  split at h
  case h_1 => exact h.elim
  case h_2 => exact h.elim
  refine lkC_clo h fun r hs hk => ?_
  rw [A.n]
  refine wb_congr s.now _ _ _ hk ⟨A.h, A.f, rfl⟩ fun s' m' h1 h2 h3 h4 => ?_
  have fin : ∀ {v : AV}, K v s' → Rest K s m false v m' := fun hv => ⟨s', hv, h2, fun d e => by rw [h3, h4]; exact e, fun _ => h3, by rw [h3]; exact keep_id⟩
  cases d with
  | none => cases r <;> first | exact fin h1 | exact h1.elim
  | some d =>
    cases r <;> first
      | exact fin h1
      | exact (show False from h1).elim
      | (rename_i u1 u2; cases ht : tok3 (AV.slc u1 u2) <;> (simp only [ht] at h1 ⊢; exact fin h1))
      | (rename_i u1 u2 u3; cases ht : tok3 (AV.ints u1 u2 u3) <;> (simp only [ht] at h1 ⊢; exact fin h1))
      | (rename_i u; cases ht : tok3 (AV.tup u) <;> (simp only [ht] at h1 ⊢; exact fin h1))
      | (rename_i u; cases ht : tok3 (AV.st u) <;> (simp only [ht] at h1 ⊢; exact fin h1))

theorem mapGets_congr {l : List Operand} (hx : ∀ x ∈ l, m.get x = s.get x) : mapGets m l = mapGets s l := by
  induction l with
  | nil => rfl
  | cons x r ih => simp only [mapGets, hx x (by simp), ih fun y hy => hx y (by simp [hy])]
theorem getT_congr {t : Nat} {x : Operand} (hx : m.get x = s.get x) : m.getT TY t x = s.getT TY t x := by
  cases x <;> first | exact hx | rfl
theorem mapGetsT_congr : ∀ {ts : List Nat} {l : List Operand}, (∀ x ∈ l, m.get x = s.get x) → mapGetsT TY m ts l = mapGetsT TY s ts l
  | [], [], _ => rfl
  | _ :: _, [], _ => rfl
  | [], x :: r, hx => by simp only [mapGetsT, hx x (by simp), mapGetsT_congr (ts := []) (l := r) fun y hy => hx y (by simp [hy])]
  | t :: ts, x :: r, hx => by simp only [mapGetsT, getT_congr (hx x (by simp)), mapGetsT_congr (ts := ts) (l := r) fun y hy => hx y (by simp [hy])]
theorem mapGet_congr {l : List (Nat × Operand)} (hx : ∀ p ∈ l, m.get p.2 = s.get p.2) : mapGet m l = mapGet s l := by
  induction l with
  | nil => rfl
  | cons x r ih => obtain ⟨i, x⟩ := x; simp only [mapGet, hx (i, x) (by simp), ih fun y hy => hx y (by simp [hy])]
theorem setParts_congr : ∀ {l : List (Nat × Operand)} (zs : List AV), (∀ p ∈ l, m.get p.2 = s.get p.2) → setParts m zs l = setParts s zs l
  | [], zs, _ => rfl
  | (i, x) :: r, zs, hx => by simp only [setParts, hx (i, x) (by simp)]; exact setParts_congr _ fun y hy => hx y (by simp [hy])
theorem partsOk_congr {k : Nat} : ∀ {l : List (Nat × Operand)}, (∀ p ∈ l, m.get p.2 = s.get p.2) → partsOk m k l = partsOk s k l
  | [], _ => rfl
  | (i, x) :: r, hx => by simp only [partsOk, hx (i, x) (by simp), partsOk_congr (l := r) fun y hy => hx y (by simp [hy])]
theorem tagsOf_dr (l : List (T × Tag)) (a b : Nat) : tagsOf l true a = tagsOf l true b := by
  cases l with
  | nil => rfl
  | cons p r =>
    simp only [tagsOf]
    cases litM (p :: r) <;> rfl

theorem cmp_det {op : BinOp} {a b : Int} {K : AV → Prop} (h : cmpAV op a b K) : ∃ v, K v ∧ ∀ K' : AV → Prop, K' v → cmpAV op a b K' := by
  cases op <;> simp only [cmpAV] at h ⊢ <;> first | exact h.elim | exact ⟨_, h, fun _ hk => hk⟩
theorem i64_det {op : BinOp} {a b : Int} {K : AV → Prop} (hx : op ≠ .xor) (h : i64AV op a b K) : ∃ v, K v ∧ ∀ K' : AV → Prop, K' v → i64AV op a b K' := by
  cases op <;> simp only [i64AV] at h ⊢ <;> first
    | exact absurd rfl hx
    | exact cmp_det h
    | exact ⟨_, h.2, fun _ hk => ⟨h.1, hk⟩⟩
theorem u8_det {op : BinOp} {a b : Int} {K : AV → Prop} (h : u8AV op a b K) : ∃ v, K v ∧ ∀ K' : AV → Prop, K' v → u8AV op a b K' := by
  cases op <;> simp only [u8AV] at h ⊢ <;> first
    | exact cmp_det h
    | exact ⟨_, h.2, fun _ hk => ⟨h.1, hk⟩⟩
theorem bin_det {k : TyK} {op : BinOp} {p q : AV} {K : AV → Prop} (hx : op ≠ .xor) (h : binAV k op p q K) : ∃ v, K v ∧ ∀ K' : AV → Prop, K' v → binAV k op p q K' := by
  unfold binAV at h
  split at h
  case h_5 => exact h.elim
  case h_1 k1 a k2 b =>
    split at h
    case h_3 => exact h.elim
    case h_1 he =>
      obtain ⟨v, h1, h2⟩ := i64_det hx h
      exact ⟨v, h1, fun K' hk => by simp only [binAV, he]; exact h2 K' hk⟩
    case h_2 he =>
      obtain ⟨v, h1, h2⟩ := u8_det h
      exact ⟨v, h1, fun K' hk => by simp only [binAV, he]; exact h2 K' hk⟩
  case h_2 a b =>
    split at h
    case h_3 => exact h.elim
    all_goals exact ⟨_, h, fun _ hk => hk⟩
  case h_3 a b =>
    split at h
    case h_4 => exact h.elim
    case h_3 => exact ⟨_, h.2, fun _ hk => ⟨h.1, hk⟩⟩
    all_goals exact ⟨_, h, fun _ hk => hk⟩
  case h_4 =>
    split at h
    case h_3 => exact h.elim
    all_goals exact ⟨_, h, fun _ hk => hk⟩
theorem len_det {k : TyK} {p : AV} {K : AV → Prop} (h : len k p K) : ∃ v, K v ∧ ∀ K' : AV → Prop, K' v → len k p K' := by
  unfold len at h
  split at h
  case h_5 => exact h.elim
  all_goals exact ⟨_, h, fun _ hk => hk⟩
theorem lowOf_congr {lo : Option Operand} (hx : ∀ x, lo = some x → m.get x = s.get x) : lowOf m lo = lowOf s lo := by
  cases lo with
  | none => rfl
  | some x => simp only [lowOf, hx x rfl]

/-- A PURE OPERATION computes from its operands alone (a read: from the variables, too). -/
theorem pure_congr (hp : isEff o = false) (h : aop G TY true s o K) :
    ∃ v, K v s ∧ ∀ (m : AS) (K' : AV → AS → Prop), (∀ x ∈ o.op.operands, m.get x = s.get x) → (isLoad o = true → m.h = s.h ∧ m.fh = s.fh) → K' v m → aop G' TY true m o K' := by
  cases hop : o.op <;> simp only [isEff, hop] at hp <;> (try cases hp) <;> simp only [aop, hop, nilCmp] at h ⊢ <;> (try exact h.elim) <;> simp only [Op.operands]
  case move x => exact ⟨_, h, fun m K' hx _ hk => by rw [hx x (by simp)]; exact hk⟩
  case pick c x y =>
    split at h
    case h_2 => exact h.elim
    rename_i b hb
    exact ⟨_, h, fun m K' hx _ hk => by rw [hx c (by simp), hx x (by simp), hx y (by simp), hb]; exact hk⟩
  case build ty ps =>
    split at h
    case h_2 => exact h.elim
    rename_i zs _
    split at h
    case h_2 => exact h.elim
    rename_i hq
    refine ⟨_, h, fun m K' hx _ hk => ?_⟩
    have hx' : ∀ p ∈ ps.toList, m.get p.2 = s.get p.2 := fun p hp => hx p.2 (by simp; exact ⟨p.1, by simpa using hp⟩)
    rw [partsOk_congr hx', setParts_congr _ hx', hq]
    exact hk
  case buildSlice ty l ps =>
    split at h
    case h_2 => exact h.elim
    unfold buildS at h
    split at h
    case h_4 => exact h.elim
    case h_1 hk1 hk2 =>
      split at h
      case h_2 => exact h.elim
      rename_i l hl
      refine ⟨_, h, fun m K' hx _ hk => ?_⟩
      have hx' : ∀ p ∈ ps.toList, m.get p.2 = s.get p.2 := fun p hp => hx p.2 (by simp; exact ⟨p.1, by simpa using hp⟩)
      rw [mapGet_congr hx']
      simp only [buildS, hk1, hk2, hl]
      rw [tagsOf_dr l m.now s.now]
      exact hk
    case h_2 hk1 hk2 =>
      split at h
      case h_2 => exact h.elim
      rename_i k' ns hl
      split at h
      case h_1 hv =>
        refine ⟨_, h, fun m K' hx _ hk => ?_⟩
        have hx' : ∀ p ∈ ps.toList, m.get p.2 = s.get p.2 := fun p hp => hx p.2 (by simp; exact ⟨p.1, by simpa using hp⟩)
        rw [mapGet_congr hx']
        simp only [buildS, hk1, hk2, hl]
        rw [hv]
        exact hk
      case h_2 hv =>
        split at h
        case h_2 => exact h.elim
        rename_i hk3
        refine ⟨_, h, fun m K' hx _ hk => ?_⟩
        have hx' : ∀ p ∈ ps.toList, m.get p.2 = s.get p.2 := fun p hp => hx p.2 (by simp; exact ⟨p.1, by simpa using hp⟩)
        rw [mapGet_congr hx']
        simp only [buildS, hk1, hk2]
        revert hl hv
        generalize mapGet s ps.toList = l
        intro hl hv
        cases l with
        | nil => exact absurd rfl hv
        | cons q r => simp only [hl, hk3]; exact hk
    case h_3 hk1 hk2 =>
      split at h
      case h_2 => exact h.elim
      rename_i l hl
      refine ⟨_, h, fun m K' hx _ hk => ?_⟩
      have hx' : ∀ p ∈ ps.toList, m.get p.2 = s.get p.2 := fun p hp => hx p.2 (by simp; exact ⟨p.1, by simpa using hp⟩)
      rw [mapGet_congr hx']
      simp only [buildS, hk1, hk2, hl]
      exact hk
  case load ty x =>
    have key : ∃ v, deref s (s.get x) (fun u => u = v) ∧ shape (TY ty).k v = true ∧ K v s := by
      obtain ⟨v, h1, h2⟩ := deref_val h
      split at h2
      case h_2 => exact h2.elim
      rename_i hs
      exact ⟨v, h1, hs, h2⟩
    obtain ⟨v, h1, h2, h3⟩ := key
    refine ⟨v, h3, fun m K' hx hl hk => ?_⟩
    rw [hx x (by simp)]
    obtain ⟨e1, e2⟩ := hl (by simp [isLoad, hop])
    refine deref_congr e1 e2 h1 fun u hu => ?_
    subst hu
    rw [h2]; exact hk
  case nilCheck x =>
    refine ⟨s.get x, ?_, fun m K' hx _ hk => ?_⟩
    · revert h; generalize s.get x = p; intro h
      cases p <;> first | exact h.elim | exact h
    · rw [hx x (by simp)]
      revert h hk; generalize s.get x = p; intro h hk
      cases p <;> first | exact h.elim | exact hk
  case fieldAddr ty x j =>
    split at h
    case h_2 => exact h.elim
    rename_i zs hz
    split at h
    case h_1 hj hp => exact ⟨_, h, fun m K' hx _ hk => by simp only [hx x (by simp), hj, hp]; exact hk⟩
    case h_2 hj hp => exact ⟨_, h, fun m K' hx _ hk => by simp only [hx x (by simp), hj, hp]; exact hk⟩
    case h_3 fs hj hp =>
      split at h
      case h_2 => exact h.elim
      rename_i hl
      exact ⟨_, h, fun m K' hx _ hk => by simp only [hx x (by simp), hj, hp, hl]; exact hk⟩
    case h_4 => exact h.elim
  case indexAddr ty x i =>
    unfold indexA at h
    split at h
    case h_4 => exact h.elim
    all_goals
      rename_i hk1 hp1 hi1
      exact ⟨_, h.2, fun m K' hx _ hk => by rw [hx x (by simp), hx i (by simp)]; simp only [indexA, hk1, hp1, hi1]; exact ⟨h.1, hk⟩⟩
  case index ty x i =>
    split at h
    case h_2 => exact h.elim
    rename_i hk1 hp1 hi1
    exact ⟨_, h.2, fun m K' hx _ hk => by simp only [hx x (by simp), hx i (by simp), hk1, hp1, hi1]; exact ⟨h.1, hk⟩⟩
  case unOp op ty x =>
    split at h
    case h_1 hp1 => exact ⟨_, h, fun m K' hx _ hk => by simp only [hx x (by simp), hp1]; exact hk⟩
    case h_2 hp1 => exact ⟨_, h.2, fun m K' hx _ hk => by simp only [hx x (by simp), hp1]; exact ⟨h.1, hk⟩⟩
    case h_3 => exact h.elim
  case extract x i =>
    split at h
    case h_2 => exact h.elim
    rename_i vs hv
    split at h
    case h_2 => exact h.elim
    rename_i hi
    exact ⟨_, h, fun m K' hx _ hk => by simp only [hx x (by simp), hv, hi]; exact hk⟩
  case binOp op ty x y ty' =>
    obtain ⟨v, h1, h2⟩ := bin_det (fun e => by rw [e] at hp; cases hp) h
    exact ⟨v, h1, fun m K' hx _ hk => by rw [hx x (by simp), hx y (by simp)]; exact h2 _ hk⟩
  case convert src dst x =>
    split at h
    case h_3 => exact h.elim
    case h_1 hk1 hk2 hp1 =>
      split at h
      case h_3 => exact h.elim
      all_goals exact ⟨_, h.2, fun m K' hx _ hk => by simp only [hk1, hk2, hx x (by simp), hp1]; exact ⟨h.1, hk⟩⟩
    case h_2 hk1 hk2 hp1 => exact ⟨_, h, fun m K' hx _ hk => by simp only [hk1, hk2, hx x (by simp), hp1]; exact hk⟩
  case makeFunc f first caps =>
    split at h
    case h_2 => exact h.elim
    rename_i hf hc
    refine ⟨_, h, fun m K' hx _ hk => ?_⟩
    have e : mapGets m caps.toList = mapGets s caps.toList := mapGets_congr fun x hm => hx x (by simp; exact .inr (by simpa using hm))
    simp only [e, hf, hc]
    exact hk
  case slice ty x lo hi mx =>
    cases mx with
    | some _ => exact h.elim
    | none =>
      simp only at h ⊢
      split at h
      case h_3 => exact h.elim
      all_goals
        rename_i hk1 hx1 hlo
        cases hi with
        | none =>
          refine ⟨_, h.2, fun m K' hx _ hk => ?_⟩
          have e := lowOf_congr (lo := lo) (m := m) (s := s) fun y hy => hx y (by subst hy; simp)
          simp only [hk1, hx x (by simp), hx1, e, hlo]
          exact ⟨h.1, hk⟩
        | some y =>
          simp only at h
          split at h
          case h_2 => exact h.elim
          rename_i hy
          refine ⟨_, h.2, fun m K' hx _ hk => ?_⟩
          have e := lowOf_congr (lo := lo) (m := m) (s := s) fun y hy => hx y (by subst hy; simp)
          simp only [hk1, hx x (by simp), hx1, e, hlo, hx y (by simp), hy]
          exact ⟨h.1, hk⟩
  case call c =>
    split at h
    case h_1 hc => simp [hc] at hp
    case h_3 => exact h.elim
    case h_2 b hc =>
      have hcx : ∀ {m : AS}, (∀ x ∈ c.operands, m.get x = s.get x) → mapGets m c.args.toList = mapGets s c.args.toList := fun hx => mapGets_congr fun x hm => hx x (by simp [Call.operands]; exact .inr (by simpa using hm))
      split at h
      case h_4 => exact h.elim
      case h_3 => simp [hc] at hp
      case h_1 hat har =>
        obtain ⟨v, h1, h2⟩ := len_det h
        exact ⟨v, h1, fun m K' hx _ hk => by simp only [hcx hx, hat, har]; exact h2 _ hk⟩
      case h_2 hat har => exact ⟨_, h, fun m K' hx _ hk => by simp only [hcx hx, hat, har]; exact hk⟩
end
end Go.Dk
