/- Trees: sizes, equality, parts. -/
import Derived.Test.YteamklllllembaaDoorBase
namespace Go.Dk
set_option linter.unusedVariables false
mutual
def T.same : T → T → Bool
  | .mk k n ts, .mk k' n' ts' => decide (k = k') && (decide (n = n') && sameL ts ts')
def sameL : List T → List T → Bool
  | [], [] => true
  | t :: ts, u :: us => t.same u && sameL ts us
  | _, _ => false
end
theorem T.ind {P : T → Prop} (h : ∀ k n ts, (∀ t ∈ ts, P t) → P (.mk k n ts)) : ∀ t, P t
  | .mk k n ts => h k n ts fun t _ => T.ind h t
/-- The nodes below those of a list. -/
def belL : List T → Nat
  | [] => 0
  | t :: ts => sizeL t.kids + belL ts
theorem T.size_eq (t : T) : t.size = 1 + sizeL t.kids := by cases t; simp [T.size, T.kids]
theorem sizeL_bel : ∀ ts : List T, sizeL ts = ts.length + belL ts
  | [] => rfl
  | t :: ts => by simp only [sizeL, belL, T.size_eq, List.length_cons, sizeL_bel ts]; omega
theorem drop_getD {α : Type} [Inhabited α] {ts : List α} {i : Nat} (h : i < ts.length) : ts.drop i = ts.getD i default :: ts.drop (i + 1) := by
  rw [List.drop_eq_getElem_cons h, List.getD_eq_getElem?_getD, List.getElem?_eq_getElem h]; rfl
theorem take_succ_getD {α : Type} [Inhabited α] {ts : List α} {i : Nat} (h : i < ts.length) : ts.take (i + 1) = ts.take i ++ [ts.getD i default] := by
  rw [List.take_succ_eq_append_getElem h, List.getD_eq_getElem?_getD, List.getElem?_eq_getElem h]; rfl
theorem getD_mem {α : Type} [Inhabited α] {ts : List α} {i : Nat} (h : i < ts.length) : ts.getD i default ∈ ts := by
  rw [List.getD_eq_getElem?_getD, List.getElem?_eq_getElem h]; exact List.getElem_mem h
theorem sizeL_mem : ∀ {ts : List T} {t : T}, t ∈ ts → t.size ≤ sizeL ts
  | u :: ts, t, h => by
    rcases List.mem_cons.1 h with rfl | h
    · simp only [sizeL]; omega
    · have := sizeL_mem h; simp only [sizeL]; omega
theorem fitsL_mem : ∀ {ts : List T} {t : T}, fitsL ts → t ∈ ts → t.fits
  | u :: ts, t, hf, h => by
    rcases List.mem_cons.1 h with rfl | h
    · exact hf.1
    · exact fitsL_mem hf.2 h
theorem T.fits_kids {t : T} (h : t.fits) : t.kids.length ≤ 9223372036854775807 ∧ fitsL t.kids := by
  cases t; exact h.2.2
theorem length_le_sizeL : ∀ ts : List T, ts.length ≤ sizeL ts
  | [] => Nat.le_refl _
  | t :: ts => by have := length_le_sizeL ts; have := t.size_eq; simp only [List.length_cons, sizeL]; omega
mutual
theorem T.same_iff : ∀ {a b : T}, a.same b = true ↔ a = b
  | .mk k n ts, .mk k' n' ts' => by simp [T.same, sameL_iff]
theorem sameL_iff : ∀ {a b : List T}, sameL a b = true ↔ a = b
  | [], [] => by simp [sameL]
  | [], _ :: _ => by simp [sameL]
  | _ :: _, [] => by simp [sameL]
  | t :: ts, u :: us => by simp [sameL, T.same_iff, sameL_iff]
end
theorem T.same_eq (a b : T) : a.same b = decide (a.same b = true) := by cases a.same b <;> rfl
theorem sameL_length {a b : List T} (h : a.length ≠ b.length) : sameL a b = false := by
  cases hs : sameL a b with
  | false => rfl
  | true => exact absurd (by rw [sameL_iff.1 hs]) h
theorem sameL_drop {ts us : List T} {i : Nat} (h1 : i < ts.length) (h2 : i < us.length) : sameL (ts.drop i) (us.drop i) = ((ts.getD i default).same (us.getD i default) && sameL (ts.drop (i + 1)) (us.drop (i + 1))) := by
  rw [drop_getD h1, drop_getD h2]; rfl
theorem belL_drop {ts : List T} {i : Nat} (h : i < ts.length) : belL (ts.drop i) = sizeL (ts.getD i default).kids + belL (ts.drop (i + 1)) := by rw [drop_getD h]; rfl
theorem sizeL_drop {ts : List T} {i : Nat} (h : i < ts.length) : sizeL (ts.drop i) = (ts.getD i default).size + sizeL (ts.drop (i + 1)) := by rw [drop_getD h]; rfl
theorem drop_len {α : Type} {ts : List α} {i : Nat} (h : ¬ i < ts.length) : ts.drop i = [] := List.drop_eq_nil_of_le (by omega)
@[reducible] def fr : Tag := .iv 4 4 true (.tok 0)
@[reducible] def T.fr (t : T) : AV := t.av Dk.fr
/-- What is made so far, the rest empty. -/
def fillT (ts : List T) (i : Nat) : List T := ts.take i ++ List.replicate (ts.length - i) (.mk 0 0 [])
theorem fillT_zero (ts : List T) : fillT ts 0 = List.replicate ts.length (.mk 0 0 []) := by simp [fillT]
theorem fillT_full {ts : List T} {i : Nat} (h : ¬ i < ts.length) : fillT ts i = ts := by
  have e : ts.length - i = 0 := by omega
  rw [fillT, e, List.take_of_length_le (by omega)]; simp
theorem fillT_length {ts : List T} {i : Nat} (h : i ≤ ts.length) : (fillT ts i).length = ts.length := by simp [fillT]; omega
theorem fillT_set {ts : List T} {i : Nat} (h : i < ts.length) : (fillT ts i).set i (ts.getD i default) = fillT ts (i + 1) := by
  unfold fillT
  have e : ts.length - i = (ts.length - (i + 1)) + 1 := by omega
  have hl : (ts.take i).length = i := by simp; omega
  rw [e, List.replicate_succ, List.set_append_right _ _ (by omega), hl, Nat.sub_self, List.set_cons_zero, List.take_succ_eq_append_getElem h, List.getD_eq_getElem?_getD, List.getElem?_eq_getElem h]
  simp only [Option.getD_some, List.append_assoc, List.singleton_append]

/- Results. -/
section
variable {K : AV → List AV → Prop}
theorem retB {b b' : Bool} (hk : K (.bool b') []) (h : b = b') : Ret K (.bool b) [] := fin hk h True.intro
theorem retI {k : IntKind} {n n' : Int} (hk : K (.int k n') []) (h : n = n') : Ret K (.int k n) [] := fin hk ⟨rfl, h⟩ True.intro
theorem retT {t : T} {k n : Int} {ts : List T} {g g' : Tag} (hk : K (t.av g') []) (h : T.mk k n ts = t) (hg : g.le g' = true := by rfl) : Ret K (.st [.int .i64 k, .int .i64 n, .slc ts g]) [] := by
  subst h; exact fin hk ⟨⟨rfl, rfl⟩, ⟨rfl, rfl⟩, ⟨rfl, hg⟩, True.intro⟩ True.intro
theorem retS {ts ts' : List T} {g g' : Tag} (hk : K (.slc ts' g') []) (h : ts = ts') (hg : g.le g' = true := by rfl) : Ret K (.slc ts g) [] := fin hk ⟨h, hg⟩ True.intro
theorem retTB {t : T} {k n : Int} {ts : List T} {g g' : Tag} {b b' : Bool} (hk : K (.tup [t.av g', .bool b']) []) (h : T.mk k n ts = t) (hb : b = b') (hg : g.le g' = true := by rfl) : Ret K (.tup [.st [.int .i64 k, .int .i64 n, .slc ts g], .bool b]) [] := by
  subst h hb; exact fin hk ⟨⟨⟨rfl, rfl⟩, ⟨rfl, rfl⟩, ⟨rfl, hg⟩, True.intro⟩, rfl, True.intro⟩ True.intro
theorem retTI {t : T} {k n : Int} {ts : List T} {g g' : Tag} {b b' : Int} (hk : K (.tup [t.av g', .int .i64 b']) []) (h : T.mk k n ts = t) (hb : b = b') (hg : g.le g' = true := by rfl) : Ret K (.tup [.st [.int .i64 k, .int .i64 n, .slc ts g], .int .i64 b]) [] := by
  subst h hb; exact fin hk ⟨⟨⟨rfl, rfl⟩, ⟨rfl, rfl⟩, ⟨rfl, hg⟩, True.intro⟩, ⟨rfl, rfl⟩, True.intro⟩ True.intro
theorem retTR {t : T} {k n : Int} {ts : List T} {g g' : Tag} {bs : List Int} {p p' : Int} (hk : K (t.av g') [.st [.ints .u8 bs .any, .int .i64 p']]) (h : T.mk k n ts = t) (hp : p = p') (hg : g.le g' = true := by rfl) :
    Ret K (.st [.int .i64 k, .int .i64 n, .slc ts g]) [.st [.ints .u8 bs .any, .int .i64 p]] := by
  subst h hp; exact fin hk ⟨⟨rfl, rfl⟩, ⟨rfl, rfl⟩, ⟨rfl, hg⟩, True.intro⟩ ⟨⟨⟨rfl, rfl, rfl⟩, ⟨rfl, rfl⟩, True.intro⟩, True.intro⟩
theorem retTT {t u : T} {g g' h h' : Tag} (hk : K (.tup [t.av g', u.av h']) []) (hg : g.le g' = true := by rfl) (hh : h.le h' = true := by rfl) : Ret K (.tup [t.av g, u.av h]) [] :=
  fin hk ⟨⟨⟨rfl, rfl⟩, ⟨rfl, rfl⟩, ⟨rfl, hg⟩, True.intro⟩, ⟨⟨rfl, rfl⟩, ⟨rfl, rfl⟩, ⟨rfl, hh⟩, True.intro⟩, True.intro⟩ True.intro
theorem retTv {t : T} {g g' : Tag} (hk : K (t.av g') []) (hg : g.le g' = true := by rfl) : Ret K (t.av g) [] :=
  fin hk ⟨⟨rfl, rfl⟩, ⟨rfl, rfl⟩, ⟨rfl, hg⟩, True.intro⟩ True.intro
theorem retBI {b b' : Bool} {n n' : Int} (hk : K (.bool b') [.int .i64 n']) (h : b = b') (hn : n = n') : Ret K (.bool b) [.int .i64 n] := fin hk h ⟨⟨rfl, hn⟩, True.intro⟩
theorem retIB {n n' : Int} {b b' : Bool} (hk : K (.tup [.int .i64 n', .bool b']) []) (h : n = n') (hb : b = b') : Ret K (.tup [.int .i64 n, .bool b]) [] := by
  subst h hb; exact fin hk ⟨⟨rfl, rfl⟩, rfl, True.intro⟩ True.intro
end
theorem inR_succ {i n : Nat} (h : i < n) (hn : n ≤ 9223372036854775807) : InR ((i : Int) + 1) := by unfold InR; omega
theorem natCast_pair {i : Nat} : ((i : Nat) : Int).toNat = i := Int.toNat_natCast i
end Go.Dk
