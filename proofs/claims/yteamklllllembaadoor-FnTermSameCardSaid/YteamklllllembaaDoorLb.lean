/- Functions of the library, as the machine's contracts. -/
import Derived.Test.YteamklllllembaaDoorSh
import Derived.Test.YteamklllllembaaDoorTx
import Derived.Lib.SmallJoins
import Derived.Lib.AtoiErrMem
import Derived.Below
namespace Go.Dk
set_option linter.unusedVariables false
open Go.Proofs Go.RowKit
/-- The texts of the kinds, with a dot for each operand. -/
def shapesL : List (List UInt8) := [[35], [42], [40, 46, 62, 46, 41], [91, 46, 93, 46], [40, 46, 32, 46, 41], [78], [48], [43, 46], [60, 46, 44, 46, 44, 46, 44, 46, 62], [123, 46, 44, 46, 44, 46, 125], [33, 46], [64, 60, 46, 44, 46, 44, 46, 62], [40, 46, 42, 46, 41], [124, 46, 44, 46, 44, 46, 124], [94, 46], [95, 46]]
/-- Their first bytes. -/
def firsts : List UInt8 := [35, 42, 40, 91, 40, 78, 48, 43, 60, 123, 33, 64, 40, 124, 94, 95]
def IsShapes (ss : List (List UInt8)) : Prop := ss = shapesL
def IsShape (i : Nat) (s : List UInt8) : Prop := i < 16 ∧ s = shapesL.getD i []
def bA (l : List UInt8) : ByteArray := ⟨l.toArray⟩
theorem splits : ∀ i, i < 16 → Lib.countB (bA (shapesL.getD i [])) (bA [46]) + 1 = (Lib.splitB (bA [46]) 0 (Lib.countB (bA (shapesL.getD i [])) (bA [46])) (bA (shapesL.getD i []))).length ∧ (2 ≤ i → (Lib.splitB (bA [46]) 0 (Lib.countB (bA (shapesL.getD i [])) (bA [46])) (bA (shapesL.getD i []))).map (fun b => b.data.toList) = seps (i + 1)) ∧ (∀ j, j < 16 → shapesL.getD i [] = shapesL.getD j [] → i = j) := by decide +kernel
theorem decs : ∀ i, i < 100 → Lib.decDigits i = decD i := by decide +kernel
section
variable {C : Fr} (hC : FrOk C) (hn : C.nf = 0)
include hC hn
theorem growOut {w' : World} (hb : Below C.w0.heap.size C.w0 w') {r : AV} {v : Value} (hr : RelOut C C.g0 w' r v) : OutOk C C.g0 w' r v [] :=
  { lim0 := fun _ _ => rfl
    limz := fun b h => hC.limz b (Nat.le_trans hb.size h)
    H2 := rfl
    plain := fun b h1 _ h3 => by
      have h3 : 0 < C.lim0 b := h3
      rw [hC.limz b h1] at h3; exact absurd h3 (Nat.lt_irrefl 0)
    ow := fun b k h => by cases h
    kept := ⟨hb.os, hb.tape, hb.output, hb.size, fun b h _ => hb.block b h⟩
    rel := hr
    len := hn.symm
    f := fun i u h => by simp at h }
theorem pureOut {r : AV} {v : Value} (hr : RelOut C C.g0 C.w0 r v) : OutOk C C.g0 C.w0 r v [] := growOut hC hn (Below.refl _ _) hr
theorem strsOut {ss : List (List UInt8)} {ty : TypeId} :
    ∃ γ', OutOk C γ' (C.w0.alloc (.cells (ss.map fun l => Value.string ⟨l.toArray⟩).toArray ty)) (.strs ss) (.slice (some ⟨C.w0.heap.size, 0, none⟩) ss.length ss.length) [] :=
  ⟨{ C.g0 with lim := fun b => if b = C.w0.heap.size then ss.length else C.lim0 b },
  { lim0 := fun b h => if_neg (by omega)
    limz := fun b h => by
      have h : C.w0.heap.size + 1 ≤ b := by simpa using h
      show (if b = C.w0.heap.size then ss.length else C.lim0 b) = 0
      rw [if_neg (by omega)]; exact hC.limz b (by omega)
    H2 := rfl
    plain := fun b h1 h2 h3 => by
      have h2 : b < C.w0.heap.size + 1 := by simpa using h2
      obtain rfl : b = C.w0.heap.size := by omega
      exact ⟨_, _, heap_alloc_new _ _⟩
    ow := fun b k h => by cases h
    kept := ⟨rfl, rfl, rfl, by simp, fun b h _ => heap_alloc h⟩
    rel := by
      refine ⟨_, _, rfl, Nat.le_refl _, ?_⟩
      by_cases h0 : ss = []
      · exact .inl h0
      · refine .inr ⟨_, 0, rfl, fun j hj => ⟨?_, ?_⟩⟩
        · rw [cell_of_row _ _ _ _ _ _ (heap_alloc_new _ _)]
          simp [hj]
        · show 0 + j < (if C.w0.heap.size = C.w0.heap.size then ss.length else _)
          rw [if_pos rfl]; omega
    len := hn.symm
    f := fun i u h => by simp at h }⟩
end
def cItoa : Con
  | [.int .i64 n], [], K => (0 ≤ n ∧ n ≤ 99) ∧ K (.str (decD n)) []
  | _, _, _ => False
theorem Itoa_sound : Sound Tryd.prog 55 cItoa := by
  refine ⟨⟨_, Tryd.func55, by kernel_rfl, by kernel_rfl⟩, fun args hs K hc C vals hC hn ha hh => ?_⟩
  unfold cItoa at hc
  split at hc
  case h_2 => exact hc.elim
  rename_i n
  obtain ⟨⟨h0, h9⟩, hk⟩ := hc
  match vals, ha with
  | [v], ⟨e, _⟩ =>
    have e : v = .int .i64 n := e
    subst e
    obtain ⟨i, rfl⟩ := Int.eq_ofNat_of_zero_le h0
    refine (Tryd.strconv_Itoa_small i (by omega) C.w0).mono fun e w' ⟨he, hw⟩ => ?_
    subst he hw
    rw [decs i (by omega)]
    exact ⟨.str (decD i), [], _, C.g0, rfl, hk, pureOut hC hn rfl⟩
def cCut : Con
  | [.str s, .str p], [], K => K (.tup [.str (Lib.trimPrefix s p), .bool (Lib.hasPrefix s p)]) []
  | _, _, _ => False
theorem Cut_sound : Sound Tryd.prog 54 cCut := by
  refine ⟨⟨_, Tryd.func54, by kernel_rfl, by kernel_rfl⟩, fun args hs K hc C vals hC hn ha hh => ?_⟩
  unfold cCut at hc
  split at hc
  case h_2 => exact hc.elim
  rename_i s p
  match vals, ha with
  | [v, u], ⟨e1, e2, _⟩ =>
    have e1 : v = .string ⟨s.toArray⟩ := e1
    have e2 : u = .string ⟨p.toArray⟩ := e2
    subst e1 e2
    refine (Tryd.strings_CutPrefix ⟨s.toArray⟩ ⟨p.toArray⟩ C.w0).mono fun e w' ⟨he, hw⟩ => ?_
    subst he hw
    exact ⟨.tup [.str (Lib.trimPrefix s p), .bool (Lib.hasPrefix s p)], [], _, C.g0, rfl, hc, pureOut hC hn ⟨[_, _], rfl, rfl, rfl, trivial⟩⟩
def cSplit : Con
  | [.str s, .str p], [], K => ((∃ i, IsShape i s) ∧ p = [46]) ∧ ∀ ps, (∀ i : Nat, 2 ≤ i → IsShape i s → ps = seps (i + 1)) → K (.strs ps) []
  | _, _, _ => False
theorem Split_sound : Sound Tryd.prog 52 cSplit := by
  refine ⟨⟨_, Tryd.func52, by kernel_rfl, by kernel_rfl⟩, fun args hs K hc C vals hC hn ha hh => ?_⟩
  unfold cSplit at hc
  split at hc
  case h_2 => exact hc.elim
  rename_i s p
  obtain ⟨⟨⟨i, hi, rfl⟩, rfl⟩, hk⟩ := hc
  match vals, ha with
  | [v, u], ⟨e1, e2, _⟩ =>
    have e1 : v = .string (bA (shapesL.getD i [])) := e1
    have e2 : u = .string (bA [46]) := e2
    subst e1 e2
    obtain ⟨m, hm⟩ := C.inv.1
    have hz : ∀ i, i < 16 → (bA (shapesL.getD i [])).size < 4294967281 := by decide +kernel
    obtain ⟨s1, s2, s3⟩ := splits i hi
    refine (Tryd.strings_Split (bA (shapesL.getD i [])) (bA [46]) m C.w0 (hz i hi) hm (by decide)).mono fun e w' ⟨he, hw⟩ => ?_
    rw [s1] at he
    generalize Lib.splitB (bA [46]) 0 (Lib.countB (bA (shapesL.getD i [])) (bA [46])) (bA (shapesL.getD i [])) = bs at s2 he hw
    have hl : bs.map Value.string = (bs.map fun b => b.data.toList).map (fun l => Value.string ⟨l.toArray⟩) := by
      rw [List.map_map]
      refine List.map_congr_left fun b _ => ?_
      cases b; simp
    have hn' : bs.length = (bs.map fun b => b.data.toList).length := by simp
    rw [hl] at hw
    rw [hn'] at he
    subst he hw
    obtain ⟨γ', h⟩ := strsOut hC hn (ss := bs.map fun b => b.data.toList) (ty := 9)
    exact ⟨_, [], _, γ', rfl, hk _ (fun j h2 ⟨h1, h3⟩ => by obtain rfl := s3 j h1 h3; exact s2 h2), h⟩
end Go.Dk
