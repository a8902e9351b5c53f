/- laws.FnNumeralValue returns true and leaves its arguments as they were, for all arguments. -/
import Derived.Test.YtbkaifclhjgokaaLaw
import Derived.Test.YtbkaifclhjgokaaL0
import Derived.Test.YtbkaifclhjgokaaDr2
import Derived.Test.YtbkaifclhjgokaaTn
import Derived.Test.YtbkaifclhjgokaaL2s
namespace Go.Dk
set_option linter.unusedVariables false
open Go.Proofs
theorem T.strip_num : ∀ (m : Nat) (t : T), t.size < m → t.valid = true → t.strip.2.k = 7 → t = T.num t.strip.1
  | 0, _, h, _, _ => absurd h (Nat.not_lt_zero _)
  | m + 1, t, h, hv, hk => by
    by_cases h8 : t.k = 8
    · obtain ⟨u, rfl, hu⟩ := T.valid_succ hv h8
      rw [T.strip_succ] at hk ⊢
      simp only [T.size, sizeL] at h
      have := T.strip_num m u (by omega) hu hk
      rw [T.num, ← this]
    · have hs : t.strip = (0, t) := by cases t; exact T.strip_other h8
      rw [hs] at hk ⊢
      cases t with
      | mk k n ts =>
        have hk : k = 7 := hk
        subst hk
        have hr := T.shp_root (T.valid_shp hv)
        rw [show arity 7 = 0 from rfl, show mostN 7 = 0 from rfl] at hr
        have e1 : ts = [] := List.eq_nil_of_length_eq_zero (by omega)
        have e2 : n = 0 := by omega
        subst e1 e2; rfl
theorem T.nv_num {t : T} (h : t.nvOk = true) : ∃ n : Nat, n ≤ 20 ∧ t = T.num n ∧ t.nv = n := by
  have h' := h
  unfold T.nvOk at h'
  have h' := of_decide_eq_true h'
  refine ⟨t.strip.1, h'.2.2, T.strip_num _ t (Nat.lt_succ_self _) h'.1 h'.2.1, ?_⟩
  unfold T.nv
  rw [if_pos h']
theorem T.num21 : (T.num 21).nvOk = false := by
  unfold T.nvOk
  rw [T.num_strip]
  simp
/-- laws.FnNumeralValue -/
def cFnNumeralValue : Con
  | [.ints .u8 bs (.arg 0)], [], K => ((bs.length ≤ 9223372036854775807 ∧ Bs bs)) ∧ ((K (.bool true) []))
  | _, _, _ => False
theorem FnNumeralValue_ok (bs : List Int) (K : AV → List AV → Prop) (hp : ((bs.length ≤ 9223372036854775807 ∧ Bs bs))) (hk : ((K (.bool true) []))) :
    bodyQ [(15, cdNumeralValue), (16, cNumeralValue), (17, csNumeralValue), (18, cNumeral), (19, cTermSame)] TY [] Try.f3 (body Try.f3) [.ints .u8 bs (.arg 0)] [] K := by
  refine of_vc (A :=
      (Br (Decidable.decide ((1048576 : Int) < (((List.length bs) : Nat) : Int)))
        (Ret K (.bool true) [])
        ((Bs bs) ∧
         (∀ t : T,
           (((T.size t) ≤ (1000 : Nat)) →
            (True ∧
             (True ∧
              (Br (bne (T.nvOk (T.mk (T.k t) (T.n t) (T.kids t))) (T.nvOk (T.mk (T.k t) (T.n t) (T.kids t))))
                (Br (BEq.beq (T.nvOk (T.mk (T.k t) (T.n t) (T.kids t))) (T.nvOk (T.mk (T.k t) (T.n t) (T.kids t))))
                  (Ret K (.bool (Decidable.decide ((T.nv (T.mk (T.k t) (T.n t) (T.kids t))) = (T.nv (T.mk (T.k t) (T.n t) (T.kids t)))))) [])
                  (Ret K (.bool false) []))
                (Br (Decidable.decide ((T.nv (T.mk (T.k t) (T.n t) (T.kids t))) ≠ (T.nv (T.mk (T.k t) (T.n t) (T.kids t)))))
                  (Br (BEq.beq (T.nvOk (T.mk (T.k t) (T.n t) (T.kids t))) (T.nvOk (T.mk (T.k t) (T.n t) (T.kids t))))
                    (Ret K (.bool (Decidable.decide ((T.nv (T.mk (T.k t) (T.n t) (T.kids t))) = (T.nv (T.mk (T.k t) (T.n t) (T.kids t)))))) [])
                    (Ret K (.bool false) []))
                  (Br (Bool.not (T.nvOk (T.mk (T.k t) (T.n t) (T.kids t))))
                    (Br (BEq.beq (T.nvOk (T.mk (T.k t) (T.n t) (T.kids t))) (T.nvOk (T.mk (T.k t) (T.n t) (T.kids t))))
                      (Ret K (.bool (Decidable.decide ((T.nv (T.mk (T.k t) (T.n t) (T.kids t))) = (T.nv (T.mk (T.k t) (T.n t) (T.kids t)))))) [])
                      (Ret K (.bool false) []))
                    (True ∧
                     (((((0 : Int) ≤ (T.nv (T.mk (T.k t) (T.n t) (T.kids t)))) ∧ ((T.nv (T.mk (T.k t) (T.n t) (T.kids t))) ≤ (20 : Int))) →
                       (True ∧
                        (((sizeL (T.kids (T.num (Int.toNat (T.nv (T.mk (T.k t) (T.n t) (T.kids t))))))) ≤ (1099511627776 : Nat)) ∧
                         (Br (T.same (T.mk (T.k (T.num (Int.toNat (T.nv (T.mk (T.k t) (T.n t) (T.kids t)))))) (T.n (T.num (Int.toNat (T.nv (T.mk (T.k t) (T.n t) (T.kids t)))))) (T.kids (T.num (Int.toNat (T.nv (T.mk (T.k t) (T.n t) (T.kids t))))))) (T.mk (T.k t) (T.n t) (T.kids t)))
                           (Br (BEq.beq (T.nvOk (T.mk (8 : Int) (0 : Int) [(T.mk (T.k t) (T.n t) (T.kids t))])) (Decidable.decide ((T.nv (T.mk (T.k t) (T.n t) (T.kids t))) < (20 : Int))))
                             (Br (Bool.not (T.nvOk (T.mk (8 : Int) (0 : Int) [(T.mk (T.k t) (T.n t) (T.kids t))])))
                               (Ret K (.bool true) [])
                               ((InR ((T.nv (T.mk (T.k t) (T.n t) (T.kids t))) + (1 : Int))) ∧
                                (Ret K (.bool (Decidable.decide ((T.nv (T.mk (8 : Int) (0 : Int) (fstL [((T.mk (T.k t) (T.n t) (T.kids t)), (.iv (retM (AS.now (AS.mk (updO (upd (updO (updO (updO (updO (getL [(.ints .u8 bs (.arg (0 : Nat)))]) (Go.Oper.dst (Go.Oper.mk (Option.some (2 : Nat)) (Go.Op.assign (Go.Operand.const (Go.Value.bool false))) (4 : Nat) "laws.go:79" (List.toArray ([] : List Go.Edge)) (Option.none))) (.bool false)) (Go.Oper.dst (Go.Oper.mk (Option.some (12 : Nat)) (Go.Op.move (Go.Operand.tmp (0 : Nat))) (22 : Nat) "laws.go:80" (List.toArray ([] : List Go.Edge)) (Option.none))) (.ints .u8 bs (.arg (0 : Nat)))) (Go.Oper.dst (Go.Oper.mk (Option.some (13 : Nat)) (Go.Op.call (Go.Call.mk (Go.Callee.builtin Go.Builtin.len) (List.toArray [(Go.Operand.tmp (12 : Nat))]) (List.toArray [(22 : Nat)]))) (3 : Nat) "laws.go:80" (List.toArray [(Go.Edge.mk (0 : Nat) Go.Ground.data)]) (Option.none))) (.int .i64 (((List.length bs) : Nat) : Int))) (Go.Oper.dst (Go.Oper.mk (Option.some (14 : Nat)) (Go.Op.binOp Go.BinOp.gtr (3 : Nat) (Go.Operand.tmp (13 : Nat)) (Go.Operand.const (Go.Value.int .i64 (1048576 : Int))) (3 : Nat)) (4 : Nat) "laws.go:80" (List.toArray [(Go.Edge.mk (1 : Nat) Go.Ground.data)]) (Option.none))) (.bool (Decidable.decide ((1048576 : Int) < (((List.length bs) : Nat) : Int))))) (14 : Nat) (.bool false)) (Go.Oper.dst (Go.Oper.mk (Option.some (15 : Nat)) (Go.Op.move (Go.Operand.tmp (0 : Nat))) (22 : Nat) "laws.go:83" (List.toArray ([] : List Go.Edge)) (Option.none))) (.ints .u8 bs (.arg (0 : Nat)))) (fun (x : Nat) => .top) [] (3 : Nat))) (allL (AS.now (AS.mk (updO (upd (updO (updO (updO (updO (getL [(.ints .u8 bs (.arg (0 : Nat)))]) (Go.Oper.dst (Go.Oper.mk (Option.some (2 : Nat)) (Go.Op.assign (Go.Operand.const (Go.Value.bool false))) (4 : Nat) "laws.go:79" (List.toArray ([] : List Go.Edge)) (Option.none))) (.bool false)) (Go.Oper.dst (Go.Oper.mk (Option.some (12 : Nat)) (Go.Op.move (Go.Operand.tmp (0 : Nat))) (22 : Nat) "laws.go:80" (List.toArray ([] : List Go.Edge)) (Option.none))) (.ints .u8 bs (.arg (0 : Nat)))) (Go.Oper.dst (Go.Oper.mk (Option.some (13 : Nat)) (Go.Op.call (Go.Call.mk (Go.Callee.builtin Go.Builtin.len) (List.toArray [(Go.Operand.tmp (12 : Nat))]) (List.toArray [(22 : Nat)]))) (3 : Nat) "laws.go:80" (List.toArray [(Go.Edge.mk (0 : Nat) Go.Ground.data)]) (Option.none))) (.int .i64 (((List.length bs) : Nat) : Int))) (Go.Oper.dst (Go.Oper.mk (Option.some (14 : Nat)) (Go.Op.binOp Go.BinOp.gtr (3 : Nat) (Go.Operand.tmp (13 : Nat)) (Go.Operand.const (Go.Value.int .i64 (1048576 : Int))) (3 : Nat)) (4 : Nat) "laws.go:80" (List.toArray [(Go.Edge.mk (1 : Nat) Go.Ground.data)]) (Option.none))) (.bool (Decidable.decide ((1048576 : Int) < (((List.length bs) : Nat) : Int))))) (14 : Nat) (.bool false)) (Go.Oper.dst (Go.Oper.mk (Option.some (15 : Nat)) (Go.Op.move (Go.Operand.tmp (0 : Nat))) (22 : Nat) "laws.go:83" (List.toArray ([] : List Go.Edge)) (Option.none))) (.ints .u8 bs (.arg (0 : Nat)))) (fun (x : Nat) => .top) [] (3 : Nat))) ((mapGetsT TY (AS.mk (updO (upd (updO (updO (updO (updO (getL [(.ints .u8 bs (.arg (0 : Nat)))]) (Go.Oper.dst (Go.Oper.mk (Option.some (2 : Nat)) (Go.Op.assign (Go.Operand.const (Go.Value.bool false))) (4 : Nat) "laws.go:79" (List.toArray ([] : List Go.Edge)) (Option.none))) (.bool false)) (Go.Oper.dst (Go.Oper.mk (Option.some (12 : Nat)) (Go.Op.move (Go.Operand.tmp (0 : Nat))) (22 : Nat) "laws.go:80" (List.toArray ([] : List Go.Edge)) (Option.none))) (.ints .u8 bs (.arg (0 : Nat)))) (Go.Oper.dst (Go.Oper.mk (Option.some (13 : Nat)) (Go.Op.call (Go.Call.mk (Go.Callee.builtin Go.Builtin.len) (List.toArray [(Go.Operand.tmp (12 : Nat))]) (List.toArray [(22 : Nat)]))) (3 : Nat) "laws.go:80" (List.toArray [(Go.Edge.mk (0 : Nat) Go.Ground.data)]) (Option.none))) (.int .i64 (((List.length bs) : Nat) : Int))) (Go.Oper.dst (Go.Oper.mk (Option.some (14 : Nat)) (Go.Op.binOp Go.BinOp.gtr (3 : Nat) (Go.Operand.tmp (13 : Nat)) (Go.Operand.const (Go.Value.int .i64 (1048576 : Int))) (3 : Nat)) (4 : Nat) "laws.go:80" (List.toArray [(Go.Edge.mk (1 : Nat) Go.Ground.data)]) (Option.none))) (.bool (Decidable.decide ((1048576 : Int) < (((List.length bs) : Nat) : Int))))) (14 : Nat) (.bool false)) (Go.Oper.dst (Go.Oper.mk (Option.some (15 : Nat)) (Go.Op.move (Go.Operand.tmp (0 : Nat))) (22 : Nat) "laws.go:83" (List.toArray ([] : List Go.Edge)) (Option.none))) (.ints .u8 bs (.arg (0 : Nat)))) (fun (x : Nat) => .top) [] (3 : Nat)) (Array.toList (Go.Call.argTypes (Go.Call.mk (Go.Callee.value (Go.Operand.func (15 : Nat))) (List.toArray [(Go.Operand.tmp (15 : Nat))]) (List.toArray [(22 : Nat)])))) (Array.toList (Go.Call.args (Go.Call.mk (Go.Callee.value (Go.Operand.func (15 : Nat))) (List.toArray [(Go.Operand.tmp (15 : Nat))]) (List.toArray [(22 : Nat)]))))) ++ [])) (4 : Nat)) (retM (AS.now (AS.mk (updO (upd (updO (updO (updO (updO (getL [(.ints .u8 bs (.arg (0 : Nat)))]) (Go.Oper.dst (Go.Oper.mk (Option.some (2 : Nat)) (Go.Op.assign (Go.Operand.const (Go.Value.bool false))) (4 : Nat) "laws.go:79" (List.toArray ([] : List Go.Edge)) (Option.none))) (.bool false)) (Go.Oper.dst (Go.Oper.mk (Option.some (12 : Nat)) (Go.Op.move (Go.Operand.tmp (0 : Nat))) (22 : Nat) "laws.go:80" (List.toArray ([] : List Go.Edge)) (Option.none))) (.ints .u8 bs (.arg (0 : Nat)))) (Go.Oper.dst (Go.Oper.mk (Option.some (13 : Nat)) (Go.Op.call (Go.Call.mk (Go.Callee.builtin Go.Builtin.len) (List.toArray [(Go.Operand.tmp (12 : Nat))]) (List.toArray [(22 : Nat)]))) (3 : Nat) "laws.go:80" (List.toArray [(Go.Edge.mk (0 : Nat) Go.Ground.data)]) (Option.none))) (.int .i64 (((List.length bs) : Nat) : Int))) (Go.Oper.dst (Go.Oper.mk (Option.some (14 : Nat)) (Go.Op.binOp Go.BinOp.gtr (3 : Nat) (Go.Operand.tmp (13 : Nat)) (Go.Operand.const (Go.Value.int .i64 (1048576 : Int))) (3 : Nat)) (4 : Nat) "laws.go:80" (List.toArray [(Go.Edge.mk (1 : Nat) Go.Ground.data)]) (Option.none))) (.bool (Decidable.decide ((1048576 : Int) < (((List.length bs) : Nat) : Int))))) (14 : Nat) (.bool false)) (Go.Oper.dst (Go.Oper.mk (Option.some (15 : Nat)) (Go.Op.move (Go.Operand.tmp (0 : Nat))) (22 : Nat) "laws.go:83" (List.toArray ([] : List Go.Edge)) (Option.none))) (.ints .u8 bs (.arg (0 : Nat)))) (fun (x : Nat) => .top) [] (3 : Nat))) (allL (AS.now (AS.mk (updO (upd (updO (updO (updO (updO (getL [(.ints .u8 bs (.arg (0 : Nat)))]) (Go.Oper.dst (Go.Oper.mk (Option.some (2 : Nat)) (Go.Op.assign (Go.Operand.const (Go.Value.bool false))) (4 : Nat) "laws.go:79" (List.toArray ([] : List Go.Edge)) (Option.none))) (.bool false)) (Go.Oper.dst (Go.Oper.mk (Option.some (12 : Nat)) (Go.Op.move (Go.Operand.tmp (0 : Nat))) (22 : Nat) "laws.go:80" (List.toArray ([] : List Go.Edge)) (Option.none))) (.ints .u8 bs (.arg (0 : Nat)))) (Go.Oper.dst (Go.Oper.mk (Option.some (13 : Nat)) (Go.Op.call (Go.Call.mk (Go.Callee.builtin Go.Builtin.len) (List.toArray [(Go.Operand.tmp (12 : Nat))]) (List.toArray [(22 : Nat)]))) (3 : Nat) "laws.go:80" (List.toArray [(Go.Edge.mk (0 : Nat) Go.Ground.data)]) (Option.none))) (.int .i64 (((List.length bs) : Nat) : Int))) (Go.Oper.dst (Go.Oper.mk (Option.some (14 : Nat)) (Go.Op.binOp Go.BinOp.gtr (3 : Nat) (Go.Operand.tmp (13 : Nat)) (Go.Operand.const (Go.Value.int .i64 (1048576 : Int))) (3 : Nat)) (4 : Nat) "laws.go:80" (List.toArray [(Go.Edge.mk (1 : Nat) Go.Ground.data)]) (Option.none))) (.bool (Decidable.decide ((1048576 : Int) < (((List.length bs) : Nat) : Int))))) (14 : Nat) (.bool false)) (Go.Oper.dst (Go.Oper.mk (Option.some (15 : Nat)) (Go.Op.move (Go.Operand.tmp (0 : Nat))) (22 : Nat) "laws.go:83" (List.toArray ([] : List Go.Edge)) (Option.none))) (.ints .u8 bs (.arg (0 : Nat)))) (fun (x : Nat) => .top) [] (3 : Nat))) ((mapGetsT TY (AS.mk (updO (upd (updO (updO (updO (updO (getL [(.ints .u8 bs (.arg (0 : Nat)))]) (Go.Oper.dst (Go.Oper.mk (Option.some (2 : Nat)) (Go.Op.assign (Go.Operand.const (Go.Value.bool false))) (4 : Nat) "laws.go:79" (List.toArray ([] : List Go.Edge)) (Option.none))) (.bool false)) (Go.Oper.dst (Go.Oper.mk (Option.some (12 : Nat)) (Go.Op.move (Go.Operand.tmp (0 : Nat))) (22 : Nat) "laws.go:80" (List.toArray ([] : List Go.Edge)) (Option.none))) (.ints .u8 bs (.arg (0 : Nat)))) (Go.Oper.dst (Go.Oper.mk (Option.some (13 : Nat)) (Go.Op.call (Go.Call.mk (Go.Callee.builtin Go.Builtin.len) (List.toArray [(Go.Operand.tmp (12 : Nat))]) (List.toArray [(22 : Nat)]))) (3 : Nat) "laws.go:80" (List.toArray [(Go.Edge.mk (0 : Nat) Go.Ground.data)]) (Option.none))) (.int .i64 (((List.length bs) : Nat) : Int))) (Go.Oper.dst (Go.Oper.mk (Option.some (14 : Nat)) (Go.Op.binOp Go.BinOp.gtr (3 : Nat) (Go.Operand.tmp (13 : Nat)) (Go.Operand.const (Go.Value.int .i64 (1048576 : Int))) (3 : Nat)) (4 : Nat) "laws.go:80" (List.toArray [(Go.Edge.mk (1 : Nat) Go.Ground.data)]) (Option.none))) (.bool (Decidable.decide ((1048576 : Int) < (((List.length bs) : Nat) : Int))))) (14 : Nat) (.bool false)) (Go.Oper.dst (Go.Oper.mk (Option.some (15 : Nat)) (Go.Op.move (Go.Operand.tmp (0 : Nat))) (22 : Nat) "laws.go:83" (List.toArray ([] : List Go.Edge)) (Option.none))) (.ints .u8 bs (.arg (0 : Nat)))) (fun (x : Nat) => .top) [] (3 : Nat)) (Array.toList (Go.Call.argTypes (Go.Call.mk (Go.Callee.value (Go.Operand.func (15 : Nat))) (List.toArray [(Go.Operand.tmp (15 : Nat))]) (List.toArray [(22 : Nat)])))) (Array.toList (Go.Call.args (Go.Call.mk (Go.Callee.value (Go.Operand.func (15 : Nat))) (List.toArray [(Go.Operand.tmp (15 : Nat))]) (List.toArray [(22 : Nat)]))))) ++ [])) (4 : Nat)) false (.cl is0 (.cl (is1 (49 : Nat)) (.cl is0 (.ret (Option.none) .no))))))]))) = ((T.nv (T.mk (T.k t) (T.n t) (T.kids t))) + (1 : Int))))) [])))
                             (Ret K (.bool false) []))
                           (Ret K (.bool false) []))))) ∧
                      ((¬ (((0 : Int) ≤ (T.nv (T.mk (T.k t) (T.n t) (T.kids t)))) ∧ ((T.nv (T.mk (T.k t) (T.n t) (T.kids t))) ≤ (20 : Int)))) → (True ∧ (Ret K (.bool false) []))))))))))))))) ?_ (by kernel_rfl)
  refine br (fun _ => retB hk rfl) (fun _ => ⟨hp.2, fun t ht => ?_⟩)
  have same : ∀ t : T, t.same t = true := fun t => T.same_iff.2 rfl
  simp only [T.eta]
  refine ⟨trivial, trivial, br (fun h => absurd h (by simp)) (fun _ => br (fun h => absurd rfl (of_decide_eq_true h)) (fun _ => br (fun _ => br (fun _ => retB hk (by simp)) (fun h => absurd h (by simp))) (fun h => ?_)))⟩
  have h : t.nvOk = true := by simpa using h
  obtain ⟨n, hn, rfl, e⟩ := T.nv_num h
  rw [e]
  refine ⟨trivial, fun _ => ⟨trivial, ?_⟩, fun h => absurd ⟨by omega, by omega⟩ h⟩
  simp only [Int.toNat_natCast, same]
  have sz := T.num_kids n
  refine ⟨by omega, br (fun _ => ?_) (fun h => absurd h (by simp))⟩
  by_cases h20 : n = 20
  · subst h20
    have e1 : (T.mk 8 0 [T.num 20]).nvOk = false := T.num21
    rw [e1]
    exact br (fun _ => br (fun _ => retB hk rfl) (fun h => absurd h (by simp))) (fun h => absurd h (by decide))
  · obtain ⟨q1, q2⟩ := T.num_nv (n := n + 1) (by omega)
    have e1 : (T.mk 8 0 [T.num n]).nvOk = true := q2
    have e2 : (T.mk 8 0 [T.num n]).nv = n + 1 := q1
    rw [e1]
    refine br (fun _ => br (fun h => absurd h (by simp)) (fun _ => ⟨by unfold InR; omega, retB hk ?_⟩)) (fun h => absurd h (by simp; omega))
    show decide ((T.mk 8 0 [T.num n]).nv = n + 1) = true
    rw [e2]; simp
theorem FnNumeralValue_sound : Sound Try.prog 3 cFnNumeralValue := by
  refine soundF (G := [(15, cdNumeralValue), (16, cNumeralValue), (17, csNumeralValue), (18, cNumeral), (19, cTermSame)]) ((gcons dNumeralValue_sound (gcons NumeralValue_sound (gcons sNumeralValue_sound (gcons Numeral_sound (gcons TermSame_sound gnil)))))) Try.func3 rfl (by kernel_rfl) fun args hs K hCC => ?_
  unfold cFnNumeralValue at hCC
  split at hCC
  case h_2 => exact hCC.elim
  rename_i bs
  exact ⟨Nat.le_of_ble_eq_true rfl, _, FnNumeralValue_ok bs K hCC.1 hCC.2⟩
end Go.Dk
namespace Go.Proofs.Ytbkaifclhjgokaa
open Go.ChangeShapes Go.WideShapes Go.RowKit Go.Dk Go.Proofs
set_option linter.unusedVariables false
theorem FnNumeralValue_lifted (os : Os) (started : os.Started) (H : Type) (enc : TypeId × Value → H) :
    ReturnsInHanded {} Try.checked os 3 .any (Rows.fnNumeralValueSpec.pre6 enc Try.prog Try.f3 Rows.fnNumeralValueRow.domain false) (Rows.fnNumeralValueSpec.post enc Try.prog Try.f3 false true false false) := by
  refine returnsInHanded_of_change (C := Try.checked) own started (by kernel_rfl) Try.func3
    (ChangeSpec.witness6 (enc := enc) (C := Try.checked) false ⟨#[], #[.slice none 0 0], []⟩ 8 (by kernel_rfl) (by kernel_rfl) (by kernel_rfl) (by kernel_rfl)) ?_
  intro W base args ds gs before hok hW _ _
  have hW' := hW
  obtain ⟨p, q, hA, hV, rfl, hfz, hnd⟩ := hW
  rw [Try.params3] at hA
  obtain ⟨rfl, rfl⟩ := trodVars_none hV
  obtain ⟨v0, vs0, d0, ds0, q0, s0, e0, rfl, rfl, h0, hA⟩ := trodAll_cons hA
  obtain ⟨rfl, rfl, rfl⟩ := trodAll_nil hA
  have ha : args = #[v0] := by cases args; simpa using e0
  subst ha
  obtain ⟨bs0, l0, p0, r0⟩ := open_bytes Try.underlying22 Try.underlying5 (by kernel_rfl) (plain_slice Try.underlying22 (hok 0 _ _ rfl rfl)) h0
  refine (law_call (args := [.ints .u8 bs0 (.arg 0)]) (vals := [v0]) FnNumeralValue_sound (fun K hK => ⟨⟨l0, p0⟩, hK⟩) (fun j => slOf ([v0].getD j .nilFunc)) ⟨r0 _ 0 rfl, trivial⟩).mono fun e W' ⟨he, hk⟩ => ?_
  exact ⟨_, he, law_post laidOut (of_decide_eq_true (by kernel_rfl)) rfl rfl Try.underlying4 rfl hW' hk⟩
theorem FnNumeralValue_holds : Rows.FnNumeralValueSaid :=
  OpenClaim.holds_of_wide 3 Try.f3 rfl rfl rfl rfl rfl rfl rfl ⟨rfl, rfl, rfl, rfl, rfl⟩ rfl rfl rfl rfl rfl (by kernel_rfl) Try.func3 (by kernel_rfl)
    (of_decide_eq_true (by kernel_rfl)) (by unfold Func.isWrapper; first | (rw [if_pos (by decide +kernel)]; kernel_rfl) | (rw [if_neg (by decide +kernel)]; exact ⟨rfl, rfl⟩))
    (fun os started H enc _ => FnNumeralValue_lifted os started H enc)
end Go.Proofs.Ytbkaifclhjgokaa
namespace Go.Dk
open Go.Proofs
end Go.Dk
