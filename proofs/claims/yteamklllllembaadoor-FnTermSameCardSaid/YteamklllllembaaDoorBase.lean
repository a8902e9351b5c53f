/- The types of this seat's program, as the abstract machine takes them. -/
import Derived.Test.YteamklllllembaaDoorChecked
import Derived.Test.YteamklllllembaaDoorTy
import Derived.Test.YteamklllllembaaDoorMk3
import Derived.Test.YteamklllllembaaDoorRow
namespace Go.Dk
open Go.Proofs
@[reducible] def zTm : List AV := [.int .i64 0, .int .i64 0, .slc [] (.iv 0 0 true .full)]
@[reducible] def tab : List (Nat × TyI) := [
  (3, ⟨.sc (.int .i64 0), 0, 0⟩),
  (4, ⟨.sc (.bool false), 0, 0⟩),
  (24, ⟨.ag zTm, 0, 0⟩),
  (41, ⟨.ag zTm, 0, 0⟩),
  (22, ⟨.sc (.slc [] (.iv 0 0 true .full)), 24, 0⟩),
  (39, ⟨.sc (.slc [] (.iv 0 0 true .full)), 41, 0⟩),
  (9, ⟨.sc (.str []), 0, 0⟩),
  (60, ⟨.sc (.strs []), 9, 0⟩),
  (79, ⟨.sc (.ints .i64 [] (.iv 0 0 true .full)), 3, 0⟩),
  (83, ⟨.ag [.ints .u8 [] (.iv 0 0 true .full), .int .i64 0], 0, 0⟩),
  (92, ⟨.sc .nili, 0, 0⟩),
  (5, ⟨.sc (.int .u8 0), 0, 0⟩),
  (30, ⟨.sc (.ints .u8 [] (.iv 0 0 true .full)), 5, 0⟩)]
@[reducible] def mt : List (Nat × Nat) := [
  (29, 1),
  (11, 2),
  (100000, 0)]
@[reducible] def TY : Nat → TyI := tyM tab mt
theorem mt_ok : ∀ p ∈ mt, MarkOk Tryd.prog p.1 p.2 := by
  intro p hp
  simp only [mt, List.mem_cons, List.not_mem_nil, or_false] at hp
  rcases hp with rfl | hp
  · exact ⟨fun _ => markS_ok, nofun, nofun⟩
  rcases hp with rfl | hp
  · exact ⟨nofun, fun _ => markT_ok, nofun⟩
  subst hp
  exact MarkOk.none
theorem tyOk : TyOk Tryd.prog TY := tyOk_of (by kernel_rfl) mt_ok
theorem mixed : Tryd.prog.follows .mixedOrders = true := by kernel_rfl
theorem own : ownKnob Tryd.prog.godebug = none := by kernel_rfl
theorem laidOut : laidOutB Tryd.prog = true := by kernel_rfl
theorem tmT : TmT Tryd.prog 41 3 39 :=
  ⟨⟨_, _, _, Tryd.underlying41, rfl, rfl, rfl, rfl, rfl, rfl⟩, Tryd.underlying3, Tryd.underlying39, by kernel_rfl, by kernel_rfl, by kernel_rfl⟩

/-- A function's contract, by its body. -/
theorem soundF {G : List (Nat × Con)} (hG : ∀ p ∈ G, Sound Tryd.prog p.1 p.2) {f : Nat} {fn : Func} {c : Code} {con : Con} (hf : Tryd.prog.funcs[f]? = some fn) (hb : fn.body = some c) (hname : (fn.name == "runtime.NumGoroutine") = false)
    (h : ∀ args hs K, con args hs K → args.length ≤ fn.ntmps ∧ ∃ A, bodyQ G TY A fn c args hs K) : Sound Tryd.prog f con :=
  sound_of_body mixed hG tyOk hf hname hb fun args hs K hc => let ⟨h1, A, h2⟩ := h args hs K hc; ⟨h1, A, h2.out⟩
def body (fn : Func) : Code := fn.body.getD .skip
theorem gnil : ∀ p ∈ ([] : List (Nat × Con)), Sound Tryd.prog p.1 p.2 := fun p hp => by simp at hp
theorem gcons {f : Nat} {c : Con} {G : List (Nat × Con)} (h : Sound Tryd.prog f c) (t : ∀ p ∈ G, Sound Tryd.prog p.1 p.2) : ∀ p ∈ (f, c) :: G, Sound Tryd.prog p.1 p.2 := fun p hp => by
  rcases List.mem_cons.1 hp with rfl | hp
  · exact h
  · exact t p hp
theorem sound_of_all {f : Nat} {c : Nat → Con} {c' : Con} (h : ∀ m, Sound Tryd.prog f (c m)) (hi : ∀ args hs K, c' args hs K → ∃ m, c m args hs K) : Sound Tryd.prog f c' :=
  ⟨(h 0).1, fun args hs K hc => let ⟨m, hm⟩ := hi args hs K hc; (h m).2 args hs K hm⟩
/-- What the kernel evaluates to A. -/
theorem of_vc {A : Prop} {G : List (Nat × Con)} {TY : Nat → TyI} {L : List (Nat × LA)} {fn : Func} {c : Code} {args hs : List AV} {K : AV → List AV → Prop} (h : A) (e : A = bodyP G TY L fn c args hs K) : bodyQ G TY L fn c args hs K := ⟨e ▸ h⟩
end Go.Dk
