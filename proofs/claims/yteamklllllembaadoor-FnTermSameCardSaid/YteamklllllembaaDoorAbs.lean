/- The abstract machine: trees, abstract values, and the evaluation of the model's code on them. Nothing here speaks of memory; XRel and XSound show that the evaluation is sound. -/
import Derived.ProofKit
namespace Go.Dk

/-- A term as a tree: kind, number, operands. -/
inductive T where
  | mk (k n : Int) (kids : List T)
def T.k : T → Int | .mk k _ _ => k
def T.n : T → Int | .mk _ n _ => n
def T.kids : T → List T | .mk _ _ ts => ts
theorem T.eta (t : T) : T.mk t.k t.n t.kids = t := by cases t; rfl
instance : Inhabited T := ⟨.mk 0 0 []⟩
mutual
def T.size : T → Nat
  | .mk _ _ ts => 1 + sizeL ts
def sizeL : List T → Nat
  | [] => 0
  | t :: ts => t.size + sizeL ts
end
/- What the laws' marks write. -/
mutual
def T.mark : T → Int → T
  | .mk _ _ ts, k => .mk k (k + 1) (markL ts (k + 2))
def markL : List T → Int → List T
  | [], _ => []
  | t :: ts, k => t.mark k :: markL ts (k + 2 * t.size)
end
def markI : List Int → Int → List Int
  | [], _ => []
  | _ :: ns, k => k :: markI ns (k + 1)

/-- What is known of a slice's spare capacity: nothing; there is none; it belongs to the operation of that number; the same, and the slice is the very one that that operation made. -/
inductive Own where
  | no | full | tok (k : Nat) | id (k : Nat)
/-- Which blocks a slice's tree takes: not known; its own of the classes r, those below of the classes m (nd: each block once); the very slice that came in as argument i; el: those below of the classes m.
Classes, as bits: 0: elder than the call, and not in an argument; 1: elder, in an argument; e (2 or more): made from moment e on, ahead of moment e + 1. -/
inductive Tag where
  | any | iv (r m : Nat) (nd : Bool) (own : Own) | arg (i : Nat) | el (m : Nat) (nd : Bool) (own : Own)

/-- Abstract values. -/
inductive AV where
  | top
  | int (k : IntKind) (n : Int)
  | bool (b : Bool)
  | str (l : List UInt8)
  | slc (ts : List T) (g : Tag)
  | ints (k : IntKind) (ns : List Int) (g : Tag)
  | strs (ss : List (List UInt8))
  | nili | ifc
  | ptr (i : Nat) | fptr (i : Nat) | fld (i j : Nat) | ffld (i j : Nat)
  | cel (v : AV)
  | elp (ts : List T) (g : Tag) (i : Nat)
  | elf (ts : List T) (g : Tag) (i j : Nat)
  | eli (k : IntKind) (ns : List Int) (g : Tag) (i : Nat)
  | newp (v : AV)
  | fn (f : Nat) (caps : List AV)
  | tup (vs : List AV)
  | st (fs : List AV)

structure AS where
  t : Nat → AV
  h : Nat → AV
  fh : List AV
  now : Nat

/-- What is known of a type: one cell, with its zero value; a struct of one-cell fields; a slice type's element type. (mk speaks of the function of that number: whether it is one that marks: 1: a slice of terms, 2: a term, 3: a slice of ints.) -/
inductive TyK where
  | sc (z : AV) | ag (zs : List AV) | no
structure TyI where
  k : TyK
  elem : Nat := 0
  mark : Nat := 0

abbrev Con := List AV → List AV → (AV → List AV → Prop) → Prop

@[reducible] def upd (f : Nat → AV) (i : Nat) (v : AV) : Nat → AV := fun j => match Nat.beq j i with | true => v | false => f j
@[reducible] def updO (f : Nat → AV) (d : Option Nat) (v : AV) : Nat → AV := match d with | some i => upd f i v | none => f
@[reducible] def lk : List (Nat × AV) → Nat → AV
  | [], _ => .top
  | (i, v) :: r, j => match Nat.beq j i with | true => v | false => lk r j

@[reducible] def Own.cl (kt : Nat → Bool) : Own → Own
  | .tok k => match kt k with | true => .no | false => .tok k
  | .id k => match kt k with | true => .no | false => .id k
  | .no => .no
  | .full => .full
@[reducible] def Tag.cl (kt : Nat → Bool) : Tag → Tag
  | .iv r m nd o => .iv r m nd (o.cl kt)
  | .any => .any
  | .arg i => .arg i
  | .el m nd o => .el m nd (o.cl kt)
@[reducible] def ptrOk (kp : Nat → Bool) : List AV → Bool
  | [] => true
  | .ptr i :: r => match kp i with | true => false | false => ptrOk kp r
  | _ :: r => ptrOk kp r
/-- Strike the tokens in kt and the addresses of variables in kp. -/
@[reducible] def AV.cl1 (kt kp : Nat → Bool) : AV → AV
  | .slc ts g => .slc ts (g.cl kt)
  | .ints k ns g => .ints k ns (g.cl kt)
  | .elp ts g i => .elp ts (g.cl kt) i
  | .elf ts g i j => .elf ts (g.cl kt) i j
  | .eli k ns g i => .eli k ns (g.cl kt) i
  | .ptr i => match kp i with | true => .top | false => .ptr i
  | .fld i j => match kp i with | true => .top | false => .fld i j
  | .fn f caps => match ptrOk kp caps with | true => .fn f caps | false => .top
  | v => v
@[reducible] def cl1L (kt kp : Nat → Bool) : List AV → List AV
  | [] => []
  | v :: r => v.cl1 kt kp :: cl1L kt kp r
@[reducible] def AV.cl2 (kt kp : Nat → Bool) : AV → AV
  | .st fs => .st (cl1L kt kp fs)
  | .slc ts g => .slc ts (g.cl kt)
  | .ints k ns g => .ints k ns (g.cl kt)
  | .elp ts g i => .elp ts (g.cl kt) i
  | .elf ts g i j => .elf ts (g.cl kt) i j
  | .eli k ns g i => .eli k ns (g.cl kt) i
  | .ptr i => match kp i with | true => .top | false => .ptr i
  | .fld i j => match kp i with | true => .top | false => .fld i j
  | .fn f caps => match ptrOk kp caps with | true => .fn f caps | false => .top
  | v => v
@[reducible] def cl2L (kt kp : Nat → Bool) : List AV → List AV
  | [] => []
  | v :: r => v.cl2 kt kp :: cl2L kt kp r
@[reducible] def AV.cl (kt kp : Nat → Bool) : AV → AV
  | .tup vs => .tup (cl2L kt kp vs)
  | .st fs => .st (cl1L kt kp fs)
  | .slc ts g => .slc ts (g.cl kt)
  | .ints k ns g => .ints k ns (g.cl kt)
  | .elp ts g i => .elp ts (g.cl kt) i
  | .elf ts g i j => .elf ts (g.cl kt) i j
  | .eli k ns g i => .eli k ns (g.cl kt) i
  | .ptr i => match kp i with | true => .top | false => .ptr i
  | .fld i j => match kp i with | true => .top | false => .fld i j
  | .fn f caps => match ptrOk kp caps with | true => .fn f caps | false => .top
  | v => v
@[reducible] def clL (kt kp : Nat → Bool) : List AV → List AV
  | [] => []
  | v :: r => v.cl kt kp :: clL kt kp r
@[reducible] def is1 (d : Nat) : Nat → Bool := fun j => Nat.beq j d
@[reducible] def is2 (d e : Nat) : Nat → Bool := fun j => match Nat.beq j d with | true => true | false => Nat.beq j e
@[reducible] def is0 : Nat → Bool := fun _ => false

@[reducible] def noBits (a b : Nat) : Bool := Nat.beq (Nat.land a b) 0
/-- Is a slice of this tag surely not touched by a write into a block of the (young) classes w? -/
@[reducible] def Tag.dj (w : Nat) : Tag → Bool
  | .iv r m _ _ => noBits (Nat.lor r m) w
  | .arg _ => true
  | _ => false
@[reducible] def Tag.isTok (d : Nat) : Tag → Bool
  | .iv _ _ _ (.id k) => Nat.beq k d
  | _ => false
/-- A write into the slice of number d, whose block is of the classes w, and which now holds nv: whatever may be touched is struck. -/
@[reducible] def AV.ws1 (u : AV) (d w : Nat) (nv : AV) : AV :=
  match u with
  | .slc ts g => match g.isTok d with
    | true => (match nv with | .slc us h => .slc us h | _ => .top)
    | false => (match g.dj w with | true => .slc ts g | false => .top)
  | .ints k ns g => match g.isTok d with
    | true => (match nv with | .ints k' us h => .ints k' us h | _ => .top)
    | false => (match g.dj w with | true => .ints k ns g | false => (match k with | .u8 => (match nv with | .slc _ _ => .ints .u8 ns g | _ => .top) | _ => .top))
  | .strs _ => .top
  | .cel _ => .top
  | .elp .. => .top
  | .elf .. => .top
  | .eli .. => .top
  | v => v
@[reducible] def ws1L (d w : Nat) (nv : AV) : List AV → List AV
  | [] => []
  | v :: r => v.ws1 d w nv :: ws1L d w nv r
@[reducible] def AV.ws2 (u : AV) (d w : Nat) (nv : AV) : AV :=
  match u with
  | .st fs => .st (ws1L d w nv fs)
  | v => v.ws1 d w nv
@[reducible] def ws2L (d w : Nat) (nv : AV) : List AV → List AV
  | [] => []
  | v :: r => v.ws2 d w nv :: ws2L d w nv r
@[reducible] def AV.ws (u : AV) (d w : Nat) (nv : AV) : AV :=
  match u with
  | .tup vs => .tup (ws2L d w nv vs)
  | v => v.ws2 d w nv
@[reducible] def wsL (d w : Nat) (nv : AV) : List AV → List AV
  | [] => []
  | v :: r => v.ws d w nv :: wsL d w nv r

/-- Evaluate a value before it is put away. -/
@[reducible] def force1 (v : AV) (K : AV → Prop) : Prop :=
  match v with
  | .top => K .top
  | .int k n => K (.int k n)
  | .bool b => K (.bool b)
  | .str l => K (.str l)
  | .slc ts g => (match g with | .any => K (.slc ts .any) | .iv r m nd o => K (.slc ts (.iv r m nd o)) | .arg i => K (.slc ts (.arg i)) | .el m nd o => K (.slc ts (.el m nd o)))
  | .ints k ns g => (match g with | .any => K (.ints k ns .any) | .iv r m nd o => K (.ints k ns (.iv r m nd o)) | .arg i => K (.ints k ns (.arg i)) | .el m nd o => K (.ints k ns (.el m nd o)))
  | .strs ss => K (.strs ss)
  | .nili => K .nili
  | .ifc => K .ifc
  | .ptr i => K (.ptr i)
  | .fptr i => K (.fptr i)
  | .fld i j => K (.fld i j)
  | .ffld i j => K (.ffld i j)
  | .cel v => K (.cel v)
  | .elp ts g i => K (.elp ts g i)
  | .elf ts g i j => K (.elf ts g i j)
  | .eli k ns g i => K (.eli k ns g i)
  | .newp v => K (.newp v)
  | .fn f caps => K (.fn f caps)
  | .tup vs => K (.tup vs)
  | .st fs => K (.st fs)
@[reducible] def force1L : List AV → (List AV → Prop) → Prop
  | [], K => K []
  | v :: r, K => force1 v fun v => force1L r fun r => K (v :: r)
@[reducible] def force2 (v : AV) (K : AV → Prop) : Prop :=
  match v with
  | .st fs => force1L fs fun fs => K (.st fs)
  | v => force1 v K
@[reducible] def force2L : List AV → (List AV → Prop) → Prop
  | [], K => K []
  | v :: r, K => force2 v fun v => force2L r fun r => K (v :: r)
@[reducible] def force (v : AV) (K : AV → Prop) : Prop :=
  match v with
  | .tup vs => force2L vs fun vs => K (.tup vs)
  | v => force2 v K

theorem force1_eq (v : AV) (K : AV → Prop) : force1 v K = K v := by
  cases v <;> first | rfl | (rename_i g; cases g <;> rfl)
theorem force1L_eq (l : List AV) (K : List AV → Prop) : force1L l K = K l := by
  induction l generalizing K with
  | nil => rfl
  | cons v r ih => simp only [force1L, force1_eq, ih]
theorem force2_eq (v : AV) (K : AV → Prop) : force2 v K = K v := by
  cases v <;> first | rfl | (rename_i g; cases g <;> rfl) | exact force1L_eq _ (fun fs => K (.st fs))
theorem force2L_eq (l : List AV) (K : List AV → Prop) : force2L l K = K l := by
  induction l generalizing K with
  | nil => rfl
  | cons v r ih => simp only [force2L, force2_eq, ih]
theorem force_eq (v : AV) (K : AV → Prop) : force v K = K v := by
  cases v <;> first | rfl | (rename_i g; cases g <;> rfl) | exact force1L_eq _ (fun fs => K (.st fs)) | exact force2L_eq _ (fun fs => K (.tup fs))

@[reducible] def ofConst : Value → AV
  | .int k n => .int k n
  | .bool b => .bool b
  | .string s => .str s.data.toList
  | .nilIface => .nili
  | _ => .top
@[reducible] def AS.get (s : AS) : Operand → AV
  | .tmp i => s.t i
  | .const v => ofConst v
  | .func f => .fn f []
  | .global _ => .top

@[reducible] def Br (b : Bool) (A B : Prop) : Prop := match b with | true => A | false => B
theorem br {b : Bool} {A B : Prop} (t : b = true → A) (f : b = false → B) : Br b A B := by
  cases b
  · exact f rfl
  · exact t rfl
theorem Br.t {b : Bool} {A B : Prop} (h : Br b A B) : b = true → A := by intro e; subst e; exact h
theorem Br.f {b : Bool} {A B : Prop} (h : Br b A B) : b = false → B := by intro e; subst e; exact h
def InR (n : Int) : Prop := -9223372036854775808 ≤ n ∧ n ≤ 9223372036854775807

/-- The tag of an element's operands. -/
@[reducible] def Tag.child : Tag → Tag
  | .any => .any
  | .iv _ m nd _ => .iv m m nd .no
  | .arg _ => .iv 2 2 false .no
  | .el m nd _ => .iv m m nd .no
/-- The tag of a part of a slice. -/
@[reducible] def Tag.part : Tag → Tag
  | .any => .any
  | .iv r m nd _ => .iv r m nd .no
  | .arg _ => .iv 2 2 false .no
  | .el .. => .any
@[reducible] def T.av (t : T) (g : Tag) : AV := .st [.int .i64 t.k, .int .i64 t.n, .slc t.kids g]

@[reducible] def ikNat : IntKind → Nat
  | .i8 => 0 | .i16 => 1 | .i32 => 2 | .i64 => 3 | .u8 => 4 | .u16 => 5 | .u32 => 6 | .u64 => 7
@[reducible] def ikEq (k k' : IntKind) : Bool := Nat.beq (ikNat k) (ikNat k')
theorem ikEq_iff {k k' : IntKind} : ikEq k k' = true ↔ k = k' := by cases k <;> cases k' <;> decide
@[reducible] def bit (e : Nat) : Nat := Nat.shiftLeft 1 e
/-- All classes there are. -/
@[reducible] def fullM (now : Nat) : Nat := Nat.sub (Nat.pow 2 now) 1
@[reducible] def and3 (a b c : Bool) : Bool := match a with | true => (match b with | true => c | false => false) | false => false
/-- A slice's blocks below its own; all its blocks. -/
@[reducible] def Tag.below (now : Nat) : Tag → Nat × Bool
  | .iv _ m nd _ => (m, nd)
  | .el m nd _ => (m, nd)
  | .arg _ => (2, false)
  | .any => (fullM now, false)
@[reducible] def Tag.whole : Tag → Option (Nat × Bool)
  | .iv r m nd _ => some (Nat.lor r m, nd)
  | .arg _ => some (2, false)
  | _ => none
/-- The tag of x with y's elements appended. -/
@[reducible] def joinT (r m : Nat) (nd : Bool) (h : Tag) (now d : Nat) : Tag :=
  match h.below now with
  | (m', nd') => .iv (Nat.lor r (bit now)) (Nat.lor m m') (and3 nd nd' (noBits (Nat.lor r m) m')) (.id d)
/-- What stands behind an address. -/
@[reducible] def deref (s : AS) (p : AV) (K : AV → Prop) : Prop :=
  match p with
  | .ptr i => K (s.h i)
  | .fptr i => K (s.fh.getD i .top)
  | .fld i j => (match s.h i with | .st fs => K (fs.getD j .top) | _ => False)
  | .ffld i j => (match s.fh.getD i .top with | .st fs => K (fs.getD j .top) | _ => False)
  | .cel v => K v
  | .elp ts g i => K ((ts.getD i default).av g.child)
  | .elf ts g i j => (match j with | 0 => K (.int .i64 (ts.getD i default).k) | 1 => K (.int .i64 (ts.getD i default).n) | 2 => K (.slc (ts.getD i default).kids g.child) | _ => False)
  | .eli k ns _ i => K (.int k (ns.getD i 0))
  | _ => False
@[reducible] def setH (s : AS) (p : AV) (v : AV) (K : AS → Prop) : Prop :=
  match p with
  | .ptr i => K { s with h := upd s.h i v }
  | .fptr i => K { s with fh := s.fh.set i v }
  | .fld i j => (match s.h i with | .st fs => K { s with h := upd s.h i (.st (fs.set j v)) } | _ => False)
  | .ffld i j => (match s.fh.getD i .top with | .st fs => K { s with fh := s.fh.set i (.st (fs.set j v)) } | _ => False)
  | .elp ts g i => (match g, v with
    | .iv r m nd (.id d), .st [.int .i64 k, .int .i64 n, .slc us h] => (match h.whole, noBits r 3, (match nd with | true => true | false => noBits r m) with
      | some (m', nd'), true, true => (match noBits r m' with
        | true => K ⟨fun j => (s.t j).ws d r (.slc (ts.set i (.mk k n us)) (.iv r (Nat.lor m m') (and3 nd nd' (noBits (Nat.lor r m) m')) (.id d))),
            fun j => (s.h j).ws d r (.slc (ts.set i (.mk k n us)) (.iv r (Nat.lor m m') (and3 nd nd' (noBits (Nat.lor r m) m')) (.id d))),
            wsL d r (.slc (ts.set i (.mk k n us)) (.iv r (Nat.lor m m') (and3 nd nd' (noBits (Nat.lor r m) m')) (.id d))) s.fh, s.now⟩
        | false => False)
      | _, _, _ => False)
    | _, _ => False)
  | .eli k ns g i => (match g, v with
    | .iv r m nd (.id d), .int k' n => (match noBits r 3, ikEq k k' with
      | true, true => K ⟨fun j => (s.t j).ws d r (.ints k (ns.set i n) (.iv r m nd (.id d))), fun j => (s.h j).ws d r (.ints k (ns.set i n) (.iv r m nd (.id d))),
          wsL d r (.ints k (ns.set i n) (.iv r m nd (.id d))) s.fh, s.now⟩
      | _, _ => False)
    | _, _ => False)
  | _ => False

/-- Has the value the shape of the type? -/
@[reducible] def flat : AV → Bool
  | .int .. | .bool _ | .str _ | .slc .. | .ints .. | .strs _ | .nili | .ifc | .ptr _ | .fptr _ | .fld .. | .ffld .. | .cel _ | .elp .. | .elf .. | .eli .. | .fn .. => true
  | _ => false
@[reducible] def flatL : List AV → Nat → Bool
  | [], 0 => true
  | v :: r, n + 1 => match flat v with | true => flatL r n | false => false
  | _, _ => false
@[reducible] def shape (k : TyK) (v : AV) : Bool :=
  match k, v with
  | .ag zs, .st fs => flatL fs zs.length
  | .sc _, .st _ => false
  | .sc _, v => flat v
  | _, _ => false
@[reducible] def allFlat : List AV → Bool
  | [] => true
  | v :: r => match flat v with | true => allFlat r | false => false
@[reducible] def flat2 : AV → Bool
  | .st fs => allFlat fs
  | v => flat v
@[reducible] def zero : TyK → AV
  | .sc z => z
  | .ag zs => .st zs
  | .no => .top

/-- A constant nil slice, by its type. -/
@[reducible] def nilS (k : TyK) : AV :=
  match k with
  | .sc (.slc ts g) => .slc ts g
  | .sc (.ints k ns g) => .ints k ns g
  | .sc (.strs ss) => .strs ss
  | _ => .top
@[reducible] def AS.getT (TY : Nat → TyI) (s : AS) (t : Nat) : Operand → AV
  | .tmp i => s.t i
  | .const v => (match v with | .slice none 0 0 => nilS (TY t).k | v => ofConst v)
  | .func f => .fn f []
  | .global _ => .top
@[reducible] def mapGetsT (TY : Nat → TyI) (s : AS) : List Nat → List Operand → List AV
  | _, [] => []
  | [], x :: r => s.get x :: mapGetsT TY s [] r
  | t :: ts, x :: r => s.getT TY t x :: mapGetsT TY s ts r

@[reducible] def pickAV : Bool → AV → AV → AV
  | true, a, _ => a
  | false, _, b => b

@[reducible] def cmpAV (op : BinOp) (a b : Int) (K : AV → Prop) : Prop :=
  match op with
  | .eql => K (.bool (decide (a = b)))
  | .neq => K (.bool (decide (a ≠ b)))
  | .lss => K (.bool (decide (a < b)))
  | .leq => K (.bool (decide (a ≤ b)))
  | .gtr => K (.bool (decide (b < a)))
  | .geq => K (.bool (decide (b ≤ a)))
  | _ => False
@[reducible] def i64AV (op : BinOp) (a b : Int) (K : AV → Prop) : Prop :=
  match op with
  | .add => InR (a + b) ∧ K (.int .i64 (a + b))
  | .sub => InR (a - b) ∧ K (.int .i64 (a - b))
  | .mul => InR (a * b) ∧ K (.int .i64 (a * b))
  | .quo => (0 ≤ a ∧ 0 < b ∧ a ≤ 9223372036854775807) ∧ K (.int .i64 (a / b))
  | .rem => (0 ≤ a ∧ 0 < b ∧ b ≤ 9223372036854775807) ∧ K (.int .i64 (a % b))
  | .xor => ∀ c : Int, (0 ≤ a → 0 ≤ b → a ≤ 4611686018427387903 → b ≤ 4611686018427387903 → 0 ≤ c ∧ c ≤ 9223372036854775807) → K (.int .i64 c)
  | op => cmpAV op a b K
@[reducible] def u8AV (op : BinOp) (a b : Int) (K : AV → Prop) : Prop :=
  match op with
  | .sub => (0 ≤ a - b ∧ a - b ≤ 255) ∧ K (.int .u8 (a - b))
  | .add => (0 ≤ a + b ∧ a + b ≤ 255) ∧ K (.int .u8 (a + b))
  | op => cmpAV op a b K
@[reducible] def binAV (ty : TyK) (op : BinOp) (x y : AV) (K : AV → Prop) : Prop :=
  match x, y with
  | .int k a, .int k' b => (match k, ikEq k k' with
    | .i64, true => i64AV op a b K
    | .u8, true => u8AV op a b K
    | _, _ => False)
  | .bool a, .bool b => (match ty, op with
    | .sc (.bool _), .eql => K (.bool (a == b))
    | .sc (.bool _), .neq => K (.bool (a != b))
    | _, _ => False)
  | .str a, .str b => (match op with
    | .eql => K (.bool (decide (a = b)))
    | .neq => K (.bool (decide (a ≠ b)))
    | .add => ((a.length : Int) + b.length ≤ 1099511627776) ∧ K (.str (a ++ b))
    | _ => False)
  | .ifc, .nili => (match ty, op with
    | .sc .nili, .neq => K (.bool true)
    | .sc .nili, .eql => K (.bool false)
    | _, _ => False)
  | _, _ => False

@[reducible] def len (ty : TyK) (x : AV) (K : AV → Prop) : Prop :=
  match ty, x with
  | .sc (.slc _ _), .slc ts _ => K (.int .i64 ts.length)
  | .sc (.ints _ _ _), .ints _ ns _ => K (.int .i64 ns.length)
  | .sc (.strs _), .strs ss => K (.int .i64 ss.length)
  | .sc (.str _), .str l => K (.int .i64 l.length)
  | _, _ => False

/-- The address of an element. -/
@[reducible] def indexA (ty : TyK) (x i : AV) (K : AV → Prop) : Prop :=
  match ty, x, i with
  | .sc (.slc _ _), .slc ts g, .int _ n => (0 ≤ n ∧ n < ts.length) ∧ K (.elp ts g n.toNat)
  | .sc (.ints _ _ _), .ints k ns g, .int _ n => (0 ≤ n ∧ n < ns.length) ∧ K (.eli k ns g n.toNat)
  | .sc (.strs _), .strs ss, .int _ n => (0 ≤ n ∧ n < ss.length) ∧ K (.cel (.str (ss.getD n.toNat [])))
  | _, _, _ => False

/-- The lists of a literal's parts. -/
@[reducible] def litInts : List AV → Option (IntKind × List Int)
  | [] => some (.i64, [])
  | .int k n :: r => (match r with
    | [] => some (k, [n])
    | _ => (match litInts r with | some (k', ns) => (match ikEq k k' with | true => some (k, n :: ns) | false => none) | none => none))
  | _ => none
@[reducible] def litTs : List AV → Option (List (T × Tag))
  | [] => some []
  | .st [.int .i64 k, .int .i64 n, .slc ts g] :: r => (match litTs r with | some l => some ((.mk k n ts, g) :: l) | none => none)
  | _ => none
@[reducible] def litStrs : List AV → Option (List (List UInt8))
  | [] => some []
  | .str l :: r => (match litStrs r with | some ls => some (l :: ls) | none => none)
  | _ => none
/-- Parts 0, 1, .. in order. -/
@[reducible] def inOrder : Nat → List (Nat × Operand) → Bool
  | _, [] => true
  | k, (i, _) :: r => match Nat.beq i k with | true => inOrder (k + 1) r | false => false

/-- The blocks of a literal's parts, if they are known. -/
@[reducible] def litM : List (T × Tag) → Option (Nat × Bool)
  | [] => some (0, true)
  | (_, g) :: r => match g.whole, litM r with
    | some (m, nd), some (m', nd') => some (Nat.lor m m', and3 nd nd' (noBits m m'))
    | _, _ => none
@[reducible] def tagsOf (l : List (T × Tag)) (dr : Bool) (now : Nat) : Tag :=
  match l with
  | [] => .iv 0 0 true .full
  | l => (match dr, litM l with
    | false, some (m, nd) => .iv (bit now) m nd .full
    | false, none => .iv (bit now) (fullM now) false .full
    | true, some (m, nd) => .el m nd .full
    | true, none => .any)
@[reducible] def fstL : List (T × Tag) → List T
  | [] => []
  | (t, _) :: r => t :: fstL r
@[reducible] def mapGet (s : AS) : List (Nat × Operand) → List AV
  | [] => []
  | (_, x) :: r => s.get x :: mapGet s r
@[reducible] def mapGets (s : AS) : List Operand → List AV
  | [] => []
  | x :: r => s.get x :: mapGets s r

@[reducible] def tagI (dr : Bool) (now : Nat) : Tag :=
  match dr with
  | false => .iv (bit now) 0 true .full
  | true => .el 0 true .full
/-- A literal []T{..}: by the element's type. -/
@[reducible] def buildS (s : AS) (ty e : TyK) (dr : Bool) (vs : List AV) (K : AV → AS → Prop) : Prop :=
  match ty, e with
  | .sc (.slc _ _), .ag _ => (match litTs vs with
    | some l => K (.slc (fstL l) (tagsOf l dr s.now)) (match dr with | true => s | false => { s with now := s.now + 1 })
    | none => False)
  | .sc (.ints _ _ _), .sc (.int k _) => (match litInts vs with
    | some (k', ns) => (match vs with
      | [] => K (.ints k [] (.iv 0 0 true .full)) (match dr with | true => s | false => { s with now := s.now + 1 })
      | _ => (match ikEq k k' with | true => K (.ints k ns (tagI dr s.now)) (match dr with | true => s | false => { s with now := s.now + 1 }) | false => False))
    | none => False)
  | .sc (.strs _), .sc (.str _) => (match litStrs vs with
    | some l => K (.strs l) s
    | none => False)
  | _, _ => False

@[reducible] def setParts (s : AS) (zs : List AV) : List (Nat × Operand) → List AV
  | [] => zs
  | (i, x) :: r => setParts s (zs.set i (s.get x)) r
@[reducible] def partsOk (s : AS) (n : Nat) : List (Nat × Operand) → Bool
  | [] => true
  | (i, x) :: r => match Nat.blt i n, flat (s.get x) with | true, true => partsOk s n r | _, _ => false

/-- What an append is told of its first argument. -/
@[reducible] def Tag.onto (now : Nat) : Tag → Option (Nat × Nat × Bool × Own)
  | .iv r m nd o => some (r, m, nd, o)
  | .el m _ o => some (fullM now, m, false, o)
  | _ => none
@[reducible] def strk (o : Own) (d : Nat) : Option (Nat → Bool) :=
  match o with
  | .no => none
  | .full => some (is1 d)
  | .tok k => some (is2 k d)
  | .id k => some (is2 k d)
@[reducible] def appd (ty : TyK) (s : AS) (d : Nat) (x y : AV) (K : AV → AS → Prop) : Prop :=
  match ty, x, y with
  | .sc (.slc _ _), .slc xs g, .slc ys g' => (match g.onto s.now with
    | some (r, m, nd, o) => (match strk o d with
      | some kt => ((xs.length : Int) + ys.length ≤ 1099511627776) ∧
          K (.slc (xs ++ ys) (joinT r m nd g' s.now d)) ⟨fun j => (s.t j).cl kt is0, fun j => (s.h j).cl kt is0, clL kt is0 s.fh, s.now + 1⟩
      | none => False)
    | none => False)
  | .sc (.ints _ _ _), .ints k xs g, .ints k' ys _ => (match ikEq k k', g.onto s.now with
    | true, some (r, _, _, o) => (match strk o d with
      | some kt => ((xs.length : Int) + ys.length ≤ 1099511627776) ∧
          K (.ints k (xs ++ ys) (.iv (Nat.lor r (bit s.now)) 0 true (.id d))) ⟨fun j => (s.t j).cl kt is0, fun j => (s.h j).cl kt is0, clL kt is0 s.fh, s.now + 1⟩
      | none => False)
    | _, _ => False)
  | _, _, _ => False

/-- The addresses of variables that are handed to a callee, in order. -/
@[reducible] def ptrs1 : List AV → List (Bool × Nat)
  | [] => []
  | .ptr i :: r => (true, i) :: ptrs1 r
  | .fptr i :: r => (false, i) :: ptrs1 r
  | _ :: r => ptrs1 r
@[reducible] def ptrsL : List AV → List (Bool × Nat)
  | [] => []
  | .ptr i :: r => (true, i) :: ptrsL r
  | .fptr i :: r => (false, i) :: ptrsL r
  | .fn _ caps :: r => ptrs1 caps ++ ptrsL r
  | _ :: r => ptrsL r
@[reducible] def memP (b : Bool) (i : Nat) : List (Bool × Nat) → Bool
  | [] => false
  | (c, j) :: r => match b, c with
    | true, true => (match Nat.beq i j with | true => true | false => memP b i r)
    | false, false => (match Nat.beq i j with | true => true | false => memP b i r)
    | _, _ => memP b i r
@[reducible] def nodupP : List (Bool × Nat) → Bool
  | [] => true
  | (b, i) :: r => match memP b i r with | true => false | false => nodupP r
@[reducible] def Tag.cin (p : Nat) : Tag → Tag := fun _ => .arg p
/-- The arguments as the callee sees them: addresses numbered anew from n on, slices by their argument's number p. -/
@[reducible] def args1 : List AV → Nat → List AV
  | [], _ => []
  | .ptr _ :: r, n => .fptr n :: args1 r (n + 1)
  | .fptr _ :: r, n => .fptr n :: args1 r (n + 1)
  | _ :: r, n => .top :: args1 r n
@[reducible] def cin1 (p : Nat) : AV → AV
  | .slc ts _ => .slc ts (.arg p)
  | .ints k ns _ => .ints k ns (.arg p)
  | .int k n => .int k n
  | .bool b => .bool b
  | .str l => .str l
  | .strs ss => .strs ss
  | .nili => .nili
  | .ifc => .ifc
  | _ => .top
@[reducible] def cel1 : AV → AV
  | .slc ts _ => .slc ts .any
  | .ints k ns _ => .ints k ns .any
  | .int k n => .int k n
  | .bool b => .bool b
  | .str l => .str l
  | .strs ss => .strs ss
  | .nili => .nili
  | .ifc => .ifc
  | _ => .top
@[reducible] def cel1L : List AV → List AV
  | [] => []
  | v :: r => cel1 v :: cel1L r
@[reducible] def cin1L (p : Nat) : List AV → List AV
  | [] => []
  | .slc ts _ :: r => .slc ts (.arg p) :: cel1L r
  | v :: r => cel1 v :: cin1L p r
@[reducible] def argsL : List AV → (p n : Nat) → List AV
  | [], _, _ => []
  | .ptr _ :: r, p, n => .fptr n :: argsL r (p + 1) (n + 1)
  | .fptr _ :: r, p, n => .fptr n :: argsL r (p + 1) (n + 1)
  | .fn f caps :: r, p, n => .fn f (args1 caps n) :: argsL r (p + 1) (n + (ptrs1 caps).length)
  | .st fs :: r, p, n => .st (cin1L p fs) :: argsL r (p + 1) n
  | v :: r, p, n => cin1 p v :: argsL r (p + 1) n
/-- A variable's content as the callee sees it. -/
@[reducible] def cel2 : AV → AV
  | .st fs => .st (cel1L fs)
  | v => cel1 v
@[reducible] def conts (s : AS) : List (Bool × Nat) → List AV
  | [] => []
  | (true, i) :: r => cel2 (s.h i) :: conts s r
  | (false, i) :: r => cel2 (s.fh.getD i .top) :: conts s r

@[reducible] def tagIn : List AV → Tag
  | [] => .any
  | .slc _ g :: _ => g
  | _ :: r => tagIn r
@[reducible] def tagOf : AV → Tag
  | .slc _ g => g
  | .st fs => tagIn fs
  | _ => .any
@[reducible] def tagOfI : AV → Tag
  | .ints _ _ g => g
  | _ => .any
/-- The blocks of the arguments. -/
@[reducible] def Tag.all (now : Nat) : Tag → Nat
  | .iv r m _ _ => Nat.lor r m
  | .arg _ => 2
  | _ => fullM now
@[reducible] def allIn (now : Nat) : List AV → Nat
  | [] => 0
  | .slc _ g :: _ => g.all now
  | _ :: r => allIn now r
@[reducible] def all1 (now : Nat) : AV → Nat
  | .slc _ g => g.all now
  | .ints _ _ g => g.all now
  | .st fs => allIn now fs
  | _ => 0
@[reducible] def allL (now : Nat) : List AV → Nat
  | [] => 0
  | v :: r => Nat.lor (all1 now v) (allL now r)
/-- A result's tag as the caller sees it. (d: the number of its own slice.) -/
@[reducible] def Own.ret (q : Bool) (d : Option Nat) : Own → Own
  | .full => .full
  | .tok j => (match j, d with | 0, some d => (match q with | true => .tok d | false => .id d) | _, _ => .no)
  | .id _ => .no
  | .no => .no
@[reducible] def retM (now al x : Nat) : Nat :=
  Nat.lor (match noBits x 4 with | true => 0 | false => bit now) (Nat.lor (match noBits x 2 with | true => 0 | false => al) (match noBits x 1 with | true => 0 | false => fullM now))
@[reducible] def Tag.ret (q : Bool) (now al : Nat) (d : Option Nat) (args : List AV) : Tag → Tag
  | .any => .any
  | .el _ _ _ => .any
  | .iv r m nd o => .iv (retM now al r) (retM now al m) nd (o.ret q d)
  | .arg i => tagOf (args.getD i .top)
@[reducible] def Tag.retI (q : Bool) (now al : Nat) (d : Option Nat) (args : List AV) : Tag → Tag
  | .any => .any
  | .el _ _ _ => .any
  | .iv r m nd o => .iv (retM now al r) (retM now al m) nd (o.ret q d)
  | .arg i => tagOfI (args.getD i .top)
@[reducible] def ret1 (q : Bool) (now al : Nat) (d : Option Nat) (args : List AV) : AV → AV
  | .slc ts g => .slc ts (g.ret q now al d args)
  | .ints k ns g => .ints k ns (g.retI q now al d args)
  | .int k n => .int k n
  | .bool b => .bool b
  | .str l => .str l
  | .strs ss => .strs ss
  | .nili => .nili
  | .ifc => .ifc
  | _ => .top
@[reducible] def ret1L (q : Bool) (now al : Nat) (d : Option Nat) (args : List AV) : List AV → List AV
  | [] => []
  | v :: r => (match v with
    | .slc ts g => ret1 q now al d args (.slc ts g) :: ret1L q now al none args r
    | .ints k ns g => ret1 q now al d args (.ints k ns g) :: ret1L q now al none args r
    | v => ret1 q now al d args v :: ret1L q now al d args r)
@[reducible] def ret2 (q : Bool) (now al : Nat) (d : Option Nat) (args : List AV) : AV → AV
  | .st fs => .st (ret1L q now al d args fs)
  | v => ret1 q now al d args v
@[reducible] def ret2L (q : Bool) (now al : Nat) (d : Option Nat) (args : List AV) : List AV → List AV
  | [] => []
  | v :: r => ret2 q now al d args v :: ret2L q now al d args r
@[reducible] def ret3 (q : Bool) (now al : Nat) (d : Option Nat) (args : List AV) : AV → AV
  | .tup [] => .tup []
  | .tup (v :: vs) => .tup (ret2 q now al d args v :: ret2L q now al none args vs)
  | v => ret2 q now al d args v
/-- Does a result bring a slice's own spare? -/
@[reducible] def Tag.hasTok : Tag → Bool
  | .iv _ _ _ (.tok _) => true
  | _ => false
@[reducible] def tok1 : AV → Bool
  | .slc _ g => g.hasTok
  | .ints _ _ g => g.hasTok
  | _ => false
@[reducible] def tok1L : List AV → Bool
  | [] => false
  | .slc _ g :: _ => g.hasTok
  | .ints _ _ g :: _ => g.hasTok
  | _ :: r => tok1L r
@[reducible] def tok2 : AV → Bool
  | .st fs => tok1L fs
  | v => tok1 v
@[reducible] def tok3 : AV → Bool
  | .tup (v :: _) => tok2 v
  | .tup [] => false
  | v => tok2 v

/-- The variables' contents behind the call. -/
@[reducible] def wb (now al : Nat) : List (Bool × Nat) → List AV → AS → (AS → Prop) → Prop
  | [], _, s, K => K s
  | (true, i) :: r, v :: hs, s, K => force (ret2 false now al none [] v) fun v => wb now al r hs { s with h := upd s.h i v } K
  | (false, i) :: r, v :: hs, s, K => force (ret2 false now al none [] v) fun v => wb now al r hs { s with fh := s.fh.set i v } K
  | _ :: _, [], _, _ => False

@[reducible] def lkC : List (Nat × Con) → Nat → Con
  | [], _ => fun _ _ _ => False
  | (g, c) :: r, f => match Nat.beq f g with | true => c | false => lkC r f

/-- Is the content of each variable known? -/
@[reducible] def okConts (s : AS) : List (Bool × Nat) → Bool
  | [] => true
  | (true, i) :: r => (match s.h i with | .top => false | _ => okConts s r)
  | (false, i) :: r => (match s.fh.getD i .top with | .top => false | _ => okConts s r)

@[reducible] def acall (G : List (Nat × Con)) (dr : Bool) (s : AS) (d : Option Nat) (f : Nat) (args : List AV) (K : AV → AS → Prop) : Prop :=
  match nodupP (ptrsL args), okConts s (ptrsL args) with
  | false, _ => False
  | _, false => False
  | true, true => lkC G f (argsL args 0 0) (conts s (ptrsL args)) fun r hs => wb s.now (allL s.now args) (ptrsL args) hs { s with now := s.now + 1 } fun s' =>
      match r, d with
      | .newp c, some d => match dr with | true => False | false => K (.ptr d) ⟨fun j => (s'.t j).cl is0 (is1 d), upd (fun j => (s'.h j).cl is0 (is1 d)) d (ret2 false s.now (allL s.now args) none args c), clL is0 (is1 d) s'.fh, s'.now⟩
      | .newp _, none => False
      | r, none => K (ret3 false s.now (allL s.now args) none args r) s'
      | r, some d => (match dr, tok3 r with
        | false, true => K (ret3 false s.now (allL s.now args) (some d) (clL (is1 d) is0 args) r) ⟨fun j => (s'.t j).cl (is1 d) is0, fun j => (s'.h j).cl (is1 d) is0, clL (is1 d) is0 s'.fh, s'.now⟩
        | true, true => K (ret3 true s.now (allL s.now args) (some d) args r) s'
        | _, false => K (ret3 false s.now (allL s.now args) none args r) s')

/-- What is left of a state behind a write of nv into the slice of number d, in blocks of the classes r. -/
@[reducible] def wsS (s : AS) (d r : Nat) (nv : AV) : AS := ⟨fun j => (s.t j).ws d r nv, fun j => (s.h j).ws d r nv, wsL d r nv s.fh, s.now⟩
/-- A call that marks its argument. -/
@[reducible] def amarkS (s : AS) (ts : List T) (g : Tag) (k : Int) (K : AV → AS → Prop) : Prop :=
  match g with
  | .iv r m true (.id d) => (match noBits (Nat.lor r m) 3 with
    | true => (0 ≤ k ∧ k + 2 * sizeL ts ≤ 9223372036854775807) ∧ K (.int .i64 (k + 2 * sizeL ts)) (wsS s d (Nat.lor r m) (.slc (markL ts k) (.iv r m true (.id d))))
    | false => False)
  | _ => False
@[reducible] def amarkI (s : AS) (ns : List Int) (g : Tag) (k : Int) (K : AV → AS → Prop) : Prop :=
  match g with
  | .iv r m nd (.id d) => (match noBits r 3 with
    | true => (0 ≤ k ∧ k + ns.length ≤ 9223372036854775807) ∧ K (.int .i64 (k + ns.length)) (wsS s d r (.ints .i64 (markI ns k) (.iv r m nd (.id d))))
    | false => False)
  | _ => False
@[reducible] def amark (mk : Nat) (s : AS) (args : List AV) (K : AV → AS → Prop) : Prop :=
  match args with
  | [.slc ts g, .int .i64 k] => (match Nat.beq mk 1 with | true => amarkS s ts g k K | false => False)
  | [.st [.int .i64 _, .int .i64 _, .slc ts g], .int .i64 k] => (match Nat.beq mk 2 with | true => amarkS s ts g k K | false => False)
  | [.ints .i64 ns g, .int .i64 k] => (match Nat.beq mk 3 with | true => amarkI s ns g k K | false => False)
  | _ => False

@[reducible] def acallM (G : List (Nat × Con)) (dr : Bool) (s : AS) (d : Option Nat) (f : Nat) (args caps : List AV) (mk : Nat) (K : AV → AS → Prop) : Prop :=
  match Nat.beq mk 0 with
  | true => acall G dr s d f (args ++ caps) K
  | false => (match dr, caps with
    | false, [] => amark mk s args K
    | _, _ => False)

@[reducible] def allFlatPtr : List AV → Bool
  | [] => true
  | .ptr _ :: r => allFlatPtr r
  | .fptr _ :: r => allFlatPtr r
  | _ => false

@[reducible] def lowOf (s : AS) : Option Operand → Option Int
  | none => some 0
  | some x => match s.get x with | .int _ n => some n | _ => none

/-- A slice held against nil (outside of drawing regions). -/
@[reducible] def nilCmp (dr : Bool) (op : BinOp) (k : TyK) (u : AV) (y : Operand) : Option (List T) :=
  match dr with
  | true => none
  | false => (match op, k, u, y with
    | .eql, .sc (.slc _ _), .slc ts _, .const (.slice none 0 0) => some ts
    | _, _, _, _ => none)
/-- A nil interface held against the literal nil. -/
@[reducible] def nilNil (ty : TyK) (op : BinOp) (y : Operand) (u : AV) (K : AV → Prop) (E : Prop) : Prop :=
  match u with
  | .nili => (match ty, op, y with
    | .sc .nili, .neq, .const .nilIface => K (.bool false)
    | .sc .nili, .eql, .const .nilIface => K (.bool true)
    | _, _, _ => E)
  | _ => E
/-- One operation. dr: in a region that draws its order. -/
@[reducible] def aop (G : List (Nat × Con)) (TY : Nat → TyI) (dr : Bool) (s : AS) (o : Oper) (K : AV → AS → Prop) : Prop :=
  match o.op with
  | .move x => K (s.get x) s
  | .assign x => K (s.getT TY o.type x) s
  | .pick c a b => (match s.get c with | .bool c => K (pickAV c (s.get a) (s.get b)) s | _ => False)
  | .alloc ty => (match o.dst, (TY ty).k with
    | _, .no => False
    | some d, k => K (.ptr d) ⟨fun j => (s.t j).cl is0 (is1 d), upd (fun j => (s.h j).cl is0 (is1 d)) d (zero k), clL is0 (is1 d) s.fh, s.now⟩
    | none, _ => False)
  | .box _ x => (match o.dst with
    | some d => (match flat2 (s.get x) with
      | true => K (.ptr d) ⟨fun j => (s.t j).cl is0 (is1 d), upd (fun j => (s.h j).cl is0 (is1 d)) d ((s.get x).cl is0 (is1 d)), clL is0 (is1 d) s.fh, s.now⟩
      | false => False)
    | none => False)
  | .build ty parts => (match (TY ty).k with
    | .ag zs => (match partsOk s zs.length parts.toList with | true => K (.st (setParts s zs parts.toList)) s | false => False)
    | _ => False)
  | .buildSlice ty n parts => (match inOrder 0 parts.toList, Nat.beq n parts.toList.length, Nat.ble n 10000 with
    | true, true, true => buildS s (TY ty).k (TY (TY ty).elem).k dr (mapGet s parts.toList) K
    | _, _, _ => False)
  | .makeSlice ty x y => (match o.dst, s.get x, s.get y with
    | some d, .int _ m, .int _ c => (match (TY ty).k, (TY (TY ty).elem).k with
      | .sc (.slc _ _), .ag [.int .i64 p, .int .i64 q, .slc [] _] => (0 ≤ m ∧ m = c ∧ m ≤ 1099511627776) ∧ K (.slc (List.replicate m.toNat (.mk p q [])) (.iv (bit s.now) 0 true (.id d))) ⟨fun j => (s.t j).cl (is1 d) is0, fun j => (s.h j).cl (is1 d) is0, clL (is1 d) is0 s.fh, s.now + 1⟩
      | .sc (.ints _ _ _), .sc (.int k z) => (0 ≤ m ∧ m = c ∧ m ≤ 1099511627776) ∧ K (.ints k (List.replicate m.toNat z) (.iv (bit s.now) 0 true (.id d))) ⟨fun j => (s.t j).cl (is1 d) is0, fun j => (s.h j).cl (is1 d) is0, clL (is1 d) is0 s.fh, s.now + 1⟩
      | _, _ => False)
    | _, _, _ => False)
  | .load ty x => deref s (s.get x) fun v => (match shape (TY ty).k v with | true => K v s | false => False)
  | .store ty x v => (match shape (TY ty).k (s.get v) with
    | true => deref s (s.get x) fun u => (match shape (TY ty).k u with | true => setH s (s.get x) (s.get v) fun s' => K .top s' | false => False)
    | false => False)
  | .nilCheck x => (match s.get x with
    | .ptr i => K (.ptr i) s
    | .fptr i => K (.fptr i) s
    | .cel v => K (.cel v) s
    | .elp ts g i => K (.elp ts g i) s
    | .elf ts g i j => K (.elf ts g i j) s
    | .eli k ns g i => K (.eli k ns g i) s
    | .fld i j => K (.fld i j) s
    | .ffld i j => K (.ffld i j) s
    | .fn f c => K (.fn f c) s
    | _ => False)
  | .fieldAddr ty x j => (match (TY ty).k with
    | .ag zs => (match Nat.blt j zs.length, s.get x with
      | true, .ptr i => K (.fld i j) s
      | true, .fptr i => K (.ffld i j) s
      | true, .elp ts g i => (match Nat.beq zs.length 3 with | true => K (.elf ts g i j) s | false => False)
      | _, _ => False)
    | _ => False)
  | .indexAddr ty x i => indexA (TY ty).k (s.get x) (s.get i) fun v => K v s
  | .index ty x i => (match (TY ty).k, s.get x, s.get i with
    | .sc (.str _), .str l, .int _ n => (0 ≤ n ∧ n < l.length) ∧ K (.int .u8 (l.getD n.toNat 0).toNat) s
    | _, _, _ => False)
  | .slice ty x lo hi mx => (match mx with
    | some _ => False
    | none => (match (TY ty).k, s.get x, lowOf s lo with
      | .sc (.str _), .str l, some a => (match hi with
        | none => (0 ≤ a ∧ a ≤ l.length) ∧ K (.str (l.drop a.toNat)) s
        | some y => (match s.get y with
          | .int _ b => (0 ≤ a ∧ a ≤ b ∧ b ≤ l.length) ∧ K (.str ((l.drop a.toNat).take (b.toNat - a.toNat))) s
          | _ => False))
      | .sc (.ints _ _ _), .ints k l g, some a => (match hi with
        | none => (0 ≤ a ∧ a ≤ l.length) ∧ K (.ints k (l.drop a.toNat) g.part) s
        | some y => (match s.get y with
          | .int _ b => (0 ≤ a ∧ a ≤ b ∧ b ≤ l.length) ∧ K (.ints k ((l.drop a.toNat).take (b.toNat - a.toNat)) g.part) s
          | _ => False))
      | _, _, _ => False))
  | .binOp op ty x y _ => (match nilCmp dr op (TY ty).k (s.get x) y with
    | some ts => ∀ b : Bool, (b = true → ts = []) → K (.bool b) s
    | none => nilNil (TY ty).k op y (s.get x) (fun v => K v s) (binAV (TY ty).k op (s.get x) (s.get y) fun v => K v s))
  | .unOp op _ x => (match op, s.get x with
    | .not, .bool b => K (.bool (!b)) s
    | .neg, .int .i64 n => InR (-n) ∧ K (.int .i64 (-n)) s
    | _, _ => False)
  | .convert src dst x => (match (TY src).k, (TY dst).k, s.get x with
    | .sc (.int _ _), .sc (.int k _), .int _ n => (match k with
      | .i64 => InR n ∧ K (.int .i64 n) s
      | .u8 => (0 ≤ n ∧ n ≤ 255) ∧ K (.int .u8 n) s
      | _ => False)
    | .sc (.ints .u8 _ _), .sc (.str _), .ints .u8 ns _ => K (.str (ns.map fun n => UInt8.ofNat n.toNat)) s
    | _, _, _ => False)
  | .makeFunc f first caps => (match f, first.toList, allFlatPtr (mapGets s caps.toList) with
    | .func f, [], true => K (.fn f (mapGets s caps.toList)) s
    | _, _, _ => False)
  | .extract x i => (match s.get x with
    | .tup vs => (match Nat.blt i vs.length with | true => K (vs.getD i .top) s | false => False)
    | _ => False)
  | .call c => (match c.callee with
    | .value f => (match s.get f with
      | .fn f caps => acallM G dr s o.dst f (mapGetsT TY s c.argTypes.toList c.args.toList) caps (TY f).mark K
      | _ => False)
    | .builtin b => (match b, c.argTypes.toList, mapGets s c.args.toList with
      | .len, [t], [x] => len (TY t).k x fun v => K v s
      | .max, [_, _], [.int .i64 a, .int .i64 b] => K (.int .i64 (max a b)) s
      | .append, [t, t'], [x, y] => (match o.dst, Nat.beq t t' with | some d, true => appd (TY t).k s d x y K | _, _ => False)
      | _, _, _ => False)
    | _ => False)
  | _ => False

@[reducible] def dstOk (n : Nat) : Option Nat → Bool
  | none => true
  | some d => Nat.blt d n

/-- One operation with its guard, its value put away. -/
@[reducible] def step1 (G : List (Nat × Con)) (TY : Nat → TyI) (n : Nat) (ops : Array Oper) (dr : Bool) (o : Oper) (s : AS) (K : AS → Prop) : Prop :=
  match dstOk n o.dst with
  | false => False
  | true =>
  match o.guard with
  | none => aop G TY dr s o fun v s' => (match s' with | ⟨t, h, fh, now⟩ => force v fun v => K ⟨updO t o.dst v, h, fh, now⟩)
  | some (j, want) =>
    match (ops[j]?).bind (·.dst) with
    | none => False
    | some d =>
      match s.t d with
      | .bool b => Br b
          (match want with
            | true => aop G TY dr ⟨upd s.t d (.bool true), s.h, s.fh, s.now⟩ o fun v s' => (match s' with | ⟨t, h, fh, now⟩ => force v fun v => K ⟨updO t o.dst v, h, fh, now⟩)
            | false => K ⟨updO (upd s.t d (.bool true)) o.dst (.tup []), s.h, s.fh, s.now⟩)
          (match want with
            | true => K ⟨updO (upd s.t d (.bool false)) o.dst (.tup []), s.h, s.fh, s.now⟩
            | false => aop G TY dr ⟨upd s.t d (.bool false), s.h, s.fh, s.now⟩ o fun v s' => (match s' with | ⟨t, h, fh, now⟩ => force v fun v => K ⟨updO t o.dst v, h, fh, now⟩))
      | .tup [] => K ⟨updO s.t o.dst (.tup []), s.h, s.fh, s.now⟩
      | _ => False

/-- The operations of a region, in the order of the list. -/
@[reducible] def aops (G : List (Nat × Con)) (TY : Nat → TyI) (n : Nat) (ops : Array Oper) : List Oper → AS → (AS → Prop) → Prop
  | [], s, Q => Q s
  | o :: r, s, Q => step1 G TY n ops false o s fun s' => aops G TY n ops r s' Q

@[reducible] def Own.eqb : Own → Own → Bool
  | .no, .no => true
  | .full, .full => true
  | .tok a, .tok b => Nat.beq a b
  | .id a, .id b => Nat.beq a b
  | _, _ => false
@[reducible] def bEq : Bool → Bool → Bool
  | true, b => b
  | false, true => false
  | false, false => true
@[reducible] def Tag.eqb : Tag → Tag → Bool
  | .any, .any => true
  | .arg i, .arg j => Nat.beq i j
  | .iv r m nd o, .iv r' m' nd' o' => match Nat.beq r r', Nat.beq m m', bEq nd nd' with | true, true, true => o.eqb o' | _, _, _ => false
  | .el m nd o, .el m' nd' o' => match Nat.beq m m', bEq nd nd' with | true, true => o.eqb o' | _, _ => false
  | _, _ => false
@[reducible] def capsEq : List AV → List AV → Bool
  | [], [] => true
  | .ptr i :: r, .ptr j :: r' => match Nat.beq i j with | true => capsEq r r' | false => false
  | .fptr i :: r, .fptr j :: r' => match Nat.beq i j with | true => capsEq r r' | false => false
  | _, _ => false
/-- Two values are the same, and A. -/
@[reducible] def same1 (u v : AV) (A : Prop) : Prop :=
  match u, v with
  | .top, .top => A
  | .int k n, .int k' n' => (match ikEq k k' with | true => n = n' ∧ A | false => False)
  | .bool b, .bool b' => b = b' ∧ A
  | .str l, .str l' => l = l' ∧ A
  | .slc ts g, .slc ts' g' => (match g.eqb g' with | true => ts = ts' ∧ A | false => False)
  | .ints k ns g, .ints k' ns' g' => (match ikEq k k', g.eqb g' with | true, true => ns = ns' ∧ A | _, _ => False)
  | .strs ss, .strs ss' => ss = ss' ∧ A
  | .nili, .nili => A
  | .ifc, .ifc => A
  | .ptr i, .ptr j => (match Nat.beq i j with | true => A | false => False)
  | .fptr i, .fptr j => (match Nat.beq i j with | true => A | false => False)
  | .fld i x, .fld j y => (match Nat.beq i j, Nat.beq x y with | true, true => A | _, _ => False)
  | .ffld i x, .ffld j y => (match Nat.beq i j, Nat.beq x y with | true, true => A | _, _ => False)
  | .elp ts g i, .elp ts' g' j => (match g.eqb g' with | true => ts = ts' ∧ i = j ∧ A | false => False)
  | .elf ts g i x, .elf ts' g' j y => (match g.eqb g', Nat.beq x y with | true, true => ts = ts' ∧ i = j ∧ A | _, _ => False)
  | .eli k ns g i, .eli k' ns' g' j => (match ikEq k k', g.eqb g' with | true, true => ns = ns' ∧ i = j ∧ A | _, _ => False)
  | .cel (.str l), .cel (.str l') => l = l' ∧ A
  | .fn f c, .fn f' c' => (match Nat.beq f f', capsEq c c' with | true, true => A | _, _ => False)
  | _, _ => False
@[reducible] def same1L : List AV → List AV → Prop → Prop
  | [], [], A => A
  | u :: r, v :: r', A => same1 u v (same1L r r' A)
  | _, _, _ => False
@[reducible] def same2 (u v : AV) (A : Prop) : Prop :=
  match u, v with
  | .st fs, .st gs => same1L fs gs A
  | u, v => same1 u v A
@[reducible] def same2L : List AV → List AV → Prop → Prop
  | [], [], A => A
  | u :: r, v :: r', A => same2 u v (same2L r r' A)
  | _, _, _ => False
@[reducible] def same3 (u v : AV) (A : Prop) : Prop :=
  match u, v with
  | .tup fs, .tup gs => same2L fs gs A
  | u, v => same2 u v A
/-- Whether a guard holds, where that is known. -/
@[reducible] def wantOf (ops : Array Oper) (o : Oper) (s : AS) : Option Bool :=
  match o.guard with
  | none => some true
  | some (j, w) => match (ops[j]?).bind (·.dst) with
    | some d => (match s.t d with | .bool b => some (bEq b w) | .tup [] => some false | _ => none)
    | none => none
/-- Pure operations that may come later than an effect: they must still give the same. -/
@[reducible] def chk (TY : Nat → TyI) (ops : Array Oper) : List Nat → AS → Prop → Prop
  | [], _, A => A
  | l :: ls, s, A =>
    match ops[l]? with
    | none => False
    | some o =>
      match o.dst, wantOf ops o s with
      | some d, some w => (match w with
        | false => chk TY ops ls s A
        | true => aop [] TY true s o fun v _ => same3 v (s.t d) (chk TY ops ls s A))
      | _, _ => False

/-- Operations that do more than compute or read. -/
def isEff (o : Oper) : Bool :=
  match o.op with
  | .call c => (match c.callee with | .builtin .len => false | .builtin .max => false | _ => true)
  | .store .. | .alloc _ | .box .. | .assign _ | .makeSlice .. => true
  | .binOp op _ _ _ _ => (match op with | .xor => true | _ => false)
  | _ => false
/-- Operations that may strike a token or an address from what is known. -/
def strips (o : Oper) : Bool :=
  match o.op with
  | .call c => (match c.callee with | .builtin .append => true | _ => false)
  | .alloc _ | .box .. | .store .. | .makeSlice .. => true
  | _ => false
def isLoad (o : Oper) : Bool := match o.op with | .load .. => true | _ => false
def slots (o : Oper) : List Nat := o.op.operands.toList.filterMap fun | .tmp t => some t | _ => none
/- What has nothing to do with variable d. -/
@[reducible] def inert1 (d : Nat) : AV → Bool
  | .ptr i => (match Nat.beq i d with | true => false | false => true)
  | .fld i _ => (match Nat.beq i d with | true => false | false => true)
  | .fn _ caps => ptrOk (is1 d) caps
  | _ => true
@[reducible] def inert1L (d : Nat) : List AV → Bool
  | [] => true
  | v :: r => match inert1 d v with | true => inert1L d r | false => false
@[reducible] def inert2 (d : Nat) (v : AV) : Bool := match v with | .st fs => inert1L d fs | v => inert1 d v
@[reducible] def inert2L (d : Nat) : List AV → Bool
  | [] => true
  | v :: r => match inert2 d v with | true => inert2L d r | false => false
@[reducible] def inert3 (d : Nat) (v : AV) : Bool := match v with | .tup vs => inert2L d vs | v => inert2 d v
@[reducible] def farP (d : Nat) (s : AS) (p : AV) : Bool := match p with
  | .ptr i => (match Nat.beq i d with | true => false | false => inert3 d (s.h i))
  | .fptr i => inert3 d (s.fh.getD i .top)
  | .fld i _ => (match Nat.beq i d with | true => false | false => inert3 d (s.h i))
  | .ffld i _ => inert3 d (s.fh.getD i .top)
  | _ => true
@[reducible] def slotsIn (d : Nat) (s : AS) : List Nat → Bool
  | [] => true
  | t :: r => match inert3 d (s.t t) with | true => slotsIn d s r | false => false
@[reducible] def dstIn (d : Nat) (s : AS) : Option Nat → Bool
  | some t => inert3 d (s.t t)
  | none => false
@[reducible] def farO (d : Nat) (s : AS) : Op → Bool
  | .load _ x => farP d s (s.get x)
  | _ => true
@[reducible] def inertO (d : Nat) (s : AS) (o : Oper) : Bool := and3 (slotsIn d s (slots o)) (dstIn d s o.dst) (farO d s o.op)
@[reducible] def calmL (ops : Array Oper) (d : Nat) (s : AS) : List Nat → Bool
  | [] => true
  | l :: r => (match ops[l]? with | some o => (match inertO d s o with | true => calmL ops d s r | false => false) | none => false)
/-- A new variable, or a write into one, with which the pure operations ls have nothing to do. -/
@[reducible] def calm (ops : Array Oper) (s : AS) (o : Oper) (ls : List Nat) : Bool :=
  match o.guard with
  | some _ => false
  | none => (match o.op, o.dst with
    | .alloc _, some d => calmL ops d s ls
    | .store _ x _, none => (match s.get x with | .ptr d => calmL ops d s ls | _ => false)
    | _, _ => false)
/-- A new variable that nothing comes ahead of. -/
def allocNG (ops : Array Oper) (i : Nat) : Bool :=
  match ops[i]? with
  | some o => (match o.op, o.dst, o.guard with
    | .alloc _, some _, none => o.after.isEmpty
    | _, _, _ => false)
  | none => false
/-- The operations of a region that draws its order, in one order; behind each, the pure ones that may still be owed. (cm: those that have nothing to do with a new variable need no look.) -/
@[reducible] def aopsD (G : List (Nat × Con)) (TY : Nat → TyI) (n : Nat) (cm : Bool) (ops : Array Oper) : List (Nat × List Nat) → AS → (AS → Prop) → Prop
  | [], s, Q => Q s
  | (i, ls) :: r, s, Q =>
    match ops[i]? with
    | none => False
    | some o => (match cm with
      | true => (match calm ops s o ls with
        | true => step1 G TY n ops true o s fun s' => aopsD G TY n cm ops r s' Q
        | false => (match allocNG ops i with
          | true => False
          | false => step1 G TY n ops true o s fun s' => chk TY ops ls s' (aopsD G TY n cm ops r s' Q)))
      | false => step1 G TY n ops true o s fun s' => chk TY ops ls s' (aopsD G TY n cm ops r s' Q))

def eff (ops : Array Oper) (i : Nat) : Bool := ((ops[i]?).map isEff).getD true
def before (b : Array Nat) (i j : Nat) : Bool := (b.getD i 0).testBit j

/-- What stands ahead and is an effect must come ahead; but new variables (cm) that stand side by side may come in any order. -/
def okE (cm : Bool) (ops : Array Oper) (b : Array Nat) (done : List Nat) (i : Nat) : Bool :=
  done.all fun j => !eff ops j || (before b i j || (cm && (allocNG ops i && (done.takeWhile (allocNG ops)).contains j)))
def okH (cm : Bool) (ops : Array Oper) (b : Array Nat) (done : List Nat) (i : Nat) (ls : List Nat) : Bool :=
  match ops[i]? with
  | none => false
  | some o =>
    !done.contains i &&
    ((List.range ops.size).all (fun j => !before b i j || done.contains j) &&
    (okE cm ops b done i &&
    (match isEff o with
      | true =>
        done.all (fun j => eff ops j || (before b i j || ((!strips o && !((ops[j]?).map isLoad).getD true) || ls.contains j))) &&
        ls.all (fun j => done.contains j && !eff ops j)
      | false => ls.isEmpty)))
/-- Is the order good? 'done' is what stands ahead, in reverse. -/
def okFrom (cm : Bool) (ops : Array Oper) (b : Array Nat) : List Nat → List (Nat × List Nat) → Bool
  | _, [] => true
  | done, (i, ls) :: r => okH cm ops b done i ls && okFrom cm ops b (i :: done) r

/-- No two operations stand in each other's way: who writes a slot that another one names is ordered with it; a pure one's operands are overwritten by effects behind it alone. -/
def okSlots (ops : Array Oper) (b : Array Nat) : Bool :=
  (List.range ops.size).all fun i => (List.range ops.size).all fun j =>
    match ops[i]?, ops[j]? with
    | some oi, some oj =>
      (match oj.dst with
        | none => true
        | some d => (i == j || oi.dst != some d) &&
            ((!(slots oi).contains d || (before b i j || (isEff oj && (i == j || before b j i)))) &&
            (match oi.guard with
              | none => true
              | some (g, _) => ((ops[g]?).bind (·.dst)) != some d || g == j)))
    | _, _ => false

def okGuards (ops : Array Oper) (b : Array Nat) : Bool :=
  (List.range ops.size).all fun i => match ops[i]? with
    | some o => (match o.guard with | none => true | some (g, _) => before b i g && !eff ops g)
    | none => false

/-- b holds what must come ahead of what, and no more. -/
def okBefore (ops : Array Oper) (b : Array Nat) : Bool :=
  (List.range ops.size).all fun i => match ops[i]? with
    | some o => o.after.all (fun e => !Region.binds .any e || (before b i e.on && Nat.blt e.on ops.size)) &&
        (List.range ops.size).all (fun j => !before b i j || o.after.any (fun e => Region.binds .any e && (e.on == j || before b e.on j)))
    | none => false

def okD (cm : Bool) (ops : Array Oper) (ord : List (Nat × List Nat)) : Bool :=
  let b := Region.before ops
  (List.range ops.size).all (fun i => (ord.map (·.1)).contains i) && (okFrom cm ops b [] ord && (okSlots ops b && (okGuards ops b && okBefore ops b)))

/-- The order in which pure operations stand as early as they can. (Used to find an order; okD judges it.) -/
def canonGo (ops : Array Oper) (b : Array Nat) : Nat → List Nat → List (Nat × List Nat)
  | 0, _ => []
  | fuel + 1, done =>
    let ready := (List.range ops.size).filter fun i => !done.contains i && (List.range ops.size).all fun j => !before b i j || done.contains j
    match ready.find? (fun i => !eff ops i) with
    | some i => (i, []) :: canonGo ops b fuel (i :: done)
    | none => match ready.head? with
      | some i => (i, done.filter fun j => !eff ops j && (!before b i j && (((ops[j]?).map isLoad).getD false || ((ops[i]?).map strips).getD false))) :: canonGo ops b fuel (i :: done)
      | none => []
def canonD (ops : Array Oper) : List (Nat × List Nat) := canonGo ops (Region.before ops) ops.size []
def drawn : Code → List (Nat × Array Oper)
  | .region id ops true => [(id, ops)]
  | .seq a b => drawn a ++ drawn b
  | .cond _ a b => drawn a ++ drawn b
  | .block _ a => drawn a
  | .loop a => drawn a
  | _ => []
def orders (fn : Func) : List (Nat × Bool × List (Nat × List Nat)) := match fn.body with
  | some c => (drawn c).map fun x => (x.1, okD false x.2 (canonD x.2), canonD x.2)
  | none => []

inductive Ex where
  | normal | exit (i : Nat) | ret

/-- All young classes are one. -/
@[reducible] def c3 (x : Nat) : Nat := Nat.lor (Nat.land x 3) (match Nat.beq (Nat.shiftRight x 2) 0 with | true => 0 | false => 4)
@[reducible] def subM (a b : Nat) : Bool := Nat.beq (Nat.lor a b) b
/-- The second tag, of moment 3, says no more than the first. -/
@[reducible] def Own.le : Own → Own → Bool
  | _, .no => true
  | .full, .full => true
  | .full, .tok _ => true
  | .tok a, .tok b => Nat.beq a b
  | .id a, .tok b => Nat.beq a b
  | .id a, .id b => Nat.beq a b
  | _, _ => false
@[reducible] def Tag.le : Tag → Tag → Bool
  | _, .any => true
  | .arg i, .arg j => Nat.beq i j
  | .iv r m nd o, .iv r' m' nd' o' => and3 (and3 (subM (c3 r) r') (subM (c3 m) m') (match nd' with | false => true | true => nd)) true (o.le o')
  | .arg _, .iv r' m' nd' o' => and3 (subM 2 r') (subM 2 m') (match nd', o' with | false, .no => true | _, _ => false)
  | _, _ => false
/-- The second value says no more than the first. -/
@[reducible] def wk1 : AV → AV → Prop
  | _, .top => True
  | .int k n, .int k' n' => k = k' ∧ n = n'
  | .bool b, .bool b' => b = b'
  | .str l, .str l' => l = l'
  | .slc ts g, .slc ts' g' => ts = ts' ∧ g.le g' = true
  | .ints k ns g, .ints k' ns' g' => k = k' ∧ ns = ns' ∧ g.le g' = true
  | .strs ss, .strs ss' => ss = ss'
  | .nili, .nili => True
  | .ifc, .ifc => True
  | .ptr i, .ptr j => i = j
  | .fptr i, .fptr j => i = j
  | .fld i j, .fld i' j' => i = i' ∧ j = j'
  | .ffld i j, .ffld i' j' => i = i' ∧ j = j'
  | .fn f c, .fn f' c' => f = f' ∧ c = c'
  | _, _ => False
@[reducible] def wk1L : List AV → List AV → Prop
  | [], [] => True
  | a :: r, b :: r' => wk1 a b ∧ wk1L r r'
  | _, _ => False
@[reducible] def wk2 : AV → AV → Prop
  | .st fs, .st gs => wk1L fs gs
  | a, b => wk1 a b
@[reducible] def wk2L : List AV → List AV → Prop
  | [], [] => True
  | a :: r, b :: r' => wk2 a b ∧ wk2L r r'
  | _, _ => False
/-- The same for a variable's content. -/
@[reducible] def wkF : AV → AV → Prop
  | .st fs, .st gs => wk1L fs gs
  | .st _, _ => False
  | a, b => wk1 a b
@[reducible] def wkFL : List AV → List AV → Prop
  | [], [] => True
  | a :: r, b :: r' => wkF a b ∧ wkFL r r'
  | _, _ => False
@[reducible] def wk3 : AV → AV → Prop
  | .tup fs, .tup gs => wk2L fs gs
  | .newp a, .newp b => wkF a b
  | a, b => wk2 a b
@[reducible] def subL (f : Nat → AV) : List (Nat × AV) → Prop
  | [] => True
  | (i, v) :: r => wk3 (f i) v ∧ subL f r

/-- The same, as it is evaluated: only what may fail is asked, and A behind it. -/
@[reducible] def we1 (u v : AV) (A : Prop) : Prop :=
  match v, u with
  | .top, _ => A
  | .int k' n', .int k n => (match ikEq k k' with | true => n = n' ∧ A | false => False)
  | .bool b', .bool b => b = b' ∧ A
  | .str l', .str l => l = l' ∧ A
  | .slc ts' g', .slc ts g => (match g.le g' with | true => ts = ts' ∧ A | false => False)
  | .ints k' ns' g', .ints k ns g => (match ikEq k k', g.le g' with | true, true => ns = ns' ∧ A | _, _ => False)
  | .strs ss', .strs ss => ss = ss' ∧ A
  | .nili, .nili => A
  | .ifc, .ifc => A
  | .ptr j, .ptr i => (match Nat.beq i j with | true => A | false => False)
  | .fptr j, .fptr i => (match Nat.beq i j with | true => A | false => False)
  | .fld i' j', .fld i j => (match Nat.beq i i', Nat.beq j j' with | true, true => A | _, _ => False)
  | .ffld i' j', .ffld i j => (match Nat.beq i i', Nat.beq j j' with | true, true => A | _, _ => False)
  | .fn f' c', .fn f c => (match Nat.beq f f', capsEq c c' with | true, true => A | _, _ => False)
  | _, _ => False
@[reducible] def we1L : List AV → List AV → Prop → Prop
  | [], [], A => A
  | a :: r, b :: r', A => we1 a b (we1L r r' A)
  | _, _, _ => False
@[reducible] def we2 (u v : AV) (A : Prop) : Prop :=
  match u, v with
  | .st fs, .st gs => we1L fs gs A
  | a, b => we1 a b A
@[reducible] def we2L : List AV → List AV → Prop → Prop
  | [], [], A => A
  | a :: r, b :: r', A => we2 a b (we2L r r' A)
  | _, _, _ => False
@[reducible] def weF (u v : AV) (A : Prop) : Prop :=
  match u, v with
  | .st fs, .st gs => we1L fs gs A
  | .st _, _ => False
  | a, b => we1 a b A
@[reducible] def weFL : List AV → List AV → Prop → Prop
  | [], [], A => A
  | a :: r, b :: r', A => weF a b (weFL r r' A)
  | _, _, _ => False
@[reducible] def we3 (u v : AV) (A : Prop) : Prop :=
  match u, v with
  | .tup fs, .tup gs => we2L fs gs A
  | .newp a, .newp b => weF a b A
  | a, b => we2 a b A
@[reducible] def seL (f : Nat → AV) : List (Nat × AV) → Prop → Prop
  | [], A => A
  | (i, v) :: r, A => we3 (f i) v (seL f r A)

/-- The state with the listed slots, variables and foreign contents, and nothing else known. -/
@[reducible] def ofL (tl hl : List (Nat × AV)) (fh : List AV) : AS := ⟨lk tl, lk hl, fh, 3⟩
@[reducible] def subS (s : AS) (tl hl : List (Nat × AV)) (fh : List AV) : Prop := subL s.t tl ∧ subL s.h hl ∧ wkFL s.fh fh
@[reducible] def seS (s : AS) (tl hl : List (Nat × AV)) (fh : List AV) (A : Prop) : Prop := seL s.t tl (seL s.h hl (weFL s.fh fh A))

/-- In which orders a region's operations are looked at: the usual way; one order; first with x behind e, then with e behind x. -/
inductive Plan where
  | no | ord (l : List (Nat × List Nat)) | two (x e : Nat) (l r : Plan)
/-- What is told of a loop: the family of states at its head (each with what holds of its index), and a measure. -/
structure LA where
  ι : Type
  ok : ι → Prop
  tl : ι → List (Nat × AV)
  hl : ι → List (Nat × AV)
  fh : ι → List AV
  μ : ι → Nat
  re : Nat := 0
  plan : Plan := .no
/-- What is told of a region: at its begin the slice in slot j is looked at anew. -/
@[reducible] def retagL (j : Nat) : LA := { ι := Unit, ok := fun _ => True, tl := fun _ => [], hl := fun _ => [], fh := fun _ => [], μ := fun _ => 0, re := j }
@[reducible] def lkA : List (Nat × LA) → Nat → Option LA
  | [], _ => none
  | (i, v) :: r, j => match Nat.beq j i with | true => some v | false => lkA r j
/-- A loop's number: that of its first region. -/
@[reducible] def firstR : Code → Nat
  | .region id _ _ => id
  | .seq a _ => firstR a
  | .block _ a => firstR a
  | .cond _ a _ => firstR a
  | .loop a => firstR a
  | _ => 0
@[reducible] def loopP (L : LA) (W : (Ex → AS → Prop) → AS → Prop) (Q : Ex → AS → Prop) (s : AS) : Prop :=
  (∃ x, L.ok x ∧ seS s (L.tl x) (L.hl x) (L.fh x) True) ∧ ∀ x, L.ok x → W (fun e s' => match e with
      | .normal => ∃ y, L.ok y ∧ seS s' (L.tl y) (L.hl y) (L.fh y) (L.μ y < L.μ x)
      | .exit i => Q (.exit i) s'
      | .ret => Q .ret s') (ofL (L.tl x) (L.hl x) (L.fh x))

/-- A loop of which nothing is told. -/
inductive NoLoop (key : Nat) (s : AS) : Prop
/-- A test's outcome is put into its slot. -/
@[reducible] def setB (s : AS) (c : Operand) (b : Bool) : AS := match c, s with | .tmp i, ⟨t, h, fh, now⟩ => ⟨upd t i (.bool b), h, fh, now⟩ | _, s => s
/-- One more edge: i waits for j. -/
def addE (ops : Array Oper) (i j : Nat) : Array Oper :=
  match ops[i]? with
  | some o => ops.setIfInBounds i { o with after := o.after.push ⟨j, .data⟩ }
  | none => ops
/-- Two effects that nothing orders. -/
def pairOf (ops : Array Oper) : Option (Nat × Nat) :=
  let b := Region.before ops
  ((List.range ops.size).filter (eff ops)).findSome? fun x => ((List.range ops.size).filter (eff ops)).findSome? fun e =>
    if x != e && (!before b x e && !before b e x) then some (x, e) else none
@[reducible] def drawP (G : List (Nat × Con)) (TY : Nat → TyI) (n : Nat) : Nat → Array Oper → AS → (AS → Prop) → Prop
  | 0, _, _, _ => False
  | fuel + 1, ops, s, Q => (match okD false ops (canonD ops) with
    | true => aopsD G TY n false ops (canonD ops) s Q
    | false => (match pairOf ops with
      | some (x, e) => (match Nat.beq x e with | true => False | false => drawP G TY n fuel (addE ops x e) s Q ∧ drawP G TY n fuel (addE ops e x) s Q)
      | none => False))
@[reducible] def drawL (G : List (Nat × Con)) (TY : Nat → TyI) (n : Nat) : Plan → Array Oper → AS → (AS → Prop) → Prop
  | .no, ops, s, Q => drawP G TY n 12 ops s Q
  | .ord l, ops, s, Q => (match okD true ops l with | true => aopsD G TY n true ops l s Q | false => False)
  | .two x e l r, ops, s, Q => (match Nat.beq x e with | true => False | false => drawL G TY n l (addE ops x e) s Q ∧ drawL G TY n r (addE ops e x) s Q)
/-- Behind a region its orders are joined: the states are told as a loop's. -/
@[reducible] def joinP (L : LA) (W : (AS → Prop) → Prop) (Q : AS → Prop) : Prop :=
  W (fun s' => ∃ x, L.ok x ∧ seS s' (L.tl x) (L.hl x) (L.fh x) True) ∧ ∀ x, L.ok x → Q (ofL (L.tl x) (L.hl x) (L.fh x))
/-- A slice of whose block's spare its operation owns: that it is the one slice that is known of that operation's. -/
@[reducible] def retagP (s : AS) (j : Nat) (K : AS → Prop) : Prop :=
  match s.t j with
  | .ints k ns (.iv r m nd o) => (match o with
    | .tok d => K ⟨upd (fun i => (s.t i).cl (is2 d j) is0) j (.ints k ns (.iv r m nd (.id j))), fun i => (s.h i).cl (is2 d j) is0, clL (is2 d j) is0 s.fh, s.now⟩
    | .id d => K ⟨upd (fun i => (s.t i).cl (is2 d j) is0) j (.ints k ns (.iv r m nd (.id j))), fun i => (s.h i).cl (is2 d j) is0, clL (is2 d j) is0 s.fh, s.now⟩
    | _ => False)
  | .slc ts (.iv r m nd o) => (match o with
    | .tok d => K ⟨upd (fun i => (s.t i).cl (is2 d j) is0) j (.slc ts (.iv r m nd (.id j))), fun i => (s.h i).cl (is2 d j) is0, clL (is2 d j) is0 s.fh, s.now⟩
    | .id d => K ⟨upd (fun i => (s.t i).cl (is2 d j) is0) j (.slc ts (.iv r m nd (.id j))), fun i => (s.h i).cl (is2 d j) is0, clL (is2 d j) is0 s.fh, s.now⟩
    | _ => False)
  | .ptr i => (match s.h i with
    | .st [.int k1 a, .int k2 c, .slc ts (.iv r m nd o)] => (match o with
      | .tok d => K ⟨fun x => (s.t x).cl (is2 d i) is0, upd (fun x => (s.h x).cl (is2 d i) is0) i (.st [.int k1 a, .int k2 c, .slc ts (.iv r m nd (.id i))]), clL (is2 d i) is0 s.fh, s.now⟩
      | .id d => K ⟨fun x => (s.t x).cl (is2 d i) is0, upd (fun x => (s.h x).cl (is2 d i) is0) i (.st [.int k1 a, .int k2 c, .slc ts (.iv r m nd (.id i))]), clL (is2 d i) is0 s.fh, s.now⟩
      | _ => False)
    | _ => False)
  | _ => False
@[reducible] def regP (G : List (Nat × Con)) (TY : Nat → TyI) (A : List (Nat × LA)) (n : Nat) (id : Nat) (ops : Array Oper) (dr : Bool) (Q : AS → Prop) (s : AS) : Prop :=
  match dr with
  | false => aops G TY n ops ops.toList s Q
  | true => (match lkA A (Nat.add 2000000 id) with
    | none => drawP G TY n 12 ops s Q
    | some L => (match L.re with
      | 0 => joinP L (drawL G TY n L.plan ops s) Q
      | 2 => drawL G TY n L.plan ops s Q
      | _ => drawL G TY n L.plan ops s fun s' => NoLoop id s'))
@[reducible] def awp (G : List (Nat × Con)) (TY : Nat → TyI) (A : List (Nat × LA)) (n : Nat) : Code → (Ex → AS → Prop) → AS → Prop
  | .skip, Q, s => Q .normal s
  | .label _, Q, s => Q .normal s
  | .seq a b, Q, s => awp G TY A n a (fun e s' => match e with | .normal => awp G TY A n b Q s' | .exit i => Q (.exit i) s' | .ret => Q .ret s') s
  | .region id ops dr, Q, s => (match lkA A (Nat.add 1000000 id), lkA A (Nat.add 1500000 id) with
    | none, none => regP G TY A n id ops dr (Q .normal) s
    | some L, none => retagP s L.re fun s' => regP G TY A n id ops dr (Q .normal) s'
    | none, some M => regP G TY A n id ops dr (fun s' => retagP s' M.re (Q .normal)) s
    | some L, some M => retagP s L.re fun s' => regP G TY A n id ops dr (fun s' => retagP s' M.re (Q .normal)) s')
  | .cond c a b, Q, s => (match s.get c with
    | .bool t => Br t (awp G TY A n a Q (setB s c true)) (awp G TY A n b Q (setB s c false))
    | _ => False)
  | .block id c, Q, s => awp G TY A n c (fun e s' => match e with
    | .normal => Q .normal s'
    | .exit i => (match Nat.beq i id with | true => Q .normal s' | false => Q (.exit i) s')
    | .ret => Q .ret s') s
  | .loop c, Q, s => (match lkA A (firstR c) with | some L => loopP L (awp G TY A n c) Q s | none => NoLoop (firstR c) s)
  | .exit id, Q, s => Q (.exit id) s
  | .ret, Q, s => Q .ret s
  | _, _, _ => False

/-- A result as it is handed back. (k: the number of the slice that may be handed back with its spare.) -/
@[reducible] def Own.out (k : Option Nat) : Own → Own
  | .full => .full
  | .no => .no
  | .tok j => (match k with | some k => (match Nat.beq j k with | true => .tok 0 | false => .no) | none => .no)
  | .id j => (match k with | some k => (match Nat.beq j k with | true => .tok 0 | false => .no) | none => .no)
@[reducible] def Tag.out (k : Option Nat) (g : Tag) : Tag :=
  match g with
  | .any => .any
  | .el _ _ _ => .any
  | .iv r m nd o => .iv (c3 r) (c3 m) nd (o.out k)
  | .arg i => .arg i
@[reducible] def out1 (k : Option Nat) : AV → AV
  | .slc ts g => .slc ts (g.out k)
  | .ints k' ns g => .ints k' ns (g.out k)
  | .int k n => .int k n
  | .bool b => .bool b
  | .str l => .str l
  | .strs ss => .strs ss
  | .nili => .nili
  | .ifc => .ifc
  | _ => .top
@[reducible] def out1L (k : Option Nat) : List AV → List AV
  | [] => []
  | v :: r => out1 k v :: out1L k r
@[reducible] def out2 (k : Option Nat) : AV → AV
  | .st fs => .st (out1L k fs)
  | v => out1 k v
@[reducible] def out2L (k : Option Nat) : List AV → List AV
  | [] => []
  | v :: r => out2 k v :: out2L k r
@[reducible] def Tag.tokN : Tag → Option Nat
  | .iv _ _ _ (.tok k) => some k
  | .iv _ _ _ (.id k) => some k
  | _ => none
@[reducible] def tokN1 : AV → Option Nat
  | .slc _ g => g.tokN
  | .ints _ _ g => g.tokN
  | _ => none
@[reducible] def tokN1L : List AV → Option Nat
  | [] => none
  | .slc _ g :: _ => g.tokN
  | .ints _ _ g :: _ => g.tokN
  | _ :: r => tokN1L r
@[reducible] def tokN2 : AV → Option Nat
  | .st fs => tokN1L fs
  | v => tokN1 v
@[reducible] def tokN3 : AV → Option Nat
  | .tup [] => none
  | .tup (v :: _) => tokN2 v
  | v => tokN2 v
@[reducible] def out3 (s : AS) : AV → AV
  | .tup vs => .tup (out2L (tokN3 (.tup vs)) vs)
  | .ptr i => .newp (out2 none (s.h i))
  | v => out2 (tokN2 v) v

/-- What the callee's caller is told: the values handed back, or less. -/
structure Ret (K : AV → List AV → Prop) (r : AV) (hs : List AV) : Prop where
  out : ∃ r' hs', wk3 r r' ∧ wkFL hs hs' ∧ K r' hs'
theorem fin {K : AV → List AV → Prop} {r r' : AV} {hs hs' : List AV} (hK : K r' hs') (h : wk3 r r') (h2 : wkFL hs hs') : Ret K r hs := ⟨⟨r', hs', h, h2, hK⟩⟩

@[reducible] def resAV (TY : Nat → TyI) (s : AS) (r : ResultVar) (K : AV → Prop) : Prop :=
  match r with
  | .tmp i => (match s.t i with | .ptr j => (match flat2 (s.h j) with | true => K (.ptr j) | false => False) | v => K v)
  | .cell i ty => (match s.t i with
    | .ptr j => (match shape (TY ty).k (s.h j) with | true => (match s.h j with | .ptr _ => False | v => K v) | false => False)
    | _ => False)
@[reducible] def resL (TY : Nat → TyI) (s : AS) : List ResultVar → (List AV → Prop) → Prop
  | [], K => K []
  | r :: rs, K => resAV TY s r fun v => resL TY s rs fun vs => K (v :: vs)
@[reducible] def resP (TY : Nat → TyI) (rs : List ResultVar) (K : AV → List AV → Prop) (s : AS) : Prop :=
  resL TY s rs fun vs => match vs with
    | [v] => force (out3 s v) fun v => Ret K v (out2L none s.fh)
    | vs => force (out3 s (.tup vs)) fun v => Ret K v (out2L none s.fh)
@[reducible] def retQ (TY : Nat → TyI) (rs : List ResultVar) (K : AV → List AV → Prop) : Ex → AS → Prop
  | .normal, s => resP TY rs K s
  | .ret, s => resP TY rs K s
  | .exit _, _ => False

@[reducible] def getL : List AV → Nat → AV
  | [], _ => .top
  | v :: r, n => match n with | 0 => v | k + 1 => getL r k
@[reducible] def init (args hs : List AV) : AS := ⟨getL args, fun _ => .top, hs, 3⟩
/-- What is asked of a function's body. -/
@[reducible] def bodyP (G : List (Nat × Con)) (TY : Nat → TyI) (A : List (Nat × LA)) (fn : Func) (c : Code) (args hs : List AV) (K : AV → List AV → Prop) : Prop :=
  awp G TY A fn.ntmps c (retQ TY fn.results.toList K) (init args hs)

/-- The same, closed to the elaborator (which would evaluate it without a cache). -/
structure bodyQ (G : List (Nat × Con)) (TY : Nat → TyI) (A : List (Nat × LA)) (fn : Func) (c : Code) (args hs : List AV) (K : AV → List AV → Prop) : Prop where
  out : bodyP G TY A fn c args hs K

end Go.Dk
