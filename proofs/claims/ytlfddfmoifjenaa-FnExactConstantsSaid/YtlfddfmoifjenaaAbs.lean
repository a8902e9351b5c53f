/- The abstract machine: trees, abstract values, and the evaluation of the model's code on them. Nothing here speaks of memory; XRel and XSound show that the evaluation is sound. -/
import Derived.ProofKit
namespace Go.Dk

/-- A term as a tree: kind, number, operands. -/
inductive T where
  | mk (k n : Int) (kids : List T)
def T.k : T → Int | .mk k _ _ => k
def T.n : T → Int | .mk _ n _ => n
def T.kids : T → List T | .mk _ _ ts => ts
theorem T.eta (t : T) : T.mk t.k t.n t.kids = t := by cases t; rfl
instance : Inhabited T := ⟨.mk 0 0 []⟩

/-- What is known of a slice's spare capacity: nothing; there is none; it belongs to the append of that number. -/
inductive Own where
  | no | full | tok (k : Nat)
/-- Which blocks a slice's tree takes: not known; those made between two moments of this call (nd: each block once); the very slice that came in as argument i; el: a literal, its elements' blocks. -/
inductive Tag where
  | any | iv (lo hi : Nat) (nd : Bool) (own : Own) | arg (i : Nat) | el (lo hi : Nat) (nd : Bool)

/-- Abstract values. -/
inductive AV where
  | top
  | int (k : IntKind) (n : Int)
  | bool (b : Bool)
  | str (l : List UInt8)
  | slc (ts : List T) (g : Tag)
  | ints (k : IntKind) (ns : List Int) (g : Tag)
  | strs (ss : List (List UInt8))
  | nili | ifc
  | ptr (i : Nat) | fptr (i : Nat) | fld (i j : Nat) | ffld (i j : Nat)
  | cel (v : AV)
  | newp (v : AV)
  | fn (f : Nat) (caps : List AV)
  | tup (vs : List AV)
  | st (fs : List AV)

structure AS where
  t : Nat → AV
  h : Nat → AV
  fh : List AV
  now : Nat

/-- What is known of a type: one cell, with its zero value; a struct of one-cell fields; a slice type's element type. -/
inductive TyK where
  | sc (z : AV) | ag (zs : List AV) | no
structure TyI where
  k : TyK
  elem : Nat := 0

abbrev Con := List AV → List AV → (AV → List AV → Prop) → Prop

@[reducible] def upd (f : Nat → AV) (i : Nat) (v : AV) : Nat → AV := fun j => match Nat.beq j i with | true => v | false => f j
@[reducible] def updO (f : Nat → AV) (d : Option Nat) (v : AV) : Nat → AV := match d with | some i => upd f i v | none => f
@[reducible] def lk : List (Nat × AV) → Nat → AV
  | [], _ => .top
  | (i, v) :: r, j => match Nat.beq j i with | true => v | false => lk r j

@[reducible] def Own.cl (kt : Nat → Bool) : Own → Own
  | .tok k => match kt k with | true => .no | false => .tok k
  | .no => .no
  | .full => .full
@[reducible] def Tag.cl (kt : Nat → Bool) : Tag → Tag
  | .iv lo hi nd o => .iv lo hi nd (o.cl kt)
  | .any => .any
  | .arg i => .arg i
  | .el lo hi nd => .el lo hi nd
@[reducible] def ptrOk (kp : Nat → Bool) : List AV → Bool
  | [] => true
  | .ptr i :: r => match kp i with | true => false | false => ptrOk kp r
  | _ :: r => ptrOk kp r
/-- Strike the tokens in kt and the addresses of variables in kp. -/
@[reducible] def AV.cl1 (kt kp : Nat → Bool) : AV → AV
  | .slc ts g => .slc ts (g.cl kt)
  | .ints k ns g => .ints k ns (g.cl kt)
  | .ptr i => match kp i with | true => .top | false => .ptr i
  | .fld i j => match kp i with | true => .top | false => .fld i j
  | .fn f caps => match ptrOk kp caps with | true => .fn f caps | false => .top
  | v => v
@[reducible] def cl1L (kt kp : Nat → Bool) : List AV → List AV
  | [] => []
  | v :: r => v.cl1 kt kp :: cl1L kt kp r
@[reducible] def AV.cl2 (kt kp : Nat → Bool) : AV → AV
  | .st fs => .st (cl1L kt kp fs)
  | v => v.cl1 kt kp
@[reducible] def cl2L (kt kp : Nat → Bool) : List AV → List AV
  | [] => []
  | v :: r => v.cl2 kt kp :: cl2L kt kp r
@[reducible] def AV.cl (kt kp : Nat → Bool) : AV → AV
  | .tup vs => .tup (cl2L kt kp vs)
  | v => v.cl2 kt kp
@[reducible] def clL (kt kp : Nat → Bool) : List AV → List AV
  | [] => []
  | v :: r => v.cl kt kp :: clL kt kp r
@[reducible] def is1 (d : Nat) : Nat → Bool := fun j => Nat.beq j d
@[reducible] def is2 (d e : Nat) : Nat → Bool := fun j => match Nat.beq j d with | true => true | false => Nat.beq j e
@[reducible] def is0 : Nat → Bool := fun _ => false

/-- Evaluate a value before it is put away. -/
@[reducible] def force1 (v : AV) (K : AV → Prop) : Prop :=
  match v with
  | .top => K .top
  | .int k n => K (.int k n)
  | .bool b => K (.bool b)
  | .str l => K (.str l)
  | .slc ts g => (match g with | .any => K (.slc ts .any) | .iv lo hi nd o => K (.slc ts (.iv lo hi nd o)) | .arg i => K (.slc ts (.arg i)) | .el lo hi nd => K (.slc ts (.el lo hi nd)))
  | .ints k ns g => (match g with | .any => K (.ints k ns .any) | .iv lo hi nd o => K (.ints k ns (.iv lo hi nd o)) | .arg i => K (.ints k ns (.arg i)) | .el lo hi nd => K (.ints k ns (.el lo hi nd)))
  | .strs ss => K (.strs ss)
  | .nili => K .nili
  | .ifc => K .ifc
  | .ptr i => K (.ptr i)
  | .fptr i => K (.fptr i)
  | .fld i j => K (.fld i j)
  | .ffld i j => K (.ffld i j)
  | .cel v => K (.cel v)
  | .newp v => K (.newp v)
  | .fn f caps => K (.fn f caps)
  | .tup vs => K (.tup vs)
  | .st fs => K (.st fs)
@[reducible] def force1L : List AV → (List AV → Prop) → Prop
  | [], K => K []
  | v :: r, K => force1 v fun v => force1L r fun r => K (v :: r)
@[reducible] def force2 (v : AV) (K : AV → Prop) : Prop :=
  match v with
  | .st fs => force1L fs fun fs => K (.st fs)
  | v => force1 v K
@[reducible] def force2L : List AV → (List AV → Prop) → Prop
  | [], K => K []
  | v :: r, K => force2 v fun v => force2L r fun r => K (v :: r)
@[reducible] def force (v : AV) (K : AV → Prop) : Prop :=
  match v with
  | .tup vs => force2L vs fun vs => K (.tup vs)
  | v => force2 v K

theorem force1_eq (v : AV) (K : AV → Prop) : force1 v K = K v := by
  cases v <;> first | rfl | (rename_i g; cases g <;> rfl)
theorem force1L_eq (l : List AV) (K : List AV → Prop) : force1L l K = K l := by
  induction l generalizing K with
  | nil => rfl
  | cons v r ih => simp only [force1L, force1_eq, ih]
theorem force2_eq (v : AV) (K : AV → Prop) : force2 v K = K v := by
  cases v <;> first | rfl | (rename_i g; cases g <;> rfl) | exact force1L_eq _ (fun fs => K (.st fs))
theorem force2L_eq (l : List AV) (K : List AV → Prop) : force2L l K = K l := by
  induction l generalizing K with
  | nil => rfl
  | cons v r ih => simp only [force2L, force2_eq, ih]
theorem force_eq (v : AV) (K : AV → Prop) : force v K = K v := by
  cases v <;> first | rfl | (rename_i g; cases g <;> rfl) | exact force1L_eq _ (fun fs => K (.st fs)) | exact force2L_eq _ (fun fs => K (.tup fs))

@[reducible] def ofConst : Value → AV
  | .int k n => .int k n
  | .bool b => .bool b
  | .string s => .str s.data.toList
  | .nilIface => .nili
  | _ => .top
@[reducible] def AS.get (s : AS) : Operand → AV
  | .tmp i => s.t i
  | .const v => ofConst v
  | .func f => .fn f []
  | .global _ => .top

def Br (b : Bool) (A B : Prop) : Prop := (b = true → A) ∧ (b = false → B)
theorem br {b : Bool} {A B : Prop} (t : b = true → A) (f : b = false → B) : Br b A B := ⟨t, f⟩
theorem brT {A B : Prop} (t : A) : Br true A B := ⟨fun _ => t, nofun⟩
theorem brF {A B : Prop} (f : B) : Br false A B := ⟨nofun, fun _ => f⟩
def InR (n : Int) : Prop := -9223372036854775808 ≤ n ∧ n ≤ 9223372036854775807

/-- The tag of an element's operands. -/
@[reducible] def Tag.child : Tag → Tag
  | .any => .any
  | .iv lo hi nd _ => .iv lo hi nd .no
  | .arg _ => .iv 0 1 false .no
  | .el lo hi nd => .iv lo hi nd .no
@[reducible] def T.av (t : T) (g : Tag) : AV := .st [.int .i64 t.k, .int .i64 t.n, .slc t.kids g]

/-- What stands behind an address. -/
@[reducible] def deref (s : AS) (p : AV) (K : AV → Prop) : Prop :=
  match p with
  | .ptr i => K (s.h i)
  | .fptr i => K (s.fh.getD i .top)
  | .fld i j => (match s.h i with | .st fs => K (fs.getD j .top) | _ => False)
  | .ffld i j => (match s.fh.getD i .top with | .st fs => K (fs.getD j .top) | _ => False)
  | .cel v => K v
  | _ => False
@[reducible] def setH (s : AS) (p : AV) (v : AV) (K : AS → Prop) : Prop :=
  match p with
  | .ptr i => K { s with h := upd s.h i v }
  | .fptr i => K { s with fh := s.fh.set i v }
  | .fld i j => (match s.h i with | .st fs => K { s with h := upd s.h i (.st (fs.set j v)) } | _ => False)
  | .ffld i j => (match s.fh.getD i .top with | .st fs => K { s with fh := s.fh.set i (.st (fs.set j v)) } | _ => False)
  | _ => False

/-- Has the value the shape of the type? -/
@[reducible] def flat : AV → Bool
  | .int .. | .bool _ | .str _ | .slc .. | .ints .. | .strs _ | .nili | .ifc | .ptr _ | .fptr _ | .fld .. | .ffld .. | .cel _ | .fn .. => true
  | _ => false
@[reducible] def flatL : List AV → Nat → Bool
  | [], 0 => true
  | v :: r, n + 1 => match flat v with | true => flatL r n | false => false
  | _, _ => false
@[reducible] def shape (k : TyK) (v : AV) : Bool :=
  match k, v with
  | .ag zs, .st fs => flatL fs zs.length
  | .sc _, .st _ => false
  | .sc _, v => flat v
  | _, _ => false
@[reducible] def allFlat : List AV → Bool
  | [] => true
  | v :: r => match flat v with | true => allFlat r | false => false
@[reducible] def flat2 : AV → Bool
  | .st fs => allFlat fs
  | v => flat v
@[reducible] def zero : TyK → AV
  | .sc z => z
  | .ag zs => .st zs
  | .no => .top

@[reducible] def pickAV : Bool → AV → AV → AV
  | true, a, _ => a
  | false, _, b => b

@[reducible] def ikNat : IntKind → Nat
  | .i8 => 0 | .i16 => 1 | .i32 => 2 | .i64 => 3 | .u8 => 4 | .u16 => 5 | .u32 => 6 | .u64 => 7
@[reducible] def ikEq (k k' : IntKind) : Bool := Nat.beq (ikNat k) (ikNat k')
theorem ikEq_iff {k k' : IntKind} : ikEq k k' = true ↔ k = k' := by cases k <;> cases k' <;> decide
@[reducible] def cmpAV (op : BinOp) (a b : Int) (K : AV → Prop) : Prop :=
  match op with
  | .eql => K (.bool (decide (a = b)))
  | .neq => K (.bool (decide (a ≠ b)))
  | .lss => K (.bool (decide (a < b)))
  | .leq => K (.bool (decide (a ≤ b)))
  | .gtr => K (.bool (decide (b < a)))
  | .geq => K (.bool (decide (b ≤ a)))
  | _ => False
@[reducible] def i64AV (op : BinOp) (a b : Int) (K : AV → Prop) : Prop :=
  match op with
  | .add => InR (a + b) ∧ K (.int .i64 (a + b))
  | .sub => InR (a - b) ∧ K (.int .i64 (a - b))
  | .mul => InR (a * b) ∧ K (.int .i64 (a * b))
  | .quo => (0 ≤ a ∧ 0 < b ∧ a ≤ 9223372036854775807) ∧ K (.int .i64 (a / b))
  | .rem => (0 ≤ a ∧ 0 < b ∧ b ≤ 9223372036854775807) ∧ K (.int .i64 (a % b))
  | .xor => ∀ c : Int, (0 ≤ a → 0 ≤ b → a ≤ 4611686018427387903 → b ≤ 4611686018427387903 → 0 ≤ c ∧ c ≤ 9223372036854775807) → K (.int .i64 c)
  | op => cmpAV op a b K
@[reducible] def u8AV (op : BinOp) (a b : Int) (K : AV → Prop) : Prop :=
  match op with
  | .sub => (0 ≤ a - b ∧ a - b ≤ 255) ∧ K (.int .u8 (a - b))
  | .add => (0 ≤ a + b ∧ a + b ≤ 255) ∧ K (.int .u8 (a + b))
  | op => cmpAV op a b K
@[reducible] def binAV (ty : TyK) (op : BinOp) (x y : AV) (K : AV → Prop) : Prop :=
  match x, y with
  | .int k a, .int k' b => (match k, ikEq k k' with
    | .i64, true => i64AV op a b K
    | .u8, true => u8AV op a b K
    | _, _ => False)
  | .bool a, .bool b => (match ty, op with
    | .sc (.bool _), .eql => K (.bool (a == b))
    | .sc (.bool _), .neq => K (.bool (a != b))
    | _, _ => False)
  | .str a, .str b => (match op with
    | .eql => K (.bool (decide (a = b)))
    | .neq => K (.bool (decide (a ≠ b)))
    | .add => ((a.length : Int) + b.length ≤ 1099511627776) ∧ K (.str (a ++ b))
    | _ => False)
  | .ifc, .nili => (match ty, op with
    | .sc .nili, .neq => K (.bool true)
    | .sc .nili, .eql => K (.bool false)
    | _, _ => False)
  | _, _ => False

@[reducible] def len (ty : TyK) (x : AV) (K : AV → Prop) : Prop :=
  match ty, x with
  | .sc (.slc _ _), .slc ts _ => K (.int .i64 ts.length)
  | .sc (.ints _ _ _), .ints _ ns _ => K (.int .i64 ns.length)
  | .sc (.strs _), .strs ss => K (.int .i64 ss.length)
  | .sc (.str _), .str l => K (.int .i64 l.length)
  | _, _ => False

/-- The address of an element. -/
@[reducible] def indexA (ty : TyK) (x i : AV) (K : AV → Prop) : Prop :=
  match ty, x, i with
  | .sc (.slc _ _), .slc ts g, .int _ n => (0 ≤ n ∧ n < ts.length) ∧ K (.cel ((ts.getD n.toNat default).av g.child))
  | .sc (.ints _ _ _), .ints k ns _, .int _ n => (0 ≤ n ∧ n < ns.length) ∧ K (.cel (.int k (ns.getD n.toNat 0)))
  | .sc (.strs _), .strs ss, .int _ n => (0 ≤ n ∧ n < ss.length) ∧ K (.cel (.str (ss.getD n.toNat [])))
  | _, _, _ => False

/-- The lists of a literal's parts. -/
@[reducible] def litInts : List AV → Option (IntKind × List Int)
  | [] => some (.i64, [])
  | .int k n :: r => (match r with
    | [] => some (k, [n])
    | _ => (match litInts r with | some (k', ns) => (match ikEq k k' with | true => some (k, n :: ns) | false => none) | none => none))
  | _ => none
@[reducible] def litTs : List AV → Option (List (T × Tag))
  | [] => some []
  | .st [.int .i64 k, .int .i64 n, .slc ts g] :: r => (match litTs r with | some l => some ((.mk k n ts, g) :: l) | none => none)
  | _ => none
@[reducible] def litStrs : List AV → Option (List (List UInt8))
  | [] => some []
  | .str l :: r => (match litStrs r with | some ls => some (l :: ls) | none => none)
  | _ => none
/-- Parts 0, 1, .. in order. -/
@[reducible] def inOrder : Nat → List (Nat × Operand) → Bool
  | _, [] => true
  | k, (i, _) :: r => match Nat.beq i k with | true => inOrder (k + 1) r | false => false

@[reducible] def Own.any : Own → Own | .full => .full | _ => .no
@[reducible] def lo3 (a b : Nat) : Nat := match Nat.ble a b with | true => a | false => b
/-- Two tags joined: the second one's blocks beside the first one's. -/
@[reducible] def ndAnd (nd nd' : Bool) (hi lo' : Nat) : Bool := match Nat.ble hi lo' with | true => (match nd with | true => nd' | false => false) | false => false
@[reducible] def Tag.join (g h : Tag) (now : Nat) (d : Nat) : Tag :=
  match g, h with
  | .iv lo hi nd _, .iv lo' _ nd' _ => .iv (lo3 lo lo') (now + 1) (ndAnd nd nd' hi lo') (.tok d)
  | .iv lo hi nd _, .el lo' _ nd' => .iv (lo3 lo lo') (now + 1) (ndAnd nd nd' hi lo') (.tok d)
  | _, _ => .iv 0 (now + 1) false (.tok d)
@[reducible] def tagsOf (l : List (T × Tag)) (dr : Bool) (now : Nat) : Tag :=
  match dr with
  | false => (match l with
    | [] => .iv now (now + 1) true .full
    | [(_, g)] => (match g with | .iv lo _ nd _ => .iv lo (now + 1) nd .full | _ => .iv 0 (now + 1) false .full)
    | _ => .iv 0 (now + 1) false .full)
  | true => (match l with
    | [] => .any
    | [(_, g)] => (match g with | .iv lo hi nd _ => .el lo hi nd | _ => .any)
    | _ => .any)
@[reducible] def fstL : List (T × Tag) → List T
  | [] => []
  | (t, _) :: r => t :: fstL r
@[reducible] def mapGet (s : AS) : List (Nat × Operand) → List AV
  | [] => []
  | (_, x) :: r => s.get x :: mapGet s r
@[reducible] def mapGets (s : AS) : List Operand → List AV
  | [] => []
  | x :: r => s.get x :: mapGets s r

/-- A literal []T{..}: by the element's type. -/
@[reducible] def buildS (s : AS) (ty e : TyK) (dr : Bool) (vs : List AV) (K : AV → AS → Prop) : Prop :=
  match ty, e with
  | .sc (.slc _ _), .ag _ => (match litTs vs with
    | some l => K (.slc (fstL l) (tagsOf l dr s.now)) (match dr with | true => s | false => { s with now := s.now + 1 })
    | none => False)
  | .sc (.ints _ _ _), .sc (.int k _) => (match litInts vs with
    | some (k', ns) => (match vs with
      | [] => K (.ints k [] (.iv 0 0 false .full)) s
      | _ => (match ikEq k k' with | true => K (.ints k ns (.iv 0 0 false .full)) s | false => False))
    | none => False)
  | .sc (.strs _), .sc (.str _) => (match litStrs vs with
    | some l => K (.strs l) s
    | none => False)
  | _, _ => False

@[reducible] def setParts (s : AS) (zs : List AV) : List (Nat × Operand) → List AV
  | [] => zs
  | (i, x) :: r => setParts s (zs.set i (s.get x)) r
@[reducible] def partsOk (s : AS) (n : Nat) : List (Nat × Operand) → Bool
  | [] => true
  | (i, x) :: r => match Nat.blt i n, flat (s.get x) with | true, true => partsOk s n r | _, _ => false

@[reducible] def appd (ty : TyK) (s : AS) (d : Nat) (x y : AV) (K : AV → AS → Prop) : Prop :=
  match ty, x, y with
  | .sc (.slc _ _), .slc xs g, .slc ys g' => (match g with
    | .iv lo hi nd o => (match o with
      | .no => False
      | .full => ((xs.length : Int) + ys.length ≤ 1099511627776) ∧
          K (.slc (xs ++ ys) ((Tag.iv lo hi nd .full).join g' s.now d)) ⟨fun j => (s.t j).cl (is1 d) is0, fun j => (s.h j).cl (is1 d) is0, clL (is1 d) is0 s.fh, s.now + 1⟩
      | .tok k => ((xs.length : Int) + ys.length ≤ 1099511627776) ∧
          K (.slc (xs ++ ys) ((Tag.iv lo hi nd .full).join g' s.now d)) ⟨fun j => (s.t j).cl (is2 k d) is0, fun j => (s.h j).cl (is2 k d) is0, clL (is2 k d) is0 s.fh, s.now + 1⟩)
    | _ => False)
  | .sc (.ints _ _ _), .ints k xs g, .ints k' ys _ => (match g with
    | .iv _ _ _ o => (match o with
      | .no => False
      | .full => (match ikEq k k' with | false => False | true => ((xs.length : Int) + ys.length ≤ 1099511627776) ∧ K (.ints k (xs ++ ys) (.iv 0 0 false (.tok d))) ⟨fun j => (s.t j).cl (is1 d) is0, fun j => (s.h j).cl (is1 d) is0, clL (is1 d) is0 s.fh, s.now + 1⟩)
      | .tok e => (match ikEq k k' with | false => False | true => ((xs.length : Int) + ys.length ≤ 1099511627776) ∧ K (.ints k (xs ++ ys) (.iv 0 0 false (.tok d))) ⟨fun j => (s.t j).cl (is2 e d) is0, fun j => (s.h j).cl (is2 e d) is0, clL (is2 e d) is0 s.fh, s.now + 1⟩))
    | _ => False)
  | _, _, _ => False

/-- The addresses of variables that are handed to a callee, in order. -/
@[reducible] def ptrs1 : List AV → List (Bool × Nat)
  | [] => []
  | .ptr i :: r => (true, i) :: ptrs1 r
  | .fptr i :: r => (false, i) :: ptrs1 r
  | _ :: r => ptrs1 r
@[reducible] def ptrsL : List AV → List (Bool × Nat)
  | [] => []
  | .ptr i :: r => (true, i) :: ptrsL r
  | .fptr i :: r => (false, i) :: ptrsL r
  | .fn _ caps :: r => ptrs1 caps ++ ptrsL r
  | _ :: r => ptrsL r
@[reducible] def memP (b : Bool) (i : Nat) : List (Bool × Nat) → Bool
  | [] => false
  | (c, j) :: r => match b, c with
    | true, true => (match Nat.beq i j with | true => true | false => memP b i r)
    | false, false => (match Nat.beq i j with | true => true | false => memP b i r)
    | _, _ => memP b i r
@[reducible] def nodupP : List (Bool × Nat) → Bool
  | [] => true
  | (b, i) :: r => match memP b i r with | true => false | false => nodupP r
@[reducible] def Tag.cin (p : Nat) : Tag → Tag := fun _ => .arg p
/-- The arguments as the callee sees them: addresses numbered anew from n on, slices by their argument's number p. -/
@[reducible] def args1 : List AV → Nat → List AV
  | [], _ => []
  | .ptr _ :: r, n => .fptr n :: args1 r (n + 1)
  | .fptr _ :: r, n => .fptr n :: args1 r (n + 1)
  | _ :: r, n => .top :: args1 r n
@[reducible] def cin1 (p : Nat) : AV → AV
  | .slc ts _ => .slc ts (.arg p)
  | .ints k ns _ => .ints k ns (.arg p)
  | .int k n => .int k n
  | .bool b => .bool b
  | .str l => .str l
  | .strs ss => .strs ss
  | .nili => .nili
  | .ifc => .ifc
  | _ => .top
@[reducible] def cel1 : AV → AV
  | .slc ts _ => .slc ts .any
  | .ints k ns _ => .ints k ns .any
  | .int k n => .int k n
  | .bool b => .bool b
  | .str l => .str l
  | .strs ss => .strs ss
  | .nili => .nili
  | .ifc => .ifc
  | _ => .top
@[reducible] def cel1L : List AV → List AV
  | [] => []
  | v :: r => cel1 v :: cel1L r
@[reducible] def cin1L (p : Nat) : List AV → List AV
  | [] => []
  | .slc ts _ :: r => .slc ts (.arg p) :: cel1L r
  | v :: r => cel1 v :: cin1L p r
@[reducible] def argsL : List AV → (p n : Nat) → List AV
  | [], _, _ => []
  | .ptr _ :: r, p, n => .fptr n :: argsL r (p + 1) (n + 1)
  | .fptr _ :: r, p, n => .fptr n :: argsL r (p + 1) (n + 1)
  | .fn f caps :: r, p, n => .fn f (args1 caps n) :: argsL r (p + 1) (n + (ptrs1 caps).length)
  | .st fs :: r, p, n => .st (cin1L p fs) :: argsL r (p + 1) n
  | v :: r, p, n => cin1 p v :: argsL r (p + 1) n
/-- A variable's content as the callee sees it. -/
@[reducible] def cel2 : AV → AV
  | .st fs => .st (cel1L fs)
  | v => cel1 v
@[reducible] def conts (s : AS) : List (Bool × Nat) → List AV
  | [] => []
  | (true, i) :: r => cel2 (s.h i) :: conts s r
  | (false, i) :: r => cel2 (s.fh.getD i .top) :: conts s r

@[reducible] def tagIn : List AV → Tag
  | [] => .any
  | .slc _ g :: _ => g
  | _ :: r => tagIn r
@[reducible] def tagOf : AV → Tag
  | .slc _ g => g
  | .st fs => tagIn fs
  | _ => .any
@[reducible] def tagOfI : AV → Tag
  | .ints _ _ g => g
  | _ => .any
/-- A result's tag as the caller sees it. -/
@[reducible] def Tag.ret (now : Nat) (args : List AV) : Tag → Tag
  | .any => .any
  | .el _ _ _ => .any
  | .iv lo _ nd o => (match Nat.beq lo 1 with | true => .iv now (now + 1) nd (match o with | .full => .full | _ => .no) | false => .any)
  | .arg i => tagOf (args.getD i .top)
@[reducible] def ret1 (now : Nat) (args : List AV) : AV → AV
  | .slc ts g => .slc ts (g.ret now args)
  | .ints k ns g => .ints k ns (match g with | .iv _ _ _ .full => .iv 0 0 false .full | .arg i => tagOfI (args.getD i .top) | _ => .any)
  | .int k n => .int k n
  | .bool b => .bool b
  | .str l => .str l
  | .strs ss => .strs ss
  | .nili => .nili
  | .ifc => .ifc
  | _ => .top
@[reducible] def ret1L (now : Nat) (args : List AV) : List AV → List AV
  | [] => []
  | v :: r => ret1 now args v :: ret1L now args r
@[reducible] def ret2 (now : Nat) (args : List AV) : AV → AV
  | .st fs => .st (ret1L now args fs)
  | v => ret1 now args v
@[reducible] def ret2L (now : Nat) (args : List AV) : List AV → List AV
  | [] => []
  | v :: r => ret2 now args v :: ret2L now args r
@[reducible] def ret3 (now : Nat) (args : List AV) : AV → AV
  | .tup vs => .tup (ret2L now args vs)
  | v => ret2 now args v

/-- The variables' contents behind the call. -/
@[reducible] def wb (now : Nat) : List (Bool × Nat) → List AV → AS → (AS → Prop) → Prop
  | [], _, s, K => K s
  | (true, i) :: r, v :: hs, s, K => force (ret2 now [] v) fun v => wb now r hs { s with h := upd s.h i v } K
  | (false, i) :: r, v :: hs, s, K => force (ret2 now [] v) fun v => wb now r hs { s with fh := s.fh.set i v } K
  | _ :: _, [], _, _ => False

@[reducible] def lkC : List (Nat × Con) → Nat → Con
  | [], _ => fun _ _ _ => False
  | (g, c) :: r, f => match Nat.beq f g with | true => c | false => lkC r f

/-- Is the content of each variable known? -/
@[reducible] def okConts (s : AS) : List (Bool × Nat) → Bool
  | [] => true
  | (true, i) :: r => (match s.h i with | .top => false | _ => okConts s r)
  | (false, i) :: r => (match s.fh.getD i .top with | .top => false | _ => okConts s r)

@[reducible] def acall (G : List (Nat × Con)) (dr : Bool) (s : AS) (d : Option Nat) (f : Nat) (args : List AV) (K : AV → AS → Prop) : Prop :=
  match nodupP (ptrsL args), okConts s (ptrsL args) with
  | false, _ => False
  | _, false => False
  | true, true => lkC G f (argsL args 0 0) (conts s (ptrsL args)) fun r hs => wb s.now (ptrsL args) hs { s with now := s.now + 1 } fun s' =>
      match r, d with
      | .newp c, some d => match dr with | true => False | false => K (.ptr d) ⟨fun j => (s'.t j).cl is0 (is1 d), upd (fun j => (s'.h j).cl is0 (is1 d)) d (ret2 s.now args c), clL is0 (is1 d) s'.fh, s'.now⟩
      | .newp _, none => False
      | r, _ => K (ret3 s.now args r) s'

@[reducible] def allFlatPtr : List AV → Bool
  | [] => true
  | .ptr _ :: r => allFlatPtr r
  | .fptr _ :: r => allFlatPtr r
  | _ => false

@[reducible] def lowOf (s : AS) : Option Operand → Option Int
  | none => some 0
  | some x => match s.get x with | .int _ n => some n | _ => none

/-- One operation. dr: in a region that draws its order. -/
@[reducible] def aop (G : List (Nat × Con)) (TY : Nat → TyI) (dr : Bool) (s : AS) (o : Oper) (K : AV → AS → Prop) : Prop :=
  match o.op with
  | .move x => K (s.get x) s
  | .assign x => K (s.get x) s
  | .pick c a b => (match s.get c with | .bool c => K (pickAV c (s.get a) (s.get b)) s | _ => False)
  | .alloc ty => (match o.dst, (TY ty).k with
    | _, .no => False
    | some d, k => K (.ptr d) ⟨fun j => (s.t j).cl is0 (is1 d), upd (fun j => (s.h j).cl is0 (is1 d)) d (zero k), clL is0 (is1 d) s.fh, s.now⟩
    | none, _ => False)
  | .box _ x => (match o.dst with
    | some d => (match flat2 (s.get x) with
      | true => K (.ptr d) ⟨fun j => (s.t j).cl is0 (is1 d), upd (fun j => (s.h j).cl is0 (is1 d)) d ((s.get x).cl is0 (is1 d)), clL is0 (is1 d) s.fh, s.now⟩
      | false => False)
    | none => False)
  | .build ty parts => (match (TY ty).k with
    | .ag zs => (match partsOk s zs.length parts.toList with | true => K (.st (setParts s zs parts.toList)) s | false => False)
    | _ => False)
  | .buildSlice ty n parts => (match inOrder 0 parts.toList, Nat.beq n parts.toList.length, Nat.ble n 10000 with
    | true, true, true => buildS s (TY ty).k (TY (TY ty).elem).k dr (mapGet s parts.toList) K
    | _, _, _ => False)
  | .load ty x => deref s (s.get x) fun v => (match shape (TY ty).k v with | true => K v s | false => False)
  | .store ty x v => (match shape (TY ty).k (s.get v) with
    | true => deref s (s.get x) fun u => (match shape (TY ty).k u with | true => setH s (s.get x) (s.get v) fun s' => K .top s' | false => False)
    | false => False)
  | .nilCheck x => (match s.get x with
    | .ptr i => K (.ptr i) s
    | .fptr i => K (.fptr i) s
    | .cel v => K (.cel v) s
    | .fld i j => K (.fld i j) s
    | .ffld i j => K (.ffld i j) s
    | .fn f c => K (.fn f c) s
    | _ => False)
  | .fieldAddr ty x j => (match (TY ty).k with
    | .ag zs => (match Nat.blt j zs.length, s.get x with
      | true, .ptr i => K (.fld i j) s
      | true, .fptr i => K (.ffld i j) s
      | true, .cel (.st fs) => (match Nat.beq fs.length zs.length with | true => K (.cel (fs.getD j .top)) s | false => False)
      | _, _ => False)
    | _ => False)
  | .indexAddr ty x i => indexA (TY ty).k (s.get x) (s.get i) fun v => K v s
  | .index ty x i => (match (TY ty).k, s.get x, s.get i with
    | .sc (.str _), .str l, .int _ n => (0 ≤ n ∧ n < l.length) ∧ K (.int .u8 (l.getD n.toNat 0).toNat) s
    | _, _, _ => False)
  | .slice ty x lo hi mx => (match mx with
    | some _ => False
    | none => (match (TY ty).k, s.get x, lowOf s lo with
      | .sc (.str _), .str l, some a => (match hi with
        | none => (0 ≤ a ∧ a ≤ l.length) ∧ K (.str (l.drop a.toNat)) s
        | some y => (match s.get y with
          | .int _ b => (0 ≤ a ∧ a ≤ b ∧ b ≤ l.length) ∧ K (.str ((l.drop a.toNat).take (b.toNat - a.toNat))) s
          | _ => False))
      | .sc (.ints _ _ _), .ints k l _, some a => (match hi with
        | none => (0 ≤ a ∧ a ≤ l.length) ∧ K (.ints k (l.drop a.toNat) .any) s
        | some y => (match s.get y with
          | .int _ b => (0 ≤ a ∧ a ≤ b ∧ b ≤ l.length) ∧ K (.ints k ((l.drop a.toNat).take (b.toNat - a.toNat)) .any) s
          | _ => False))
      | _, _, _ => False))
  | .binOp op ty x y _ => binAV (TY ty).k op (s.get x) (s.get y) fun v => K v s
  | .unOp op _ x => (match op, s.get x with
    | .not, .bool b => K (.bool (!b)) s
    | .neg, .int .i64 n => InR (-n) ∧ K (.int .i64 (-n)) s
    | _, _ => False)
  | .convert src dst x => (match (TY src).k, (TY dst).k, s.get x with
    | .sc (.int _ _), .sc (.int k _), .int _ n => (match k with
      | .i64 => InR n ∧ K (.int .i64 n) s
      | .u8 => (0 ≤ n ∧ n ≤ 255) ∧ K (.int .u8 n) s
      | _ => False)
    | .sc (.ints .u8 _ _), .sc (.str _), .ints .u8 ns _ => K (.str (ns.map fun n => UInt8.ofNat n.toNat)) s
    | _, _, _ => False)
  | .makeFunc f first caps => (match f, first.toList, allFlatPtr (mapGets s caps.toList) with
    | .func f, [], true => K (.fn f (mapGets s caps.toList)) s
    | _, _, _ => False)
  | .extract x i => (match s.get x with
    | .tup vs => (match Nat.blt i vs.length with | true => K (vs.getD i .top) s | false => False)
    | _ => False)
  | .call c => (match c.callee with
    | .value f => (match s.get f with
      | .fn f caps => acall G dr s o.dst f (mapGets s c.args.toList ++ caps) K
      | _ => False)
    | .builtin b => (match b, c.argTypes.toList, mapGets s c.args.toList with
      | .len, [t], [x] => len (TY t).k x fun v => K v s
      | .max, [_, _], [.int .i64 a, .int .i64 b] => K (.int .i64 (max a b)) s
      | .append, [t, t'], [x, y] => (match o.dst, Nat.beq t t' with | some d, true => appd (TY t).k s d x y K | _, _ => False)
      | _, _, _ => False)
    | _ => False)
  | _ => False

@[reducible] def dstOk (n : Nat) : Option Nat → Bool
  | none => true
  | some d => Nat.blt d n

/-- One operation with its guard, its value put away. -/
@[reducible] def step1 (G : List (Nat × Con)) (TY : Nat → TyI) (n : Nat) (ops : Array Oper) (dr : Bool) (o : Oper) (s : AS) (K : AS → Prop) : Prop :=
  match dstOk n o.dst with
  | false => False
  | true =>
  match o.guard with
  | none => aop G TY dr s o fun v s' => (match s' with | ⟨t, h, fh, now⟩ => force v fun v => K ⟨updO t o.dst v, h, fh, now⟩)
  | some (j, want) =>
    match (ops[j]?).bind (·.dst) with
    | none => False
    | some d =>
      match s.t d with
      | .bool b => Br b
          (match want with
            | true => aop G TY dr ⟨upd s.t d (.bool true), s.h, s.fh, s.now⟩ o fun v s' => (match s' with | ⟨t, h, fh, now⟩ => force v fun v => K ⟨updO t o.dst v, h, fh, now⟩)
            | false => K ⟨updO (upd s.t d (.bool true)) o.dst .top, s.h, s.fh, s.now⟩)
          (match want with
            | true => K ⟨updO (upd s.t d (.bool false)) o.dst .top, s.h, s.fh, s.now⟩
            | false => aop G TY dr ⟨upd s.t d (.bool false), s.h, s.fh, s.now⟩ o fun v s' => (match s' with | ⟨t, h, fh, now⟩ => force v fun v => K ⟨updO t o.dst v, h, fh, now⟩))
      | _ => False

/-- The operations of a region, in the order of the list. -/
@[reducible] def aops (G : List (Nat × Con)) (TY : Nat → TyI) (n : Nat) (ops : Array Oper) : List Oper → AS → (AS → Prop) → Prop
  | [], s, Q => Q s
  | o :: r, s, Q => step1 G TY n ops false o s fun s' => aops G TY n ops r s' Q

/-- Reads that may come later than an operation: what they read must still stand there. -/
@[reducible] def chk (ops : Array Oper) : List Nat → AS → Prop → Prop
  | [], _, A => A
  | l :: ls, s, A =>
    match ops[l]? with
    | none => False
    | some o =>
      match o.op, o.dst with
      | .load _ x, some d => (match s.t d with
        | .top => chk ops ls s A
        | v => deref s (s.get x) fun u => u = v ∧ chk ops ls s A)
      | _, _ => False

/-- The operations of a region that draws its order, in one order; behind each, the reads that may still be owed. -/
@[reducible] def aopsD (G : List (Nat × Con)) (TY : Nat → TyI) (n : Nat) (ops : Array Oper) : List (Nat × List Nat) → AS → (AS → Prop) → Prop
  | [], s, Q => Q s
  | (i, ls) :: r, s, Q =>
    match ops[i]? with
    | none => False
    | some o => step1 G TY n ops true o s fun s' => chk ops ls s' (aopsD G TY n ops r s' Q)

/-- Operations that do more than compute or read. -/
def isEff (o : Oper) : Bool :=
  match o.op with
  | .call c => (match c.callee with | .builtin .len => false | .builtin .max => false | _ => true)
  | .store .. | .alloc _ | .box .. | .assign _ => true
  | .binOp op _ _ _ _ => (match op with | .xor => true | _ => false)
  | _ => false
/-- Operations that may strike a token or an address from what is known. -/
def strips (o : Oper) : Bool :=
  match o.op with
  | .call c => (match c.callee with | .builtin .append => true | _ => false)
  | .alloc _ | .box .. => true
  | _ => false
def isLoad (o : Oper) : Bool := match o.op with | .load .. => true | _ => false
def slots (o : Oper) : List Nat := o.op.operands.toList.filterMap fun | .tmp t => some t | _ => none
def eff (ops : Array Oper) (i : Nat) : Bool := ((ops[i]?).map isEff).getD true
def before (b : Array Nat) (i j : Nat) : Bool := (b.getD i 0).testBit j

/-- Is the order good? 'done' is what stands ahead, in reverse; 'last' the last effect. -/
def okFrom (ops : Array Oper) (b : Array Nat) : List Nat → Option Nat → List (Nat × List Nat) → Bool
  | _, _, [] => true
  | done, last, (i, ls) :: r =>
    match ops[i]? with
    | none => false
    | some o =>
      !done.contains i &&
      ((List.range ops.size).all (fun j => !before b i j || done.contains j) &&
      ((match last with | some e => before b i e | none => true) &&
      (match isEff o with
        | true =>
          done.all (fun j => eff ops j || (before b i j || (!strips o && (!((ops[j]?).map isLoad).getD false || ls.contains j)))) &&
          (ls.all (fun j => done.contains j) && okFrom ops b (i :: done) (some i) r)
        | false => ls.isEmpty && okFrom ops b (i :: done) last r)))

/-- No two operations stand in each other's way: who writes a slot that another one names is ordered with it; a pure one's operands are overwritten by effects behind it alone. -/
def okSlots (ops : Array Oper) (b : Array Nat) : Bool :=
  (List.range ops.size).all fun i => (List.range ops.size).all fun j =>
    match ops[i]?, ops[j]? with
    | some oi, some oj =>
      (match oj.dst with
        | none => true
        | some d => (i == j || oi.dst != some d) &&
            ((!(slots oi).contains d || (before b i j || (isEff oj && (i == j || before b j i)))) &&
            (match oi.guard with
              | none => true
              | some (g, _) => ((ops[g]?).bind (·.dst)) != some d || g == j)))
    | _, _ => false

def okGuards (ops : Array Oper) (b : Array Nat) : Bool :=
  (List.range ops.size).all fun i => match ops[i]? with
    | some o => (match o.guard with | none => true | some (g, _) => before b i g && !eff ops g)
    | none => false

/-- b holds what must come ahead of what, and no more. -/
def okBefore (ops : Array Oper) (b : Array Nat) : Bool :=
  (List.range ops.size).all fun i => match ops[i]? with
    | some o => o.after.all (fun e => !Region.binds .any e || (before b i e.on && Nat.blt e.on ops.size)) &&
        (List.range ops.size).all (fun j => !before b i j || o.after.any (fun e => Region.binds .any e && (e.on == j || before b e.on j)))
    | none => false

def okD (ops : Array Oper) (ord : List (Nat × List Nat)) : Bool :=
  let b := Region.before ops
  (List.range ops.size).all (fun i => (ord.map (·.1)).contains i) && (okFrom ops b [] none ord && (okSlots ops b && (okGuards ops b && okBefore ops b)))

/-- The order in which pure operations stand as early as they can. (Used to find an order; okD judges it.) -/
def canonGo (ops : Array Oper) (b : Array Nat) : Nat → List Nat → List (Nat × List Nat)
  | 0, _ => []
  | fuel + 1, done =>
    let ready := (List.range ops.size).filter fun i => !done.contains i && (List.range ops.size).all fun j => !before b i j || done.contains j
    match ready.find? (fun i => !eff ops i) with
    | some i => (i, []) :: canonGo ops b fuel (i :: done)
    | none => match ready.head? with
      | some i => (i, done.filter fun j => ((ops[j]?).map isLoad).getD false && !eff ops j && !before b i j) :: canonGo ops b fuel (i :: done)
      | none => []
def canonD (ops : Array Oper) : List (Nat × List Nat) := canonGo ops (Region.before ops) ops.size []
def drawn : Code → List (Nat × Array Oper)
  | .region id ops true => [(id, ops)]
  | .seq a b => drawn a ++ drawn b
  | .cond _ a b => drawn a ++ drawn b
  | .block _ a => drawn a
  | .loop a => drawn a
  | _ => []
def orders (fn : Func) : List (Nat × Bool × List (Nat × List Nat)) := match fn.body with
  | some c => (drawn c).map fun x => (x.1, okD x.2 (canonD x.2), canonD x.2)
  | none => []

inductive Ex where
  | normal | exit (i : Nat) | ret

def DrawP (G : List (Nat × Con)) (TY : Nat → TyI) (n : Nat) (ops : Array Oper) (s : AS) (Q : AS → Prop) : Prop :=
  ∃ ord, okD ops ord = true ∧ aopsD G TY n ops ord s Q
theorem drawP {G : List (Nat × Con)} {TY : Nat → TyI} {n : Nat} {ops : Array Oper} {s : AS} {Q : AS → Prop} (ord : List (Nat × List Nat))
    (h : okD ops ord = true) (h2 : aopsD G TY n ops ord s Q) : DrawP G TY n ops s Q := ⟨ord, h, h2⟩

/-- The second tag says no more than the first (moments 0: the beginning of time; 1: the call's begin; 2: now). -/
@[reducible] def Own.le : Own → Own → Bool
  | _, .no => true
  | .full, .full => true
  | .full, .tok _ => true
  | .tok a, .tok b => Nat.beq a b
  | _, _ => false
@[reducible] def Tag.le : Tag → Tag → Bool
  | _, .any => true
  | .arg i, .arg j => Nat.beq i j
  | .iv lo hi nd o, .iv lo' hi' nd' o' =>
    (match Nat.beq lo' 0, Nat.beq lo' 1 && Nat.ble 1 lo with | true, _ => true | _, true => true | _, _ => false) &&
    (match Nat.beq hi' 2, Nat.beq hi' 1 && Nat.ble hi 1 with | true, _ => true | _, true => true | _, _ => false) &&
    (match nd' with | false => true | true => nd) && o.le o'
  | _, _ => false
/-- The second value says no more than the first. -/
@[reducible] def wk1 : AV → AV → Prop
  | _, .top => True
  | .int k n, .int k' n' => k = k' ∧ n = n'
  | .bool b, .bool b' => b = b'
  | .str l, .str l' => l = l'
  | .slc ts g, .slc ts' g' => ts = ts' ∧ g.le g' = true
  | .ints k ns g, .ints k' ns' g' => k = k' ∧ ns = ns' ∧ g.le g' = true
  | .strs ss, .strs ss' => ss = ss'
  | .nili, .nili => True
  | .ifc, .ifc => True
  | .ptr i, .ptr j => i = j
  | .fptr i, .fptr j => i = j
  | .fld i j, .fld i' j' => i = i' ∧ j = j'
  | .ffld i j, .ffld i' j' => i = i' ∧ j = j'
  | .fn f c, .fn f' c' => f = f' ∧ c = c'
  | _, _ => False
@[reducible] def wk1L : List AV → List AV → Prop
  | [], [] => True
  | a :: r, b :: r' => wk1 a b ∧ wk1L r r'
  | _, _ => False
@[reducible] def wk2 : AV → AV → Prop
  | .st fs, .st gs => wk1L fs gs
  | a, b => wk1 a b
@[reducible] def wk2L : List AV → List AV → Prop
  | [], [] => True
  | a :: r, b :: r' => wk2 a b ∧ wk2L r r'
  | _, _ => False
/-- The same for a variable's content. -/
@[reducible] def wkF : AV → AV → Prop
  | .st fs, .st gs => wk1L fs gs
  | .st _, _ => False
  | a, b => wk1 a b
@[reducible] def wkFL : List AV → List AV → Prop
  | [], [] => True
  | a :: r, b :: r' => wkF a b ∧ wkFL r r'
  | _, _ => False
@[reducible] def wk3 : AV → AV → Prop
  | .tup fs, .tup gs => wk2L fs gs
  | .newp a, .newp b => wkF a b
  | a, b => wk2 a b
@[reducible] def subL (f : Nat → AV) : List (Nat × AV) → Prop
  | [] => True
  | (i, v) :: r => wk3 (f i) v ∧ subL f r

/-- The state with the listed slots, variables and foreign contents, and nothing else known. -/
@[reducible] def ofL (tl hl : List (Nat × AV)) (fh : List AV) : AS := ⟨lk tl, lk hl, fh, 2⟩
@[reducible] def subS (s : AS) (tl hl : List (Nat × AV)) (fh : List AV) : Prop := subL s.t tl ∧ subL s.h hl ∧ wkFL s.fh fh

def LoopP (W : (Ex → AS → Prop) → AS → Prop) (Q : Ex → AS → Prop) (s : AS) : Prop :=
  ∃ (ι : Type) (tl hl : ι → List (Nat × AV)) (fh : ι → List AV) (μ : ι → Nat) (x0 : ι), subS s (tl x0) (hl x0) (fh x0) ∧
    ∀ x, W (fun e s' => match e with
      | .normal => ∃ y, subS s' (tl y) (hl y) (fh y) ∧ μ y < μ x
      | .exit i => Q (.exit i) s'
      | .ret => Q .ret s') (ofL (tl x) (hl x) (fh x))
theorem loopP {W : (Ex → AS → Prop) → AS → Prop} {Q : Ex → AS → Prop} {s : AS} {ι : Type} (tl hl : ι → List (Nat × AV)) (fh : ι → List AV) (μ : ι → Nat) (x0 : ι)
    (h0 : subS s (tl x0) (hl x0) (fh x0))
    (h : ∀ x, W (fun e s' => match e with
      | .normal => ∃ y, subS s' (tl y) (hl y) (fh y) ∧ μ y < μ x
      | .exit i => Q (.exit i) s'
      | .ret => Q .ret s') (ofL (tl x) (hl x) (fh x))) : LoopP W Q s := ⟨ι, tl, hl, fh, μ, x0, h0, h⟩

@[reducible] def awp (G : List (Nat × Con)) (TY : Nat → TyI) (n : Nat) : Code → (Ex → AS → Prop) → AS → Prop
  | .skip, Q, s => Q .normal s
  | .label _, Q, s => Q .normal s
  | .seq a b, Q, s => awp G TY n a (fun e s' => match e with | .normal => awp G TY n b Q s' | .exit i => Q (.exit i) s' | .ret => Q .ret s') s
  | .region _ ops dr, Q, s => (match dr with
    | false => aops G TY n ops ops.toList s (Q .normal)
    | true => DrawP G TY n ops s (Q .normal))
  | .cond c a b, Q, s => (match s.get c with
    | .bool t => Br t (awp G TY n a Q s) (awp G TY n b Q s)
    | _ => False)
  | .block id c, Q, s => awp G TY n c (fun e s' => match e with
    | .normal => Q .normal s'
    | .exit i => (match Nat.beq i id with | true => Q .normal s' | false => Q (.exit i) s')
    | .ret => Q .ret s') s
  | .loop c, Q, s => LoopP (awp G TY n c) Q s
  | .exit id, Q, s => Q (.exit id) s
  | .ret, Q, s => Q .ret s
  | _, _, _ => False

/-- A result as it is handed back. -/
@[reducible] def Tag.out (g : Tag) : Tag :=
  match g with
  | .any => .any
  | .el _ _ _ => .any
  | .iv lo _ nd o => (match Nat.ble 1 lo with | true => .iv 1 2 nd (match o with | .full => .full | _ => .no) | false => .any)
  | .arg i => .arg i
@[reducible] def out1 : AV → AV
  | .slc ts g => .slc ts g.out
  | .ints k ns g => .ints k ns (match g with | .iv _ _ _ .full => .iv 0 0 false .full | .arg i => .arg i | _ => .any)
  | .int k n => .int k n
  | .bool b => .bool b
  | .str l => .str l
  | .strs ss => .strs ss
  | .nili => .nili
  | .ifc => .ifc
  | _ => .top
@[reducible] def out1L : List AV → List AV
  | [] => []
  | v :: r => out1 v :: out1L r
@[reducible] def out2 : AV → AV
  | .st fs => .st (out1L fs)
  | v => out1 v
@[reducible] def out2L : List AV → List AV
  | [] => []
  | v :: r => out2 v :: out2L r
@[reducible] def out3 (s : AS) : AV → AV
  | .tup vs => .tup (out2L vs)
  | .ptr i => .newp (out2 (s.h i))
  | v => out2 v

/-- What the callee's caller is told: the values handed back, or less. -/
def Ret (K : AV → List AV → Prop) (r : AV) (hs : List AV) : Prop := ∃ r' hs', wk3 r r' ∧ wkFL hs hs' ∧ K r' hs'
theorem fin {K : AV → List AV → Prop} {r r' : AV} {hs hs' : List AV} (hK : K r' hs') (h : wk3 r r') (h2 : wkFL hs hs') : Ret K r hs := ⟨r', hs', h, h2, hK⟩

@[reducible] def resAV (TY : Nat → TyI) (s : AS) (r : ResultVar) (K : AV → Prop) : Prop :=
  match r with
  | .tmp i => (match s.t i with | .ptr j => (match flat2 (s.h j) with | true => K (.ptr j) | false => False) | v => K v)
  | .cell i ty => (match s.t i with
    | .ptr j => (match shape (TY ty).k (s.h j) with | true => (match s.h j with | .ptr _ => False | v => K v) | false => False)
    | _ => False)
@[reducible] def resL (TY : Nat → TyI) (s : AS) : List ResultVar → (List AV → Prop) → Prop
  | [], K => K []
  | r :: rs, K => resAV TY s r fun v => resL TY s rs fun vs => K (v :: vs)
@[reducible] def resP (TY : Nat → TyI) (rs : List ResultVar) (K : AV → List AV → Prop) (s : AS) : Prop :=
  resL TY s rs fun vs => match vs with
    | [v] => force (out3 s v) fun v => Ret K v (out2L s.fh)
    | vs => force (.tup (out2L vs)) fun v => Ret K v (out2L s.fh)
@[reducible] def retQ (TY : Nat → TyI) (rs : List ResultVar) (K : AV → List AV → Prop) : Ex → AS → Prop
  | .normal, s => resP TY rs K s
  | .ret, s => resP TY rs K s
  | .exit _, _ => False

@[reducible] def getL : List AV → Nat → AV
  | [], _ => .top
  | v :: r, n => match n with | 0 => v | k + 1 => getL r k
@[reducible] def init (args hs : List AV) : AS := ⟨getL args, fun _ => .top, hs, 2⟩
/-- What is asked of a function's body. -/
@[reducible] def bodyP (G : List (Nat × Con)) (TY : Nat → TyI) (fn : Func) (c : Code) (args hs : List AV) (K : AV → List AV → Prop) : Prop :=
  awp G TY fn.ntmps c (retQ TY fn.results.toList K) (init args hs)

end Go.Dk
