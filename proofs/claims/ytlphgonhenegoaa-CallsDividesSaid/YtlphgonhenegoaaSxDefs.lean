import Derived.Calls
import Derived.Orders
import Derived.Deep.LoopGhost
import Derived.KernelRfl
import Derived.Test.YtlphgonhenegoaaProg
namespace Go.Sx
inductive SK where
  | any | nil | cap0
inductive CK where
  | any | int (k : IntKind) | bool | str | sl (c : CK) | nil | cons (a l : CK)
def ckEq : CK → CK → Bool
  | .any, .any => true
  | .int k, .int k' => decide (k = k')
  | .bool, .bool => true
  | .str, .str => true
  | .sl c, .sl c' => ckEq c c'
  | .nil, .nil => true
  | .cons a l, .cons a' l' => ckEq a a' && ckEq l l'
  | _, _ => false
def ckAt : CK → Nat → CK
  | .cons a _, 0 => a
  | .cons _ l, i + 1 => ckAt l i
  | _, _ => .any
def ckLen : CK → Nat
  | .cons _ l => ckLen l + 1
  | _ => 0
def ckMeet : CK → CK → CK
  | .cons a l, .cons b m => .cons (bif ckEq a b then a else .any) (ckMeet l m)
  | _, _ => .nil
def ckPut1 : CK → Nat → CK → CK
  | .cons a l, 0, b => .cons (bif ckEq a b then a else .any) l
  | .cons a l, i + 1, b => .cons a (ckPut1 l i b)
  | _, _, _ => .nil
def isFlat : CK → Bool
  | .int _ => true
  | .bool => true
  | .str => true
  | _ => false
def flatN (c : CK) : Nat → Bool
  | 0 => true
  | n + 1 => isFlat (ckAt c n) && flatN c n
def yK : Nat := 1000000
def rangeIn : Code → Option (Array Tmp × Code × Code)
  | .rangeFunc _ ps a b => some (ps, a, b)
  | .seq x y => match rangeIn x with
    | some r => some r
    | Option.none => rangeIn y
  | .cond _ x y => match rangeIn x with
    | some r => some r
    | Option.none => rangeIn y
  | .block _ x => rangeIn x
  | .loop x => rangeIn x
  | .scope x => rangeIn x
  | _ => Option.none
def loopOf (f : FuncId) (fn : Func) : Loop := match fn.body.bind rangeIn with
  | some (ps, a, b) => { state := .ready, pending := Option.none, fn := f, tmps := Array.replicate fn.ntmps Go.undef, params := ps, assign := a, body := b, defers := 0 }
  | Option.none => default
noncomputable def loopRec : Nat → Loop := fun _ => loopOf 31 Go.Proofs.Try.f31
def loopSl : Nat → List Nat := fun _ => [2, 4, 5]
inductive SV where
  | undef
  | none
  | int (k : IntKind) (n : Int)
  | bool (b : Bool)
  | str (s : ByteArray)
  | nilp
  | nilm
  | nilf
  | ptr (g off : Nat)
  | xptr (g base st n : Nat) (z : Int)
  | eptr (m : Nat) (cell : Nat → SV)
  | wptr (r size i off : Nat)
  | sl (k : SK) (fl : CK) (size n : Nat) (cell : Nat → Nat → SV)
  | row (r : Nat)
  | func (f : FuncId) (k : Nat) (caps : List SV)
  | agg (cs : List SV)
  | tup (vs : List SV)
instance : Inhabited SV := ⟨.undef⟩
structure MK where
  ka : Bool
  va : Bool
  fk : CK
  fv : CK
inductive Ent where
  | blk (cs : List SV)
  | row (nl : Bool) (fl : CK) (size n : Nat) (cell : Nat → Nat → SV)
  | mp (k : MK) (hs : List SV → Bool) (gt : List SV → Nat → SV)
  | fm (ik : IntKind) (fl : CK) (size : Nat) (hs : Int → Bool) (ln : Int → Nat) (gt : Int → Nat → Nat → SV) (hole : Option Int)
  | fx (v : Value) (bs : List (Nat × Obj))
  | lp (n : Nat)
  | mx (ik : IntKind) (n : Nat) (ln : Nat → Nat) (gt : Nat → Nat → Int)
abbrev Tab := List (Nat × Ent)
def tget : Tab → Nat → Option Ent
  | [], _ => Option.none
  | (i, e) :: t, j => bif i == j then some e else tget t j
def tdel : Tab → Nat → Tab
  | [], _ => []
  | (i, e) :: t, j => bif i == j then tdel t j else (i, e) :: tdel t j
def tput : Tab → Nat → Ent → Tab
  | [], j, x => [(j, x)]
  | (i, e) :: t, j, x => bif i == j then (j, x) :: tdel t j else (i, e) :: tput t j x
def tupd (t : Tab) : List (Nat × Option Ent) → Tab
  | [] => t
  | (i, some e) :: us => tupd (tput t i e) us
  | (i, Option.none) :: us => tupd (tdel t i) us
structure St where
  tmps : List SV
  tab : Tab
  nx : Nat
structure Delta where
  v : SV
  upd : List (Nat × Option Ent)
  rd : List Nat
  nx : Nat
def lget (l : List SV) (i : Nat) : SV := l.getD i .undef
def lset : List SV → Nat → SV → List SV
  | [], _, _ => []
  | _ :: l, 0, v => v :: l
  | a :: l, i + 1, v => a :: lset l i v
inductive TD where
  | int (k : IntKind) | bool | str | ptr (e : TypeId) | slice (e : TypeId) | struct (fs : List (Nat × TypeId)) | arr (n : Nat) (e : TypeId) | map (k e : TypeId) | func | other
structure TI where
  d : TD
  size : Nat
  bytes : Nat
  zero : List SV
inductive Tys where
  | nil
  | node (i : Nat) (e : TI) (l r : Tys)
def Tys.get : Tys → TypeId → Option TI
  | .nil, _ => Option.none
  | .node i e l r, j => bif Nat.beq i j then some e else bif Nat.blt j i then l.get j else r.get j
theorem Tys.get_node (i : Nat) (e : TI) (l r : Tys) (j : TypeId) : (Tys.node i e l r).get j = bif Nat.beq i j then some e else bif Nat.blt j i then l.get j else r.get j := rfl
def Tys.all (p : Nat → TI → Bool) : Tys → Bool
  | .nil => true
  | .node i e l r => p i e && (l.all p && r.all p)
def isAgg : TD → Bool
  | .struct _ => true
  | .arr _ _ => true
  | _ => false
def toI : SV → Int
  | .int _ n => n
  | _ => 0
def toB : SV → Bool
  | .bool b => b
  | _ => false
def toS : SV → ByteArray
  | .str s => s
  | _ => ByteArray.empty
def reC (k : CK) (s : SV) : SV := match k with
  | .int kd => .int kd (toI s)
  | .bool => .bool (toB s)
  | .str => .str (toS s)
  | _ => s
def litC (zero : List SV) (els : List (List SV)) : Nat → Nat → SV := fun i j => lget (els.getD i zero) j
def catC (n : Nat) (c c' : Nat → Nat → SV) : Nat → Nat → SV := fun i j => bif Nat.blt i n then c i j else c' (i - n) j
def setC (i0 j0 : Nat) (c : Nat → Nat → SV) (v : SV) : Nat → Nat → SV := fun i j => bif i == i0 && j == j0 then v else c i j
def setCs (i0 j0 : Nat) (c : Nat → Nat → SV) : List SV → Nat → Nat → SV
  | [] => c
  | v :: vs => setCs i0 (j0 + 1) (setC i0 j0 c v) vs
def zeroC (zero : List SV) : Nat → Nat → SV := fun _ j => lget zero j
def ckOf : SV → CK
  | .int k _ => .int k
  | .bool _ => .bool
  | .str _ => .str
  | .sl .any c size _ _ => bif size == ckLen c then .sl c else .any
  | .sl .nil c size _ _ => bif size == ckLen c then .sl c else .any
  | _ => .any
def ckOk : CK → SV → Bool
  | .any, _ => true
  | .int k, .int k' _ => decide (k = k')
  | .bool, .bool _ => true
  | .str, .str _ => true
  | .sl c, .sl .any c' size _ _ => ckEq c c' && size == ckLen c
  | .sl c, .sl .nil c' size _ _ => ckEq c c' && size == ckLen c
  | _, _ => false
def ckL : List SV → CK
  | [] => .nil
  | s :: l => .cons (ckOf s) (ckL l)
def ckEls (z : CK) : List (List SV) → CK
  | [] => z
  | [e] => ckL e
  | e :: l => ckMeet (ckL e) (ckEls z l)
def ckPut (c : CK) (i : Nat) : List SV → CK
  | [] => c
  | v :: vs => ckPut (ckPut1 c i (ckOf v)) (i + 1) vs
def nilOf (Θ : Tys) (t : TypeId) : SV :=
  match Θ.get t with
  | some ⟨.slice e, _, _, _⟩ => match Θ.get e with
    | some te => .sl .nil (ckL te.zero) te.size 0 (zeroC te.zero)
    | Option.none => .undef
  | _ => .undef
def ofConst (Θ : Tys) (t : TypeId) : Value → SV
  | .int k n => .int k n
  | .bool b => .bool b
  | .string s => .str s
  | .slice Option.none 0 0 => nilOf Θ t
  | .pointer Option.none => .nilp
  | .map Option.none => .nilm
  | .nilFunc => .nilf
  | _ => .undef
def glob : Nat → Option (List SV) := fun _ => Option.none
def ev (Θ : Tys) (t : TypeId) (sv : Nat → SV) : Operand → SV
  | .tmp s => sv s
  | .const c => ofConst Θ t c
  | .func f => .func f 0 []
  | .global g => (match glob g with | some cs => .eptr cs.length (lget cs) | Option.none => .undef)
def cellOk : SV → Bool
  | .int _ _ | .bool _ | .str _ | .nilp | .nilm | .nilf | .ptr _ _ | .eptr _ _ | .wptr _ _ _ _ | .sl _ _ _ _ _ | .row _ | .func _ _ _ => true
  | _ => false
def groundOk : SV → Bool
  | .int _ _ | .bool _ | .str _ | .nilp | .nilm | .nilf | .sl _ _ _ _ _ => true
  | _ => false
def capOk : SV → Bool
  | .agg cs => cs.all cellOk
  | s => cellOk s
def cellsV : SV → List SV
  | .agg cs => cs
  | v => [v]
def kval : SV → Value
  | .int k n => .int k n
  | .bool b => .bool b
  | .str s => .string s
  | _ => Go.undef
def keyCell : CK → SV → Bool
  | .int k, .int k' _ => decide (k = k')
  | .bool, .bool _ => true
  | .str, .str _ => true
  | _, _ => false
def keyCells : CK → List SV → Bool
  | .nil, [] => true
  | .cons a l, s :: ss => keyCell a s && keyCells l ss
  | _, _ => false
def eqCells : List SV → List SV → Option Bool
  | [], [] => some true
  | .int k a :: l, .int k' b :: m => bif decide (k = k') then (match eqCells l m with | some r => some ((a == b) && r) | Option.none => Option.none) else Option.none
  | .bool a :: l, .bool b :: m => (match eqCells l m with | some r => some ((a == b) && r) | Option.none => Option.none)
  | .str a :: l, .str b :: m => (match eqCells l m with | some r => some ((a.toList == b.toList) && r) | Option.none => Option.none)
  | _, _ => Option.none
def keyEq (a b : List SV) : Bool := match eqCells a b with | some r => r | Option.none => false
def zeroOf : CK → SV
  | .int k => .int k 0
  | .bool => .bool false
  | .str => .str ByteArray.empty
  | _ => .undef
def zerosOf : CK → List SV
  | .cons a l => zeroOf a :: zerosOf l
  | _ => []
def mkV (ag : Bool) (vs : List Value) : Value := bif ag then .agg vs.toArray else vs.headD Go.undef
def noH : List SV → Bool := fun _ => false
def noG (fv : CK) : List SV → Nat → SV := fun _ j => zeroOf (ckAt fv j)
def putH (cs : List SV) (hs : List SV → Bool) : List SV → Bool := fun ks => keyEq ks cs || hs ks
def putG (cs vs : List SV) (gt : List SV → Nat → SV) : List SV → Nat → SV := fun ks j => bif keyEq ks cs then lget vs j else gt ks j
def ckApp : CK → CK → CK
  | .cons a l, m => .cons a (ckApp l m)
  | _, m => m
def fsCk (Θ : Tys) : List (Nat × TypeId) → CK
  | [] => .nil
  | (_, t) :: fs => match Θ.get t with
    | some ti => ckApp (ckL ti.zero) (fsCk Θ fs)
    | Option.none => .nil
def repCk (c : CK) : Nat → CK
  | 0 => .nil
  | n + 1 => ckApp c (repCk c n)
def nestFs (Θ : Tys) (p : TypeId → Bool) : List (Nat × TypeId) → Nat → Nat → Bool
  | [], i, size => i == size
  | (off, t) :: fs, i, size => off == i && p t && (match Θ.get t with
    | some ti => nestFs Θ p fs (i + ti.size) size
    | Option.none => false)
def nestTy (Θ : Tys) : Nat → TypeId → Bool
  | 0, _ => false
  | n + 1, t => match Θ.get t with
    | some ⟨.int _, _, _, [.int _ _]⟩ => true
    | some ⟨.bool, _, _, [.bool _]⟩ => true
    | some ⟨.str, _, _, [.str _]⟩ => true
    | some ⟨.struct fs, size, _, zero⟩ => nestFs Θ (nestTy Θ n) fs 0 size && ckEq (ckL zero) (fsCk Θ fs)
    | some ⟨.arr m e, _, _, zero⟩ => nestTy Θ n e && (match Θ.get e with | some te => ckEq (ckL zero) (repCk (ckL te.zero) m) | Option.none => false)
    | _ => false
def lsetN (l : List SV) (i : Nat) : List SV → List SV
  | [] => l
  | v :: vs => lsetN (lset l i v) (i + 1) vs
def takeN (l : List SV) (i : Nat) : Nat → List SV
  | 0 => []
  | n + 1 => lget l i :: takeN l (i + 1) n
def tabN (f : Nat → SV) (i : Nat) : Nat → List SV
  | 0 => []
  | n + 1 => f i :: tabN f (i + 1) n
def foffs : List (Nat × TypeId) → Nat → Option (Nat × TypeId)
  | [], _ => Option.none
  | f :: _, 0 => some f
  | _ :: fs, i + 1 => foffs fs i
section
variable {R : Type}
def ibin (op : BinOp) (k : IntKind) (a b : Int) (kf : SV → Option R) : Option R :=
  match op with
  | .add => kf (.int k (k.wrap (a + b)))
  | .sub => kf (.int k (k.wrap (a - b)))
  | .mul => kf (.int k (k.wrap (a * b)))
  | .quo => bif b == 0 then Option.none else kf (.int k (k.wrap (a.tdiv b)))
  | .rem => bif b == 0 then Option.none else kf (.int k (a.tmod b))
  | .and => kf (.int k (k.wrap ((BitVec.ofInt k.bits a &&& BitVec.ofInt k.bits b).toNat : Int)))
  | .or => kf (.int k (k.wrap ((BitVec.ofInt k.bits a ||| BitVec.ofInt k.bits b).toNat : Int)))
  | .xor => kf (.int k (k.wrap ((BitVec.ofInt k.bits a ^^^ BitVec.ofInt k.bits b).toNat : Int)))
  | .andNot => kf (.int k (k.wrap ((BitVec.ofInt k.bits a &&& ~~~BitVec.ofInt k.bits b).toNat : Int)))
  | .shl => bif decide (b < 0) then Option.none else kf (.int k (k.wrap (a * 2 ^ (min b.toNat k.bits))))
  | .shr => bif decide (b < 0) then Option.none else kf (.int k (a.fdiv (2 ^ (min b.toNat k.bits))))
  | .eql => kf (.bool (a == b))
  | .neq => kf (.bool (a != b))
  | .lss => kf (.bool (decide (a < b)))
  | .leq => kf (.bool (decide (a ≤ b)))
  | .gtr => kf (.bool (decide (a > b)))
  | .geq => kf (.bool (decide (a ≥ b)))
def isShift : BinOp → Bool
  | .shl => true
  | .shr => true
  | _ => false
def eqV (Θ : Tys) (t : TypeId) (en : Nat → Option Ent) (x y : SV) (kf : Bool → List Nat → Option R) : Option R :=
  match x, y with
  | .bool a, .bool b => (match Θ.get t with | some ⟨.bool, _, _, _⟩ => kf (a == b) [] | _ => Option.none)
  | .str a, .str b => kf (a.toList == b.toList) []
  | .agg xs, .agg ys => (match Θ.get t with
    | some ti => bif nestTy Θ 20 t && (isAgg ti.d && (keyCells (ckL ti.zero) xs && keyCells (ckL ti.zero) ys)) then (match eqCells xs ys with | some b => kf b [] | Option.none => Option.none) else Option.none
    | _ => Option.none)
  | .row r, .sl .nil _ _ _ _ => (match Θ.get t, en r with
    | some ⟨.slice _, _, _, _⟩, some (.row nl _ _ _ _) => kf nl [r]
    | _, _ => Option.none)
  | .sl .nil _ _ _ _, .sl .nil _ _ _ _ => (match Θ.get t with | some ⟨.slice _, _, _, _⟩ => kf true [] | _ => Option.none)
  | _, _ => Option.none
def bnd (x : Option SV) (d : Nat) (kf : Int → Option R) : Option R :=
  match x with
  | Option.none => kf (d : Int)
  | some (.int _ n) => kf n
  | _ => Option.none
def room (n : Nat) : Bool := Nat.ble n 1073741824
def room8 (n : Nat) : Bool := Nat.ble n 17592186044416
def roomK (x : SV) (b n : Nat) (kf : Bool → Option R) : Option R := match x with
  | .sl _ _ _ _ _ => bif Nat.ble b 8 then kf (room8 n) else kf (room n)
  | _ => kf (room n)
def srcOf (en : Nat → Option Ent) (size : Nat) (x : SV) (kf : CK → Nat → (Nat → Nat → SV) → List Nat → Option R) : Option R :=
  match x with
  | .sl .any fl s n c => bif s == size then kf fl n c [] else Option.none
  | .row r => (match en r with
    | some (.row _ fl s n c) => bif s == size then kf fl n c [r] else Option.none
    | _ => Option.none)
  | _ => Option.none
def allTys (Θ : Tys) : List (Nat × TypeId) → Bool
  | [] => true
  | (_, t) :: fs => (Θ.get t).isSome && allTys Θ fs
def fillP (fs : List (Nat × TypeId)) (Θ : Tys) (cells : List SV) : List (Nat × SV) → Option (List SV)
  | [] => some cells
  | (i, v) :: ps =>
    match foffs fs i with
    | some (off, t) => match Θ.get t with
      | some ti => bif (cellsV v).length == ti.size && Nat.ble (off + ti.size) cells.length && (cellsV v).all cellOk then fillP fs Θ (lsetN cells off (cellsV v)) ps else Option.none
      | Option.none => Option.none
    | Option.none => Option.none
def fillE (size : Nat) (els : List (List SV)) : List (Nat × SV) → Option (List (List SV))
  | [] => some els
  | (i, v) :: ps => bif (cellsV v).length == size && Nat.blt i els.length && (cellsV v).all cellOk then fillE size (els.set i (cellsV v)) ps else Option.none
def evParts (Θ : Tys) (t : Nat → TypeId) (sv : Nat → SV) : List (Nat × Operand) → List (Nat × SV)
  | [] => []
  | (i, x) :: ps => (i, ev Θ (t i) sv x) :: evParts Θ t sv ps
def fty (fs : List (Nat × TypeId)) (i : Nat) : TypeId := match foffs fs i with | some (_, t) => t | Option.none => 0
def mxI (a b : Int) : Int := if b > a then b else a
def mnI (a b : Int) : Int := if b < a then b else a
theorem mxI_eq (a b : Int) : mxI a b = max a b := by unfold mxI; split <;> omega
def imax (x y : SV) : SV := match x, y with
  | .int k a, .int _ b => .int k (mxI a b)
  | _, _ => .undef
def imin (x y : SV) : SV := match x, y with
  | .int k a, .int _ b => .int k (mnI a b)
  | _, _ => .undef
def isInt : SV → Bool
  | .int _ _ => true
  | _ => false
def builtinK (Θ : Tys) (b : Builtin) (ts : List TypeId) (args : List SV) (en : Nat → Option Ent) (nx : Nat) (kf : Delta → Option R) : Option R :=
  match b, args with
  | .len, [x] => (match ts with
    | [t] => (match Θ.get t, x with
      | some ⟨.slice _, _, _, _⟩, .sl .nil _ _ _ _ => kf ⟨.int .i64 ((0 : Nat) : Int), [], [], nx⟩
      | some ⟨.slice _, _, _, _⟩, .sl .any _ _ n _ => kf ⟨.int .i64 (n : Int), [], [], nx⟩
      | some ⟨.slice _, _, _, _⟩, .row r => (match en r with | some (.row _ _ _ n _) => kf ⟨.int .i64 (n : Int), [], [r], nx⟩ | _ => Option.none)
      | some ⟨.str, _, _, _⟩, .str s => kf ⟨.int .i64 (s.size : Int), [], [], nx⟩
      | _, _ => Option.none)
    | _ => Option.none)
  | .max, x :: y :: rest => bif isInt x && isInt y && rest.all isInt then kf ⟨(y :: rest).foldl imax x, [], [], nx⟩ else Option.none
  | .min, x :: y :: rest => bif isInt x && isInt y && rest.all isInt then kf ⟨(y :: rest).foldl imin x, [], [], nx⟩ else Option.none
  | .append, [s, x] => (match ts with
    | [t, t'] => (match Θ.get t, Θ.get t' with
      | some ⟨.slice e, _, _, _⟩, some ⟨.slice _, _, _, _⟩ => (match Θ.get e with
        | some te =>
          srcOf en te.size x fun fl m c rd =>
            match s with
            | .row r => (match en r with
              | some (.row nl fl0 size n c0) => roomK x te.bytes (n + m) fun rm => bif size == te.size && rm then
                  kf ⟨.row nx, [(r, Option.none), (nx, some (.row (bif m == 0 then nl else false) (ckMeet fl0 fl) te.size (n + m) (catC n c0 c)))], r :: rd, nx + 1⟩ else Option.none
              | _ => Option.none)
            | .sl .nil _ _ _ c0 => bif room m then kf ⟨.row nx, [(nx, some (.row (m == 0) fl te.size m (catC 0 c0 c)))], rd, nx + 1⟩ else Option.none
            | .sl .cap0 _ _ _ c0 => bif room m && Nat.blt 0 m then kf ⟨.row nx, [(nx, some (.row false fl te.size m (catC 0 c0 c)))], rd, nx + 1⟩ else Option.none
            | _ => Option.none
        | _ => Option.none)
      | _, _ => Option.none)
    | _ => Option.none)
  | _, _ => Option.none
def planK (Θ : Tys) (o : Oper) (sv : Nat → SV) (en : Nat → Option Ent) (nx : Nat) (kf : Delta → Option R) : Option R :=
  match o.op with
  | .move x => kf ⟨ev Θ o.type sv x, [], [], nx⟩
  | .assign x => kf ⟨ev Θ o.type sv x, [], [], nx⟩
  | .pick c a b => (match ev Θ 0 sv c with
    | .bool x => bif x then kf ⟨ev Θ o.type sv a, [], [], nx⟩ else kf ⟨ev Θ o.type sv b, [], [], nx⟩
    | _ => Option.none)
  | .alloc t => (match Θ.get t with
    | some ti => kf ⟨.ptr nx 0, [(nx, some (.blk ti.zero))], [], nx + 1⟩
    | _ => Option.none)
  | .box t x => (match cellsV (ev Θ t sv x) with
    | cs => bif cs.all cellOk then kf ⟨.ptr nx 0, [(nx, some (.blk cs))], [], nx + 1⟩ else Option.none)
  | .build t ps => (match Θ.get t with
    | some ⟨.struct fs, _, _, zero⟩ => bif allTys Θ fs then (match fillP fs Θ zero (evParts Θ (fty fs) sv ps.toList) with
      | some cs => kf ⟨.agg cs, [], [], nx⟩
      | _ => Option.none) else Option.none
    | _ => Option.none)
  | .buildSlice t len ps => (match Θ.get t with
    | some ⟨.slice e, _, _, _⟩ => (match Θ.get e with
      | some te => (match fillE te.size (List.replicate len te.zero) (evParts Θ (fun _ => e) sv ps.toList) with
        | some els => bif els.all (·.all groundOk) && Nat.ble (len * te.size) 16777216 then kf ⟨.row nx, [(nx, some (.row false (ckEls (ckL te.zero) els) te.size len (litC te.zero els)))], [], nx + 1⟩ else Option.none
        | _ => Option.none)
      | _ => Option.none)
    | _ => Option.none)
  | .load t a => (match Θ.get t with
    | some ti => (match ev Θ 0 sv a with
      | .ptr g off => (match en g with
        | some (.blk cs) => bif isAgg ti.d then (bif Nat.ble (off + ti.size) cs.length then kf ⟨.agg (takeN cs off ti.size), [], [g], nx⟩ else Option.none)
            else (bif Nat.blt off cs.length then kf ⟨lget cs off, [], [g], nx⟩ else Option.none)
        | _ => Option.none)
      | .eptr m c => bif isAgg ti.d then (bif Nat.ble ti.size m then kf ⟨.agg (tabN c 0 ti.size), [], [], nx⟩ else Option.none)
            else (bif Nat.blt 0 m then kf ⟨c 0, [], [], nx⟩ else Option.none)
      | .wptr r size i off => (match en r with
        | some (.row _ fl size' _ c) => bif size' == size && Nat.ble (off + ti.size) size then
            (bif isAgg ti.d then kf ⟨.agg (tabN (fun j => reC (ckAt fl j) (c i j)) off ti.size), [], [r], nx⟩ else (bif Nat.blt off size then kf ⟨reC (ckAt fl off) (c i off), [], [r], nx⟩ else Option.none)) else Option.none
        | _ => Option.none)
      | _ => Option.none)
    | _ => Option.none)
  | .store t a x => (match Θ.get t with
    | some ti => (match cellsV (ev Θ t sv x) with
      | vs => bif vs.length == ti.size && vs.all cellOk then (match ev Θ 0 sv a with
        | .ptr g off => (match en g with
          | some (.blk cs) => bif Nat.ble (off + ti.size) cs.length then kf ⟨.none, [(g, some (.blk (lsetN cs off vs)))], [g], nx⟩ else Option.none
          | _ => Option.none)
        | .wptr r size i off => (match en r with
          | some (.row nl fl size' n c) => bif size' == size && Nat.ble (off + ti.size) size && vs.all groundOk then
              kf ⟨.none, [(r, some (.row nl (ckPut fl off vs) size' n (setCs i off c vs)))], [r], nx⟩ else Option.none
          | _ => Option.none)
        | _ => Option.none) else Option.none)
    | _ => Option.none)
  | .nilCheck x => (match ev Θ 0 sv x with
    | .ptr g off => (match en g with | some _ => kf ⟨.ptr g off, [], [g], nx⟩ | _ => Option.none)
    | .eptr m c => kf ⟨.eptr m c, [], [], nx⟩
    | .wptr r s i off => (match en r with | some (.row _ _ _ _ _) => kf ⟨.wptr r s i off, [], [r], nx⟩ | _ => Option.none)
    | .func f k caps => kf ⟨.func f k caps, [], [], nx⟩
    | _ => Option.none)
  | .binOp op t x y yt => (match ev Θ t sv x, ev Θ yt sv y with
    | .int k a, .int k' b => bif isShift op || decide (k = k') then ibin op k a b fun v => kf ⟨v, [], [], nx⟩ else Option.none
    | vx, vy => (match op with
      | .eql => eqV Θ t en vx vy fun b rd => kf ⟨.bool b, [], rd, nx⟩
      | .neq => eqV Θ t en vx vy fun b rd => kf ⟨.bool (!b), [], rd, nx⟩
      | _ => Option.none))
  | .unOp op t x => (match op, ev Θ t sv x with
    | .neg, .int k a => kf ⟨.int k (k.wrap (0 - a)), [], [], nx⟩
    | .xor, .int k a => kf ⟨.int k (k.wrap ((BitVec.ofInt k.bits (if k.signed then -1 else k.max) ^^^ BitVec.ofInt k.bits a).toNat : Int)), [], [], nx⟩
    | .not, .bool b => kf ⟨.bool !b, [], [], nx⟩
    | _, _ => Option.none)
  | .convert s d x => (match Θ.get s, Θ.get d, ev Θ s sv x with
    | some _, some ⟨.int k, _, _, _⟩, .int _ n => kf ⟨.int k (k.wrap n), [], [], nx⟩
    | _, _, _ => Option.none)
  | .makeFunc (.func f) first caps => (match first.toList.map (ev Θ 0 sv) ++ caps.toList.map (ev Θ 0 sv) with
    | vs => bif vs.all capOk && Nat.blt first.toList.length yK then kf ⟨.func f first.toList.length vs, [], [], nx⟩ else Option.none)
  | .makeSlice t l c => (match Θ.get t with
    | some ⟨.slice e, _, _, _⟩ => (match Θ.get e with
      | some te => (match ev Θ 0 sv l, ev Θ 0 sv c with
        | .int _ n, .int _ m => bif decide (0 ≤ n) && decide (n ≤ m) && decide (m ≤ 1073741824) then
            kf ⟨.row nx, [(nx, some (.row false (ckL te.zero) te.size n.toNat (zeroC te.zero)))], [], nx + 1⟩ else Option.none
        | _, _ => Option.none)
      | _ => Option.none)
    | _ => Option.none)
  | .slice t x lo hi mx => (match Θ.get t with
    | some ⟨.slice e, _, _, _⟩ => (match Θ.get e with
      | some te => (match ev Θ t sv x, mx with
        | .sl .any fl size n c, Option.none =>
          bnd (lo.map (ev Θ 0 sv)) 0 fun l => bnd (hi.map (ev Θ 0 sv)) n fun h =>
            bif size == te.size && (decide (0 ≤ l) && decide (l ≤ h) && decide (h ≤ (n : Int))) then kf ⟨.sl .any fl size (h.toNat - l.toNat) (fun i j => c (l.toNat + i) j), [], [], nx⟩ else Option.none
        | .row r, Option.none => (match en r with
          | some (.row _ fl size n c) =>
            bnd (lo.map (ev Θ 0 sv)) 0 fun l => bnd (hi.map (ev Θ 0 sv)) n fun h =>
              bif size == te.size && (decide (0 ≤ l) && decide (l ≤ h) && decide (h ≤ (n : Int))) then kf ⟨.sl .any fl size (h.toNat - l.toNat) (fun i j => c (l.toNat + i) j), [(r, Option.none)], [r], nx⟩ else Option.none
          | _ => Option.none)
        | .sl .any fl size _ c, some m => (match lo, hi.map (ev Θ 0 sv), ev Θ 0 sv m with
          | Option.none, some (.int _ h), .int _ z => bif h == 0 && z == 0 then kf ⟨.sl .cap0 fl size 0 c, [], [], nx⟩ else Option.none
          | _, _, _ => Option.none)
        | .row r, some m => (match lo, hi.map (ev Θ 0 sv), ev Θ 0 sv m, en r with
          | Option.none, some (.int _ h), .int _ z, some (.row _ fl size _ c) => bif h == 0 && z == 0 then kf ⟨.sl .cap0 fl size 0 c, [], [r], nx⟩ else Option.none
          | _, _, _, _ => Option.none)
        | _, _ => Option.none)
      | _ => Option.none)
    | _ => Option.none)
  | .fieldAddr t x f => (match Θ.get t with
    | some ⟨.struct fs, _, _, _⟩ => (match foffs fs f with
      | some (off, ft) => (match Θ.get ft with
        | some tf => bif tf.size == 0 then Option.none else (match ev Θ 0 sv x with
          | .ptr g o1 => (match en g with | some _ => kf ⟨.ptr g (o1 + off), [], [g], nx⟩ | _ => Option.none)
          | .eptr m c => bif Nat.ble off m then kf ⟨.eptr (m - off) (fun j => c (off + j)), [], [], nx⟩ else Option.none
          | .wptr r s i o1 => (match en r with | some (.row _ _ _ _ _) => kf ⟨.wptr r s i (o1 + off), [], [r], nx⟩ | _ => Option.none)
          | _ => Option.none)
        | _ => Option.none)
      | _ => Option.none)
    | _ => Option.none)
  | .field t x f => (match Θ.get t with
    | some ⟨.struct fs, _, _, _⟩ => (match foffs fs f with
      | some (off, ft) => (match Θ.get ft, ev Θ t sv x with
        | some tf, .agg cs => bif isAgg tf.d then (bif Nat.ble (off + tf.size) cs.length then kf ⟨.agg (takeN cs off tf.size), [], [], nx⟩ else Option.none)
            else (bif Nat.blt off cs.length then kf ⟨lget cs off, [], [], nx⟩ else Option.none)
        | _, _ => Option.none)
      | _ => Option.none)
    | _ => Option.none)
  | .indexAddr t x i => (match Θ.get t with
    | some ⟨.slice e, _, _, _⟩ => (match Θ.get e with
      | some te => (match ev Θ t sv x, ev Θ 0 sv i with
        | .sl .any fl size n c, .int _ z => bif size == te.size then (bif decide (0 ≤ z) && decide (z < (n : Int)) then kf ⟨.eptr size (fun j => reC (ckAt fl j) (c z.toNat j)), [], [], nx⟩ else Option.none) else Option.none
        | .row r, .int _ z => (match en r with
          | some (.row _ _ size n _) => bif size == te.size then (bif decide (0 ≤ z) && decide (z < (n : Int)) then kf ⟨.wptr r size z.toNat 0, [], [r], nx⟩ else Option.none) else Option.none
          | _ => Option.none)
        | _, _ => Option.none)
      | _ => Option.none)
    | _ => Option.none)
  | .extract x i => (match ev Θ 0 sv x with
    | .tup vs => bif Nat.blt i vs.length then kf ⟨lget vs i, [], [], nx⟩ else Option.none
    | _ => Option.none)
  | .call ⟨.builtin b, args, ts⟩ => builtinK Θ b ts.toList (args.toList.map (ev Θ 0 sv)) en nx kf
  | _ => Option.none
def pickA (z : Int) : Nat → Nat → (Nat → Option R) → Option R
  | _, 0, _ => Option.none
  | j, m + 1, f => bif z == (j : Int) then f j else pickA z (j + 1) m f
def fillA (size : Nat) (cells : List SV) : List (Nat × SV) → Option (List SV)
  | [] => some cells
  | (i, v) :: ps => bif (cellsV v).length == size && Nat.ble (i * size + size) cells.length && (cellsV v).all cellOk then fillA size (lsetN cells (i * size) (cellsV v)) ps else Option.none
def tabL (f : Nat → List SV) (i : Nat) : Nat → List (List SV)
  | 0 => []
  | n + 1 => f i :: tabL f (i + 1) n
def allI (k : IntKind) : List SV → Option (List Int)
  | [] => some []
  | .int k' a :: l => bif decide (k = k') then (match allI k l with | some r => some (a :: r) | Option.none => Option.none) else Option.none
  | _ => Option.none
def allB : List SV → Option (List Bool)
  | [] => some []
  | .bool a :: l => (match allB l with | some r => some (a :: r) | Option.none => Option.none)
  | _ => Option.none
def pickI (z : Int) : Nat → List Int → Int
  | _, [] => 0
  | _, [a] => a
  | j, a :: b :: l => bif z == (j : Int) then a else pickI z (j + 1) (b :: l)
def pickBo (z : Int) : Nat → List Bool → Bool
  | _, [] => false
  | _, [a] => a
  | j, a :: b :: l => bif z == (j : Int) then a else pickBo z (j + 1) (b :: l)
def pickS (z : Int) : List SV → Option SV
  | .int k a :: l => (match allI k l with | some l' => some (.int k (pickI z 0 (a :: l'))) | Option.none => Option.none)
  | .bool a :: l => (match allB l with | some l' => some (.bool (pickBo z 0 (a :: l'))) | Option.none => Option.none)
  | _ => Option.none
def candL (f : Nat → SV) (st : Nat) : Nat → Nat → List SV
  | _, 0 => []
  | b, n + 1 => f b :: candL f st (b + st) n
def pickL (z : Int) (f : Nat → SV) (st n : Nat) : Nat → Nat → Option (List SV)
  | _, 0 => some []
  | b, m + 1 => match pickS z (candL f st b n), pickL z f st n (b + 1) m with
    | some v, some l => some (v :: l)
    | _, _ => Option.none
def selC (bl : Bool) : SV → SV → Option SV
  | .int k a, .int k' a' => bif decide (k = k') then some (.int k (bif bl then a else a')) else Option.none
  | .bool a, .bool a' => some (.bool (bif bl then a else a'))
  | _, _ => Option.none
def selV (bl : Bool) : List SV → List SV → Option (List SV)
  | [], [] => some []
  | x :: xs, y :: ys => (match selC bl x y, selV bl xs ys with
    | some v, some l => some (v :: l)
    | _, _ => Option.none)
  | _, _ => Option.none
def selN (z : Int) (vs : List SV) (st : Nat) : Nat → Nat → Nat → List SV → Option (List SV)
  | _, _, 0, cs => some cs
  | b, j, n + 1, cs => match selV (z == (j : Int)) vs (takeN cs b vs.length) with
    | some ws => selN z vs st (b + st) (j + 1) n (lsetN cs b ws)
    | Option.none => Option.none
def isTmp : Operand → Bool
  | .tmp _ => true
  | _ => false
def putSv (sv : Nat → SV) (s : Nat) (v : SV) : Nat → SV := fun q => bif q == s then v else sv q
def isArr (Θ : Tys) (t : TypeId) : Bool := match Θ.get t with
  | some ⟨.arr _ _, _, _, _⟩ => true
  | _ => false
def arrOp (Θ : Tys) (o : Oper) : Bool := match o.op with
  | .build t _ => isArr Θ t
  | .index _ _ _ => true
  | .indexAddr t _ _ => isArr Θ t
  | .slice t _ _ _ _ => isArr Θ t
  | _ => false
def planA (Θ : Tys) (o : Oper) (sv : Nat → SV) (en : Nat → Option Ent) (nx : Nat) (kf : Delta → Option R) : Option R :=
  match o.op with
  | .build t ps => (match Θ.get t with
    | some ⟨.arr _ e, _, _, zero⟩ => (match Θ.get e with
      | some te => (match fillA te.size zero (evParts Θ (fun _ => e) sv ps.toList) with
        | some cs => kf ⟨.agg cs, [], [], nx⟩
        | _ => Option.none)
      | _ => Option.none)
    | _ => Option.none)
  | .index t x i => (match Θ.get t with
    | some ⟨.arr n e, _, _, _⟩ => (match Θ.get e with
      | some te => (match ev Θ t sv x, ev Θ 0 sv i with
        | .agg cs, .int _ z => (match (bif isTmp i && Nat.ble (n * te.size) cs.length then pickL z (lget cs) te.size n 0 te.size else Option.none) with
          | some vs => bif (isAgg te.d || Nat.beq te.size 1) && (decide (0 ≤ z) && decide (z < (n : Int))) then kf ⟨bif isAgg te.d then .agg vs else lget vs 0, [], [], nx⟩ else Option.none
          | Option.none => pickA z 0 n fun j =>
          bif isAgg te.d then (bif Nat.ble (j * te.size + te.size) cs.length then kf ⟨.agg (takeN cs (j * te.size) te.size), [], [], nx⟩ else Option.none)
          else (bif Nat.blt (j * te.size) cs.length then kf ⟨lget cs (j * te.size), [], [], nx⟩ else Option.none))
        | _, _ => Option.none)
      | _ => Option.none)
    | _ => Option.none)
  | .slice t x Option.none Option.none Option.none => (match Θ.get t with
    | some ⟨.arr n e, _, _, _⟩ => (match Θ.get e, ev Θ t sv x with
      | some te, .eptr m c => bif Nat.ble (n * te.size) m && Nat.blt 0 (n * te.size) then
          kf ⟨.sl .any (ckEls .nil (tabL (fun i => tabN c (i * te.size) te.size) 0 n)) te.size n (litC [] (tabL (fun i => tabN c (i * te.size) te.size) 0 n)), [], [], nx⟩ else Option.none
      | _, _ => Option.none)
    | _ => Option.none)
  | .indexAddr t x i => (match Θ.get t with
    | some ⟨.arr n e, _, _, _⟩ => (match Θ.get e with
      | some te => (match ev Θ t sv x, ev Θ 0 sv i with
        | .ptr g off, .int _ z => (match en g with
          | some _ => bif isTmp i then (bif decide (0 ≤ z) && decide (z < (n : Int)) then kf ⟨.xptr g off te.size n z, [], [g], nx⟩ else Option.none) else pickA z 0 n fun j => kf ⟨.ptr g (off + j * te.size), [], [g], nx⟩
          | _ => Option.none)
        | .eptr m c, .int _ z => (match (bif isTmp i && Nat.ble (n * te.size) m then pickL z c te.size n 0 te.size else Option.none) with
          | some vs => bif decide (0 ≤ z) && decide (z < (n : Int)) then kf ⟨.eptr te.size (lget vs), [], [], nx⟩ else Option.none
          | Option.none => pickA z 0 n fun j => bif Nat.ble (j * te.size) m then kf ⟨.eptr (m - j * te.size) (fun q => c (j * te.size + q)), [], [], nx⟩ else Option.none)
        | .wptr r s i0 off, .int _ z => (match en r with
          | some (.row _ _ _ _ _) => pickA z 0 n fun j => kf ⟨.wptr r s i0 (off + j * te.size), [], [r], nx⟩
          | _ => Option.none)
        | _, _ => Option.none)
      | _ => Option.none)
    | _ => Option.none)
  | _ => Option.none
def mapOp (o : Oper) : Bool := match o.op with
  | .makeMap _ _ => true
  | .lookup _ _ _ _ => true
  | .mapUpdate _ _ _ _ => true
  | .insert _ _ _ _ => true
  | _ => false
def planM (Θ : Tys) (o : Oper) (sv : Nat → SV) (en : Nat → Option Ent) (nx : Nat) (kf : Delta → Option R) : Option R := Option.none
def famTy (Θ : Tys) (t : TypeId) : Bool := match Θ.get t with
  | some ⟨.map _ et, _, _, _⟩ => (match Θ.get et with
    | some ⟨.slice _, _, _, _⟩ => true
    | _ => false)
  | _ => false
def famOp (Θ : Tys) (o : Oper) : Bool := match o.op with
  | .makeMap t _ => famTy Θ t
  | .lookup t _ _ _ => famTy Θ t
  | .mapUpdate t _ _ _ => famTy Θ t
  | _ => false
def fHs (z : Int) (hs : Int → Bool) : Int → Bool := fun k => k == z || hs k
def fLn (z : Int) (n : Nat) (ln : Int → Nat) : Int → Nat := fun k => bif k == z then n else ln k
def fGt (z : Int) (c : Nat → Nat → SV) (gt : Int → Nat → Nat → SV) : Int → Nat → Nat → SV := fun k => bif k == z then c else gt k
def noHs : Int → Bool := fun _ => false
def noLn : Int → Nat := fun _ => 0
def noGt (zero : List SV) : Int → Nat → Nat → SV := fun _ => zeroC zero
def planF (Θ : Tys) (o : Oper) (sv : Nat → SV) (en : Nat → Option Ent) (nx : Nat) (kf : Delta → Option R) : Option R :=
  match o.op with
  | .makeMap t Option.none => (match Θ.get t with
    | some ⟨.map kt et, _, _, _⟩ => (match Θ.get kt, Θ.get et with
      | some ⟨.int ik, _, _, [.int _ _]⟩, some ⟨.slice e, _, _, _⟩ => (match Θ.get e with
        | some te => kf ⟨.row nx, [(nx, some (.fm ik (ckL te.zero) te.size noHs noLn (noGt te.zero) Option.none))], [], nx + 1⟩
        | _ => Option.none)
      | _, _ => Option.none)
    | _ => Option.none)
  | .lookup t x i false => (match Θ.get t with
    | some ⟨.map kt et, _, _, _⟩ => (match Θ.get kt, Θ.get et, ev Θ t sv x, ev Θ kt sv i with
      | some ⟨.int ik', _, _, [.int k0 _]⟩, some ⟨.slice _, _, _, [.sl .nil _ _ 0 _]⟩, .row r, .int ik'' z => (match en r with
        | some (.fm ik fl size hs ln gt Option.none) => bif nestTy Θ 20 kt && (decide (ik = k0) && (decide (ik' = k0) && decide (ik'' = k0))) then
            kf ⟨.row nx, [(r, some (.fm ik fl size hs ln gt (some z))), (nx, some (.row (!(hs z)) fl size (ln z) (gt z)))], [r], nx + 1⟩ else Option.none
        | _ => Option.none)
      | _, _, _, _ => Option.none)
    | _ => Option.none)
  | .mapUpdate t m i v => (match Θ.get t with
    | some ⟨.map kt et, _, _, _⟩ => (match Θ.get kt, ev Θ t sv m, ev Θ kt sv i, ev Θ et sv v with
      | some ⟨.int ik', _, _, [.int k0 _]⟩, .row r, .int ik'' z, .row q => (match en r, en q with
        | some (.fm ik fl size hs ln gt (some z0)), some (.row nl fl' size' n c) =>
          bif nestTy Θ 20 kt && ((decide (ik = k0) && (decide (ik' = k0) && decide (ik'' = k0))) && (ckEq fl fl' && (size == size' && (!nl && decide (z = z0))))) then
            kf ⟨.none, [(q, Option.none), (r, some (.fm ik fl size (fHs z hs) (fLn z n ln) (fGt z c gt) Option.none))], [r, q], nx⟩ else Option.none
        | _, _ => Option.none)
      | _, _, _, _ => Option.none)
    | _ => Option.none)
  | _ => Option.none
structure Xp where
  s : Nat
  g : Nat
  b : Nat
  st : Nat
  n : Nat
  z : Int
def xAt (sv : Nat → SV) : Operand → Option Xp
  | .tmp s => (match sv s with
    | .xptr g b st n z => some ⟨s, g, b, st, n, z⟩
    | _ => Option.none)
  | _ => Option.none
def xOf (o : Oper) (sv : Nat → SV) : Option Xp := match o.op with
  | .load _ a => xAt sv a
  | .store _ a _ => xAt sv a
  | .fieldAddr _ a _ => xAt sv a
  | .nilCheck a => xAt sv a
  | _ => Option.none
def splitX (Θ : Tys) (o : Oper) (x : Xp) (sv : Nat → SV) (en : Nat → Option Ent) (nx : Nat) (kf : Delta → Option R) : Option R :=
  pickA x.z 0 x.n fun j => planK Θ o (putSv sv x.s (.ptr x.g (x.b + j * x.st))) en nx kf
def planX (Θ : Tys) (o : Oper) (x : Xp) (sv : Nat → SV) (en : Nat → Option Ent) (nx : Nat) (kf : Delta → Option R) : Option R :=
  match o.op with
  | .load t _ => (match Θ.get t, en x.g with
    | some ti, some (.blk cs) => (match (bif Nat.ble (x.b + x.n * x.st + ti.size) (cs.length + x.st) && (isAgg ti.d || Nat.beq ti.size 1) then pickL x.z (lget cs) x.st x.n x.b ti.size else Option.none) with
      | some vs => kf ⟨bif isAgg ti.d then .agg vs else lget vs 0, [], [x.g], nx⟩
      | Option.none => splitX Θ o x sv en nx kf)
    | _, _ => Option.none)
  | .store t _ y => (match Θ.get t, en x.g, cellsV (ev Θ t sv y) with
    | some ti, some (.blk cs), vs => (match (bif Nat.ble (x.b + x.n * x.st + ti.size) (cs.length + x.st) && (vs.length == ti.size && vs.all cellOk) then selN x.z vs x.st x.b 0 x.n cs else Option.none) with
      | some cs' => kf ⟨.none, [(x.g, some (.blk cs'))], [x.g], nx⟩
      | Option.none => splitX Θ o x sv en nx kf)
    | _, _, _ => Option.none)
  | .nilCheck _ => (match en x.g with
    | some _ => kf ⟨.xptr x.g x.b x.st x.n x.z, [], [x.g], nx⟩
    | _ => Option.none)
  | _ => splitX Θ o x sv en nx kf
def strOp (Θ : Tys) (o : Oper) : Bool := false
def planS (Θ : Tys) (o : Oper) (sv : Nat → SV) (en : Nat → Option Ent) (nx : Nat) (kf : Delta → Option R) : Option R := Option.none
def matAt : Nat → Option Nat → Bool := fun _ _ => false
def mxOp (Θ : Tys) (o : Oper) (sv : Nat → SV) (en : Nat → Option Ent) : Bool := false
def constL (n : Nat) : Nat → Nat := fun _ => n
def planY (Θ : Tys) (o : Oper) (sv : Nat → SV) (en : Nat → Option Ent) (nx : Nat) (kf : Delta → Option R) : Option R := Option.none
def planB (Θ : Tys) (o : Oper) (sv : Nat → SV) (en : Nat → Option Ent) (nx : Nat) (kf : Delta → Option R) : Option R :=
  match xOf o sv with
  | some x => planX Θ o x sv en nx kf
  | Option.none => bif mxOp Θ o sv en then planY Θ o sv en nx kf else bif strOp Θ o then planS Θ o sv en nx kf else bif famOp Θ o then planF Θ o sv en nx kf else bif mapOp o then planM Θ o sv en nx kf else bif arrOp Θ o then planA Θ o sv en nx kf else planK Θ o sv en nx kf
def frzC (r : Nat) (g : SV) : SV → SV
  | .row q => bif q == r then g else .row q
  | s => s
def frzV (r : Nat) (g : SV) : SV → SV
  | .agg cs => .agg (cs.map (frzC r g))
  | s => frzC r g s
def planZ (Θ : Tys) (o : Oper) (nx : Nat) : List Nat → (Nat → SV) → (Nat → Option Ent) → (Delta → Option R) → Option R
  | [], sv, en, kf => planB Θ o sv en nx kf
  | r :: F, sv, en, kf => match en r with
    | some (.row _ fl size n c) => planZ Θ o nx F (fun s => frzV r (.sl .any fl size n c) (sv s)) (fun id => bif id == r then Option.none else en id) fun δ => kf ⟨δ.v, (r, Option.none) :: δ.upd, r :: δ.rd, δ.nx⟩
    | _ => planZ Θ o nx F sv en kf
def rowsV : List SV → List Nat
  | [] => []
  | .row r :: l => r :: rowsV l
  | _ :: l => rowsV l
def frzOf (Θ : Tys) (o : Oper) (sv : Nat → SV) : List Nat :=
  match o.op with
  | .buildSlice t _ ps => bif matAt t o.dst then [] else ps.toList.flatMap fun p => rowsV (cellsV (ev Θ 0 sv p.2))
  | .store t a x => (match ev Θ 0 sv a with
    | .wptr _ _ _ _ => rowsV (cellsV (ev Θ t sv x))
    | _ => [])
  | _ => []
def renC0 (ν : Nat → Option Nat) : SV → SV
  | .ptr g off => (match ν g with | some g' => .ptr g' off | Option.none => .undef)
  | .xptr g b st n z => (match ν g with | some g' => .xptr g' b st n z | Option.none => .undef)
  | .row r => (match ν r with | some r' => .row r' | Option.none => .undef)
  | .wptr r s i off => (match ν r with | some r' => .wptr r' s i off | Option.none => .undef)
  | .func _ _ _ => .undef
  | .agg _ => .undef
  | .tup _ => .undef
  | s => s
def renA (ν : Nat → Option Nat) : SV → SV
  | .agg cs => .agg (cs.map (renC0 ν))
  | s => renC0 ν s
def renC (ν : Nat → Option Nat) : SV → SV
  | .func f k cs => .func f k (cs.map (renA ν))
  | s => renC0 ν s
def ren1 (ν : Nat → Option Nat) : SV → SV
  | .agg cs => .agg (cs.map (renC ν))
  | s => renC ν s
def ren (ν : Nat → Option Nat) : SV → SV
  | .tup vs => .tup (vs.map (ren1 ν))
  | s => ren1 ν s
def renE (ν : Nat → Option Nat) : Ent → Ent
  | .blk cs => .blk (cs.map (renC ν))
  | e => e
def matOn : Bool := false
def nilEnt (fl : CK) (size : Nat) (c : Nat → Nat → SV) : Ent := bif matOn then (match fl with
  | .cons (.sl (.cons (.int ik) .nil)) .nil => .mx ik 0 (constL 0) (fun _ _ => 0)
  | _ => .row true fl size 0 c) else .row true fl size 0 c
def rowifyC (s : SV) (t : Tab) (nx : Nat) (kf : SV → Tab → Nat → Option R) : Option R :=
  match s with
  | .sl .nil fl size _ c => kf (.row nx) ((nx, nilEnt fl size c) :: t) (nx + 1)
  | s => kf s t nx
def rowifyL : List SV → Tab → Nat → (List SV → Tab → Nat → Option R) → Option R
  | [], t, nx, kf => kf [] t nx
  | s :: l, t, nx, kf => rowifyC s t nx fun s' t' nx' => rowifyL l t' nx' fun l' t'' nx'' => kf (s' :: l') t'' nx''
def rowify1 (s : SV) (t : Tab) (nx : Nat) (kf : SV → Tab → Nat → Option R) : Option R :=
  match s with
  | .agg cs => rowifyL cs t nx fun cs' t' nx' => kf (.agg cs') t' nx'
  | s => rowifyC s t nx kf
def rowifyS : List SV → Tab → Nat → (List SV → Tab → Nat → Option R) → Option R
  | [], t, nx, kf => kf [] t nx
  | s :: l, t, nx, kf => rowify1 s t nx fun s' t' nx' => rowifyS l t' nx' fun l' t'' nx'' => kf (s' :: l') t'' nx''
def rowifyV (s : SV) (t : Tab) (nx : Nat) (kf : SV → Tab → Nat → Option R) : Option R :=
  match s with
  | .tup vs => rowifyS vs t nx fun vs' t' nx' => kf (.tup vs') t' nx'
  | s => rowify1 s t nx kf
def rowifyT : List Nat → Tab → Nat → (Tab → Nat → Option R) → Option R
  | [], t, nx, kf => kf t nx
  | i :: l, t, nx, kf => match tget t i with
    | some (.blk cs) => rowifyL cs t nx fun cs' t' nx' => rowifyT l (tput t' i (.blk cs')) nx' kf
    | _ => rowifyT l t nx kf
def isNil : SV → Bool
  | .sl .nil _ _ _ _ => true
  | _ => false
def hasNil : Tab → Bool
  | [] => false
  | (_, .blk cs) :: t => cs.any isNil || hasNil t
  | _ :: t => hasNil t
def rowsT (t : Tab) (nx : Nat) (kf : Tab → Nat → Option R) : Option R := bif hasNil t then rowifyT (t.map (·.1)) t nx kf else kf t nx
def idC0 : SV → List Nat
  | .ptr g _ => [g]
  | .xptr g _ _ _ _ => [g]
  | .row r => [r]
  | .wptr r _ _ _ => [r]
  | _ => []
def idL0 : List SV → List Nat
  | [] => []
  | s :: l => idC0 s ++ idL0 l
def idA : SV → List Nat
  | .agg cs => idL0 cs
  | s => idC0 s
def idLA : List SV → List Nat
  | [] => []
  | s :: l => idA s ++ idLA l
def idC : SV → List Nat
  | .func _ _ cs => idLA cs
  | s => idC0 s
def idL : List SV → List Nat
  | [] => []
  | s :: l => idC s ++ idL l
def id1 : SV → List Nat
  | .agg cs => idL cs
  | s => idC s
def idS : List SV → List Nat
  | [] => []
  | s :: l => id1 s ++ idS l
def idV : SV → List Nat
  | .tup vs => idS vs
  | s => id1 s
def idR : List SV → List Nat
  | [] => []
  | s :: l => idV s ++ idR l
def idE : Option Ent → List Nat
  | some (.blk cs) => idL cs
  | _ => []
def memN : List Nat → Nat → Bool
  | [], _ => false
  | a :: l, b => bif a == b then true else memN l b
def reach (low : Nat → Bool) (t : Tab) : Nat → List Nat → List Nat → List Nat
  | 0, _, acc => acc
  | _, [], acc => acc
  | n + 1, g :: l, acc =>
    bif low g || memN acc g then reach low t n l acc
    else match tget t g with
      | Option.none => reach low t n l acc
      | some e => reach low t n (l ++ idE (some e)) (acc ++ [g])
def idxN : List Nat → Nat → Nat → Option Nat
  | [], _, _ => Option.none
  | a :: l, b, i => bif a == b then some i else idxN l b (i + 1)
def belowIds (low : Nat → Bool) : Tab → List Nat
  | [] => []
  | (i, e) :: t => (bif low i then idE (some e) else []) ++ belowIds low t
def lowB (base : Nat) (bp : Nat → Bool) (g : Nat) : Bool := Nat.blt g base && !(bp g)
def numOf (low : Nat → Bool) (base : Nat) (ord : List Nat) (g : Nat) : Option Nat := bif low g then some g else idxN ord g base
def keepLow (low : Nat → Bool) (ν : Nat → Option Nat) : Tab → Tab
  | [] => []
  | (i, e) :: t => bif low i then (i, renE ν e) :: keepLow low ν t else keepLow low ν t
def keepOrd (t : Tab) (ν : Nat → Option Nat) : List Nat → Nat → Tab
  | [], _ => []
  | g :: l, i => match tget t g with
    | some e => (i, renE ν e) :: keepOrd t ν l (i + 1)
    | Option.none => keepOrd t ν l (i + 1)
def nodupN : List Nat → Bool
  | [] => true
  | a :: l => bif memN l a then false else nodupN l
def clearS : Nat → List Nat → List SV → List SV
  | _, _, [] => []
  | i, keep, s :: l => (bif memN keep i then s else .undef) :: clearS (i + 1) keep l
def canon (base : Nat) (bp : Nat → Bool) (roots : List SV) (t : Tab) (kf : List SV → Tab → Nat → Option R) : Option R :=
  match reach (lowB base bp) t 1000 (idR roots ++ belowIds (lowB base bp) t) [] with
  | ord => bif nodupN ord then kf (roots.map (ren (numOf (lowB base bp) base ord))) (keepLow (lowB base bp) (numOf (lowB base bp) base ord) t ++ keepOrd t (numOf (lowB base bp) base ord) ord base) (base + ord.length) else Option.none
def normK (base : Nat) (keep : List Nat) (S : St) (kf : St → Option R) : Option R :=
  rowifyS (clearS 0 keep S.tmps) S.tab S.nx fun tmps t nx => rowifyT (t.map (·.1)) t nx fun t' _ =>
    canon base (fun g => memN keep (1000000 + g)) tmps t' fun tmps' t'' nx'' => kf ⟨tmps', t'', nx''⟩
def ptrIds (ro own : Bool) : SV → List Nat
  | .ptr g _ => bif ro then [] else [g]
  | .row r => bif own then [r] else []
  | .agg cs => cs.flatMap fun | .ptr g _ => [g] | _ => []
  | .func _ _ cs => cs.flatMap fun | .ptr g _ => [g] | .row r => [r] | _ => []
  | _ => []
def nilKeep (fl : CK) : Bool := ckEq fl (.cons .str .nil) || ckEq fl (.cons (.int .i64) .nil)
def viewC (en : Nat → Option Ent) (own : List Nat) : SV → SV
  | .row r => bif memN own r then .row r else (match en r with
    | some (.row _ fl size n c) => .sl .any fl size n c
    | _ => .undef)
  | .sl .nil fl size n c => bif nilKeep fl then .sl .nil fl size n c else .sl .any fl size n c
  | .sl .cap0 fl size n c => .sl .any fl size n c
  | s => s
def rowsC (own : List Nat) : SV → List Nat
  | .row r => bif memN own r then [] else [r]
  | _ => []
def viewP (en : Nat → Option Ent) (own : List Nat) (g off : Nat) : SV :=
  match en g with
  | some (.blk cs) => bif (cs.map (viewC en own)).all groundOk then .eptr (cs.length - off) (fun j => lget (cs.map (viewC en own)) (j + off)) else .undef
  | _ => .undef
def view1 (ro : Bool) (en : Nat → Option Ent) (own : List Nat) : SV → SV
  | .agg cs => .agg (cs.map (viewC en own))
  | .ptr g off => bif ro && !(memN own g) then viewP en own g off else .ptr g off
  | s => viewC en own s
def viewIds (ro : Bool) (en : Nat → Option Ent) (own : List Nat) : SV → List Nat
  | .row r => bif memN own r then [] else [r]
  | .agg cs => cs.flatMap (rowsC own)
  | .ptr g _ => bif ro && !(memN own g) then (match en g with | some (.blk cs) => g :: cs.flatMap (rowsC own) | _ => [g]) else []
  | _ => []
def noSlC : SV → Bool
  | .sl _ _ _ _ _ => false
  | .eptr _ _ => false
  | .func _ _ _ => false
  | .agg _ => false
  | .tup _ => false
  | _ => true
def noSl1 : SV → Bool
  | .agg cs => cs.all noSlC
  | s => noSlC s
def noSl : SV → Bool
  | .tup vs => vs.all noSl1
  | s => noSl1 s
def noSlE : Ent → Bool
  | .blk cs => cs.all noSlC
  | .row _ fl size _ _ => flatN fl size
  | .mp _ _ _ => true
  | .fm _ fl size _ _ _ _ => flatN fl size
  | .fx _ _ => false
  | .lp _ => false
  | .mx _ _ _ _ => true
structure Cal (R : Type) where
  ro : FuncId → Bool
  own : FuncId → Bool
  run : FuncId → List SV → Tab → Nat → ((SV × Tab) → Option R) → Option R
def backN (T : Tab) (L : List Nat) (nx : Nat) (i : Nat) : Option Nat := match tget T i with
  | some _ => bif Nat.blt i L.length then L[i]? else some (nx + (i - L.length))
  | Option.none => Option.none
def lowUpd (T : Tab) (ν : Nat → Option Nat) : List Nat → Nat → List (Nat × Option Ent)
  | [], _ => []
  | g :: l, i => (g, (tget T i).map (renE ν)) :: lowUpd T ν l (i + 1)
def newUpd (k nx : Nat) (ν : Nat → Option Nat) : Tab → List (Nat × Option Ent)
  | [] => []
  | (i, e) :: t => bif Nat.blt i k then newUpd k nx ν t else (nx + (i - k), some (renE ν e)) :: newUpd k nx ν t
def idsBelow (b : Nat) : Tab → Bool
  | [] => true
  | (i, _) :: t => Nat.blt i b && idsBelow b t
def tabOk : Tab → Bool
  | [] => true
  | (i, _) :: t => (tget t i).isNone && tabOk t
def pureOk (V : List Nat) (res : SV) (T : Tab) : Bool := match V with
  | [] => true
  | _ => noSl res && T.all fun p => noSlE p.2
def callK (cal : Cal R) (f : FuncId) (args : List SV) (t : Tab) (nx : Nat) (kf : Delta → Option R) : Option R :=
  match reach (fun _ => false) t 1000 (args.flatMap (ptrIds (cal.ro f) (cal.own f))) [] with
  | L => match (args.flatMap (viewIds (cal.ro f) (tget t) L)) with
    | V => bif nodupN L then
        cal.run f (args.map fun a => ren (idxN L · 0) (view1 (cal.ro f) (tget t) L a)) (keepOrd t (idxN L · 0) L 0) L.length fun (res, T') =>
          match T'.length + L.length with
          | m => bif idsBelow m T' && tabOk T' then
              kf ⟨ren (backN T' L nx) res, lowUpd T' (backN T' L nx) L 0 ++ newUpd L.length nx (backN T' L nx) T' ++ (bif pureOk V res T' then [] else V.map fun r => (r, Option.none)), L ++ V, nx + m⟩
            else Option.none
      else Option.none
def opK (Θ : Tys) (cal : Cal R) (o : Oper) (S : St) (kf : Delta → Option R) : Option R :=
  match o.op with
  | .call ⟨.value fx, args, ts⟩ => (match ev Θ 0 (lget S.tmps) fx with
    | .func f k caps => bif args.toList.length == ts.toList.length && (bif k == yK then Nat.ble yK f && (Nat.ble caps.length yK && args.toList.length == 1) else Nat.blt f yK) then callK cal f (caps.take k ++ ((args.toList.zip ts.toList).map (fun (x, t) => ev Θ t (lget S.tmps) x) ++ caps.drop k)) S.tab S.nx kf else Option.none
    | _ => Option.none)
  | _ => planZ Θ o S.nx (frzOf Θ o (lget S.tmps)) (lget S.tmps) (tget S.tab) kf
def putD (S : St) (d : Option Tmp) (δ : Delta) : St :=
  ⟨match d with | some d => lset S.tmps d δ.v | Option.none => S.tmps, tupd S.tab δ.upd, δ.nx⟩
def skipD (S : St) (d : Option Tmp) : St :=
  ⟨match d with | some d => lset S.tmps d .none | Option.none => S.tmps, S.tab, S.nx⟩
abbrev Info := List Nat × List Nat × Nat
def keysLt (δ : Delta) : Bool := δ.upd.all fun p => Nat.blt p.1 δ.nx
def goOn (S : St) (o : Oper) (acc : List Info) (kf : St → List Info → Option R) (δ : Delta) : Option R :=
  bif keysLt δ then kf (putD S o.dst δ) ((δ.rd, δ.upd.map (·.1), S.nx) :: acc) else Option.none
def opsK (Θ : Tys) (cal : Cal R) (all : List Oper) : List Oper → St → List Info → (St → List Info → Option R) → Option R
  | [], S, acc, kf => kf S acc
  | o :: rest, S, acc, kf =>
    match o.guard with
    | Option.none => opK Θ cal o S (goOn S o acc fun S' acc' => opsK Θ cal all rest S' acc' kf)
    | some (j, want) => (match (all[j]?).bind (·.dst) with
      | some d => (match lget S.tmps d with
        | .bool x =>
          bif x then
            (bif want then opK Θ cal o ⟨lset S.tmps d (.bool true), S.tab, S.nx⟩ (goOn ⟨lset S.tmps d (.bool true), S.tab, S.nx⟩ o acc fun S' acc' => opsK Θ cal all rest S' acc' kf)
             else opsK Θ cal all rest (skipD ⟨lset S.tmps d (.bool true), S.tab, S.nx⟩ o.dst) (([], [], S.nx) :: acc) kf)
          else
            (bif want then opsK Θ cal all rest (skipD ⟨lset S.tmps d (.bool false), S.tab, S.nx⟩ o.dst) (([], [], S.nx) :: acc) kf
             else opK Θ cal o ⟨lset S.tmps d (.bool false), S.tab, S.nx⟩ (goOn ⟨lset S.tmps d (.bool false), S.tab, S.nx⟩ o acc fun S' acc' => opsK Θ cal all rest S' acc' kf))
        | .none => opsK Θ cal all rest (skipD S o.dst) (([], [], S.nx) :: acc) kf
        | _ => Option.none)
      | Option.none => Option.none)
def befores : List Oper → List Nat → List Nat
  | [], acc => acc
  | o :: l, acc => befores l (acc ++ [o.after.toList.foldl (fun s e => bif Region.binds .any e then s ||| 2 ^ e.on ||| acc.getD e.on 0 else s) 0])
def meets (a b : List Nat) : Bool := a.any (memN b)
def pairOk (a b : Info) : Bool := !(meets a.2.1 b.1) && !(meets a.2.1 b.2.1) && !(meets a.1 b.2.1)
def pairsAt (j bj : Nat) (b : Info) : List Info → Nat → Bool
  | [], _ => true
  | a :: l, i => (bif Nat.blt i j then (Nat.testBit bj i || pairOk a b) else true) && pairsAt j bj b l (i + 1)
def pairsFrom (all : List Info) : List Nat → List Info → Nat → Bool
  | bj :: bs, b :: l, j => b.1.all (fun q => Nat.blt q b.2.2) && pairsAt j bj b all 0 && pairsFrom all bs l (j + 1)
  | [], [], _ => true
  | _, _, _ => false
def indep (ops : List Oper) (infos : List Info) : Bool := pairsFrom infos (befores ops []) infos 0
def readsO (all : List Oper) (o : Oper) : List Nat :=
  (o.op.operands.toList.filterMap fun | .tmp t => some t | _ => Option.none) ++
  (match o.guard with | some (g, _) => ((all[g]?).bind (·.dst)).toList | Option.none => [])
def edgesOk : List Oper → Nat → Bool
  | [], _ => true
  | o :: l, i => (o.after.toList.all fun e => !(Region.binds .any e) || Nat.blt e.on i) && edgesOk l (i + 1)
def slotPair (all : List Oper) (a b : Oper) : Bool :=
  (match a.dst with | some d => !(memN (readsO all b) d) && !(b.dst == some d) | Option.none => true) &&
  (match b.dst with | some d => !(memN (readsO all a) d) | Option.none => true)
def slotsAt (all : List Oper) (j bj : Nat) (b : Oper) : List Oper → Nat → Bool
  | [], _ => true
  | a :: l, i => (bif Nat.blt i j then (Nat.testBit bj i || slotPair all a b) else true) && slotsAt all j bj b l (i + 1)
def slotsFrom (all : List Oper) : List Nat → List Oper → Nat → Bool
  | bj :: bs, b :: l, j => slotsAt all j bj b all 0 && slotsFrom all bs l (j + 1)
  | [], [], _ => true
  | _, _, _ => false
def regionOk (ops : List Oper) : Bool := edgesOk ops 0 && slotsFrom ops (befores ops []) ops 0
def codeOk : Code → Bool
  | .region _ ops draw => bif draw then regionOk ops.toList else true
  | .seq a b => codeOk a && codeOk b
  | .cond _ a b => codeOk a && codeOk b
  | .block _ c => codeOk c
  | .loop c => codeOk c
  | _ => true
def refine (S : St) (c : Operand) (b : Bool) : St :=
  match c with
  | .tmp t => ⟨lset S.tmps t (.bool b), S.tab, S.nx⟩
  | _ => S
abbrev Lp (R : Type) := Code → St → (Exit → St → Option R) → Option R
def codeK (Θ : Tys) (cal : Cal R) (lp : Lp R) : Code → St → (Exit → St → Option R) → Option R
  | .skip, S, k => k .normal S
  | .region _ ops draw, S, k => rowsT S.tab S.nx fun t nx => opsK Θ cal ops.toList ops.toList ⟨S.tmps, t, nx⟩ [] fun S' infos => bif draw then (bif indep ops.toList infos.reverse then k .normal S' else Option.none) else k .normal S'
  | .seq a b, S, k => codeK Θ cal lp a S fun e S' => match e with | .normal => codeK Θ cal lp b S' k | e => k e S'
  | .cond c a b, S, k => (match ev Θ 0 (lget S.tmps) c with
    | .bool x => bif x then codeK Θ cal lp a (refine S c true) k else codeK Θ cal lp b (refine S c false) k
    | _ => Option.none)
  | .block id body, S, k => codeK Θ cal lp body S fun e S' => match e with | .exit j => (bif j == id then k .normal S' else k (.exit j) S') | e => k e S'
  | .loop body, S, k => lp body S k
  | .exit id, S, k => k (.exit id) S
  | .label _, S, k => k .normal S
  | .ret, S, k => k .ret S
  | _, _, _ => Option.none
def keyOf : Code → Option Nat
  | .region id _ _ => some id
  | .seq a b => (match keyOf a with | some k => some k | Option.none => keyOf b)
  | .cond _ a b => (match keyOf a with | some k => some k | Option.none => keyOf b)
  | .block _ a => keyOf a
  | .loop a => keyOf a
  | _ => Option.none
def loopAt (key : Nat) : Code → Option Code
  | .seq a b => (match loopAt key a with | some c => some c | Option.none => loopAt key b)
  | .cond _ a b => (match loopAt key a with | some c => some c | Option.none => loopAt key b)
  | .block _ a => loopAt key a
  | .loop a => (bif (match keyOf a with | some k => k == key | Option.none => false) then some a else loopAt key a)
  | .rangeFunc _ _ _ b => loopAt key b
  | _ => Option.none
abbrev Hints := List (Nat × List Nat)
def Hints.get : Hints → Nat → List Nat
  | [], _ => []
  | (i, l) :: h, j => bif i == j then l else Hints.get h j
def resOf (Θ : Tys) (S : St) : ResultVar → (SV → Option R) → Option R
  | .tmp t, k => k (lget S.tmps t)
  | .cell a t, k => match Θ.get t, lget S.tmps a with
    | some ti, .ptr g off => (match tget S.tab g with
      | some (.blk cs) => bif isAgg ti.d then (bif Nat.ble (off + ti.size) cs.length then k (.agg (takeN cs off ti.size)) else Option.none)
          else (bif Nat.blt off cs.length then k (lget cs off) else Option.none)
      | _ => Option.none)
    | _, _ => Option.none
def resL (Θ : Tys) (S : St) : List ResultVar → (List SV → Option R) → Option R
  | [], k => k []
  | r :: l, k => resOf Θ S r fun v => resL Θ S l fun vs => k (v :: vs)
def tupS : List SV → SV
  | [v] => v
  | vs => .tup vs
def rowifyR (rw : Bool) (s : SV) (t : Tab) (nx : Nat) (kf : SV → Tab → Nat → Option R) : Option R :=
  match rw with
  | true => rowifyV s t nx kf
  | false => kf s t nx
def bpOf (l : List Nat) (base g : Nat) : Bool := memN l g || memN l (1000 * base + g)
def finK (rw : Bool × List Nat) (Θ : Tys) (base : Nat) (rs : List ResultVar) (S : St) (k : SV × Tab → Option R) : Option R :=
  resL Θ S rs fun vs => match tupS vs with
    | v => rowifyR rw.1 v S.tab S.nx fun v' t nx => rowifyT (t.map (·.1)) t nx fun t' _ => canon base (bpOf rw.2 base) [v'] t' fun vs' t'' _ => match vs' with
      | [v''] => k (v'', t'')
      | _ => Option.none
structure Env where
  P : Program
  Θ : Tys
  hs : FuncId → Hints
  ro : FuncId → Bool
  nr : FuncId → Bool
  own : FuncId → Bool
  bs : FuncId → List Nat
end
end Go.Sx
