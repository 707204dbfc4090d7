/-
  Sx, part C: the executor: what one operation makes of an abstract state, and what must hold for that.
-/
import Derived.Test.YtpnmfoojmodnlaaSxB
namespace Go.Sx

/-- What the executor must know of a type of the program. -/
inductive TK where
  | scalar (d : TypeDesc)
  | slice (elem : TypeId)
  | arr (n : Nat) (elem : TypeId)
  | struct (fields : List (Nat × TypeId))
structure TI where
  size : Nat
  bytes : Nat
  kind : TK
  zero : List PV
  ty : Option Ty
structure Env where
  tys : List (Nat × TI)
  eqs : List (Nat × Ty)
def tiAt : List (Nat × TI) → TypeId → Option TI
  | [], _ => none
  | (k, i) :: r, t => bif Nat.beq k t then some i else tiAt r t
def tyAt : List (Nat × Ty) → TypeId → Option Ty
  | [], _ => none
  | (k, i) :: r, t => bif Nat.beq k t then some i else tyAt r t
def Env.info (E : Env) (t : TypeId) : Option TI := tiAt E.tys t
/-- The shape of a type whose data may be compared. -/
def Env.eq? (E : Env) (t : TypeId) : Option Ty := tyAt E.eqs t
def TK.agg : TK → Bool
  | .arr _ _ => true
  | .struct _ => true
  | _ => false

/-- A data's parts: structs are taken apart, arrays are not. -/
def explode : (t : Ty) → t.D → List PV
  | .pair a b, x => explode a x.1 ++ explode b x.2
  | .int k, x => [.d (.int k) x]
  | .bool, x => [.d .bool x]
  | .str, x => [.d .str x]
  | .sl t, x => [.d (.sl t) x]
  | .arr n t, x => [.d (.arr n t) x]
  | .ref p, x => [.d (.ref p) x]
  | .err, x => [.d .err x]
  | .mp kk t, x => [.d (.mp kk t) x]
def PV.parts : PV → List PV
  | .d t x => explode t x
  | p => [p]
def psParts : List PV → List PV
  | [] => []
  | p :: ps => p.parts ++ psParts ps
def SV.parts : SV → Option (List PV)
  | .one .any => none
  | .one p => some p.parts
  | .agg ps => some (psParts ps)
  | .tup _ => none
  | .cnd _ _ => none

/-- The parts that fill just n cells, and what is left. -/
def takeN : List PV → Nat → Option (List PV × List PV)
  | ps, 0 => some ([], ps)
  | [], _ + 1 => none
  | p :: ps, n + 1 => bif Nat.ble p.size (n + 1) && Nat.blt 0 p.size then
      (match takeN ps (n + 1 - p.size) with
       | some (a, b) => some (p :: a, b)
       | none => none) else none
termination_by structural ps => ps
/-- The parts from cell off on, n cells of them: (ahead, there, behind). -/
def cut3 (ps : List PV) (off n : Nat) : Option (List PV × List PV × List PV) :=
  match takeN ps off with
  | some (a, r) => (match takeN r n with
    | some (m, b) => some (a, m, b)
    | none => none)
  | none => none

/-- Parts read as data; what is left of them. -/
def castD (t' t : Ty) (x : t'.D) : Option t.D := if h : t' = t then some (h ▸ x) else none
def rd1 (t : Ty) : List PV → Option (t.D × List PV)
  | .d t' x :: r => (match castD t' t x with
    | some y => some (y, r)
    | none => none)
  | _ => none
def rdLit : List PV → Option (Bool × List PV)
  | .lit b :: r => some (b, r)
  | _ => none
def rdNil : List PV → Option (List PV)
  | .con (.slice none 0 0) :: r => some r
  | _ => none
def rdRef (p : Nat) : List PV → Option (Int × List PV)
  | .con (.pointer none) :: r => some ((-1 : Int), r)
  | .opt p' a 0 :: r => bif Nat.beq p p' then some (a, r) else none
  | .d (.ref p') x :: r => bif Nat.beq p p' then some ((x : Int), r) else none
  | _ => none
def rdErr : List PV → Option (Bool × List PV)
  | .con .nilIface :: r => some (false, r)
  | .d .err x :: r => some ((x : Bool), r)
  | _ => none
def rdP : (t : Ty) → List PV → Option (t.D × List PV)
  | .int k, ps => rd1 (.int k) ps
  | .bool, ps => (match rdLit ps with
    | some (b, r) => some (b, r)
    | none => rd1 .bool ps)
  | .str, ps => rd1 .str ps
  | .sl t, ps => (match rdNil ps with
    | some r => some ([], r)
    | none => rd1 (.sl t) ps)
  | .arr n t, ps => rd1 (.arr n t) ps
  | .ref p, ps => rdRef p ps
  | .err, ps => rdErr ps
  | .mp kk t, ps => rd1 (.mp kk t) ps
  | .pair a b, ps => (match rdP a ps with
    | some (x, r) => (match rdP b r with
      | some (y, r') => some ((x, y), r')
      | none => none)
    | none => none)
def rdAll (t : Ty) (ps : List PV) : Option t.D := match rdP t ps with
  | some (x, []) => some x
  | _ => none

/-- Does it fit its kind? -/
def irB : IntKind → Int → Bool
  | .i64, n => decide (-9223372036854775808 ≤ n) && decide (n ≤ 9223372036854775807)
  | .u64, n => decide (0 ≤ n) && decide (n ≤ 18446744073709551615)
  | .i32, n => decide (-2147483648 ≤ n) && decide (n ≤ 2147483647)
  | .u32, n => decide (0 ≤ n) && decide (n ≤ 4294967295)
  | .i16, n => decide (-32768 ≤ n) && decide (n ≤ 32767)
  | .u16, n => decide (0 ≤ n) && decide (n ≤ 65535)
  | .i8, n => decide (-128 ≤ n) && decide (n ≤ 127)
  | .u8, n => decide (0 ≤ n) && decide (n ≤ 255)
theorem irB_ok {k : IntKind} {n : Int} (h : irB k n = true) : IR k n := by
  cases k <;> simpa [irB, IR] using h
def constSV : Value → SV
  | .int k n => bif irB k n then .one (.d (.int k) n) else .one .any
  | .bool b => .one (.lit b)
  | .string s => bif Nat.ble s.size 9223372036854775807 then .one (.d .str (ofStr s)) else .one .any
  | .agg _ => .one .any
  | .tuple _ => .one .any
  | v => .one (.con v)
def ev (s : St) : Operand → SV
  | .tmp t => lget s.fr t
  | .const v => constSV v
  | .global _ => .one .any
  | .func f => .one (.con (.func (.func f) #[] #[]))

def hset (hp : Nat → Option HE) (k : Nat) (he : Option HE) : Nat → Option HE := fun n => bif Nat.beq n k then he else hp n
def uset (us : Nat → Bool) (k : Nat) : Nat → Bool := fun n => bif Nat.beq n k then true else us n
/-- A new name. -/
def St.new (s : St) (k : Nat) (he : HE) : St := { s with hp := hset s.hp k (some he), us := uset s.us k }
def St.upd (s : St) (k : Nat) (he : HE) : St := { s with hp := hset s.hp k (some he) }
def St.drop (s : St) (k : Nat) : St := { s with hp := hset s.hp k none }

/-- What must hold (if anything), and the state behind. -/
abbrev Res := Option (Option Prop × St)
@[reducible] def vcP : Option Prop → Prop
  | none => True
  | some q => q
def ok (s : St) : Res := some (none, s)


def cmpB : BinOp → Int → Int → Option Bool
  | .eql, x, y => some (x == y)
  | .neq, x, y => some (x != y)
  | .lss, x, y => some (decide (x < y))
  | .leq, x, y => some (decide (x ≤ y))
  | .gtr, x, y => some (decide (y < x))
  | .geq, x, y => some (decide (y ≤ x))
  | _, _, _ => none
/-- Arithmetic; 'wr': it may go round. -/
def arith (wr : Bool) : BinOp → IntKind → Int → Int → Option (Option Prop × Int)
  | .add, k, x, y => some (bif wr then (none, k.wrap (x + y)) else (some (IR k (x + y)), x + y))
  | .sub, k, x, y => some (bif wr then (none, k.wrap (x - y)) else (some (IR k (x - y)), x - y))
  | .mul, k, x, y => some (bif wr then (none, k.wrap (x * y)) else (some (IR k (x * y)), x * y))
  | .quo, _, x, y => some (some (0 ≤ x ∧ 0 < y), x / y)
  | .rem, _, x, y => some (some (0 ≤ x ∧ 0 < y), x % y)
  | .and, k, x, y => some (none, bits .and k x y)
  | .or, k, x, y => some (none, bits .or k x y)
  | .xor, k, x, y => some (none, bits .xor k x y)
  | .andNot, k, x, y => some (none, bits .andNot k x y)
  | _, _, _, _ => none

def boolOp : BinOp → Bool → Bool → Option Bool
  | .eql, x, y => some (x == y)
  | .neq, x, y => some (x != y)
  | _, _, _ => none
def asBool? : SV → Option Bool
  | .one (.lit b) => some b
  | .one (.d .bool b) => some b
  | _ => none
def asInt? : SV → Option (IntKind × Int)
  | .one (.d (.int k) n) => some (k, n)
  | _ => none

def isBoolT (E : Env) (t : TypeId) : Bool := match E.info t with
  | some ⟨_, _, .scalar .bool, _, _⟩ => true
  | _ => false
def isStrT (E : Env) (t : TypeId) : Bool := match E.info t with
  | some ⟨_, _, .scalar .string, _, _⟩ => true
  | _ => false
def asStr? : SV → Option (List Int)
  | .one (.d .str l) => some l
  | _ => none
def shiftV (op : BinOp) (k : IntKind) (x y : Int) : Option (Option Prop × Int) :=
  match op with
  | .shl => some (some (0 ≤ y), k.wrap (x * 2 ^ (min y.toNat k.bits)))
  | .shr => some (some (0 ≤ y), x / 2 ^ (min y.toNat k.bits))
  | _ => none
def strBin (op : BinOp) (a b : List Int) : Option (Option Prop × PV) :=
  match op with
  | .add => some (some (a.length + b.length ≤ 9223372036854775807), .d .str (a ++ b))
  | .eql => some (none, .d .bool (decide (a = b)))
  | .neq => some (none, .d .bool (!(decide (a = b))))
  | _ => none
def SV.isAgg : SV → Bool
  | .agg _ => true
  | .one p => p.agg
  | _ => false
/-- Two aggregates compared. -/
def eqS (E : Env) (op : BinOp) (t : TypeId) (x y : SV) : Option Bool :=
  match E.eq? t with
  | some u => bif x.isAgg && y.isAgg then (match x.parts, y.parts with
    | some ps, some qs => (match rdAll u ps, rdAll u qs with
      | some a, some b => (match op with
        | .eql => some (deq u a b)
        | .neq => some (!(deq u a b))
        | _ => none)
      | _, _ => none)
    | _, _ => none) else none
  | none => none
/-- A pointer compared with nil. -/
def isPtr : PV → Option Bool
  | .con (.pointer none) => some true
  | .ptr _ _ => some false
  | .pel _ _ _ _ _ _ => some false
  | .rel _ _ _ _ => some false
  | .rea _ _ _ _ _ _ _ _ => some false
  | .pea _ _ _ _ _ _ _ _ _ _ => some false
  | .dpl _ _ => some false
  | .opt _ _ _ => some false
  | .oel _ _ _ _ _ _ _ => some false
  | _ => none
def ptrNil (E : Env) (op : BinOp) (t : TypeId) (x y : SV) : Option Bool :=
  match E.info t, x, y with
  | some ⟨_, _, .scalar (.pointer _), _, _⟩, .one p, .one (.con (.pointer none)) => (match isPtr p, op with
    | some b, .eql => some b
    | some b, .neq => some (!b)
    | _, _ => none)
  | _, _, _ => none
/-- What may be nil, compared with nil. -/
def refNil (E : Env) (op : BinOp) (t : TypeId) (x y : SV) : Option Bool :=
  match E.info t, x, y with
  | some ⟨_, _, .scalar (.pointer _), _, _⟩, .one (.d (.ref _) a), .one (.con (.pointer none)) => (match op with
    | .eql => some (decide ((a : Int) < 0))
    | .neq => some (!(decide ((a : Int) < 0)))
    | _ => none)
  | _, _, _ => none
/-- An error compared with the word nil. -/
def errNil (E : Env) (op : BinOp) (t : TypeId) (x : SV) (y : Operand) : Option Bool :=
  match E.info t, x, y with
  | some ⟨_, _, .scalar (.interface _), _, _⟩, .one (.d .err a), .const .nilIface => (match op with
    | .eql => some (!(a : Bool))
    | .neq => some (a : Bool)
    | _ => none)
  | _, _, _ => none
def binS (E : Env) (wr : Bool) (s : St) (dst : Option Nat) (op : BinOp) (t : TypeId) (x y : SV) : Res :=
  match asInt? x, asInt? y with
  | some (k, a), some (k', b) => (match shiftV op k a b with
    | some (p, r) => some (p, s.put dst (.one (.d (.int k) r)))
    | none => if k = k' then
      (match cmpB op a b with
       | some r => ok (s.put dst (.one (.d .bool r)))
       | none => (match arith wr op k a b with
         | some (p, r) => some (p, s.put dst (.one (.d (.int k) r)))
         | none => none)) else none)
  | _, _ => (match asBool? x, asBool? y with
    | some a, some b => bif !(isBoolT E t) then none else (match boolOp op a b with
      | some r => ok (s.put dst (.one (.d .bool r)))
      | none => none)
    | _, _ => (match asStr? x, asStr? y with
      | some a, some b => (match strBin op a b with
        | some (p, v) => some (p, s.put dst (.one v))
        | none => none)
      | _, _ => (match eqS E op t x y with
        | some b => ok (s.put dst (.one (.d .bool b)))
        | none => (match ptrNil E op t x y with
          | some b => ok (s.put dst (.one (.lit b)))
          | none => (match refNil E op t x y with
            | some b => ok (s.put dst (.one (.d .bool b)))
            | none => none)))))

/-- A part replaced in the parts of a box. -/
def setPs (ps : List PV) (off n : Nat) (qs : List PV) : Option (List PV) :=
  match cut3 ps off n with
  | some (a, _, b) => bif Nat.beq (psSize qs) n then some (a ++ (qs ++ b)) else none
  | none => none

/-- The value that a load of n cells gives. -/
def mkSV (agg : Bool) (ps : List PV) : Option SV :=
  bif agg then some (.agg ps) else (match ps with
    | [p] => bif p.agg then none else some (.one p)
    | _ => none)

/-- The array that starts at cell off of a box. -/
def arrAt (ps : List PV) (off n sz : Nat) : Option ((t : Ty) × List t.D) :=
  match takeN ps off with
  | some (_, .d (.arr m t) xs :: _) => bif Nat.beq m n && Nat.beq t.size sz then some ⟨t, xs⟩ else none
  | _ => none
def setArr (ps : List PV) (off n sz : Nat) (t : Ty) (xs : List t.D) : Option (List PV) :=
  match takeN ps off with
  | some (a, .d (.arr m t') _ :: b) => if t' = t ∧ m = n ∧ t.size = sz then some (a ++ (.d (.arr n t) xs :: b)) else none
  | _ => none

/-! ### Maps of our own: their entries in the order in which they came. -/
def mget? (t : Ty) : List (Int × t.D) → Int → Option t.D
  | [], _ => none
  | e :: r, k => bif decide (e.1 = k) then some e.2 else mget? t r k
def mval (t : Ty) (xs : List (Int × t.D)) (k : Int) : t.D := match mget? t xs k with
  | some v => v
  | none => t.zero
def mhas (t : Ty) (xs : List (Int × t.D)) (k : Int) : Bool := (mget? t xs k).isSome
def mput (t : Ty) : List (Int × t.D) → Int → t.D → List (Int × t.D)
  | [], k, v => [(k, v)]
  | e :: r, k, v => bif decide (e.1 = k) then (k, v) :: r else e :: mput t r k v
def mdel (t : Ty) : List (Int × t.D) → Int → List (Int × t.D)
  | [], _ => []
  | e :: r, k => bif decide (e.1 = k) then r else e :: mdel t r k
/-- The name of pool p. -/
def poolN (p : Nat) : Nat := 1000000000 + p
/-- What lies where a pointer into a pool points to: the parts of the thing that it points into, at which cell of it, and if what. -/
def locR (s : St) : SV → Option (List PV × Nat × Prop)
  | .one (.opt p a off) => (match s.hp (poolN p) with
    | some (.pool u m) => some (explode u (mval u m a), off, mhas u m a = true)
    | _ => none)
  | .one (.d (.ref p) a) => (match s.hp (poolN p) with
    | some (.pool u m) => some (explode u (mval u m a), 0, mhas u m a = true)
    | _ => none)
  | .one (.oel p a off n sz i j) => (match s.hp (poolN p) with
    | some (.pool u m) => (match arrAt (explode u (mval u m a)) off n sz with
      | some ⟨v, ys⟩ => some (explode v (nth v ys i), j, mhas u m a = true)
      | none => none)
    | _ => none)
  | _ => none
/-- What lies where a pointer points to: the parts of the thing that it points into, and at which cell of it. -/
def locS (s : St) : SV → Option (List PV × Nat)
  | .one (.ptr k off) => (match s.hp k with
    | some (.box ps) => some (ps, off)
    | _ => none)
  | .one (.pel k off n sz i j) => (match s.hp k with
    | some (.box ps) => (match arrAt ps off n sz with
      | some ⟨u, xs⟩ => some (explode u (nth u xs i), j)
      | none => none)
    | _ => none)
  | .one (.rel k sz i j) => (match s.hp k with
    | some (.row u xs) => bif Nat.beq u.size sz then some (explode u (nth u xs i), j) else none
    | _ => none)
  | .one (.rea k sz i j n' sz' i' j') => (match s.hp k with
    | some (.row u xs) => bif Nat.beq u.size sz then (match arrAt (explode u (nth u xs i)) j n' sz' with
      | some ⟨v, ys⟩ => some (explode v (nth v ys i'), j')
      | none => none) else none
    | _ => none)
  | .one (.dpl u x) => some (explode u x, 0)
  | .one (.pea k off n sz i j n' sz' i' j') => (match s.hp k with
    | some (.box ps) => (match arrAt ps off n sz with
      | some ⟨u, xs⟩ => (match arrAt (explode u (nth u xs i)) j n' sz' with
        | some ⟨v, ys⟩ => some (explode v (nth v ys i'), j')
        | none => none)
      | none => none)
    | _ => none)
  | _ => none
def loadS (E : Env) (s : St) (dst : Option Nat) (t : TypeId) (addr : SV) : Res :=
  match E.info t, locS s addr with
  | some ti, some (ps, j) => (match cut3 ps j ti.size with
    | some (_, m, _) => (match mkSV ti.kind.agg m with
      | some v => ok (s.put dst v)
      | none => none)
    | none => none)
  | some ti, none => (match locR s addr with
    | some (ps, j, c) => (match cut3 ps j ti.size with
      | some (_, m, _) => (match mkSV ti.kind.agg m with
        | some v => some (some c, s.put dst v)
        | none => none)
      | none => none)
    | none => none)
  | _, _ => none
/-- A store through a pointer into a pool. -/
def storeR (s : St) (n : Nat) (qs : List PV) : SV → Res
  | .one (.opt p a off) => (match s.hp (poolN p) with
    | some (.pool u m) => (match setPs (explode u (mval u m a)) off n qs with
      | some es => (match rdAll u es with
        | some y => some (some (mhas u m a = true), s.upd (poolN p) (.pool u (mput u m a y)))
        | none => none)
      | none => none)
    | _ => none)
  | .one (.d (.ref p) a) => (match s.hp (poolN p) with
    | some (.pool u m) => (match setPs (explode u (mval u m a)) 0 n qs with
      | some es => (match rdAll u es with
        | some y => some (some (mhas u m a = true), s.upd (poolN p) (.pool u (mput u m a y)))
        | none => none)
      | none => none)
    | _ => none)
  | .one (.oel p a off k sz i j) => (match s.hp (poolN p) with
    | some (.pool u m) => (match arrAt (explode u (mval u m a)) off k sz with
      | some ⟨v, ys⟩ => (match setPs (explode v (nth v ys i)) j n qs with
        | some es => (match rdAll v es with
          | some z => (match setArr (explode u (mval u m a)) off k sz v (ys.set i z) with
            | some ps' => (match rdAll u ps' with
              | some y => some (some (mhas u m a = true), s.upd (poolN p) (.pool u (mput u m a y)))
              | none => none)
            | none => none)
          | none => none)
        | none => none)
      | none => none)
    | _ => none)
  | _ => none
def storeS (E : Env) (s : St) (t : TypeId) (addr val : SV) : Res :=
  match E.info t, val.parts with
  | some ti, some qs =>
    (match addr with
    | .one (.ptr k off) => (match s.hp k with
      | some (.box ps) => (match setPs ps off ti.size qs with
        | some ps' => ok (s.upd k (.box ps'))
        | none => none)
      | _ => none)
    | .one (.pel k off n sz i j) => (match s.hp k with
      | some (.box ps) => (match arrAt ps off n sz with
        | some ⟨u, xs⟩ => (match setPs (explode u (nth u xs i)) j ti.size qs with
          | some es => (match rdAll u es with
            | some y => (match setArr ps off n sz u (xs.set i y) with
              | some ps' => ok (s.upd k (.box ps'))
              | none => none)
            | none => none)
          | none => none)
        | none => none)
      | _ => none)
    | .one (.rel k sz i j) => (match s.hp k with
      | some (.row u xs) => bif Nat.beq u.size sz then
          (match setPs (explode u (nth u xs i)) j ti.size qs with
          | some es => (match rdAll u es with
            | some y => ok (s.upd k (.row u (xs.set i y)))
            | none => none)
          | none => none) else none
      | _ => none)
    | .one (.rea k sz i j n' sz' i' j') => (match s.hp k with
      | some (.row u xs) => bif Nat.beq u.size sz then
          (match arrAt (explode u (nth u xs i)) j n' sz' with
          | some ⟨v, ys⟩ => (match setPs (explode v (nth v ys i')) j' ti.size qs with
            | some es => (match rdAll v es with
              | some y => (match setArr (explode u (nth u xs i)) j n' sz' v (ys.set i' y) with
                | some ps' => (match rdAll u ps' with
                  | some z => ok (s.upd k (.row u (xs.set i z)))
                  | none => none)
                | none => none)
              | none => none)
            | none => none)
          | none => none) else none
      | _ => none)
    | .one (.pea k off n sz i j n' sz' i' j') => (match s.hp k with
      | some (.box ps) => (match arrAt ps off n sz with
        | some ⟨u, xs⟩ => (match arrAt (explode u (nth u xs i)) j n' sz' with
          | some ⟨v, ys⟩ => (match setPs (explode v (nth v ys i')) j' ti.size qs with
            | some es => (match rdAll v es with
              | some y => (match setArr (explode u (nth u xs i)) j n' sz' v (ys.set i' y) with
                | some es2 => (match rdAll u es2 with
                  | some z => (match setArr ps off n sz u (xs.set i z) with
                    | some ps' => ok (s.upd k (.box ps'))
                    | none => none)
                  | none => none)
                | none => none)
              | none => none)
            | none => none)
          | none => none)
        | none => none)
      | _ => none)
    | a => storeR s ti.size qs a)
  | _, _ => none

/-- The data at a cell of data, of n cells. -/
def subD : (t : Ty) → t.D → (off n : Nat) → Option ((u : Ty) × u.D)
  | .pair a b, x, off, n => bif Nat.beq off 0 && Nat.beq n (a.size + b.size) then some ⟨.pair a b, x⟩
      else bif Nat.blt off a.size then subD a x.1 off n else subD b x.2 (off - a.size) n
  | t, x, off, n => bif Nat.beq off 0 && Nat.beq n t.size then some ⟨t, x⟩ else none

def field? (E : Env) (t : TypeId) (i : Nat) : Option (Nat × TI) :=
  match E.info t with
  | some ⟨_, _, .struct fs, _, _⟩ => (match fs[i]? with
    | some (off, ft) => (match E.info ft with
      | some fi => some (off, fi)
      | none => none)
    | none => none)
  | _ => none
def fieldAddrS (E : Env) (s : St) (dst : Option Nat) (t : TypeId) (x : SV) (i : Nat) : Res :=
  match field? E t i with
  | some (fo, fi) => bif Nat.beq fi.size 0 then none else (match x with
    | .one (.ptr k off) => ok (s.put dst (.one (.ptr k (off + fo))))
    | .one (.pel k off n sz ix j) => ok (s.put dst (.one (.pel k off n sz ix (j + fo))))
    | .one (.rel k sz ix j) => ok (s.put dst (.one (.rel k sz ix (j + fo))))
    | .one (.rea k sz ix j n' sz' ix' j') => ok (s.put dst (.one (.rea k sz ix j n' sz' ix' (j' + fo))))
    | .one (.pea k off n sz ix j n' sz' ix' j') => ok (s.put dst (.one (.pea k off n sz ix j n' sz' ix' (j' + fo))))
    | .one (.dpl u y) => (match subD u y fo fi.size with
      | some ⟨v, z⟩ => ok (s.put dst (.one (.dpl v z)))
      | none => none)
    | .one (.opt p a off) => ok (s.put dst (.one (.opt p a (off + fo))))
    | .one (.oel p a off n sz ix j) => ok (s.put dst (.one (.oel p a off n sz ix (j + fo))))
    | .one (.d (.ref p) a) => some (some (0 ≤ (a : Int)), s.put dst (.one (.opt p a fo)))
    | _ => none)
  | none => none
def fieldS (E : Env) (s : St) (dst : Option Nat) (t : TypeId) (x : SV) (i : Nat) : Res :=
  match field? E t i, x.parts with
  | some (fo, fi), some ps => bif !x.isAgg then none else (match cut3 ps fo fi.size with
    | some (_, m, _) => (match mkSV fi.kind.agg m with
      | some v => ok (s.put dst v)
      | none => none)
    | none => none)
  | _, _ => none

def indexAddrS (E : Env) (lit : Bool) (s : St) (dst : Option Nat) (t : TypeId) (x ix : SV) : Res :=
  match E.info t, asInt? ix with
  | some ⟨_, _, .arr n e, _, _⟩, some (_, i) => (match E.info e, x with
    | some ei, .one (.ptr k off) => bif lit then some (some (0 ≤ i ∧ i < (n : Int)), s.put dst (.one (.ptr k (off + i.toNat * ei.size)))) else
        some (some (0 ≤ i ∧ i < (n : Int)), s.put dst (.one (.pel k off n ei.size i.toNat 0)))
    | some ei, .one (.rel k sz ix j) => some (some (0 ≤ i ∧ i < (n : Int)), s.put dst (.one (.rea k sz ix j n ei.size i.toNat 0)))
    | some ei, .one (.opt p a off) => bif lit then some (some (0 ≤ i ∧ i < (n : Int)), s.put dst (.one (.opt p a (off + i.toNat * ei.size)))) else
        some (some (0 ≤ i ∧ i < (n : Int)), s.put dst (.one (.oel p a off n ei.size i.toNat 0)))
    | some ei, .one (.d (.ref p) a) => some (some (0 ≤ (a : Int) ∧ 0 ≤ i ∧ i < (n : Int)), s.put dst (.one (.oel p a 0 n ei.size i.toNat 0)))
    | some ei, .one (.pel k off m sz ix j) => bif lit then some (some (0 ≤ i ∧ i < (n : Int)), s.put dst (.one (.pel k off m sz ix (j + i.toNat * ei.size)))) else
        some (some (0 ≤ i ∧ i < (n : Int)), s.put dst (.one (.pea k off m sz ix j n ei.size i.toNat 0)))
    | _, _ => none)
  | some ⟨_, _, .slice e, _, _⟩, some (_, i) => (match E.info e, x with
    | some ei, .one (.row k) => (match s.hp k with
      | some (.row u xs) => bif Nat.beq u.size ei.size then some (some (0 ≤ i ∧ i < (xs.length : Int)), s.put dst (.one (.rel k ei.size i.toNat 0))) else none
      | _ => none)
    | some ei, .one (.d (.sl u) xs) => bif Nat.beq u.size ei.size then some (some (0 ≤ i ∧ i < (xs.length : Int)), s.put dst (.one (.dpl u (nth u xs i.toNat)))) else none
    | some ei, .one (.sub k _ sz a b) => bif Nat.beq sz ei.size then some (some (0 ≤ i ∧ i < ((b - a : Nat) : Int)), s.put dst (.one (.rel k sz (a + i.toNat) 0))) else none
    | some ei, .one (.bsl k off n sz) => bif Nat.beq sz ei.size then some (some (0 ≤ i ∧ i < (n : Int)), s.put dst (.one (.pel k off n sz i.toNat 0))) else none
    | _, _ => none)
  | _, _ => none
def indexS (E : Env) (s : St) (dst : Option Nat) (t : TypeId) (x ix : SV) : Res :=
  match asStr? x with
  | some l => bif isStrT E t then (match asInt? ix with
    | some (_, i) => some (some (0 ≤ i ∧ i < (l.length : Int)), s.put dst (.one (.d (.int .u8) (nth (.int .u8) l i.toNat))))
    | none => none) else none
  | none => match E.info t, asInt? ix with
  | some ⟨_, _, .arr n e, _, _⟩, some (_, i) => (match E.info e, x.parts with
    | some ei, some [.d (.arr m u) xs] => bif x.isAgg && Nat.beq m n && Nat.beq u.size ei.size then
        (match mkSV ei.kind.agg (explode u (nth u xs i.toNat)) with
         | some v => some (some (0 ≤ i ∧ i < (n : Int)), s.put dst v)
         | none => none) else none
    | _, _ => none)
  | _, _ => none

/-- A slice's data, of a slot. -/
def slD (s : St) : SV → Option ((t : Ty) × List t.D)
  | .one (.d (.sl t) xs) => some ⟨t, xs⟩
  | .one (.row k) => (match s.hp k with
    | some (.row t xs) => some ⟨t, xs⟩
    | _ => none)
  | .one (.sub k _ sz a b) => (match s.hp k with
    | some (.row t xs) => bif Nat.beq t.size sz then some ⟨t, (xs.take b).drop a⟩ else none
    | _ => none)
  | .one (.bsl k off n sz) => (match s.hp k with
    | some (.box ps) => bif Nat.ble n 65536 then arrAt ps off n sz else none
    | _ => none)
  | _ => none
def pget? : List (Int × PV) → Int → Option PV
  | [], _ => none
  | e :: r, k => bif decide (e.1 = k) then some e.2 else pget? r k
def pput : List (Int × PV) → Int → PV → List (Int × PV)
  | [], k, v => [(k, v)]
  | e :: r, k, v => bif decide (e.1 = k) then (k, v) :: r else e :: pput r k v
/-- The kind of a map's keys, and its elements. -/
def mapTy? (E : Env) (t : TypeId) : Option (IntKind × TI) := match E.info t with
  | some ⟨_, _, .scalar (.map kt et), _, _⟩ => (match E.info kt, E.info et with
    | some ⟨_, _, .scalar (.int kk), _, _⟩, some ei => bif ei.kind.agg then none else some (kk, ei)
    | _, _ => none)
  | _ => none
/-- A map, iterated over or not. -/
def mapOf : Option HE → Option (IntKind × ((t : Ty) × List (Int × t.D)))
  | some (.map kk t xs) => some (kk, ⟨t, xs⟩)
  | some (.mapit kk t xs _ _ _) => some (kk, ⟨t, xs⟩)
  | _ => none
def makeMapS (E : Env) (s : St) (k' : Nat) (dst : Option Nat) (t : TypeId) : Res :=
  match mapTy? E t with
  | some (kk, ei) => bif s.us k' then none else (match ei.ty with
    | some u => ok ((s.new k' (.map kk u [])).put dst (.one (.row k')))
    | none => ok ((s.new k' (.pmap kk [])).put dst (.one (.row k'))))
  | none => none
def insertS (E : Env) (s : St) (t : TypeId) (x ix v : SV) : Res :=
  match mapTy? E t, asInt? ix, x with
  | some (kk, _), some (kk', i), .one (.row k) => bif decide (kk = kk') then (match mapOf (s.hp k) with
    | some (kk2, ⟨u, xs⟩) => bif decide (kk2 = kk') && !u.agg then (match v with
      | .one .any => none
      | .one p => bif p.agg then none else (match rdAll u p.parts with
        | some y => ok (s.upd k (.map kk2 u (mput u xs i y)))
        | none => none)
      | _ => none) else none
    | none => (match s.hp k with
    | some (.pmap kk2 es) => bif decide (kk2 = kk') then (match v with
      | .one .any => none
      | .one p => bif p.agg then none else ok (s.upd k (.pmap kk2 (pput es i p)))
      | _ => none) else none
    | _ => none)) else none
  | _, _, _ => none
def tyO (u : Ty) : Option Ty → Bool
  | some u' => decide (u = u')
  | none => false
def lookupS (E : Env) (s : St) (dst : Option Nat) (t : TypeId) (x ix : SV) (two : Bool) : Res :=
  match mapTy? E t, asInt? ix, x with
  | some (kk, ei), some (kk', i), .one (.row k) => bif decide (kk = kk') then (match mapOf (s.hp k) with
    | some (kk2, ⟨u, xs⟩) => bif decide (kk2 = kk') && !u.agg && tyO u ei.ty then
        (bif two then ok (s.put dst (.tup [(false, [.d u (mval u xs i)]), (false, [.d .bool (mhas u xs i)])])) else ok (s.put dst (.one (.d u (mval u xs i))))) else none
    | none => none) else none
  | some (kk, ei), some (kk', i), .one (.d (.mp kk2 u) xs) => bif decide (kk = kk') && (decide (kk2 = kk') && !u.agg && tyO u ei.ty) then
        (bif two then ok (s.put dst (.tup [(false, [.d u (mval u xs i)]), (false, [.d .bool (mhas u xs i)])])) else ok (s.put dst (.one (.d u (mval u xs i))))) else none
  | _, _, _ => none
/-- m[i] of a map whose entries are told one by one: the key, the entries, what it is where the key is none of them. -/
def plook? (E : Env) (s : St) : Op → Option (Int × List (Int × PV) × PV)
  | .lookup t x y false => (match mapTy? E t, asInt? (ev s y), ev s x with
    | some (kk, ei), some (kk', i), .one (.row k) => (match s.hp k with
      | some (.pmap kk2 es) => bif decide (kk = kk') && decide (kk2 = kk') then (match ei.zero with
        | [z] => bif z.agg then none else some (i, es, z)
        | _ => none) else none
      | _ => none)
    | _, _, _ => none)
  | _ => none
def deleteS (E : Env) (s : St) (dst : Option Nat) (t : TypeId) (x ix : SV) : Res :=
  match mapTy? E t, asInt? ix, x with
  | some (kk, _), some (kk', i), .one (.row k) => bif decide (kk = kk') then (match mapOf (s.hp k) with
    | some (kk2, ⟨u, xs⟩) => bif decide (kk2 = kk') then ok ((s.upd k (.map kk2 u (mdel u xs i))).put dst (.tup [])) else none
    | none => none) else none
  | _, _, _ => none
def lenMapS (E : Env) (s : St) (dst : Option Nat) (t : TypeId) (x : SV) : Res :=
  match mapTy? E t, x with
  | some _, .one (.row k) => (match mapOf (s.hp k) with
    | some (_, ⟨_, xs⟩) => some (some (xs.length ≤ 9223372036854775807), s.put dst (.one (.d (.int .i64) (xs.length : Int))))
    | none => none)
  | _, _ => none
def isSliceT (E : Env) (t : TypeId) : Bool := match E.info t with
  | some ⟨_, _, .slice _, _, _⟩ => true
  | _ => false
def lenS (E : Env) (s : St) (dst : Option Nat) (t : TypeId) (x : SV) : Res :=
  match asStr? x with
  | some l => bif isStrT E t then ok (s.put dst (.one (.d (.int .i64) (l.length : Int)))) else none
  | none => bif !(isSliceT E t) then none else match x with
  | .one (.con (.slice none 0 0)) => ok (s.put dst (.one (.d (.int .i64) 0)))
  | _ => (match slD s x with
    | some ⟨_, xs⟩ => ok (s.put dst (.one (.d (.int .i64) (xs.length : Int))))
    | none => none)

def room (n bytes : Nat) : Prop := n ≤ 9223372036854775807 ∧ (n + n / 4 + 192) * bytes ≤ 281474976710656
/-- append(x, y...) -/
def appendS (E : Env) (s : St) (k' : Nat) (dst : Option Nat) (t : TypeId) (x y : SV) : Res :=
  match E.info t with
  | some ⟨_, _, .slice e, _, _⟩ => (match E.info e with
    | some ⟨sz, by_, _, _, some u⟩ =>
      let ys : Option (List u.D) := match y with
        | .one (.con (.slice none 0 0)) => some []
        | _ => (match slD s y with
          | some ⟨u', ys⟩ => castD (.sl u') (.sl u) ys
          | none => none)
      bif !(Nat.beq u.size sz && Nat.blt 0 sz) || s.us k' then none else
      (match ys with
      | none => none
      | some ys => (match x with
        | .one (.con (.slice none 0 0)) => some (some (room ys.length by_), (s.new k' (.row u ys)).put dst (.one (.row k')))
        | .one (.row k) => (match s.hp k with
          | some (.row u' xs) => (match castD (.sl u') (.sl u) xs with
            | some xs => some (some (room (xs.length + ys.length) by_), ((s.drop k).new k' (.row u (xs ++ ys))).put dst (.one (.row k')))
            | none => none)
          | _ => none)
        | _ => none))
    | _ => none)
  | _ => none

def oneParts : List SV → Option (List PV)
  | [] => some []
  | .one .any :: _ => none
  | .one p :: r => bif p.agg then none else (match oneParts r with
    | some ps => some (p :: ps)
    | none => none)
  | _ => none

/-- A struct or an array out of its zero and the parts that are given. -/
def buildPs (place : Nat → Option (Nat × Nat)) : List PV → List (Nat × SV) → Option (List PV)
  | ps, [] => some ps
  | ps, (i, v) :: r => (match place i, v.parts with
    | some (off, n), some qs => (match setPs ps off n qs with
      | some ps' => buildPs place ps' r
      | none => none)
    | _, _ => none)
def fieldPlace? (E : Env) (fs : List (Nat × TypeId)) (i : Nat) : Option (Nat × Nat) :=
  match fs[i]? with
  | some (off, ft) => (match E.info ft with
    | some fi => some (off, fi.size)
    | none => none)
  | none => none
def setNth (u : Ty) : List u.D → List (Nat × SV) → Option (List u.D)
  | xs, [] => some xs
  | xs, (i, v) :: r => (match v.parts with
    | some ps => (match rdAll u ps with
      | some y => bif Nat.blt i xs.length then setNth u (xs.set i y) r else none
      | none => none)
    | none => none)
def buildS (E : Env) (s : St) (dst : Option Nat) (t : TypeId) (parts : List (Nat × SV)) : Res :=
  match E.info t with
  | some ⟨_, _, .struct fs, z, _⟩ => bif !(fs.all (fun f => (E.info f.2).isSome)) then none else (match buildPs (fieldPlace? E fs) z parts with
    | some ps => ok (s.put dst (.agg ps))
    | none => none)
  | some ⟨_, _, .arr _ e, [.d (.arr m u) xs], _⟩ => (match E.info e with
    | some ei => bif !(Nat.beq u.size ei.size) then none else (match setNth u xs parts with
      | some ys => ok (s.put dst (.agg [.d (.arr m u) ys]))
      | none => none)
    | none => none)
  | _ => none
def buildSliceS (E : Env) (s : St) (k' : Nat) (dst : Option Nat) (t : TypeId) (len : Nat) (parts : List (Nat × SV)) : Res :=
  match E.info t with
  | some ⟨_, _, .slice e, _, _⟩ => (match E.info e with
    | some ⟨sz, _, _, _, some u⟩ => bif !(Nat.beq u.size sz && Nat.blt 0 sz && Nat.ble (len * sz) 65536) || s.us k' then none else
        (match setNth u (List.replicate len u.zero) parts with
        | some xs => ok ((s.new k' (.row u xs)).put dst (.one (.row k')))
        | none => none)
    | _ => none)
  | _ => none
/-- A slice of one element, which is a slice of our own: that becomes data for good. -/
def buildSliceC (E : Env) (s : St) (k' : Nat) (dst : Option Nat) (t : TypeId) (len : Nat) (parts : List (Nat × SV)) : Res :=
  match parts with
  | [(i, .one (.row j))] => (match s.hp j with
    | some (.row u xs) => buildSliceS E (s.drop j) k' dst t len [(i, .one (.d (.sl u) xs))]
    | _ => none)
  | _ => none
def makeS (E : Env) (s : St) (k' : Nat) (dst : Option Nat) (t : TypeId) (l c : SV) : Res :=
  match E.info t, asInt? l, asInt? c with
  | some ⟨_, _, .slice e, _, _⟩, some (_, n), some (_, m) => (match E.info e with
    | some ⟨sz, by_, _, _, some u⟩ => bif !(Nat.beq u.size sz && Nat.blt 0 sz) || s.us k' then none else
        some (some ((0 ≤ n ∧ n ≤ m) ∧ (m * (by_ : Int) ≤ 140737488355328 ∧ m ≤ 9223372036854775807)), (s.new k' (.row u (List.replicate n.toNat u.zero))).put dst (.one (.row k')))
    | _ => none)
  | _, _, _ => none

def boundOf (d : Int) : Option SV → Option Int
  | none => some d
  | some v => (match asInt? v with
    | some (_, i) => some i
    | none => none)
/-- Is it a slice type of elements of this shape? -/
def sliceOf (E : Env) (ty : TypeId) (t : Ty) : Bool := match E.info ty with
  | some ⟨_, _, .slice e, _, _⟩ => (match E.info e with
    | some ei => Nat.beq t.size ei.size
    | none => false)
  | _ => false
/-- x[lo:hi] -/
def sliceS (E : Env) (s : St) (k' : Nat) (dst : Option Nat) (ty : TypeId) (x : SV) (lo hi : Option SV) : Res :=
  match asStr? x with
  | some xs => bif isStrT E ty then (match boundOf 0 lo, boundOf xs.length hi with
    | some l, some h => some (some ((0 ≤ l ∧ l ≤ h) ∧ h ≤ (xs.length : Int)), s.put dst (.one (.d .str ((xs.take h.toNat).drop l.toNat))))
    | _, _ => none) else none
  | none => match slD s x with
  | some ⟨t, xs⟩ => bif !(sliceOf E ty t) then none else (match boundOf 0 lo, boundOf xs.length hi with
    | some l, some h => (match x with
      | .one (.row k) => bif s.us k' then none else
          some (some ((0 ≤ l ∧ l ≤ h) ∧ h ≤ (xs.length : Int)), ((s.drop k).new k' (.row t ((xs.take h.toNat).drop l.toNat))).put dst (.one (.row k')))
      | .one (.d _ _) => some (some ((0 ≤ l ∧ l ≤ h) ∧ h ≤ (xs.length : Int)), s.put dst (.one (.d (.sl t) ((xs.take h.toNat).drop l.toNat))))
      | _ => none)
    | _, _ => none)
  | none => none
/-- x[lo:hi] of a slice of our own, as a view of it: it gets a name, and may take the other one's place behind the region. -/
def subS (E : Env) (s : St) (k' : Nat) (dst : Option Nat) (ty : TypeId) (x : SV) (lo hi : Option SV) : Res :=
  match x with
  | .one (.row k) => (match s.hp k with
    | some (.row t xs) => bif !(sliceOf E ty t) || s.us k' then none else (match boundOf 0 lo, boundOf xs.length hi with
      | some l, some h => some (some ((0 ≤ l ∧ l ≤ h) ∧ h ≤ (xs.length : Int)), ({ s with us := uset s.us k' }).put dst (.one (.sub k k' t.size l.toNat h.toNat)))
      | _, _ => none)
    | _ => none)
  | _ => none
/-- x[lo:hi] of a view that begins where its slice begins: it may reach as far as the slice's length. -/
def sub2S (E : Env) (s : St) (k' : Nat) (dst : Option Nat) (ty : TypeId) (x : SV) (lo hi : Option SV) : Res :=
  match x with
  | .one (.sub k _ sz a b) => (match s.hp k with
    | some (.row t xs) => bif !(sliceOf E ty t && Nat.beq t.size sz && Nat.beq a 0) || s.us k' then none else (match boundOf 0 lo, boundOf b hi with
      | some l, some h => some (some ((0 ≤ l ∧ l ≤ h) ∧ h ≤ (xs.length : Int)), ({ s with us := uset s.us k' }).put dst (.one (.sub k k' sz l.toNat h.toNat)))
      | _, _ => none)
    | _ => none)
  | _ => subS E s k' dst ty x lo hi
/-- append to a view that begins where its slice begins, in place. -/
def append2S (E : Env) (s : St) (k' : Nat) (dst : Option Nat) (t : TypeId) (x y : SV) : Res :=
  match x with
  | .one (.sub k _ sz' a b) => (match E.info t with
    | some ⟨_, _, .slice e, _, _⟩ => (match E.info e with
      | some ⟨sz, _, _, _, some u⟩ => (match slD s y, s.hp k with
        | some ⟨u', ys⟩, some (.row u2 xs) => (match castD (.sl u') (.sl u) ys, castD (.sl u2) (.sl u) xs with
          | some ys, some xs => bif !(Nat.beq u.size sz && Nat.beq sz' sz && Nat.beq a 0) || s.us k' then none else
            some (some (b + ys.length ≤ xs.length), ({ s.upd k (.row u (xs.take b ++ (ys ++ xs.drop (b + ys.length)))) with us := uset s.us k' } : St).put dst (.one (.sub k k' sz' 0 (b + ys.length))))
          | _, _ => none)
        | _, _ => none)
      | _ => none)
    | _ => none)
  | _ => appendS E s k' dst t x y
/-- clear of a view -/
def clearS (E : Env) (s : St) (dst : Option Nat) (t : TypeId) (x : SV) : Res :=
  match x with
  | .one (.sub k _ sz' a b) => (match E.info t with
    | some ⟨_, _, .slice e, _, _⟩ => (match E.info e with
      | some ⟨sz, _, _, _, some u⟩ => (match s.hp k with
        | some (.row u2 xs) => (match castD (.sl u2) (.sl u) xs with
          | some xs => bif !(Nat.beq u.size sz && Nat.beq sz' sz) then none else
            ok ((s.upd k (.row u (xs.take a ++ (List.replicate (b - a) u.zero ++ xs.drop (a + (b - a)))))).put dst (.one .any))
          | none => none)
        | _ => none)
      | _ => none)
    | _ => none)
  | _ => none
/-- copy(x, y): into a slice of our own, or a view of one. -/
def copyS (E : Env) (s : St) (dst : Option Nat) (t : TypeId) (x y : SV) : Res :=
  match E.info t with
  | some ⟨_, _, .slice e, _, _⟩ => (match E.info e with
    | some ⟨sz, _, _, _, some u⟩ => (match slD s y with
      | some ⟨u', ys0⟩ => (match castD (.sl u') (.sl u) ys0 with
        | some ys => bif !(Nat.beq u.size sz && Nat.blt 0 sz) then none else (match x with
          | .one (.row k) => (match s.hp k with
            | some (.row u2 xs0) => (match castD (.sl u2) (.sl u) xs0 with
              | some xs => ok ((s.upd k (.row u (xs.take 0 ++ (ys.take (min ys.length xs.length) ++ xs.drop (0 + (ys.take (min ys.length xs.length)).length))))).put dst (.one (.d (.int .i64) (min ys.length xs.length : Nat))))
              | none => none)
            | _ => none)
          | .one (.sub k _ sz' a b) => (match s.hp k with
            | some (.row u2 xs0) => (match castD (.sl u2) (.sl u) xs0 with
              | some xs => bif Nat.beq sz' sz then ok ((s.upd k (.row u (xs.take a ++ (ys.take (min ys.length (b - a)) ++ xs.drop (a + (ys.take (min ys.length (b - a))).length))))).put dst (.one (.d (.int .i64) (min ys.length (b - a) : Nat)))) else none
              | none => none)
            | _ => none)
          | _ => none)
        | none => none)
      | none => none)
    | _ => none)
  | _ => none
/-- x[:] of an array in a box of our own. -/
def bslS (E : Env) (s : St) (dst : Option Nat) (ty : TypeId) (x : SV) (lo hi : Option SV) : Res :=
  match E.info ty, x, lo, hi with
  | some ⟨_, _, .arr n e, _, _⟩, .one (.ptr k off), none, none => (match E.info e with
    | some ei => ok (s.put dst (.one (.bsl k off n ei.size)))
    | none => none)
  | _, _, _, _ => none
def isArrT (E : Env) (t : TypeId) : Bool := match E.info t with
  | some ⟨_, _, .arr _ _, _, _⟩ => true
  | _ => false

/-- x[lo:hi:max], of data -/
def slice3S (E : Env) (s : St) (dst : Option Nat) (ty : TypeId) (x : SV) (lo hi : Option SV) (mx : SV) : Res :=
  match x with
  | .one (.d (.sl t) xs) => bif !(sliceOf E ty t) then none else (match boundOf 0 lo, (match hi with | some v => asInt? v | none => none), asInt? mx with
    | some l, some (_, h), some (_, m) => some (some (((0 ≤ l ∧ l ≤ h) ∧ h ≤ m) ∧ m ≤ (xs.length : Int)), s.put dst (.one (.d (.sl t) ((xs.take h.toNat).drop l.toNat))))
    | _, _, _ => none)
  | _ => none

/-- x[lo:hi:max] of a slice of our own: whether it goes. -/
def slice3R (E : Env) (s : St) (dst : Option Nat) (ty : TypeId) (x : SV) (lo hi : Option SV) (mx : SV) : Res :=
  match x with
  | .one (.row k) => (match s.hp k with
    | some (.row t xs) => bif !(sliceOf E ty t) then none else (match boundOf 0 lo, (match hi with | some v => asInt? v | none => none), asInt? mx with
      | some l, some (_, h), some (_, m) => some (some (((0 ≤ l ∧ l ≤ h) ∧ h ≤ m) ∧ m ≤ (xs.length : Int)), s.put dst (.one .any))
      | _, _, _ => none)
    | _ => none)
  | _ => slice3S E s dst ty x lo hi mx

def isIntT (E : Env) (t : TypeId) : Option IntKind := match E.info t with
  | some ⟨_, _, .scalar (.int k), _, _⟩ => some k
  | _ => none
def isBytesT (E : Env) (t : TypeId) : Bool := match E.info t with
  | some ⟨_, _, .slice e, _, _⟩ => (match isIntT E e with
    | some .u8 => true
    | _ => false)
  | _ => false
/-- T(x) -/
def convertS (E : Env) (wr : Bool) (s : St) (dst : Option Nat) (t u : TypeId) (x : SV) : Res :=
  match asInt? x with
  | some (_, n) => (match isIntT E t, isIntT E u with
    | some _, some k => bif wr then ok (s.put dst (.one (.d (.int k) (k.wrap n)))) else some (some (IR k n), s.put dst (.one (.d (.int k) n)))
    | _, _ => none)
  | none => (match asStr? x with
    | some l => bif isStrT E t then (bif isStrT E u then ok (s.put dst (.one (.d .str l))) else
        bif isBytesT E u then ok (s.put dst (.one (.d (.sl (.int .u8)) l))) else none) else none
    | none => bif isBytesT E t && isStrT E u then (match x with
      | .one (.con (.slice none 0 0)) => ok (s.put dst (.one (.d .str [])))
      | _ => (match slD s x with
        | some ⟨t', xs⟩ => (match castD (.sl t') (.sl (.int .u8)) xs with
          | some l => ok (s.put dst (.one (.d .str l)))
          | none => none)
        | none => none)) else none)

def unS (s : St) (dst : Option Nat) (op : UnOp) (x : SV) : Res :=
  match op, x with
  | .not, .one (.lit b) => ok (s.put dst (.one (.lit (!b))))
  | .not, .one (.d .bool b) => ok (s.put dst (.one (.d .bool (!b))))
  | .neg, .one (.d (.int k) n) => some (some (IR k (-n)), s.put dst (.one (.d (.int k) (-n))))
  | .xor, .one (.d (.int .i64) n) => ok (s.put dst (.one (.d (.int .i64) (-1 - n))))
  | _, _ => none

def minmaxS (s : St) (dst : Option Nat) (mx : Bool) (x y : SV) : Res :=
  match asInt? x, asInt? y with
  | some (k, a), some (k', b) => if k = k' then ok (s.put dst (.one (.d (.int k) (bif mx then max a b else min a b)))) else none
  | _, _ => none

def minmax3S (s : St) (dst : Option Nat) (mx : Bool) (x y z : SV) : Res :=
  match asInt? x, asInt? y, asInt? z with
  | some (k, a), some (k', b), some (k'', c) => if k = k' ∧ k = k'' then ok (s.put dst (.one (.d (.int k) (bif mx then max (max a b) c else min (min a b) c)))) else none
  | _, _, _ => none

def makeFuncS (s : St) (k : Nat) (dst : Option Nat) (fn : Fn) (first caps : List Operand) : Res :=
  match fn, first with
  | .func f, [] => (match oneParts (caps.map (ev s)) with
    | some ps => bif s.us k then none else ok ((s.new k (.clo f ps)).put dst (.one (.clo k)))
    | none => none)
  | _, _ => none
def builtS (E : Env) (s : St) (k : Nat) (dst : Option Nat) (callee : Callee) (args : List Operand) (ts : List TypeId) : Res :=
  match callee with
  | .builtin b => (match b, args, ts with
    | .len, [x], [t] => (match mapTy? E t with
      | some _ => lenMapS E s dst t (ev s x)
      | none => lenS E s dst t (ev s x))
    | .delete, [x, y], [t, _] => deleteS E s dst t (ev s x) (ev s y)
    | .append, [x, y], [t, t'] => bif Nat.beq t t' then append2S E s k dst t (ev s x) (ev s y) else none
    | .clear, [x], [t] => clearS E s dst t (ev s x)
    | .copy, [x, y], [t, _] => copyS E s dst t (ev s x) (ev s y)
    | .max, [x, y], _ => minmaxS s dst true (ev s x) (ev s y)
    | .min, [x, y], _ => minmaxS s dst false (ev s x) (ev s y)
    | .max, [x, y, z], _ => minmax3S s dst true (ev s x) (ev s y) (ev s z)
    | .min, [x, y, z], _ => minmax3S s dst false (ev s x) (ev s y) (ev s z)
    | _, _, _ => none)
  | _ => none

/-- A boolean that is there only where another one is true. -/
def boolC : SV → Option (Option Prop × Bool)
  | .one (.lit v) => some (none, v)
  | .one (.d .bool v) => some (none, v)
  | .cnd b (.lit v) => some (some (b = true), v)
  | .cnd b (.d .bool v) => some (some (b = true), v)
  | _ => none
def impO (b : Bool) : Option Prop → Option Prop → Option Prop
  | none, none => none
  | some p, none => some (b = true → p)
  | none, some q => some (b = false → q)
  | some p, some q => some ((b = true → p) ∧ (b = false → q))
def pickB (b u v : Bool) (x y : SV) : Bool :=
  match y with
  | .one (.lit false) => b && u
  | _ => (match x with
    | .one (.lit true) => b || v
    | _ => bif b then u else v)
def pickS (s : St) (dst : Option Nat) (c x y : SV) : Res :=
  match c with
  | .one (.lit b) => ok (s.put dst (bif b then x else y))
  | .one (.d .bool b) => (match boolC x, boolC y with
    | some (p, u), some (q, v) => some (impO b p q, s.put dst (.one (.d .bool (pickB b u v x y))))
    | _, _ => none)
  | _ => none
def wrO (wr : Nat → Bool) (n : Nat) : Option Nat → Bool
  | some d => wr (n + d)
  | none => false
/-- One operation that is no call of a Go function. 'k': the name of what it makes. -/
def opS (E : Env) (wr : Nat → Bool) (s : St) (k : Nat) (o : Oper) : Res :=
  match o.op with
  | .move x => ok (s.put o.dst (ev s x))
  | .assign x => ok (s.put o.dst (ev s x))
  | .pick c x y => pickS s o.dst (ev s c) (ev s x) (ev s y)
  | .alloc e => (match E.info e with
    | some ti => bif s.us k then none else ok ((s.new k (.box (psParts ti.zero))).put o.dst (.one (.ptr k 0)))
    | none => none)
  | .box _ x => (match (ev s x).parts with
    | some ps => bif s.us k then none else ok ((s.new k (.box ps)).put o.dst (.one (.ptr k 0)))
    | none => none)
  | .build t ps => buildS E s o.dst t (ps.toList.map fun p => (p.1, ev s p.2))
  | .buildSlice t n ps => bif wrO wr 3000000 o.dst then buildSliceC E s k o.dst t n (ps.toList.map fun p => (p.1, ev s p.2)) else buildSliceS E s k o.dst t n (ps.toList.map fun p => (p.1, ev s p.2))
  | .load t x => loadS E s o.dst t (ev s x)
  | .store t x y => (match storeS E s t (ev s x) (ev s y) with
    | some (p, s') => some (p, s'.put o.dst (.one .any))
    | none => none)
  | .nilCheck x => (match ev s x with
    | .one (.ptr a b) => ok (s.put o.dst (.one (.ptr a b)))
    | .one (.pel a b c d e f) => ok (s.put o.dst (.one (.pel a b c d e f)))
    | .one (.rel a b c d) => ok (s.put o.dst (.one (.rel a b c d)))
    | .one (.rea a b c d e f g h) => ok (s.put o.dst (.one (.rea a b c d e f g h)))
    | .one (.pea a b c d e f g h i j) => ok (s.put o.dst (.one (.pea a b c d e f g h i j)))
    | .one (.dpl t y) => ok (s.put o.dst (.one (.dpl t y)))
    | .one (.opt p a off) => ok (s.put o.dst (.one (.opt p a off)))
    | .one (.oel p a off n sz i j) => ok (s.put o.dst (.one (.oel p a off n sz i j)))
    | .one (.d (.ref p) a) => some (some (0 ≤ (a : Int)), s.put o.dst (.one (.opt p a 0)))
    | _ => none)
  | .binOp op t x y _ => (match errNil E op t (ev s x) y with
    | some b => ok (s.put o.dst (.one (.d .bool b)))
    | none => binS E (match o.dst with | some d => wr d | none => false) s o.dst op t (ev s x) (ev s y))
  | .unOp op _ x => unS s o.dst op (ev s x)
  | .convert t u x => convertS E (match o.dst with | some d => wr d | none => false) s o.dst t u (ev s x)
  | .makeFunc fn first caps => makeFuncS s k o.dst fn first.toList caps.toList
  | .makeSlice t l c => makeS E s k o.dst t (ev s l) (ev s c)
  | .makeMap t r => (match r with
    | none => makeMapS E s k o.dst t
    | some _ => none)
  | .insert t x y z => (match insertS E s t (ev s x) (ev s y) (ev s z) with
    | some (p, s') => some (p, s'.put o.dst (.one .any))
    | none => none)
  | .mapUpdate t x y z => (match insertS E s t (ev s x) (ev s y) (ev s z) with
    | some (p, s') => some (p, s'.put o.dst (.one .any))
    | none => none)
  | .lookup t x y two => lookupS E s o.dst t (ev s x) (ev s y) two
  | .slice t x lo hi mx => (match mx with
    | none => bif isArrT E t then bslS E s o.dst t (ev s x) (lo.map (ev s)) (hi.map (ev s)) else
        bif wrO wr 3000000 o.dst then sub2S E s k o.dst t (ev s x) (lo.map (ev s)) (hi.map (ev s)) else
        sliceS E s k o.dst t (ev s x) (lo.map (ev s)) (hi.map (ev s))
    | some m => slice3R E s o.dst t (ev s x) (lo.map (ev s)) (hi.map (ev s)) (ev s m))
  | .fieldAddr t x i => fieldAddrS E s o.dst t (ev s x) i
  | .field t x i => fieldS E s o.dst t (ev s x) i
  | .indexAddr t x i => indexAddrS E (wrO wr 5000000 o.dst) s o.dst t (ev s x) (ev s i)
  | .index t x i => indexS E s o.dst t (ev s x) (ev s i)
  | .extract x i => (match ev s x with
    | .tup es => (match es[i]? with
      | some (true, ps) => ok (s.put o.dst (.agg ps))
      | some (false, [p]) => bif p.agg then none else ok (s.put o.dst (.one p))
      | _ => none)
    | _ => none)
  | .call c => builtS E s k o.dst c.callee c.args.toList c.argTypes.toList
  | _ => none
end Go.Sx
