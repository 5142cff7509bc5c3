/- Part 2 of the proof: lemmas. No condition. -/
import Derived.Laws.BytesString
import Derived.Laws.IdiomStrings
import Derived.Great.FillDense
import Derived.Test.YtipinmfmejccdaaGreatZ1
namespace Go.Proofs.YtipinmfmejccdaaGreat
section
open Go.RowKit
inductive VP where
 | no
 | ei (i j : Nat)
 | cut (lo hi : Nat)
 | ec (i j lo hi : Nat)
 | c3 (hi : Nat)
structure View where
 h : Nat
 t : Ty
 L : List (Ax t)
 pos : VP
structure Cont where
 t : Ty
 L : List (Ax t)
inductive Chunk where
 | box (h g : Nat) (cs : List Cell)
 | row (h g : Nat) (t : Ty) (L : List (Ax t)) (vs : List View)
 | sha (h g : Nat) (t : Ty) (L : List (Ax t))
 | hol (h g : Nat) (t : Ty) (L : List (Ax t)) (i j : Nat)
structure SSt where
 env : List (Nat × Option SV)
 own : List Chunk
 rds : List View
 nxt : Nat
section
variable {R : Type}
def nth {α : Type} : List α -> Nat -> Option α
 | [], _ => none
 | a :: _, 0 => some a
 | _ :: l, k + 1 => nth l k
def Ap : List (Nat × Option SV) -> Nat -> Option SV
 | [], _ => none
 | (k, v) :: r, t => bif Nat.beq k t then v else Ap r t
def SSt.put (st : SSt) (d : Nat) (v : SV) : SSt := { st with env := (d, some v) :: st.env }
def R3 : Value -> Cell
 | .int .u8 n => bif decide (0 <= n) && decide (n <= 255) then .y (UInt8.ofNat n.toNat) else .raw (.int .u8 n)
 | .int k n => .i k n
 | .bool x => .b x
 | .string x => .s x
 | .slice none 0 0 => .nil
 | v => .raw v
def Afk : Value -> Option SV
 | .agg cs => bif cs.toList.all (·.oneCell') then some (.v (.a (cs.toList.map R3))) else none
 | v => bif v.oneCell' then some (.v (.c (R3 v))) else none
def evS (env : List (Nat × Option SV)) : Operand -> Option SV
 | .tmp t => Ap env t
 | .const v => Afk v
 | .func f => some (.v (.c (.fn f [])))
 | .global _ => none
def ev1 (env : List (Nat × Option SV)) (o : Operand) : Option V1 := match evS env o with
 | some (.v x) => some x
 | _ => none
def evC (env : List (Nat × Option SV)) (o : Operand) : Option Cell := match evS env o with
 | some (.v (.c x)) => some x
 | _ => none
def Cell.asInt : Cell -> Option (IntKind × Int)
 | .i k n => some (k, n)
 | .y n => some (.u8, (n.toNat : Int))
 | .ix _ k _ => some (.i64, (k : Int))
 | .sx _ k _ => some (.i64, (k : Int) + 1)
 | .ln _ n => some (.i64, (n : Int))
 | _ => none
def evB (env : List (Nat × Option SV)) (o : Operand) : Option Bool := match evC env o with
 | some (.b x) => some x
 | _ => none
def G7 (h : Nat) : List View -> Option Cont
 | [] => none
 | v :: r => bif Nat.beq v.h h then some ⟨v.t, v.L⟩ else G7 h r
def Cr (h : Nat) : List Chunk -> Option Cont
 | [] => none
 | .box _ _ _ :: r => Cr h r
 | .row k _ t L vs :: r => bif Nat.beq k h then some ⟨t, L⟩ else match G7 h vs with
  | some c => some c
  | none => Cr h r
 | .sha k _ t L :: r => bif Nat.beq k h then some ⟨t, L⟩ else Cr h r
 | .hol _ _ _ _ _ _ :: r => Cr h r
def P5 (h : Nat) : List Chunk -> Option Cont
 | [] => none
 | .hol k _ t L _ _ :: r => bif Nat.beq k h then some ⟨t, L⟩ else P5 h r
 | _ :: r => P5 h r
def SSt.cont (st : SSt) (h : Nat) : Option Cont := match Cr h st.own with
 | some c => some c
 | none => G7 h st.rds
def Nd (h : Nat) : List Chunk -> Option (List Cell)
 | [] => none
 | .box k _ cs :: r => bif Nat.beq k h then some cs else Nd h r
 | _ :: r => Nd h r
def SSt.contI (st : SSt) (h : Nat) : Option Cont := match st.cont h with
 | some c => some c
 | none => P5 h st.own
def Mc (h : Nat) : List View -> VP
 | [] => .no
 | v :: r => bif Nat.beq v.h h then v.pos else Mc h r
def VP.sub : VP -> VP -> VP
 | .ei i j, .cut lo hi => .ec i j lo hi
 | _, _ => .no
def addV (h : Nat) (v : View) : List Chunk -> Option (List Chunk)
 | [] => none
 | .row k g t L vs :: r => bif Nat.beq k h then some (.row k g t L (v :: vs) :: r) else match G7 h vs with
  | some _ => some (.row k g t L ({ v with pos := (Mc h vs).sub v.pos } :: vs) :: r)
  | none => (addV h v r).map fun r => .row k g t L vs :: r
 | .sha k g t L :: r => bif Nat.beq k h then none else (addV h v r).map fun r => .sha k g t L :: r
 | .box k g cs :: r => (addV h v r).map fun r => .box k g cs :: r
 | .hol k g t L i j :: r => (addV h v r).map fun r => .hol k g t L i j :: r
def SSt.see (st : SSt) (h : Nat) (v : View) : SSt := match addV h v st.own with
 | some o => { st with own := o, nxt := st.nxt + 1 }
 | none => { st with rds := { v with pos := .no } :: st.rds, nxt := st.nxt + 1 }
def F6 (h i : Nat) : List Leaf -> Nat -> SSt -> List Cell × SSt
 | [], _, st => ([], st)
 | .i n :: r, j, st => let p := F6 h i r (j + 1) st; (.i .i64 n :: p.1, p.2)
 | .b n :: r, j, st => let p := F6 h i r (j + 1) st; (.b n :: p.1, p.2)
 | .s n :: r, j, st => let p := F6 h i r (j + 1) st; (.s n :: p.1, p.2)
 | .y n :: r, j, st => let p := F6 h i r (j + 1) st; (.y n :: p.1, p.2)
 | .sl t l :: r, j, st => let p := F6 h i r (j + 1) (st.see h ⟨st.nxt, t, l, .ei i j⟩); (.sl st.nxt :: p.1, p.2)
def Ge (h : Nat) : List Chunk -> Option (Cont × List Chunk)
 | [] => none
 | .row k g t L vs :: r => bif Nat.beq k h then some (⟨t, L⟩, r) else (Ge h r).map fun p => (p.1, .row k g t L vs :: p.2)
 | c :: r => (Ge h r).map fun p => (p.1, c :: p.2)
def cutV (h : Nat) : List View -> Option Cont
 | [] => none
 | v :: r => bif Nat.beq v.h h then (match v.pos with
  | .cut _ _ => some ⟨v.t, v.L⟩
  | _ => none) else cutV h r
def Ku (h : Nat) : List Chunk -> Option (Cont × List Chunk)
 | [] => none
 | .row k g t L vs :: r => bif Nat.beq k h then some (⟨t, L⟩, r) else match cutV h vs with
  | some c => some (c, r)
  | none => (Ku h r).map fun p => (p.1, .row k g t L vs :: p.2)
 | c :: r => (Ku h r).map fun p => (p.1, c :: p.2)
def Ql (h : Nat) : List View -> Option ((Nat × Nat) × Cont)
 | [] => none
 | v :: r => bif Nat.beq v.h h then (match v.pos with
  | .ei i j => some ((i, j), ⟨v.t, v.L⟩)
  | .ec i j _ _ => some ((i, j), ⟨v.t, v.L⟩)
  | _ => none) else Ql h r
def Kt (h n : Nat) : List Chunk -> Option (Cont × List Chunk)
 | [] => none
 | .row k g t L vs :: r => match Ql h vs with
  | some p => some (p.2, .hol k n t L p.1.1 p.1.2 :: r)
  | none => (Kt h n r).map fun p => (p.1, .row k g t L vs :: p.2)
 | c :: r => (Kt h n r).map fun p => (p.1, c :: p.2)
def L7 (h : Nat) (st : SSt) : SSt := match Kt h st.nxt st.own with
 | some p => { st with own := .row h (st.nxt + 1) p.1.t p.1.L [] :: p.2, nxt := st.nxt + 2 }
 | none => st
def Ic : List Cell -> SSt -> SSt
 | [], st => st
 | c :: r, st => match c with
  | .sl h => Ic r (L7 h st)
  | _ => Ic r st
structure HolD where
 t : Ty
 L : List (Ax t)
 i : Nat
 j : Nat
def Kg (h : Nat) : List Chunk -> Option (HolD × List Chunk)
 | [] => none
 | .hol k g t L i j :: r => bif Nat.beq k h then some (⟨t, L, i, j⟩, r) else (Kg h r).map fun p => (p.1, .hol k g t L i j :: p.2)
 | c :: r => (Kg h r).map fun p => (p.1, c :: p.2)
def Iy (h : Nat) : List Chunk -> Option (List Cell × List Chunk)
 | [] => none
 | .box k g cs :: r => bif Nat.beq k h then some (cs, r) else (Iy h r).map fun p => (p.1, .box k g cs :: p.2)
 | c :: r => (Iy h r).map fun p => (p.1, c :: p.2)
def Qr : Ty -> Cell -> Option Leaf
 | .b 0, c => match c.asInt with
  | some (.i64, n) => some (.i n)
  | _ => none
 | .b 1, .b x => some (.b x)
 | .b 2, .s x => some (.s x)
 | .b 3, .y x => some (.y x)
 | .sl e, .nil => some (.sl e [])
 | _, _ => none
def Aeq (st : SSt) (e : Ty) (c : Cell) : Option Leaf := match c with
 | .sl h => (st.cont h).map fun c => .sl c.t c.L
 | c => Qr e c
def Hh (st : SSt) : List Ty -> List Cell -> Option (List Leaf)
 | [], [] => some []
 | e :: es, c :: cs => Option.bind (Aeq st e c) fun l => Option.bind (Hh st es cs) fun ls => some (l :: ls)
 | _, _ => none
def S9 (e : Ty) (c : Cell) (own : List Chunk) : Option (Leaf × List Chunk) := match c with
 | .sl h => (Ku h own).map fun p => (.sl p.1.t p.1.L, p.2)
 | c => (Qr e c).map fun l => (l, own)
def E6 : List Ty -> List Cell -> List Chunk -> Option (List Leaf × List Chunk)
 | [], [], own => some ([], own)
 | e :: es, c :: cs, own => Option.bind (S9 e c own) fun p => Option.bind (E6 es cs p.2) fun q => some (p.1 :: q.1, q.2)
 | _, _, _ => none
def Ix : Ty -> Bool
 | .b n => Nat.ble 4 n
 | .sl _ => false
def Ng (t : Ty) : V1 -> Option (List Cell)
 | .c x => bif Ix t then none else some [x]
 | .a l => bif Ix t then some l else none
def Sy (t : Ty) (cs : List Cell) : V1 := bif Ix t then .a cs else match cs with
 | [c] => .c c
 | l => .a l
def Ar (own : Bool) : List Leaf -> SSt -> List Cell × SSt
 | [], st => ([], st)
 | .i n :: r, st => let p := Ar own r st; (.i .i64 n :: p.1, p.2)
 | .b n :: r, st => let p := Ar own r st; (.b n :: p.1, p.2)
 | .s n :: r, st => let p := Ar own r st; (.s n :: p.1, p.2)
 | .y n :: r, st => let p := Ar own r st; (.y n :: p.1, p.2)
 | .sl t l :: r, st => let p := Ar own r (bif own then { st with own := .row st.nxt st.nxt t l [] :: st.own, nxt := st.nxt + 1 } else { st with rds := ⟨st.nxt, t, l, .no⟩ :: st.rds, nxt := st.nxt + 1 }); (.sl st.nxt :: p.1, p.2)
inductive BM where
 | lo
 | ow
 | rd
def BM.isOw : BM -> Bool
 | .ow => true
 | _ => false
inductive PK where
 | val (own : Bool) (t : Ty)
 | box (m : BM) (t : Ty)
 | eat (t : Ty)
 | lit (t : Ty)
 | fn (f : FuncId) (n : Nat)
 | cap (m : BM) (t : Ty)
structure RK where
 own : Bool
 t : Ty
 bx : Bool
def PArgs : List PK -> Type
 | [] => Unit
 | .val _ t :: r => Ax t × PArgs r
 | .box _ t :: r => Ax t × PArgs r
 | .eat t :: r => Ax t × PArgs r
 | .lit t :: r => Ax t × PArgs r
 | .fn _ _ :: r => PArgs r
 | .cap _ t :: r => Ax t × PArgs r
def Jf : List PK -> List Ty
 | [] => []
 | .box .ow t :: r => t :: Jf r
 | .box .rd t :: r => t :: Jf r
 | .cap .ow t :: r => t :: Jf r
 | .cap .rd t :: r => t :: Jf r
 | _ :: r => Jf r
def Tup : List Ty -> Type
 | [] => Unit
 | [a] => Ax a
 | a :: b :: r => Ax a × Tup (b :: r)
abbrev PRes (ps : List PK) (rs : List RK) : Type := Tup (rs.map (·.t) ++ Jf ps)
structure Con where
 f : FuncId
 ps : List PK
 rs : List RK
 x : PArgs ps -> Option (PRes ps rs)
inductive CT where
 | sc (t : Nat)
 | row (t : Ty)
 | ro (t : Ty)
 | sha (t : Ty)
 | nl
inductive VK where
 | slot (s : Nat) (c : CT)
 | inp (s : Nat) (t : Ty)
 | box (s k : Nat) (cs : List CT)
structure Hint where
 key : Nat
 each : Option (Nat × Nat)
 esc : Bool
 vary : List VK
structure Ctx where
 n : Nat
 cons : List Con
 hints : List Hint
 wrap : Bool
 share : Bool
def kq (a b : IntKind) : Bool := decide (a = b)
def Ry (C : Ctx) (op : BinOp) (k1 k2 : IntKind) (i j : Int) (K : Cell -> Option R) : Option R :=
 match op with
 | .lss => bif kq k1 k2 then K (.b (decide (i < j))) else none
 | .leq => bif kq k1 k2 then K (.b (decide (i <= j))) else none
 | .gtr => bif kq k1 k2 then K (.b (decide (j < i))) else none
 | .geq => bif kq k1 k2 then K (.b (decide (j <= i))) else none
 | .eql => bif kq k1 k2 then K (.b (decide (i = j))) else none
 | .neq => bif kq k1 k2 then K (.b (!decide (i = j))) else none
 | .add => bif kq k1 .i64 && kq k2 .i64 then (bif C.wrap then K (.i .i64 (iw (i + j))) else xg (Ac (i + j)) (K (.i .i64 (i + j)))) else none
 | .sub => bif kq k1 .i64 && kq k2 .i64 then xg (Ac (i - j)) (K (.i .i64 (i - j))) else none
 | .mul => bif kq k1 .i64 && kq k2 .i64 then (bif C.wrap then K (.i .i64 (iw (i * j))) else xg (Ac (i * j)) (K (.i .i64 (i * j)))) else none
 | .rem => bif kq k1 .i64 && kq k2 .i64 then xg (0 <= i /\ 0 < j) (K (.i .i64 (i % j))) else none
 | .quo => bif kq k1 .i64 && kq k2 .i64 then xg (0 <= i /\ i <= 9223372036854775807 /\ 0 < j) (K (.i .i64 (i / j))) else none
 | .and => bif kq k1 .i64 && kq k2 .i64 then K (.i .i64 (H4 i j)) else none
 | .xor => bif kq k1 .i64 && kq k2 .i64 then K (.i .i64 (Ru i j)) else none
 | .shr => bif kq k1 .i64 then xg (0 <= j) (K (.i .i64 (Na i j))) else none
 | _ => none
def Au2 (op : BinOp) (a b : Cell) : Option Cell := match op, a, b with
 | .lss, .ix _ _ h, .ln h' _ => bif Nat.beq h h' then some (.b true) else none
 | .add, .ix u k h, .i .i64 1 => some (.sx u k h)
 | _, _, _ => none
def Rx (C : Ctx) (op : BinOp) (tb : Bool) (x y : V1) (K : Cell -> Option R) : Option R :=
 match x, y with
 | .c a, .c b => match Au2 op a b with | some c => K c | none => match a.asInt, b.asInt with
  | some (k1, i), some (k2, j) => Ry C op k1 k2 i j K
  | _, _ => match a, b with
   | .b i, .b j => match op with
    | .eql => bif tb then K (.b (i == j)) else none
    | .neq => bif tb then K (.b (!(i == j))) else none
    | _ => none
   | .s i, .s j => match op with
    | .add => xg (i.size + j.size <= 9223372036854775807) (K (.s (i ++ j)))
    | .eql => K (.b (decide (i = j)))
    | .neq => K (.b (!decide (i = j)))
    | .lss => K (.b (De i j))
    | .geq => K (.b (!De i j))
    | _ => none
   | _, _ => none
 | _, _ => none
def Wc (t k : Nat) : Option (Nat × TI) := match En t with
 | some ti => match ti.k with
  | .struct fs => match nth fs k with
   | some (off, ft) => (En ft).map fun fi => (off, fi)
   | none => none
  | _ => none
 | none => none
def N3 : TK -> Bool
 | .struct _ => true
 | _ => false
def Sw (ti : TI) (cs : List Cell) (o : Nat) : Option V1 := bif N3 ti.k then (let l := (cs.drop o).take ti.size; bif Nat.beq l.length ti.size then some (.a l) else none) else (nth cs o).map .c
def Nj (t : TypeId) : Option (TypeId × TI) := match En t with
 | some ti => match ti.k with
  | .slice e => (En e).map fun ei => (e, ei)
  | _ => none
 | none => none
def Xd (t : TypeId) : Bool := match En t with
 | some ti => match ti.k with
  | .str => true
  | _ => false
 | none => false
def Ac0 (t : TypeId) : Bool := match En t with
 | some ti => match ti.k with
  | .bool => true
  | _ => false
 | none => false
def Ly (st : SSt) (x : Operand) (K : SV -> SSt -> Option R) : Option R := match evS st.env x with
 | some v => K v st
 | none => none
def Xs (st : SSt) (x : Operand) (K : SV -> SSt -> Option R) : Option R := match evC st.env x with
 | some (.ptr h o) => K (.v (.c (.ptr h o))) st
 | some (.ep h k i j) => K (.v (.c (.ep h k i j))) st
 | _ => none
def Xn (st : SSt) (x : Operand) (i : Nat) (K : SV -> SSt -> Option R) : Option R := match evS st.env x with
 | some (.t l) => match nth l i with
  | some v => K (.v v) st
  | none => none
 | _ => none
def Xl (C : Ctx) (st : SSt) (op : BinOp) (t : TypeId) (x y : Operand) (K : SV -> SSt -> Option R) : Option R := match ev1 st.env x, ev1 st.env y with
 | some a, some b => Rx C op (Ac0 t) a b fun c => K (.v (.c c)) st
 | _, _ => none
def Xt (st : SSt) (x : Operand) (K : SV -> SSt -> Option R) : Option R := match evB st.env x with
 | some b => K (.v (.c (.b !b))) st
 | none => none
def Xo (st : SSt) (t : TypeId) (x : Operand) (k : Nat) (K : SV -> SSt -> Option R) : Option R := match evC st.env x, Wc t k with
 | some (.ptr h o), some (off, _) => K (.v (.c (.ptr h (o + off)))) st
 | some (.ep h s i j), some (off, _) => K (.v (.c (.ep h s i (j + off)))) st
 | _, _ => none
def Xp (st : SSt) (t : TypeId) (x : Operand) (k : Nat) (K : SV -> SSt -> Option R) : Option R := match ev1 st.env x, Wc t k with
 | some (.a cs), some (off, fi) => match Sw fi cs off with
  | some v => K (.v v) st
  | none => none
 | _, _ => none
def Xr (st : SSt) (t : TypeId) (x : Operand) (K : SV -> SSt -> Option R) : Option R := match evC st.env x, En t with
 | some (.ptr h o), some ti => match Nd h st.own with
  | some cs => match Sw ti cs o with
   | some v => K (.v v) st
   | none => none
  | none => none
 | some (.ep h k i j), some ti => match st.cont h with
  | some c => bif Nat.beq (sz c.t) k && Nat.ble (j + ti.size) k then
    (let p := F6 h i (((Ay c.t (el c.L i)).drop j).take ti.size) j st
     bif N3 ti.k then K (.v (.a p.1)) p.2 else match p.1 with
     | [x] => K (.v (.c x)) p.2
     | _ => none) else none
  | none => none
 | _, _ => none
def Qb (st : SSt) (t : TypeId) (x y : Operand) (K : SV -> SSt -> Option R) : Option R := match evC st.env x, evC st.env y, Nj t with
 | some (.sl h), some i, some (_, ei) => match st.contI h with
  | some c => bif Nat.beq ei.size (sz c.t) then (match i with
   | .ix _ k h' => bif Nat.beq h h' then K (.v (.c (.ep h (sz c.t) k 0))) st else xg (0 <= (k : Int) /\ (k : Int) < (c.L.length : Int)) (K (.v (.c (.ep h (sz c.t) k 0))) st)
   | .i .i64 n => xg (0 <= n /\ n < (c.L.length : Int)) (K (.v (.c (.ep h (sz c.t) n.toNat 0))) st)
   | _ => none) else none
  | none => none
 | _, _, _ => none
def Xu (st : SSt) (t : TypeId) (x y : Operand) (K : SV -> SSt -> Option R) : Option R := match evC st.env x, evC st.env y with
 | some (.s s), some c => match c.asInt with
  | some (.i64, n) => bif Xd t then xg (0 <= n /\ n < (s.size : Int)) (K (.v (.c (.y (Fs s n.toNat)))) st) else none
  | _ => none
 | _, _ => none
def Xm (st : SSt) (s t : TypeId) (x : Operand) (K : SV -> SSt -> Option R) : Option R := match evC st.env x, En s, En t with
 | some (.y n), some _, some ti => match ti.k with
  | .int .i64 => K (.v (.c (.i .i64 (n.toNat : Int)))) st
  | _ => none
 | _, _, _ => none
def Wb (env : List (Nat × Option SV)) : List Operand -> Option (List (Nat × Nat))
 | [] => some []
 | o :: os => match evC env o with
  | some (.ptr h k) => Option.bind (Wb env os) fun l => some ((h, k) :: l)
  | _ => none
def Xq (st : SSt) (f : FuncId) (caps : List Operand) (K : SV -> SSt -> Option R) : Option R := match Wb st.env caps with
 | some l => K (.v (.c (.fn f l))) st
 | none => none
def Qc (st : SSt) (args : List Operand) (tys : List TypeId) (K : SV -> SSt -> Option R) : Option R := match args, tys with
 | [x], [t] => match evC st.env x with
  | some (.sl h) => match st.cont h, Nj t with
   | some c, some _ => K (.v (.c (.ln h c.L.length))) st
   | _, _ => none
  | some .nil => match Nj t with
   | some _ => K (.v (.c (.i .i64 0))) st
   | none => none
  | some (.s s) => bif Xd t then K (.v (.c (.i .i64 (s.size : Int)))) st else none
  | _ => none
 | _, _ => none
def I4 (env : List (Nat × Option SV)) (o : Operand) : Option Int := match evC env o with
 | some c => match c.asInt with
  | some (.i64, n) => some n
  | _ => none
 | none => none
def Lx (st : SSt) (f : Int -> Int -> Int) (args : List Operand) (K : SV -> SSt -> Option R) : Option R := match args with
 | [x, y] => match I4 st.env x, I4 st.env y with
  | some a, some b => K (.v (.c (.i .i64 (f a b)))) st
  | _, _ => none
 | _ => none
def Adn (st : SSt) (h : Nat) (v : View) : Bool := match Cr h st.own with
 | none => true
 | some _ => match addV h v st.own with
  | some _ => true
  | none => false
def I1 (st : SSt) (h : Nat) (t : Ty) (l : List (Ax t)) (p : VP) (K : SV -> SSt -> Option R) : Option R := bif Adn st h ⟨st.nxt, t, l, p⟩ then K (.v (.c (.sl st.nxt))) (st.see h ⟨st.nxt, t, l, p⟩) else none
def Pp : List View -> Option (Nat × Nat)
 | [] => none
 | v :: r => match v.pos with
  | .c3 hi => some (v.h, hi)
  | _ => Pp r
def K2 (h n lo k : Nat) : List Chunk -> Option ((Nat × Nat) × List Chunk)
 | [] => none
 | .row h' g t L vs :: r => bif Nat.beq h' h then (match Pp vs with
   | some p => bif Nat.beq (sz t) k then some ((p.2, L.length), .row p.1 (n + 1) t ((L.take p.2).drop 0) [] :: .row n (n + 2) t ((L.take L.length).drop lo) [] :: r) else none
   | none => none) else (K2 h n lo k r).map fun p => (p.1, .row h' g t L vs :: p.2)
 | c :: r => (K2 h n lo k r).map fun p => (p.1, c :: p.2)
def Qw (st : SSt) (h lo : Nat) (t : Ty) (l : List (Ax t)) (p : VP) (K : SV -> SSt -> Option R) : Option R := match K2 h st.nxt lo (sz t) st.own with
 | some q => xg (q.1.1 <= lo /\ lo <= q.1.2) (K (.v (.c (.sl st.nxt))) { st with own := q.2, nxt := st.nxt + 3 })
 | none => I1 st h t l p K
def Qd (st : SSt) (t : TypeId) (x : Operand) (lo hi : Option Operand) (K : SV -> SSt -> Option R) : Option R := match evC st.env x, Nj t with
 | some (.sl h), some (_, ei) => match st.cont h with
  | some c => bif Nat.beq ei.size (sz c.t) then (match lo, hi with
   | some lo, some hi => match I4 st.env lo, I4 st.env hi with
    | some i, some j => xg (0 <= i /\ i <= j /\ j <= (c.L.length : Int)) (I1 st h c.t ((c.L.take j.toNat).drop i.toNat) (.cut i.toNat j.toNat) K)
    | _, _ => none
   | none, some hi => match I4 st.env hi with
    | some j => xg (0 <= j /\ j <= (c.L.length : Int)) (I1 st h c.t ((c.L.take j.toNat).drop 0) (.cut 0 j.toNat) K)
    | none => none
   | some lo, none => match I4 st.env lo with
    | some i => xg (0 <= i /\ i <= (c.L.length : Int)) (Qw st h i.toNat c.t ((c.L.take c.L.length).drop i.toNat) (.cut i.toNat c.L.length) K)
    | none => none
   | none, none => none) else none
  | none => none
 | _, _ => none
def Xv (st : SSt) (t : TypeId) (x hi mx : Operand) (K : SV -> SSt -> Option R) : Option R := match evC st.env x, Nj t with
 | some (.sl h), some (_, ei) => match st.cont h, I4 st.env hi, I4 st.env mx with
  | some c, some j, some m => bif Nat.beq ei.size (sz c.t) then xg (0 <= j /\ j = m /\ j <= (c.L.length : Int)) (I1 st h c.t ((c.L.take j.toNat).drop 0) (.c3 j.toNat) K) else none
  | _, _, _ => none
 | _, _ => none
def Jb (C : Ctx) (st : SSt) (op : Op) (K : SV -> SSt -> Option R) : Option R :=
 match op with
 | .move x => Ly st x K
 | .assign x => Ly st x K
 | .nilCheck x => Xs st x K
 | .extract x i => Xn st x i K
 | .binOp op t x y _ => Xl C st op t x y K
 | .unOp .not _ x => Xt st x K
 | .fieldAddr t x k => Xo st t x k K
 | .field t x k => Xp st t x k K
 | .load t x => Xr st t x K
 | .indexAddr t x y => Qb st t x y K
 | .index t x y => Xu st t x y K
 | .convert s t x => Xm st s t x K
 | .makeFunc (.func f) first caps => match first.toList with
  | [] => Xq st f caps.toList K
  | _ => none
 | .call ⟨.builtin .len, args, tys⟩ => Qc st args.toList tys.toList K
 | .call ⟨.builtin .min, args, _⟩ => Lx st min args.toList K
 | .call ⟨.builtin .max, args, _⟩ => Lx st max args.toList K
 | .slice t x lo hi none => Qd st t x lo hi K
 | .slice t x none (some hi) (some mx) => Xv st t x hi mx K
 | _ => none
structure Lent where
 ls : List (List Leaf)
 bx : List (Nat × Nat × BM × List Cell)
def Df (h : Nat) : List Chunk -> Option ((Nat × List Cell) × List Chunk)
 | [] => none
 | .box k g cs :: r => bif Nat.beq k h then some ((g, cs), r) else (Df h r).map fun p => (p.1, .box k g cs :: p.2)
 | c :: r => (Df h r).map fun p => (p.1, c :: p.2)
def T3 (m : BM) (t : Ty) (h : Nat) (own : List Chunk) : Option (List (List Leaf) × (Nat × Nat × BM × List Cell) × List Chunk) :=
 Option.bind (Df h own) fun b => bif m.isOw then Option.bind (E6 (D4 t) b.1.2 b.2) fun p => some ([p.1], (h, b.1.1, m, b.1.2), p.2) else some ([], (h, b.1.1, m, b.1.2), b.2)
def El : List PK -> List V1 -> List (Nat × Nat) -> List Chunk -> Option (Lent × List Chunk)
 | [], vs, cp, own => match vs, cp with
  | [], [] => some (⟨[], []⟩, own)
  | _, _ => none
 | .val o t :: ps, vs, cp, own => match vs with
  | v :: vs => bif o then Option.bind (Ng t v) fun cs => Option.bind (E6 (D4 t) cs own) fun p => Option.bind (El ps vs cp p.2) fun q => some (⟨p.1 :: q.1.ls, q.1.bx⟩, q.2)
    else El ps vs cp own
  | [] => none
 | .box m t :: ps, vs, cp, own => match vs with
  | .c (.ptr h 0) :: vs => Option.bind (T3 m t h own) fun p => Option.bind (El ps vs cp p.2.2) fun q => some (⟨p.1 ++ q.1.ls, p.2.1 :: q.1.bx⟩, q.2)
  | _ => none
 | .eat t :: ps, vs, cp, own => match vs with
  | .c (.ptr h 0) :: vs => Option.bind (Df h own) fun b => Option.bind (E6 (D4 t) b.1.2 b.2) fun p => Option.bind (El ps vs cp p.2) fun q => some (⟨p.1 :: q.1.ls, q.1.bx⟩, q.2)
  | _ => none
 | .lit t :: ps, vs, cp, own => match vs with
  | .c (.lt h) :: vs => Option.bind (Df h own) fun b => Option.bind (E6 (D4 t) b.1.2 b.2) fun p => Option.bind (El ps vs cp p.2) fun q => some (⟨p.1 :: q.1.ls, q.1.bx⟩, q.2)
  | _ => none
 | .fn f n :: ps, vs, cp, own => match vs with
  | .c (.fn g l) :: vs => bif Nat.beq f g && Nat.beq l.length n then El ps vs (cp ++ l) own else none
  | _ => none
 | .cap m t :: ps, vs, cp, own => match cp with
  | (h, 0) :: cp => Option.bind (T3 m t h own) fun p => Option.bind (El ps vs cp p.2.2) fun q => some (⟨p.1 ++ q.1.ls, p.2.1 :: q.1.bx⟩, q.2)
  | _ => none
def Yo (st : SSt) (m : BM) (t : Ty) (ls : List (List Leaf)) (bx : List (Nat × Nat × BM × List Cell)) : Option (Ax t × List (List Leaf) × List (Nat × Nat × BM × List Cell)) := match bx with
 | b :: bx => bif m.isOw then (match ls with
   | l :: ls => Option.bind (mk t l) fun a => some (a, ls, bx)
   | [] => none) else Option.bind (Hh st (D4 t) b.2.2.2) fun l => Option.bind (mk t l) fun a => some (a, ls, bx)
 | [] => none
def Fl (st : SSt) : (ps : List PK) -> List V1 -> List (List Leaf) -> List (Nat × Nat × BM × List Cell) -> Option (PArgs ps)
 | [], _, _, _ => some ()
 | .val o t :: ps, vs, ls, bx => match vs with
  | v :: vs => bif o then (match ls with
    | l :: ls => Option.bind (mk t l) fun a => Option.bind (Fl st ps vs ls bx) fun q => some (a, q)
    | [] => none) else Option.bind (Ng t v) fun cs => Option.bind (Hh st (D4 t) cs) fun l => Option.bind (mk t l) fun a => Option.bind (Fl st ps vs ls bx) fun q => some (a, q)
  | [] => none
 | .box m t :: ps, vs, ls, bx => Option.bind (Yo st m t ls bx) fun z => Option.bind (Fl st ps vs.tail z.2.1 z.2.2) fun q => some (z.1, q)
 | .eat t :: ps, vs, ls, bx => match ls with
  | l :: ls => Option.bind (mk t l) fun a => Option.bind (Fl st ps vs.tail ls bx) fun q => some (a, q)
  | [] => none
 | .lit t :: ps, vs, ls, bx => match ls with
  | l :: ls => Option.bind (mk t l) fun a => Option.bind (Fl st ps vs.tail ls bx) fun q => some (a, q)
  | [] => none
 | .fn _ _ :: ps, vs, ls, bx => Fl st ps vs.tail ls bx
 | .cap m t :: ps, vs, ls, bx => Option.bind (Yo st m t ls bx) fun z => Option.bind (Fl st ps vs z.2.1 z.2.2) fun q => some (z.1, q)
def Gh : (ts : List Ty) -> Tup ts -> List (List Leaf)
 | [], _ => []
 | [a], x => [Ay a x]
 | a :: b :: r, x => Ay a x.1 :: Gh (b :: r) x.2
def Ms : (ts : List Ty) -> List (List Leaf) -> Option (Tup ts)
 | [], [] => some ()
 | [a], [l] => mk a l
 | a :: b :: r, l :: ls => Option.bind (mk a l) fun x => Option.bind (Ms (b :: r) ls) fun y => some (x, y)
 | _, _ => none
def Ed : List RK -> List (List Leaf) -> SSt -> List V1 × List (List Leaf) × SSt
 | k :: ks, l :: ls, st => let p := Ar k.own l st; bif k.bx then (let q := Ed ks ls { p.2 with own := .box p.2.nxt p.2.nxt p.1 :: p.2.own, nxt := p.2.nxt + 1 }; (.c (.ptr p.2.nxt 0) :: q.1, q.2)) else (let q := Ed ks ls p.2; (Sy k.t p.1 :: q.1, q.2))
 | _, ls, st => ([], ls, st)
def Ht : List (Nat × Nat × BM × List Cell) -> List (List Leaf) -> SSt -> SSt
 | (h, _, .ow, _) :: bx, l :: ls, st => let p := Ar true l st; Ht bx ls { p.2 with own := .box h p.2.nxt p.1 :: p.2.own, nxt := p.2.nxt + 1 }
 | (h, _, .rd, _) :: bx, l :: ls, st => let p := Ar false l st; Ht bx ls { p.2 with own := .box h p.2.nxt p.1 :: p.2.own, nxt := p.2.nxt + 1 }
 | (h, g, _, cs) :: bx, ls, st => Ht bx ls { st with own := .box h g cs :: st.own }
 | [], _, st => st
def T2 : List V1 -> SV
 | [v] => .v v
 | l => .t l
def X3 : List PK -> Bool
 | [] => true
 | .box .rd _ :: _ => false
 | .cap .rd _ :: _ => false
 | _ :: r => X3 r
def V1.cells : V1 -> List Cell
 | .c x => [x]
 | .a l => l
def Hi (h : Nat) : List Chunk -> Option (Cont × List Chunk)
 | [] => none
 | .sha k g t L :: r => bif Nat.beq k h then some (⟨t, L⟩, r) else (Hi h r).map fun p => (p.1, .sha k g t L :: p.2)
 | .row k g t L vs :: r => (Hi h r).map fun p => (p.1, .row k g t L vs :: p.2)
 | .box k g cs :: r => (Hi h r).map fun p => (p.1, .box k g cs :: p.2)
 | .hol k g t L i j :: r => (Hi h r).map fun p => (p.1, .hol k g t L i j :: p.2)
def inV (h : Nat) (vs : List View) : Bool := match G7 h vs with
 | some _ => true
 | none => false
def Jh (h : Nat) : List Chunk -> Option ((Nat × Cont × List View) × List Chunk)
 | [] => none
 | .row k g t L vs :: r => bif Nat.beq k h || inV h vs then some ((k, ⟨t, L⟩, vs), r) else (Jh h r).map fun p => (p.1, .row k g t L vs :: p.2)
 | .sha k g t L :: r => (Jh h r).map fun p => (p.1, .sha k g t L :: p.2)
 | .box k g cs :: r => (Jh h r).map fun p => (p.1, .box k g cs :: p.2)
 | .hol k g t L i j :: r => (Jh h r).map fun p => (p.1, .hol k g t L i j :: p.2)
def Zk : List View -> List View
 | [] => []
 | v :: r => { v with pos := .no } :: Zk r
def Ii (h : Nat) (st : SSt) : SSt := match Jh h st.own with
 | some p => { st with own := p.2, rds := ⟨p.1.1, p.1.2.1.t, p.1.2.1.L, .no⟩ :: (Zk p.1.2.2 ++ st.rds) }
 | none => match Hi h st.own with
  | some p => { st with own := p.2, rds := ⟨h, p.1.t, p.1.L, .no⟩ :: st.rds }
  | none => st
def Gf : List Cell -> SSt -> SSt
 | [], st => st
 | c :: r, st => match c with
  | .sl h => Gf r (Ii h st)
  | _ => Gf r st
def Aj5 : V1 -> List Cell
 | .c x => [x]
 | .a l => l
def Mk : List PK -> List V1 -> SSt -> SSt
 | [], _, st => st
 | .cap _ _ :: ps, vs, st => Mk ps vs st
 | .val o _ :: ps, vs, st => match vs with
  | v :: vs => Mk ps vs (bif o then st else Gf (Aj5 v) st)
  | [] => st
 | _ :: ps, vs, st => Mk ps vs.tail st
def Con.shut (c : Con) : Bool := c.rs.all (·.own) && X3 c.ps
def Nf (c : Con) (vs : List V1) (st : SSt) (K : SV -> SSt -> Option R) : Option (Option R) :=
 Option.bind (El c.ps vs [] st.own) fun p => Option.bind (Fl { st with own := bif c.shut then p.2 else [] } c.ps vs p.1.ls p.1.bx) fun a =>
  some (Option.bind (c.x a) fun r => let q := Ed c.rs (Gh _ r) { st with own := p.2 }; K (T2 q.1) (Ht p.1.bx q.2.1 q.2.2))
def Iz (c : Con) (vs : List V1) (st : SSt) (K : SV -> SSt -> Option R) : Option (Option R) := Nf c vs (bif c.shut then st else Mk c.ps vs st) K
def callF (f : FuncId) (vs : List V1) (st : SSt) (K : SV -> SSt -> Option R) : List Con -> Option R
 | [] => none
 | c :: cs => bif Nat.beq c.f f then (match Iz c vs st K with
  | some r => r
  | none => callF f vs st K cs) else callF f vs st K cs
def Pu (env : List (Nat × Option SV)) : List Operand -> Option (List V1)
 | [] => some []
 | o :: os => Option.bind (ev1 env o) fun v => Option.bind (Pu env os) fun vs => some (v :: vs)
def Ee (ps : List PK) : Bool := ps.all fun p => match p with
 | .val false _ => true
 | .fn _ n => Nat.beq n 0
 | _ => false
def As2 : List RK -> Bool
 | [k] => match k.t with
  | .b n => Nat.ble n 3 && !k.bx
  | _ => false
 | _ => false
def Con.pure (c : Con) : Bool := (Ee c.ps && As2 c.rs) && c.shut
def splice {α : Type} (l : List α) (o : Nat) (m : List α) : List α := l.take o ++ m ++ l.drop (o + m.length)
def Qy (i : Nat) : Nat -> List Cell -> List Leaf -> List View
 | j, c :: cs, l :: ls => match c, l with
  | .sl h, .sl t L => ⟨h, t, L, .ei i j⟩ :: Qy i (j + 1) cs ls
  | _, _ => Qy i (j + 1) cs ls
 | _, _, _ => []
def Afg (st : SSt) (h k i j : Nat) (c : Cell) (K : SSt -> Option R) : Option R := match Kg h st.own with
 | some (d, own) => bif (Nat.beq (sz d.t) k && Nat.beq d.j j) && Nat.blt j k then (match nth (D4 d.t) j with
  | some e => match S9 e c own with
   | some (l, own) => match mk d.t (splice (Ay d.t (el d.L i)) j [l]) with
    | some a => xg (d.i = i) (K { st with own := .row h st.nxt d.t (d.L.set i a) [] :: own, nxt := st.nxt + 1 })
    | none => none
   | none => none
  | none => none) else none
 | none => none
def Y7 (st : SSt) (t : TypeId) (a v : Operand) (K : SSt -> Option R) : Option R :=
 match evC st.env a, ev1 st.env v, En t with
 | some (.ptr h o), some v, some ti => match Iy h st.own with
  | some (cs, own) => bif Nat.beq v.cells.length ti.size && Nat.ble (o + ti.size) cs.length then K { st with own := .box h st.nxt (splice cs o v.cells) :: own, nxt := st.nxt + 1 } else none
  | none => none
 | some (.ep h k i j), some v, some ti => match P5 h st.own with
  | some _ => (match v with
   | .c c => bif Nat.beq ti.size 1 then Afg st h k i j c K else none
   | .a _ => none)
  | none => match Ge h st.own with
  | some (c, own) => bif Nat.beq (sz c.t) k && Nat.beq v.cells.length ti.size && Nat.ble (j + ti.size) k then
    (match E6 (((D4 c.t).drop j).take ti.size) v.cells own with
     | some (ls, own) => match mk c.t (splice (Ay c.t (el c.L i)) j ls) with
      | some a => K { st with own := .row h st.nxt c.t (c.L.set i a) (Qy i j v.cells ls) :: own, nxt := st.nxt + 1 }
      | none => none
     | none => none) else none
  | none => none
 | _, _, _ => none
def Afh (st : SSt) (t : TypeId) (a v : Operand) (K : SSt -> Option R) : Option R :=
 match evC st.env a, ev1 st.env v with
 | some (.ep _ _ _ _), some x => Y7 (Ic x.cells st) t a v K
 | _, _ => Y7 st t a v K
def Pz : Ty -> Bool
 | .b n => (lvB n).all fun e => match e with
  | .b _ => true
  | _ => false
 | .sl _ => false
def Ha (t : TypeId) : Option (TypeId × TI × Ty) := match En t with
 | some ti => match ti.k with
  | .slice e => match En e with
   | some ei => match ei.ty with
    | some ty => some (e, ei, ty)
    | none => none
   | none => none
  | _ => none
 | none => none
def Rr (c : Cell) (ty : Ty) (own : List Chunk) : Option (List (Ax ty) × List Chunk) := match c with
 | .nil => some ([], own)
 | .sl h => Option.bind (Ge h own) fun p => Option.bind (Hr p.1.t ty p.1.L) fun l => some (l, p.2)
 | _ => none
def Y0 (c : Cell) (ty : Ty) (own : List Chunk) : Option (List (Ax ty) × List Chunk) := match c with
 | .nil => some ([], own)
 | .sl h => match Hi h own with
  | some p => (Hr p.1.t ty p.1.L).map fun l => (l, p.2)
  | none => Option.bind (Ge h own) fun p => (Hr p.1.t ty p.1.L).map fun l => (l, p.2)
 | _ => none
def Rs (st : SSt) (cx cy : Cell) (ty : Ty) (K : SV -> SSt -> Option R) : Option R := match cy with
 | .sl hy => match Y0 cx ty (Ii hy st).own with
  | some (L, own) => match G7 hy (Ii hy st).rds with
   | some c => match Hr c.t ty c.L with
    | some M => xg (L.length + M.length <= 1099511627776) (K (.v (.c (.sl st.nxt))) { Ii hy st with own := .sha st.nxt st.nxt ty (L ++ M) :: own, nxt := st.nxt + 1 })
    | none => none
   | none => none
  | none => none
 | _ => none
def Abb (st : SSt) (t : TypeId) (x y : Operand) (K : SV -> SSt -> Option R) : Option R :=
 match evC st.env x, evC st.env y, Ha t with
 | some cx, some cy, some (_, ei, ty) => bif Nat.ble ei.bytes 127 && Nat.beq (sz ty) ei.size then
   (bif Pz ty then (match Rr cx ty st.own, cy with
    | some (L, own), .sl h => match st.cont h with
     | some c => match Hr c.t ty c.L with
      | some M => xg (L.length + M.length <= 1099511627776) (K (.v (.c (.sl st.nxt))) { st with own := .row st.nxt st.nxt ty (L ++ M) [] :: own, nxt := st.nxt + 1 })
      | none => none
     | none => none
    | _, _ => none)
   else match Rr cx ty st.own, cy with
    | some (L, own), .sl h => (match Ge h own with
     | some (c, own) => match Hr c.t ty c.L with
      | some M => xg (L.length + M.length <= 1099511627776) (K (.v (.c (.sl st.nxt))) { st with own := .row st.nxt st.nxt ty (L ++ M) [] :: own, nxt := st.nxt + 1 })
      | none => none
     | none => Rs st cx cy ty K)
    | _, _ => Rs st cx cy ty K) else none
 | _, _, _ => none
def Hf (o : Operand) (st : SSt) : SSt := match evC st.env o with
 | some c => Ic [c] st
 | none => st
def Ajo (st : SSt) (t : TypeId) (x y : Operand) (K : SV -> SSt -> Option R) : Option R := Abb (Hf x st) t x y K
def Ati (ty : Ty) (y : Cell) (v : V1) (own : List Chunk) : Option ((List (Ax ty) × List View) × Ax ty × List Chunk) := Option.bind (Rr y ty own) fun p => Option.bind (E6 (D4 ty) v.cells p.2) fun q => Option.bind (mk ty q.1) fun a => some ((p.1, Qy p.1.length 0 v.cells q.1), a, q.2)
def Th (st : SSt) (ty : Ty) (cs : List Cell) : Option (Ax ty) := Option.bind (Hh { st with own := [] } (D4 ty) cs) (mk ty)
def Yh (st : SSt) (v : V1) (y : Cell) (ty : Ty) (K : SV -> SSt -> Option R) : Option R := match Y0 y ty (Gf v.cells st).own, Th (Gf v.cells st) ty v.cells with
 | some (L, own), some a => xg (L.length < 1099511627776) (K (.v (.c (.sl st.nxt))) { Gf v.cells st with own := .sha st.nxt st.nxt ty (L ++ [a]) :: own, nxt := st.nxt + 1 })
 | _, _ => none
def Yg (st : SSt) (t : TypeId) (x y : Operand) (K : SV -> SSt -> Option R) : Option R :=
 match ev1 st.env x, evC st.env y, Ha t with
 | some v, some y, some (_, ei, ty) => bif Nat.ble ei.bytes 127 && Nat.beq (sz ty) ei.size && Nat.ble ei.size 1000 then (match Ati ty y v st.own with
  | some ((L, vs), a, own) => xg (L.length < 1099511627776) (K (.v (.c (.sl st.nxt))) { st with own := .row st.nxt st.nxt ty (L ++ [a]) vs :: own, nxt := st.nxt + 1 })
  | none => Yh st v y ty K) else none
 | _, _, _ => none
def Aec (st : SSt) (t : TypeId) (x y : Operand) (K : SV -> SSt -> Option R) : Option R :=
 match ev1 st.env x, evC st.env y, Ha t with
 | some v, some y, some (_, ei, ty) => bif Nat.ble ei.bytes 127 && Nat.beq (sz ty) ei.size && Nat.ble ei.size 1000 then Yh st v y ty K else none
 | _, _, _ => none
def Aed (sh : Bool) (st : SSt) (t : TypeId) (x y : Operand) (K : SV -> SSt -> Option R) : Option R := bif sh then Aec st t x y K else Yg (Hf y st) t x y K
def Xj (st : SSt) (ty : Ty) : Nat -> List (Nat × Operand) -> List Chunk -> Option (List (Ax ty) × List Chunk)
 | _, [], own => some ([], own)
 | k, (i, x) :: r, own => bif Nat.beq i k then Option.bind (ev1 st.env x) fun v => Option.bind (E6 (D4 ty) v.cells own) fun p => Option.bind (mk ty p.1) fun a => Option.bind (Xj st ty (k + 1) r p.2) fun q => some (a :: q.1, q.2) else none
def Yi (cs : List Cell) : List (Nat × Nat) -> List (Nat × Operand) -> List (Nat × Option SV) -> Option (List Cell)
 | _, [], _ => some cs
 | pl, (i, x) :: r, env => match nth pl i, ev1 env x with
  | some (off, size), some v => bif Nat.beq v.cells.length size && Nat.ble (off + size) cs.length then Yi (splice cs off v.cells) pl r env else none
  | _, _ => none
def places (fs : List (Nat × TypeId)) : Option (List (Nat × Nat)) := match fs with
 | [] => some []
 | (o, t) :: r => match En t, places r with
  | some i, some l => some ((o, i.size) :: l)
  | _, _ => none
def Cell.shut : Cell -> Bool
 | .i _ _ => true
 | .y _ => true
 | .b _ => true
 | .s _ => true
 | .nil => true
 | .raw u => u.oneCell'
 | _ => false
def S7 (st : SSt) (e : TypeId) (K : SV -> SSt -> Option R) : Option R := match En e with
 | some ti => bif !ti.zero.all Cell.shut then none else K (.v (.c (.ptr st.nxt 0))) { st with own := .box st.nxt st.nxt ti.zero :: st.own, nxt := st.nxt + 1 }
 | none => none
def Ado (st : SSt) (x : Operand) (K : SV -> SSt -> Option R) : Option R := match ev1 st.env x with
 | some v => K (.v (.c (.ptr st.nxt 0))) { st with own := .box st.nxt st.nxt v.cells :: st.own, nxt := st.nxt + 1 }
 | none => none
def N6 (st : SSt) (t : TypeId) (ps : List (Nat × Operand)) (K : SV -> SSt -> Option R) : Option R := match En t with
 | some ti => match ti.k with
  | .struct fs => match places fs with
   | some pl => match bif ti.zero.all Cell.shut then Yi ti.zero pl ps st.env else none with
    | some cs => K (.v (.a cs)) st
    | none => none
   | none => none
  | _ => none
 | none => none
def Kz : List (Nat × Operand) -> SSt -> SSt
 | [], st => st
 | p :: r, st => Kz r (match ev1 st.env p.2 with
  | some v => Gf v.cells st
  | none => st)
def Xk (st : SSt) (ty : Ty) : Nat -> List (Nat × Operand) -> Option (List (Ax ty))
 | _, [] => some []
 | k, (i, x) :: r => bif Nat.beq i k then Option.bind (ev1 st.env x) fun v => Option.bind (Th st ty v.cells) fun a => Option.bind (Xk st ty (k + 1) r) fun q => some (a :: q) else none
def Adp (st : SSt) (t : TypeId) (len : Nat) (ps : List (Nat × Operand)) (K : SV -> SSt -> Option R) : Option R := match Ha t with
 | some (_, ei, ty) => match Xj st ty 0 ps st.own with
  | some (l, own) => bif Nat.beq ps.length len && Nat.beq (sz ty) ei.size && Nat.ble (len * ei.size) 1000 then K (.v (.c (.sl st.nxt))) { st with own := .row st.nxt st.nxt ty l [] :: own, nxt := st.nxt + 1 } else none
  | none => match Xk (Kz ps st) ty 0 ps with
   | some l => bif (Nat.beq ps.length len && Nat.blt 0 len) && Nat.beq (sz ty) ei.size && Nat.ble (len * ei.size) 1000 then K (.v (.c (.sl st.nxt))) { Kz ps st with own := .sha st.nxt st.nxt ty l :: (Kz ps st).own, nxt := st.nxt + 1 } else none
   | none => none
 | none => none
def Aa0 : List Ty -> List Cell -> Option (List Leaf)
 | [], [] => some []
 | e :: es, c :: cs => Option.bind (Qr e c) fun l => Option.bind (Aa0 es cs) fun ls => some (l :: ls)
 | _, _ => none
def Adt : Operand -> Operand -> Bool
 | .tmp x, .tmp y => Nat.beq x y
 | _, _ => false
def Adr (st : SSt) (t : TypeId) (x y : Operand) (K : SV -> SSt -> Option R) : Option R := match evC st.env x, Ha t with
 | some c, some (_, ei, ty) => match c.asInt, Option.bind (Aa0 (D4 ty) ei.zero) (mk ty) with
  | some (.i64, n), some z => bif (Nat.ble ei.bytes 255 && (Nat.beq (sz ty) ei.size && ei.zero.all Cell.shut)) && Adt x y then xg (0 <= n /\ n <= 1099511627776) (K (.v (.c (.sl st.nxt))) { st with own := .row st.nxt st.nxt ty (List.replicate n.toNat z) [] :: st.own, nxt := st.nxt + 1 }) else none
  | _, _ => none
 | _, _ => none
def I0 (f : FuncId) : List Con -> List Con
 | [] => []
 | c :: cs => bif Nat.beq c.f f then c :: I0 f cs else I0 f cs
def Abd : List (Nat × Nat) -> List V1
 | [] => []
 | p :: l => .c (.ptr p.1 p.2) :: Abd l
def Adu (C : Ctx) (st : SSt) (op : Op) (K : SV -> SSt -> Option R) : Option R :=
 match op with
 | .alloc e => S7 st e K
 | .box _ x => Ado st x K
 | .build t ps => N6 st t ps.toList K
 | .buildSlice t len ps => Adp st t len ps.toList K
 | .makeSlice t x y => Adr st t x y K
 | .call ⟨.builtin .append, args, tys⟩ => match args.toList, tys.toList with
  | [x, y], [t, t'] => bif Nat.beq t t' then Ajo st t x y K else none
  | _, _ => none
 | .call ⟨.value (.func f), args, _⟩ => match Pu st.env args.toList with
  | some vs => callF f vs st K (I0 f C.cons)
  | none => none
 | .call ⟨.value (.tmp t), args, _⟩ => match evC st.env (.tmp t), Pu st.env args.toList with
  | some (.fn f caps), some vs => callF f (vs ++ Abd caps) st K (I0 f C.cons)
  | _, _ => none
 | op => Jb C st op K
def Nl (C : Ctx) (o : Oper) (st : SSt) (K : SSt -> Option R) : Option R := match o.dst with
 | some d => bif Nat.blt d C.n then Adu C st o.op fun v st => K (st.put d v) else none
 | none => match o.op with
  | .store t a v => Afh st t a v K
  | _ => none
def Tc (f : FuncId) : List Con -> List Con
 | [] => []
 | c :: cs => bif Nat.beq c.f f && c.pure then [c] else Tc f cs
def Ae8 : SV -> Bool
 | .v (.c c) => c.shut
 | _ => false
def I7 (C : Ctx) (o : Oper) (st : SSt) (K : SSt -> Option R) : Option R := match o.dst with
 | some d => bif Nat.blt d C.n then (match o.op with
  | .call ⟨.value (.func f), args, _⟩ => match Pu st.env args.toList with
   | some vs => callF f vs st (fun v _ => bif Ae8 v then K (st.put d v) else none) (Tc f C.cons)
   | none => none
  | .build t ps => N6 st t ps.toList fun v st => K (st.put d v)
  | op => Jb C st op fun v st => K (st.put d v)) else none
 | none => none
def Apu : List (Nat × Bool) -> Nat -> Bool -> Bool
 | [], _, _ => false
 | (j, b) :: r, k, c => (Nat.beq j k && (b == c)) || Apu r k c
def Kb (ops : List Oper) (j : Nat) : Option Nat := match nth ops j with
 | some o => o.dst
 | none => none
def Ol (c : Nat) : List Oper -> Option (List Oper × Oper × Operand × Operand × List Oper)
 | [] => none
 | o :: r => match o.op with
  | .pick (.tmp t) x y => bif Nat.beq t c then some ([], o, x, y, r) else (Ol c r).map fun p => (o :: p.1, p.2)
  | _ => (Ol c r).map fun p => (o :: p.1, p.2)
def Am : List Nat -> Nat -> Bool
 | [], _ => false
 | a :: l, n => Nat.beq a n || Am l n
def On (n : Nat) (ops : List Oper) (j : Nat) (b : Bool) : List Nat -> List Oper -> Bool
 | _, [] => true
 | sk, o :: r => match o.guard, o.dst with
  | some (k, c), some d => ((Nat.beq k j && (c == b)) || (match Kb ops k with
   | some s => Am sk s
   | none => false)) && (Nat.blt d n && On n ops j b (d :: sk) r)
  | _, _ => false
def C2 : List Oper -> List (Nat × Option SV) -> List (Nat × Option SV)
 | [], e => e
 | o :: r, e => match o.dst with
  | some d => C2 r ((d, none) :: e)
  | none => C2 r e
def Qh (ops : List Oper) (kn : List (Nat × Bool)) (env : List (Nat × Option SV)) : Option (Nat × Bool) -> Bool
 | none => true
 | some (j, b) => Apu kn j b && (match Kb ops j with
  | some s => match evB env (.tmp s) with
   | some g => g == b
   | none => false
  | none => false)
def isNone {α : Type} : Option α -> Bool
 | none => true
 | some _ => false
def Bb : List Oper -> List Nat
 | [] => []
 | o :: r => match o.dst with
  | some d => d :: Bb r
  | none => Bb r
def T7 (b : Bool) (run : SSt -> (SSt -> Option Bool) -> Option Bool) (s : Nat) (st : SSt) (te : List (Nat × Option SV)) (x y : Operand) (g : Bool) : Option Bool :=
 bif g then (bif b then run { st with env := (s, some (.v (.c (.b true)))) :: st.env } (fun st => evB st.env x) else evB te x)
 else (bif b then evB te y else run { st with env := (s, some (.v (.c (.b false)))) :: st.env } (fun st => evB st.env y))
def Og (E : (R : Type) -> Oper -> SSt -> (SSt -> Option R) -> Option R) (C : Ctx) (ops : List Oper) : Nat -> List (Nat × Bool) -> List Oper -> SSt -> (R : Type) -> (SSt -> Option R) -> Option R
 | 0, _, _, _, _, _ => none
 | _ + 1, _, [], st, _, K => K st
 | f + 1, kn, o :: rest, st, R, K => bif Qh ops kn st.env o.guard then E R o st fun st => Og E C ops f kn rest st R K else match o.guard with
  | none => none
  | some (j, b) => match Kb ops j with
   | none => none
   | some s => match evB st.env (.tmp s), Ol s (o :: rest) with
    | some g, some (seg, p, x, y, rest) => match p.dst with
     | none => none
     | some d => bif ((On C.n ops j b [] seg && !Am (Bb seg) s) && Nat.blt d C.n) && Qh ops kn (C2 seg st.env) p.guard then
       Option.bind (T7 b (fun st K => Og E C ops f ((j, b) :: kn) seg st Bool K) s st (C2 seg st.env) x y g) fun v =>
        Og E C ops f kn rest { st with env := (d, some (.v (.c (.b v)))) :: C2 seg st.env } R K
      else none
    | _, _ => none
def I8 (t : TypeId) : Bool := match Ha t with
 | some (_, ei, ty) => Pz ty && Nat.beq (sz ty) ei.size
 | none => false
def Hs : List Oper -> List Nat
 | [] => []
 | o :: r => match o.op, o.dst with
  | .buildSlice _ 0 _, some d => d :: Hs r
  | _, _ => Hs r
def Bv (C : Ctx) (E : List Nat) (o : Oper) : Nat := match o.op, o.dst with
 | .call ⟨.value (.func f), _, _⟩, some _ => match Tc f C.cons with
  | [] => bif (I0 f C.cons).all fun c => Ee c.ps then 1 else 2
  | _ => 0
 | .call ⟨.value _, _, _⟩, _ => 2
 | .call ⟨.builtin .append, args, tys⟩, _ => match args.toList with
  | [.const (.slice none 0 0), _] => match tys.toList with
   | [t, _] => bif I8 t then 1 else 2
   | _ => 2
  | [.tmp d, _] => bif Am E d then 1 else 2
  | _ => 2
 | .alloc _, _ => 1
 | .box _ _, _ => 1
 | .buildSlice _ _ _, _ => 1
 | .makeSlice _ _ _, _ => 1
 | .store _ _ _, _ => 2
 | _, _ => 0
def Pv (C : Ctx) (o : Oper) (st : SSt) (K : SSt -> Option R) : Option R := bif Nat.beq (Bv C [] o) 0 then I7 C o st K else bif Nat.beq (Bv C [] o) 1 then Nl C { o with guard := none } st K else none
def Acz : List Oper -> Option (TypeId × Operand × Nat × Nat × List Oper)
 | ⟨some d1, .buildSlice t len ps, _, _, _, none⟩ :: ⟨some d2, .call ⟨.builtin .append, args, tys⟩, _, _, _, none⟩ :: rest =>
  match ps.toList, args.toList, tys.toList with
  | [], [.tmp d, x], [t1, t2] => bif (Nat.beq d d1 && Nat.beq len 0) && (Nat.beq t t1 && Nat.beq t t2) then some (t, x, d1, d2, rest) else none
  | _, _, _ => none
 | _ => none
def Rq (st : SSt) (t : TypeId) (y : Operand) (K : SV -> SSt -> Option R) : Option R :=
 match evC st.env y, Ha t with
 | some (.sl h), some (_, ei, ty) => bif Nat.ble ei.bytes 127 && (Pz ty && Nat.beq (sz ty) ei.size) then (match st.cont h with
  | some c => match Hr c.t ty c.L with
   | some M => xg (0 + M.length <= 1099511627776) (K (.v (.c (.sl st.nxt))) { st with own := .row st.nxt st.nxt ty ([] ++ M) [] :: st.own, nxt := st.nxt + 1 })
   | none => none
  | none => none) else none
 | _, _ => none
def Ac3 : List Oper -> Option (TypeId × Operand × Operand × Nat × Nat × List Oper)
 | ⟨some d1, .buildSlice t len ps, _, _, _, none⟩ :: ⟨some d2, .call ⟨.builtin .append, args, tys⟩, _, _, _, none⟩ :: rest =>
  match ps.toList, args.toList, tys.toList with
  | [(0, x)], [y, .tmp d], [t1, t2] => bif (Nat.beq d d1 && Nat.beq len 1) && (Nat.beq t t1 && Nat.beq t t2) then some (t, x, y, d1, d2, rest) else none
  | _, _, _ => none
 | _ => none
def Lo (K : Bool -> SSt -> Option R) (z : Operand) (st : SSt) : Option R := match evB st.env z with
 | some v => K v st
 | none => none
def Av5 (b : Bool) (run : SSt -> (SSt -> Option R) -> Option R) (s : Nat) (st : SSt) (te : List (Nat × Option SV)) (x y : Operand) (g : Bool) (K : Bool -> SSt -> Option R) : Option R :=
 bif g then (bif b then run { st with env := (s, some (.v (.c (.b true)))) :: st.env } (Lo K x) else Lo K x { st with env := te })
 else (bif b then Lo K y { st with env := te } else run { st with env := (s, some (.v (.c (.b false)))) :: st.env } (Lo K y))
def Tk (C : Ctx) (ops : List Oper) (kn : List (Nat × Bool)) : List Oper -> SSt -> {R : Type} -> (SSt -> Option R) -> Option R
 | [], st, _, K => K st
 | o :: r, st, _, K => bif Qh ops kn st.env o.guard then Nl C { o with guard := none } st fun st => Tk C ops kn r st K else none
def Ar4 : List PK -> Bool
 | [] => false
 | .lit _ :: _ => true
 | _ :: r => Ar4 r
def Ac2 (C : Ctx) : List Oper -> Option (TypeId × Operand)
 | ⟨some d, .buildSlice t len ps, _, _, _, none⟩ :: ⟨_, .call ⟨.value (.func f), args, _⟩, _, _, _, _⟩ :: _ => match ps.toList, args.toList.getLast? with
  | [(0, x)], some (.tmp e) => bif (Nat.beq d e && Nat.beq len 1) && (I0 f C.cons).any fun c => Ar4 c.ps then some (t, x) else none
  | _, _ => none
 | _ => none
def Adq (st : SSt) (t : TypeId) (x : Operand) (K : SV -> SSt -> Option R) : Option R := match ev1 st.env x, Ha t with
 | some v, some (_, ei, ty) => bif Nat.beq v.cells.length ei.size && (Nat.beq (sz ty) ei.size && Nat.ble ei.size 1000) then K (.v (.c (.lt st.nxt))) { st with own := .box st.nxt st.nxt v.cells :: st.own, nxt := st.nxt + 1 } else none
 | _, _ => none
def Ig (C : Ctx) (ops : List Oper) : Nat -> List Oper -> SSt -> {R : Type} -> (SSt -> Option R) -> Option R
 | 0, _, _, _, _ => none
 | _ + 1, [], st, _, K => K st
 | f + 1, o :: rest, st, _, K => match o.guard with
  | none => match Ac3 (o :: rest) with
   | some (t, x, y, d1, d2, rest') => bif Nat.blt d1 C.n && Nat.blt d2 C.n then Aed C.share { st with env := (d1, none) :: st.env } t x y (fun v st => Ig C ops f rest' (st.put d2 v) K) else none
   | none => match Ac2 C (o :: rest), o.dst with
    | some (t, x), some d => bif Nat.blt d C.n then Adq st t x fun v st => Ig C ops f rest (st.put d v) K else none
    | _, _ => Nl C o st fun st => Ig C ops f rest st K
  | some (j, b) => match Kb ops j with
   | none => none
   | some s => match evB st.env (.tmp s), Ol s (o :: rest) with
    | some g, some (seg, p, x, y, rest) => match p.dst with
     | none => none
     | some d => bif ((On C.n ops j b [] seg && !Am (Bb seg) s) && Nat.blt d C.n) && isNone p.guard then
       bif seg.any fun o => Nat.beq (Bv C [] o) 2 then Av5 b (fun st K => Tk C ops [(j, b)] seg st K) s st (C2 seg st.env) x y g fun v st => Ig C ops f rest { st with env := (d, some (.v (.c (.b v)))) :: st.env } K
       else Option.bind (T7 b (fun st K => Og (fun _ o st K => Pv C o st K) C ops (f + 1) [(j, b)] seg st Bool K) s st (C2 seg st.env) x y g) fun v =>
        Ig C ops f rest { st with env := (d, some (.v (.c (.b v)))) :: C2 seg st.env } K
      else none
    | _, _ => none
def Atc (C : Ctx) (E : List Nat) (ops : List Oper) : List Nat -> Option (Nat × Nat)
 | [] => none
 | k :: r => match nth ops k with
  | none => none
  | some o => bif Nat.beq (Bv C E o) 0 then some (k, 0) else match Atc C E ops r with
   | some (j, 0) => some (j, 0)
   | _ => some (k, Bv C E o)
def Kr (C : Ctx) (E : List Nat) (ops : List Oper) : Nat -> Array Bool -> List (Nat × Nat)
 | 0, _ => []
 | f + 1, listed => match Atc C E ops (Region.ready .any ops.toArray listed) with
  | none => []
  | some p => p :: Kr C E ops f (listed.setIfInBounds p.1 true)
def P1 : List (Oper × Nat) -> List Oper
 | [] => []
 | p :: r => p.1 :: P1 r
def Ss (C : Ctx) (E : List Nat) : List (Oper × Nat) -> Bool
 | [] => true
 | p :: r => Nat.beq p.2 (Bv C E p.1) && Ss C E r
def Kv (C : Ctx) (E : List Nat) (ops : List Oper) : Nat -> List Oper -> SSt -> {R : Type} -> (SSt -> Option R) -> Option R
 | 0, _, _, _, _ => none
 | _ + 1, [], st, _, K => K st
 | f + 1, o :: rest, st, _, K => match o.guard with
  | none => match Acz (o :: rest) with
   | some (t, y, d1, d2, rest') => bif (Nat.blt d1 C.n && Nat.blt d2 C.n) && Am E d1 then Rq { st with env := (d1, none) :: st.env } t y (fun v st => Kv C E ops f rest' (st.put d2 v) K) else none
   | none => bif Nat.beq (Bv C E o) 0 then I7 C o st fun st => Kv C E ops f rest st K else bif Nat.beq (Bv C E o) (Bv C [] o) then Nl C o st fun st => Kv C E ops f rest st K else none
  | some (j, b) => match Kb ops j with
   | none => none
   | some s => match evB st.env (.tmp s), Ol s (o :: rest) with
    | some g, some (seg, p, x, y, rest) => match p.dst with
     | none => none
     | some d => bif ((On C.n ops j b [] seg && !Am (Bb seg) s) && Nat.blt d C.n) && (isNone p.guard && seg.all fun o => Nat.ble (Bv C E o) 1 && Nat.beq (Bv C E o) (Bv C [] o)) then
       Option.bind (T7 b (fun st K => Og (fun _ o st K => Pv C o st K) C ops (f + 1) [(j, b)] seg st Bool K) s st (C2 seg st.env) x y g) fun v =>
        Kv C E ops f rest { st with env := (d, some (.v (.c (.b v)))) :: C2 seg st.env } K
      else none
    | _, _ => none
def Ec : Chunk -> Nat
 | .box _ g _ => g
 | .row _ g _ _ _ => g
 | .sha _ g _ _ => g
 | .hol _ g _ _ _ _ => g
def Hj : List Chunk -> List Chunk -> Bool
 | [], _ => true
 | _ :: _, [] => false
 | a :: l, b :: m => bif Nat.beq (Ec a) (Ec b) then Hj l m else Hj (a :: l) m
def L5 : List Nat -> Bool
 | [] => true
 | a :: l => !Am l a && L5 l
def Ke : List Chunk -> List Nat
 | [] => []
 | c :: r => Ec c :: Ke r
def Xx (n : Nat) : List Nat -> Bool
 | [] => true
 | a :: l => Nat.blt a n && Xx n l
def Ev (st : SSt) : Bool := L5 (Ke st.own) && Xx st.nxt (Ke st.own)
inductive PS where
 | lk (k : Nat)
 | qk (k : Nat)
 | op (k : Nat)
 | gh (f : Nat)
 | li (f : Nat)
 | ap (k f : Nat)
inductive PT where
 | nil
 | cons (p : PS) (r : PT)
 | fork (k1 : Nat) (p1 : PT) (k2 : Nat) (p2 : PT)
def Aa7 (d : Nat) : List Oper -> Bool
 | [] => false
 | o :: r => (match o.op with
  | .call ⟨.builtin .append, args, _⟩ => match args.toList with
   | [.tmp e, _] => Nat.beq e d
   | _ => false
  | _ => false) || Aa7 d r
def Aso (e : TypeId) : Bool := match En e with
 | some ti => ti.zero.all Cell.shut
 | none => false
def Adm (t : TypeId) : Bool := match Ha t with
 | some (_, ei, ty) => Nat.beq (sz ty) ei.size
 | none => false
def P0 (ops : List Oper) (o : Oper) : Nat := match o.guard, o.op, o.dst with
 | none, .alloc e, some _ => bif Aso e then 1 else 0
 | none, .buildSlice t len ps, some d => bif (Nat.beq len 0 && Nat.beq ps.toList.length 0) && (Adm t && Aa7 d ops) then 2 else 0
 | _, _, _ => 0
def E5 (ops : List Oper) (k : Nat) : Nat := match nth ops k with
 | some o => P0 ops o
 | none => 0
def Fz (ops : List Oper) : Nat -> List Oper -> List (Nat × Nat)
 | _, [] => []
 | k, o :: r => match o.dst with
  | some d => bif Nat.beq (P0 ops o) 0 then Fz ops (k + 1) r else (k, d) :: Fz ops (k + 1) r
  | none => Fz ops (k + 1) r
def Dq : List (Nat × Nat) -> List Nat
 | [] => []
 | p :: r => p.2 :: Dq r
def Arh (d : Nat) : List (Nat × Nat) -> Option Nat
 | [] => none
 | p :: r => bif Nat.beq p.2 d then some p.1 else Arh d r
def We (p : Nat -> Bool) : List Nat -> Option Nat
 | [] => none
 | a :: l => bif p a then some a else We p l
def N2 (C : Ctx) (k : Nat) (ops : List Oper) : Bool := match nth ops k with
 | some o => (match o.op with
  | .call ⟨.value _, _, _⟩ => false
  | _ => Nat.beq (Bv C [] o) 0) && isNone o.guard
 | none => false
def Bf0 (ops : List Oper) (fl : List (Nat × Nat)) (k : Nat) : PS := match nth ops k with
 | some o => (match o.op with
  | .call ⟨.builtin .append, args, _⟩ => match args.toList with
   | [.tmp d, _] => match Arh d fl with
    | some f => .ap k f
    | none => .op k
   | _ => .op k
  | _ => .op k)
 | none => .op k
def Xi (C : Ctx) (ops : List Oper) (k : Nat) : Nat := match nth ops k with
 | some o => Bv C [] o
 | none => 3
def Bcp (C : Ctx) (ops : List Oper) (k : Nat) : Bool := match nth ops k with
 | some o => isNone o.guard && Nat.beq (Bv C [] o) 0
 | none => false
def okQ (C : Ctx) (ops : List Oper) (listed moved : Array Bool) (k : Nat) : Bool := (List.range ops.length).all fun j => (listed.getD j false || Nat.beq j k) || (!Nat.beq (Xi C ops j) 2 || E3 ops.toArray (moved.setIfInBounds k true) j)
def N9 (C : Ctx) (ops : List Oper) (okL : Nat -> Bool) (fl : List (Nat × Nat)) : Nat -> Array Bool -> Array Bool -> PT
 | 0, _, _ => .nil
 | n + 1, listed, moved => let R := Region.ready .any ops.toArray listed
  match We (fun k => N2 C k ops && okL k) R with
  | some k => .cons (.lk k) (N9 C ops okL fl n (listed.setIfInBounds k true) moved)
  | none => let NF := R.filter fun k => Nat.beq (E5 ops k) 0
   match We (fun k => Bcp C ops k && okQ C ops listed moved k) (match NF with
    | [k] => bif E3 ops.toArray moved k || Nat.beq (Xi C ops k) 1 then [] else NF
    | _ => NF) with
   | some k => .cons (.qk k) (N9 C ops okL fl n (listed.setIfInBounds k true) (moved.setIfInBounds k true))
   | none => match NF with
    | [k1, k2] => .fork k1 (N9 C ops okL fl n (listed.setIfInBounds k1 true) moved) k2 (N9 C ops okL fl n (listed.setIfInBounds k2 true) moved)
    | k :: _ => .cons (Bf0 ops fl k) (N9 C ops okL fl n (listed.setIfInBounds k true) moved)
    | [] => match R with
     | [] => .nil
     | f :: _ => .cons (bif Nat.beq (E5 ops f) 1 then PS.gh f else PS.li f) (N9 C ops okL fl n (listed.setIfInBounds f true) moved)
def S0 (C : Ctx) (ops : List Oper) (moved : Array Bool) (k : Nat) : Bool := E3 ops.toArray moved k || Nat.beq (Xi C ops k) 1
def C3 (C : Ctx) (ops : List Oper) : Nat -> Nat -> Array Bool -> Array Bool -> PT -> Bool
 | 0, _, _, _, _ => false
 | _ + 1, _, listed, _, .nil => (Region.ready .any ops.toArray listed).isEmpty
 | n + 1, m, listed, moved, .fork k1 p1 k2 p2 => match m with
  | 0 => false
  | m + 1 => !(Region.ready .any ops.toArray listed).isEmpty && (Region.ready .any ops.toArray listed).all fun i => bif Nat.beq i k1 then S0 C ops moved k1 && C3 C ops n m (listed.setIfInBounds i true) moved p1 else bif Nat.beq i k2 then S0 C ops moved k2 && C3 C ops n m (listed.setIfInBounds i true) moved p2 else !Nat.beq (E5 ops i) 0 && C3 C ops n m (listed.setIfInBounds i true) moved (.fork k1 p1 k2 p2)
 | n + 1, m, listed, moved, .cons (.lk k) r => match m with
  | 0 => false
  | m + 1 => ((Region.ready .any ops.toArray listed).contains k && Region.free .any ops.toArray listed k) && C3 C ops n m (listed.setIfInBounds k true) moved r
 | n + 1, m, listed, moved, .cons (.qk k) r => match m with
  | 0 => false
  | m + 1 => ((Region.ready .any ops.toArray listed).contains k && Region.free .any ops.toArray listed k) && C3 C ops n m (listed.setIfInBounds k true) (moved.setIfInBounds k true) r
 | n + 1, m, listed, moved, .cons (.gh f) r => bif listed.getD f false then C3 C ops n m listed moved r else match m with
  | 0 => false
  | m + 1 => !(Region.ready .any ops.toArray listed).isEmpty && (Region.ready .any ops.toArray listed).all fun i => !Nat.beq (E5 ops i) 0 && C3 C ops n m (listed.setIfInBounds i true) moved (.cons (.gh f) r)
 | n + 1, m, listed, moved, .cons (.li f) r => bif listed.getD f false then C3 C ops n m listed moved r else match m with
  | 0 => false
  | m + 1 => !(Region.ready .any ops.toArray listed).isEmpty && (Region.ready .any ops.toArray listed).all fun i => !Nat.beq (E5 ops i) 0 && C3 C ops n m (listed.setIfInBounds i true) moved (.cons (.li f) r)
 | n + 1, m, listed, moved, .cons (.op k) r => match m with
  | 0 => false
  | m + 1 => !(Region.ready .any ops.toArray listed).isEmpty && (Region.ready .any ops.toArray listed).all fun i => bif Nat.beq i k then S0 C ops moved k && C3 C ops n m (listed.setIfInBounds i true) moved r else !Nat.beq (E5 ops i) 0 && C3 C ops n m (listed.setIfInBounds i true) moved (.cons (.op k) r)
 | n + 1, m, listed, moved, .cons (.ap k f) r => match m with
  | 0 => false
  | m + 1 => listed.getD f false && (!(Region.ready .any ops.toArray listed).isEmpty && (Region.ready .any ops.toArray listed).all fun i => bif Nat.beq i k then C3 C ops n m (listed.setIfInBounds i true) moved r else !Nat.beq (E5 ops i) 0 && C3 C ops n m (listed.setIfInBounds i true) moved (.cons (.ap k f) r))
def Ep : PT -> List Nat
 | .nil => []
 | .cons (.gh f) r => f :: Ep r
 | .cons (.ap _ f) r => f :: Ep r
 | .cons _ r => Ep r
 | .fork _ p1 _ p2 => Ep p1 ++ Ep p2
def Fq : PT -> Bool
 | .nil => true
 | .cons (.gh f) r => !Am (Ep r) f && Fq r
 | .cons (.ap _ f) r => !Am (Ep r) f && Fq r
 | .cons _ r => Fq r
 | .fork _ p1 _ p2 => Fq p1 && Fq p2
noncomputable def both {A : Type} (a b : Option A) : Option A := open Classical in if a = b then a else none
def Vz : Cell -> Bool
 | .i _ _ => true
 | .y _ => true
 | .b _ => true
 | .s _ => true
 | .sl _ => true
 | .nil => true
 | .ptr _ _ => true
 | .ep _ _ _ _ => true
 | .ln _ _ => true
 | _ => false
def V2 : V1 -> Bool
 | .c c => Vz c
 | .a l => l.all Vz
def V0 : Option SV -> Bool
 | some (.v x) => V2 x
 | some (.t l) => l.all V2
 | none => false
def Abs (C : Ctx) (base : List Chunk) (o : Oper) (st : SSt) (K : SSt -> Option R) : Option R := match o.dst with
 | some d => I7 C o { st with own := base, rds := [] } fun st' => bif Nat.beq st'.nxt st.nxt && V0 (Ap st'.env d) then K { st with env := st'.env } else none
 | none => none
def Ac4 (o : Oper) : Bool := match o.op with
 | .slice _ _ _ _ none => true
 | .indexAddr _ _ _ => true
 | .call ⟨.builtin .len, _, _⟩ => true
 | _ => false
def Abt (C : Ctx) (o : Oper) (st : SSt) (K : SSt -> Option R) : Option R := match o.dst, o.op with
 | some d, .slice t x lo hi none => bif Nat.blt d C.n then Qd st t x lo hi (fun v st => K (st.put d v)) else none
 | some d, .indexAddr t x y => bif Nat.blt d C.n then Qb st t x y (fun v st => K (st.put d v)) else none
 | some d, .call ⟨.builtin .len, args, tys⟩ => bif Nat.blt d C.n then Qc st args.toList tys.toList (fun v st => K (st.put d v)) else none
 | _, _ => none
def Nh (fl : List Nat) (o : Oper) : Bool := match o.dst with
 | some d => Am fl d
 | none => false
def S8 (C : Ctx) (ops : List Oper) (fl : List Nat) (base : List Chunk) (k : Nat) (st : SSt) {R : Type} (K : SSt -> Option R) : Option R := match nth ops k with
 | some o => bif (isNone o.guard && Nat.beq (E5 ops k) 0) && !Nh fl o then Nl C o st fun st => bif Hj base st.own then K st else none else none
 | none => none
noncomputable def Ew (C : Ctx) (ops : List Oper) (fl : List Nat) (base : List Chunk) : PT -> SSt -> {R : Type} -> (SSt -> Option R) -> Option R
 | .nil, st, _, K => K st
 | .fork k1 p1 k2 p2, st, _, K => both (S8 C ops fl base k1 st fun st => Ew C ops fl base p1 st K) (S8 C ops fl base k2 st fun st => Ew C ops fl base p2 st K)
 | .cons (.lk k) r, st, _, K => match nth ops k with
  | some o => bif (N2 C k ops && Nat.beq (E5 ops k) 0) && !Nh fl o then (bif Ac4 o then Abt C o st fun st => bif Hj base st.own then Ew C ops fl base r st K else none else Abs C base o st fun st => Ew C ops fl base r st K) else none
  | none => none
 | .cons (.qk k) r, st, _, K => match nth ops k with
  | some o => bif (isNone o.guard && Nat.beq (E5 ops k) 0) && !Nh fl o then I7 C o st fun st => bif Hj base st.own then Ew C ops fl base r st K else none else none
  | none => none
 | .cons (.op k) r, st, _, K => S8 C ops fl base k st fun st => Ew C ops fl base r st K
 | .cons (.gh f) r, st, _, K => match nth ops f with
  | some ⟨some d, .alloc e, _, _, _, none⟩ => bif Nat.blt d C.n && Am fl d then S7 st e fun v st => bif Hj base st.own then Ew C ops fl base r (st.put d v) K else none else none
  | _ => none
 | .cons (.li _) r, st, _, K => Ew C ops fl base r st K
 | .cons (.ap k f) r, st, _, K => match nth ops k, nth ops f with
  | some ⟨some d2, .call ⟨.builtin .append, args, tys⟩, _, _, _, none⟩, some ⟨some d1, .buildSlice t _ _, _, _, _, none⟩ => match args.toList, tys.toList with
   | [.tmp d, y], [t1, t2] => bif ((Nat.beq d d1 && Am fl d1) && (Nat.beq t t1 && Nat.beq t t2)) && ((Nat.blt d2 C.n && Nat.beq (E5 ops k) 0) && !Am fl d2) then Rq st t y fun v st => bif Hj base st.own then Ew C ops fl base r (st.put d2 v) K else none else none
   | _, _ => none
  | _, _ => none
def Ks (env : List (Nat × Option SV)) (ops : List Oper) : Nat -> Operand -> List Nat
 | 0, _ => []
 | n + 1, .tmp t => match We (fun k => match nth ops k with
   | some o => (match o.dst with
    | some d => Nat.beq d t
    | none => false)
   | none => false) (List.range ops.length) with
  | some k => match nth ops k with
   | some o => (match o.op with
    | .fieldAddr _ x _ => Ks env ops n x
    | .indexAddr _ x _ => Ks env ops n x
    | .move x => Ks env ops n x
    | .nilCheck x => Ks env ops n x
    | _ => [])
   | none => []
  | none => match evC env (.tmp t) with
   | some (.ptr h _) => [h]
   | some (.sl h) => [h]
   | some (.ep h _ _ _) => [h]
   | some (.fn _ l) => l.map (·.1)
   | _ => []
 | _ + 1, _ => []
def Aer (env : List (Nat × Option SV)) (ops : List Oper) : List Oper -> List Nat
 | [] => []
 | o :: r => (match o.op with
  | .store _ a _ => Ks env ops (ops.length + 1) a
  | .call ⟨.value f, args, _⟩ => Ks env ops (ops.length + 1) f ++ args.toList.flatMap (Ks env ops (ops.length + 1))
  | .call ⟨.builtin .append, args, _⟩ => args.toList.flatMap (Ks env ops (ops.length + 1))
  | _ => []) ++ Aer env ops r
def hOf : Chunk -> Nat
 | .box h _ _ => h
 | .row h _ _ _ _ => h
 | .sha h _ _ _ => h
 | .hol h _ _ _ _ _ => h
def Ac1 : Chunk -> Bool
 | .box _ _ _ => true
 | _ => false
def N4 (W : List Nat) : List Chunk -> List Chunk
 | [] => []
 | c :: r => bif Ac1 c && !Am W (hOf c) then c :: N4 W r else N4 W r
def Bbc (env : List (Nat × Option SV)) (ops : List Oper) (base : List Chunk) (k : Nat) : Bool := match nth ops k with
 | some o => (match o.op with
  | .load _ x => let hs := Ks env ops (ops.length + 1) x
   !hs.isEmpty && hs.all fun h => match Nd h base with
    | some _ => true
    | none => false
  | _ => true)
 | none => false
noncomputable def Aes (C : Ctx) (ops : List Oper) (draw : Bool) (st : SSt) (K : SSt -> Option R) : Option R :=
 bif draw then
  let E := Hs ops
  let pl := Kr C E ops ops.length (Array.replicate ops.length false)
  bif Region.noSelect ops.toArray && L8 ops.toArray pl (Array.replicate ops.length false) then (bif (Nat.beq pl.length ops.length && pl.all fun k => Nat.blt k.1 ops.length) && Ss C E (H0 ops pl) then Kv C E ops (ops.length + 1) (P1 (H0 ops pl)) st K else none)
  else
   let fl := Fz ops 0 ops
   let base := N4 (Aer st.env ops ops) st.own
   let pm := N9 C ops (Bbc st.env ops base) fl ops.length (Array.replicate ops.length false) (Array.replicate ops.length false)
   bif ((Region.noSelect ops.toArray && Ev st) && (((L5 (Dq fl) && Fq pm) && ((Dq fl).all (fun d => Nat.blt d C.n) && (Ep pm).all fun f => !Nat.beq (E5 ops f) 0)) && C3 C ops (3 * ops.length) ops.length (Array.replicate ops.length false) (Array.replicate ops.length false) pm)) && Hj base st.own then Ew C ops (Dq fl) base pm { st with env := (Dq fl).map (fun d => (d, none)) ++ st.env } K else none
 else Ig C ops (ops.length + 1) ops st K
end
end
section
open Go.RowKit
section
variable {R : Type}
def CT.ty : CT -> Ty
 | .sc n => .b n
 | .row t => .sl t
 | .ro t => .sl t
 | .sha t => .sl t
 | .nl => .b 0
def CT.isNl : CT -> Bool
 | .nl => true
 | _ => false
def Jk : List CT -> List Ty
 | [] => []
 | c :: cs => bif c.isNl then Jk cs else c.ty :: Jk cs
def VK.tys : VK -> List Ty
 | .slot _ c => [c.ty]
 | .inp _ t => [.sl t]
 | .box _ _ cs => Jk cs
def O0 : List VK -> List Ty
 | [] => []
 | v :: r => v.tys ++ O0 r
def Nm (c : CT) (x : Cell) (st : SSt) : Option (Leaf × SSt) := match c with
 | .sc n => (Qr (.b n) x).map fun l => (l, st)
 | .row t => (S9 (.sl t) x st.own).map fun p => (p.1, { st with own := p.2 })
 | .ro t => match x with
  | .nil => some (.sl t [], st)
  | .sl h => match Ge h st.own with
   | some p => some (.sl p.1.t p.1.L, { st with own := p.2 })
   | none => match Hi h st.own with
    | some p => some (.sl p.1.t p.1.L, { st with own := p.2 })
    | none => (G7 h st.rds).map fun c => (.sl c.t c.L, st)
  | _ => none
 | .sha t => match x with
  | .nil => some (.sl t [], st)
  | .sl h => match Hi h st.own with
   | some p => some (.sl p.1.t p.1.L, { st with own := p.2 })
   | none => (Ge h st.own).map fun p => (.sl p.1.t p.1.L, { st with own := p.2 })
  | _ => none
 | .nl => none
def Sd : List CT -> List Cell -> SSt -> Option (List Leaf × SSt)
 | [], [], st => some ([], st)
 | c :: cs, x :: xs, st => bif c.isNl then (match x with
   | .nil => Sd cs xs st
   | _ => none) else Option.bind (Nm c x st) fun p => Option.bind (Sd cs xs p.2) fun q => some (p.1 :: q.1, q.2)
 | _, _, _ => none
def Su (e : List (Nat × Option SV)) (s k : Nat) : Option Nat := match Ap e s with
 | some (.v (.c (.ptr h o))) => bif Nat.beq k 0 && Nat.beq o 0 then some h else none
 | some (.v (.c (.fn _ caps))) => match k with
  | 0 => none
  | k + 1 => match nth caps k with
   | some (h, o) => bif Nat.beq o 0 then some h else none
   | none => none
 | _ => none
def Fy (e : List (Nat × Option SV)) : List VK -> SSt -> Option (List Leaf × SSt)
 | [], st => some ([], st)
 | .slot s c :: r, st => match Ap st.env s with
  | some (.v (.c x)) => Option.bind (Nm c x st) fun p => Option.bind (Fy e r p.2) fun q => some (p.1 :: q.1, q.2)
  | _ => none
 | .inp s _ :: r, st => match Ap e s with
  | some (.v (.c (.sl h))) => Option.bind (Ge h st.own) fun p => Option.bind (Fy e r { st with own := p.2 }) fun q => some (.sl p.1.t p.1.L :: q.1, q.2)
  | _ => none
 | .box s k cs :: r, st => match Su e s k with
  | some h => Option.bind (Iy h st.own) fun p => Option.bind (Sd cs p.1 { st with own := p.2 }) fun q => Option.bind (Fy e r q.2) fun z => some (q.1 ++ z.1, z.2)
  | none => none
def Cm (c : CT) (l : Leaf) (st : SSt) : Cell × SSt := match l with
 | .i n => (.i .i64 n, st)
 | .b n => (.b n, st)
 | .s n => (.s n, st)
 | .y n => (.y n, st)
 | .sl t L => match c with
  | .ro _ => (.sl st.nxt, { st with rds := ⟨st.nxt, t, L, .no⟩ :: st.rds, nxt := st.nxt + 1 })
  | .sha _ => (.sl st.nxt, { st with own := .sha st.nxt st.nxt t L :: st.own, nxt := st.nxt + 1 })
  | _ => (.sl st.nxt, { st with own := .row st.nxt st.nxt t L [] :: st.own, nxt := st.nxt + 1 })
def Da : List CT -> List Leaf -> SSt -> List Cell × SSt
 | [], _, st => ([], st)
 | c :: cs, ls, st => bif c.isNl then (let q := Da cs ls st; (.nil :: q.1, q.2)) else (match ls with
   | l :: ls => let p := Cm c l st; let q := Da cs ls p.2; (p.1 :: q.1, q.2)
   | [] => ([], st))
def E4 (e : List (Nat × Option SV)) : List VK -> List Leaf -> SSt -> SSt
 | .slot s c :: r, l :: ls, st => let p := Cm c l st; E4 e r ls (p.2.put s (.v (.c p.1)))
 | .inp s _ :: r, l :: ls, st => match Ap e s, l with
  | some (.v (.c (.sl h))), .sl t L => E4 e r ls { st with own := .row h st.nxt t L [] :: st.own, nxt := st.nxt + 1 }
  | _, _ => st
 | .box s k cs :: r, ls, st => match Su e s k with
  | some h => let p := Da cs (ls.take (Jk cs).length) st; E4 e r (ls.drop (Jk cs).length) { p.2 with own := .box h p.2.nxt p.1 :: p.2.own, nxt := p.2.nxt + 1 }
  | _ => st
 | _, _, st => st
def Om : List Leaf -> List (List Leaf)
 | [] => []
 | l :: r => [l] :: Om r
def Jl : List (List Leaf) -> List Leaf
 | [] => []
 | l :: r => l ++ Jl r
abbrev VT (v : List VK) : Type := Tup (O0 v)
def Dg (v : List VK) (x : VT v) (st : SSt) : SSt := E4 st.env v (Jl (Gh (O0 v) x)) st
def A6 : List VK -> List Nat
 | [] => []
 | .slot s _ :: r => s :: A6 r
 | _ :: r => A6 r
def Tz (e : List (Nat × Option SV)) : List (Nat × Option SV) -> Bool
 | [] => true
 | (k, some _) :: r => (match Ap e k with
  | some _ => true
  | none => false) && Tz e r
 | _ :: r => Tz e r
def Jj (w : List Nat) : List Nat -> Bool
 | [] => true
 | a :: l => Am w a && Jj w l
def Dh (v : List VK) (base : SSt) (st : SSt) : Option (VT v) := Option.bind (Fy base.env v st) fun p => bif Hj base.own p.2.own && Tz st.env base.env then Ms (O0 v) (Om p.1) else none
def wr : Code -> List Nat
 | .region _ ops _ => Bb ops.toList
 | .seq a c => wr a ++ wr c
 | .cond _ a c => wr a ++ wr c
 | .block _ c => wr c
 | .loop c => wr c
 | _ => []
def Bg (w : List Nat) : List (Nat × Option SV) -> List (Nat × Option SV)
 | [] => []
 | (k, v) :: r => bif Am w k then Bg w r else (k, v) :: Bg w r
def Acm (k : Nat) : List Hint -> Option Hint
 | [] => none
 | h :: r => bif Nat.beq h.key k then some h else Acm k r
def Si : Code -> Option (Nat × Nat × Nat × Nat)
 | .seq (.region _ ops false) (.seq (.cond (.tmp c) .skip (.exit e)) _) => match ops.toList with
  | [⟨some d, .binOp .lss _ (.tmp k) (.tmp n) _, _, _, _, none⟩] => bif Nat.beq c d then some (k, n, e, d) else none
  | _ => none
 | _ => none
def Lm : Code -> Option Nat
 | .region id _ _ => some id
 | .seq a c => match Lm a with
  | some k => some k
  | none => Lm c
 | .cond _ a c => match Lm a with
  | some k => some k
  | none => Lm c
 | .block _ c => Lm c
 | .loop c => Lm c
 | _ => none
def A98 (a c : Code) : Nat := match Lm a with
 | some k => 100000 + k
 | none => match Lm c with
  | some k => 100000 + k
  | none => 100000
def Nk (ks k h : Nat) (st : SSt) : SSt := { st with env := (ks, some (.v (.c (.ix st.nxt k h)))) :: st.env, nxt := st.nxt + 1 }
def So (u : Nat) : Option Cell -> Bool
 | some (.sx v _ _) => Nat.beq u v
 | _ => false
def Pq {A : Type} (f : SSt -> Option A) : Option Nat -> SSt -> Option A
 | none, st => f st
 | some _, _ => none
def J8 {A : Type} (b : Nat) (go out : SSt -> Option A) : Option Nat -> SSt -> Option A
 | none, st => go st
 | some j, st => bif Nat.beq j b then out st else none
def Akb (i : Nat) (K : Option Nat -> SSt -> Option R) : Option Nat -> SSt -> Option R
 | none, st => K none st
 | some j, st => bif Nat.beq j i then K none st else K (some j) st
def A0n (f : SSt -> Option R) (K : Option Nat -> SSt -> Option R) : Option Nat -> SSt -> Option R
 | none, st => f st
 | some i, st => K (some i) st
noncomputable def run (C : Ctx) {R0 : Type} (Bd : SSt -> Option R0) : Code -> Nat -> SSt -> {R : Type} -> (R0 -> Option R) -> (Option Nat -> SSt -> Option R) -> Option R
 | .skip, _, st, _, _, K => K none st
 | .region _ ops draw, _, st, _, _, K => Aes C ops.toList draw st (K none)
 | .seq a c, b, st, _, rt, K => run C Bd a b st rt (A0n (fun st => run C Bd c b st rt K) K)
 | .cond o a c, b, st, _R, rt, K => match evB st.env o with
  | none => none
  | some t => match Acm (A98 a c) C.hints with
   | none => bif t then run C Bd a b st rt K else run C Bd c b st rt K
   | some h => let e0 := Bg (A6 h.vary ++ (wr a ++ wr c)) st.env
    match Fy e0 h.vary st with
    | none => none
    | some p =>
     let base : SSt := { p.2 with env := e0 }
     bif !(Ev st && Jj (wr a ++ wr c) (A6 h.vary)) then none else bif h.esc then
      Option.bind (bif t then run C Bd a b st (R := Sum (VT h.vary) R0) (fun r => some (.inr r)) (Pq fun st => (Dh h.vary base st).map .inl)
       else run C Bd c b st (R := Sum (VT h.vary) R0) (fun r => some (.inr r)) (Pq fun st => (Dh h.vary base st).map .inl)) fun y => Sum.elim (fun y => K none (Dg h.vary y base)) rt y
     else
      Option.bind (bif t then run C Bd a b st (R := VT h.vary) (fun _ => none) (Pq fun st => Dh h.vary base st)
       else run C Bd c b st (R := VT h.vary) (fun _ => none) (Pq fun st => Dh h.vary base st)) fun y => K none (Dg h.vary y base)
 | .block i c, _, st, _, rt, K => run C Bd c i st rt (Akb i K)
 | .loop c, b, st, _R, rt, K => match Acm b C.hints with
  | none => none
  | some h => let e0 := Bg (A6 h.vary ++ wr c) st.env
   match Fy e0 h.vary st with
   | none => none
   | some p =>
    let base : SSt := { p.2 with env := e0 }
    bif !Jj (wr c) (A6 h.vary) then none else match Ms (O0 h.vary) (Om p.1) with
    | none => none
    | some x0 => match h.each with
     | some (ks, ns) => match Si c, evC base.env (.tmp ns), evC st.env (.tmp ks) with
      | some (k', n', e, d), some (.ln hh n), some (.i .i64 0) => bif (Nat.beq ks k' && Nat.beq ns n') && (Nat.beq e b && (Nat.blt d C.n && !Am (A6 h.vary) d)) && (Am (wr c) d && Am (wr c) ks) then
        (bif h.esc then
         Option.bind (Aq (fun k (x : VT h.vary) => let s := Dg h.vary x base
          bif !Ev s then none else run C Bd c b (Nk ks k hh s) (R := Lr (VT h.vary) (Sum (VT h.vary) R0)) (fun r => some (.out (.inr r))) (J8 b (fun st => bif So s.nxt (evC st.env (.tmp ks)) then (Dh h.vary base st).map .go else none) (fun st => (Dh h.vary base st).map fun y => .out (.inl y))))
          (fun x => (.inl x : Sum (VT h.vary) R0)) n 0 x0) fun y => Sum.elim (fun y => K (some b) (Dg h.vary y base)) rt y
        else
         Option.bind (Aq (fun k (x : VT h.vary) => let s := Dg h.vary x base
          bif !Ev s then none else run C Bd c b (Nk ks k hh s) (R := Lr (VT h.vary) (VT h.vary)) (fun _ => none) (J8 b (fun st => bif So s.nxt (evC st.env (.tmp ks)) then (Dh h.vary base st).map .go else none) (fun st => (Dh h.vary base st).map .out)))
          (fun x => x) n 0 x0) fun y => K (some b) (Dg h.vary y base))
        else none
      | _, _, _ => none
     | none => bif h.esc then
       Option.bind (Bj (fun (x : VT h.vary) => bif !Ev (Dg h.vary x base) then none else run C Bd c b (Dg h.vary x base) (R := Lr (VT h.vary) (Sum (VT h.vary) R0)) (fun r => some (.out (.inr r))) (J8 b (fun st => (Dh h.vary base st).map .go) (fun st => (Dh h.vary base st).map fun y => .out (.inl y)))) x0)
        fun y => Sum.elim (fun y => K (some b) (Dg h.vary y base)) rt y
      else
       Option.bind (Bj (fun (x : VT h.vary) => bif !Ev (Dg h.vary x base) then none else run C Bd c b (Dg h.vary x base) (R := Lr (VT h.vary) (VT h.vary)) (fun _ => none) (J8 b (fun st => (Dh h.vary base st).map .go) (fun st => (Dh h.vary base st).map .out))) x0)
        fun y => K (some b) (Dg h.vary y base)
 | .exit i, _, st, _, _, K => K (some i) st
 | .ret, _, st, _, rt, _ => Option.bind (Bd st) rt
 | _, _, _, _, _, _ => none
structure Ini where
 vs : List V1
 caps : List (Nat × Nat)
 bx : List (Nat × Nat × BM × Ty)
 st : SSt
def Fg : (ps : List PK) -> PArgs ps -> SSt -> Ini
 | [], _, st => ⟨[], [], [], st⟩
 | .val own t :: r, a, st => let p := Ar own (Ay t a.1) st; let z := Fg r a.2 p.2; ⟨Sy t p.1 :: z.vs, z.caps, z.bx, z.st⟩
 | .box m t :: r, a, st => let p := Ar m.isOw (Ay t a.1) st; let h := p.2.nxt; let z := Fg r a.2 { p.2 with own := .box h h p.1 :: p.2.own, nxt := h + 1 }; ⟨.c (.ptr h 0) :: z.vs, z.caps, (h, h, m, t) :: z.bx, z.st⟩
 | .eat t :: r, a, st => let p := Ar true (Ay t a.1) st; let h := p.2.nxt; let z := Fg r a.2 { p.2 with own := .box h h p.1 :: p.2.own, nxt := h + 1 }; ⟨.c (.ptr h 0) :: z.vs, z.caps, z.bx, z.st⟩
 | .lit t :: r, a, st => let p := Ar true (Ay t a.1) st; let h := p.2.nxt; let z := Fg r a.2 { p.2 with own := .box h h p.1 :: p.2.own, nxt := h + 1 }; ⟨.c (.lt h) :: z.vs, z.caps, z.bx, z.st⟩
 | .fn f n :: r, a, st => let z := Fg r a st; ⟨.c (.fn f (z.caps.drop (z.caps.length - n))) :: z.vs, z.caps.take (z.caps.length - n), z.bx, z.st⟩
 | .cap m t :: r, a, st => let p := Ar m.isOw (Ay t a.1) st; let h := p.2.nxt; let z := Fg r a.2 { p.2 with own := .box h h p.1 :: p.2.own, nxt := h + 1 }; ⟨z.vs, (h, 0) :: z.caps, (h, h, m, t) :: z.bx, z.st⟩
def Y6 : Nat -> List V1 -> List (Nat × Option SV)
 | _, [] => []
 | k, v :: r => (k, some (.v v)) :: Y6 (k + 1) r
def Qo (st : SSt) : List ResultVar -> Option (List V1)
 | [] => some []
 | .tmp t :: r => Option.bind (ev1 st.env (.tmp t)) fun v => Option.bind (Qo st r) fun vs => some (v :: vs)
 | .cell a t :: r => match evC st.env (.tmp a), En t with
  | some (.ptr h 0), some ti => Option.bind (Nd h st.own) fun cs => bif Nat.beq cs.length ti.size then Option.bind (Sw ti cs 0) fun v => Option.bind (Qo st r) fun vs => some (v :: vs) else none
  | _, _ => none
def Ox : List RK -> List V1 -> List Chunk -> Option ((List (List Leaf) × List (List Cell)) × List Chunk)
 | [], [], own => some (([], []), own)
 | k :: ks, v :: vs, own => bif k.bx then (match v with
   | .c (.ptr h 0) => Option.bind (Df h own) fun b => bif k.own then Option.bind (E6 (D4 k.t) b.1.2 b.2) fun p => Option.bind (Ox ks vs p.2) fun q => some ((p.1 :: q.1.1, q.1.2), q.2)
     else Option.bind (Ox ks vs b.2) fun q => some ((q.1.1, b.1.2 :: q.1.2), q.2)
   | _ => none)
  else bif k.own then Option.bind (Ng k.t v) fun cs => Option.bind (E6 (D4 k.t) cs own) fun p => Option.bind (Ox ks vs p.2) fun q => some ((p.1 :: q.1.1, q.1.2), q.2)
  else Option.bind (Ng k.t v) fun cs => Option.bind (Ox ks vs own) fun q => some ((q.1.1, cs :: q.1.2), q.2)
 | _, _, _ => none
def Mr : List (Nat × Nat × BM × Ty) -> List Chunk -> Option ((List (List Leaf) × List (List Cell)) × List Chunk)
 | [], own => some (([], []), own)
 | (h, _g, .ow, t) :: r, own => Option.bind (Df h own) fun b => Option.bind (E6 (D4 t) b.1.2 b.2) fun p => Option.bind (Mr r p.2) fun q => some ((p.1 :: q.1.1, q.1.2), q.2)
 | (h, _g, .rd, _t) :: r, own => Option.bind (Df h own) fun b => Option.bind (Mr r b.2) fun q => some ((q.1.1, b.1.2 :: q.1.2), q.2)
 | (h, g, .lo, _t) :: r, own => Option.bind (Df h own) fun b => bif Nat.beq b.1.1 g then Mr r b.2 else none
def Md (st : SSt) : List (Nat × Nat × BM × Ty) -> List (List Leaf) -> List (List Cell) -> Option (List (List Leaf))
 | [], ls, _ => some ls
 | (_, _, .ow, _) :: r, ls, cs => (match ls with
   | l :: ls => Option.bind (Md st r ls cs) fun q => some (l :: q)
   | [] => none)
 | (_, _, .rd, t) :: r, ls, cs => (match cs with
   | c :: cs => Option.bind (Hh st (D4 t) c) fun l => Option.bind (Md st r ls cs) fun q => some (l :: q)
   | [] => none)
 | (_, _, .lo, _) :: r, ls, cs => Md st r ls cs
def Me (st : SSt) : List RK -> List (List Leaf) -> List (List Cell) -> Option (List (List Leaf))
 | [], ls, _ => some ls
 | k :: ks, ls, cs => bif k.own then (match ls with
   | l :: ls => Option.bind (Me st ks ls cs) fun q => some (l :: q)
   | [] => none) else (match cs with
   | c :: cs => Option.bind (Hh st (D4 k.t) c) fun l => Option.bind (Me st ks ls cs) fun q => some (l :: q)
   | [] => none)
def Wd (rv : List ResultVar) (ps : List PK) (rs : List RK) (bx : List (Nat × Nat × BM × Ty)) (st : SSt) : Option (PRes ps rs) :=
 Option.bind (Qo st rv) fun vs => Option.bind (Ox rs vs st.own) fun p => Option.bind (Mr bx p.2) fun q => Option.bind (Me { st with own := q.2 } rs p.1.1 p.1.2) fun l => Option.bind (Md { st with own := q.2 } bx q.1.1 q.1.2) fun o => Ms _ (l ++ o)
noncomputable def Ah (C : Ctx) (rv : List ResultVar) (body : Code) (ps : List PK) (rs : List RK) (a : PArgs ps) : Option (PRes ps rs) :=
 let z := Fg ps a ⟨[], [], [], 0⟩
 bif !Ev z.st then none else run C (Wd rv ps rs z.bx) body 0 { z.st with env := Y6 0 z.vs } some (Pq (Wd rv ps rs z.bx))
end
end
section
open Go.RowKit
def All2 {α β : Type} (R : α -> β -> Prop) : List α -> List β -> Prop
 | [], [] => True
 | a :: l, b :: m => R a b /\ All2 R l m
 | _, _ => False
section
variable {α β : Type} {R S : α -> β -> Prop}
theorem All2.mono (h : ∀ a b, R a b -> S a b) : ∀ {l : List α} {m : List β}, All2 R l m -> All2 S l m
 | [], [], _ => trivial
 | _ :: _, _ :: _, ⟨h1, h2⟩ => ⟨h _ _ h1, All2.mono h h2⟩
 | [], _ :: _, h => h.elim
 | _ :: _, [], h => h.elim
theorem All2.len : ∀ {l : List α} {m : List β}, All2 R l m -> l.length = m.length
 | [], [], _ => rfl
 | _ :: _, _ :: _, ⟨_, h2⟩ => by simp [All2.len h2]
 | [], _ :: _, h => h.elim
 | _ :: _, [], h => h.elim
theorem All2.append : ∀ {l : List α} {m : List β} {l' : List α} {m' : List β}, All2 R l m -> All2 R l' m' -> All2 R (l ++ l') (m ++ m')
 | [], [], _, _, _, h => h
 | _ :: _, _ :: _, _, _, ⟨h1, h2⟩, h => ⟨h1, All2.append h2 h⟩
 | [], _ :: _, _, _, h, _ => h.elim
 | _ :: _, [], _, _, h, _ => h.elim
theorem All2.take : ∀ (k : Nat) {l : List α} {m : List β}, All2 R l m -> All2 R (l.take k) (m.take k)
 | 0, _, _, _ => by simp [All2]
 | k + 1, [], [], _ => trivial
 | k + 1, _ :: _, _ :: _, ⟨h1, h2⟩ => ⟨h1, All2.take k h2⟩
 | _ + 1, [], _ :: _, h => h.elim
 | _ + 1, _ :: _, [], h => h.elim
theorem All2.drop : ∀ (k : Nat) {l : List α} {m : List β}, All2 R l m -> All2 R (l.drop k) (m.drop k)
 | 0, _, _, h => by simpa using h
 | k + 1, [], [], _ => trivial
 | k + 1, _ :: _, _ :: _, ⟨_, h2⟩ => by simpa using All2.drop k h2
 | _ + 1, [], _ :: _, h => h.elim
 | _ + 1, _ :: _, [], h => h.elim
theorem All2.nth : ∀ {l : List α} {m : List β} {k : Nat} {a : α}, All2 R l m -> Go.Proofs.YtipinmfmejccdaaGreat.nth l k = some a -> ∃ b, m[k]? = some b /\ R a b
 | _ :: _, _ :: _, 0, _, ⟨h1, _⟩, h => by cases h; exact ⟨_, rfl, h1⟩
 | _ :: _, _ :: _, k + 1, _, ⟨_, h2⟩, h => by simpa using All2.nth h2 h
 | [], [], _, _, _, h => by cases h
 | [], _ :: _, _, _, h, _ => h.elim
 | _ :: _, [], _, _, h, _ => h.elim
theorem He : ∀ {l : List α} {k : Nat}, Go.Proofs.YtipinmfmejccdaaGreat.nth l k = l[k]?
 | [], _ => rfl
 | _ :: _, 0 => rfl
 | _ :: _, k + 1 => by simpa [Go.Proofs.YtipinmfmejccdaaGreat.nth] using He
end
def Ext (ρ ρ' : List HV) : Prop := ∃ x, ρ' = ρ ++ x
theorem Ext.refl (ρ : List HV) : Ext ρ ρ := ⟨[], by simp⟩
theorem Ext.one (ρ : List HV) (x : HV) : Ext ρ (ρ ++ [x]) := ⟨[x], rfl⟩
theorem Ext.trans {a b c : List HV} (h : Ext a b) (k : Ext b c) : Ext a c := by
 obtain ⟨x, rfl⟩ := h
 obtain ⟨y, rfl⟩ := k
 exact ⟨x ++ y, by simp⟩
theorem Ext.get {ρ ρ' : List HV} (h : Ext ρ ρ') {k : Nat} {x : HV} (hk : ρ[k]? = some x) : ρ'[k]? = some x := by
 obtain ⟨y, rfl⟩ := h
 have := (List.getElem?_eq_some_iff.1 hk).1
 rw [List.getElem?_append_left this, hk]
theorem Ext.back {ρ ρ' : List HV} (h : Ext ρ ρ') {k : Nat} {x y : HV} (hk : ρ'[k]? = some x) (hy : ρ[k]? = some y) : ρ[k]? = some x := by
 rw [hy, <- h.get hy, hk]
theorem Di (ρ : List HV) (x : HV) : (ρ ++ [x])[ρ.length]? = some x := by simp
def CapIs (ρ : List HV) (p : Nat × Nat) (u : Value) : Prop := ∃ b, ρ[p.1]? = some (.box b) /\ u = pt b p.2
def Cell.Den (ρ : List HV) : Cell -> Value -> Prop
 | .i k x, z => z = .int k x
 | .y x, z => z = .int .u8 (x.toNat : Int)
 | .b x, z => z = .bool x
 | .s x, z => z = .string x
 | .sl h, z => ∃ q : Sv, ρ[h]? = some (.row q) /\ z = q.v
 | .nil, z => z = .slice none 0 0
 | .ptr h o, z => ∃ x, ρ[h]? = some (.box x) /\ z = pt x o
 | .ep h k m j, z => ∃ q : Sv, ρ[h]? = some (.row q) /\ z = .pointer (some (Bq q.v (m * k + j))) /\ m < q.n /\ ∃ a o, q.p = some ⟨a, o, none⟩
 | .ix u k h, z => z = iv (k : Int) /\ ρ[u]? = some (.num k) /\ ∃ q : Sv, ρ[h]? = some (.row q) /\ k < q.n /\ q.n <= 9223372036854775807
 | .sx u k _, z => z = iv ((k : Int) + 1) /\ ρ[u]? = some (.num k)
 | .ln h x, z => z = iv (x : Int) /\ ∃ q : Sv, ρ[h]? = some (.row q) /\ q.n = x /\ x <= 9223372036854775807
 | .fn f caps, z => ∃ vs, z = .func (.func f) #[] (List.toArray vs) /\ All2 (CapIs ρ) caps vs
 | .lt h, z => ∃ x, ρ[h]? = some (.box x) /\ z = Sv.v ⟨some ⟨x, 0, none⟩, 1, 1⟩
 | .er ok, z => (ok = true /\ z = .nilIface) \/ (ok = false /\ ∃ t u, z = .iface t u)
 | .raw u, z => z = u /\ u.oneCell' = true
def V1.Den (ρ : List HV) : V1 -> Value -> Prop
 | .c x, z => x.Den ρ z
 | .a l, z => ∃ vs : List Value, All2 (Cell.Den ρ) l vs /\ z = .agg vs.toArray
def SV.Den (ρ : List HV) : SV -> Value -> Prop
 | .v x, z => x.Den ρ z
 | .t l, z => ∃ vs : List Value, All2 (V1.Den ρ) l vs /\ z = .tuple vs.toArray
section
variable {ρ ρ' : List HV}
theorem CapIs.mono (hx : Ext ρ ρ') {p : Nat × Nat} {u : Value} (h : CapIs ρ p u) : CapIs ρ' p u := by
 obtain ⟨b, h1, h2⟩ := h
 exact ⟨b, hx.get h1, h2⟩
theorem Cell.Den.mono (hx : Ext ρ ρ') {c : Cell} {v : Value} (h : c.Den ρ v) : c.Den ρ' v := by
 cases c with
 | sl k => obtain ⟨s, h1, h2⟩ := h; exact ⟨s, hx.get h1, h2⟩
 | ptr k o => obtain ⟨s, h1, h2⟩ := h; exact ⟨s, hx.get h1, h2⟩
 | lt k => obtain ⟨s, h1, h2⟩ := h; exact ⟨s, hx.get h1, h2⟩
 | ep k q i j => obtain ⟨s, h1, h2⟩ := h; exact ⟨s, hx.get h1, h2⟩
 | ix u k q => obtain ⟨h0, h1, s, h2, h3⟩ := h; exact ⟨h0, hx.get h1, s, hx.get h2, h3⟩
 | sx u k q => obtain ⟨h0, h1⟩ := h; exact ⟨h0, hx.get h1⟩
 | ln k n => obtain ⟨h0, s, h2, h3⟩ := h; exact ⟨h0, s, hx.get h2, h3⟩
 | fn f caps => obtain ⟨vs, h1, h2⟩ := h; exact ⟨vs, h1, h2.mono fun _ _ => CapIs.mono hx⟩
 | _ => exact h
theorem V1.Den.mono (hx : Ext ρ ρ') {c : V1} {v : Value} (h : c.Den ρ v) : c.Den ρ' v := by
 cases c with
 | c x => exact Cell.Den.mono hx h
 | a l => obtain ⟨vs, h1, h2⟩ := h; exact ⟨vs, h1.mono fun _ _ => Cell.Den.mono hx, h2⟩
theorem SV.Den.mono (hx : Ext ρ ρ') {c : SV} {v : Value} (h : c.Den ρ v) : c.Den ρ' v := by
 cases c with
 | v x => exact V1.Den.mono hx h
 | t l => obtain ⟨vs, h1, h2⟩ := h; exact ⟨vs, h1.mono fun _ _ => V1.Den.mono hx, h2⟩
theorem All2.back {α : Type} {R R' : α -> Value -> Prop} {S : α -> Value -> Prop} (hb : ∀ a v u, R' a v -> R a u -> S a v) : ∀ {l : List α} {vs us : List Value}, All2 R' l vs -> All2 R l us -> All2 S l vs
 | [], [], [], _, _ => trivial
 | _ :: _, _ :: _, _ :: _, ⟨h1, h2⟩, ⟨k1, k2⟩ => ⟨hb _ _ _ h1 k1, All2.back hb h2 k2⟩
 | [], _ :: _, _, h, _ => h.elim
 | _ :: _, [], _, h, _ => h.elim
 | [], [], _ :: _, _, h => h.elim
 | _ :: _, _ :: _, [], _, h => h.elim
theorem CapIs.back (hx : Ext ρ ρ') {c : Nat × Nat} {v u : Value} (h : CapIs ρ' c v) (h0 : CapIs ρ c u) : CapIs ρ c v := by
 obtain ⟨b, h1, h2⟩ := h
 obtain ⟨b', k1, k2⟩ := h0
 exact ⟨b, hx.back h1 k1, h2⟩
theorem Cell.Den.back (hx : Ext ρ ρ') {c : Cell} {v u : Value} (h : c.Den ρ' v) (h0 : c.Den ρ u) : c.Den ρ v := by
 cases c with
 | sl k => obtain ⟨s, h1, h2⟩ := h; obtain ⟨s', k1, k2⟩ := h0; exact ⟨s, hx.back h1 k1, h2⟩
 | ptr k o => obtain ⟨s, h1, h2⟩ := h; obtain ⟨s', k1, k2⟩ := h0; exact ⟨s, hx.back h1 k1, h2⟩
 | lt k => obtain ⟨s, h1, h2⟩ := h; obtain ⟨s', k1, k2⟩ := h0; exact ⟨s, hx.back h1 k1, h2⟩
 | ep k q i j => obtain ⟨s, h1, h2⟩ := h; obtain ⟨s', k1, k2⟩ := h0; exact ⟨s, hx.back h1 k1, h2⟩
 | ix u k q => obtain ⟨h0', h1, s, h2, h3⟩ := h; obtain ⟨_, k1, s', k2, _⟩ := h0; exact ⟨h0', hx.back h1 k1, s, hx.back h2 k2, h3⟩
 | sx u k q => obtain ⟨h0', h1⟩ := h; obtain ⟨_, k1⟩ := h0; exact ⟨h0', hx.back h1 k1⟩
 | ln k n => obtain ⟨h0', s, h2, h3⟩ := h; obtain ⟨_, s', k2, _⟩ := h0; exact ⟨h0', s, hx.back h2 k2, h3⟩
 | fn f caps => obtain ⟨vs, h1, h2⟩ := h; obtain ⟨us, _, k2⟩ := h0; exact ⟨vs, h1, h2.back (fun _ _ _ a c => a.back hx c) k2⟩
 | _ => exact h
theorem V1.Den.back (hx : Ext ρ ρ') {c : V1} {v u : Value} (h : c.Den ρ' v) (h0 : c.Den ρ u) : c.Den ρ v := by
 cases c with
 | c x => exact Cell.Den.back hx h h0
 | a l => obtain ⟨vs, h1, h2⟩ := h; obtain ⟨us, k1, _⟩ := h0; exact ⟨vs, h1.back (fun _ _ _ a c => a.back hx c) k1, h2⟩
theorem SV.Den.back (hx : Ext ρ ρ') {c : SV} {v u : Value} (h : c.Den ρ' v) (h0 : c.Den ρ u) : c.Den ρ v := by
 cases c with
 | v x => exact V1.Den.back hx h h0
 | t l => obtain ⟨vs, h1, h2⟩ := h; obtain ⟨us, k1, _⟩ := h0; exact ⟨vs, h1.back (fun _ _ _ a c => a.back hx c) k1, h2⟩
theorem Cell.Den.one {c : Cell} {v : Value} (h : c.Den ρ v) : v.oneCell' = true := by
 cases c with
 | sl k => obtain ⟨s, _, rfl⟩ := h; rfl
 | ptr k o => obtain ⟨s, _, rfl⟩ := h; rfl
 | lt k => obtain ⟨s, _, rfl⟩ := h; rfl
 | ep k q i j => obtain ⟨s, _, rfl, _⟩ := h; rfl
 | ix u k q => obtain ⟨rfl, _⟩ := h; rfl
 | sx u k q => obtain ⟨rfl, _⟩ := h; rfl
 | ln k n => obtain ⟨rfl, _⟩ := h; rfl
 | fn f caps => obtain ⟨vs, rfl, _⟩ := h; rfl
 | er ok => rcases h with ⟨_, rfl⟩ | ⟨_, t, u, rfl⟩ <;> rfl
 | raw u => obtain ⟨rfl, h⟩ := h; exact h
 | i k m => cases h; rfl
 | y m => cases h; rfl
 | b m => cases h; rfl
 | s m => cases h; rfl
 | nil => cases h; rfl
theorem Pm {c : Cell} {v : Value} {k : IntKind} {n : Int} (h : c.Den ρ v) (hc : c.asInt = some (k, n)) : v = .int k n := by
 cases c with
 | i k' n' => cases hc; exact h
 | y n' => cases hc; exact h
 | ix u k' q => cases hc; exact h.1
 | sx u k' q => cases hc; exact h.1
 | ln k' n' => cases hc; exact h.1
 | _ => cases hc
theorem Aj3 (v : Value) (hv : v.oneCell' = true) : (R3 v).Den ρ v := by
 unfold R3
 split
 ·rename_i n
  cases hb : (decide (0 <= n) && decide (n <= 255)) with
  | false => exact ⟨rfl, hv⟩
  | true =>
   simp only [Bool.and_eq_true, decide_eq_true_eq] at hb
   show _ = _
   have h1 : (UInt8.ofNat n.toNat).toNat = n.toNat := by
    rw [UInt8.toNat_ofNat']; omega
   rw [h1, Int.toNat_of_nonneg hb.1]
 ·rfl
 ·rfl
 ·rfl
 ·rfl
 ·exact ⟨rfl, hv⟩
theorem All2_cellOf : ∀ {l : List Value}, (l.all (·.oneCell')) = true -> All2 (Cell.Den ρ) (l.map R3) l
 | [], _ => trivial
 | v :: l, h => by
  simp only [List.all_cons, Bool.and_eq_true] at h
  exact ⟨Aj3 v h.1, All2_cellOf h.2⟩
theorem Bga {v : Value} {sv : SV} (h : Afk v = some sv) : sv.Den ρ v := by
 unfold Afk at h
 split at h
 ·rename_i cs
  cases hb : cs.toList.all (·.oneCell') with
  | false => rw [hb] at h; cases h
  | true => rw [hb] at h; cases h; exact ⟨cs.toList, All2_cellOf hb, by simp⟩
 ·cases hb : v.oneCell' with
  | false => rw [hb] at h; cases h
  | true => rw [hb] at h; cases h; exact Aj3 v hb
def EnvOk (ρ : List HV) (se : List (Nat × Option SV)) (env : Env) : Prop := ∀ t sv, Ap se t = some sv -> ∃ v, lk env t = some v /\ sv.Den ρ v
variable {se : List (Nat × Option SV)} {env : Env}
theorem EnvOk.mono (hx : Ext ρ ρ') (h : EnvOk ρ se env) : EnvOk ρ' se env := fun t sv ht => by
 obtain ⟨v, h1, h2⟩ := h t sv ht
 exact ⟨v, h1, h2.mono hx⟩
theorem EnvOk.put (h : EnvOk ρ se env) {sv : SV} {v : Value} (hv : sv.Den ρ v) (d : Nat) : EnvOk ρ ((d, some sv) :: se) ((d, v) :: env) := fun t x ht => by
 simp only [Ap, lk] at ht ⊢
 cases hb : Nat.beq d t with
 | true => rw [hb] at ht; cases ht; exact ⟨v, rfl, hv⟩
 | false => rw [hb] at ht; exact h t x ht
theorem EnvOk.none (h : EnvOk ρ se env) {v : Value} (d : Nat) : EnvOk ρ ((d, none) :: se) ((d, v) :: env) := fun t x ht => by
 simp only [Ap, lk] at ht ⊢
 cases hb : Nat.beq d t with
 | true => rw [hb] at ht; cases ht
 | false => rw [hb] at ht; exact h t x ht
theorem EnvOk.evS (h : EnvOk ρ se env) {o : Operand} {sv : SV} (ho : evS se o = some sv) : ∃ v, ev env o = some v /\ sv.Den ρ v := by
 cases o with
 | tmp t => exact h t sv ho
 | const v => exact ⟨v, rfl, Bga ho⟩
 | global g => cases ho
 | func f => cases ho; exact ⟨_, rfl, [], rfl, trivial⟩
theorem EnvOk.ev1 (h : EnvOk ρ se env) {o : Operand} {x : V1} (ho : ev1 se o = some x) : ∃ v, ev env o = some v /\ x.Den ρ v := by
 unfold Go.Proofs.YtipinmfmejccdaaGreat.ev1 at ho
 split at ho
 ·rename_i y hy
  cases ho
  exact h.evS hy
 ·cases ho
theorem EnvOk.evC (h : EnvOk ρ se env) {o : Operand} {x : Cell} (ho : evC se o = some x) : ∃ v, ev env o = some v /\ x.Den ρ v := by
 unfold Go.Proofs.YtipinmfmejccdaaGreat.evC at ho
 split at ho
 ·rename_i y hy
  cases ho
  exact h.evS hy
 ·cases ho
theorem EnvOk.evB (h : EnvOk ρ se env) {o : Operand} {x : Bool} (ho : evB se o = some x) : ev env o = some (.bool x) := by
 unfold Go.Proofs.YtipinmfmejccdaaGreat.evB at ho
 split at ho
 ·rename_i y hy
  cases ho
  obtain ⟨v, h1, h2⟩ := h.evC hy
  cases h2
  exact h1
 ·cases ho
end
def Sv.cut3 (s : Sv) (hi : Nat) : Sv := ⟨s.p, hi, hi⟩
def VP.At (s : Sv) (t : Ty) (L : List (Ax t)) (c : Cont) (s' : Sv) : VP -> List Vi -> Prop
 | .no, ex => ex = []
 | .ei i j, ex => i < L.length /\ (Ay t (el L i))[j]? = some (.sl c.t c.L) /\ ex = [vC (Bq s.v (i * sz t + j)) s'.v]
 | .cut lo hi, ex => lo <= hi /\ hi <= L.length /\ c = ⟨t, (L.take hi).drop lo⟩ /\ s' = s.cut (sz t) lo hi /\ ex = []
 | .ec i j lo hi, ex => i < L.length /\ ∃ (c0 : Cont) (s0 : Sv), (Ay t (el L i))[j]? = some (.sl c0.t c0.L) /\ lo <= hi /\ hi <= c0.L.length /\ c = ⟨c0.t, (c0.L.take hi).drop lo⟩ /\ s' = s0.cut (sz c0.t) lo hi /\ ex = [vC (Bq s.v (i * sz t + j)) s0.v]
 | .c3 hi, ex => hi <= L.length /\ c = ⟨t, (L.take hi).drop 0⟩ /\ s' = s.cut3 hi /\ ex = []
def View.Is (ρ : List HV) (s : Sv) (t : Ty) (L : List (Ax t)) (v : View) (l : List Vi) : Prop :=
 ∃ s' ex, ρ[v.h]? = some (.row s') /\ v.pos.At s t L ⟨v.t, v.L⟩ s' ex /\ l = vR s'.v (Ad (sz v.t) (fD v.t) v.L) :: ex
def ViewsAre (ρ : List HV) (s : Sv) (t : Ty) (L : List (Ax t)) : List View -> List Vi -> Prop
 | [], l => l = []
 | v :: vs, l => ∃ l1 l2, l = l1 ++ l2 /\ v.Is ρ s t L l1 /\ ViewsAre ρ s t L vs l2
def Chunk.Is (ρ : List HV) (rs : List Rd) : Chunk -> As -> Prop
 | .box h _ cs, z => ∃ b e vs, ρ[h]? = some (.box b) /\ All2 (Cell.Den ρ) cs vs /\ z = Aw b (List.toArray vs) e
 | .row h _ t L vs, z => ∃ q vl, ρ[h]? = some (.row q) /\ ViewsAre ρ q t L vs vl /\ z = oV (oC (Ad (sz t) (fD t) L) q.v) vl
 | .sha h _ t L, z => ∃ q xs, ρ[h]? = some (.row q) /\ z = Bf (sz t) q.v L.length xs /\ rX xs (L.flatMap (fD t)) ∈ rs
 | .hol h _ t L i j, z => ∃ q q0, ρ[h]? = some (.row q) /\ z = Hz (sz t) (fD t) L q.v (i * sz t + j) (Sv.v q0)
def View.Rd (ρ : List HV) (x : View) (r : Rd) : Prop := ∃ q, ρ[x.h]? = some (.row q) /\ r = rV q.v (Ad (sz x.t) (fD x.t) x.L)
section
variable {ρ ρ' : List HV} {rs rs' : List Rd}
theorem View.Is.mono (hx : Ext ρ ρ') {s : Sv} {t : Ty} {L : List (Ax t)} {v : View} {l : List Vi} (h : v.Is ρ s t L l) : v.Is ρ' s t L l := by
 obtain ⟨s', ex, h1, h2⟩ := h
 exact ⟨s', ex, hx.get h1, h2⟩
theorem ViewsAre.mono (hx : Ext ρ ρ') {s : Sv} {t : Ty} {L : List (Ax t)} : ∀ {vs : List View} {l : List Vi}, ViewsAre ρ s t L vs l -> ViewsAre ρ' s t L vs l
 | [], _, h => h
 | _ :: _, _, ⟨l1, l2, h1, h2, h3⟩ => ⟨l1, l2, h1, h2.mono hx, ViewsAre.mono hx h3⟩
theorem Chunk.Is.mono (hx : Ext ρ ρ') (hr : ∀ r ∈ rs, r ∈ rs') {c : Chunk} {a : As} (h : c.Is ρ rs a) : c.Is ρ' rs' a := by
 cases c with
 | box k g cs => obtain ⟨b, e, vs, h1, h2, h3⟩ := h; exact ⟨b, e, vs, hx.get h1, h2.mono fun _ _ => Cell.Den.mono hx, h3⟩
 | row k g t L vs => obtain ⟨s, vl, h1, h2, h3⟩ := h; exact ⟨s, vl, hx.get h1, h2.mono hx, h3⟩
 | sha k g t L => obtain ⟨s, xs, h1, h2, h3⟩ := h; exact ⟨s, xs, hx.get h1, h2, hr _ h3⟩
 | hol k g t L i j => obtain ⟨q, q0, h1, h2⟩ := h; exact ⟨q, q0, hx.get h1, h2⟩
theorem View.Rd.mono (hx : Ext ρ ρ') {c : View} {a : Go.Proofs.YtipinmfmejccdaaGreat.Rd} (h : c.Rd ρ a) : c.Rd ρ' a := by
 obtain ⟨s, h1, h2⟩ := h; exact ⟨s, hx.get h1, h2⟩
end
abbrev OwnOk (ρ : List HV) (rs : List Rd) (own : List Chunk) (m : List As) : Prop := All2 (Chunk.Is ρ rs) own m
def RdsOk (ρ : List HV) (rds : List View) (rs : List Rd) : Prop := ∀ x ∈ rds, ∃ r ∈ rs, x.Rd ρ r
structure Sat (B : Base) (amb : List Rd) (ρ : List HV) (st : SSt) (env : Env) (w : World) : Prop where
 len : ρ.length = st.nxt
 env : EnvOk ρ st.env env
 mem : ∃ m rs, OwnOk ρ rs st.own m /\ RdsOk ρ st.rds rs /\ (∀ r ∈ amb, r ∈ rs) /\ St B m rs w
section
variable {ρ ρ' : List HV} {rs rs' : List Rd}
theorem OwnOk.mono (hx : Ext ρ ρ') (hr : ∀ r ∈ rs, r ∈ rs') {own : List Chunk} {m : List As} (h : OwnOk ρ rs own m) : OwnOk ρ' rs' own m := All2.mono (fun _ _ => Chunk.Is.mono hx hr) h
theorem RdsOk.mono (hx : Ext ρ ρ') (hr : ∀ r ∈ rs, r ∈ rs') {rds : List View} (h : RdsOk ρ rds rs) : RdsOk ρ' rds rs' := fun x hm => by
 obtain ⟨r, h1, h2⟩ := h x hm
 exact ⟨r, hr r h1, h2.mono hx⟩
theorem Abe {h : Nat} {c : Cont} : ∀ {vs : List View}, G7 h vs = some c -> ∃ v ∈ vs, v.h = h /\ c = ⟨v.t, v.L⟩ /\ Mc h vs = v.pos
 | [], hc => by cases hc
 | v :: r, hc => by
  simp only [G7] at hc
  cases hb : Nat.beq v.h h with
  | true => rw [hb] at hc; cases hc; exact ⟨v, List.mem_cons_self .., Nat.eq_of_beq_eq_true hb, rfl, by simp [Mc, hb]⟩
  | false =>
   rw [hb] at hc
   obtain ⟨u, h1, h2, h3, h4⟩ := Abe hc
   exact ⟨u, List.mem_cons_of_mem _ h1, h2, h3, by simp [Mc, hb, h4]⟩
theorem J9 {h : Nat} {c : Cont} {vs : List View} (hc : G7 h vs = some c) : ∃ v ∈ vs, v.h = h /\ c = ⟨v.t, v.L⟩ := by
 obtain ⟨v, h1, h2, h3, _⟩ := Abe hc
 exact ⟨v, h1, h2, h3⟩
theorem ViewsAre.at_ {s : Sv} {t : Ty} {L : List (Ax t)} : ∀ {vs : List View} {l : List Vi}, ViewsAre ρ s t L vs l -> ∀ v ∈ vs, ∃ s' ex, ρ[v.h]? = some (.row s') /\ v.pos.At s t L ⟨v.t, v.L⟩ s' ex /\ vR s'.v (Ad (sz v.t) (fD v.t) v.L) ∈ l /\ ∀ x ∈ ex, x ∈ l
 | [], _, _, v, hv => by cases hv
 | u :: us, l, ⟨l1, l2, h1, ⟨s', ex, h2, h5, h3⟩, h4⟩, v, hv => by
  subst h1
  rcases List.mem_cons.1 hv with rfl | hv
  ·exact ⟨s', ex, h2, h5, List.mem_append_left _ (by rw [h3]; exact List.mem_cons_self ..), fun x hx => List.mem_append_left _ (by rw [h3]; exact List.mem_cons_of_mem _ hx)⟩
  ·obtain ⟨q, ex', k1, k2, k3, k4⟩ := ViewsAre.at_ h4 v hv
   exact ⟨q, ex', k1, k2, List.mem_append_right _ k3, fun x hx => List.mem_append_right _ (k4 x hx)⟩
theorem ViewsAre.get {s : Sv} {t : Ty} {L : List (Ax t)} {vs : List View} {l : List Vi} (h : ViewsAre ρ s t L vs l) (v : View) (hv : v ∈ vs) : ∃ s', ρ[v.h]? = some (.row s') /\ vR s'.v (Ad (sz v.t) (fD v.t) v.L) ∈ l := by
 obtain ⟨s', _, h1, _, h2, _⟩ := h.at_ v hv
 exact ⟨s', h1, h2⟩
variable {B : Base} {amb : List Rd} {st : SSt} {env : Env} {w : World}
theorem Bdw {k : Nat} {T : Type} {f : T -> List Ce} {L : List T} {q : Sv} {xs : List Value} {m : List As} (hM : St B m rs w) (hm : Bf k q.v L.length xs ∈ m) (hr : rX xs (L.flatMap f) ∈ rs) : (Ad k f L).rd (al w) w q.v := by
 obtain ⟨_, _, F, h2, _, h4⟩ := hM
 obtain ⟨F', hs, h5⟩ := h2.mem hm
 have h6 := Oc (S' := al w) (fun b hb => hb.2.1) (Lc.refl _ _) _ _ (h4 _ hr)
 obtain ⟨h0, hx, h7⟩ := h5
 rcases h7 with ⟨e, hn⟩ | ⟨b, off, cap, cur, e, hd, e1, hb, hg, hnc, hcm, hsz, htk⟩
 ·rw [e]
  exact ⟨none, 0, by rw [hn], by omega, by simp [maxLen], fun hne => absurd (List.eq_nil_of_length_eq_zero hn) hne⟩
 ·rw [e1]
  exact ⟨_, cap, rfl, hnc, hcm, fun _ => ⟨b, off, xs, rfl, fun j hj => h0 _ (hb j (Nat.lt_of_lt_of_le hj (Nat.mul_le_mul_right _ hnc))), hx, fun j u hj => Yr hg.1 htk hj, h6⟩⟩
theorem R5 {h : Nat} {c : Cont} {m0 : List As} (hM : St B m0 rs w) : ∀ {own : List Chunk} {m : List As}, OwnOk ρ rs own m -> (∀ a ∈ m, a ∈ m0) -> Cr h own = some c -> ∃ s : Sv, ρ[h]? = some (.row s) /\ (Ad (sz c.t) (fD c.t) c.L).rd (al w) w s.v
 | [], [], _, _, hc => by cases hc
 | .box k g cs :: own, a :: m, ⟨_, h2⟩, hm, hc => R5 hM h2 (fun a ha => hm a (List.mem_cons_of_mem _ ha)) hc
 | .row k g t L vs :: own, a :: m, ⟨h1, h2⟩, hm, hc => by
  obtain ⟨q, vl, k1, k2, rfl⟩ := h1
  have hm0 := hm _ (List.mem_cons_self ..)
  simp only [Cr] at hc
  cases hb : Nat.beq k h with
  | true =>
   rw [hb] at hc; cases hc
   cases Nat.eq_of_beq_eq_true hb
   exact ⟨q, k1, hM.seeOV hm0⟩
  | false =>
   rw [hb] at hc
   simp only [cond_false] at hc
   split at hc
   ·rename_i c' hv
    cases hc
    obtain ⟨v, v1, v2, v3⟩ := J9 hv
    obtain ⟨s', s1, s2⟩ := k2.get v v1
    subst v3
    exact ⟨s', by rw [<- v2]; exact s1, hM.seeV hm0 s2⟩
   ·exact R5 hM h2 (fun a ha => hm a (List.mem_cons_of_mem _ ha)) hc
 | .sha k g t L :: own, a :: m, ⟨h1, h2⟩, hm, hc => by
  obtain ⟨q, xs, k1, rfl, k2⟩ := h1
  have hm0 := hm _ (List.mem_cons_self ..)
  simp only [Cr] at hc
  cases hb : Nat.beq k h with
  | true =>
   rw [hb] at hc; cases hc
   cases Nat.eq_of_beq_eq_true hb
   exact ⟨q, k1, Bdw hM hm0 k2⟩
  | false =>
   rw [hb] at hc
   exact R5 hM h2 (fun a ha => hm a (List.mem_cons_of_mem _ ha)) hc
 | .hol _ _ _ _ _ _ :: own, a :: m, ⟨_, h2⟩, hm, hc => R5 hM h2 (fun a ha => hm a (List.mem_cons_of_mem _ ha)) hc
 | [], _ :: _, h, _, _ => h.elim
 | .box _ _ _ :: _, [], h, _, _ => h.elim
 | .row _ _ _ _ _ :: _, [], h, _, _ => h.elim
 | .sha _ _ _ _ :: _, [], h, _, _ => h.elim
 | .hol _ _ _ _ _ _ :: _, [], h, _, _ => h.elim
theorem Sat.rd (hs : Sat B amb ρ st env w) {h : Nat} {c : Cont} (hc : st.cont h = some c) : ∃ s : Sv, ρ[h]? = some (.row s) /\ (Ad (sz c.t) (fD c.t) c.L).rd (al w) w s.v := by
 obtain ⟨m, rs, h1, h2, h3, hM⟩ := hs.mem
 unfold SSt.cont at hc
 split at hc
 ·rename_i c' hO
  cases hc
  exact R5 hM h1 (fun _ h => h) hO
 ·obtain ⟨v, v1, v2, v3⟩ := J9 hc
  obtain ⟨r, r1, q, q1, q2⟩ := h2 v v1
  subst v3 q2
  exact ⟨q, by rw [<- v2]; exact q1, hM.seeR r1⟩
theorem Sat.rel (hs : Sat B amb ρ st env w) {w' : World} (hr : Rel w w') : Sat B amb ρ st env w' := by
 obtain ⟨m, rs, h1, h2, h3, hM⟩ := hs.mem
 exact ⟨hs.len, hs.env, m, rs, h1, h2, h3, hM.call hr⟩
theorem Po {h : Nat} {cs : List Cell} : ∀ {own : List Chunk} {m : List As}, OwnOk ρ rs own m -> Nd h own = some cs -> ∃ (b : Nat) (e : TypeId) (vs : List Value), ρ[h]? = some (.box b) /\ All2 (Cell.Den ρ) cs vs /\ Aw b vs.toArray e ∈ m
 | [], [], _, hc => by cases hc
 | .box k g cs :: own, a :: m, ⟨h1, h2⟩, hc => by
  simp only [Nd] at hc
  cases hb : Nat.beq k h with
  | true =>
   rw [hb] at hc; cases hc
   cases Nat.eq_of_beq_eq_true hb
   obtain ⟨b, e, vs, k1, k2, rfl⟩ := h1
   exact ⟨b, e, vs, k1, k2, List.mem_cons_self ..⟩
  | false =>
   rw [hb] at hc
   obtain ⟨b, e, vs, k1, k2, k3⟩ := Po h2 hc
   exact ⟨b, e, vs, k1, k2, List.mem_cons_of_mem _ k3⟩
 | .row k g t L vs :: own, a :: m, ⟨h1, h2⟩, hc => by
  obtain ⟨b, e, vs, k1, k2, k3⟩ := Po h2 hc
  exact ⟨b, e, vs, k1, k2, List.mem_cons_of_mem _ k3⟩
 | .sha k g t L :: own, a :: m, ⟨h1, h2⟩, hc => by
  obtain ⟨b, e, vs, k1, k2, k3⟩ := Po h2 hc
  exact ⟨b, e, vs, k1, k2, List.mem_cons_of_mem _ k3⟩
 | .hol k g t L i j :: own, a :: m, ⟨h1, h2⟩, hc => by
  obtain ⟨b, e, vs, k1, k2, k3⟩ := Po h2 hc
  exact ⟨b, e, vs, k1, k2, List.mem_cons_of_mem _ k3⟩
 | [], _ :: _, h, _ => h.elim
 | .box _ _ _ :: _, [], h, _ => h.elim
 | .row _ _ _ _ _ :: _, [], h, _ => h.elim
 | .sha _ _ _ _ :: _, [], h, _ => h.elim
 | .hol _ _ _ _ _ _ :: _, [], h, _ => h.elim
theorem R4 {h : Nat} {c : Cont} : ∀ {own : List Chunk} {m : List As}, OwnOk ρ rs own m -> P5 h own = some c -> ∃ (q q0 : Sv) (j : Nat), ρ[h]? = some (.row q) /\ Hz (sz c.t) (fD c.t) c.L q.v j q0.v ∈ m
 | [], [], _, hc => by cases hc
 | .hol k g t L i j :: own, a :: m, ⟨h1, h2⟩, hc => by
  simp only [P5] at hc
  cases hb : Nat.beq k h with
  | true =>
   rw [hb] at hc; cases hc
   cases Nat.eq_of_beq_eq_true hb
   obtain ⟨q, q0, k1, rfl⟩ := h1
   exact ⟨q, q0, _, k1, List.mem_cons_self ..⟩
  | false =>
   rw [hb] at hc
   obtain ⟨q, q0, j, k1, k2⟩ := R4 h2 hc
   exact ⟨q, q0, j, k1, List.mem_cons_of_mem _ k2⟩
 | .box _ _ _ :: own, a :: m, ⟨_, h2⟩, hc => by
  obtain ⟨q, q0, j, k1, k2⟩ := R4 (own := own) h2 hc
  exact ⟨q, q0, j, k1, List.mem_cons_of_mem _ k2⟩
 | .row _ _ _ _ _ :: own, a :: m, ⟨_, h2⟩, hc => by
  obtain ⟨q, q0, j, k1, k2⟩ := R4 (own := own) h2 hc
  exact ⟨q, q0, j, k1, List.mem_cons_of_mem _ k2⟩
 | .sha _ _ _ _ :: own, a :: m, ⟨_, h2⟩, hc => by
  obtain ⟨q, q0, j, k1, k2⟩ := R4 (own := own) h2 hc
  exact ⟨q, q0, j, k1, List.mem_cons_of_mem _ k2⟩
 | [], _ :: _, h, _ => h.elim
 | .box _ _ _ :: _, [], h, _ => h.elim
 | .row _ _ _ _ _ :: _, [], h, _ => h.elim
 | .sha _ _ _ _ :: _, [], h, _ => h.elim
 | .hol _ _ _ _ _ _ :: _, [], h, _ => h.elim
abbrev Ck (k : Nat) : Type := { l : List Ce // l.length = k }
instance (k : Nat) : Inhabited (Ck k) := ⟨⟨List.replicate k (cI 0), by simp⟩⟩
theorem Avu {k : Nat} : ∀ {n : Nat} {cs : List Ce}, cs.length = n * k -> ∃ L1 : List (Ck k), L1.length = n /\ L1.flatMap Subtype.val = cs
 | 0, cs, h => ⟨[], rfl, by
  rw [Nat.zero_mul] at h
  rw [List.eq_nil_of_length_eq_zero h]; rfl⟩
 | n + 1, cs, h => by
  rw [Nat.add_mul, Nat.one_mul] at h
  obtain ⟨L1, h1, h2⟩ := Avu (k := k) (n := n) (cs := cs.drop k) (by rw [List.length_drop]; omega)
  exact ⟨⟨cs.take k, by rw [List.length_take]; omega⟩ :: L1, by simp [h1], by simp [h2]⟩
theorem Aqz {k : Nat} {T : Type} {f : T -> List Ce} {L : List T} {v : Value} {q : Nat} {u : Value} (hu : u.oneCell' = true) (hf : ∀ x, (f x).length = k) : ∃ L1 : List (Ck k), L1.length = L.length /\ L1.flatMap Subtype.val = (L.flatMap f).set q (cV u hu) /\ ∀ (F : Bs) (w : World), (Hz k f L v q u).ok F w -> (oC (Ad k Subtype.val L1) v).ok F w := by
 obtain ⟨L1, h1, h2⟩ := Avu (k := k) (n := L.length) (cs := (L.flatMap f).set q (cV u hu)) (by rw [List.length_set, Kd hf])
 refine ⟨L1, h1, h2, fun F w h => ?_⟩
 obtain ⟨xs, g1, g2, g3⟩ := h
 refine ⟨xs, by rw [h2, List.length_set, g1], ?_⟩
 obtain ⟨hlt, hx⟩ := List.getElem?_eq_some_iff.1 g2
 have key : ∀ (q : Nat) (cs : List Ce) (vs : List Value), vs[q]? = some u -> Ao (cs.set q (cV u hu)) vs = (Ao cs vs).set q (oC (cV u hu) u) := by
  intro q
  induction q with
  | zero => intro cs vs hv; cases cs <;> cases vs <;> simp_all [Ao]
  | succ q ih => intro cs vs hv; cases cs <;> cases vs <;> simp_all [Ao]
 have hpure : Sep (oC (cV u hu) u :: Bf k v L.length xs :: (Ao (L.flatMap f) xs).eraseIdx q) F w :=
  ⟨g3.lt, fun _ => False, F, ⟨rfl, fun _ h => h.elim⟩, g3, (fun _ h => h.elim), (fun _ h => h.elim), fun _ h => h⟩
 show Sep (Bf k v L1.length xs :: Ao (L1.flatMap Subtype.val) xs) F w
 rw [h1, h2, key _ _ _ g2]
 exact hpure.perm ((List.Perm.swap ..).trans ((Bcf (by rw [Azu g1]; exact hlt)).cons _))
theorem Sat.rdI (hs : Sat B amb ρ st env w) {h : Nat} {c : Cont} (hc : st.contI h = some c) : ∃ s : Sv, ρ[h]? = some (.row s) /\ ∃ (T : Type) (f : T -> List Ce) (L : List T), L.length = c.L.length /\ (Ad (sz c.t) f L).rd (al w) w s.v := by
 unfold SSt.contI at hc
 split at hc
 ·rename_i c' hc'
  cases hc
  obtain ⟨s, h1, h2⟩ := hs.rd hc'
  exact ⟨s, h1, _, _, _, rfl, h2⟩
 ·obtain ⟨m, rs, h1, h2, h3, hM⟩ := hs.mem
  obtain ⟨q, q0, j, k1, k2⟩ := R4 h1 hc
  obtain ⟨F, hF⟩ := hM.at' k2
  obtain ⟨L1, a1, _, a3⟩ := Aqz (L := c.L) (v := q.v) (q := j) (u := q0.v) rfl (C1 c.t)
  replace a3 := a3 F w hF
  exact ⟨q, k1, _, _, L1, a1, (Ad (sz c.t) Subtype.val L1).mono (fun b hb => (Ad (sz c.t) Subtype.val L1).lt a3 hb) (Lc.refl _ _) ((Ad (sz c.t) Subtype.val L1).seen a3)⟩
end
end
section
open Go.RowKit
def Chunk.Le (c c' : Chunk) : Prop := c = c' \/ ∃ h g t L vs ex, c = .row h g t L vs /\ c' = .row h g t L (ex ++ vs)
theorem Chunk.Le.g {c c' : Chunk} (h : c.Le c') : Ec c = Ec c' := by
 rcases h with rfl | ⟨k, g, t, L, vs, ex, rfl, rfl⟩ <;> rfl
theorem Chunk.Le.trans {a b c : Chunk} (h : a.Le b) (k : b.Le c) : a.Le c := by
 rcases h with rfl | ⟨k1, g, t, L, vs, ex, rfl, rfl⟩
 ·exact k
 ·rcases k with rfl | ⟨k2, g', t', L', vs', ex', e1, rfl⟩
  ·exact .inr ⟨k1, g, t, L, vs, ex, rfl, rfl⟩
  ·cases e1
   exact .inr ⟨k1, g, t, L, vs, ex' ++ ex, rfl, by simp⟩
structure Grow (st st' : SSt) : Prop where
 nxt : st.nxt <= st'.nxt
 own : ∀ c' ∈ st'.own, Ec c' < st.nxt -> ∃ c ∈ st.own, c.Le c'
 rds : ∃ x, st'.rds = x ++ st.rds
theorem Grow.refl (st : SSt) : Grow st st := ⟨Nat.le_refl _, fun c h _ => ⟨c, h, .inl rfl⟩, [], rfl⟩
theorem Grow.trans {a b c : SSt} (h : Grow a b) (k : Grow b c) : Grow a c := by
 refine ⟨Nat.le_trans h.nxt k.nxt, fun c' hc hg => ?_, ?_⟩
 ·obtain ⟨c1, h1, h2⟩ := k.own c' hc (Nat.lt_of_lt_of_le hg h.nxt)
  obtain ⟨c0, h3, h4⟩ := h.own c1 h1 (by rw [h2.g]; exact hg)
  exact ⟨c0, h3, h4.trans h2⟩
 ·obtain ⟨x, hx⟩ := h.rds
  obtain ⟨y, hy⟩ := k.rds
  exact ⟨y ++ x, by rw [hy, hx]; simp⟩
theorem Grow.env {a b : SSt} (h : Grow a b) (e e' : List (Nat × Option SV)) : Grow { a with env := e } { b with env := e' } := ⟨h.nxt, h.own, h.rds⟩
section
variable {ρ ρ' : List HV} {rs rs' : List Rd} {B : Base} {amb : List Rd} {st : SSt} {env : Env} {w : World}
theorem All2.split {α β : Type} {R : α -> β -> Prop} : ∀ {l1 l2 : List α} {m : List β}, All2 R (l1 ++ l2) m -> ∃ m1 m2, m = m1 ++ m2 /\ All2 R l1 m1 /\ All2 R l2 m2
 | [], _, m, h => ⟨[], m, rfl, trivial, h⟩
 | _ :: l1, l2, b :: m, ⟨h1, h2⟩ => by
  obtain ⟨m1, m2, e, h3, h4⟩ := All2.split h2
  exact ⟨b :: m1, m2, by rw [e]; rfl, ⟨h1, h3⟩, h4⟩
 | _ :: _, _, [], h => h.elim
theorem Pj {h : Nat} {v : View} : ∀ {own : List Chunk}, Cr h own = none -> addV h v own = none
 | [], _ => rfl
 | .box k g cs :: r, hc => by
  simp only [Cr] at hc
  simp [addV, Pj hc]
 | .row k g t L vs :: r, hc => by
  simp only [Cr] at hc
  simp only [addV]
  cases hb : Nat.beq k h with
  | true => rw [hb] at hc; cases hc
  | false =>
   rw [hb] at hc
   simp only [cond_false] at hc ⊢
   split at hc
   ·cases hc
   ·simp [Pj hc]
 | .sha k g t L :: r, hc => by
  simp only [Cr] at hc
  simp only [addV]
  cases hb : Nat.beq k h with
  | true => rfl
  | false => rw [hb] at hc; simp [Pj (own := r) hc]
 | .hol k g t L i j :: r, hc => by
  simp only [Cr] at hc
  simp [addV, Pj hc]
theorem Pk {h : Nat} {v : View} {c : Cont} : ∀ {own : List Chunk}, Cr h own = some c ->
  (∃ own1 own2 g vs, own = own1 ++ .row h g c.t c.L vs :: own2 /\ addV h v own = some (own1 ++ .row h g c.t c.L (v :: vs) :: own2)) \/
  (∃ own1 own2 k g t L vs, own = own1 ++ .row k g t L vs :: own2 /\ G7 h vs = some c /\ addV h v own = some (own1 ++ .row k g t L ({ v with pos := (Mc h vs).sub v.pos } :: vs) :: own2)) \/
  (∃ own1 own2 g, own = own1 ++ .sha h g c.t c.L :: own2 /\ addV h v own = none)
 | [], hc => by cases hc
 | .box k g cs :: r, hc => by
  simp only [Cr] at hc
  rcases Pk (v := v) hc with ⟨o1, o2, g', vs, e1, e2⟩ | ⟨o1, o2, k', g', t, L, vs, e1, e2, e3⟩ | ⟨o1, o2, g', e1, e2⟩
  ·exact .inl ⟨.box k g cs :: o1, o2, g', vs, by rw [e1]; rfl, by simp [addV, e2]⟩
  ·exact .inr (.inl ⟨.box k g cs :: o1, o2, k', g', t, L, vs, by rw [e1]; rfl, e2, by simp [addV, e3]⟩)
  ·exact .inr (.inr ⟨.box k g cs :: o1, o2, g', by rw [e1]; rfl, by simp [addV, e2]⟩)
 | .row k g t L vs :: r, hc => by
  simp only [Cr] at hc
  cases hb : Nat.beq k h with
  | true =>
   rw [hb] at hc; cases hc
   cases Nat.eq_of_beq_eq_true hb
   exact .inl ⟨[], r, g, vs, rfl, by simp [addV]⟩
  | false =>
   rw [hb] at hc
   simp only [cond_false] at hc
   split at hc
   ·rename_i c' hv
    cases hc
    exact .inr (.inl ⟨[], r, k, g, t, L, vs, rfl, hv, by simp [addV, hb, hv]⟩)
   ·rename_i hv
    rcases Pk (v := v) hc with ⟨o1, o2, g', vs', e1, e2⟩ | ⟨o1, o2, k', g', t', L', vs', e1, e2, e3⟩ | ⟨o1, o2, g', e1, e2⟩
    ·exact .inl ⟨.row k g t L vs :: o1, o2, g', vs', by rw [e1]; rfl, by simp [addV, hb, hv, e2]⟩
    ·exact .inr (.inl ⟨.row k g t L vs :: o1, o2, k', g', t', L', vs', by rw [e1]; rfl, e2, by simp [addV, hb, hv, e3]⟩)
    ·exact .inr (.inr ⟨.row k g t L vs :: o1, o2, g', by rw [e1]; rfl, by simp [addV, hb, hv, e2]⟩)
 | .sha k g t L :: r, hc => by
  simp only [Cr] at hc
  cases hb : Nat.beq k h with
  | true =>
   rw [hb] at hc; cases hc
   cases Nat.eq_of_beq_eq_true hb
   exact .inr (.inr ⟨[], r, g, rfl, by simp [addV]⟩)
  | false =>
   rw [hb] at hc
   rcases Pk (v := v) hc with ⟨o1, o2, g', vs, e1, e2⟩ | ⟨o1, o2, k', g', t', L', vs, e1, e2, e3⟩ | ⟨o1, o2, g', e1, e2⟩
   ·exact .inl ⟨.sha k g t L :: o1, o2, g', vs, by rw [e1]; rfl, by simp [addV, hb, e2]⟩
   ·exact .inr (.inl ⟨.sha k g t L :: o1, o2, k', g', t', L', vs, by rw [e1]; rfl, e2, by simp [addV, hb, e3]⟩)
   ·exact .inr (.inr ⟨.sha k g t L :: o1, o2, g', by rw [e1]; rfl, by simp [addV, hb, e2]⟩)
 | .hol k g t L i j :: r, hc => by
  simp only [Cr] at hc
  rcases Pk (v := v) hc with ⟨o1, o2, g', vs, e1, e2⟩ | ⟨o1, o2, k', g', t', L', vs, e1, e2, e3⟩ | ⟨o1, o2, g', e1, e2⟩
  ·exact .inl ⟨.hol k g t L i j :: o1, o2, g', vs, by rw [e1]; rfl, by simp [addV, e2]⟩
  ·exact .inr (.inl ⟨.hol k g t L i j :: o1, o2, k', g', t', L', vs, by rw [e1]; rfl, e2, by simp [addV, e3]⟩)
  ·exact .inr (.inr ⟨.hol k g t L i j :: o1, o2, g', by rw [e1]; rfl, by simp [addV, e2]⟩)
theorem St.mid {m1 m2 : List As} {a : As} (h : St B (m1 ++ a :: m2) rs w) : St B (a :: (m1 ++ m2)) rs w := h.perm List.perm_middle
theorem St.back' {m1 m2 : List As} {a : As} (h : St B (a :: (m1 ++ m2)) rs w) : St B (m1 ++ a :: m2) rs w := h.perm List.perm_middle.symm
theorem Pr {h : Nat} {c : Cont} {x : Chunk} {own2 own2' : List Chunk} {x' : Chunk} (hx : Cr h (x :: own2) = some c -> Cr h (x' :: own2') = some c) : ∀ {own1 : List Chunk}, Cr h (own1 ++ x :: own2) = some c -> Cr h (own1 ++ x' :: own2') = some c
 | [], hc => hx hc
 | .box k g cs :: r, hc => by
  simp only [List.cons_append, Cr] at hc ⊢
  exact Pr hx hc
 | .row k g t L vs :: r, hc => by
  simp only [List.cons_append, Cr] at hc ⊢
  cases hb : Nat.beq k h with
  | true => rw [hb] at hc; simpa using hc
  | false =>
   rw [hb] at hc
   simp only [cond_false] at hc ⊢
   split at hc
   ·exact hc
   ·exact Pr hx hc
 | .sha k g t L :: r, hc => by
  simp only [List.cons_append, Cr] at hc ⊢
  cases hb : Nat.beq k h with
  | true => rw [hb] at hc; simpa using hc
  | false =>
   rw [hb] at hc
   simp only [cond_false] at hc ⊢
   exact Pr hx hc
 | .hol k g t L i j :: r, hc => by
  simp only [List.cons_append, Cr] at hc ⊢
  exact Pr hx hc
theorem Sat.lt (hs : Sat B amb ρ st env w) {h : Nat} {x : HV} (hh : ρ[h]? = some x) : h < st.nxt := by
 rw [<- hs.len]; exact (List.getElem?_eq_some_iff.1 hh).1
theorem Bab {k : Nat} {T : Type} [Inhabited T] {f : T -> List Ce} {L : List T} {T' : Type} {k' : Nat} {f' : T' -> List Ce} {L' : List T'} {q : Sv} {xs : List Value} {m : List As} (hM : St B m rs w) (hm : Bf k q.v L.length xs ∈ m) (hr : rX xs (L.flatMap f) ∈ rs) (hf : ∀ x, (f x).length = k) {i j : Nat} (hi : i < L.length) (hc : (f (el L i))[j]? = some (Ad k' f' L')) :
  ∃ s : Sv, St B m (rV s.v (Ad k' f' L') :: rs) w /\ ∀ w1, Rel w w1 -> w1.cell? (Bq q.v (i * k + j)) = some s.v := by
 have hj : j < k := by
  have := (List.getElem?_eq_some_iff.1 hc).1
  rw [hf] at this; exact this
 have h1 : (L.flatMap f)[i * k + j]? = some (Ad k' f' L') := by rw [Wh hf L i j hi hj]; exact hc
 obtain ⟨F, hF⟩ := hM.at' hm
 have hrx : ∀ S, (∀ r ∈ rs, r.ok S w) -> Br S w (L.flatMap f) xs := fun S h => h _ hr
 obtain ⟨_, _, F0, _, _, h4⟩ := hM
 obtain ⟨v, hv1, hv2⟩ := Ym (hrx _ h4) h1
 obtain ⟨s, rfl⟩ := Cs.sv hv2
 refine ⟨s, St.more ⟨‹_›, ‹_›, F0, ‹_›, ‹_›, h4⟩ (fun S hS => ?_), fun w1 h1' => ?_⟩
 ·obtain ⟨v', k1, k2⟩ := Ym (hrx S hS) h1
  rw [hv1] at k1; cases k1
  exact k2
 ·exact Ys (As.loc _ (h1'.lc F) hF) hv1
theorem Bfj (hs : Sat B amb ρ st env w) {h : Nat} {c : Cont} (hc : st.cont h = some c) {s : Sv} (hh : ρ[h]? = some (.row s)) {i j : Nat} (hi : i < c.L.length) {t : Ty} {l : List (Ax t)} (hl0 : (Ay c.t (el c.L i))[j]? = some (.sl t l)) :
  ∃ s' : Sv, Sat B amb (ρ ++ [.row s']) (st.see h ⟨st.nxt, t, l, .ei i j⟩) env w /\ (st.see h ⟨st.nxt, t, l, .ei i j⟩).cont h = some c /\ Grow st (st.see h ⟨st.nxt, t, l, .ei i j⟩) /\ (st.see h ⟨st.nxt, t, l, .ei i j⟩).nxt = st.nxt + 1 /\ (st.see h ⟨st.nxt, t, l, .ei i j⟩).env = st.env /\ ∀ w1, Rel w w1 -> w1.cell? (Bq s.v (i * sz c.t + j)) = some s'.v := by
 have hl : (fD c.t (el c.L i))[j]? = some (Ad (sz t) (fD t) l) := by rw [Dc, List.getElem?_map, hl0]; rfl
 have hne : Nat.beq st.nxt h = false := G3 fun e => by have := hs.lt hh; omega
 obtain ⟨m, rs, h1, h2, h3, hM⟩ := hs.mem
 have hx := fun s' : Sv => Ext.one ρ (.row s')
 have hlast := fun s' : Sv => Di ρ (.row s')
 rw [hs.len] at hlast
 unfold SSt.cont at hc
 cases hO : Cr h st.own with
 | some c' =>
  rw [hO] at hc; cases hc
  rcases Pk (v := ⟨st.nxt, t, l, .ei i j⟩) hO with ⟨o1, o2, g, vs, e1, e2⟩ | ⟨o1, o2, k, g, t', L', vs, e1, e2, e3⟩ | ⟨o1, o2, g, e1, e2⟩
  ·rw [e1] at h1
   obtain ⟨m1, m2, rfl, a1, a2⟩ := h1.split
   cases m2 with
   | nil => exact a2.elim
   | cons a m2 =>
    obtain ⟨⟨q, vl, k1, k2, rfl⟩, a3⟩ := a2
    rw [hh] at k1; cases k1
    obtain ⟨s', hM', hcell⟩ := hM.mid.leafV (C1 c.t) hi hl
    refine ⟨s', ⟨by simp [SSt.see, e2, hs.len], by simp only [SSt.see, e2]; exact hs.env.mono (hx s'), _, rs, ?_, ?_, h3, hM'.back'⟩, ?_, ?_, by simp [SSt.see, e2], by simp [SSt.see, e2], hcell⟩
    ·simp only [SSt.see, e2]
     exact (a1.mono fun _ _ => Chunk.Is.mono (hx s') fun _ h => h).append ⟨⟨s, _, (hx s').get hh, ⟨_, vl, rfl, ⟨s', _, hlast s', ⟨hi, hl0, rfl⟩, rfl⟩, k2.mono (hx s')⟩, rfl⟩, a3.mono fun _ _ => Chunk.Is.mono (hx s') fun _ h => h⟩
    ·simp only [SSt.see, e2]; exact h2.mono (hx s') fun _ h => h
    ·simp only [SSt.see, e2, SSt.cont]
     rw [e1] at hO
     rw [Pr (fun h => by simp [Cr] at h ⊢) hO]
    ·simp only [SSt.see, e2]
     refine ⟨Nat.le_succ _, fun c' hc' _ => ?_, [], rfl⟩
     rw [e1]
     rcases List.mem_append.1 hc' with h' | h'
     ·exact ⟨c', List.mem_append_left _ h', .inl rfl⟩
     ·rcases List.mem_cons.1 h' with rfl | h'
      ·exact ⟨_, List.mem_append_right _ (List.mem_cons_self ..), .inr ⟨_, _, _, _, vs, [_], rfl, rfl⟩⟩
      ·exact ⟨c', List.mem_append_right _ (List.mem_cons_of_mem _ h'), .inl rfl⟩
  ·rw [e1] at h1
   obtain ⟨m1, m2, rfl, a1, a2⟩ := h1.split
   cases m2 with
   | nil => exact a2.elim
   | cons a m2 =>
    obtain ⟨⟨q, vl, k1, k2, rfl⟩, a3⟩ := a2
    obtain ⟨v, v1, v2, v3⟩ := J9 e2
    obtain ⟨sv, s1, s2⟩ := k2.get v v1
    rw [v2, hh] at s1; cases s1
    subst v3
    obtain ⟨s', hM', hcell⟩ := hM.mid.leafW s2 (C1 v.t) hi hl
    refine ⟨s', ⟨by simp [SSt.see, e3, hs.len], by simp only [SSt.see, e3]; exact hs.env.mono (hx s'), _, rs, ?_, ?_, h3, hM'.back'⟩, ?_, ?_, by simp [SSt.see, e3], by simp [SSt.see, e3], hcell⟩
    ·simp only [SSt.see, e3]
     exact (a1.mono fun _ _ => Chunk.Is.mono (hx s') fun _ h => h).append ⟨⟨q, _, (hx s').get k1, ⟨[_], vl, rfl, ⟨s', [], hlast s', by cases Mc h vs <;> rfl, rfl⟩, k2.mono (hx s')⟩, rfl⟩, a3.mono fun _ _ => Chunk.Is.mono (hx s') fun _ h => h⟩
    ·simp only [SSt.see, e3]; exact h2.mono (hx s') fun _ h => h
    ·simp only [SSt.see, e3, SSt.cont]
     rw [e1] at hO
     rw [Pr (fun h' => by
      simp only [Cr] at h' ⊢
      cases hb : Nat.beq k h with
      | true => rw [hb] at h'; simpa using h'
      | false =>
       rw [hb] at h'
       simp only [cond_false] at h' ⊢
       simp only [G7, hne, cond_false]
       exact h') hO]
    ·simp only [SSt.see, e3]
     refine ⟨Nat.le_succ _, fun c' hc' _ => ?_, [], rfl⟩
     rw [e1]
     rcases List.mem_append.1 hc' with h' | h'
     ·exact ⟨c', List.mem_append_left _ h', .inl rfl⟩
     ·rcases List.mem_cons.1 h' with rfl | h'
      ·exact ⟨_, List.mem_append_right _ (List.mem_cons_self ..), .inr ⟨_, _, _, _, vs, [_], rfl, rfl⟩⟩
      ·exact ⟨c', List.mem_append_right _ (List.mem_cons_of_mem _ h'), .inl rfl⟩
  ·have h1' := h1
   rw [e1] at h1'
   obtain ⟨m1, m2, rfl, a1, a2⟩ := h1'.split
   cases m2 with
   | nil => exact a2.elim
   | cons a m2 =>
    obtain ⟨⟨q, xs, k1, rfl, k2⟩, a3⟩ := a2
    rw [hh] at k1; cases k1
    obtain ⟨s', hM', hcell⟩ := Bab hM (List.mem_append_right _ (List.mem_cons_self ..)) k2 (C1 c.t) hi hl
    refine ⟨s', ⟨by simp [SSt.see, e2, hs.len], by simp only [SSt.see, e2]; exact hs.env.mono (hx s'), _, _, ?_, ?_, fun r hr => List.mem_cons_of_mem _ (h3 r hr), hM'⟩, ?_, ?_, by simp [SSt.see, e2], by simp [SSt.see, e2], hcell⟩
    ·simp only [SSt.see, e2]
     exact OwnOk.mono (hx s') (fun _ h => List.mem_cons_of_mem _ h) h1
    ·simp only [SSt.see, e2]
     intro x hx'
     rcases List.mem_cons.1 hx' with rfl | hx'
     ·exact ⟨_, List.mem_cons_self .., s', hlast s', rfl⟩
     ·obtain ⟨r, r1, r2⟩ := h2 x hx'
      exact ⟨r, List.mem_cons_of_mem _ r1, r2.mono (hx s')⟩
    ·simp [SSt.see, e2, SSt.cont, hO]
    ·simp only [SSt.see, e2]
     exact ⟨Nat.le_succ _, fun c' hc' _ => ⟨c', hc', .inl rfl⟩, [_], rfl⟩
 | none =>
  rw [hO] at hc
  obtain ⟨v, v1, v2, v3⟩ := J9 hc
  obtain ⟨r, r1, q, q1, q2⟩ := h2 v v1
  rw [v2, hh] at q1; cases q1
  subst v3 q2
  have e2 := Pj (v := ⟨st.nxt, t, l, .ei i j⟩) hO
  obtain ⟨s', hM', hcell⟩ := hM.leaf r1 (C1 v.t) hi hl
  refine ⟨s', ⟨by simp [SSt.see, e2, hs.len], by simp only [SSt.see, e2]; exact hs.env.mono (hx s'), _, _, ?_, ?_, fun r hr => List.mem_cons_of_mem _ (h3 r hr), hM'⟩, ?_, ?_, by simp [SSt.see, e2], by simp [SSt.see, e2], hcell⟩
  ·simp only [SSt.see, e2]
   exact OwnOk.mono (hx s') (fun _ h => List.mem_cons_of_mem _ h) h1
  ·simp only [SSt.see, e2]
   intro x hx'
   rcases List.mem_cons.1 hx' with rfl | hx'
   ·exact ⟨_, List.mem_cons_self .., s', hlast s', rfl⟩
   ·obtain ⟨r, r1, r2⟩ := h2 x hx'
    exact ⟨r, List.mem_cons_of_mem _ r1, r2.mono (hx s')⟩
  ·simp only [SSt.see, e2, SSt.cont, hO, G7, hne, cond_false]
   exact hc
  ·simp only [SSt.see, e2]
   exact ⟨Nat.le_succ _, fun c' hc' _ => ⟨c', hc', .inl rfl⟩, [_], rfl⟩
theorem Z.trans {a b c : List As} (h : Z w a b) (k : Z w b c) : Z w a c := fun F hF => k F (h F hF)
theorem Z.perm {a b : List As} (h : a.Perm b) : Z w a b := fun _ hF => hF.perm h
theorem Z.app {a b c : List As} (h : Z w a b) : Z w (a ++ c) (b ++ c) := fun F hF => by
 obtain ⟨F1, F2, g1, g2, g3, g4, g5⟩ := hF.split
 exact (Sep.join (h F1 g1) g2 g3).up (fun b hb => hb.elim (g4 b) (g5 b)) hF.lt
theorem Z.cons {a : As} {b c : List As} (h : Z w b c) : Z w (a :: b) (a :: c) := fun _ hF => hF.cons_mono h
theorem St.z {m : List As} (h : St B m rs w) {m' : List As} (hz : Z w m m') : St B m' rs w := by
 have := St.iso (l := m) (l' := m') (m := []) (by simpa using h) hz
 simpa using this
theorem Z.unV {o : As} {vl : List Vi} {l : List As} : Z w (oV o vl :: l) (o :: l) := fun F hF => by
 obtain ⟨h0, F1, F2, h1, h2, h3, h4, h5⟩ := hF
 exact ⟨h0, F1, F2, h1.1, h2, h3, h4, h5⟩
theorem Z.toV {o : As} {l : List As} : Z w (o :: l) (oV o [] :: l) := fun F hF => by
 obtain ⟨h0, F1, F2, h1, h2, h3, h4, h5⟩ := hF
 exact ⟨h0, F1, F2, ⟨h1, fun _ h => by cases h⟩, h2, h3, h4, h5⟩
theorem St.moreVX {o : As} {vl ex : List Vi} {c c' : Ce} {u u' : Value} {m : List As} (h : St B (oV o vl :: m) rs w) (hv : vR u c ∈ vl) (hc : ∀ S, c.rd S w u -> c'.rd S w u') (hex : ∀ x ∈ ex, x ∈ vl) : St B (oV o (vR u' c' :: ex ++ vl) :: m) rs w := by
 refine St.iso (l := [oV o vl]) (l' := [oV o (vR u' c' :: ex ++ vl)]) h fun F ⟨h0, F1, F2, ⟨g1, gv⟩, g⟩ => ⟨h0, F1, F2, ⟨g1, fun r hr' => ?_⟩, g⟩
 rcases List.mem_append.1 hr' with hr' | hr'
 ·rcases List.mem_cons.1 hr' with rfl | hr'
  ·exact hc _ (vRg (gv _ hv))
  ·exact gv r (hex r hr')
 ·exact gv r hr'
theorem St.moreO {vl : List Vi} {c c' : Ce} {u u' : Value} {m : List As} (h : St B (oV (oC c u) vl :: m) rs w) (hc : ∀ S, c.rd S w u -> c'.rd S w u') : St B (oV (oC c u) (vR u' c' :: vl) :: m) rs w := by
 refine St.iso (l := [oV (oC c u) vl]) (l' := [oV (oC c u) (vR u' c' :: vl)]) h fun F ⟨h0, F1, F2, ⟨g1, gv⟩, g⟩ => ⟨h0, F1, F2, ⟨g1, fun r hr' => ?_⟩, g⟩
 rcases List.mem_cons.1 hr' with rfl | hr'
 ·exact hc _ (c.seen g1)
 ·exact gv r hr'
theorem Av2 (hs : Sat B amb ρ st env w) {h : Nat} {c : Cont} (hc : st.cont h = some c) {s : Sv} (hh : ρ[h]? = some (.row s)) {t : Ty} {l : List (Ax t)} {s' : Sv} {p : VP} (hn : ∀ c', Cr h st.own = some c' -> addV h ⟨st.nxt, t, l, p⟩ st.own ≠ none) (hl : ∀ S, (Ad (sz c.t) (fD c.t) c.L).rd S w s.v -> (Ad (sz t) (fD t) l).rd S w s'.v) (hp : p.At s c.t c.L ⟨t, l⟩ s' []) (hq : ∀ lo hi, p = .cut lo hi -> lo <= hi /\ hi <= c.L.length /\ (⟨t, l⟩ : Cont) = ⟨c.t, (c.L.take hi).drop lo⟩ /\ s' = s.cut (sz c.t) lo hi) :
  Sat B amb (ρ ++ [.row s']) (st.see h ⟨st.nxt, t, l, p⟩) env w /\ Grow st (st.see h ⟨st.nxt, t, l, p⟩) /\ (st.see h ⟨st.nxt, t, l, p⟩).env = st.env := by
 obtain ⟨m, rs, h1, h2, h3, hM⟩ := hs.mem
 have hx := Ext.one ρ (.row s')
 have hlast := Di ρ (.row s')
 rw [hs.len] at hlast
 unfold SSt.cont at hc
 cases hO : Cr h st.own with
 | some c' =>
  rw [hO] at hc; cases hc
  rcases Pk (v := ⟨st.nxt, t, l, p⟩) hO with ⟨o1, o2, g, vs, e1, e2⟩ | ⟨o1, o2, k, g, t', L', vs, e1, e2, e3⟩ | ⟨o1, o2, g, e1, e2⟩
  ·rw [e1] at h1
   obtain ⟨m1, m2, rfl, a1, a2⟩ := h1.split
   cases m2 with
   | nil => exact a2.elim
   | cons a m2 =>
    obtain ⟨⟨q, vl, k1, k2, rfl⟩, a3⟩ := a2
    rw [hh] at k1; cases k1
    have hM' := hM.mid.moreO hl
    refine ⟨⟨by simp [SSt.see, e2, hs.len], by simp only [SSt.see, e2]; exact hs.env.mono hx, _, rs, ?_, ?_, h3, hM'.back'⟩, ?_, by simp [SSt.see, e2]⟩
    ·simp only [SSt.see, e2]
     exact (a1.mono fun _ _ => Chunk.Is.mono hx fun _ h => h).append ⟨⟨s, _, hx.get hh, ⟨[_], vl, rfl, ⟨s', [], hlast, hp, rfl⟩, k2.mono hx⟩, rfl⟩, a3.mono fun _ _ => Chunk.Is.mono hx fun _ h => h⟩
    ·simp only [SSt.see, e2]; exact h2.mono hx fun _ h => h
    ·simp only [SSt.see, e2]
     refine ⟨Nat.le_succ _, fun c' hc' _ => ?_, [], rfl⟩
     rw [e1]
     rcases List.mem_append.1 hc' with h' | h'
     ·exact ⟨c', List.mem_append_left _ h', .inl rfl⟩
     ·rcases List.mem_cons.1 h' with rfl | h'
      ·exact ⟨_, List.mem_append_right _ (List.mem_cons_self ..), .inr ⟨_, _, _, _, vs, [_], rfl, rfl⟩⟩
      ·exact ⟨c', List.mem_append_right _ (List.mem_cons_of_mem _ h'), .inl rfl⟩
  ·rw [e1] at h1
   obtain ⟨m1, m2, rfl, a1, a2⟩ := h1.split
   cases m2 with
   | nil => exact a2.elim
   | cons a m2 =>
    obtain ⟨⟨q, vl, k1, k2, rfl⟩, a3⟩ := a2
    obtain ⟨v, v1, v2, v3, v4⟩ := Abe e2
    obtain ⟨sv, ex0, s1, s0, s2, s3⟩ := k2.at_ v v1
    rw [v2, hh] at s1; cases s1
    subst v3
    obtain ⟨ex, hAt, hex⟩ : ∃ ex, ((Mc h vs).sub p).At q t' L' ⟨t, l⟩ s' ex /\ ∀ x ∈ ex, x ∈ vl := by
     rw [v4]
     cases hv : v.pos with
     | ei i j =>
      rw [hv] at s0
      obtain ⟨b1, b2, rfl⟩ := s0
      cases p with
      | cut lo hi =>
       obtain ⟨c1, c2, c3, c4⟩ := hq lo hi rfl
       exact ⟨_, ⟨b1, ⟨v.t, v.L⟩, s, b2, c1, c2, c3, c4, rfl⟩, s3⟩
      | _ => exact ⟨[], rfl, fun _ h => by cases h⟩
     | _ => exact ⟨[], rfl, fun _ h => by cases h⟩
    have hM' := hM.mid.moreVX s2 hl hex
    refine ⟨⟨by simp [SSt.see, e3, hs.len], by simp only [SSt.see, e3]; exact hs.env.mono hx, _, rs, ?_, ?_, h3, hM'.back'⟩, ?_, by simp [SSt.see, e3]⟩
    ·simp only [SSt.see, e3]
     exact (a1.mono fun _ _ => Chunk.Is.mono hx fun _ h => h).append ⟨⟨q, _, hx.get k1, ⟨_, vl, rfl, ⟨s', _, hlast, hAt, rfl⟩, k2.mono hx⟩, rfl⟩, a3.mono fun _ _ => Chunk.Is.mono hx fun _ h => h⟩
    ·simp only [SSt.see, e3]; exact h2.mono hx fun _ h => h
    ·simp only [SSt.see, e3]
     refine ⟨Nat.le_succ _, fun c' hc' _ => ?_, [], rfl⟩
     rw [e1]
     rcases List.mem_append.1 hc' with h' | h'
     ·exact ⟨c', List.mem_append_left _ h', .inl rfl⟩
     ·rcases List.mem_cons.1 h' with rfl | h'
      ·exact ⟨_, List.mem_append_right _ (List.mem_cons_self ..), .inr ⟨_, _, _, _, vs, [_], rfl, rfl⟩⟩
      ·exact ⟨c', List.mem_append_right _ (List.mem_cons_of_mem _ h'), .inl rfl⟩
  ·exact absurd e2 (hn c hO)
 | none =>
  rw [hO] at hc
  obtain ⟨v, v1, v2, v3⟩ := J9 hc
  obtain ⟨r, r1, q, q1, q2⟩ := h2 v v1
  rw [v2, hh] at q1; cases q1
  subst v3 q2
  have e2 := Pj (v := ⟨st.nxt, t, l, p⟩) hO
  have hM' := hM.more (r := rV s'.v (Ad (sz t) (fD t) l)) fun S hS => hl S (hS _ r1)
  refine ⟨⟨by simp [SSt.see, e2, hs.len], by simp only [SSt.see, e2]; exact hs.env.mono hx, _, _, ?_, ?_, fun r hr => List.mem_cons_of_mem _ (h3 r hr), hM'⟩, ?_, by simp [SSt.see, e2]⟩
  ·simp only [SSt.see, e2]
   exact OwnOk.mono hx (fun _ h => List.mem_cons_of_mem _ h) h1
  ·simp only [SSt.see, e2]
   intro x hx'
   rcases List.mem_cons.1 hx' with rfl | hx'
   ·exact ⟨_, List.mem_cons_self .., s', hlast, rfl⟩
   ·obtain ⟨r, r1, r2⟩ := h2 x hx'
    exact ⟨r, List.mem_cons_of_mem _ r1, r2.mono hx⟩
  ·simp only [SSt.see, e2]
   exact ⟨Nat.le_succ _, fun c' hc' _ => ⟨c', hc', .inl rfl⟩, [_], rfl⟩
theorem A0r (s : Sv) (k hi : Nat) : (s.cut k 0 hi).p = s.p := by
 unfold Sv.cut
 simp only [Nat.zero_mul]
 split
 ·rfl
 ·cases s.p with
  | none => rfl
  | some a => simp [Addr.add]
theorem Cs.cut3 {k : Nat} {T : Type} {f : T -> List Ce} {L : List T} {S : Bs} (hf : ∀ x, (f x).length = k) {s : Sv} {hi : Nat} (h2 : hi <= L.length) (h : (Ad k f L).rd S w s.v) : (Ad k f ((L.take hi).drop 0)).rd S w (s.cut3 hi).v := by
 obtain ⟨a, cap, e, h3, h4, h5⟩ := Cs.cut hf (Nat.zero_le hi) h2 h
 have hl : ((L.take hi).drop 0).length = hi := by simp; omega
 obtain ⟨e1, _, _⟩ : (s.cut k 0 hi).p = a /\ _ /\ _ := by simpa [Sv.v] using e
 rw [A0r] at e1
 exact ⟨a, hi, by simp only [Sv.cut3, Sv.v, e1, hl], by omega, by omega, h5⟩
theorem Own.split {k : Nat} {T : Type} {f : T -> List Ce} {L : List T} (hf : ∀ x, (f x).length = k) {s : Sv} {hi lo : Nat} (h1 : hi <= lo) (h2 : lo <= L.length) {F : Bs} (h : (Ad k f L).ow F w s.v) : Sep [oC (Ad k f ((L.take hi).drop 0)) (s.cut3 hi).v, oC (Ad k f ((L.take L.length).drop lo)) (s.cut k lo L.length).v] F w := by
 obtain ⟨xs, hx, h0, F1, F2, ⟨g0, gl, gr⟩, g2, g3, g4, g5⟩ := h
 have hhl := Nat.mul_le_mul_right k h1
 have hll := Nat.mul_le_mul_right k h2
 have hlB : ((L.take L.length).drop lo).length = L.length - lo := by simp
 have hlA : ((L.take hi).drop 0).length = hi := by simp; omega
 have g2' : Sep (((Ao (L.flatMap f) xs).take (hi * k)) ++ ((Ao (L.flatMap f) xs).drop (hi * k))) F2 w := by rw [List.take_append_drop]; exact g2
 obtain ⟨A2, B2, a1, a2, a3, a4, a5⟩ := g2'.split
 have a2' : Sep ((Ao (L.flatMap f) xs).drop (lo * k)) B2 w := by
  have := a2.drop (lo * k - hi * k)
  rw [List.drop_drop, show hi * k + (lo * k - hi * k) = lo * k by omega] at this
  exact this
 have zA : Ao (((L.take hi).drop 0).flatMap f) (xs.take (hi * k)) = (Ao (L.flatMap f) xs).take (hi * k) := by rw [List.drop_zero, Wi hf, Aa2]
 have zB : Ao (((L.take L.length).drop lo).flatMap f) (xs.drop (lo * k)) = (Ao (L.flatMap f) xs).drop (lo * k) := by rw [List.take_length, Wg hf, Aa1]
 have lxA : (xs.take (hi * k)).length = hi * k := by rw [List.length_take, gl]; omega
 have lxB : (xs.drop (lo * k)).length = (L.length - lo) * k := by rw [List.length_drop, gl, Nat.sub_mul]
 have rows : ∃ A1 B1 : Bs, (Bf k (s.cut3 hi).v hi (xs.take (hi * k))).ok A1 w /\ (Bf k (s.cut k lo L.length).v (L.length - lo) (xs.drop (lo * k))).ok B1 w /\ (∀ b, A1 b -> ¬ B1 b) /\ (∀ b, A1 b -> F1 b) /\ (∀ b, B1 b -> F1 b) := by
  rcases gr with ⟨e, hn⟩ | ⟨b, off, cap, cur, e', hd, e, hb, hg, hnc, hcm, hsz, htk⟩
  ·obtain ⟨e1, e2, e3⟩ : s.p = none /\ s.n = 0 /\ s.c = 0 := by simpa [Sv.v] using e
   have : lo = 0 := by omega
   have : hi = 0 := by omega
   subst_vars
   refine ⟨fun _ => False, fun _ => False, ⟨(fun _ h => h.elim), by simp, .inl ⟨by simp [Sv.cut3, Sv.v, e1], rfl⟩⟩, ⟨(fun _ h => h.elim), by simpa using lxB, .inl ⟨by simp [Sv.cut, Sv.v, e1, e3, hn], by omega⟩⟩, (fun _ h => h.elim), (fun _ h => h.elim), fun _ h => h.elim⟩
  ·obtain ⟨e1, e2, rfl⟩ : s.p = some ⟨b, off, none⟩ /\ s.n = L.length /\ s.c = cap := by simpa [Sv.v] using e
   have hcl := Nat.mul_le_mul_right k (show lo <= s.c by omega)
   refine ⟨fun x => F1 x /\ x.1 = b /\ off <= x.2 /\ x.2 < off + hi * k, fun x => F1 x /\ ¬ (x.1 = b /\ off <= x.2 /\ x.2 < off + hi * k), ⟨fun x hx => g0 x hx.1, lxA, .inr ⟨b, off, hi, cur, e', hd, by simp [Sv.cut3, Sv.v, e1], fun j hj => ⟨hb j (by omega), rfl, by simp only; omega, by simp only; omega⟩, hg, Nat.le_refl _, by omega, by omega, ?_⟩⟩, ⟨fun x hx => g0 x hx.1, lxB, .inr ?_⟩, fun x h k => k.2 h.2, (fun x h => h.1), fun x h => h.1⟩
   ·rw [<- htk, List.take_take, Nat.min_eq_left (by omega)]
   ·by_cases hz : s.c - lo = 0
    ·refine ⟨b, off, s.c - lo, cur, e', hd, by simp only [Sv.cut, Sv.v, if_pos hz, e1], fun j hj => by rw [hz, Nat.zero_mul] at hj; omega, hg, by omega, by omega, by rw [hz, Nat.zero_mul]; omega, ?_⟩
     rw [show L.length - lo = 0 by omega, Nat.zero_mul, List.take_zero]
     symm
     apply List.eq_nil_of_length_eq_zero
     rw [lxB, show L.length - lo = 0 by omega, Nat.zero_mul]
    ·refine ⟨b, off + lo * k, s.c - lo, cur, e', hd, by simp only [Sv.cut, Sv.v, if_neg hz, e1]; simp [Addr.add_lit], fun j hj => ?_, hg, by omega, by omega, ?_, ?_⟩
     ·rw [Nat.sub_mul] at hj
      refine ⟨by rw [Nat.add_assoc]; exact hb _ (by omega), fun hk => ?_⟩
      simp only at hk
      omega
     ·rw [Nat.sub_mul]; omega
     ·rw [<- htk, List.drop_take, List.drop_drop, <- Nat.sub_mul]
 obtain ⟨A1, B1, r1, r2, r3, r4, r5⟩ := rows
 refine ⟨h0, fun x => A1 x \/ A2 x, fun x => B1 x \/ B2 x, ⟨xs.take (hi * k), by rw [Kd hf, hlA, lxA], ?_⟩, ⟨fun x hx => ?_, fun x => B1 x \/ B2 x, fun _ => False, ⟨xs.drop (lo * k), by rw [Kd hf, hlB, lxB], ?_⟩, (fun _ h => h.elim), (fun _ _ h => h), (fun _ h => h), fun _ h => h.elim⟩, fun x hx hy => ?_, fun x hx => ?_, fun x hx => ?_⟩
 ·rw [hlA, zA]
  exact ⟨fun x hx => hx.elim (fun h => g0 x (r4 x h)) (fun h => a1.lt x h), A1, A2, r1, a1, fun x h k => g3 x (r4 x h) (a4 x k), (fun _ h => .inl h), fun _ h => .inr h⟩
 ·exact hx.elim (fun h => g0 x (r5 x h)) (fun h => a2.lt x h)
 ·rw [hlB, zB]
  exact ⟨fun x hx => hx.elim (fun h => g0 x (r5 x h)) (fun h => a2.lt x h), B1, B2, r2, a2', fun x h k => g3 x (r5 x h) (a5 x k), (fun _ h => .inl h), fun _ h => .inr h⟩
 ·rcases hx with hx | hx <;> rcases hy with hy | hy
  ·exact r3 x hx hy
  ·exact g3 x (r4 x hx) (a5 x hy)
  ·exact g3 x (r5 x hy) (a4 x hx)
  ·exact a3 x hx hy
 ·exact hx.elim (fun h => g4 x (r4 x h)) (fun h => g5 x (a4 x h))
 ·exact hx.elim (fun h => g4 x (r5 x h)) (fun h => g5 x (a5 x h))
end
end
section
open Go.RowKit
section
variable {P : Program} {n : Nat} {env : Env} {w : World} {d : Option Tmp} {ty : TypeId} {pos : String} {af : Array Edge} {g : Option (Nat × Bool)}
end
section
variable {P : Program} {n : Nat} {env : Env} {w : World} {w0 : Base} {m : List As} {rs : List Rd} {ty : TypeId} {pos : String} {af : Array Edge}
end
end
section
open Go.RowKit
section
variable {ρ ρ' : List HV} {rs rs' : List Rd} {B : Base} {amb : List Rd} {st : SSt} {env : Env} {w : World} {R : Type} {r : R}
theorem A0i {t : Ty} {x : Ax t} {j : Nat} {l : Leaf} (h : (Ay t x)[j]? = some l) : (fD t x)[j]? = some l.ce := by
 rw [Dc, List.getElem?_map, h]; rfl
theorem Adb {h i : Nat} {c : Cont} {s : Sv} (hi : i < c.L.length) : ∀ (ls : List Leaf) (j : Nat) (st : SSt) (ρ : List HV), Sat B amb ρ st env w -> st.cont h = some c -> ρ[h]? = some (.row s) -> (∀ q x, ls[q]? = some x -> (Ay c.t (el c.L i))[j + q]? = some x) ->
  ∃ ρ' vs, Ext ρ ρ' /\ Sat B amb ρ' (F6 h i ls j st).2 env w /\ All2 (Cell.Den ρ') (F6 h i ls j st).1 vs /\ Grow st (F6 h i ls j st).2 /\ (F6 h i ls j st).2.env = st.env /\ ∀ w1, Rel w w1 -> ∀ q u, vs[q]? = some u -> w1.cell? (Bq s.v (i * sz c.t + (j + q))) = some u
 | [], j, st, ρ, hs, _, _, _ => ⟨ρ, [], Ext.refl ρ, hs, trivial, Grow.refl st, rfl, fun _ _ q u h => by simp at h⟩
 | l :: ls, j, st, ρ, hs, hc, hh, hl => by
  have h0 := hl 0 l rfl
  have hl' : ∀ q x, ls[q]? = some x -> (Ay c.t (el c.L i))[j + 1 + q]? = some x := fun q x hq => by
   have := hl (q + 1) x (by simpa using hq)
   rwa [show j + 1 + q = j + (q + 1) by omega]
  have sc : ∀ (u : Value) (hu : u.oneCell' = true), l.ce = cV u hu -> ∀ w1, Rel w w1 -> w1.cell? (Bq s.v (i * sz c.t + j)) = some u := fun u hu he w1 h1 => by
   obtain ⟨s', k1, k2⟩ := (hs.rel h1).rd hc
   rw [hh] at k1; cases k1
   refine Cs.get (hu := hu) k2 (C1 c.t) hi ?_
   rw [A0i (j := j) (by simpa using h0), he]
  have Bd : ∀ (x : Cell) (u : Value), x.Den ρ u -> (∀ w1, Rel w w1 -> w1.cell? (Bq s.v (i * sz c.t + j)) = some u) ->
    ∃ ρ' vs, Ext ρ ρ' /\ Sat B amb ρ' (F6 h i ls (j + 1) st).2 env w /\ All2 (Cell.Den ρ') (x :: (F6 h i ls (j + 1) st).1) vs /\ Grow st (F6 h i ls (j + 1) st).2 /\ (F6 h i ls (j + 1) st).2.env = st.env /\ ∀ w1, Rel w w1 -> ∀ q u, vs[q]? = some u -> w1.cell? (Bq s.v (i * sz c.t + (j + q))) = some u := fun x u hx hcell => by
   obtain ⟨ρ', vs, a1, a2, a3, a4, a5, a6⟩ := Adb hi ls (j + 1) st ρ hs hc hh hl'
   refine ⟨ρ', u :: vs, a1, a2, ⟨hx.mono a1, a3⟩, a4, a5, fun w1 h1 q v hq => ?_⟩
   cases q with
   | zero => cases hq; exact hcell w1 h1
   | succ q => rw [show j + (q + 1) = j + 1 + q by omega]; exact a6 w1 h1 q v (by simpa using hq)
  cases l with
  | i x => exact Bd (.i .i64 x) (.int .i64 x) rfl (sc _ rfl rfl)
  | b x => exact Bd (.b x) (.bool x) rfl (sc _ rfl rfl)
  | s x => exact Bd (.s x) (.string x) rfl (sc _ rfl rfl)
  | y x => exact Bd (.y x) (.int .u8 (x.toNat : Int)) rfl (sc _ rfl rfl)
  | sl t L =>
   obtain ⟨s', hs', hc', hg, hn, he, hcell⟩ := Bfj hs hc hh hi (j := j) (t := t) (l := L) (by simpa using h0)
   have hx := Ext.one ρ (.row s')
   obtain ⟨ρ', vs, a1, a2, a3, a4, a5, a6⟩ := Adb hi ls (j + 1) _ _ hs' hc' (hx.get hh) hl'
   have hlast := Di ρ (.row s')
   rw [hs.len] at hlast
   refine ⟨ρ', s'.v :: vs, hx.trans a1, a2, ⟨⟨s', a1.get hlast, rfl⟩, a3⟩, hg.trans a4, a5.trans he, fun w1 h1 q v hq => ?_⟩
   cases q with
   | zero => cases hq; exact hcell w1 h1
   | succ q => rw [show j + (q + 1) = j + 1 + q by omega]; exact a6 w1 h1 q v (by simpa using hq)
theorem A0z {s : Sv} {a o : Nat} (h : s.p = some ⟨a, o, none⟩) (j q : Nat) : (Bq s.v j).add q = Bq s.v (j + q) := by
 obtain ⟨p, m, c⟩ := s
 simp only at h
 subst h
 simp only [Sv.v, Bq]
 unfold Addr.add
 split
 ·rename_i hq; rw [hq, Nat.add_zero]
 ·rw [Nat.add_assoc]
theorem Qf {h i : Nat} : ∀ (ls : List Leaf) (j : Nat) (st : SSt), (F6 h i ls j st).1.length = ls.length
 | [], _, _ => rfl
 | .i _ :: r, j, st => congrArg (· + 1) (Qf r (j + 1) st)
 | .b _ :: r, j, st => congrArg (· + 1) (Qf r (j + 1) st)
 | .s _ :: r, j, st => congrArg (· + 1) (Qf r (j + 1) st)
 | .y _ :: r, j, st => congrArg (· + 1) (Qf r (j + 1) st)
 | .sl _ _ :: r, j, _st => congrArg (· + 1) (Qf r (j + 1) _)
def LkOk (B : Base) (amb : List Rd) (ρ : List HV) (st : SSt) (env : Env) (w : World) (op : Op) (K : SV -> SSt -> Option R) (r : R) : Prop :=
 ∃ sv v st' ρ', K sv st' = some r /\ Ext ρ ρ' /\ Sat B amb ρ' st' env w /\ sv.Den ρ' v /\ Grow st st' /\ st'.env = st.env /\ ∀ w1, Rel w w1 -> ∀ n d ty pos af g, Runs Tryz.prog n env w1 ⟨d, op, ty, pos, af, g⟩ v w1
def LkAll (B : Base) (amb : List Rd) (ρ : List HV) (st : SSt) (env : Env) (w : World) (op : Op) (K : SV -> SSt -> Option R) (r : R) : Prop :=
 ∃ sv v st' ρ', K sv st' = some r /\ Ext ρ ρ' /\ Sat B amb ρ' st' env w /\ sv.Den ρ' v /\ Grow st st' /\ st'.env = st.env /\ ∀ w1 n d ty pos af g, Runs Tryz.prog n env w1 ⟨d, op, ty, pos, af, g⟩ v w1
variable {op : Op} {K : SV -> SSt -> Option R}
theorem LkAll.ok (h : LkAll B amb ρ st env w op K r) : LkOk B amb ρ st env w op K r := by
 obtain ⟨sv, v, st', ρ', a1, a2, a3, a4, a5, a6, a7⟩ := h
 exact ⟨sv, v, st', ρ', a1, a2, a3, a4, a5, a6, fun w1 _ => a7 w1⟩
theorem LkAll.same (hs : Sat B amb ρ st env w) {sv : SV} {v : Value} (hk : K sv st = some r) (hd : sv.Den ρ v) (hr : ∀ w1 n d ty pos af g, Runs Tryz.prog n env w1 ⟨d, op, ty, pos, af, g⟩ v w1) : LkAll B amb ρ st env w op K r :=
 ⟨sv, v, st, ρ, hk, Ext.refl ρ, hs, hd, Grow.refl st, rfl, hr⟩
theorem LkOk.same (hs : Sat B amb ρ st env w) {sv : SV} {v : Value} (hk : K sv st = some r) (hd : sv.Den ρ v) (hr : ∀ w1, Rel w w1 -> ∀ n d ty pos af g, Runs Tryz.prog n env w1 ⟨d, op, ty, pos, af, g⟩ v w1) : LkOk B amb ρ st env w op K r :=
 ⟨sv, v, st, ρ, hk, Ext.refl ρ, hs, hd, Grow.refl st, rfl, hr⟩
theorem Bat (hs : Sat B amb ρ st env w) {x : Operand} (h : Ly st x K = some r) : LkOk B amb ρ st env w (.move x) K r := by
 unfold Ly at h
 split at h
 ·rename_i v hv
  obtain ⟨u, h1, h2⟩ := hs.env.evS hv
  exact .same hs h h2 fun _ _ _ _ _ _ _ _ => Aeh h1
 ·cases h
theorem Bag (hs : Sat B amb ρ st env w) {x : Operand} (h : Ly st x K = some r) : LkOk B amb ρ st env w (.assign x) K r := by
 unfold Ly at h
 split at h
 ·rename_i v hv
  obtain ⟨u, h1, h2⟩ := hs.env.evS hv
  exact .same hs h h2 fun _ _ _ _ _ _ _ _ => Atm h1
 ·cases h
theorem Bau (hs : Sat B amb ρ st env w) {x : Operand} (h : Xs st x K = some r) : LkOk B amb ρ st env w (.nilCheck x) K r := by
 unfold Xs at h
 split at h
 ·rename_i k o hv
  obtain ⟨u, h1, b, h2, rfl⟩ := hs.env.evC hv
  exact .same hs h ⟨b, h2, rfl⟩ fun _ _ _ _ _ _ _ _ => Ats h1
 ·rename_i k q i j hv
  obtain ⟨u, h1, b, h2, rfl, h3⟩ := hs.env.evC hv
  exact .same hs h ⟨b, h2, rfl, h3⟩ fun _ _ _ _ _ _ _ _ => Ats h1
 ·cases h
theorem Bak (hs : Sat B amb ρ st env w) {x : Operand} {i : Nat} (h : Xn st x i K = some r) : LkOk B amb ρ st env w (.extract x i) K r := by
 unfold Xn at h
 split at h
 ·rename_i l hv
  split at h
  ·rename_i v hn
   obtain ⟨u, h1, vs, h2, rfl⟩ := hs.env.evS hv
   obtain ⟨z, h3, h4⟩ := h2.nth hn
   exact .same hs h h4 fun _ _ _ _ _ _ _ _ => Bcy h1 (by simpa using h3)
  ·cases h
 ·cases h
theorem Bav (hs : Sat B amb ρ st env w) {x : Operand} {t : TypeId} (h : Xt st x K = some r) : LkOk B amb ρ st env w (.unOp .not t x) K r := by
 unfold Xt at h
 split at h
 ·rename_i b hv
  exact .same hs h (sv := .v (.c (.b !b))) rfl fun _ _ _ _ _ _ _ _ => Aei (hs.env.evB hv)
 ·cases h
theorem Bc1 {n : Nat} {env : Env} {w : World} {d : Option Tmp} {ty : TypeId} {pos : String} {af : Array Edge} {g : Option (Nat × Bool)} {x : Operand} {t : TypeId} {q off j : Nat} {s : Sv} {a o : Nat} {fs : Array Field} {fd : Field} {size bytes : Nat} {z : Value} (ht : Tryz.prog.underlying t = some (.struct fs)) (hf : fs[q]? = some fd) (ho : fd.offset = off)
  (hs : Sz Tryz.prog fd.type size bytes z) (hp : s.p = some ⟨a, o, none⟩) (hx : ev env x = some (.pointer (some (Bq s.v j)))) :
  Runs Tryz.prog n env w ⟨d, .fieldAddr t x q, ty, pos, af, g⟩ (.pointer (some (Bq s.v (j + off)))) w := by
 obtain ⟨p, m, c⟩ := s
 simp only at hp
 subst hp
 simp only [Sv.v, Bq] at hx ⊢
 rw [<- Nat.add_assoc]
 exact Atp ht hf ho hs hx
theorem Ej {a b : IntKind} (h : kq a b = true) : a = b := of_decide_eq_true h
theorem Arm {t : TypeId} (h : Ac0 t = true) : Tryz.prog.underlying t = some .bool := by
 unfold Ac0 at h
 split at h
 ·rename_i ti ht
  obtain ⟨⟨d, hd, hk⟩, _⟩ := Ey ht
  split at h
  ·rename_i hk'; rw [hk'] at hk; cases hk; exact hd
  ·cases h
 ·cases h
theorem Aro {t : TypeId} (h : Xd t = true) : Tryz.prog.underlying t = some .string := by
 unfold Xd at h
 split at h
 ·rename_i ti ht
  obtain ⟨⟨d, hd, hk⟩, _⟩ := Ey ht
  split at h
  ·rename_i hk'; rw [hk'] at hk; cases hk; exact hd
  ·cases h
 ·cases h
theorem Sb {t e : TypeId} {ei : TI} (h : Nj t = some (e, ei)) : Tryz.prog.underlying t = some (.slice e) /\ TIok Tryz.prog e ei := by
 unfold Nj at h
 split at h
 ·rename_i ti ht
  obtain ⟨⟨d, hd, hk⟩, _⟩ := Ey ht
  split at h
  ·rename_i e' hk'
   rw [hk'] at hk; cases hk
   cases he : En e' with
   | none => rw [he] at h; cases h
   | some i => rw [he] at h; cases h; exact ⟨hd, Ey he⟩
  ·cases h
 ·cases h
theorem bt {b : Bool} {x : Option R} (h : (bif b then x else none) = some r) : b = true /\ x = some r := by
 cases b with
 | true => exact ⟨rfl, h⟩
 | false => cases h
theorem Bah {C : Ctx} (hs : Sat B amb ρ st env w) {op : BinOp} {x y : Operand} {t u : TypeId} (h : Xl C st op t x y K = some r) : LkOk B amb ρ st env w (.binOp op t x y u) K r := by
 unfold Xl at h
 split at h
 ·rename_i a b ha hb
  obtain ⟨va, a1, a2⟩ := hs.env.ev1 ha
  obtain ⟨vb, b1, b2⟩ := hs.env.ev1 hb
  unfold Rx at h
  split at h
  ·rename_i a b
   split at h
   ·rename_i c hc
    unfold Au2 at hc
    split at hc
    ·rename_i u' k q q' m
     obtain ⟨hq, hc⟩ := bt hc
     cases hc
     cases Nat.eq_of_beq_eq_true hq
     obtain ⟨rfl, _, s, s1, s2, _⟩ := a2
     obtain ⟨rfl, s', s3, s4⟩ := b2
     rw [s1] at s3; cases s3
     refine .same hs h (sv := .v (.c (.b true))) (v := .bool true) rfl fun w1 _ n d ty pos af g => ?_
     have := Aeg (P := Tryz.prog) (n := n) (w := w1) (d := d) (ty := ty) (pos := pos) (af := af) (g := g) (t := t) (u := u) a1 b1
     rwa [show decide ((k : Int) < (m : Int)) = true by simp; omega] at this
    ·rename_i u' k q
     cases hc
     obtain ⟨rfl, h1, s, s1, s2, s3⟩ := a2
     cases b2
     exact .same hs h (sv := .v (.c (.sx u' k q))) (v := iv ((k : Int) + 1)) ⟨rfl, h1⟩ fun _ _ _ _ _ _ _ _ => Gw a1 b1 ⟨by omega, by omega⟩
    ·cases hc
   ·split at h
    ·rename_i k1 i k2 j h1 h2
     cases Pm a2 h1
     cases Pm b2 h2
     unfold Ry at h
     split at h
     ·obtain ⟨e, h'⟩ := bt h; cases Ej e
      exact .same hs h' (sv := .v (.c (.b _))) rfl fun _ _ _ _ _ _ _ _ => Aeg a1 b1
     ·obtain ⟨e, h'⟩ := bt h; cases Ej e
      exact .same hs h' (sv := .v (.c (.b _))) rfl fun _ _ _ _ _ _ _ _ => Bc9 a1 b1
     ·obtain ⟨e, h'⟩ := bt h; cases Ej e
      exact .same hs h' (sv := .v (.c (.b _))) rfl fun _ _ _ _ _ _ _ _ => Aef a1 b1
     ·obtain ⟨e, h'⟩ := bt h; cases Ej e
      exact .same hs h' (sv := .v (.c (.b _))) rfl fun _ _ _ _ _ _ _ _ => Bc2 a1 b1
     ·obtain ⟨e, h'⟩ := bt h; cases Ej e
      exact .same hs h' (sv := .v (.c (.b _))) rfl fun _ _ _ _ _ _ _ _ => Tf a1 b1
     ·obtain ⟨e, h'⟩ := bt h; cases Ej e
      exact .same hs h' (sv := .v (.c (.b _))) rfl fun _ _ _ _ _ _ _ _ => Bdg a1 b1
     ·obtain ⟨e, h'⟩ := bt h
      simp only [Bool.and_eq_true] at e
      cases Ej e.1; cases Ej e.2
      cases hw : C.wrap with
      | true =>
       rw [hw] at h'
       exact .same hs h' (sv := .v (.c (.i .i64 _))) rfl fun _ _ _ _ _ _ _ _ => Bcs a1 b1
      | false =>
       rw [hw] at h'
       obtain ⟨h1, h'⟩ := Bp h'
       exact .same hs h' (sv := .v (.c (.i .i64 _))) rfl fun _ _ _ _ _ _ _ _ => Gw a1 b1 h1
     ·obtain ⟨e, h'⟩ := bt h
      simp only [Bool.and_eq_true] at e
      cases Ej e.1; cases Ej e.2
      obtain ⟨h1, h'⟩ := Bp h'
      exact .same hs h' (sv := .v (.c (.i .i64 _))) rfl fun _ _ _ _ _ _ _ _ => Aek a1 b1 h1
     ·obtain ⟨e, h'⟩ := bt h
      simp only [Bool.and_eq_true] at e
      cases Ej e.1; cases Ej e.2
      cases hw : C.wrap with
      | true =>
       rw [hw] at h'
       exact .same hs h' (sv := .v (.c (.i .i64 _))) rfl fun _ _ _ _ _ _ _ _ => Bdf a1 b1
      | false =>
       rw [hw] at h'
       obtain ⟨h1, h'⟩ := Bp h'
       exact .same hs h' (sv := .v (.c (.i .i64 _))) rfl fun _ _ _ _ _ _ _ _ => Bde a1 b1 h1
     ·obtain ⟨e, h'⟩ := bt h
      simp only [Bool.and_eq_true] at e
      cases Ej e.1; cases Ej e.2
      obtain ⟨h1, h'⟩ := Bp h'
      exact .same hs h' (sv := .v (.c (.i .i64 _))) rfl fun _ _ _ _ _ _ _ _ => Bdm a1 b1 h1
     ·obtain ⟨e, h'⟩ := bt h
      simp only [Bool.and_eq_true] at e
      cases Ej e.1; cases Ej e.2
      obtain ⟨h1, h'⟩ := Bp h'
      exact .same hs h' (sv := .v (.c (.i .i64 _))) rfl fun _ _ _ _ _ _ _ _ => Bdl a1 b1 h1
     ·obtain ⟨e, h'⟩ := bt h
      simp only [Bool.and_eq_true] at e
      cases Ej e.1; cases Ej e.2
      exact .same hs h' (sv := .v (.c (.i .i64 _))) rfl fun _ _ _ _ _ _ _ _ => Bct a1 b1
     ·obtain ⟨e, h'⟩ := bt h
      simp only [Bool.and_eq_true] at e
      cases Ej e.1; cases Ej e.2
      exact .same hs h' (sv := .v (.c (.i .i64 _))) rfl fun _ _ _ _ _ _ _ _ => Bdu a1 b1
     ·obtain ⟨e, h'⟩ := bt h
      cases Ej e
      obtain ⟨h1, h'⟩ := Bp h'
      exact .same hs h' (sv := .v (.c (.i .i64 _))) rfl fun _ _ _ _ _ _ _ _ => Bdn a1 b1 h1
     ·cases h
    ·split at h
     ·cases a2; cases b2
      split at h
      ·have e := (bt h).1; replace h := (bt h).2
       exact .same hs h (sv := .v (.c (.b _))) rfl fun _ _ _ _ _ _ _ _ => Bcw (Arm e) a1 b1
      ·have e := (bt h).1; replace h := (bt h).2
       exact .same hs h (sv := .v (.c (.b _))) rfl fun _ _ _ _ _ _ _ _ => Bdh (Arm e) a1 b1
      ·cases h
     ·cases a2; cases b2
      split at h
      ·have h1 := (Bp h).1; replace h := (Bp h).2
       exact .same hs h (sv := .v (.c (.s _))) rfl fun _ _ _ _ _ _ _ _ => Bcr a1 b1 h1
      ·exact .same hs h (sv := .v (.c (.b _))) rfl fun _ _ _ _ _ _ _ _ => Bcx a1 b1
      ·exact .same hs h (sv := .v (.c (.b _))) rfl fun _ _ _ _ _ _ _ _ => Bdi a1 b1
      ·exact .same hs h (sv := .v (.c (.b _))) rfl fun _ _ _ _ _ _ _ _ => Bda a1 b1
      ·exact .same hs h (sv := .v (.c (.b _))) rfl fun _ _ _ _ _ _ _ _ => Bc3 a1 b1
      ·cases h
     ·cases h
  ·cases h
 ·cases h
theorem Abv {t k off : Nat} {fi : TI} (h : Wc t k = some (off, fi)) : ∃ (fs : Array Field) (f : Field), Tryz.prog.underlying t = some (.struct fs) /\ fs[k]? = some f /\ f.offset = off /\ TIok Tryz.prog f.type fi := by
 unfold Wc at h
 split at h
 ·rename_i ti ht
  obtain ⟨⟨d, hd, hk⟩, _⟩ := Ey ht
  split at h
  ·rename_i fs hk'
   rw [hk'] at hk
   obtain ⟨l, rfl, hl⟩ := hk
   split at h
   ·rename_i off' ft hn
    rw [He, <- hl, List.getElem?_map] at hn
    cases hf : l.toList[k]? with
    | none => rw [hf] at hn; cases hn
    | some f =>
     rw [hf] at hn; cases hn
     cases hft : En f.type with
     | none => rw [hft] at h; cases h
     | some i =>
      rw [hft] at h; cases h
      exact ⟨l, f, hd, by simpa using hf, rfl, Ey hft⟩
   ·cases h
  ·cases h
 ·cases h
theorem Bal (hs : Sat B amb ρ st env w) {x : Operand} {t : TypeId} {k : Nat} (h : Xo st t x k K = some r) : LkOk B amb ρ st env w (.fieldAddr t x k) K r := by
 unfold Xo at h
 split at h
 ·rename_i q o off fi hx hf
  obtain ⟨fs, f, f1, f2, f3, ⟨_, z, f4, _⟩⟩ := Abv hf
  obtain ⟨u, h1, b, h2, rfl⟩ := hs.env.evC hx
  exact .same hs h (sv := .v (.c (.ptr q (o + off)))) ⟨b, h2, rfl⟩ fun _ _ _ _ _ _ _ _ => Atp f1 f2 f3 f4 h1
 ·rename_i q s i j off fi hx hf
  obtain ⟨fs, f, f1, f2, f3, ⟨_, z, f4, _⟩⟩ := Abv hf
  obtain ⟨u, h1, b, h2, rfl, h3, p1, p2, h4⟩ := hs.env.evC hx
  exact .same hs h (sv := .v (.c (.ep q s i (j + off)))) ⟨b, h2, by rw [<- Nat.add_assoc], h3, p1, p2, h4⟩ fun _ _ _ _ _ _ _ _ => Bc1 f1 f2 f3 f4 h4 h1
 ·cases h
theorem Zg {k : TK} {d : TypeDesc} (h : k.Is d) (hs : N3 k = false) : Qi d = true := by
 cases k with
 | struct fs => cases hs
 | other => exact h
 | _ => cases h; rfl
theorem A91 {t : TypeId} {d : TypeDesc} (hu : Tryz.prog.underlying t = some d) (hn : Qi d = true) (w : World) : (isAgg t).run Tryz.prog w = .ok false w := by
 simp only [isAgg, Sem.run_bind, run_underlying hu, Result.andThen_ok]
 cases d <;> first | rfl | cases hn
theorem Ada {ti : TI} {cs : List Cell} {o : Nat} {v : V1} (h : Sw ti cs o = some v) {vs : List Value} (hd : All2 (Cell.Den ρ) cs vs) :
  (N3 ti.k = true /\ ((vs.drop o).take ti.size).length = ti.size /\ v.Den ρ (.agg ((vs.drop o).take ti.size).toArray)) \/ (N3 ti.k = false /\ ∃ u, vs[o]? = some u /\ v.Den ρ u) := by
 unfold Sw at h
 cases hk : N3 ti.k with
 | true =>
  rw [hk] at h
  have e := (bt h).1; replace h := (bt h).2
  cases h
  have h1 := (hd.drop o).take ti.size
  exact .inl ⟨rfl, by rw [<- h1.len]; exact Nat.eq_of_beq_eq_true e, _, h1, rfl⟩
 | false =>
  rw [hk] at h
  cases hn : nth cs o with
  | none => rw [hn] at h; cases h
  | some c =>
   rw [hn] at h; cases h
   obtain ⟨u, h1, h2⟩ := hd.nth hn
   exact .inr ⟨rfl, u, h1, h2⟩
theorem Bam (hs : Sat B amb ρ st env w) {x : Operand} {t : TypeId} {k : Nat} (h : Xp st t x k K = some r) : LkOk B amb ρ st env w (.field t x k) K r := by
 unfold Xp at h
 split at h
 ·rename_i cs off fi hx hf
  obtain ⟨fs, f, f1, f2, f3, ⟨⟨d, hd, hk⟩, z, f4, _⟩⟩ := Abv hf
  obtain ⟨u, h1, vs, h2, rfl⟩ := hs.env.ev1 hx
  split at h
  ·rename_i v hv
   rcases Ada hv h2 with ⟨k1, k2, k3⟩ | ⟨k1, u, k2, k3⟩
   ·refine .same hs h (sv := .v v) k3 fun w1 _ _ _ _ _ _ _ => Bc0 f1 f2 h1 (fun w => ?_) f4 ?_
    ·cases hk' : fi.k with
     | struct l => rw [hk'] at hk; obtain ⟨l', rfl, _⟩ := hk; exact Azy hd w
     | _ => rw [hk'] at k1; cases k1
    ·rw [f3]
     apply Array.ext'
     simp [List.extract_eq_take_drop]
   ·exact .same hs h (sv := .v v) k3 fun w1 _ _ _ _ _ _ _ => Bcz f1 f2 h1 (fun w => A91 hd (Zg hk k1) w) (by rw [f3]; simpa using k2)
  ·cases h
 ·cases h
theorem Baq (hs : Sat B amb ρ st env w) {x : Operand} {t : TypeId} (h : Xr st t x K = some r) : LkOk B amb ρ st env w (.load t x) K r := by
 unfold Xr at h
 split at h
 ·rename_i q o ti hx ht
  obtain ⟨u, h1, b, h2, rfl⟩ := hs.env.evC hx
  obtain ⟨⟨d, hd, hk⟩, z, hz, _⟩ := Ey ht
  split at h
  ·rename_i cs hb
   split at h
   ·rename_i v hv
    obtain ⟨m, rs, m1, m2, m3, hM⟩ := hs.mem
    obtain ⟨b', e, vs, b1, b2, b3⟩ := Po m1 hb
    rw [h2] at b1; cases b1
    rcases Ada hv b2 with ⟨k1, k2, k3⟩ | ⟨k1, u, k2, k3⟩
    ·cases hk' : ti.k with
     | struct l =>
      rw [hk'] at hk; obtain ⟨l', rfl, _⟩ := hk
      exact .same hs h (sv := .v v) k3 fun w1 hw _ _ _ _ _ _ => Bc6 hd hz h1 k2 (hM.call hw) b3 rfl
     | _ => rw [hk'] at k1; cases k1
    ·exact .same hs h (sv := .v v) k3 fun w1 hw _ _ _ _ _ _ => Bc5 hd (Zg hk k1) h1 (hM.call hw) b3 (by simpa using k2)
   ·cases h
  ·cases h
 ·rename_i q k i j ti hx ht
  obtain ⟨u, h1, s, h2, rfl, h3, a, o, h4⟩ := hs.env.evC hx
  obtain ⟨⟨d, hd, hk⟩, z, hz, _⟩ := Ey ht
  split at h
  ·rename_i c hc
   have e := (bt h).1; replace h := (bt h).2
   simp only [Bool.and_eq_true] at e
   have e1 := Nat.eq_of_beq_eq_true e.1
   have e2 : j + ti.size <= k := Nat.le_of_ble_eq_true e.2
   subst e1
   obtain ⟨s', s1, s2⟩ := hs.rd hc
   rw [h2] at s1; cases s1
   obtain ⟨sf, sf1, sf2, _, _⟩ := Cs.form s2
   have hi : i < c.L.length := by
    have : s = sf := by
     obtain ⟨a1, a2, a3⟩ := s
     obtain ⟨b1, b2, b3⟩ := sf
     simp only [Sv.v, Value.slice.injEq] at sf1
     obtain ⟨rfl, rfl, rfl⟩ := sf1
     rfl
    subst this
    omega
   have hlen : (((Ay c.t (el c.L i)).drop j).take ti.size).length = ti.size := by
    rw [List.length_take, List.length_drop, Fm]; omega
   obtain ⟨ρ', vs, a1, a2, a3, a4, a5, a6⟩ := Adb (s := s) hi (((Ay c.t (el c.L i)).drop j).take ti.size) j st ρ hs hc h2 (fun p x hp => by
    rw [List.getElem?_take] at hp
    split at hp
    ·rwa [List.getElem?_drop] at hp
    ·cases hp)
   have hvl : vs.length = ti.size := by rw [<- a3.len, Qf, hlen]
   cases hk1 : N3 ti.k with
   | true =>
    rw [hk1] at h
    refine ⟨.v (.a _), .agg vs.toArray, _, ρ', h, a1, a2, ⟨vs, a3, rfl⟩, a4, a5, fun w1 hw _ _ _ _ _ _ => ?_⟩
    cases hk' : ti.k with
    | struct l =>
     rw [hk'] at hk; obtain ⟨l', rfl, _⟩ := hk
     refine Atr hd hz h1 hvl fun q u hq => ?_
     have := a6 w1 hw q u hq
     rw [<- this]
     rw [A0z h4, Nat.add_assoc]
    | _ => rw [hk'] at hk1; cases hk1
   | false =>
    rw [hk1] at h
    simp only [cond_false] at h
    split at h
    ·rename_i y hy
     rw [hy] at a3
     cases vs with
     | nil => exact a3.elim
     | cons v vs =>
      cases vs with
      | nil => exact ⟨.v (.c _), v, _, ρ', h, a1, a2, a3.1, a4, a5, fun w1 hw _ _ _ _ _ _ => Atq hd (Zg hk hk1) h1 (by have := a6 w1 hw 0 v rfl; simpa using this)⟩
      | cons v' vs => exact a3.2.elim
    ·cases h
  ·cases h
 ·cases h
theorem Ar5 (hs : Sat B amb ρ st env w) {x y : Operand} {t : TypeId} (h : Qb st t x y K = some r) : LkAll B amb ρ st env w (.indexAddr t x y) K r := by
 unfold Qb at h
 split at h
 ·rename_i q i e ei hx hy ht
  obtain ⟨u, h1, s, h2, rfl⟩ := hs.env.evC hx
  obtain ⟨v, g1, g2⟩ := hs.env.evC hy
  obtain ⟨t1, _, z, t2, _⟩ := Sb ht
  split at h
  ·rename_i c hc
   have e1 := (bt h).1; replace h := (bt h).2
   rw [Nat.eq_of_beq_eq_true e1] at t2
   obtain ⟨s', s1, T0, f0, L0, s3, s2⟩ := hs.rdI hc
   rw [h2] at s1; cases s1
   have key : ∀ n : Int, v = .int .i64 n -> 0 <= n /\ n < (c.L.length : Int) -> (SV.v (.c (.ep q (sz c.t) n.toNat 0))).Den ρ (.pointer (some (Bq s.v (n.toNat * sz c.t)))) /\ ∀ w1 n' d ty pos af g, Runs Tryz.prog n' env w1 ⟨d, .indexAddr t x y, ty, pos, af, g⟩ (.pointer (some (Bq s.v (n.toNat * sz c.t)))) w1 := fun n hv hn => by
    subst hv
    obtain ⟨b, off, len, cap, hp⟩ := Cs.ptr s2 (i := n.toNat) (by omega)
    obtain ⟨sf, sf1, sf2, _, _⟩ := Cs.form s2
    obtain ⟨p, m, cc⟩ := s
    obtain ⟨p', m', cc'⟩ := sf
    simp only [Sv.v, Value.slice.injEq] at hp sf1 sf2
    refine ⟨⟨_, h2, by rw [Nat.add_zero], by simp only; omega, b, off, hp.1⟩, fun w1 _ _ _ _ _ _ => Bc4 t1 t2 h1 g1 s2 (by omega)⟩
   split at h
   ·rename_i u' k h'
    obtain ⟨rfl, _, s', g3, g4, _⟩ := g2
    cases hb : Nat.beq q h' with
    | true =>
     rw [hb] at h
     cases Nat.eq_of_beq_eq_true hb
     rw [h2] at g3; cases g3
     obtain ⟨sf, sf1, sf2, _, _⟩ := Cs.form s2
     have hkl : k < c.L.length := by
      obtain ⟨p, m, cc⟩ := s
      obtain ⟨p', m', cc'⟩ := sf
      simp only [Sv.v, Value.slice.injEq] at sf1 sf2 g4
      omega
     obtain ⟨k1, k2⟩ := key (k : Int) rfl ⟨by omega, by omega⟩
     exact .same hs h k1 k2
    | false =>
     rw [hb] at h
     have hn := (Bp h).1; replace h := (Bp h).2
     obtain ⟨k1, k2⟩ := key (k : Int) rfl hn
     exact .same hs h k1 k2
   ·rename_i n
    cases g2
    have hn := (Bp h).1; replace h := (Bp h).2
    obtain ⟨k1, k2⟩ := key n rfl hn
    exact .same hs h k1 k2
   ·cases h
  ·cases h
 ·cases h
theorem Bao (hs : Sat B amb ρ st env w) {x y : Operand} {t : TypeId} (h : Qb st t x y K = some r) : LkOk B amb ρ st env w (.indexAddr t x y) K r := (Ar5 hs h).ok
theorem Baw (hs : Sat B amb ρ st env w) {x y : Operand} {t : TypeId} (h : Xu st t x y K = some r) : LkOk B amb ρ st env w (.index t x y) K r := by
 unfold Xu at h
 split at h
 ·rename_i s c hx hy
  obtain ⟨u, h1, h2⟩ := hs.env.evC hx
  cases h2
  obtain ⟨v, g1, g2⟩ := hs.env.evC hy
  split at h
  ·rename_i n hn
   cases Pm g2 hn
   have e := (bt h).1; replace h := (bt h).2
   have hb := (Bp h).1; replace h := (Bp h).2
   exact .same hs h (sv := .v (.c (.y _))) rfl fun _ _ _ _ _ _ _ _ => Bdo (Aro e) h1 g1 hb
  ·cases h
 ·cases h
theorem Baj (hs : Sat B amb ρ st env w) {x : Operand} {s t : TypeId} (h : Xm st s t x K = some r) : LkOk B amb ρ st env w (.convert s t x) K r := by
 unfold Xm at h
 split at h
 ·rename_i n si ti hx h1 h2
  obtain ⟨u, g1, g2⟩ := hs.env.evC hx
  cases g2
  obtain ⟨⟨d, hd, _⟩, _⟩ := Ey h1
  obtain ⟨⟨d', hd', hk'⟩, _⟩ := Ey h2
  split at h
  ·rename_i hk
   rw [hk] at hk'; cases hk'
   exact .same hs h (sv := .v (.c (.i .i64 _))) rfl fun _ _ _ _ _ _ _ _ => Bcv hd hd' g1 (Bi9 _)
  ·cases h
 ·cases h
theorem Apd (hs : EnvOk ρ st.env env) : ∀ {os : List Operand} {l : List (Nat × Nat)}, Wb st.env os = some l -> ∃ vs, evs env os = some vs /\ All2 (CapIs ρ) l vs
 | [], l, h => by cases h; exact ⟨[], rfl, trivial⟩
 | o :: os, l, h => by
  unfold Wb at h
  split at h
  ·rename_i q k ho
   obtain ⟨l', h1, h2⟩ := Af h
   cases h2
   obtain ⟨u, g1, b, g2, rfl⟩ := hs.evC ho
   obtain ⟨vs, k1, k2⟩ := Apd hs h1
   exact ⟨pt b k :: vs, by simp [evs, g1, k1], ⟨b, g2, rfl⟩, k2⟩
  ·cases h
theorem Ban (hs : Sat B amb ρ st env w) {f : FuncId} {caps : List Operand} (h : Xq st f caps K = some r) : LkOk B amb ρ st env w (.makeFunc (.func f) #[] caps.toArray) K r := by
 unfold Xq at h
 split at h
 ·rename_i l hl
  obtain ⟨vs, h1, h2⟩ := Apd hs.env hl
  exact .same hs h (sv := .v (.c (.fn f l))) ⟨vs, rfl, h2⟩ fun _ _ _ _ _ _ _ _ => Bdd h1
 ·cases h
theorem Ar6 (hs : Sat B amb ρ st env w) {args : List Operand} {tys : List TypeId} (h : Qc st args tys K = some r) : LkAll B amb ρ st env w (.call ⟨.builtin .len, args.toArray, tys.toArray⟩) K r := by
 unfold Qc at h
 split at h
 ·rename_i x t
  split at h
  ·rename_i q hx
   obtain ⟨u, h1, s, h2, rfl⟩ := hs.env.evC hx
   split at h
   ·rename_i c e hc ht
    obtain ⟨s', s1, s2⟩ := hs.rd hc
    rw [h2] at s1; cases s1
    obtain ⟨sf, sf1, sf2, sf3, sf4⟩ := Cs.form s2
    refine .same hs h (sv := .v (.c (.ln q c.L.length))) (v := .int .i64 (c.L.length : Int)) ⟨rfl, s, h2, ?_⟩ fun _ _ _ _ _ _ _ => Bc7 (Sb (e := e.1) (ei := e.2) ht).1 h1 s2
    obtain ⟨p, m, cc⟩ := s
    obtain ⟨p', m', cc'⟩ := sf
    simp only [Sv.v, Value.slice.injEq] at sf1 sf2
    simp only [maxLen] at *; omega
   ·cases h
  ·rename_i hx
   obtain ⟨u, h1, h2⟩ := hs.env.evC hx
   cases h2
   split at h
   ·rename_i e ht
    exact .same hs h (sv := .v (.c (.i .i64 0))) (v := .int .i64 ((0 : Nat) : Int)) rfl fun _ _ _ _ _ _ _ => Qn (Sb (e := e.1) (ei := e.2) ht).1 h1
   ·cases h
  ·rename_i s hx
   obtain ⟨u, h1, h2⟩ := hs.env.evC hx
   cases h2
   have e := (bt h).1; replace h := (bt h).2
   exact .same hs h (sv := .v (.c (.i .i64 _))) rfl fun _ _ _ _ _ _ _ => Bc8 (Aro e) h1
  ·cases h
 ·cases h
theorem Bap (hs : Sat B amb ρ st env w) {args : List Operand} {tys : List TypeId} (h : Qc st args tys K = some r) : LkOk B amb ρ st env w (.call ⟨.builtin .len, args.toArray, tys.toArray⟩) K r := (Ar6 hs h).ok
theorem I5 (he : EnvOk ρ st.env env) {o : Operand} {n : Int} (h : I4 st.env o = some n) : ev env o = some (.int .i64 n) := by
 unfold I4 at h
 split at h
 ·rename_i c hc
  obtain ⟨v, v1, v2⟩ := he.evC hc
  split at h
  ·rename_i m hm
   cases h
   rw [v1, Pm v2 hm]
  ·cases h
 ·cases h
theorem Bdc {P : Program} {n : Nat} {x y : Operand} {tys : Array TypeId} {i j : Int} {d : Option Nat} {ty : TypeId} {pos : String} {af : Array Edge} {g : Option (Nat × Bool)} (hx : ev env x = some (.int .i64 i)) (hy : ev env y = some (.int .i64 j)) :
  Runs P n env w ⟨d, .call { callee := .builtin .min, args := #[x, y], argTypes := tys }, ty, pos, af, g⟩ (.int .i64 (min i j)) w := fun a ha => by
 have : (if j < i then j else i) = min i j := by split <;> omega
 simp [execOp, resolve, invoke, builtin, ha.ev hx, ha.ev hy, Builtin.min_, Builtin.min2, this]
theorem Bdb {P : Program} {n : Nat} {x y : Operand} {tys : Array TypeId} {i j : Int} {d : Option Nat} {ty : TypeId} {pos : String} {af : Array Edge} {g : Option (Nat × Bool)} (hx : ev env x = some (.int .i64 i)) (hy : ev env y = some (.int .i64 j)) :
  Runs P n env w ⟨d, .call { callee := .builtin .max, args := #[x, y], argTypes := tys }, ty, pos, af, g⟩ (.int .i64 (max i j)) w := fun a ha => by
 have : (if i < j then j else i) = max i j := by split <;> omega
 simp [execOp, resolve, invoke, builtin, ha.ev hx, ha.ev hy, Builtin.max_, Builtin.max2, this]
theorem Bas (hs : Sat B amb ρ st env w) {args : List Operand} {tys : Array TypeId} (h : Lx st min args K = some r) : LkOk B amb ρ st env w (.call ⟨.builtin .min, args.toArray, tys⟩) K r := by
 unfold Lx at h
 split at h
 ·split at h
  ·rename_i a b ha hb
   exact .same hs h (sv := .v (.c (.i .i64 _))) rfl fun _ _ _ _ _ _ _ _ => Bdc (I5 hs.env ha) (I5 hs.env hb)
  ·cases h
 ·cases h
theorem Bar (hs : Sat B amb ρ st env w) {args : List Operand} {tys : Array TypeId} (h : Lx st max args K = some r) : LkOk B amb ρ st env w (.call ⟨.builtin .max, args.toArray, tys⟩) K r := by
 unfold Lx at h
 split at h
 ·split at h
  ·rename_i a b ha hb
   exact .same hs h (sv := .v (.c (.i .i64 _))) rfl fun _ _ _ _ _ _ _ _ => Bdb (I5 hs.env ha) (I5 hs.env hb)
  ·cases h
 ·cases h
theorem Abf (hs : Sat B amb ρ st env w) {op : Op} {q : Nat} {c : Cont} (hc : st.cont q = some c) {s : Sv} (hh : ρ[q]? = some (.row s)) {lo hi : Nat} (h1 : lo <= hi) (h2 : hi <= c.L.length) (h : I1 st q c.t ((c.L.take hi).drop lo) (.cut lo hi) K = some r)
  (hr : ∀ w1 n d ty pos af g, Runs Tryz.prog n env w1 ⟨d, op, ty, pos, af, g⟩ (s.cut (sz c.t) lo hi).v w1) : LkAll B amb ρ st env w op K r := by
 unfold I1 at h
 have hok := (bt h).1; replace h := (bt h).2
 obtain ⟨a1, a2, a3⟩ := Av2 hs hc hh (t := c.t) (l := (c.L.take hi).drop lo) (s' := s.cut (sz c.t) lo hi) (p := .cut lo hi) (fun c' hc' e => by simp [Adn, hc', e] at hok) (fun S hS => Cs.cut (C1 c.t) h1 h2 hS) ⟨h1, h2, rfl, rfl, rfl⟩ fun lo' hi' e => by cases e; exact ⟨h1, h2, rfl, rfl⟩
 exact ⟨_, _, _, _, h, Ext.one ρ _, a1, ⟨_, by rw [<- hs.len]; exact Di _ _, rfl⟩, a2, a3, hr⟩
theorem Ajy {p : Nat × Nat} : ∀ {vs : List View}, Pp vs = some p -> ∃ v ∈ vs, v.h = p.1 /\ v.pos = .c3 p.2
 | [], h => by cases h
 | v :: r, h => by
  unfold Pp at h
  split at h
  ·rename_i hi hv
   cases h
   exact ⟨v, List.mem_cons_self .., rfl, hv⟩
  ·obtain ⟨u, h1, h2⟩ := Ajy h
   exact ⟨u, List.mem_cons_of_mem _ h1, h2⟩
theorem Au1 {h n lo k : Nat} {p : (Nat × Nat) × List Chunk} : ∀ {own : List Chunk}, K2 h n lo k own = some p -> ∃ own1 own2 g t L vs hA, own = own1 ++ .row h g t L vs :: own2 /\ Pp vs = some (hA, p.1.1) /\ p.1.2 = L.length /\ sz t = k /\ p.2 = own1 ++ .row hA (n + 1) t ((L.take p.1.1).drop 0) [] :: .row n (n + 2) t ((L.take L.length).drop lo) [] :: own2
 | [], hc => by cases hc
 | c :: r, hc => by
  have pass : (∃ z, K2 h n lo k r = some z /\ (z.1, c :: z.2) = p) -> ∃ own1 own2 g t L vs hA, c :: r = own1 ++ .row h g t L vs :: own2 /\ Pp vs = some (hA, p.1.1) /\ p.1.2 = L.length /\ sz t = k /\ p.2 = own1 ++ .row hA (n + 1) t ((L.take p.1.1).drop 0) [] :: .row n (n + 2) t ((L.take L.length).drop lo) [] :: own2 := fun ⟨z, h1, e⟩ => by
   subst e
   obtain ⟨o1, o2, g, t, L, vs, hA, e1, e2, e3, e4, e5⟩ := Au1 h1
   exact ⟨c :: o1, o2, g, t, L, vs, hA, by rw [e1]; rfl, e2, e3, e4, by simp only [e5]; rfl⟩
  cases c with
  | row h' g t L vs =>
   simp only [K2] at hc
   cases hb : Nat.beq h' h with
   | true =>
    rw [hb] at hc
    simp only [cond_true] at hc
    split at hc
    ·rename_i q hq
     have e1 := (bt hc).1; replace hc := (bt hc).2
     cases hc
     cases Nat.eq_of_beq_eq_true hb
     exact ⟨[], r, g, t, L, vs, q.1, rfl, hq, rfl, Nat.eq_of_beq_eq_true e1, rfl⟩
    ·cases hc
   | false =>
    rw [hb] at hc
    simp only [cond_false, Option.map_eq_some_iff] at hc
    exact pass hc
  | box _ _ _ => simp only [K2, Option.map_eq_some_iff] at hc; exact pass hc
  | sha _ _ _ _ => simp only [K2, Option.map_eq_some_iff] at hc; exact pass hc
  | hol _ _ _ _ _ _ => simp only [K2, Option.map_eq_some_iff] at hc; exact pass hc
theorem Bfx (hs : Sat B amb ρ st env w) {op : Op} {q : Nat} {c : Cont} (hc : st.cont q = some c) {s : Sv} (hh : ρ[q]? = some (.row s)) {lo : Nat} (h2 : lo <= c.L.length) (h : Qw st q lo c.t ((c.L.take c.L.length).drop lo) (.cut lo c.L.length) K = some r)
  (hr : ∀ (T : Type) (f : T -> List Ce) (L : List T), (Ad (sz c.t) f L).rd (al w) w s.v -> lo <= L.length -> ∀ w1 n d ty pos af g, Runs Tryz.prog n env w1 ⟨d, op, ty, pos, af, g⟩ (s.cut (sz c.t) lo L.length).v w1) : LkAll B amb ρ st env w op K r := by
 unfold Qw at h
 split at h
 ·rename_i p hp
  have hg := (Bp h).1; replace h := (Bp h).2
  obtain ⟨o1, o2, g, t, L, vs, hA, e1, e2, e3, e4, e5⟩ := Au1 hp
  rw [e3] at hg
  obtain ⟨m, rs, h1, g2, g3, hM⟩ := hs.mem
  rw [e1] at h1
  obtain ⟨m1, m2, rfl, a1, a2⟩ := h1.split
  cases m2 with
  | nil => exact a2.elim
  | cons a m2 =>
   obtain ⟨⟨q', vl, k1, k2, rfl⟩, a3⟩ := a2
   rw [hh] at k1; cases k1
   obtain ⟨v, v1, v2, v3⟩ := Ajy e2
   obtain ⟨sA, ex, b1, b2, _, _⟩ := k2.at_ v v1
   rw [v3] at b2
   obtain ⟨c1, c2, c3, _⟩ := b2
   simp only at v2
   rw [v2] at b1
   have hrd := hM.mid.seeOV (List.mem_cons_self ..)
   have hM' : St B ([oC (Ad (sz t) (fD t) ((L.take p.1.1).drop 0)) (s.cut3 p.1.1).v, oC (Ad (sz t) (fD t) ((L.take L.length).drop lo)) (s.cut (sz t) lo L.length).v] ++ (m1 ++ m2)) rs w :=
    St.iso (l := [oC (Ad (sz t) (fD t) L) s.v]) hM.mid.unview fun F ⟨h0, F1, F2, f1, f2, f3, f4, f5⟩ => (Own.split (C1 t) hg.1 hg.2 f1).up f4 h0
   have hx1 := Ext.one ρ (.row (s.cut (sz t) lo L.length))
   have hx : Ext ρ (ρ ++ [.row (s.cut (sz t) lo L.length)] ++ [.num 0] ++ [.num 0]) := (hx1.trans (Ext.one _ _)).trans (Ext.one _ _)
   have hl : (ρ ++ [.row (s.cut (sz t) lo L.length)] ++ [.num 0] ++ [.num 0])[st.nxt]? = some (.row (s.cut (sz t) lo L.length)) := by
    have := Di ρ (.row (s.cut (sz t) lo L.length))
    rw [hs.len] at this
    exact (Ext.one _ _).get ((Ext.one _ _).get this)
   have hM2 : St B (m1 ++ oV (oC (Ad (sz t) (fD t) ((L.take p.1.1).drop 0)) (s.cut3 p.1.1).v) [] :: oV (oC (Ad (sz t) (fD t) ((L.take L.length).drop lo)) (s.cut (sz t) lo L.length).v) [] :: m2) rs w := by
    refine (St.perm (m' := m1 ++ ([oC (Ad (sz t) (fD t) ((L.take p.1.1).drop 0)) (s.cut3 p.1.1).v, oC (Ad (sz t) (fD t) ((L.take L.length).drop lo)) (s.cut (sz t) lo L.length).v] ++ m2)) hM' (by
     rw [<- List.append_assoc, <- List.append_assoc]
     exact List.perm_append_comm.append_right m2)).z fun F hF => ?_
    have toV : ∀ {o : As} {l : List As} {F : Bs}, Sep (o :: l) F w -> Sep (oV o [] :: l) F w := fun h => Z.toV _ h
    have key : ∀ (m1 : List As) {F : Bs}, Sep (m1 ++ oC (Ad (sz t) (fD t) ((L.take p.1.1).drop 0)) (s.cut3 p.1.1).v :: oC (Ad (sz t) (fD t) ((L.take L.length).drop lo)) (s.cut (sz t) lo L.length).v :: m2) F w -> Sep (m1 ++ oV (oC (Ad (sz t) (fD t) ((L.take p.1.1).drop 0)) (s.cut3 p.1.1).v) [] :: oV (oC (Ad (sz t) (fD t) ((L.take L.length).drop lo)) (s.cut (sz t) lo L.length).v) [] :: m2) F w := by
     intro m1
     induction m1 with
     | nil => intro F h; exact toV (h.cons_mono fun _ => toV)
     | cons a m1 ih => intro F h; exact h.cons_mono fun _ => ih
    exact key m1 hF
   refine ⟨_, _, _, _, h, hx, ⟨by simp [hs.len], hs.env.mono hx, _, rs, ?_, g2.mono hx fun _ h => h, g3, hM2⟩, ⟨_, hl, rfl⟩, ⟨by simp only; omega, fun c' hc' hg' => ?_, [], rfl⟩, rfl, by rw [e4]; exact hr _ _ _ (by rw [<- e4]; exact hrd) hg.2⟩
   ·simp only [e5]
    exact (a1.mono fun _ _ => Chunk.Is.mono hx fun _ h => h).append ⟨⟨_, [], hx.get b1, rfl, by rw [c3]⟩, ⟨_, [], hl, rfl, rfl⟩, a3.mono fun _ _ => Chunk.Is.mono hx fun _ h => h⟩
   ·rw [e1]
    simp only [e5] at hc'
    rcases List.mem_append.1 hc' with h' | h'
    ·exact ⟨c', List.mem_append_left _ h', .inl rfl⟩
    ·rcases List.mem_cons.1 h' with rfl | h'
     ·simp only [Ec] at hg'; omega
     ·rcases List.mem_cons.1 h' with rfl | h'
      ·simp only [Ec] at hg'; omega
      ·exact ⟨c', List.mem_append_right _ (List.mem_cons_of_mem _ h'), .inl rfl⟩
 ·refine Abf hs hc hh h2 (Nat.le_refl _) h ?_
  obtain ⟨s', k1, k2⟩ := hs.rd hc
  rw [hh] at k1; cases k1
  exact hr _ _ _ k2 h2
theorem Bdq {T : Type} {f : T -> List Ce} {L : List T} {k n : Nat} {S : Bs} {w1 w : World} {P : Program} {env : Env} {d : Option Nat} {ty : TypeId} {pos : String} {af : Array Edge} {g : Option (Nat × Bool)} {x hi mx : Operand} {t e : TypeId} {bytes : Nat} {z : Value} {s : Sv} {j : Int} (ht : P.underlying t = some (.slice e)) (hs : Sz P e k bytes z)
  (hx : ev env x = some s.v) (hhi : ev env hi = some (.int .i64 j)) (hmx : ev env mx = some (.int .i64 j)) (h : (Ad k f L).rd S w1 s.v) (h0 : 0 <= j /\ j <= (L.length : Int)) :
  Runs P n env w ⟨d, .slice t x none (some hi) (some mx), ty, pos, af, g⟩ (s.cut3 j.toNat).v w := fun b hb => by
 obtain ⟨s', e1, e2, hc, _⟩ := Cs.form h
 obtain rfl : s = s' := by cases s; cases s'; simpa [Sv.v] using e1
 have h4 : 0 <= j /\ j <= (s.c : Int) := by omega
 have h5 : 0 <= j /\ j <= (j.toNat : Int) := by omega
 have hx' : b.eval x = .slice s.p s.n s.c := hb.ev hx
 have hp : (if j.toNat = 0 then s.p else s.p.map (·.add (0 * k))) = s.p := by
  split
  ·rfl
  ·cases s.p with
   | none => rfl
   | some a => simp [Addr.add]
 simp only [execOp, hx', hb.ev hhi, hb.ev hmx, Option.map_some, Option.map_none, Instr.sliceAt, Sem.run_bind, run_underlying ht, Result.andThen_ok, Instr.slice, Instr.sliceBounds, Instr.sliceBound, asIntOf, Sem.run_pure, Sem.run_ite, if_pos h4, if_pos h5, hs.run, Nat.sub_zero, Sv.cut3, Sv.v, hp]
theorem Ar7 (hs : Sat B amb ρ st env w) {x : Operand} {t : TypeId} {lo hi : Option Operand} (h : Qd st t x lo hi K = some r) : LkAll B amb ρ st env w (.slice t x lo hi none) K r := by
 unfold Qd at h
 split at h
 ·rename_i q e ei hx ht
  obtain ⟨u, g1, s, g2, rfl⟩ := hs.env.evC hx
  obtain ⟨t1, _, z, t2, _⟩ := Sb ht
  split at h
  ·rename_i c hc
   have e1 := (bt h).1; replace h := (bt h).2
   rw [Nat.eq_of_beq_eq_true e1] at t2
   obtain ⟨s', s1, s2⟩ := hs.rd hc
   rw [g2] at s1; cases s1
   split at h
   ·rename_i lo hi
    split at h
    ·rename_i i j hi1 hj1
     have hg := (Bp h).1; replace h := (Bp h).2
     exact Abf hs hc g2 (by omega) (by omega) h fun w1 _ _ _ _ _ _ => Bdp t1 t2 g1 (I5 hs.env hi1) (I5 hs.env hj1) s2 hg
    ·cases h
   ·rename_i hi
    split at h
    ·rename_i j hj1
     have hg := (Bp h).1; replace h := (Bp h).2
     exact Abf hs hc g2 (by omega) (by omega) h fun w1 _ _ _ _ _ _ => Bdr t1 t2 g1 (I5 hs.env hj1) s2 hg
    ·cases h
   ·rename_i lo
    split at h
    ·rename_i i hi1
     have hg := (Bp h).1; replace h := (Bp h).2
     exact Bfx hs hc g2 (by omega) h fun T f L hL hlo w1 _ _ _ _ _ _ => Bds t1 t2 g1 (I5 hs.env hi1) hL (by omega)
    ·cases h
   ·cases h
  ·cases h
 ·cases h
theorem Bay (hs : Sat B amb ρ st env w) {x : Operand} {t : TypeId} {lo hi : Option Operand} (h : Qd st t x lo hi K = some r) : LkOk B amb ρ st env w (.slice t x lo hi none) K r := (Ar7 hs h).ok
theorem Bax (hs : Sat B amb ρ st env w) {x hi mx : Operand} {t : TypeId} (h : Xv st t x hi mx K = some r) : LkOk B amb ρ st env w (.slice t x none (some hi) (some mx)) K r := by
 unfold Xv at h
 split at h
 ·rename_i q e ei hx ht
  obtain ⟨u, g1, s, g2, rfl⟩ := hs.env.evC hx
  obtain ⟨t1, _, z, t2, _⟩ := Sb ht
  split at h
  ·rename_i c j mm hc hj hm
   have e1 := (bt h).1; replace h := (bt h).2
   rw [Nat.eq_of_beq_eq_true e1] at t2
   obtain ⟨s', s1, s2⟩ := hs.rd hc
   rw [g2] at s1; cases s1
   have hg := (Bp h).1; replace h := (Bp h).2
   obtain ⟨hg1, hg2, hg3⟩ := hg
   subst hg2
   unfold I1 at h
   have hok := (bt h).1; replace h := (bt h).2
   obtain ⟨a1, a2, a3⟩ := Av2 hs hc g2 (t := c.t) (l := (c.L.take j.toNat).drop 0) (s' := s.cut3 j.toNat) (p := .c3 j.toNat) (fun c' hc' e => by simp only [Adn, hc', e, Bool.false_eq_true] at hok) (fun S hS => Cs.cut3 (C1 c.t) (by omega) hS) ⟨by omega, rfl, rfl, rfl⟩ fun lo' hi' e => by cases e
   exact ⟨_, _, _, _, h, Ext.one ρ _, a1, ⟨_, by rw [<- hs.len]; exact Di _ _, rfl⟩, a2, a3, fun w1 _ _ _ _ _ _ _ => Bdq t1 t2 g1 (I5 hs.env hj) (I5 hs.env hm) s2 ⟨hg1, hg3⟩⟩
  ·cases h
 ·cases h
theorem Ar9 {C : Ctx} (hs : Sat B amb ρ st env w) {op : Op} (h : Jb C st op K = some r) : LkOk B amb ρ st env w op K r := by
 unfold Jb at h
 split at h
 ·exact Bat hs h
 ·exact Bag hs h
 ·exact Bau hs h
 ·exact Bak hs h
 ·exact Bah hs h
 ·exact Bav hs h
 ·exact Bal hs h
 ·exact Bam hs h
 ·exact Baq hs h
 ·exact Bao hs h
 ·exact Baw hs h
 ·exact Baj hs h
 ·rename_i f first caps
  split at h
  ·rename_i hf
   have : first = #[] := by cases first; simpa using hf
   subst this
   exact Ban hs h
  ·cases h
 ·exact Bap hs h
 ·exact Bas hs h
 ·exact Bar hs h
 ·exact Bay hs h
 ·exact Bax hs h
 ·cases h
end
end
section
open Go.RowKit
section
variable {ρ ρ' : List HV} {rs rs' : List Rd} {B : Base} {amb : List Rd} {st : SSt} {env : Env} {w : World} {m : List As}
theorem Tj {h : Nat} {p : Cont × List Chunk} : ∀ {own : List Chunk}, Ge h own = some p -> ∃ own1 own2 g vs, own = own1 ++ .row h g p.1.t p.1.L vs :: own2 /\ p.2 = own1 ++ own2
 | [], hc => by cases hc
 | .box k g cs :: r, hc => by
  simp only [Ge, Option.map_eq_some_iff] at hc
  obtain ⟨q, h1, rfl⟩ := hc
  obtain ⟨o1, o2, g', vs, e1, e2⟩ := Tj h1
  exact ⟨.box k g cs :: o1, o2, g', vs, by rw [e1]; rfl, by simp [e2]⟩
 | .sha k g t L :: r, hc => by
  simp only [Ge, Option.map_eq_some_iff] at hc
  obtain ⟨q, h1, rfl⟩ := hc
  obtain ⟨o1, o2, g', vs, e1, e2⟩ := Tj h1
  exact ⟨.sha k g t L :: o1, o2, g', vs, by rw [e1]; rfl, by simp [e2]⟩
 | .hol k g t L i j :: r, hc => by
  simp only [Ge, Option.map_eq_some_iff] at hc
  obtain ⟨q, h1, rfl⟩ := hc
  obtain ⟨o1, o2, g', vs, e1, e2⟩ := Tj h1
  exact ⟨.hol k g t L i j :: o1, o2, g', vs, by rw [e1]; rfl, by simp [e2]⟩
 | .row k g t L vs :: r, hc => by
  simp only [Ge] at hc
  cases hb : Nat.beq k h with
  | true =>
   rw [hb] at hc; cases hc
   cases Nat.eq_of_beq_eq_true hb
   exact ⟨[], r, g, vs, rfl, rfl⟩
  | false =>
   rw [hb] at hc
   simp only [cond_false, Option.map_eq_some_iff] at hc
   obtain ⟨q, h1, rfl⟩ := hc
   obtain ⟨o1, o2, g', vs', e1, e2⟩ := Tj h1
   exact ⟨.row k g t L vs :: o1, o2, g', vs', by rw [e1]; rfl, by simp [e2]⟩
theorem R2 {h : Nat} {p : (Nat × List Cell) × List Chunk} : ∀ {own : List Chunk}, Df h own = some p -> ∃ own1 own2, own = own1 ++ .box h p.1.1 p.1.2 :: own2 /\ p.2 = own1 ++ own2
 | [], hc => by cases hc
 | .row k g t L vs :: r, hc => by
  simp only [Df, Option.map_eq_some_iff] at hc
  obtain ⟨q, h1, rfl⟩ := hc
  obtain ⟨o1, o2, e1, e2⟩ := R2 h1
  exact ⟨.row k g t L vs :: o1, o2, by rw [e1]; rfl, by simp [e2]⟩
 | .sha k g t L :: r, hc => by
  simp only [Df, Option.map_eq_some_iff] at hc
  obtain ⟨q, h1, rfl⟩ := hc
  obtain ⟨o1, o2, e1, e2⟩ := R2 h1
  exact ⟨.sha k g t L :: o1, o2, by rw [e1]; rfl, by simp [e2]⟩
 | .hol k g t L i j :: r, hc => by
  simp only [Df, Option.map_eq_some_iff] at hc
  obtain ⟨q, h1, rfl⟩ := hc
  obtain ⟨o1, o2, e1, e2⟩ := R2 h1
  exact ⟨.hol k g t L i j :: o1, o2, by rw [e1]; rfl, by simp [e2]⟩
 | .box k g cs :: r, hc => by
  simp only [Df] at hc
  cases hb : Nat.beq k h with
  | true =>
   rw [hb] at hc; cases hc
   cases Nat.eq_of_beq_eq_true hb
   exact ⟨[], r, rfl, rfl⟩
  | false =>
   rw [hb] at hc
   simp only [cond_false, Option.map_eq_some_iff] at hc
   obtain ⟨q, h1, rfl⟩ := hc
   obtain ⟨o1, o2, e1, e2⟩ := R2 h1
   exact ⟨.box k g cs :: o1, o2, by rw [e1]; rfl, by simp [e2]⟩
def OwnLe (own own' : List Chunk) : Prop := ∀ c ∈ own', c ∈ own
theorem OwnLe.refl (own : List Chunk) : OwnLe own own := fun _ h => h
theorem OwnLe.trans {a b c : List Chunk} (h : OwnLe a b) (k : OwnLe b c) : OwnLe a c := fun x hx => h x (k x hx)
theorem OwnLe.mid {own1 own2 : List Chunk} {x : Chunk} : OwnLe (own1 ++ x :: own2) (own1 ++ own2) := fun c h => by
 rcases List.mem_append.1 h with h | h
 ·exact List.mem_append_left _ h
 ·exact List.mem_append_right _ (List.mem_cons_of_mem _ h)
theorem Of {h : Nat} {p : Cont × List Chunk} {own : List Chunk} (hc : Ge h own = some p) (h1 : OwnOk ρ rs own m) : OwnLe own p.2 /\ ∃ s m', ρ[h]? = some (.row s) /\ OwnOk ρ rs p.2 m' /\ ∀ w, Z w m (oC (Ad (sz p.1.t) (fD p.1.t) p.1.L) s.v :: m') := by
 obtain ⟨o1, o2, g, vs, e1, e2⟩ := Tj hc
 subst e1
 obtain ⟨m1, m2, rfl, a1, a2⟩ := h1.split
 cases m2 with
 | nil => exact a2.elim
 | cons a m2 =>
  obtain ⟨⟨s, vl, k1, k2, rfl⟩, a3⟩ := a2
  exact ⟨by rw [e2]; exact OwnLe.mid, s, m1 ++ m2, k1, by rw [e2]; exact a1.append a3, fun w => (Z.perm List.perm_middle).trans Z.unV⟩
theorem Akc {h : Nat} {c : Cont} : ∀ {vs : List View}, cutV h vs = some c -> ∃ v ∈ vs, v.h = h /\ c = ⟨v.t, v.L⟩ /\ ∃ lo hi, v.pos = .cut lo hi
 | [], hc => by cases hc
 | v :: r, hc => by
  simp only [cutV] at hc
  cases hb : Nat.beq v.h h with
  | true =>
   rw [hb] at hc
   simp only [cond_true] at hc
   split at hc
   ·rename_i lo hi hv
    cases hc
    exact ⟨v, List.mem_cons_self .., Nat.eq_of_beq_eq_true hb, rfl, lo, hi, hv⟩
   ·cases hc
  | false =>
   rw [hb] at hc
   obtain ⟨u, h1, h2⟩ := Akc hc
   exact ⟨u, List.mem_cons_of_mem _ h1, h2⟩
theorem Aty {h : Nat} : ∀ {own : List Chunk} {p : Cont × List Chunk} {m : List As}, Ku h own = some p -> OwnOk ρ rs own m -> OwnLe own p.2 /\ ∃ s m', ρ[h]? = some (.row s) /\ OwnOk ρ rs p.2 m' /\ ∀ w, Z w m (oC (Ad (sz p.1.t) (fD p.1.t) p.1.L) s.v :: m')
 | [], p, m, hc, _ => by cases hc
 | c :: r, p, [], _, h1 => h1.elim
 | c :: r, p, a :: m, hc, ⟨h1, h2⟩ => by
  have pass : (∃ z, Ku h r = some z /\ (z.1, c :: z.2) = p) -> OwnLe (c :: r) p.2 /\ ∃ s m', ρ[h]? = some (.row s) /\ OwnOk ρ rs p.2 m' /\ ∀ w, Z w (a :: m) (oC (Ad (sz p.1.t) (fD p.1.t) p.1.L) s.v :: m') := fun ⟨z, h3, e⟩ => by
   subst e
   obtain ⟨l1, s, m', k1, k2, k3⟩ := Aty h3 h2
   exact ⟨fun x hx => by
    rcases List.mem_cons.1 hx with rfl | hx
    ·exact List.mem_cons_self ..
    ·exact List.mem_cons_of_mem _ (l1 x hx), s, a :: m', k1, ⟨h1, k2⟩, fun w => (k3 w).cons.trans (Z.perm (List.Perm.swap ..))⟩
  cases c with
  | row k g t L vs =>
   simp only [Ku] at hc
   obtain ⟨q, vl, k1, k2, rfl⟩ := h1
   cases hb : Nat.beq k h with
   | true =>
    rw [hb] at hc; cases hc
    cases Nat.eq_of_beq_eq_true hb
    exact ⟨fun x hx => List.mem_cons_of_mem _ hx, q, m, k1, h2, fun w => Z.unV⟩
   | false =>
    rw [hb] at hc
    simp only [cond_false] at hc
    split at hc
    ·rename_i c hv
     cases hc
     obtain ⟨v, v1, v2, rfl, lo, hi, v3⟩ := Akc hv
     obtain ⟨s', ex, b1, b2, _, _⟩ := k2.at_ v v1
     rw [v3] at b2
     obtain ⟨c1, c2, c3, rfl, _⟩ := b2
     rw [v2] at b1
     refine ⟨fun x hx => List.mem_cons_of_mem _ hx, q.cut (sz t) lo hi, m, b1, h2, fun w F hF => ?_⟩
     obtain ⟨h0, F1, F2, f1, f2, f3, f4, f5⟩ := hF
     refine ⟨h0, F1, F2, ?_, f2, f3, f4, f5⟩
     rw [c3]
     exact Own.cut (C1 t) c1 c2 f1.1
    ·simp only [Option.map_eq_some_iff] at hc
     exact pass hc
  | box _ _ _ => simp only [Ku, Option.map_eq_some_iff] at hc; exact pass hc
  | sha _ _ _ _ => simp only [Ku, Option.map_eq_some_iff] at hc; exact pass hc
  | hol _ _ _ _ _ _ => simp only [Ku, Option.map_eq_some_iff] at hc; exact pass hc
theorem As4 {h : Nat} {p : (Nat × Nat) × Cont} : ∀ {vs : List View}, Ql h vs = some p -> ∃ v ∈ vs, v.h = h /\ p.2 = ⟨v.t, v.L⟩ /\ (v.pos = .ei p.1.1 p.1.2 \/ ∃ lo hi, v.pos = .ec p.1.1 p.1.2 lo hi)
 | [], hc => by cases hc
 | v :: r, hc => by
  simp only [Ql] at hc
  cases hb : Nat.beq v.h h with
  | true =>
   rw [hb] at hc
   simp only [cond_true] at hc
   split at hc
   ·rename_i i j hv
    cases hc
    exact ⟨v, List.mem_cons_self .., Nat.eq_of_beq_eq_true hb, rfl, .inl hv⟩
   ·rename_i i j lo hi hv
    cases hc
    exact ⟨v, List.mem_cons_self .., Nat.eq_of_beq_eq_true hb, rfl, .inr ⟨lo, hi, hv⟩⟩
   ·cases hc
  | false =>
   rw [hb] at hc
   obtain ⟨u, h1, h2⟩ := As4 hc
   exact ⟨u, List.mem_cons_of_mem _ h1, h2⟩
theorem As6 {t : Ty} {L : List (Ax t)} {q : Sv} {vl : List Vi} {i j : Nat} {s0 : Sv} {t0 : Ty} {L0 : List (Ax t0)} (hv : vC (Bq q.v (i * sz t + j)) s0.v ∈ vl) (hi : i < L.length) (hl : (Ay t (el L i))[j]? = some (.sl t0 L0)) (hM : St B (oV (oC (Ad (sz t) (fD t) L) q.v) vl :: m) rs w) :
  St B (oC (Ad (sz t0) (fD t0) L0) s0.v :: Hz (sz t) (fD t) L q.v (i * sz t + j) s0.v :: m) rs w :=
 hM.open hv (C1 t) hi (by rw [Dc, List.getElem?_map, hl]; rfl)
theorem Atx {h n : Nat} {p : Cont × List Chunk} : ∀ {own : List Chunk}, Kt h n own = some p -> ∃ own1 own2 k g t L vs z, own = own1 ++ .row k g t L vs :: own2 /\ Ql h vs = some z /\ p.1 = z.2 /\ p.2 = own1 ++ .hol k n t L z.1.1 z.1.2 :: own2
 | [], hc => by cases hc
 | c :: r, hc => by
  have pass : (∃ z, Kt h n r = some z /\ (z.1, c :: z.2) = p) -> ∃ own1 own2 k g t L vs z, c :: r = own1 ++ .row k g t L vs :: own2 /\ Ql h vs = some z /\ p.1 = z.2 /\ p.2 = own1 ++ .hol k n t L z.1.1 z.1.2 :: own2 := fun ⟨z, h3, e⟩ => by
   subst e
   obtain ⟨o1, o2, k, g, t, L, vs, z', e1, e2, e3, e4⟩ := Atx h3
   exact ⟨c :: o1, o2, k, g, t, L, vs, z', by rw [e1]; rfl, e2, e3, by simp only [e4]; rfl⟩
  cases c with
  | row k g t L vs =>
   simp only [Kt] at hc
   split at hc
   ·rename_i z hz
    cases hc
    exact ⟨[], r, k, g, t, L, vs, z, rfl, hz, rfl, rfl⟩
   ·simp only [Option.map_eq_some_iff] at hc
    exact pass hc
  | box _ _ _ => simp only [Kt, Option.map_eq_some_iff] at hc; exact pass hc
  | sha _ _ _ _ => simp only [Kt, Option.map_eq_some_iff] at hc; exact pass hc
  | hol _ _ _ _ _ _ => simp only [Kt, Option.map_eq_some_iff] at hc; exact pass hc
theorem Bbu (hs : Sat B amb ρ st env w) (h : Nat) : ∃ ρ', Ext ρ ρ' /\ Sat B amb ρ' (L7 h st) env w /\ Grow st (L7 h st) /\ (L7 h st).env = st.env := by
 unfold L7
 split
 ·rename_i p hp
  obtain ⟨o1, o2, k, g, t, L, vs, z, e1, e2, e3, e4⟩ := Atx hp
  obtain ⟨m, rs, h1, g2, g3, hM⟩ := hs.mem
  rw [e1] at h1
  obtain ⟨m1, m2, rfl, a1, a2⟩ := h1.split
  cases m2 with
  | nil => exact a2.elim
  | cons a m2 =>
   obtain ⟨⟨q, vl, k1, k2, rfl⟩, a3⟩ := a2
   obtain ⟨v, v1, v2, v3, v4⟩ := As4 e2
   obtain ⟨sv, ex, b1, b2, _, b4⟩ := k2.at_ v v1
   rw [v2] at b1
   have hx : Ext ρ (ρ ++ [.num 0] ++ [.num 0]) := (Ext.one ρ _).trans (Ext.one _ _)
   have key : ∃ s0, St B (oC (Ad (sz v.t) (fD v.t) v.L) sv.v :: Hz (sz t) (fD t) L q.v (z.1.1 * sz t + z.1.2) (Sv.v s0) :: (m1 ++ m2)) rs w := by
    rcases v4 with v4 | ⟨lo, hi, v4⟩
    ·rw [v4] at b2
     obtain ⟨c1, c2, c3⟩ := b2
     exact ⟨sv, As6 (b4 _ (by rw [c3]; exact List.mem_cons_self ..)) c1 c2 hM.mid⟩
    ·rw [v4] at b2
     obtain ⟨c1, c0, s0, c2, c3, c4, c5, rfl, c6⟩ := b2
     have h3 := (As6 (b4 _ (by rw [c6]; exact List.mem_cons_self ..)) c1 c2 hM.mid).cutO (C1 c0.t) c3 c4
     refine ⟨s0, ?_⟩
     obtain ⟨vh, vt, vL, vp⟩ := v
     simp only at c5 ⊢
     cases c5
     exact h3
   obtain ⟨s0, hM2⟩ := key
   refine ⟨_, hx, ⟨by simp [hs.len], hs.env.mono hx, oV (oC (Ad (sz v.t) (fD v.t) v.L) sv.v) [] :: (m1 ++ Hz (sz t) (fD t) L q.v (z.1.1 * sz t + z.1.2) (Sv.v s0) :: m2), rs, ⟨?_, ?_⟩, g2.mono hx fun _ h => h, g3, ?_⟩, ⟨by simp only; omega, fun c' hc' hg' => ?_, [], rfl⟩, rfl⟩
   ·rw [e3, v3]
    exact ⟨sv, [], hx.get b1, rfl, rfl⟩
   ·simp only [e4]
    exact (a1.mono fun _ _ => Chunk.Is.mono hx fun _ h => h).append ⟨⟨q, s0, hx.get k1, rfl⟩, a3.mono fun _ _ => Chunk.Is.mono hx fun _ h => h⟩
   ·exact (hM2.z Z.toV).perm (List.Perm.cons _ List.perm_middle.symm)
   ·rw [e1]
    rcases List.mem_cons.1 hc' with rfl | hc'
    ·simp only [Ec] at hg'; omega
    ·simp only [e4] at hc'
     rcases List.mem_append.1 hc' with h' | h'
     ·exact ⟨c', List.mem_append_left _ h', .inl rfl⟩
     ·rcases List.mem_cons.1 h' with rfl | h'
      ·simp only [Ec] at hg'; omega
      ·exact ⟨c', List.mem_append_right _ (List.mem_cons_of_mem _ h'), .inl rfl⟩
 ·exact ⟨ρ, Ext.refl ρ, hs, Grow.refl st, rfl⟩
theorem X9 : ∀ {l : List Cell} {st : SSt} {ρ : List HV}, Sat B amb ρ st env w -> ∃ ρ', Ext ρ ρ' /\ Sat B amb ρ' (Ic l st) env w /\ Grow st (Ic l st) /\ (Ic l st).env = st.env
 | [], st, ρ, hs => ⟨ρ, Ext.refl ρ, hs, Grow.refl st, rfl⟩
 | c :: l, st, ρ, hs => by
  unfold Ic
  split
  ·rename_i h
   obtain ⟨ρ1, a1, a2, a3, a4⟩ := Bbu hs h
   obtain ⟨ρ2, b1, b2, b3, b4⟩ := X9 (l := l) a2
   exact ⟨ρ2, a1.trans b1, b2, a3.trans b3, b4.trans a4⟩
  ·exact X9 hs
theorem As5 (hs : Sat B amb ρ st env w) (o : Operand) : ∃ ρ', Ext ρ ρ' /\ Sat B amb ρ' (Hf o st) env w /\ Grow st (Hf o st) /\ (Hf o st).env = st.env := by
 unfold Hf
 split
 ·exact X9 hs
 ·exact ⟨ρ, Ext.refl ρ, hs, Grow.refl st, rfl⟩
theorem Aqy {h : Nat} : ∀ {own : List Chunk} {p : HolD × List Chunk} {m : List As}, Kg h own = some p -> OwnOk ρ rs own m -> OwnLe own p.2 /\ ∃ (q q0 : Sv) (m' : List As), ρ[h]? = some (.row q) /\ OwnOk ρ rs p.2 m' /\ ∀ w, Z w m (Hz (sz p.1.t) (fD p.1.t) p.1.L q.v (p.1.i * sz p.1.t + p.1.j) q0.v :: m')
 | [], p, m, hc, _ => by cases hc
 | c :: r, p, [], _, h1 => h1.elim
 | c :: r, p, a :: m, hc, ⟨h1, h2⟩ => by
  have pass : (∃ z, Kg h r = some z /\ (z.1, c :: z.2) = p) -> OwnLe (c :: r) p.2 /\ ∃ (q q0 : Sv) (m' : List As), ρ[h]? = some (.row q) /\ OwnOk ρ rs p.2 m' /\ ∀ w, Z w (a :: m) (Hz (sz p.1.t) (fD p.1.t) p.1.L q.v (p.1.i * sz p.1.t + p.1.j) q0.v :: m') := fun ⟨z, h3, e⟩ => by
   subst e
   obtain ⟨l1, q, q0, m', k1, k2, k3⟩ := Aqy h3 h2
   exact ⟨fun x hx => by
    rcases List.mem_cons.1 hx with rfl | hx
    ·exact List.mem_cons_self ..
    ·exact List.mem_cons_of_mem _ (l1 x hx), q, q0, a :: m', k1, ⟨h1, k2⟩, fun w => (k3 w).cons.trans (Z.perm (List.Perm.swap ..))⟩
  cases c with
  | hol k g t L i j =>
   simp only [Kg] at hc
   cases hb : Nat.beq k h with
   | true =>
    rw [hb] at hc; cases hc
    cases Nat.eq_of_beq_eq_true hb
    obtain ⟨q, q0, k1, rfl⟩ := h1
    exact ⟨fun x hx => List.mem_cons_of_mem _ hx, q, q0, m, k1, h2, fun w => zI⟩
   | false =>
    rw [hb] at hc
    simp only [cond_false, Option.map_eq_some_iff] at hc
    exact pass hc
  | box _ _ _ => simp only [Kg, Option.map_eq_some_iff] at hc; exact pass hc
  | sha _ _ _ _ => simp only [Kg, Option.map_eq_some_iff] at hc; exact pass hc
  | row _ _ _ _ _ => simp only [Kg, Option.map_eq_some_iff] at hc; exact pass hc
theorem J7 {h : Nat} {p : (Nat × List Cell) × List Chunk} {own : List Chunk} (hc : Df h own = some p) (h1 : OwnOk ρ rs own m) : OwnLe own p.2 /\ (Chunk.box h p.1.1 p.1.2 ∈ own) /\ ∃ (b : Nat) (e : TypeId) (vs : List Value) (m' : List As), ρ[h]? = some (.box b) /\ All2 (Cell.Den ρ) p.1.2 vs /\ OwnOk ρ rs p.2 m' /\ ∀ w, Z w m (Aw b vs.toArray e :: m') := by
 obtain ⟨o1, o2, e1, e2⟩ := R2 hc
 subst e1
 obtain ⟨m1, m2, rfl, a1, a2⟩ := h1.split
 cases m2 with
 | nil => exact a2.elim
 | cons a m2 =>
  obtain ⟨⟨b, e, vs, k1, k2, rfl⟩, a3⟩ := a2
  exact ⟨by rw [e2]; exact OwnLe.mid, List.mem_append_right _ (List.mem_cons_self ..), b, e, vs, m1 ++ m2, k1, k2, by rw [e2]; exact a1.append a3, fun w => Z.perm List.perm_middle⟩
theorem Rz {h : Nat} : ∀ {own : List Chunk}, Iy h own = (Df h own).map fun p => (p.1.2, p.2)
 | [] => rfl
 | .row k g t L vs :: r => by simp only [Iy, Df, Rz (own := r)]; cases Df h r <;> rfl
 | .sha k g t L :: r => by simp only [Iy, Df, Rz (own := r)]; cases Df h r <;> rfl
 | .hol k g t L i j :: r => by simp only [Iy, Df, Rz (own := r)]; cases Df h r <;> rfl
 | .box k g cs :: r => by
  simp only [Iy, Df]
  cases Nat.beq k h with
  | true => rfl
  | false => simp only [cond_false, Rz (own := r)]; cases Df h r <;> rfl
theorem Ajx {h : Nat} {p : List Cell × List Chunk} {own : List Chunk} (hc : Iy h own = some p) : ∃ g, Df h own = some ((g, p.1), p.2) := by
 rw [Rz, Option.map_eq_some_iff] at hc
 obtain ⟨⟨⟨g, cs⟩, o⟩, h1, rfl⟩ := hc
 exact ⟨g, h1⟩
theorem Yz {e : Ty} {c : Cell} {l : Leaf} {v : Value} (h : Qr e c = some l) (hd : c.Den ρ v) : l.ty = e /\ ∀ w, (oC l.ce v).ok (fun _ => False) w := by
 unfold Qr at h
 split at h
 ·split at h
  ·rename_i hn
   cases h
   cases Pm hd hn
   exact ⟨rfl, pV _ rfl⟩
  ·cases h
 ·cases h; cases hd; exact ⟨rfl, pV _ rfl⟩
 ·cases h; cases hd; exact ⟨rfl, pV _ rfl⟩
 ·cases h; cases hd; exact ⟨rfl, pV _ rfl⟩
 ·cases h; cases hd; exact ⟨rfl, pN _ _⟩
 ·cases h
theorem Adx {e : Ty} {c : Cell} {own : List Chunk} {p : Leaf × List Chunk} {v : Value} (h : S9 e c own = some p) (hd : c.Den ρ v) (h1 : OwnOk ρ rs own m) : OwnLe own p.2 /\ ∃ m', OwnOk ρ rs p.2 m' /\ ∀ w, Z w m (oC p.1.ce v :: m') := by
 unfold S9 at h
 split at h
 ·rw [Option.map_eq_some_iff] at h
  obtain ⟨q, h2, rfl⟩ := h
  obtain ⟨s, s1, rfl⟩ := hd
  obtain ⟨hle, s', m', k1, k2, k3⟩ := Aty h2 h1
  rw [s1] at k1; cases k1
  exact ⟨hle, m', k2, k3⟩
 ·rw [Option.map_eq_some_iff] at h
  obtain ⟨q, h2, rfl⟩ := h
  exact ⟨OwnLe.refl _, m, h1, fun w => zP (Yz h2 hd).2 zI⟩
theorem Ie : ∀ {es : List Ty} {cs : List Cell} {own : List Chunk} {p : List Leaf × List Chunk} {vs : List Value} {m : List As}, E6 es cs own = some p -> All2 (Cell.Den ρ) cs vs -> OwnOk ρ rs own m -> OwnLe own p.2 /\ p.1.length = vs.length /\ ∃ m', OwnOk ρ rs p.2 m' /\ ∀ w, Z w m (Ao (p.1.map Leaf.ce) vs ++ m')
 | [], [], own, p, [], m, h, _, h1 => by cases h; exact ⟨OwnLe.refl _, rfl, m, h1, fun w => zI⟩
 | e :: es, c :: cs, own, p, v :: vs, m, h, ⟨d1, d2⟩, h1 => by
  unfold E6 at h
  obtain ⟨q, h2, h3⟩ := Af h
  obtain ⟨z, h4, h5⟩ := Af h3
  cases h5
  obtain ⟨l1, m1, k1, k2⟩ := Adx h2 d1 h1
  obtain ⟨l2, l3, m2, k3, k4⟩ := Ie h4 d2 k1
  exact ⟨l1.trans l2, by simp [l3], m2, k3, fun w => (k2 w).trans (k4 w).cons⟩
 | [], [], _, _, _ :: _, _, _, h, _ => h.elim
 | [], _ :: _, _, _, _, _, h, _, _ => by cases h
 | _ :: _, [], _, _, _, _, h, _, _ => by cases h
 | _ :: _, _ :: _, _, _, [], _, _, h, _ => h.elim
def Sees (S : Bs) (w : World) (m : List As) (rs : List Rd) : Prop := (∀ r ∈ rs, r.ok S w) /\ ∀ a ∈ m, ∃ F, (∀ b, F b -> S b) /\ a.ok F w
theorem St.sees (h : St B m rs w) : Sees (al w) w m rs := by
 obtain ⟨_, _, F, h2, _, h4⟩ := h
 refine ⟨fun r hr => r.mono (fun b hb => hb.2.1) (Lc.refl _ _) (h4 r hr), fun a ha => ?_⟩
 obtain ⟨F', h5, h6⟩ := h2.mem ha
 exact ⟨F', fun b hb => h2.lt b (h5 b hb), h6⟩
theorem Bdx {S : Bs} {k : Nat} {T : Type} {f : T -> List Ce} {L : List T} {q : Sv} {xs : List Value} (hS : Sees S w m rs) (hm : Bf k q.v L.length xs ∈ m) (hr : rX xs (L.flatMap f) ∈ rs) : (Ad k f L).rd S w q.v := by
 obtain ⟨F, hs, h0, hx, h7⟩ := hS.2 _ hm
 have h6 : Br S w (L.flatMap f) xs := hS.1 _ hr
 rcases h7 with ⟨e, hn⟩ | ⟨b, off, cap, cur, e, hd, e1, hb, hg, hnc, hcm, hsz, htk⟩
 ·rw [e]
  exact ⟨none, 0, by rw [hn], by omega, by simp [maxLen], fun hne => absurd (List.eq_nil_of_length_eq_zero hn) hne⟩
 ·rw [e1]
  exact ⟨_, cap, rfl, hnc, hcm, fun _ => ⟨b, off, xs, rfl, fun j hj => hs _ (hb j (Nat.lt_of_lt_of_le hj (Nat.mul_le_mul_right _ hnc))), hx, fun j u hj => Yr hg.1 htk hj, h6⟩⟩
theorem R6 {S : Bs} {h : Nat} {c : Cont} {m0 : List As} (hM : Sees S w m0 rs) : ∀ {own : List Chunk} {m : List As}, OwnOk ρ rs own m -> (∀ a ∈ m, a ∈ m0) -> Cr h own = some c -> ∃ s : Sv, ρ[h]? = some (.row s) /\ (Ad (sz c.t) (fD c.t) c.L).rd S w s.v
 | [], [], _, _, hc => by cases hc
 | .box k g cs :: own, a :: m, ⟨_, h2⟩, hm, hc => R6 hM h2 (fun a ha => hm a (List.mem_cons_of_mem _ ha)) hc
 | .row k g t L vs :: own, a :: m, ⟨h1, h2⟩, hm, hc => by
  obtain ⟨q, vl, k1, k2, rfl⟩ := h1
  have hm0 := hm _ (List.mem_cons_self ..)
  simp only [Cr] at hc
  cases hb : Nat.beq k h with
  | true =>
   rw [hb] at hc; cases hc
   cases Nat.eq_of_beq_eq_true hb
   exact ⟨q, k1, Bfh hM.2 hm0⟩
  | false =>
   rw [hb] at hc
   simp only [cond_false] at hc
   split at hc
   ·rename_i c' hv
    cases hc
    obtain ⟨v, v1, v2, v3⟩ := J9 hv
    obtain ⟨s', s1, s2⟩ := k2.get v v1
    subst v3
    exact ⟨s', by rw [<- v2]; exact s1, Bfi hM.2 hm0 s2⟩
   ·exact R6 hM h2 (fun a ha => hm a (List.mem_cons_of_mem _ ha)) hc
 | .sha k g t L :: own, a :: m, ⟨h1, h2⟩, hm, hc => by
  obtain ⟨q, xs, k1, rfl, k2⟩ := h1
  have hm0 := hm _ (List.mem_cons_self ..)
  simp only [Cr] at hc
  cases hb : Nat.beq k h with
  | true =>
   rw [hb] at hc; cases hc
   cases Nat.eq_of_beq_eq_true hb
   exact ⟨q, k1, Bdx hM hm0 k2⟩
  | false =>
   rw [hb] at hc
   exact R6 hM h2 (fun a ha => hm a (List.mem_cons_of_mem _ ha)) hc
 | [], _ :: _, h, _, _ => h.elim
 | .box _ _ _ :: _, [], h, _, _ => h.elim
 | .row _ _ _ _ _ :: _, [], h, _, _ => h.elim
 | .sha _ _ _ _ :: _, [], h, _, _ => h.elim
 | .hol _ _ _ _ _ _ :: own, _ :: _, ⟨_, h2⟩, hm, hc => R6 hM h2 (fun a ha => hm a (List.mem_cons_of_mem _ ha)) hc
 | .hol _ _ _ _ _ _ :: _, [], h, _, _ => h.elim
theorem A0o {S : Bs} (hM : Sees S w m rs) (h1 : OwnOk ρ rs st.own m) (h2 : RdsOk ρ st.rds rs) {h : Nat} {c : Cont} (hc : st.cont h = some c) : ∃ s : Sv, ρ[h]? = some (.row s) /\ (Ad (sz c.t) (fD c.t) c.L).rd S w s.v := by
 unfold SSt.cont at hc
 split at hc
 ·rename_i c' hO
  cases hc
  exact R6 hM h1 (fun _ h => h) hO
 ·obtain ⟨v, v1, v2, v3⟩ := J9 hc
  obtain ⟨r, r1, q, q1, q2⟩ := h2 v v1
  subst v3 q2
  exact ⟨q, by rw [<- v2]; exact q1, hM.1 _ r1⟩
theorem Bcj {S : Bs} {c : Ce} {v : Value} (h : ∀ w, (oC c v).ok (fun _ => False) w) : c.rd S w v := c.mono (fun _ h => h.elim) (Lc.refl _ _) (c.seen (h w))
theorem Bd0 {S : Bs} (hM : Sees S w m rs) (h1 : OwnOk ρ rs st.own m) (h2 : RdsOk ρ st.rds rs) {e : Ty} {c : Cell} {l : Leaf} {v : Value} (h : Aeq st e c = some l) (hd : c.Den ρ v) : l.ce.rd S w v := by
 unfold Aeq at h
 split at h
 ·rw [Option.map_eq_some_iff] at h
  obtain ⟨q, h3, rfl⟩ := h
  obtain ⟨s, s1, rfl⟩ := hd
  obtain ⟨s', k1, k2⟩ := A0o hM h1 h2 h3
  rw [s1] at k1; cases k1
  exact k2
 ·exact Bcj (Yz h hd).2
theorem Oe {S : Bs} (hM : Sees S w m rs) (h1 : OwnOk ρ rs st.own m) (h2 : RdsOk ρ st.rds rs) : ∀ {es : List Ty} {cs : List Cell} {ls : List Leaf} {vs : List Value}, Hh st es cs = some ls -> All2 (Cell.Den ρ) cs vs -> Br S w (ls.map Leaf.ce) vs
 | [], [], ls, [], h, _ => by cases h; rfl
 | e :: es, c :: cs, ls, v :: vs, h, ⟨d1, d2⟩ => by
  unfold Hh at h
  obtain ⟨l, h3, h4⟩ := Af h
  obtain ⟨ls', h5, h6⟩ := Af h4
  cases h6
  exact ⟨v, vs, rfl, Bd0 hM h1 h2 h3 d1, Oe hM h1 h2 h5 d2⟩
 | [], [], _, _ :: _, _, h => h.elim
 | [], _ :: _, _, _, h, _ => by cases h
 | _ :: _, [], _, _, h, _ => by cases h
 | _ :: _, _ :: _, _, [], _, h => h.elim
theorem J6 {x : List As} : ∀ (ls : List Leaf) (st : SSt) (ρ : List HV) (vs : List Value) (m : List As), ρ.length = st.nxt -> OwnOk ρ rs st.own m -> ls.length = vs.length -> St B (Ao (ls.map Leaf.ce) vs ++ (m ++ x)) rs w ->
  ∃ ρ' m', Ext ρ ρ' /\ ρ'.length = (Ar true ls st).2.nxt /\ OwnOk ρ' rs (Ar true ls st).2.own m' /\ St B (m' ++ x) rs w /\ All2 (Cell.Den ρ') (Ar true ls st).1 vs /\ Grow st (Ar true ls st).2 /\ (Ar true ls st).2.env = st.env /\ (Ar true ls st).2.rds = st.rds
 | [], st, ρ, [], m, hn, h1, _, hM => ⟨ρ, m, Ext.refl ρ, hn, h1, hM, trivial, Grow.refl st, rfl, rfl⟩
 | l :: ls, st, ρ, v :: vs, m, hn, h1, hl, hM => by
  have hl' : ls.length = vs.length := by simpa using hl
  have sc : ∀ (y : Cell) (u : Value) (hu : u.oneCell' = true), l.ce = cV u hu -> (∀ ρ, y.Den ρ u) -> ∃ ρ' m', Ext ρ ρ' /\ ρ'.length = (Ar true ls st).2.nxt /\ OwnOk ρ' rs (Ar true ls st).2.own m' /\ St B (m' ++ x) rs w /\ All2 (Cell.Den ρ') (y :: (Ar true ls st).1) (v :: vs) /\ Grow st (Ar true ls st).2 /\ (Ar true ls st).2.env = st.env /\ (Ar true ls st).2.rds = st.rds := fun y u hu he hx => by
   simp only [List.map_cons, Ao, List.cons_append, he] at hM
   obtain ⟨rfl, hM'⟩ := hM.valV
   obtain ⟨ρ', m', a1, a2, a3, a4, a5, a6, a7, a8⟩ := J6 ls st ρ vs m hn h1 hl' hM'
   exact ⟨ρ', m', a1, a2, a3, a4, ⟨hx ρ', a5⟩, a6, a7, a8⟩
  cases l with
  | i y => exact sc (.i .i64 y) _ rfl rfl fun _ => rfl
  | b y => exact sc (.b y) _ rfl rfl fun _ => rfl
  | s y => exact sc (.s y) _ rfl rfl fun _ => rfl
  | y y => exact sc (.y y) _ rfl rfl fun _ => rfl
  | sl t L =>
   simp only [List.map_cons, Ao, List.cons_append, Leaf.ce] at hM
   obtain ⟨s, rfl, hM'⟩ := hM.valS
   have hx := Ext.one ρ (.row s)
   have hlast := Di ρ (.row s)
   rw [hn] at hlast
   have hM2 : St B (Ao (ls.map Leaf.ce) vs ++ ((oV (oC (Ad (sz t) (fD t) L) s.v) [] :: m) ++ x)) rs w := (hM'.z Z.toV).perm List.perm_middle.symm
   obtain ⟨ρ', m', a1, a2, a3, a4, a5, a6, a7, a8⟩ := J6 ls { st with own := .row st.nxt st.nxt t L [] :: st.own, nxt := st.nxt + 1 } (ρ ++ [.row s]) vs (oV (oC (Ad (sz t) (fD t) L) s.v) [] :: m) (by simp [hn]) ⟨⟨s, [], hlast, rfl, rfl⟩, OwnOk.mono hx (fun _ h => h) h1⟩ hl' hM2
   refine ⟨ρ', m', hx.trans a1, a2, a3, a4, ⟨⟨s, a1.get hlast, rfl⟩, a5⟩, Grow.trans (b := { st with own := .row st.nxt st.nxt t L [] :: st.own, nxt := st.nxt + 1 }) ⟨Nat.le_succ _, fun c' hc hg => ?_, [], rfl⟩ a6, a7, a8⟩
   rcases List.mem_cons.1 hc with rfl | hc
   ·exact absurd hg (Nat.lt_irrefl _)
   ·exact ⟨c', hc, .inl rfl⟩
 | [], _, _, _ :: _, _, _, _, h, _ => by simp at h
 | _ :: _, _, _, [], _, _, _, h, _ => by simp at h
theorem Nb {x0 : List As} : ∀ (ls : List Leaf) (st : SSt) (ρ : List HV) (vs : List Value) (rs : List Rd), ρ.length = st.nxt -> OwnOk ρ rs st.own m -> RdsOk ρ st.rds rs -> (∀ S, (∀ r ∈ rs, r.ok S w) -> Br S w (ls.map Leaf.ce) vs) -> St B (m ++ x0) rs w ->
  ∃ ρ' rs', Ext ρ ρ' /\ (∀ r ∈ rs, r ∈ rs') /\ ρ'.length = (Ar false ls st).2.nxt /\ OwnOk ρ' rs' (Ar false ls st).2.own m /\ RdsOk ρ' (Ar false ls st).2.rds rs' /\ St B (m ++ x0) rs' w /\ All2 (Cell.Den ρ') (Ar false ls st).1 vs /\ Grow st (Ar false ls st).2 /\ (Ar false ls st).2.env = st.env /\ (Ar false ls st).2.own = st.own
 | [], st, ρ, vs, rs, hn, h1, h2, hr, hM => by
  have : vs = [] := hr _ hM.sees.1
  subst this
  exact ⟨ρ, rs, Ext.refl ρ, fun _ h => h, hn, h1, h2, hM, trivial, Grow.refl st, rfl, rfl⟩
 | l :: ls, st, ρ, vs, rs, hn, h1, h2, hr, hM => by
  obtain ⟨v, vs', rfl, _, _⟩ := hr _ hM.sees.1
  have hv : ∀ S, (∀ r ∈ rs, r.ok S w) -> l.ce.rd S w v := fun S hS => by
   obtain ⟨v', r', e, k1, _⟩ := hr S hS
   cases e; exact k1
  have hr' : ∀ S, (∀ r ∈ rs, r.ok S w) -> Br S w (ls.map Leaf.ce) vs' := fun S hS => by
   obtain ⟨v', r', e, _, k1⟩ := hr S hS
   cases e; exact k1
  have sc : ∀ (x : Cell) (u : Value) (hu : u.oneCell' = true), l.ce = cV u hu -> (∀ ρ, x.Den ρ u) -> ∃ ρ' rs', Ext ρ ρ' /\ (∀ r ∈ rs, r ∈ rs') /\ ρ'.length = (Ar false ls st).2.nxt /\ OwnOk ρ' rs' (Ar false ls st).2.own m /\ RdsOk ρ' (Ar false ls st).2.rds rs' /\ St B (m ++ x0) rs' w /\ All2 (Cell.Den ρ') (x :: (Ar false ls st).1) (v :: vs') /\ Grow st (Ar false ls st).2 /\ (Ar false ls st).2.env = st.env /\ (Ar false ls st).2.own = st.own := fun x u hu he hx => by
   have e := hv _ hM.sees.1
   rw [he] at e
   have e' : v = u := e
   subst e'
   obtain ⟨ρ', rs', a1, a2, a3, a4, a5, a6, a7, a8, a9, a10⟩ := Nb ls st ρ vs' rs hn h1 h2 hr' hM
   exact ⟨ρ', rs', a1, a2, a3, a4, a5, a6, ⟨hx ρ', a7⟩, a8, a9, a10⟩
  cases l with
  | i x => exact sc (.i .i64 x) _ rfl rfl fun _ => rfl
  | b x => exact sc (.b x) _ rfl rfl fun _ => rfl
  | s x => exact sc (.s x) _ rfl rfl fun _ => rfl
  | y x => exact sc (.y x) _ rfl rfl fun _ => rfl
  | sl t L =>
   obtain ⟨s, rfl⟩ := Cs.sv (hv _ hM.sees.1)
   have hx := Ext.one ρ (.row s)
   have hlast := Di ρ (.row s)
   rw [hn] at hlast
   have hsub : ∀ r ∈ rs, r ∈ rV s.v (Ad (sz t) (fD t) L) :: rs := fun _ h => List.mem_cons_of_mem _ h
   obtain ⟨ρ', rs', a1, a2, a3, a4, a5, a6, a7, a8, a9, a10⟩ := Nb ls { st with rds := ⟨st.nxt, t, L, .no⟩ :: st.rds, nxt := st.nxt + 1 } (ρ ++ [.row s]) vs' (rV s.v (Ad (sz t) (fD t) L) :: rs) (by simp [hn]) (OwnOk.mono hx hsub h1) (fun x hm => by
    rcases List.mem_cons.1 hm with rfl | hm
    ·exact ⟨_, List.mem_cons_self .., s, hlast, rfl⟩
    ·obtain ⟨r, r1, r2⟩ := h2 x hm
     exact ⟨r, List.mem_cons_of_mem _ r1, r2.mono hx⟩) (fun S hS => hr' S fun r h => hS r (List.mem_cons_of_mem _ h)) (hM.more hv)
   refine ⟨ρ', rs', hx.trans a1, fun r h => a2 r (hsub r h), a3, a4, a5, a6, ⟨⟨s, a1.get hlast, rfl⟩, a7⟩, Grow.trans (b := { st with rds := ⟨st.nxt, t, L, .no⟩ :: st.rds, nxt := st.nxt + 1 }) ⟨Nat.le_succ _, fun c' hc _ => ⟨c', hc, .inl rfl⟩, [_], rfl⟩ a8, a9, a10⟩
theorem Ll {a b : Ty} {l : List (Ax a)} {m : List (Ax b)} (h : Hr a b l = some m) : ∃ e : a = b, e ▸ l = m := by
 unfold Hr at h
 split at h
 ·rename_i hb
  cases h
  exact ⟨Ty.eq_of_beq hb, rfl⟩
 ·cases h
theorem Mn {h : Nat} : ∀ {own : List Chunk} {p : Cont × List Chunk} {m : List As}, Hi h own = some p -> OwnOk ρ rs own m -> OwnLe own p.2 /\ ∃ (q : Sv) (xs : List Value) (m' : List As), ρ[h]? = some (.row q) /\ OwnOk ρ rs p.2 m' /\ (∀ w, Z w m (Bf (sz p.1.t) q.v p.1.L.length xs :: m')) /\ rX xs (p.1.L.flatMap (fD p.1.t)) ∈ rs
 | [], _, _, h, _ => by cases h
 | .sha k g t L :: own, p, a :: m, hc, ⟨h1, h2⟩ => by
  simp only [Hi] at hc
  cases hb : Nat.beq k h with
  | true =>
   rw [hb] at hc; cases hc
   cases Nat.eq_of_beq_eq_true hb
   obtain ⟨q, xs, k1, rfl, k2⟩ := h1
   exact ⟨fun c hc => List.mem_cons_of_mem _ hc, q, xs, m, k1, h2, fun w => zI, k2⟩
  | false =>
   rw [hb] at hc
   simp only [cond_false, Option.map_eq_some_iff] at hc
   obtain ⟨z, h3, rfl⟩ := hc
   obtain ⟨l1, q, xs, m', k1, k2, k3, k4⟩ := Mn h3 h2
   exact ⟨fun c hc => by
    rcases List.mem_cons.1 hc with rfl | hc
    ·exact List.mem_cons_self ..
    ·exact List.mem_cons_of_mem _ (l1 c hc), q, xs, a :: m', k1, ⟨h1, k2⟩, fun w => (k3 w).cons.trans (Z.perm (List.Perm.swap ..)), k4⟩
 | .row k g t L vs :: own, p, a :: m, hc, ⟨h1, h2⟩ => by
  simp only [Hi, Option.map_eq_some_iff] at hc
  obtain ⟨z, h3, rfl⟩ := hc
  obtain ⟨l1, q, xs, m', k1, k2, k3, k4⟩ := Mn h3 h2
  exact ⟨fun c hc => by
   rcases List.mem_cons.1 hc with rfl | hc
   ·exact List.mem_cons_self ..
   ·exact List.mem_cons_of_mem _ (l1 c hc), q, xs, a :: m', k1, ⟨h1, k2⟩, fun w => (k3 w).cons.trans (Z.perm (List.Perm.swap ..)), k4⟩
 | .box k g cs :: own, p, a :: m, hc, ⟨h1, h2⟩ => by
  simp only [Hi, Option.map_eq_some_iff] at hc
  obtain ⟨z, h3, rfl⟩ := hc
  obtain ⟨l1, q, xs, m', k1, k2, k3, k4⟩ := Mn h3 h2
  exact ⟨fun c hc => by
   rcases List.mem_cons.1 hc with rfl | hc
   ·exact List.mem_cons_self ..
   ·exact List.mem_cons_of_mem _ (l1 c hc), q, xs, a :: m', k1, ⟨h1, k2⟩, fun w => (k3 w).cons.trans (Z.perm (List.Perm.swap ..)), k4⟩
 | .hol k g t L i j :: own, p, a :: m, hc, ⟨h1, h2⟩ => by
  simp only [Hi, Option.map_eq_some_iff] at hc
  obtain ⟨z, h3, rfl⟩ := hc
  obtain ⟨l1, q, xs, m', k1, k2, k3, k4⟩ := Mn h3 h2
  exact ⟨fun c hc => by
   rcases List.mem_cons.1 hc with rfl | hc
   ·exact List.mem_cons_self ..
   ·exact List.mem_cons_of_mem _ (l1 c hc), q, xs, a :: m', k1, ⟨h1, k2⟩, fun w => (k3 w).cons.trans (Z.perm (List.Perm.swap ..)), k4⟩
 | _ :: _, _, [], _, h => h.elim
theorem Ti {h : Nat} : ∀ {own : List Chunk} {p : (Nat × Cont × List View) × List Chunk} {m : List As}, Jh h own = some p -> OwnOk ρ rs own m -> OwnLe own p.2 /\ ∃ (q : Sv) (vl : List Vi) (m' : List As), ρ[p.1.1]? = some (.row q) /\ ViewsAre ρ q p.1.2.1.t p.1.2.1.L p.1.2.2 vl /\ OwnOk ρ rs p.2 m' /\ ∀ w, Z w m (oV (oC (Ad (sz p.1.2.1.t) (fD p.1.2.1.t) p.1.2.1.L) q.v) vl :: m')
 | [], _, _, h, _ => by cases h
 | .row k g t L vs :: own, p, a :: m, hc, ⟨h1, h2⟩ => by
  simp only [Jh] at hc
  cases hb : Nat.beq k h || inV h vs with
  | true =>
   rw [hb] at hc; cases hc
   obtain ⟨q, vl, k1, k2, rfl⟩ := h1
   exact ⟨fun c hc => List.mem_cons_of_mem _ hc, q, vl, m, k1, k2, h2, fun w => zI⟩
  | false =>
   rw [hb] at hc
   simp only [cond_false, Option.map_eq_some_iff] at hc
   obtain ⟨z, h3, rfl⟩ := hc
   obtain ⟨l1, q, vl, m', k1, k2, k3, k4⟩ := Ti h3 h2
   exact ⟨fun c hc => by
    rcases List.mem_cons.1 hc with rfl | hc
    ·exact List.mem_cons_self ..
    ·exact List.mem_cons_of_mem _ (l1 c hc), q, vl, a :: m', k1, k2, ⟨h1, k3⟩, fun w => (k4 w).cons.trans (Z.perm (List.Perm.swap ..))⟩
 | .sha k g t L :: own, p, a :: m, hc, ⟨h1, h2⟩ => by
  simp only [Jh, Option.map_eq_some_iff] at hc
  obtain ⟨z, h3, rfl⟩ := hc
  obtain ⟨l1, q, vl, m', k1, k2, k3, k4⟩ := Ti h3 h2
  exact ⟨fun c hc => by
   rcases List.mem_cons.1 hc with rfl | hc
   ·exact List.mem_cons_self ..
   ·exact List.mem_cons_of_mem _ (l1 c hc), q, vl, a :: m', k1, k2, ⟨h1, k3⟩, fun w => (k4 w).cons.trans (Z.perm (List.Perm.swap ..))⟩
 | .box k g cs :: own, p, a :: m, hc, ⟨h1, h2⟩ => by
  simp only [Jh, Option.map_eq_some_iff] at hc
  obtain ⟨z, h3, rfl⟩ := hc
  obtain ⟨l1, q, vl, m', k1, k2, k3, k4⟩ := Ti h3 h2
  exact ⟨fun c hc => by
   rcases List.mem_cons.1 hc with rfl | hc
   ·exact List.mem_cons_self ..
   ·exact List.mem_cons_of_mem _ (l1 c hc), q, vl, a :: m', k1, k2, ⟨h1, k3⟩, fun w => (k4 w).cons.trans (Z.perm (List.Perm.swap ..))⟩
 | .hol k g t L i j :: own, p, a :: m, hc, ⟨h1, h2⟩ => by
  simp only [Jh, Option.map_eq_some_iff] at hc
  obtain ⟨z, h3, rfl⟩ := hc
  obtain ⟨l1, q, vl, m', k1, k2, k3, k4⟩ := Ti h3 h2
  exact ⟨fun c hc => by
   rcases List.mem_cons.1 hc with rfl | hc
   ·exact List.mem_cons_self ..
   ·exact List.mem_cons_of_mem _ (l1 c hc), q, vl, a :: m', k1, k2, ⟨h1, k3⟩, fun w => (k4 w).cons.trans (Z.perm (List.Perm.swap ..))⟩
 | _ :: _, _, [], _, h => h.elim
theorem St.sealV {q : Sv} {t : Ty} {L : List (Ax t)} {vl : List Vi} (hs : St B (oV (oC (Ad (sz t) (fD t) L) q.v) vl :: m) rs w) : ∃ r0 : Rd, St B m (r0 :: rs) w /\ (∀ S w, r0.ok S w -> (rV q.v (Ad (sz t) (fD t) L)).ok S w) /\ ∀ (u : Value) (c : Ce), vR u c ∈ vl -> ∀ S w, r0.ok S w -> (rV u c).ok S w := by
 let r0 : Rd := ⟨fun S w => (rV q.v (Ad (sz t) (fD t) L)).ok S w /\ ∀ (u : Value) (c : Ce), vR u c ∈ vl -> (rV u c).ok S w, fun {S S' w w'} h1 h2 h3 => ⟨Rd.mono _ h1 h2 h3.1, fun u c hm => Rd.mono _ h1 h2 (h3.2 u c hm)⟩⟩
 exact ⟨r0, hs.unV fun F hv ho => ⟨(Ad (sz t) (fD t) L).seen ho, fun u c hm => hv _ hm⟩, fun S w h => h.1, fun u c hm S w h => h.2 u c hm⟩
theorem St.moreL {r0 : Rd} : ∀ {rl : List Rd} {rs : List Rd}, St B m rs w -> r0 ∈ rs -> (∀ r ∈ rl, ∀ S w, r0.ok S w -> r.ok S w) -> St B m (rl ++ rs) w
 | [], _, hs, _, _ => hs
 | r :: rl, _rs, hs, h0, hr => (St.moreL (rl := rl) hs h0 fun r' h' => hr r' (List.mem_cons_of_mem _ h')).more fun S hS => hr r (List.mem_cons_self ..) S w (hS r0 (List.mem_append_right _ h0))
theorem Av3 {q : Sv} {t : Ty} {L : List (Ax t)} : ∀ {vs : List View} {vl : List Vi}, ViewsAre ρ q t L vs vl -> ∃ rl : List Rd, RdsOk ρ (Zk vs) rl /\ ∀ r ∈ rl, ∃ u c, r = rV u c /\ vR u c ∈ vl
 | [], vl, _ => ⟨[], (fun _ h => by cases h), fun _ h => by cases h⟩
 | v :: vs, vl, ⟨l1, l2, e, ⟨s', _, h1, _, h2⟩, h3⟩ => by
  obtain ⟨rl, k1, k2⟩ := Av3 h3
  refine ⟨rV s'.v (Ad (sz v.t) (fD v.t) v.L) :: rl, fun x hx => ?_, fun r hr => ?_⟩
  ·rcases List.mem_cons.1 hx with rfl | hx
   ·exact ⟨_, List.mem_cons_self .., s', h1, rfl⟩
   ·obtain ⟨r, r1, r2⟩ := k1 x hx
    exact ⟨r, List.mem_cons_of_mem _ r1, r2⟩
  ·rcases List.mem_cons.1 hr with rfl | hr
   ·exact ⟨_, _, rfl, by rw [e, h2]; exact List.mem_append_left _ (List.mem_cons_self ..)⟩
   ·obtain ⟨u, c, e1, e2⟩ := k2 r hr
    exact ⟨u, c, e1, by rw [e]; exact List.mem_append_right _ e2⟩
theorem Aur (hs : Sat B amb ρ st env w) (h : Nat) : Sat B amb ρ (Ii h st) env w /\ Grow st (Ii h st) /\ (Ii h st).env = st.env := by
 unfold Ii
 obtain ⟨m, rs, h1, h2, h3, hM⟩ := hs.mem
 split
 ·rename_i p hp
  obtain ⟨l1, q, vl, m', k1, k2, k3, k4⟩ := Ti hp h1
  obtain ⟨r0, a1, a2, a3⟩ := (hM.z (k4 w)).sealV
  obtain ⟨rl, b1, b2⟩ := Av3 k2
  have hM2 := St.moreL (rl := rV q.v (Ad (sz p.1.2.1.t) (fD p.1.2.1.t) p.1.2.1.L) :: rl) a1 (List.mem_cons_self ..) fun r hr S w h0 => by
   rcases List.mem_cons.1 hr with rfl | hr
   ·exact a2 S w h0
   ·obtain ⟨u, c, rfl, e2⟩ := b2 r hr
    exact a3 u c e2 S w h0
  have hr : ∀ r' ∈ rs, r' ∈ (rV q.v (Ad (sz p.1.2.1.t) (fD p.1.2.1.t) p.1.2.1.L) :: rl) ++ r0 :: rs := fun _ h => List.mem_append_right _ (List.mem_cons_of_mem _ h)
  refine ⟨⟨hs.len, hs.env, m', _, OwnOk.mono (Ext.refl ρ) hr k3, fun x hx => ?_, fun r h => hr r (h3 r h), hM2⟩, ⟨Nat.le_refl _, fun c' hc _ => ⟨c', l1 c' hc, .inl rfl⟩, _ :: Zk p.1.2.2, rfl⟩, rfl⟩
  rcases List.mem_cons.1 hx with rfl | hx
  ·exact ⟨_, List.mem_append_left _ (List.mem_cons_self ..), q, k1, rfl⟩
  ·rcases List.mem_append.1 hx with hx | hx
   ·obtain ⟨r, r1, r2⟩ := b1 x hx
    exact ⟨r, List.mem_append_left _ (List.mem_cons_of_mem _ r1), r2⟩
   ·obtain ⟨r, r1, r2⟩ := h2 x hx
    exact ⟨r, hr r r1, r2⟩
 ·split
  ·rename_i p hp
   obtain ⟨l1, q, xs, m', k1, k2, k3, k4⟩ := Mn hp h1
   have hM2 := (hM.z (k3 w)).sealS (C1 p.1.t) k4
   have hr : ∀ r' ∈ rs, r' ∈ rV q.v (Ad (sz p.1.t) (fD p.1.t) p.1.L) :: rs := fun _ h => List.mem_cons_of_mem _ h
   refine ⟨⟨hs.len, hs.env, m', _, OwnOk.mono (Ext.refl ρ) hr k2, fun x hx => ?_, fun r h => hr r (h3 r h), hM2⟩, ⟨Nat.le_refl _, fun c' hc _ => ⟨c', l1 c' hc, .inl rfl⟩, [_], rfl⟩, rfl⟩
   rcases List.mem_cons.1 hx with rfl | hx
   ·exact ⟨_, List.mem_cons_self .., q, k1, rfl⟩
   ·obtain ⟨r, r1, r2⟩ := h2 x hx
    exact ⟨r, hr r r1, r2⟩
  ·exact ⟨hs, Grow.refl st, rfl⟩
theorem Qs : ∀ {l : List Cell} {st : SSt}, Sat B amb ρ st env w -> Sat B amb ρ (Gf l st) env w /\ Grow st (Gf l st) /\ (Gf l st).env = st.env
 | [], st, hs => ⟨hs, Grow.refl st, rfl⟩
 | c :: l, st, hs => by
  unfold Gf
  split
  ·rename_i h
   obtain ⟨a1, a2, a3⟩ := Aur hs h
   obtain ⟨b1, b2, b3⟩ := Qs (l := l) a1
   exact ⟨b1, a2.trans b2, b3.trans a3⟩
  ·exact Qs hs
theorem Oj : ∀ {l : List Cell} {st : SSt}, (Gf l st).nxt = st.nxt
 | [], _ => rfl
 | c :: l, st => by
  unfold Gf
  split
  ·rename_i h
   rw [Oj]
   unfold Ii
   split
   ·rfl
   ·split <;> rfl
  ·exact Oj
theorem Auq {h : Nat} : (Ii h st).nxt = st.nxt := by
 unfold Ii
 split
 ·rfl
 ·split <;> rfl
theorem Ae7 {c : Cell} {ty : Ty} {own : List Chunk} {p : List (Ax ty) × List Chunk} {v : Value} (h : Y0 c ty own = some p) (hd : c.Den ρ v) (h1 : OwnOk ρ rs own m) (hM : St B m rs w) :
  OwnLe own p.2 /\ ∃ (s : Sv) (xs : List Value) (m' : List As) (rs' : List Rd), v = s.v /\ (∀ r ∈ rs, r ∈ rs') /\ OwnOk ρ rs' p.2 m' /\ St B (Bf (sz ty) s.v p.1.length xs :: m') rs' w /\ rX xs (p.1.flatMap (fD ty)) ∈ rs' := by
 have more : ∀ r : Rd, ∀ r' ∈ rs, r' ∈ r :: rs := fun _ _ h => List.mem_cons_of_mem _ h
 unfold Y0 at h
 split at h
 ·cases h; cases hd
  exact ⟨OwnLe.refl _, nS, [], m, _, rfl, more _, OwnOk.mono (Ext.refl ρ) (more _) h1, hM.nilS (sz ty) (fD ty), List.mem_cons_self ..⟩
 ·obtain ⟨s, s1, rfl⟩ := hd
  split at h
  ·rename_i q hq
   simp only [Option.map_eq_some_iff] at h
   obtain ⟨l, h3, rfl⟩ := h
   obtain ⟨l1, q', xs, m', k1, k2, k3, k4⟩ := Mn hq h1
   rw [s1] at k1; cases k1
   obtain ⟨e, e2⟩ := Ll h3
   obtain ⟨⟨t', L'⟩, own'⟩ := q
   simp only at e e2 k3 k4
   subst e e2
   exact ⟨l1, s, xs, m', rs, rfl, fun _ h => h, k2, hM.z (k3 w), k4⟩
  ·obtain ⟨q, h2, h⟩ := Af h
   simp only [Option.map_eq_some_iff] at h
   obtain ⟨l, h3, rfl⟩ := h
   obtain ⟨l1, s', m', k1, k2, k3⟩ := Of h2 h1
   rw [s1] at k1; cases k1
   obtain ⟨e, e2⟩ := Ll h3
   obtain ⟨⟨t', L'⟩, own'⟩ := q
   simp only at e e2 k3
   subst e e2
   obtain ⟨xs, hM2⟩ := (hM.z (k3 w)).toS
   exact ⟨l1, s, xs, m', _, rfl, more _, OwnOk.mono (Ext.refl ρ) (more _) k2, hM2, List.mem_cons_self ..⟩
 ·cases h
theorem Aem (h2 : RdsOk ρ st.rds rs) {ty : Ty} {cs : List Cell} {a : Ax ty} {us : List Value} (h : Th st ty cs = some a) (hd : All2 (Cell.Den ρ) cs us) : ∀ S w, (∀ r ∈ rs, r.ok S w) -> Br S w (fD ty a) us := fun S w hS => by
 unfold Th at h
 obtain ⟨l, h3, h4⟩ := Af h
 rw [Dc, D5 h4]
 exact Oe (st := { st with own := [] }) (m := []) ⟨hS, fun _ h => by cases h⟩ (show OwnOk ρ rs [] [] from trivial) h2 h3 hd
theorem Sat.sha (hs : Sat B amb ρ st env w) {own' : List Chunk} {m' : List As} {rs : List Rd} {s : Sv} {t : Ty} {L : List (Ax t)} {xs : List Value} {w' : World} (h1 : OwnOk ρ rs own' m') (h2 : RdsOk ρ st.rds rs) (h3 : ∀ r ∈ amb, r ∈ rs) (h4 : rX xs (L.flatMap (fD t)) ∈ rs) (hM : St B (Bf (sz t) s.v L.length xs :: m') rs w') :
  Sat B amb (ρ ++ [.row s]) { st with own := .sha st.nxt st.nxt t L :: own', nxt := st.nxt + 1 } env w' := by
 have hx := Ext.one ρ (.row s)
 have hl := Di ρ (.row s)
 rw [hs.len] at hl
 exact ⟨by simp [hs.len], hs.env.mono hx, Bf (sz t) s.v L.length xs :: m', rs, ⟨⟨s, xs, hl, rfl, h4⟩, OwnOk.mono hx (fun _ h => h) h1⟩, h2.mono hx fun _ h => h, h3, hM⟩
end
end
section
open Go.RowKit
section
variable {ρ ρ' : List HV} {rs rs' : List Rd} {B : Base} {amb : List Rd} {st : SSt} {env : Env} {w : World} {m : List As} {R : Type} {r : R} {op : Op} {K : SV -> SSt -> Option R}
def After (B : Base) (amb : List Rd) (ρ : List HV) (st : SSt) (env : Env) (K : SV -> SSt -> Option R) (r : R) (v : Value) (w' : World) : Prop :=
 ∃ sv st' ρ', K sv st' = some r /\ Ext ρ ρ' /\ Sat B amb ρ' st' env w' /\ sv.Den ρ' v /\ Grow st st' /\ st'.env = st.env
def MkOk (q : Bool) (B : Base) (amb : List Rd) (ρ : List HV) (st : SSt) (env : Env) (w : World) (op : Op) (K : SV -> SSt -> Option R) (r : R) : Prop :=
 ∀ n d ty pos af, Ex Tryz.prog n env w ⟨some d, op, ty, pos, af, none⟩ fun v w' => (q = true -> Rel w w') /\ After B amb ρ st env K r v w'
theorem LkOk.mk (q : Bool) (h : LkOk B amb ρ st env w op K r) : MkOk q B amb ρ st env w op K r := fun n d ty pos af => by
 obtain ⟨sv, v, st', ρ', h1, h2, h3, h4, h5, h6, h7⟩ := h
 exact exq (h7 w (Rel.refl w) _ _ _ _ _ _) ⟨fun _ => Rel.refl w, sv, st', ρ', h1, h2, h3, h4, h5, h6⟩
theorem Grow.fresh {own' : List Chunk} {c : Chunk} (hg : Ec c = st.nxt) (hle : OwnLe st.own own') : Grow st { st with own := c :: own', nxt := st.nxt + 1 } := ⟨Nat.le_succ _, fun c' hc h => by
 rcases List.mem_cons.1 hc with rfl | hc
 ·rw [hg] at h; exact absurd h (Nat.lt_irrefl _)
 ·exact ⟨c', hle c' hc, .inl rfl⟩, [], rfl⟩
theorem Sat.row (hs : Sat B amb ρ st env w) {own' : List Chunk} {m' : List As} {rs : List Rd} {s : Sv} {t : Ty} {L : List (Ax t)} {w' : World} (h1 : OwnOk ρ rs own' m') (h2 : RdsOk ρ st.rds rs) (h3 : ∀ r ∈ amb, r ∈ rs) (hM : St B (oC (Ad (sz t) (fD t) L) s.v :: m') rs w') :
  Sat B amb (ρ ++ [.row s]) { st with own := .row st.nxt st.nxt t L [] :: own', nxt := st.nxt + 1 } env w' := by
 have hx := Ext.one ρ (.row s)
 have hl := Di ρ (.row s)
 rw [hs.len] at hl
 exact ⟨by simp [hs.len], hs.env.mono hx, oV (oC (Ad (sz t) (fD t) L) s.v) [] :: m', rs, ⟨⟨s, [], hl, rfl, rfl⟩, OwnOk.mono hx (fun _ h => h) h1⟩, h2.mono hx fun _ h => h, h3, hM.z Z.toV⟩
theorem Sat.rowDen (hs : Sat B amb ρ st env w) (s : Sv) : (SV.v (.c (.sl st.nxt))).Den (ρ ++ [.row s]) s.v := by
 have hl := Di ρ (.row s)
 rw [hs.len] at hl
 exact ⟨s, hl, rfl⟩
theorem Sat.newBox (hs : Sat B amb ρ st env w) {b : Nat} {e : TypeId} {cs : List Cell} {vs : List Value} {rs : List Rd} {w' : World} (h1 : OwnOk ρ rs st.own m) (h2 : RdsOk ρ st.rds rs) (h3 : ∀ r ∈ amb, r ∈ rs) (hd : All2 (Cell.Den ρ) cs vs) (hM : St B (Aw b vs.toArray e :: m) rs w') :
  Sat B amb (ρ ++ [.box b]) { st with own := .box st.nxt st.nxt cs :: st.own, nxt := st.nxt + 1 } env w' /\ (SV.v (.c (.ptr st.nxt 0))).Den (ρ ++ [.box b]) (pt b 0) := by
 have hx := Ext.one ρ (.box b)
 have hl := Di ρ (.box b)
 rw [hs.len] at hl
 exact ⟨⟨by simp [hs.len], hs.env.mono hx, Aw b vs.toArray e :: m, rs, ⟨⟨b, e, vs, hl, hd.mono fun _ _ => Cell.Den.mono hx, rfl⟩, OwnOk.mono hx (fun _ h => h) h1⟩, h2.mono hx fun _ h => h, h3, hM⟩, ⟨b, hl, rfl⟩⟩
theorem Ae9 {c : Cell} (h : c.shut = true) : c.Den ρ c.val := by
 cases c with
 | raw u => exact ⟨rfl, h⟩
 | i k x => rfl
 | y x => rfl
 | b x => rfl
 | s x => rfl
 | nil => rfl
 | _ => cases h
theorem Y2 : ∀ {l : List Cell}, l.all Cell.shut = true -> All2 (Cell.Den ρ) l (l.map Cell.val)
 | [], _ => trivial
 | c :: l, h => by
  simp only [List.all_cons, Bool.and_eq_true] at h
  exact ⟨Ae9 h.1, Y2 h.2⟩
theorem Bbm (hs : Sat B amb ρ st env w) {e : TypeId} (h : S7 st e K = some r) : MkOk true B amb ρ st env w (.alloc e) K r := fun n d ty pos af => by
 unfold S7 at h
 split at h
 ·rename_i ti ht
  cases hb : ti.zero.all Cell.shut with
  | false => rw [hb] at h; cases h
  | true =>
   rw [hb] at h
   obtain ⟨_, z, hz, hzz⟩ := Ey ht
   obtain ⟨m, rs, h1, h2, h3, hM⟩ := hs.mem
   refine Awb hz hM fun b w' hr hM' => ?_
   have hd := Y2 (ρ := ρ) hb
   rw [<- hzz] at hd
   obtain ⟨k1, k2⟩ := hs.newBox (e := e) h1 h2 h3 hd (by simpa using hM')
   exact ⟨fun _ => hr, _, _, _, h, Ext.one ρ _, k1, k2, Grow.fresh rfl (OwnLe.refl _), rfl⟩
 ·cases h
theorem A0k {v : Value} (h : v.oneCell' = true) : v.cells = #[v] := by
 cases v <;> first | rfl | cases h
theorem V1.Den.cells {x : V1} {v : Value} (h : x.Den ρ v) : All2 (Cell.Den ρ) x.cells v.cells.toList := by
 cases x with
 | c c => rw [A0k (Cell.Den.one h)]; exact ⟨h, trivial⟩
 | a l => obtain ⟨vs, h1, rfl⟩ := h; simpa [V1.cells, Value.cells] using h1
theorem Bbn (hs : Sat B amb ρ st env w) {x : Operand} {e : TypeId} (h : Ado st x K = some r) : MkOk true B amb ρ st env w (.box e x) K r := fun n d ty pos af => by
 unfold Ado at h
 split at h
 ·rename_i v hv
  obtain ⟨u, u1, u2⟩ := hs.env.ev1 hv
  obtain ⟨m, rs, h1, h2, h3, hM⟩ := hs.mem
  refine Bjn u1 hM fun b w' hr hM' => ?_
  obtain ⟨k1, k2⟩ := hs.newBox (e := e) h1 h2 h3 u2.cells (by simpa using hM')
  exact ⟨fun _ => hr, _, _, _, h, Ext.one ρ _, k1, k2, Grow.fresh rfl (OwnLe.refl _), rfl⟩
 ·cases h
theorem All2.splice {α β : Type} {R : α -> β -> Prop} {l l' : List α} {m m' : List β} {o : Nat} (h : All2 R l m) (h' : All2 R l' m') : All2 R (Go.Proofs.YtipinmfmejccdaaGreat.splice l o l') (Go.Proofs.YtipinmfmejccdaaGreat.splice m o m') := by
 unfold Go.Proofs.YtipinmfmejccdaaGreat.splice
 rw [h'.len]
 exact ((h.take o).append h').append (h.drop _)
theorem Bfw {α : Type} {l m : List α} {o : Nat} (h : o + m.length <= l.length) (k : Nat) : (splice l o m)[k]? = if o <= k /\ k < o + m.length then m[k - o]? else l[k]? := by
 unfold splice
 rw [List.append_assoc, List.getElem?_append, List.length_take, Nat.min_eq_left (by omega)]
 by_cases h1 : k < o
 ·rw [if_pos h1, if_neg (by omega), List.getElem?_take, if_pos h1]
 ·rw [if_neg h1, List.getElem?_append]
  by_cases h2 : k - o < m.length
  ·rw [if_pos h2, if_pos (by omega)]
  ·rw [if_neg h2, if_neg (by omega), List.getElem?_drop]
   congr 1
   omega
theorem A1p (off : Nat) (l : List Value) (cells : Array Value) (h : off + l.length <= cells.size) :
  ((l.zipIdx 0).foldl (fun cs (x : Value × Nat) => cs.setIfInBounds (off + x.2) x.1) cells) = (splice cells.toList off l).toArray := by
 obtain ⟨h1, h2⟩ := Great.foldl_set off l 0 cells
 apply Array.ext_getElem?
 intro k
 rw [h2, List.getElem?_toArray (xs := splice cells.toList off l), Bfw (by simpa using h), Nat.add_zero, Array.getElem?_toList]
 by_cases h3 : off <= k /\ k < off + l.length
 ·rw [if_pos h3, if_pos ⟨h3.1, h3.2, by omega⟩]
 ·rw [if_neg h3, if_neg (by omega), Array.getElem?_toList]
theorem Atj {se : List (Nat × Option SV)} (he : EnvOk ρ se env) {pl : List (Nat × Nat)} : ∀ {ps : List (Nat × Operand)} {cs cs' : List Cell} {us : List Value}, Yi cs pl ps se = some cs' -> All2 (Cell.Den ρ) cs us ->
  ∃ vals us', evP env ps = some vals /\ Instr.fill (pl.toArray[·]?) us.toArray vals = some (List.toArray us') /\ All2 (Cell.Den ρ) cs' us'
 | [], cs, cs', us, h, hd => by cases h; exact ⟨[], us, rfl, rfl, hd⟩
 | (i, x) :: ps, cs, cs', us, h, hd => by
  unfold Yi at h
  split at h
  ·rename_i off size v hn hv
   have hc := (bt h).1; replace h := (bt h).2
   simp only [Bool.and_eq_true] at hc
   have c1 := Nat.eq_of_beq_eq_true hc.1
   have c2 : off + size <= cs.length := Nat.le_of_ble_eq_true hc.2
   obtain ⟨u, u1, u2⟩ := he.ev1 hv
   have u3 := u2.cells
   obtain ⟨vals, us', k1, k2, k3⟩ := Atj he h (hd.splice (o := off) u3)
   have l1 := u3.len
   have l2 := hd.len
   refine ⟨(i, u) :: vals, us', by simp [evP, u1, k1], ?_, k3⟩
   unfold Instr.fill
   have e1 : pl.toArray[i]? = some (off, size) := by rw [He] at hn; simpa using hn
   simp only [e1]
   have l3 : u.cells.size = size := by rw [<- Array.length_toList, <- l1]; exact c1
   rw [if_neg (by simp only [List.size_toArray]; simp; omega)]
   have e2 : (u.cells.zipIdx.foldl (fun cs (x : Value × Nat) => cs.setIfInBounds (off + x.2) x.1) us.toArray) = (splice us off u.cells.toList).toArray := by
    have := A1p off u.cells.toList us.toArray (by simp; omega)
    rw [<- this, <- Array.foldl_toList, Array.toList_zipIdx]
   exact (by rw [<- k2, <- e2])
  ·cases h
theorem Ate : ∀ {fs : List Field} {pl : List (Nat × Nat)}, places (fs.map fun f => (f.offset, f.type)) = some pl -> fs.mapM (fun f => (Tryz.prog.info? f.type).map fun i => (f.offset, i.size)) = some pl
 | [], pl, h => by cases h; rfl
 | f :: fs, pl, h => by
  simp only [List.map_cons, places] at h
  split at h
  ·rename_i i l hi hl
   cases h
   obtain ⟨_, z, hz, _⟩ := Ey hi
   obtain ⟨ii, i1, i2, i3, i4⟩ := hz.info
   simp [List.mapM_cons, i1, Ate hl, i3]
  ·cases h
theorem As3 (hs : Sat B amb ρ st env w) {t : TypeId} {ps : List (Nat × Operand)} (h : N6 st t ps K = some r) : LkOk B amb ρ st env w (.build t ps.toArray) K r := by
 unfold N6 at h
 split at h
 ·rename_i ti ht
  obtain ⟨⟨d, hd, hk⟩, z, hz, hzz⟩ := Ey ht
  split at h
  ·rename_i fs hk'
   rw [hk'] at hk
   obtain ⟨l, rfl, hl⟩ := hk
   split at h
   ·rename_i pl hpl
    split at h
    ·rename_i cs hcs
     have hsh : ti.zero.all Cell.shut = true := by
      cases hb : ti.zero.all Cell.shut with
      | true => rfl
      | false => rw [hb] at hcs; cases hcs
     rw [hsh] at hcs
     have hd0 := Y2 (ρ := ρ) hsh
     obtain ⟨vals, us', k1, k2, k3⟩ := Atj hs.env hcs hd0
     obtain ⟨ii, i1, i2, i3, i4⟩ := hz.info
     refine .same hs h (sv := .v (.a cs)) ⟨us', k3, rfl⟩ fun _ _ _ _ _ _ _ _ => Bcu k1 ?_
     unfold Program.built
     simp only [i1, hd, i2, Ate (fs := l.toList) (by rw [hl]; exact hpl)]
     rw [<- k2, <- hzz]
    ·cases h
   ·cases h
  ·cases h
 ·cases h
theorem I3 {t e : TypeId} {ei : TI} {ty : Ty} (h : Ha t = some (e, ei, ty)) : Tryz.prog.underlying t = some (.slice e) /\ TIok Tryz.prog e ei := by
 unfold Ha at h
 split at h
 ·rename_i ti ht
  obtain ⟨⟨d, hd, hk⟩, _⟩ := Ey ht
  split at h
  ·rename_i e' hk'
   rw [hk'] at hk; cases hk
   split at h
   ·rename_i ei' he
    split at h
    ·cases h; exact ⟨hd, Ey he⟩
    ·cases h
   ·cases h
  ·cases h
 ·cases h
theorem Abw {k : Nat} : ∀ {vals : List Value}, (∀ v ∈ vals, v.cells.size = k) -> (vals.flatMap fun v => v.cells.toList).length = vals.length * k
 | [], _ => by simp
 | v :: vals, h => by
  rw [List.flatMap_cons, List.length_append, Abw fun u hu => h u (List.mem_cons_of_mem _ hu), Array.length_toList, h v (List.mem_cons_self ..), List.length_cons, Nat.add_mul, Nat.one_mul, Nat.add_comm]
theorem Ar3 (he : EnvOk ρ st.env env) {ty : Ty} : ∀ {k : Nat} {ps : List (Nat × Operand)} {own : List Chunk} {p : List (Ax ty) × List Chunk} {m : List As}, Xj st ty k ps own = some p -> OwnOk ρ rs own m ->
  OwnLe own p.2 /\ p.1.length = ps.length /\ ∃ (vals : List Value) (m' : List As), evP env ps = some ((vals.zipIdx k).map fun x => (x.2, x.1)) /\ vals.length = ps.length /\ (∀ v ∈ vals, v.cells.size = sz ty) /\ OwnOk ρ rs p.2 m' /\ (∀ w, Z w m (Ao (p.1.flatMap (fD ty)) (vals.flatMap fun v => v.cells.toList) ++ m'))
 | _, [], own, p, m, h, h1 => by cases h; exact ⟨OwnLe.refl _, rfl, [], m, rfl, rfl, (fun _ h => by cases h), h1, fun w => zI⟩
 | k, (i, x) :: ps, own, p, m, h, h1 => by
  unfold Xj at h
  have hi := Nat.eq_of_beq_eq_true (bt h).1; replace h := (bt h).2
  subst hi
  obtain ⟨v, v1, h⟩ := Af h
  obtain ⟨q, q1, h⟩ := Af h
  obtain ⟨a, a1, h⟩ := Af h
  obtain ⟨z, z1, h⟩ := Af h
  cases h
  obtain ⟨u, u1, u2⟩ := he.ev1 v1
  obtain ⟨l1, l2, m1, k1, k2⟩ := Ie q1 u2.cells h1
  obtain ⟨l3, l4, vals, m2, k3, k4, k5, k6, k7⟩ := Ar3 he z1 k1
  have hf : fD ty a = q.1.map Leaf.ce := by rw [Dc, D5 a1]
  have hu : u.cells.toList.length = sz ty := by rw [<- l2, <- Fm ty a, D5 a1]
  refine ⟨l1.trans l3, by simp [l4], u :: vals, m2, ?_, by simp [k4], fun v hv => ?_, k6, fun w => ?_⟩
  ·simp [evP, u1, k3, List.zipIdx_cons]
  ·rcases List.mem_cons.1 hv with rfl | hv
   ·simpa using hu
   ·exact k5 v hv
  ·simp only [List.flatMap_cons]
   rw [J3 (by rw [C1, hu]), List.append_assoc, hf]
   refine (k2 w).trans ?_
   intro F hF
   obtain ⟨F1, F2, g1, g2, g3, g4, g5⟩ := hF.split
   exact (Sep.join g1 (k7 w F2 g2) g3).up (fun b hb => hb.elim (g4 b) (g5 b)) hF.lt
theorem Grow.sha {st1 : SSt} (hg : Grow st st1) (_hn : st1.nxt = st.nxt) {own' : List Chunk} {t : Ty} {L : List (Ax t)} (hle : OwnLe st1.own own') : Grow st { st1 with own := .sha st.nxt st.nxt t L :: own', nxt := st.nxt + 1 } := ⟨Nat.le_succ _, fun c' hc h => by
 rcases List.mem_cons.1 hc with rfl | hc
 ·exact absurd h (Nat.lt_irrefl _)
 ·exact hg.own c' (hle c' hc) h, hg.rds⟩
theorem Ae4 : ∀ {ps : List (Nat × Operand)} {st : SSt}, Sat B amb ρ st env w -> Sat B amb ρ (Kz ps st) env w /\ Grow st (Kz ps st) /\ (Kz ps st).env = st.env /\ (Kz ps st).nxt = st.nxt
 | [], st, hs => ⟨hs, Grow.refl st, rfl, rfl⟩
 | p :: ps, st, hs => by
  unfold Kz
  split
  ·rename_i v _
   obtain ⟨a1, a2, a3⟩ := Qs (l := v.cells) hs
   obtain ⟨b1, b2, b3, b4⟩ := Ae4 (ps := ps) a1
   exact ⟨b1, a2.trans b2, b3.trans a3, b4.trans Oj⟩
  ·exact Ae4 hs
theorem Ar2 (he : EnvOk ρ st.env env) (h2 : RdsOk ρ st.rds rs) {ty : Ty} : ∀ {k : Nat} {ps : List (Nat × Operand)} {l : List (Ax ty)}, Xk st ty k ps = some l ->
  l.length = ps.length /\ ∃ (vals : List Value), evP env ps = some ((vals.zipIdx k).map fun x => (x.2, x.1)) /\ vals.length = ps.length /\ (∀ v ∈ vals, v.cells.size = sz ty) /\ ∀ S w, (∀ r ∈ rs, r.ok S w) -> Br S w (l.flatMap (fD ty)) (vals.flatMap fun v => v.cells.toList)
 | _, [], l, h => by cases h; exact ⟨rfl, [], rfl, rfl, (fun _ h => by cases h), fun _ _ _ => rfl⟩
 | k, (i, x) :: ps, l, h => by
  unfold Xk at h
  have hi := Nat.eq_of_beq_eq_true (bt h).1; replace h := (bt h).2
  subst hi
  obtain ⟨v, v1, h⟩ := Af h
  obtain ⟨a, a1, h⟩ := Af h
  obtain ⟨z, z1, h⟩ := Af h
  cases h
  obtain ⟨u, u1, u2⟩ := he.ev1 v1
  obtain ⟨l4, vals, k3, k4, k5, k6⟩ := Ar2 he h2 z1
  have hrd := Aem h2 a1 u2.cells
  have hu : u.cells.toList.length = sz ty := by
   unfold Th at a1
   obtain ⟨l0, a2, a3⟩ := Af a1
   have : ∀ {es : List Ty} {cs : List Cell} {ls : List Leaf} {st : SSt}, Hh st es cs = some ls -> ls.length = cs.length := fun {es} => by
    induction es with
    | nil => intro cs ls st h; cases cs with
     | nil => cases h; rfl
     | cons _ _ => cases h
    | cons e es ihe => intro cs ls st h; cases cs with
     | nil => cases h
     | cons c cs =>
      unfold Hh at h
      obtain ⟨q, h2, h3⟩ := Af h
      obtain ⟨z, h4, h5⟩ := Af h3
      cases h5
      simp [ihe h4]
   rw [<- u2.cells.len, <- this a2, <- Fm ty a, D5 a3]
  refine ⟨by simp [l4], u :: vals, ?_, by simp [k4], fun v hv => ?_, fun S w hS => ?_⟩
  ·simp [evP, u1, k3, List.zipIdx_cons]
  ·rcases List.mem_cons.1 hv with rfl | hv
   ·simpa using hu
   ·exact k5 v hv
  ·simp only [List.flatMap_cons]
   exact Tg (hrd S w hS) (k6 S w hS)
theorem Bbp (hs : Sat B amb ρ st env w) {t : TypeId} {len : Nat} {ps : List (Nat × Operand)} (h : Adp st t len ps K = some r) : MkOk true B amb ρ st env w (.buildSlice t len ps.toArray) K r := fun n d ty pos af => by
 unfold Adp at h
 split at h
 ·rename_i e ei te ht
  obtain ⟨t1, _, z, hz, _⟩ := I3 ht
  split at h
  ·rename_i l own hl
   have hc := (bt h).1; replace h := (bt h).2
   simp only [Bool.and_eq_true] at hc
   have c1 := Nat.eq_of_beq_eq_true hc.1.1
   have c2 := Nat.eq_of_beq_eq_true hc.1.2
   obtain ⟨m, rs, h1, h2, h3, hM⟩ := hs.mem
   obtain ⟨l1, l2, vals, m', k1, k2, k3, k4, k5⟩ := Ar3 hs.env hl h1
   have hM' := hM.z (k5 w)
   subst c1
   rw [<- c2] at hz hc
   cases ps with
   | nil =>
    cases vals with
    | cons _ _ => simp at k2
    | nil =>
     cases l with
     | cons _ _ => simp at l2
     | nil =>
      exact Bjo (T := Ax te) t1 hz (C1 te) hM' fun s w' hr hM2 => ⟨fun _ => hr, _, _, _, h, Ext.one ρ _, hs.row k4 h2 h3 hM2, hs.rowDen s, Grow.fresh rfl l1, rfl⟩
   | cons p ps =>
    have hsum : (vals.flatMap fun v => v.cells.toList).length = (p :: ps).length * sz te := by
     rw [Abw k3, k2]
    refine Bjp l _ (p :: ps).length t1 hz (C1 te) k1 l2 hsum (by simp) hc.2 ?_ (fun w => zI) hM' fun s w' hr hM2 => ⟨fun _ => hr, _, _, _, h, Ext.one ρ _, hs.row k4 h2 h3 hM2, hs.rowDen s, Grow.fresh rfl l1, rfl⟩
    exact Great.fill_whole hz.2.2 vals _ k3 (by rw [k2]; simp)
  ·split at h
   ·rename_i l hl
    have hc := (bt h).1; replace h := (bt h).2
    simp only [Bool.and_eq_true] at hc
    have c1 := Nat.eq_of_beq_eq_true hc.1.1.1
    have c2 := Nat.eq_of_beq_eq_true hc.1.2
    obtain ⟨q1, q2, q3, q4⟩ := Ae4 (ps := ps) hs
    obtain ⟨m, rs, h1, h2, h3, hM⟩ := q1.mem
    obtain ⟨l2, vals, k1, k2, k3, k5⟩ := Ar2 (by rw [q3]; exact hs.env) h2 hl
    subst c1
    rw [<- c2] at hz hc
    have hsum : (vals.flatMap fun v => v.cells.toList).length = ps.length * sz te := by
     rw [Abw k3, k2]
    refine Bjq (f := fD te) l _ ps.length t1 hz k1 l2 hsum hc.1.1.2 hc.2 ?_ k5 hM fun s w' hr hM2 => ⟨fun _ => hr, _, _, _, h, Ext.one ρ _, ?_, hs.rowDen s, Grow.sha q2 q4 (OwnLe.refl _), q3⟩
    ·exact Great.fill_whole hz.2.2 vals _ k3 (by rw [k2]; simp)
    ·have hx1 : ∀ r ∈ rs, r ∈ rX (vals.flatMap fun v => v.cells.toList) (l.flatMap (fD te)) :: rs := fun _ h => List.mem_cons_of_mem _ h
     have := q1.sha (L := l) (OwnOk.mono (Ext.refl ρ) hx1 h1) (h2.mono (Ext.refl ρ) hx1) (fun r h => hx1 r (h3 r h)) (List.mem_cons_self ..) hM2
     rw [q4] at this
     exact this
   ·cases h
 ·cases h
theorem Bbq (hs : Sat B amb ρ st env w) {t : TypeId} {x : Operand} (h : Adq st t x K = some r) : MkOk true B amb ρ st env w (.buildSlice t 1 #[(0, x)]) K r := fun n d ty pos af => by
 unfold Adq at h
 split at h
 ·rename_i v e ei te hx ht
  obtain ⟨t1, _, z, hz, _⟩ := I3 ht
  have hc := (bt h).1; replace h := (bt h).2
  simp only [Bool.and_eq_true] at hc
  obtain ⟨u, u1, u2⟩ := hs.env.ev1 hx
  have u3 := u2.cells
  have hl : u.cells.size = ei.size := by rw [<- Array.length_toList, <- u3.len]; exact Nat.eq_of_beq_eq_true hc.1
  have hsm := Nat.le_of_ble_eq_true hc.2.2
  obtain ⟨i, hi, hzz, hsz, hbt⟩ := hz.info
  obtain ⟨m, rs, h1, h2, h3, hM⟩ := hs.mem
  have h0 := hz.2.2
  refine Fx (v := Sv.v ⟨some ⟨w.heap.size, 0, none⟩, 1, 1⟩) (w' := w.alloc (.cells u.cells e)) (fun a ha => ?_) ?_
  ·have h3 := run_buildSlice (P := Tryz.prog) w t e 1 (#[(0, x)].map fun p => (p.1, a.eval p.2)) u.cells i z t1 hi hzz (by rw [hsz]; omega) (by rw [hsz]; omega) (by
    have := Great.fill_whole (s := ei.size) h0 [u] ((Array.range (1 * i.size)).map (z.cells[· % z.cells.size]!)) (by simpa using hl) (by simp [hsz])
    rw [hsz] at this ⊢
    simpa [ha.ev u1] using this)
   simp only [execOp, Sem.run_bind, h3, Result.andThen_ok, Sem.run_pure]
   rfl
  ·have hM' := hM.alloc u.cells e
   have hx1 := Ext.one ρ (.box w.heap.size)
   have hl' := Di ρ (.box w.heap.size)
   rw [hs.len] at hl'
   refine ⟨fun _ => Rel.alloc w _, _, _, _, h, hx1, ⟨by simp [hs.len], hs.env.mono hx1, Aw w.heap.size u.cells e :: m, rs, ⟨⟨w.heap.size, e, u.cells.toList, hl', u3.mono fun _ _ => Cell.Den.mono hx1, by simp⟩, OwnOk.mono hx1 (fun _ h => h) h1⟩, h2.mono hx1 fun _ h => h, h3, hM'⟩, ⟨w.heap.size, hl', rfl⟩, Grow.fresh rfl (OwnLe.refl _), rfl⟩
 ·cases h
theorem Azs : ∀ {es : List Ty} {cs : List Cell} {ls : List Leaf}, Aa0 es cs = some ls -> (∀ c ∈ cs, c.shut = true) -> ls.length = cs.length /\ ∀ w, Z w [] (Ao (ls.map Leaf.ce) (cs.map Cell.val))
 | [], [], ls, h, _ => by cases h; exact ⟨rfl, fun w => zN⟩
 | e :: es, c :: cs, ls, h, hc => by
  unfold Aa0 at h
  obtain ⟨l, h1, h⟩ := Af h
  obtain ⟨ls', h2, h⟩ := Af h
  cases h
  obtain ⟨k1, k2⟩ := Azs h2 fun c h => hc c (List.mem_cons_of_mem _ h)
  exact ⟨by simp [k1], fun w => zP (Yz (ρ := []) h1 (Ae9 (hc c (List.mem_cons_self ..)))).2 (k2 w)⟩
 | [], _ :: _, _, h, _ => by cases h
 | _ :: _, [], _, h, _ => by cases h
theorem Bbt {x y : Operand} (h : Adt x y = true) : x = y := by
 unfold Adt at h
 split at h
 ·rw [Nat.eq_of_beq_eq_true h]
 ·cases h
theorem Bbr (hs : Sat B amb ρ st env w) {t : TypeId} {x y : Operand} (h : Adr st t x y K = some r) : MkOk true B amb ρ st env w (.makeSlice t x y) K r := fun n d ty pos af => by
 unfold Adr at h
 split at h
 ·rename_i c e ei te hx ht
  obtain ⟨t1, _, z, hz, hzz⟩ := I3 ht
  obtain ⟨u, u1, u2⟩ := hs.env.evC hx
  split at h
  ·rename_i n' zz hn hzl
   have hc := (bt h).1; replace h := (bt h).2
   simp only [Bool.and_eq_true] at hc
   have hb := (Bp h).1; replace h := (Bp h).2
   cases Pm u2 hn
   cases Bbt hc.2
   have c2 := Nat.eq_of_beq_eq_true hc.1.2.1
   obtain ⟨ls, z1, z2⟩ := Af hzl
   have hsh : ∀ c ∈ ei.zero, c.shut = true := by simpa using hc.1.2.2
   obtain ⟨k1, k2⟩ := Azs z1 hsh
   obtain ⟨m, rs, h1, h2, h3, hM⟩ := hs.mem
   rw [<- c2] at hz
   have hu1 : ev env x = some (.int .i64 ((n'.toNat : Nat) : Int)) := by rw [u1, Int.toNat_of_nonneg hb.1]
   exact Bjr zz t1 hz (C1 te) (fun w => by rw [Dc, D5 z2, hzz]; exact k2 w) hu1 (by omega) hc.1.1 hM fun s w' hr hM2 => ⟨fun _ => hr, _, _, _, h, Ext.one ρ _, hs.row h1 h2 h3 hM2, hs.rowDen s, Grow.fresh rfl (OwnLe.refl _), rfl⟩
  ·cases h
 ·cases h
theorem Wj {t : Ty} (h : Pz t = true) : FlatE (fD t) := fun x c hc => by
 cases t with
 | sl e => cases h
 | b n =>
  rw [Dc, List.mem_map] at hc
  obtain ⟨l, h1, rfl⟩ := hc
  have h2 : l.ty ∈ D4 (.b n) := by rw [<- Asb _ x]; exact List.mem_map_of_mem h1
  have h3 := List.all_eq_true.1 h l.ty h2
  cases l with
  | sl t L => cases h3
  | i x => exact ⟨_, rfl, rfl⟩
  | b x => exact ⟨_, rfl, rfl⟩
  | s x => exact ⟨_, rfl, rfl⟩
  | y x => exact ⟨_, rfl, rfl⟩
theorem Aa6 {c : Cell} {ty : Ty} {own : List Chunk} {p : List (Ax ty) × List Chunk} {v : Value} (h : Rr c ty own = some p) (hd : c.Den ρ v) (h1 : OwnOk ρ rs own m) :
  OwnLe own p.2 /\ ∃ (s : Sv) (m' : List As), v = s.v /\ OwnOk ρ rs p.2 m' /\ ∀ w, Z w m (oC (Ad (sz ty) (fD ty) p.1) s.v :: m') := by
 unfold Rr at h
 split at h
 ·cases h; cases hd
  exact ⟨OwnLe.refl _, nS, m, rfl, h1, fun w => zP (pN _ _) zI⟩
 ·obtain ⟨q, h2, h⟩ := Af h
  obtain ⟨l, h3, h⟩ := Af h
  cases h
  obtain ⟨s, s1, rfl⟩ := hd
  obtain ⟨l1, s', m', k1, k2, k3⟩ := Of h2 h1
  rw [s1] at k1; cases k1
  obtain ⟨e, e2⟩ := Ll h3
  obtain ⟨⟨t', L'⟩, own'⟩ := q
  simp only at e e2 k3
  subst e e2
  exact ⟨l1, s, m', rfl, k2, k3⟩
 ·cases h
theorem Afl {s s' : Sv} (h : s.v = s'.v) : s = s' := by
 obtain ⟨a1, a2, a3⟩ := s
 obtain ⟨b1, b2, b3⟩ := s'
 simp only [Sv.v, Value.slice.injEq] at h
 obtain ⟨rfl, rfl, rfl⟩ := h
 rfl
def L4 (st : SSt) (x : Operand) : Bool := match evC st.env x with
 | some .nil => true
 | _ => false
theorem Az0 (hs : Sat B amb ρ st env w) {t : TypeId} {x y : Operand} {cx cy : Cell} {e : TypeId} {ei : TI} {te : Ty} (hx : evC st.env x = some cx) (hy : evC st.env y = some cy) (ht : Ha t = some (e, ei, te)) (hsz : Nat.beq (sz te) ei.size = true) (hby : Nat.ble ei.bytes 127 = true) (h : Rs st cx cy te K = some r) (n d : Nat) (ty : TypeId) (pos : String) (af : Array Edge) :
  Ex Tryz.prog n env w ⟨some d, .call ⟨.builtin .append, #[x, y], #[t, t]⟩, ty, pos, af, none⟩ fun v w' => After B amb ρ st env K r v w' := by
 obtain ⟨t1, _, z, hz, _⟩ := I3 ht
 rw [<- Nat.eq_of_beq_eq_true hsz] at hz
 unfold Rs at h
 split at h
 ·rename_i hh
  obtain ⟨q1, q2, q3⟩ := Aur hs hh
  obtain ⟨u, u1, u2⟩ := hs.env.evC hx
  obtain ⟨v, v1, sv, s1, rfl⟩ := hs.env.evC hy
  split at h
  ·rename_i L own hL
   split at h
   ·rename_i c hc
    split at h
    ·rename_i M hM2
     have hb := (Bp h).1; replace h := (Bp h).2
     obtain ⟨m, rs, h1, h2, h3, hM⟩ := q1.mem
     obtain ⟨l1, s, xs, m', rs', rfl, hr, k2, k3, k4⟩ := Ae7 hL u2 h1 hM
     obtain ⟨vw, g1, g2, g3⟩ := J9 hc
     obtain ⟨r0, r1, sv', r2, r3⟩ := h2 vw g1
     subst g3 r3
     rw [g2, s1] at r2; cases r2
     obtain ⟨ec, ec2⟩ := Ll hM2
     obtain ⟨hv, tv, Lv, pv⟩ := vw
     simp only at ec ec2 r1
     subst ec ec2
     refine Bjm (L := L) (M := Lv) t1 hz v1 u1 (C1 tv) k3 k4 (hr _ r1) hb hby fun s' xs' w' hM3 => ?_
     have hx1 : ∀ r ∈ rs', r ∈ rX xs' ((L ++ Lv).flatMap (fD tv)) :: rs' := fun _ h => List.mem_cons_of_mem _ h
     have hsat := q1.sha (L := L ++ Lv) (OwnOk.mono (Ext.refl ρ) hx1 k2) (h2.mono (Ext.refl ρ) fun r h => hx1 r (hr r h)) (fun r h => hx1 r (hr r (h3 r h))) (List.mem_cons_self ..) hM3
     rw [Auq] at hsat
     exact ⟨_, _, _, h, Ext.one ρ _, hsat, hs.rowDen s', Grow.sha q2 Auq l1, q3⟩
    ·cases h
   ·cases h
  ·cases h
 ·cases h
theorem Az1 (hs : Sat B amb ρ st env w) {t : TypeId} {x y : Operand} (h : Abb st t x y K = some r) : MkOk (L4 st x && I8 t) B amb ρ st env w (.call ⟨.builtin .append, #[x, y], #[t, t]⟩) K r := fun n d ty pos af => by
 unfold Abb at h
 split at h
 ·rename_i cx cy e ei te hx hy ht
  obtain ⟨t1, _, z, hz, _⟩ := I3 ht
  obtain ⟨u, u1, u2⟩ := hs.env.evC hx
  obtain ⟨v, v1, v2⟩ := hs.env.evC hy
  have hcc := (bt h).1; replace h := (bt h).2
  simp only [Bool.and_eq_true] at hcc
  obtain ⟨hby, hsz⟩ := hcc
  rw [<- Nat.eq_of_beq_eq_true hsz] at hz
  obtain ⟨m, rs, h1, h2, h3, hM⟩ := hs.mem
  have sha : Pz te = false -> Rs st cx cy te K = some r -> Ex Tryz.prog n env w ⟨some d, .call ⟨.builtin .append, #[x, y], #[t, t]⟩, ty, pos, af, none⟩ fun v w' => ((L4 st x && I8 t) = true -> Rel w w') /\ After B amb ρ st env K r v w' := fun hf h => by
   obtain ⟨v, w', e1, e2⟩ := Az0 hs hx hy ht hsz hby h n d ty pos af
   have hfl : I8 t = false := by simp only [I8, ht]; rw [hf]; rfl
   exact ⟨v, w', e1, (fun h => by rw [hfl] at h; simp at h), e2⟩
  cases hc : Pz te with
  | true =>
   rw [hc] at h
   simp only [cond_true] at h
   split at h
   ·rename_i L own q hL
    obtain ⟨l1, s, m', rfl, k2, k3⟩ := Aa6 hL u2 h1
    have hM' := hM.z (k3 w)
    split at h
    ·rename_i c hcq
     split at h
     ·rename_i M hM2
      have hb := (Bp h).1; replace h := (Bp h).2
      obtain ⟨sv, s1, rfl⟩ := v2
      obtain ⟨s', s2, s3⟩ := hs.rd hcq
      rw [s1] at s2; cases s2
      obtain ⟨e, e2⟩ := Ll hM2
      obtain ⟨t', L'⟩ := c
      simp only at e e2 s3
      subst e e2
      cases hn : L4 st x with
      | false => exact Bjk t1 hz v1 u1 s3 (Wj hc) hM' hb hby fun s' w' hM3 => ⟨(fun h => by simp at h), _, _, _, h, Ext.one ρ _, hs.row k2 h2 h3 hM3, hs.rowDen s', Grow.fresh rfl l1, rfl⟩
      | true =>
       have hcx : cx = .nil := by
        unfold L4 at hn
        rw [hx] at hn
        cases cx <;> first | rfl | cases hn
       subst hcx
       cases hL
       have e0 : s = nS := Afl u2
       subst e0
       exact Bjl t1 hz v1 u1 s3 (Wj hc) hM' hb hby fun s' w' hr hM3 => ⟨fun _ => hr, _, _, _, h, Ext.one ρ _, hs.row k2 h2 h3 hM3, hs.rowDen s', Grow.fresh rfl l1, rfl⟩
     ·cases h
    ·cases h
   ·cases h
  | false =>
   rw [hc] at h
   simp only [cond_false] at h
   split at h
   ·rename_i L own q hL
    split at h
    ·rename_i c own' hcq
     split at h
     ·rename_i M hM2
      have hb := (Bp h).1; replace h := (Bp h).2
      obtain ⟨l1, s, m', rfl, k2, k3⟩ := Aa6 hL u2 h1
      have hM' := hM.z (k3 w)
      obtain ⟨sv, s1, rfl⟩ := v2
      obtain ⟨l2, s', m2, s2, k4, k5⟩ := Of hcq k2
      rw [s1] at s2; cases s2
      obtain ⟨e, e2⟩ := Ll hM2
      obtain ⟨t', L'⟩ := c
      simp only at e e2 k5
      subst e e2
      have hfl : I8 t = false := by simp only [I8, ht]; rw [hc]; rfl
      exact Aga t1 hz v1 u1 (hM'.z (k5 w).cons) hb hby fun s' w' hM3 => ⟨(fun h => by rw [hfl] at h; simp at h), _, _, _, h, Ext.one ρ _, hs.row k4 h2 h3 hM3, hs.rowDen s', Grow.fresh rfl (l1.trans l2), rfl⟩
     ·cases h
    ·exact sha hc h
   ·exact sha hc h
 ·cases h
theorem After.back {st1 : SSt} {ρ1 : List HV} {v : Value} {w' : World} (h : After B amb ρ1 st1 env K r v w') (a1 : Ext ρ ρ1) (a3 : Grow st st1) (a4 : st1.env = st.env) : After B amb ρ st env K r v w' := by
 obtain ⟨sv, st', ρ', b1, b2, b3, b4, b5, b6⟩ := h
 exact ⟨sv, st', ρ', b1, a1.trans b2, b3, b4, a3.trans b5, b6.trans a4⟩
theorem Bbw {x : Operand} (h : L4 st x = true) : Hf x st = st := by
 unfold L4 at h
 unfold Hf
 split at h
 ·rename_i hx; rw [hx]; rfl
 ·cases h
theorem Az2 (hs : Sat B amb ρ st env w) {t : TypeId} {x y : Operand} (h : Ajo st t x y K = some r) (n d : Nat) (ty : TypeId) (pos : String) (af : Array Edge) :
  Ex Tryz.prog n env w ⟨some d, .call ⟨.builtin .append, #[x, y], #[t, t]⟩, ty, pos, af, none⟩ fun v w' => ((L4 st x && I8 t) = true -> Rel w w') /\ After B amb ρ st env K r v w' := by
 obtain ⟨ρ1, a1, a2, a3, a4⟩ := As5 hs x
 obtain ⟨v, w', e1, e2, e3⟩ := Az1 a2 h n d ty pos af
 refine ⟨v, w', e1, fun hq => e2 ?_, e3.back a1 a3 a4⟩
 simp only [Bool.and_eq_true] at hq ⊢
 exact ⟨by rw [Bbw hq.1]; exact hq.1, hq.2⟩
end
end
end Go.Proofs.YtipinmfmejccdaaGreat
