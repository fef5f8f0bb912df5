/-
  A part of a symbolic walk that is proved sound: what the functions of a program do with data. No conditions.
-/
import Derived.Test.YtindphofgojfbaaSyD
set_option linter.unusedSimpArgs false
set_option linter.unusedVariables false
namespace Go.Proofs.Ytindphofgojfbaa.Sy
open Go.RowKit
def tys (P : Program) : Nat → TypeId → Option (List TypeId)
  | 0, _ => none
  | n + 1, t => match P.underlying t with
    | some (.struct fs) => fs.toList.foldr (fun f acc => match tys P n f.type, acc with | some a, some b => some (a ++ b) | _, _ => none) (some [])
    | some (.array k e) => match tys P n e with | some a => some (List.replicate k a).flatten | none => none
    | some _ => some [t]
    | none => none
def sh (P : Program) : Nat → TypeId → Option Sh
  | 0, _ => none
  | n + 1, t => match P.underlying t with
    | some (.int k) => some (.int k)
    | some .bool => some .bool
    | some .string => some .str
    | some (.slice e) => match tys P 8 e with | some ts => (ts.mapM (sh P n)).map .lst | none => none
    | _ => none
def shs (P : Program) (t : TypeId) : Option (List Sh) := match tys P 8 t with | some ts => ts.mapM (sh P 6) | none => none
def aggB (P : Program) (t : TypeId) : Bool := match P.underlying t with | some (.struct _) | some (.array _ _) => true | _ => false
def sizeT (P : Program) (t : TypeId) : Nat := P.cellsOf t
def tsOf (P : Program) (t : TypeId) : Option TS := if aggB P t then (shs P t).map .g else (sh P 6 t).map .c

inductive Ev where
  | ob (e : E)
  | call (f : FuncId) (ts : List TS) (as : List E) (us : List TS) (n : Nat)
  deriving Inhabited
structure Out where
  res : Option AV
  upd : List (Nat × Blk)
  evs : List Ev
  deriving Inhabited

def constA : Value → A
  | .int k n => if k.min ≤ n ∧ n ≤ k.max then .d (.int k) (.ki k n) else .k (.int k n)
  | .bool b => .d .bool (.kb b)
  | .string s => if s.size ≤ maxLen then .d .str (.ks s) else .k (.string s)
  | v => .k v
def constTV (v : Value) : TV := if oneB v then .c (constA v) else match v with | .agg l => if l.toList.all oneB then .g (l.toList.map constA) else .c .any | _ => .c .any
def zeroA (P : Program) (t : TypeId) : Value → A
  | .slice none 0 0 => match sh P 6 t with | some (.lst es) => .nilS es | _ => .k (.slice none 0 0)
  | v => constA v
def zeroAs (P : Program) (t : TypeId) (z : Value) : Option (List A) :=
  match tys P 8 t with
  | some ts => if z.cells.toList.all oneB && ts.length == z.cells.toList.length then some (List.zipWith (zeroA P) ts z.cells.toList) else none
  | none => none

def mkAr (op : BinOp) (k : IntKind) (a b : E) : E := match a, b with | .ki _ x, .ki _ y => .ki k (arI op k x y) | _, _ => .ar op k a b
def mkShf (op : BinOp) (k : IntKind) (a b : E) : E := match a, b with | .ki _ x, .ki _ y => .ki k (shI op k x y) | _, _ => .shf op k a b
def mkCmp (op : BinOp) (a b : E) : E := match a, b with | .ki _ x, .ki _ y => .kb (cmpB op x y) | _, _ => .cmp op a b
def negOp : BinOp → Option BinOp | .eql => some .neq | .neq => some .eql | .lss => some .geq | .geq => some .lss | .leq => some .gtr | .gtr => some .leq | _ => none
def mkNot : E → E | .kb b => .kb !b | .cmp op a b => (match negOp op with | some op' => .cmp op' a b | none => .not (.cmp op a b)) | e => .not e
def mkBeq (a b : E) : E := match a, b with | .kb x, .kb y => .kb (x == y) | _, _ => .beq a b
def mkAnd (a b : E) : E := match a, b with | .kb x, .kb y => .kb (x && y) | .kb false, _ => .kb false | a, b => .and a b
def litLen : E → Option Nat
  | .nil => some 0
  | .cons _ l => (litLen l).map (· + 1)
  | .app a b => match litLen a, litLen b with | some n, some m => some (n + m) | _, _ => none
  | .rep (.ki _ (.ofNat n)) _ => some n
  | .set l _ _ => litLen l
  | .setc l _ _ _ => litLen l
  | .cpy l _ => litLen l
  | _ => none
def lenE : E → E
  | .set l _ _ => lenE l
  | .setc l _ _ _ => lenE l
  | .cpy l _ => lenE l
  | .nil => .ki .i64 0
  | .cons x l => match litLen (.cons x l) with | some n => .ki .i64 n | none => .len (.cons x l)
  | .app a b => match litLen (.app a b) with | some n => .ki .i64 n | none => .len (.app a b)
  | .rep n x => match litLen (.rep n x) with | some n => .ki .i64 n | none => .len (.rep n x)
  | e => .len e
def cellE (es : List Sh) (x : E) (j : Nat) : E := if es.length = 1 then x else match x with | .rc (.cons a (.cons b l)) => (match j with | 0 => a | 1 => b | _ => .cell (.rc (.cons a (.cons b l))) j) | x => .cell x j
def consE : List E → E | [] => .nil | x :: l => .cons x (consE l)
def getE (l i : E) : E := match i with | .ki _ (.ofNat n) => go l n l i | _ => .get l i
where go : E → Nat → E → E → E
  | .cons x _, 0, _, _ => x
  | .cons _ l, n + 1, l0, i0 => go l n l0 i0
  | _, _, l0, i0 => .get l0 i0

def A.rows : A → List Nat | .row j _ _ => [j] | _ => []
def TV.rows : TV → List Nat | .c a => a.rows | .g l => l.flatMap A.rows
def frozenB : Blk → Blk | .row es l _ => .row es l true | b => b
def A.toD (B : Nat → Blk) : A → Option (Sh × E)
  | .d s e => some (s, e)
  | .nilS es => some (.lst es, .nil)
  | .row j es n => match B j with
    | .row es' l _ => if Sh.sames es es' && E.same (lenE l) n then some (.lst es, l) else none
    | _ => none
  | _ => none
def TV.toD (B : Nat → Blk) : TV → Option (TS × E)
  | .c a => match a.toD B with | some (s, e) => some (.c s, e) | none => none
  | .g l => match l.mapM (A.toD B) with | some ps => some (.g (ps.map (·.1)), .rc (consE (ps.map (·.2)))) | none => none

def CK.sh : CK → Sh | .s x => x | .r es => .lst es
def varsA (n : Nat) : List Sh → List A
  | [] => []
  | s :: ss => .d s (.v n) :: varsA (n + 1) ss
def TS.flat : TS → List Sh | .c s => [s] | .i _ s => [s] | .g l => l | .r es => [.lst es] | .h l => l.map CK.sh | .p l => l.map CK.sh
def cellK (n m : Nat) : CK → A × List Blk
  | .s s => (.d s (.v n), [])
  | .r es => (.row m es (.len (.v n)), [.row es (.v n) false])
def cellsK (n m : Nat) : List CK → List A × List Blk
  | [] => ([], [])
  | k :: l => ((cellK n m k).1 :: (cellsK (n + 1) (m + (cellK n m k).2.length) l).1, (cellK n m k).2 ++ (cellsK (n + 1) (m + (cellK n m k).2.length) l).2)
def varsT (n m : Nat) : TS → TV × List Blk
  | .c s => (.c (.d s (.v n)), [])
  | .g l => (.g (varsA n l), [])
  | .r es => (.c (.row m es (.len (.v n))), [.row es (.v n) false])
  | .h l => (.g (cellsK n m l).1, (cellsK n m l).2)
  | .p l => (.c (.ptr m 0), .cells (cellsK n (m + 1) l).1 :: (cellsK n (m + 1) l).2)
  | .i _ _ => (.c .any, [])
def varsTs (n m : Nat) : List TS → List TV × List Blk
  | [] => ([], [])
  | t :: ts => ((varsT n m t).1 :: (varsTs (n + t.flat.length) (m + (varsT n m t).2.length) ts).1, (varsT n m t).2 ++ (varsTs (n + t.flat.length) (m + (varsT n m t).2.length) ts).2)
def updFrom (m : Nat) : List Blk → List (Nat × Blk)
  | [] => []
  | b :: bs => (m, b) :: updFrom (m + 1) bs
def outsU (n m : Nat) : List (List CK × Nat) → List (Nat × Blk)
  | [] => []
  | (l, j) :: r => updFrom m (cellsK n m l).2 ++ (j, .cells (cellsK n m l).1) :: outsU (n + l.length) (m + (cellsK n m l).2.length) r
def outsN (n m : Nat) : List (List CK × Nat) → Nat
  | [] => 0
  | (l, _) :: r => (cellsK n m l).2.length + outsN (n + l.length) (m + (cellsK n m l).2.length) r
def TS.data (t : TS) (xs : List D) : D := match t with | .c _ | .r _ | .i _ _ => xs.getD 0 default | _ => .rc xs
def datas : List TS → List D → List D
  | [], _ => []
  | t :: ts, xs => t.data (xs.take t.flat.length) :: datas ts (xs.drop t.flat.length)
def TS.isP : TS → Bool | .p _ => true | .i _ _ => true | _ => false
def TS.noI : TS → Bool | .i _ _ => false | _ => true
def outsT : List TS → List TS
  | [] => []
  | .p l :: ts => .p l :: outsT ts
  | .i n s :: ts => .i n s :: outsT ts
  | _ :: ts => outsT ts
def flatLen (us : List TS) : Nat := (us.map fun t => t.flat.length).sum

def intOf1 : AV → Option (IntKind × E) | .v (.c (.d (.int k) e)) => some (k, e) | _ => none

def eqT (P : Program) : Nat → TypeId → List A → List A → Option E
  | 0, _, _, _ => none
  | n + 1, t, l, l' => match P.underlying t with
    | some (.struct fs) => if P.stoodInHeld t then none else
      fs.toList.foldr (fun f acc => if f.name = "_" then none else
        if aggB P f.type then
          (if f.offset + sizeT P f.type ≤ l.length ∧ f.offset + sizeT P f.type ≤ l'.length then
            match eqT P n f.type ((l.drop f.offset).take (sizeT P f.type)) ((l'.drop f.offset).take (sizeT P f.type)), acc with | some x, some y => some (mkAnd x y) | _, _ => none
          else none)
        else match l[f.offset]?, l'[f.offset]?, acc with
          | some a, some b, some y => (match eqT P n f.type [a] [b] with | some x => some (mkAnd x y) | none => none)
          | _, _, _ => none) (some (.kb true))
    | some (.int _) => match l, l' with | [.d (.int k) a], [.d (.int k') b] => if k = k' then some (mkCmp .eql a b) else none | _, _ => none
    | some .bool => match l, l' with | [.d .bool a], [.d .bool b] => some (mkBeq a b) | _, _ => none
    | some .string => match l, l' with | [.d .str a], [.d .str b] => some (.seq a b) | _, _ => none
    | _ => none
def obs : E → List Ev | .kb true => [] | e => [.ob e]
def ret1 (a : A) (evs : List Ev := []) : Option Out := some ⟨some (.v (.c a)), [], evs⟩

def binA (P : Program) (op : BinOp) (xT : TypeId) (x y : AV) : Option Out :=
  match x, y with
  | .v (.c (.d (.int k) a)), .v (.c (.d (.int k') b)) =>
    match op with
    | .shl | .shr => ret1 (.d (.int k) (mkShf op k a b)) (if k'.signed then obs (mkCmp .geq b (.ki k' 0)) else [])
    | .add | .sub | .mul | .and | .or | .xor | .andNot => if k = k' then ret1 (.d (.int k) (mkAr op k a b)) else none
    | .quo | .rem => if k = k' then ret1 (.d (.int k) (mkAr op k a b)) (obs (mkCmp .neq b (.ki k 0))) else none
    | .eql | .neq | .lss | .leq | .gtr | .geq => if k = k' then ret1 (.d .bool (mkCmp op a b)) else none
  | .v (.c (.d .bool a)), .v (.c (.d .bool b)) =>
    match P.underlying xT, op with
    | some .bool, .eql => ret1 (.d .bool (mkBeq a b))
    | some .bool, .neq => ret1 (.d .bool (mkNot (mkBeq a b)))
    | _, _ => none
  | .v (.c (.d .str a)), .v (.c (.d .str b)) =>
    match op with
    | .add => ret1 (.d .str (.scat a b)) [.ob (.cmp .geq (.ar .add .i64 (.len a) (.len b)) (.ki .i64 0))]
    | .eql => ret1 (.d .bool (.seq a b))
    | .neq => ret1 (.d .bool (mkNot (.seq a b)))
    | .lss => ret1 (.d .bool (.slt a b))
    | _ => none
  | .v (.g l), .v (.g l') =>
    match op with
    | .eql => if aggB P xT = true ∧ P.eqGuardType P.depth xT = false then (match eqT P 10 xT l l' with | some e => ret1 (.d .bool e) | none => none) else none
    | .neq => if aggB P xT = true ∧ P.eqGuardType P.depth xT = false then (match eqT P 10 xT l l' with | some e => ret1 (.d .bool (mkNot e)) | none => none) else none
    | _ => none
  | .v (.c (.d (.lst _) e)), .v (.c (.k (.slice none 0 0))) =>
    match P.underlying xT, op with
    | some (.slice _), .eql => ret1 (.nilq e)
    | _, _ => none
  | _, _ => none


end Go.Proofs.Ytindphofgojfbaa.Sy
