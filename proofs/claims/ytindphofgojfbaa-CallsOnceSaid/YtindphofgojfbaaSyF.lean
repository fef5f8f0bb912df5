/-
  A part of a symbolic walk that is proved sound: what the functions of a program do with data. No conditions.
-/
import Derived.Test.YtindphofgojfbaaSyE
set_option linter.unusedSimpArgs false
set_option linter.unusedVariables false
namespace Go.Proofs.Ytindphofgojfbaa.Sy
open Go.RowKit
def loadA (P : Program) (B : Nat → Blk) (T : TypeId) : A → Option (TV × List Ev)
  | .ptr j o => match B j with
    | .cells l =>
      if aggB P T then (if o + sizeT P T ≤ l.length then some (.g ((l.drop o).take (sizeT P T)), []) else none)
      else match l[o]? with | some a => some (.c a, []) | none => none
    | _ => none
  | .elem es x o =>
    if aggB P T then (if o + sizeT P T ≤ es.length then some (.g (((es.zipIdx.drop o).take (sizeT P T)).map fun p => .d p.1 (cellE es x p.2)), []) else none)
    else match es[o]? with | some s => some (.c (.d s (cellE es x o)), []) | none => none
  | .rptr j sz i o => match B j with
    | .row es l _ =>
      if sz = es.length then
        if aggB P T then (if o + sizeT P T ≤ es.length then some (.g (((es.zipIdx.drop o).take (sizeT P T)).map fun p => .d p.1 (cellE es (getE l i) p.2)), obs (mkCmp .lss i (lenE l))) else none)
        else match es[o]? with | some s => some (.c (.d s (cellE es (getE l i) o)), obs (mkCmp .lss i (lenE l))) | none => none
      else none
    | _ => none
  | _ => none

def setAs (l : List A) (o : Nat) : List A → List A
  | [] => l
  | a :: as => setAs (l.set o a) (o + 1) as
def setEs (es : List Sh) (l i : E) (o : Nat) : List E → E
  | [] => l
  | e :: rest => setEs es (if es.length = 1 then .set l i e else .setc l i o e) i (o + 1) rest
def dataA : Sh → A → Option E
  | .lst es, .nilS es' => if Sh.sames es es' then some .nil else none
  | s, .d s' e => if Sh.same s s' then some e else none
  | _, _ => none
def dataAs : List Sh → List A → Option (List E)
  | [], [] => some []
  | s :: ss, a :: as => match dataA s a, dataAs ss as with | some e, some es => some (e :: es) | _, _ => none
  | _, _ => none
def TV.as : TV → Option (List A) | .c .any => none | .c a => some [a] | .g l => some l
def storeA (P : Program) (B : Nat → Blk) (T : TypeId) (p : A) (x : TV) : Option (List (Nat × Blk) × List Ev) :=
  match x.as with
  | none => none
  | some as =>
    if as.length ≠ sizeT P T then none else
    match p with
    | .ptr j o => match B j with
      | .cells l => if o + as.length ≤ l.length then some ([(j, .cells (setAs l o as))], []) else none
      | _ => none
    | .rptr j sz i o => match B j with
      | .row es l false =>
        if sz = es.length && o + as.length ≤ es.length then
          match dataAs ((es.drop o).take as.length) as with
          | some xs => some ([(j, .row es (setEs es l i o xs) false)], obs (mkCmp .lss i (lenE l)))
          | none => none
        else none
      | _ => none
    | _ => none

def newBlk (P : Program) (T : TypeId) (l : List A) : Option (Blk × (Nat → A)) :=
  match P.underlying T with
  | some (.array n e) =>
    match shs P e with
    | some [s] => match dataAs (List.replicate n s) l with | some xs => if n = 0 ∨ maxLen < n then none else some (.row [s] (consE xs) false, fun j => .rptr j 1 (.ki .i64 0) 0) | none => none
    | none => some (.cells l, fun j => .ptr j 0)
    | _ => none
  | some _ => some (.cells l, fun j => .ptr j 0)
  | none => none

def fieldOf (P : Program) (S : TypeId) (f : Nat) : Option Field := match P.underlying S with | some (.struct fs) => fs[f]? | _ => none
def fieldAddrA (off : Nat) : A → Option A
  | .ptr j o => some (.ptr j (o + off))
  | .elem es x o => some (.elem es x (o + off))
  | .rptr j sz i o => some (.rptr j sz i (o + off))
  | _ => none

def idxObs (i n : E) : List Ev := obs (mkCmp .geq i (.ki .i64 0)) ++ obs (mkCmp .lss i n)
def indexAddrA (P : Program) (T : TypeId) (x : A) (i : E) : Option (A × List Ev) :=
  match P.underlying T with
  | some (.slice e) =>
    match x with
    | .d (.lst es) l => if sizeT P e = es.length ∧ (P.info? e).isSome = true then some (.elem es (getE l i) 0, idxObs i (lenE l)) else none
    | .row j es n => if sizeT P e = es.length ∧ (P.info? e).isSome = true then some (.rptr j es.length i 0, idxObs i n) else none
    | _ => none
  | some (.array n e) =>
    match x with
    | .arr es l => if sizeT P e = es.length ∧ (P.info? e).isSome = true ∧ E.same (lenE l) (.ki .i64 n) = true then some (.elem es (getE l i) 0, idxObs i (lenE l)) else none
    | .rptr j sz (.ki _ 0) 0 => if sizeT P e = sz ∧ (P.info? e).isSome = true then some (.rptr j sz i 0, idxObs i (.ki .i64 n)) else none
    | .ptr j o => match i with
      | .ki _ (.ofNat m) => if m < n ∧ (P.info? e).isSome = true then some (.ptr j (o + m * sizeT P e), []) else none
      | _ => none
    | _ => none
  | _ => none

def convA (P : Program) (src dst : TypeId) (x : A) : Option A :=
  match P.underlying src, P.underlying dst, x with
  | some (.int _), some (.int k), .d (.int _) e => some (.d (.int k) (match e with | .ki _ n => .ki k (k.wrap n) | e => .conv k e))
  | some .string, some .string, .d .str e => some (.d .str e)
  | _, _, _ => none
def unA (op : UnOp) (x : A) : Option A :=
  match op, x with
  | .not, .d .bool e => some (.d .bool (mkNot e))
  | .neg, .d (.int k) (.ki _ n) => some (.d (.int k) (.ki k (k.wrap (0 - n))))
  | .neg, .d (.int k) e => some (.d (.int k) (.neg k e))
  | .xor, .d (.int k) e => some (.d (.int k) (.inv k e))
  | _, _ => none

def fixA (P : Program) (T : TypeId) : AV → AV
  | .v (.c (.k (.slice none 0 0))) => match sh P 6 T with | some (.lst es) => .v (.c (.nilS es)) | _ => .v (.c (.k (.slice none 0 0)))
  | a => a
def allocB : Op → Bool
  | .alloc _ | .box .. | .buildSlice .. | .makeSlice .. => true
  | .call { callee := .builtin .append, .. } => true
  | _ => false
structure Ctx where
  P : Program
  x : Operand → AV
  B : Nat → Blk
  nb : Nat
  nv : Nat
  bo : AV → Option Bool
  sg : Nat → Option (List TS × List TS)
  room : Nat

def prepA (B : Nat → Blk) : CK → A → Option (E × List Nat × List (Option Nat))
  | .s s, a => match a.toD B with
    | some (s', e) => if Sh.same s' s then some (e, a.rows, []) else none
    | none => none
  | .r es, .row j es' n => match B j with
    | .row es'' l false => if Sh.sames es' es && Sh.sames es'' es && E.same (lenE l) n then some (l, [], [some j]) else none
    | _ => none
  | .r _, .nilS _ => some (.nil, [], [none])
  | _, _ => none
def prepAs (B : Nat → Blk) : List CK → List A → Option (List E × List Nat × List (Option Nat))
  | [], [] => some ([], [], [])
  | k :: ks, a :: as => match prepA B k a, prepAs B ks as with
    | some (e, f, o), some (es, fs, os) => some (e :: es, f ++ fs, o ++ os)
    | _, _ => none
  | _, _ => none
def prepT (B : Nat → Blk) : TS → TV → Option (E × List Nat × List (Option Nat))
  | .c s, .c a => prepA B (.s s) a
  | .r es, .c a => prepA B (.r es) a
  | .g l, .g as => match prepAs B (l.map .s) as with
    | some (es, f, []) => some (.rc (consE es), f, [])
    | _ => none
  | .h l, .g as => match prepAs B l as with
    | some (es, f, o) => some (.rc (consE es), f, o)
    | none => none
  | .p l, .c (.ptr j 0) => match B j with
    | .cells as => match prepAs B l as with
      | some (es, f, o) => some (.rc (consE es), f, some j :: o)
      | none => none
    | _ => none
  | _, _ => none
def prepTs (B : Nat → Blk) : List TS → List TV → Option (List E × List Nat × List (Option Nat))
  | [], [] => some ([], [], [])
  | t :: ts, a :: as => match prepT B t a, prepTs B ts as with
    | some (e, f, o), some (es, fs, os) => some (e :: es, f ++ fs, o ++ os)
    | _, _ => none
  | _, _ => none
def ptrsOf : List TS → List TV → List (List CK × Nat)
  | .p l :: ts, .c (.ptr j _) :: as => (l, j) :: ptrsOf ts as
  | _ :: ts, _ :: as => ptrsOf ts as
  | _, _ => []
def Sh.sc : Sh → Bool | .lst _ => false | _ => true
def CK.sc : CK → Bool | .s x => x.sc | .r es => es.all Sh.sc
def TS.sc : TS → Bool | .c s => s.sc | .i _ s => s.sc | .g l => l.all Sh.sc | .r es => es.all Sh.sc | .h l => l.all CK.sc | .p l => l.all CK.sc
def tsOf2 (P : Program) (fn : Func) (n : Nat) : Option (List TS × List TS) :=
  match fn.params.toList.mapM (tsOf P), fn.resultTypes.toList.mapM (tsOf P) with
  | some ts, some us => if ts.length = n then some (ts, us) else none
  | _, _ => none
def distinctN : List Nat → Bool
  | [] => true
  | n :: l => !(l.any fun m => Nat.beq n m) && distinctN l
def callA (c : Ctx) (f : FuncId) (args : Array Operand) (tys : Array TypeId) (extra : List A) : Option Out :=
  match c.P.funcs[f]? with
  | none => none
  | some fn =>
    if fn.body.isNone then none else
    let xs := (args.toList.zip tys.toList).map fun p => fixA c.P p.2 (c.x p.1)
    if args.size ≠ tys.size then none else
    match xs.mapM (fun | .v t => some t | _ => none), (match c.sg f with | some s => some s | none => tsOf2 c.P fn (args.size + extra.length)) with
    | some as, some (ts, us) =>
      let as := as ++ extra.map TV.c
      match prepTs c.B ts as with
      | some (es, frz, own) =>
        let own' := own.filterMap id
        if distinctN own' && !(own'.any fun j => frz.any fun i => Nat.beq j i) && us.all TS.noI then
          let rs := varsTs c.nv c.nb us
          let ptrs := ptrsOf ts as
          if rs.2.length + outsN (c.nv + flatLen us) (c.nb + rs.2.length) ptrs ≤ c.room then
            some ⟨some (match rs.1 with | [t] => .v t | l => .tup l),
              (if (us ++ outsT ts).all TS.sc then [] else frz.map fun j => (j, frozenB (c.B j))) ++ (own'.map fun j => (j, Blk.dead)) ++ updFrom c.nb rs.2 ++ outsU (c.nv + flatLen us) (c.nb + rs.2.length) ptrs,
              [.call f ts es us c.nv]⟩
          else none
        else none
      | none => none
    | _, _ => none
def TS.isD : TS → Bool | .c _ | .g _ => true | _ => false
def callI (c : Ctx) (f : FuncId) (args : Array Operand) (tys : Array TypeId) (extra : List A) : Option Out :=
  match c.P.funcs[f]?, extra with
  | some fn, [] =>
    if fn.body.isNone then none else
    if args.size ≠ tys.size then none else
    match ((args.toList.zip tys.toList).map fun p => fixA c.P p.2 (c.x p.1)).mapM (fun | .v t => some t | _ => none), c.sg f with
    | some (.c (.ptr j o) :: as), some (.i n s :: ts, []) =>
      (match c.B j with
      | .cells l => (match l[o]?, prepTs c.B ts as with
        | some (.d s' e), some (es, [], []) =>
          if Sh.same s s' && s.sc && ts.all TS.isD && decide (l.length = n) then
            some ⟨some (.tup []), [(j, .cells (l.set o (.d s (.v c.nv))))], [.call f (.i n s :: ts) (e :: es) [] c.nv]⟩
          else none
        | _, _ => none)
      | _ => none)
    | _, _ => none
  | _, _ => none
def callB (c : Ctx) (f : FuncId) (args : Array Operand) (tys : Array TypeId) (extra : List A) : Option Out :=
  match callA c f args tys extra with
  | some out => some out
  | none => callI c f args tys extra
def ptrOf : AV → Option (Nat × Nat)
  | .v (.c (.ptr j o)) => some (j, o)
  | _ => none
def calleeOf : AV → Option (FuncId × List A)
  | .v (.c (.k (.func (.func f) a b))) => if a.size = 0 ∧ b.size = 0 then some (f, []) else none
  | .v (.c (.fn f caps)) => some (f, caps.map fun p => .ptr p.1 p.2)
  | _ => none

def lenA (c : Ctx) (T : TypeId) (x : AV) : Option Out :=
  match c.P.underlying T, x with
  | some (.slice _), .v (.c (.d (.lst _) e)) => ret1 (.d (.int .i64) (lenE e))
  | some (.slice _), .v (.c (.row _ _ n)) => ret1 (.d (.int .i64) n)
  | some (.slice _), .v (.c (.nilS _)) => ret1 (.d (.int .i64) (.ki .i64 0))
  | some .string, .v (.c (.d .str e)) => ret1 (.d (.int .i64) (match e with | .ks s => .ki .i64 s.size | e => .len e))
  | some (.array n _), _ => if n ≤ maxLen then ret1 (.d (.int .i64) (.ki .i64 n)) else none
  | _, _ => none

def roomE : E := .ki .i64 4294967296
def obLe (a b : E) : List Ev := obs (mkCmp .leq a b)
def elemE (es : List Sh) (xs : List E) : E := if es.length = 1 then xs.headD .nil else .rc (consE xs)
def makeA (c : Ctx) (T : TypeId) (len cap : AV) : Option Out :=
  match c.P.underlying T with
  | some (.slice e) =>
    match shs c.P e, (c.P.info? e).bind (·.zero), intOf1 len, intOf1 cap with
    | some es, some z, some (_, l), some (_, cp) =>
      match zeroAs c.P e z with
      | some zl => match dataAs es zl with
        | some xs =>
          if 0 < es.length ∧ es.length = sizeT c.P e ∧ c.P.bytesOf e ≤ 8192 then
            some ⟨some (.v (.c (.row c.nb es (lenE (.rep l (elemE es xs)))))), [(c.nb, .row es (.rep l (elemE es xs)) false)], obs (mkCmp .geq l (.ki .i64 0)) ++ (if E.same l cp then [] else obLe l cp) ++ obLe cp roomE⟩
          else none
        | none => none
      | none => none
    | _, _, _, _ => none
  | _ => none
def srcOf (B : Nat → Blk) (es : List Sh) : AV → Option E
  | .v (.c (.d (.lst es') l)) => if Sh.sames es es' then some l else none
  | .v (.c (.nilS _)) => some .nil
  | .v (.c (.row j es' n)) => match B j with
    | .row es'' l _ => if Sh.sames es es' && Sh.sames es es'' && E.same (lenE l) n then some l else none
    | _ => none
  | _ => none
def strSrc (es : List Sh) : AV → Option E
  | .v (.c (.d .str s)) => if Sh.sames es [.int .u8] then some (.s2b s) else none
  | _ => none
def baseOf (B : Nat → Blk) (es : List Sh) : AV → Option (Option Nat × E)
  | .v (.c (.nilS _)) => some (none, .nil)
  | .v (.c (.row j es' n)) => match B j with
    | .row es'' l false => if Sh.sames es es' && Sh.sames es es'' && E.same (lenE l) n then some (some j, l) else none
    | _ => none
  | _ => none
def isStrT (P : Program) (T : TypeId) : Bool := match P.underlying T with | some .string => true | _ => false
def isSliceT (P : Program) (T : TypeId) : Bool := match P.underlying T with | some (.slice _) => true | _ => false
def zerosOK (P : Program) (e : TypeId) (n : Nat) : Bool := match (P.info? e).bind (·.zero) with | some z => z.cells.toList.all oneB && decide (z.cells.size = n) | none => false
def killO : Option Nat → List (Nat × Blk)
  | some j => [(j, .dead)]
  | none => []
def appendA (c : Ctx) (T xT : TypeId) (x y : AV) : Option Out :=
  match c.P.underlying T with
  | some (.slice e) => match shs c.P e with
    | some es =>
      if decide (0 < es.length) && decide (es.length = sizeT c.P e) && decide (c.P.bytesOf e ≤ 8192) && zerosOK c.P e es.length then
        match baseOf c.B es x, (if isSliceT c.P xT then srcOf c.B es y else if isStrT c.P xT then strSrc es y else none) with
        | some (j, l), some ly => some ⟨some (.v (.c (.row c.nb es (lenE (.app l ly))))), killO j ++ [(c.nb, .row es (.app l ly) false)], obs (mkCmp .leq (lenE (.app l ly)) roomE)⟩
        | _, _ => none
      else none
    | none => none
  | _ => none
def fillE (c : Ctx) (e : TypeId) (es : List Sh) : List E → List (Nat × Operand) → Option (List E × List Nat)
  | l, [] => some (l, [])
  | l, (i, q) :: rest => match fixA c.P e (c.x q) with
    | .v t => match t.as with
      | some as => match prepAs c.B (es.map .s) as with
        | some (xs, f, []) => if i < l.length then
            match fillE c e es (l.set i (elemE es xs)) rest with
            | some (l', f') => some (l', f ++ f')
            | none => none
          else none
        | _ => none
      | none => none
    | _ => none
def buildSliceA (c : Ctx) (T : TypeId) (n : Nat) (parts : Array (Nat × Operand)) : Option Out :=
  match c.P.underlying T with
  | some (.slice e) => match shs c.P e, (c.P.info? e).bind (·.zero) with
    | some es, some z => match zeroAs c.P e z with
      | some zl => match dataAs es zl with
        | some xs =>
          if 0 < es.length ∧ es.length = sizeT c.P e ∧ n * es.length ≤ 65536 then
            match fillE c e es (List.replicate n (elemE es xs)) parts.toList with
            | some (l, f) => some ⟨some (.v (.c (.row c.nb es (lenE (consE l))))), (f.map fun j => (j, frozenB (c.B j))) ++ [(c.nb, .row es (consE l) false)], []⟩
            | none => none
          else none
        | none => none
      | none => none
    | _, _ => none
  | _ => none
def isU8 (P : Program) (e : TypeId) : Bool := match P.underlying e with | some (.int .u8) => true | _ => false
def bytesA (c : Ctx) (s d : TypeId) (x : AV) : Option Out :=
  match c.P.underlying s, c.P.underlying d, x with
  | some .string, some (.slice e), .v (.c (.d .str a)) => if isU8 c.P e then some ⟨some (.v (.c (.d (.lst [.int .u8]) (.s2b a)))), [], []⟩ else none
  | some (.slice e), some .string, x => if isU8 c.P e then match srcOf c.B [.int .u8] x with | some l => some ⟨some (.v (.c (.d .str (.b2s l)))), [], []⟩ | none => none else none
  | some (.slice e), some (.slice e'), .v (.c (.row j es n)) => if isU8 c.P e' && Nat.beq e e' && Nat.beq s d && Sh.sames es [.int .u8] then
      (match c.B j with
      | .row es' l false => (match litLen l with
        | some (.succ _) => if Sh.sames es' [.int .u8] && E.same (lenE l) n then some ⟨some (.v (.c (.d (.lst [.int .u8]) l))), [(j, .dead)], []⟩ else none
        | _ => none)
      | _ => none) else none
  | _, _, _ => none
def copyA (c : Ctx) (T : TypeId) (d s : AV) : Option Out :=
  match c.P.underlying T with
  | some (.slice e) => match d with
    | .v (.c (.row j es n)) => match c.B j, srcOf c.B es s with
      | .row es' l false, some xl => if Sh.sames es es' && E.same (lenE l) n && decide (0 < es.length) && decide (sizeT c.P e = es.length) && (c.P.info? e).isSome then
          some ⟨some (.v (.c (.d (.int .i64) (.mn .i64 (lenE xl) n)))), [(j, .row es (.cpy l xl) false)], []⟩ else none
      | _, _ => none
    | _ => none
  | _ => none
def minA (mx : Bool) (x y : AV) : Option Out :=
  match intOf1 x, intOf1 y with
  | some (k, a), some (k', b) => if k = k' then ret1 (.d (.int k) (match a, b with | .ki _ m, .ki _ n => .ki k (if mx then (if n > m then n else m) else (if n < m then n else m)) | a, b => if mx then .mx k a b else .mn k a b)) else none
  | _, _ => none
def optE (x : Operand → AV) : Option Operand → Option (Option E)
  | none => some none
  | some o => match intOf1 (x o) with | some (_, e) => some (some e) | none => none
def subObs (n : E) (lo hi mx : Option E) : List Ev :=
  (match mx with | some m => obLe (.ki .i64 0) m ++ obLe m n | none => []) ++
  (match hi with | some h => obLe (.ki .i64 0) h ++ obLe h (mx.getD n) | none => []) ++
  (match lo with | some l => obLe (.ki .i64 0) l ++ obLe l (hi.getD n) | none => [])
def mkSub (l n : E) (lo hi : Option E) : E := match lo, hi with | none, none => l | _, _ => .sub l (lo.getD (.ki .i64 0)) (hi.getD n)
def zeroE : Option E → Bool | some (.ki _ 0) => true | _ => false
def zeroHi (hi mx lo : Option E) : Bool := zeroE hi && zeroE mx && (lo.isNone || zeroE lo)
def sliceA (c : Ctx) (T : TypeId) (x : AV) (lo hi mx : Option Operand) : Option Out :=
  match optE c.x lo, optE c.x hi, optE c.x mx with
  | some lo, some hi, some mx =>
    if mx.isSome && hi.isNone then none else
    match c.P.underlying T with
    | some (.slice e) =>
      if !((c.P.info? e).isSome) then none else
      if zeroHi hi mx lo then (match x with
      | .v (.c (.d (.lst es) l)) => if sizeT c.P e = es.length then some ⟨some (.v (.c (.nilS es))), [], []⟩ else none
      | .v (.c (.nilS es)) => some ⟨some (.v (.c (.nilS es))), [], []⟩
      | .v (.c (.row j es n)) => some ⟨some (.v (.c (.nilS es))), [], []⟩
      | _ => none) else
      match x with
      | .v (.c (.d (.lst es) l)) => if sizeT c.P e = es.length then some ⟨some (.v (.c (.d (.lst es) (mkSub l (lenE l) lo hi)))), [], subObs (lenE l) lo hi mx⟩ else none
      | .v (.c (.nilS es)) => some ⟨some (.v (.c (.nilS es))), [], subObs (.ki .i64 0) lo hi mx⟩
      | .v (.c (.row j es n)) => match c.B j with
        | .row es' l fr => if Sh.sames es es' && E.same (lenE l) n && decide (sizeT c.P e = es.length) then
            if zeroE hi && lo.isNone && mx.isNone && !fr then some ⟨some (.v (.c (.row j es (lenE E.nil)))), [(j, .row es .nil false)], []⟩ else
            some ⟨some (.v (.c (.d (.lst es) (mkSub l n lo hi)))), (if fr then [] else [(j, .row es' l true)]), subObs n lo hi mx⟩ else none
        | _ => none
      | _ => none
    | some .string => match x with
      | .v (.c (.d .str s)) => if mx.isSome then none else some ⟨some (.v (.c (.d .str (match lo, hi with | none, none => s | _, _ => .ssub s (lo.getD (.ki .i64 0)) (hi.getD (.len s)))))), [], subObs (.len s) lo hi none⟩
      | _ => none
    | _ => none
  | _, _, _ => none
def scalL : List A → Option (Sh × List E)
  | [] => none
  | .d s e :: l => (match scalL l with
    | some (s', es) => if Sh.same s s' then some (s, e :: es) else none
    | none => if l.isEmpty then some (s, [e]) else none)
  | _ :: _ => none
def indexA (c : Ctx) (T : TypeId) (x i : AV) : Option Out :=
  match c.P.underlying T, x, intOf1 i with
  | some .string, .v (.c (.d .str s)), some (_, e) => ret1 (.d (.int .u8) (.sidx s e)) (idxObs e (.len s))
  | some (.array n e), .v (.g l), some (_, .ki _ (.ofNat m)) =>
    if m < n ∧ (c.P.underlying e).isSome = true then
      if aggB c.P e then (if m * sizeT c.P e + sizeT c.P e ≤ l.length then some ⟨some (.v (.g ((l.drop (m * sizeT c.P e)).take (sizeT c.P e)))), [], []⟩ else none)
      else match l[m * sizeT c.P e]? with | some a => ret1 a | none => none
    else none
  | some (.array n e), .v (.g l), some (_, i) => (match scalL l with
    | some (s, es) => if sizeT c.P e = 1 ∧ (c.P.underlying e).isSome = true ∧ aggB c.P e = false ∧ es.length = n ∧ l.length = n then ret1 (.d s (.get (consE es) i)) (idxObs i (.ki .i64 n)) else none
    | none => none)
  | _, _, _ => none

def partOf (P : Program) (T : TypeId) (i : Nat) : Option (Nat × TypeId) := match P.underlying T with
  | some (.struct fs) => (fs[i]?).map fun f => (f.offset, f.type)
  | some (.array _ e) => some (i * sizeT P e, e)
  | _ => none
def partsB (P : Program) (T : TypeId) : Bool := match P.underlying T with
  | some (.struct fs) => fs.toList.all fun f => (P.underlying f.type).isSome
  | some (.array _ e) => (P.underlying e).isSome
  | _ => false
def fillA (c : Ctx) (T : TypeId) : List A → List (Nat × Operand) → Option (List A)
  | l, [] => some l
  | l, (i, q) :: rest => match partOf c.P T i with
    | some (off, ty) => match fixA c.P ty (c.x q) with
      | .v t => match t.as with
        | some as => if as.length = sizeT c.P ty ∧ off + as.length ≤ l.length then fillA c T (setAs l off as) rest else none
        | none => none
      | _ => none
    | none => none
def buildA (c : Ctx) (T : TypeId) (parts : Array (Nat × Operand)) : Option Out :=
  if partsB c.P T then match (c.P.info? T).bind (·.zero) with
    | some z => match zeroAs c.P T z with
      | some l => match fillA c T l parts.toList with
        | some l' => some ⟨some (.v (.g l')), [], []⟩
        | none => none
      | none => none
    | none => none
  else none

def arrLen (P : Program) (T : TypeId) : Nat := match P.underlying T with | some (.array n _) => n | _ => 0
def idxTold (bo : AV → Option Bool) (k : IntKind) (e : E) : Nat → Option Nat
  | 0 => none
  | n + 1 => match bo (.v (.c (.d .bool (.cmp .eql e (.ki k (.ofNat n)))))) with
    | some true => some n
    | _ => idxTold bo k e n
def indexAddrT (c : Ctx) (T : TypeId) (a : A) (k : IntKind) (e : E) : Option (A × List Ev) :=
  match indexAddrA c.P T a e with
  | some r => some r
  | none => match idxTold c.bo k e (arrLen c.P T) with
    | some m => indexAddrA c.P T a (.ki k (.ofNat m))
    | none => none
def act (c : Ctx) (o : Oper) : Option Out :=
  let P := c.P
  match o.op with
  | .move x | .assign x => some ⟨some (fixA P o.type (c.x x)), [], []⟩
  | .pick q a b => match c.bo (c.x q) with
    | some true => some ⟨some (c.x a), [], []⟩
    | some false => some ⟨some (c.x b), [], []⟩
    | none => none
  | .alloc T => match (P.info? T).bind (·.zero) with
    | some z => match zeroAs P T z with
      | some l => match newBlk P T l with
        | some (b, p) => some ⟨some (.v (.c (p c.nb))), [(c.nb, b)], []⟩
        | none => none
      | none => none
    | none => none
  | .box T x => match fixA P T (c.x x) with
    | .v t => match t.as with
      | some l => match newBlk P T l with
        | some (b, p) => some ⟨some (.v (.c (p c.nb))), [(c.nb, b)], []⟩
        | none => none
      | none => none
    | _ => none
  | .load T x => if (P.underlying T).isNone then none else match c.x x with
    | .v (.c a) => match loadA P c.B T a with
      | some (t, evs) => some ⟨some (.v t), [], evs⟩
      | none => none
    | _ => none
  | .store T p x => if (P.underlying T).isNone then none else match c.x p, fixA P T (c.x x) with
    | .v (.c a), .v t => match storeA P c.B T a t with
      | some (u, evs) => some ⟨none, u, evs⟩
      | none => none
    | _, _ => none
  | .nilCheck x => match c.x x with
    | .v (.c (.ptr j o)) => some ⟨some (.v (.c (.ptr j o))), [], []⟩
    | .v (.c (.rptr j s i o)) => some ⟨some (.v (.c (.rptr j s i o))), [], []⟩
    | .v (.c (.elem es x o)) => some ⟨some (.v (.c (.elem es x o))), [], []⟩
    | .v (.c (.fn f caps)) => some ⟨some (.v (.c (.fn f caps))), [], []⟩
    | .v (.c (.arr es l)) => some ⟨some (.v (.c (.arr es l))), [], []⟩
    | _ => none
  | .binOp op xT x y _ => binA P op xT (c.x x) (c.x y)
  | .unOp op _ x => match c.x x with
    | .v (.c a) => match unA op a with | some r => ret1 r | none => none
    | _ => none
  | .convert s d x => match bytesA c s d (fixA P s (c.x x)) with
    | some out => some out
    | none => match c.x x with
      | .v (.c a) => match convA P s d a with | some r => ret1 r | none => none
      | _ => none
  | .fieldAddr S x f => match c.x x, fieldOf P S f with
    | .v (.c a), some g => if sizeT P g.type = 0 then none else match fieldAddrA g.offset a with | some r => ret1 r | none => none
    | _, _ => none
  | .field S x f => match c.x x, fieldOf P S f with
    | .v (.g l), some g => if (P.underlying g.type).isNone then none else if aggB P g.type then (if g.offset + sizeT P g.type ≤ l.length then some ⟨some (.v (.g ((l.drop g.offset).take (sizeT P g.type)))), [], []⟩ else none)
      else match l[g.offset]? with | some a => ret1 a | none => none
    | _, _ => none
  | .indexAddr T x i => match fixA P T (c.x x), intOf1 (c.x i) with
    | .v (.c a), some (k, e) => match indexAddrT c T a k e with | some (r, evs) => ret1 r evs | none => none
    | _, _ => none
  | .extract t i => match c.x t with
    | .tup l => match l[i]? with | some r => some ⟨some (.v r), [], []⟩ | none => none
    | _ => none
  | .call { callee := .value q, args, argTypes } => match calleeOf (c.x q) with
    | some (f, extra) => callB c f args argTypes extra
    | none => none
  | .call { callee := .builtin .len, args, argTypes } => match argTypes[0]?, args[0]? with
    | some T, some x => lenA c T (c.x x)
    | _, _ => none
  | .call { callee := .builtin .copy, args, argTypes } => match argTypes[0]?, args[0]?, args[1]? with
    | some T, some x, some y => copyA c T (c.x x) (c.x y)
    | _, _, _ => none
  | .call { callee := .builtin .min, args, argTypes := _ } => match args.toList with
    | [x, y] => minA false (c.x x) (c.x y)
    | _ => none
  | .call { callee := .builtin .max, args, argTypes := _ } => match args.toList with
    | [x, y] => minA true (c.x x) (c.x y)
    | _ => none
  | .call { callee := .builtin .append, args, argTypes } => match argTypes[0]?, argTypes[1]?, args[0]?, args[1]? with
    | some T, some xT, some x, some y => appendA c T xT (fixA P T (c.x x)) (fixA P xT (c.x y))
    | _, _, _, _ => none
  | .call { callee := .builtin .cap, args, argTypes } => match argTypes[0]?, args[0]? with
    | some T, some x => (match P.underlying T, fixA P T (c.x x) with
      | some (.slice _), .v (.c (.nilS _)) => ret1 (.d (.int .i64) (.ki .i64 0))
      | _, _ => none)
    | _, _ => none
  | .buildSlice T n parts => buildSliceA c T n parts
  | .makeFunc (.func f) first caps => if first.size = 0 then
      (match caps.toList.mapM (fun q => ptrOf (c.x q)) with
      | some l => ret1 (.fn f l)
      | none => none)
    else none
  | .makeInterface T x => match P.underlying T, c.x x with
    | some (.struct _), .v (.g l) => (match l.mapM (A.toD c.B) with
      | some ps => if l.all (fun a => a.rows.isEmpty) then ret1 (.ifc T (ps.map (·.1)) (.rc (consE (ps.map (·.2))))) else none
      | none => none)
    | _, _ => none
  | .makeSlice T l cp => makeA c T (c.x l) (c.x cp)
  | .slice T x lo hi mx => sliceA c T (c.x x) lo hi mx
  | .index T x i => indexA c T (c.x x) (c.x i)
  | .build T parts => buildA c T parts
  | _ => none


end Go.Proofs.Ytindphofgojfbaa.Sy
