/-
  A part of a symbolic walk that is proved sound: what the functions of a program do with data. No conditions.
-/
import Derived.Test.YtindphofgojfbaaSyZb
set_option linter.unusedSimpArgs false
set_option linter.unusedVariables false
namespace Go.Proofs.Ytindphofgojfbaa.Sy
open Go.RowKit
def E.bd (n : Nat) : E → Bool
  | .v m => decide (m < n)
  | .ki _ _ | .kb _ | .ks _ | .nil => true
  | .ar _ _ a b | .shf _ _ a b | .cmp _ a b | .beq a b | .and a b | .mn _ a b | .mx _ a b | .cons a b | .get a b | .app a b | .rep a b | .cpy a b | .seq a b | .slt a b | .sidx a b | .scat a b => a.bd n && b.bd n
  | .not a | .neg _ a | .inv _ a | .conv _ a | .len a | .rc a | .cell a _ | .s2b a | .b2s a => a.bd n
  | .sub a b c | .set a b c | .ssub a b c => a.bd n && b.bd n && c.bd n
  | .setc a b _ c => a.bd n && b.bd n && c.bd n
def A.bd (n : Nat) : A → Bool
  | .d _ e | .elem _ e _ | .row _ _ e | .rptr _ _ e _ | .ifc _ _ e | .arr _ e | .nilq e => e.bd n
  | _ => true
def TV.bd (n : Nat) : TV → Bool | .c a => a.bd n | .g l => l.all (A.bd n)
def AV.bd (n : Nat) : AV → Bool | .v t => t.bd n | .tup l => l.all (TV.bd n)
def Blk.bd (n : Nat) : Blk → Bool | .cells l => l.all (A.bd n) | .row _ l _ => l.bd n | _ => true
def St.bd (σ : St) (n : Nat) : Bool := σ.tmps.all (AV.bd n) && σ.blks.all (Blk.bd n) && σ.asm.all fun p => p.1.bd n

inductive VC where
  | ret (rs : List E)
  | pan (T : TypeId) (e : E)
  | ev (l : List Ev) (k : VC)
  | cal (f : FuncId) (ts : List TS) (as : List E) (us : List TS) (n : Nat) (k : VC)
  | ite (e : E) (a b : VC)
  | loop (shs : List Sh) (init : List E) (body : VC)
  | back (n : Nat) (xs : List E)
  | bad (i : Nat)
  | nilq (e : E) (a b : VC)
  | probe (bl : List Nat) (rows : List Nat) (cr : List Nat)
  | join (shs : List Sh) (a b : VC)
  | fin (σ : St)
  deriving Inhabited

def seqB : Nat → List Ev → Option Nat
  | n, [] => some n
  | n, .ob e :: l => if e.bd n then seqB n l else none
  | n, .call _ ts as us m :: l => if m = n && as.all (E.bd n) then seqB (n + flatLen (us ++ outsT ts)) l else none

def genA (n : Nat) : A → A × List Sh × List E
  | .d s e => (.d s (.v n), [s], [e])
  | .nilS es => (.d (.lst es) (.v n), [.lst es], [.nil])
  | .k _ => (.any, [], [])
  | .ifc .. => (.any, [], [])
  | .nilq _ => (.any, [], [])
  | a => (a, [], [])
def genAs (n : Nat) : List A → List A × List Sh × List E
  | [] => ([], [], [])
  | a :: l =>
    let (a', s, e) := genA n a
    let (l', s', e') := genAs (n + s.length) l
    (a' :: l', s ++ s', e ++ e')
def genAV (n : Nat) : AV → AV × List Sh × List E
  | .v (.c a) => let (a', s, e) := genA n a; (.v (.c a'), s, e)
  | .v (.g l) => let (l', s, e) := genAs n l; (.v (.g l'), s, e)
  | .tup _ => (.v (.c .any), [], [])
def genBlk (n : Nat) : Blk → Blk × List Sh × List E
  | .cells l => let (l', s, e) := genAs n l; (.cells l', s, e)
  | .row es l fr => (.row es (.v n) fr, [.lst es], [l])
  | b => (b, [], [])
def genBlks (n i : Nat) (mod : List Nat) : List Blk → List Blk × List Sh × List E
  | [] => ([], [], [])
  | b :: l =>
    let (b', s, e) := if mod.contains i then genBlk n b else (b, [], [])
    let (l', s', e') := genBlks (n + s.length) (i + 1) mod l
    (b' :: l', s ++ s', e ++ e')
def refRow (blks : List Blk) : AV → AV
  | .v (.c (.row j es n)) => match blks[j]? with | some (.row _ l _) => .v (.c (.row j es (lenE l))) | _ => .v (.c .any)
  | a => a
def refA (blks : List Blk) : A → A
  | .row j es n => match blks[j]? with | some (.row _ l _) => .row j es (lenE l) | _ => .any
  | a => a
def refBlk (blks : List Blk) : Blk → Blk
  | .cells l => .cells (l.map (refA blks))
  | b => b
def keepNil (l0 l : List AV) : List AV := List.zipWith (fun a b => match a with | .v (.c (.nilS es)) => .v (.c (.nilS es)) | _ => b) l0 l
def dropK : AV → AV | .tup _ => .v (.c .any) | .v (.c (.k _)) => .v (.c .any) | .v (.c (.ifc ..)) => .v (.c .any) | .v (.c (.nilq _)) => .v (.c .any) | a => a
def genTmps (n i : Nat) (mod : List Nat) : List AV → List AV × List Sh × List E
  | [] => ([], [], [])
  | a :: l =>
    let (a', s, e) := if mod.contains i then genAV n a else (dropK a, [], [])
    let (l', s', e') := genTmps (n + s.length) (i + 1) mod l
    (a' :: l', s ++ s', e ++ e')
def rowsIn (modT : List Nat) (l : List AV) : List Nat := modT.filterMap fun (t : Nat) => match (l[t]? : Option AV) with
  | some (.v (.c (.row j _ _))) => some j
  | _ => none
def rowsInB (modB : List Nat) (l : List Blk) : List Nat := modB.flatMap fun (j : Nat) => match (l[j]? : Option Blk) with
  | some (.cells as) => as.flatMap A.rows
  | _ => []
def dropAli (modT js : List Nat) (i : Nat) : List AV → List AV
  | [] => []
  | a :: l => (match a with
    | .v (.c (.row j es n)) => if js.contains j && !(modT.contains i) then .v (.c .any) else .v (.c (.row j es n))
    | a => a) :: dropAli modT js (i + 1) l
def frzSlot (blks : List Blk) : AV → AV
  | .v (.c (.row j es n)) => (match blks[j]? with | some (.row _ _ true) => .v (.c (.d (.lst es) .nil)) | _ => .v (.c (.row j es n)))
  | a => a
def frzSlots (blks : List Blk) (modT : List Nat) (i : Nat) : List AV → List AV
  | [] => []
  | a :: l => (if modT.contains i then frzSlot blks a else a) :: frzSlots blks modT (i + 1) l
def frzS (h c : St) : List Nat := (List.range h.tmps.length).filterMap fun (t : Nat) => match (h.tmps[t]? : Option AV), (c.tmps[t]? : Option AV) with
  | some (.v (.c (.row j _ _))), some (.v (.c (.d (.lst _) _))) => some j
  | _, _ => none
def genHead (σ : St) (modT modB : List Nat) : St × List Sh × List E :=
  let (bs, s1, e1) := genBlks σ.nv 0 modB σ.blks
  let (ts, s2, e2) := genTmps (σ.nv + s1.length) 0 modT (frzSlots σ.blks modT 0 σ.tmps)
  ({ tmps := dropAli modT (rowsIn modT σ.tmps ++ rowsInB modB σ.blks) 0 (ts.map (refRow bs)), blks := bs.map (refBlk bs), nv := σ.nv + s1.length + s2.length, asm := σ.asm, dep := σ.dep + 1, pj := σ.pj, sg := σ.sg, gl := σ.gl, jn := σ.jn, hd := σ.hd }, s1 ++ s2, e1 ++ e2)
def rowify (σ : St) : List Nat → St
  | [] => σ
  | t :: ts => match σ.tmps[t]? with
    | some (.v (.c (.nilS es))) => rowify { σ with tmps := σ.tmps.set t (.v (.c (.row σ.blks.length es (.ki .i64 0)))), blks := σ.blks ++ [.row es .nil false] } ts
    | _ => rowify σ ts

def rowifyAs (m : Nat) : List A → List A × List Blk
  | [] => ([], [])
  | .nilS es :: l => ((.row m es (.ki .i64 0)) :: (rowifyAs (m + 1) l).1, .row es .nil false :: (rowifyAs (m + 1) l).2)
  | a :: l => (a :: (rowifyAs m l).1, (rowifyAs m l).2)
def rowifyB (σ : St) : List Nat → St
  | [] => σ
  | j :: js => match σ.blks[j]? with
    | some (.cells l) => rowifyB { σ with blks := (σ.blks.set j (.cells (rowifyAs σ.blks.length l).1)) ++ (rowifyAs σ.blks.length l).2 } js
    | _ => rowifyB σ js
def valSame : Value → Value → Bool
  | .func (.func f) a b, .func (.func g) c d => f == g && a.size == 0 && b.size == 0 && c.size == 0 && d.size == 0
  | .slice none 0 0, .slice none 0 0 => true
  | .pointer none, .pointer none => true
  | .nilFunc, .nilFunc => true
  | .nilIface, .nilIface => true
  | _, _ => false
structure MC where
  base : Nat
  π : List Nat
  hb : List Blk
  cb : List Blk
def matRow (c : MC) (j j' : Nat) (es es' : List Sh) (k k' : E) : Bool :=
  (c.π[j]? == some j') && Sh.sames es es' && (match c.hb[j]?, c.cb[j']? with
    | some (.row _ l _), some (.row _ l' _) => E.same (lenE l) k && E.same (lenE l') k'
    | _, _ => false)
def rowData (c : MC) (j : Nat) (es es' : List Sh) (k : E) : Option E :=
  match c.cb[j]? with
  | some (.row es'' l true) => if Sh.sames es es' && Sh.sames es' es'' && E.same (lenE l) k then some l else none
  | _ => none
def capsOK (π : List Nat) : List (Nat × Nat) → List (Nat × Nat) → Bool
  | [], [] => true
  | p :: l, q :: l' => (π[p.1]? == some q.1) && Nat.beq p.2 q.2 && capsOK π l l'
  | _, _ => false
def matA (c : MC) (n : Nat) (h a : A) : Option (List (Sh × E)) :=
  match h with
  | .any => some []
  | .d s e => match e with
    | .v m => if Nat.beq m n then (match a with
        | .d s' e' => if Sh.same s s' then some [(s, e')] else none
        | .nilS es' => (match s with | .lst es => if Sh.sames es es' then some [(s, .nil)] else none | _ => none)
        | .row j es' k => (match s with | .lst es => (match rowData c j es es' k with | some l => some [(s, l)] | none => none) | _ => none)
        | _ => none)
      else (match a with
        | .d s' e' => if Sh.same s s' && E.same (.v m) e' && (E.v m).bd c.base then some [] else none
        | _ => none)
    | e => match a with
      | .d s' e' => if Sh.same s s' && E.same e e' && e.bd c.base then some [] else none
      | _ => none
  | .nilS _ => (match a with | .nilS _ => some [] | _ => none)
  | .k _ => none
  | .ptr j o => (match a with | .ptr j' o' => if (c.π[j]? == some j') && Nat.beq o o' then some [] else none | _ => none)
  | .elem es x o => (match a with | .elem es' x' o' => if Sh.sames es es' && E.same x x' && Nat.beq o o' && x.bd c.base then some [] else none | _ => none)
  | .rptr j s i o => (match a with | .rptr j' s' i' o' => if (c.π[j]? == some j') && Nat.beq s s' && E.same i i' && Nat.beq o o' && i.bd c.base then some [] else none | _ => none)
  | .fn f caps => (match a with | .fn f' caps' => if Nat.beq f f' && capsOK c.π caps caps' then some [] else none | _ => none)
  | .ifc .. => none
  | .nilq _ => none
  | .arr es l => (match a with | .arr es' l' => if Sh.sames es es' && E.same l l' && l.bd c.base then some [] else none | _ => none)
  | .row j es k => (match a with | .row j' es' k' => if matRow c j j' es es' k k' then some [] else none | _ => none)
def matAs (c : MC) (n : Nat) : List A → List A → Option (List (Sh × E))
  | [], [] => some []
  | a :: l, a' :: l' => match matA c n a a' with
    | some x => match matAs c (n + x.length) l l' with | some y => some (x ++ y) | none => none
    | none => none
  | _, _ => none
def matAV (c : MC) (n : Nat) (h a : AV) : Option (List (Sh × E)) :=
  match h with
  | .v (.c .any) => some []
  | .v (.c h) => (match a with | .v (.c a) => matA c n h a | _ => none)
  | .v (.g l) => (match a with | .v (.g l') => matAs c n l l' | _ => none)
  | _ => none
def matAVs (c : MC) (n : Nat) : List AV → List AV → Option (List (Sh × E))
  | [], [] => some []
  | a :: l, a' :: l' => match matAV c n a a' with
    | some x => match matAVs c (n + x.length) l l' with | some y => some (x ++ y) | none => none
    | none => none
  | _, _ => none
def matBlk (c : MC) (n : Nat) (h b : Blk) : Option (List (Sh × E)) :=
  match h, b with
  | .dead, _ => some []
  | .cells l, .cells l' => matAs c n l l'
  | .row es l fr, .row es' l' fr' => if Sh.sames es es' && bbeq fr fr' then
      (match l with
      | .v m => if Nat.beq m n then some [(.lst es, l')] else if E.same (.v m) l' && (E.v m).bd c.base then some [] else none
      | l => if E.same l l' && l.bd c.base then some [] else none)
    else none
  | _, _ => none
def matBlks (c : MC) (n i : Nat) : List Blk → Option (List (Sh × E))
  | [] => some []
  | b :: l => match (c.π[i]?).bind (c.cb[·]?) with
    | some b' => match matBlk c n b b' with
      | some x => match matBlks c (n + x.length) (i + 1) l with | some y => some (x ++ y) | none => none
      | none => none
    | none => none
def renOf (h c : St) : List Nat :=
  let rowPair : A × A → Option (Nat × Nat) := fun
    | (.row j _ _, .row j' _ _) => some (j, j')
    | _ => none
  let pairs : List (Nat × Nat) := (h.tmps.zip c.tmps).flatMap (fun
    | (.v (.c a), .v (.c a')) => (rowPair (a, a')).toList
    | (.v (.g l), .v (.g l')) => (l.zip l').filterMap rowPair
    | _ => []) ++ (h.blks.zip c.blks).flatMap (fun
    | (.cells l, .cells l') => (l.zip l').filterMap rowPair
    | _ => [])
  (List.range h.blks.length).map fun j => match pairs.find? (fun p => Nat.beq p.1 j) with | some p => p.2 | none => j
def injB : List Nat → Bool
  | [] => true
  | n :: l => !(memN n l) && injB l
def mcOf (base : Nat) (h c : St) : MC := { base := base, π := renOf h c, hb := h.blks, cb := c.blks }
def matSt (base : Nat) (h c : St) : Option (List (Sh × E)) :=
  let m := mcOf base h c
  if injB m.π && Nat.beq m.π.length h.blks.length && h.pj.all (fun j => m.π[j]? == some j) then
    match matBlks m base 0 h.blks with
    | some x => match matAVs m (base + x.length) h.tmps c.tmps with
      | some y => some (x ++ y)
      | none => none
    | none => none
  else none
def asmBd (n : Nat) (l : List (E × Bool)) : Bool := l.all fun p => p.1.bd n
def asmSame : List (E × Bool) → List (E × Bool) → Bool
  | [], _ => true
  | (e, b) :: l, l' => (l'.any fun p => E.same p.1 e && bbeq p.2 b) && asmSame l l'
def frzFor (h c : St) : St :=
  let js := (h.tmps.zip c.tmps).filterMap fun
    | (.v (.c (.d _ _)), .v (.c (.row j _ _))) => some j
    | _ => none
  { c with blks := js.foldl (fun b j => b.set j (frozenB (b.getD j .dead))) c.blks }

def dstsC : Code → List Nat
  | .region _ ops _ => ops.toList.filterMap (·.dst)
  | .seq a b | .cond _ a b => dstsC a ++ dstsC b
  | .block _ c | .loop c | .scope c => dstsC c
  | _ => []
def A.beq : A → A → Bool
  | .any, .any => true
  | .d s e, .d s' e' => Sh.same s s' && E.same (e) (e')
  | .nilS _, .nilS _ => true
  | .k v, .k v' => valSame v v'
  | .ptr j o, .ptr j' o' => j == j' && o == o'
  | .elem _ x o, .elem _ x' o' => E.same (x) (x') && o == o'
  | .row j _ n, .row j' _ n' => j == j' && E.same (n) (n')
  | .rptr j s i o, .rptr j' s' i' o' => j == j' && s == s' && E.same (i) (i') && o == o'
  | .fn f l, .fn f' l' => f == f' && l == l'
  | .ifc T _ x, .ifc T' _ x' => T == T' && E.same x x'
  | .arr _ x, .arr _ x' => E.same x x'
  | _, _ => false
def Blk.beq : Blk → Blk → Bool
  | .none, .none => true
  | .dead, .dead => true
  | .cells l, .cells l' => l.length == l'.length && (l.zip l').all fun p => p.1.beq p.2
  | .row _ l f, .row _ l' f' => E.same (l) (l') && f == f'
  | _, _ => false
def diffB (h c : St) : List Nat := (List.range h.blks.length).filter fun j => !((h.blks.getD j .none).beq (c.blks.getD j .none))
def rowSlots (h c : St) : List Nat := (List.range h.tmps.length).filter fun t => match h.tmps[t]?, c.tmps[t]? with
  | some (.v (.c (.nilS _))), some (.v (.c (.row _ _ _))) => true
  | _, _ => false
def cellRows (h c : St) : List Nat := (List.range h.blks.length).filter fun j => match h.blks[j]?, c.blks[j]? with
  | some (.cells l), some (.cells l') => (l.zip l').any fun | (.nilS _, .row ..) => true | _ => false
  | _, _ => false
def frzB (h c : St) : List Nat := (List.range h.blks.length).filter fun j => match h.blks[j]?, c.blks[j]? with
  | some (.row _ _ false), some (.row _ _ true) => true
  | _, _ => false
def frzL (js : List Nat) (c : St) : St := { c with blks := js.foldl (fun b j => b.set j (frozenB (b.getD j .dead))) c.blks }
def frzOf (l : List Nat) : List Nat := (l.filter fun j => Nat.ble 1000000 j).map fun j => j - 1000000
def VC.probed : VC → List Nat × List Nat × List Nat
  | .ev _ k => k.probed
  | .cal _ _ _ _ _ k => k.probed
  | .ite _ a b => let x := a.probed; let y := b.probed; (x.1 ++ y.1, x.2.1 ++ y.2.1, x.2.2 ++ y.2.2)
  | .nilq _ a b => let x := a.probed; let y := b.probed; (x.1 ++ y.1, x.2.1 ++ y.2.1, x.2.2 ++ y.2.2)
  | .loop _ _ b => b.probed
  | .join _ a b => let x := a.probed; let y := b.probed; (x.1 ++ y.1, x.2.1 ++ y.2.1, x.2.2 ++ y.2.2)
  | .probe a b c => (a, b, c)
  | _ => ([], [], [])

structure Conts where
  normal : St → VC
  exits : List (Nat × (St → VC))
  ret : St → VC
def St.assume (σ : St) (e : E) (b : Bool) : St := { σ with asm := (e, b) :: σ.asm }
def withEvs (σ : St) (evs : List Ev) (nv' : Nat) (k : VC) : VC :=
  match evs with
  | [] => if σ.nv = nv' then k else .bad 900016
  | _ => if seqB σ.nv evs = some nv' && (decide (newVars evs = 0) || σ.bd σ.nv) then .ev evs k else .bad 900002
def withCal (σ : St) (evs : List Ev) (nv' : Nat) (k : VC) : VC :=
  match evs with
  | [.call f ts as us n] => if seqB σ.nv [.call f ts as us n] = some nv' && σ.bd σ.nv then .cal f ts as us n k else .bad 900002
  | _ => .bad 900026
def ifcOf : AV → Option (TypeId × E)
  | .v (.c (.ifc T es x)) => if es.all Sh.sc then some (T, x) else none
  | _ => none
def panicOf (σ : St) (o : Oper) : Option (TypeId × E) :=
  match o.guard with
  | some _ => none
  | none => match o.op with
    | .panic q => ifcOf (σ.opd q)
    | .call { callee := .builtin .panic, args, .. } => (match args[0]? with | some q => ifcOf (σ.opd q) | none => none)
    | _ => none
def wantsB (σ : St) (ops : Array Oper) (o : Oper) : Bool := match o.guard with
  | none => true
  | some (j, want) => match (ops[j]?).bind (·.dst) with
    | none => false
    | some d => match boolAV σ.asm (σ.tmps.getD d (.v (.c .any))) with
      | some b => b == want
      | none => false
abbrev Pins := List (Nat × Nat)
def pinS (σ : St) (pin : Pins) : Bool := pin.all fun p => (match σ.tmps[p.1]? with | some (.v (.c (.ptr j 0))) => Nat.beq j p.2 | _ => false) && (match σ.blks[p.2]? with | some (.cells [_]) => true | _ => false) && memN p.2 σ.pj
def pinB (P : Program) (σ : St) (o : Oper) (pin : Pins) : Bool := match pin with
  | [] => true
  | _ => pinS σ pin && (match act (ctxOf P σ) o with | some out => pin.all fun p => out.upd.all fun q => !(Nat.beq q.1 p.2) | none => true)
def tryOp (P : Program) (pin : Pins) (ops : Array Oper) (i : Nat) (o : Oper) (k : St → VC) : Nat → St → VC
  | 0, _ => .bad 900001
  | f + 1, σ => match runOp P ops σ i o with
    | .ok σ' evs => if isCallOp o && wantsB σ ops o && pinB P σ o pin then withCal σ evs σ'.nv (k σ') else withEvs σ evs σ'.nv (k σ')
    | .split e => if e.bd σ.nv then .ite e (tryOp P pin ops i o k f (σ.assume e true)) (tryOp P pin ops i o k f (σ.assume e false)) else .bad 900003
    | .fail i => match panicOf σ o with | some (T, x) => if pinS σ pin then .pan T x else .bad 900031 | none => .bad i
def goSeq (P : Program) (pin : Pins) (id : Nat) (ops : Array Oper) : List Nat → St → (St → VC) → VC
  | [], σ, k => k σ
  | i :: rest, σ, k => match ops[i]? with
    | none => goSeq P pin id ops rest σ k
    | some o => tryOp P pin ops (id * 100 + i) o (fun σ' => goSeq P pin id ops rest σ' k) 12 σ
def ckSame : CK → CK → Bool
  | .s a, .s b => Sh.same a b
  | .r a, .r b => Sh.sames a b
  | _, _ => false
def cksSame : List CK → List CK → Bool
  | [], [] => true
  | a :: l, b :: m => ckSame a b && cksSame l m
  | _, _ => false
def tsSame : TS → TS → Bool
  | .c s, .c s' => Sh.same s s'
  | .g l, .g l' => Sh.sames l l'
  | .r l, .r l' => Sh.sames l l'
  | .h l, .h l' => cksSame l l'
  | .p l, .p l' => cksSame l l'
  | .i n s, .i n' s' => Nat.beq n n' && Sh.same s s'
  | _, _ => false
def tssSame : List TS → List TS → Bool
  | [], [] => true
  | a :: l, b :: m => tsSame a b && tssSame l m
  | _, _ => false
def esSame : List E → List E → Bool
  | [], [] => true
  | a :: l, b :: m => E.same a b && esSame l m
  | _, _ => false
def Ev.same : Ev → Ev → Bool
  | .ob a, .ob b => E.same a b
  | .call f ts as us n, .call f' ts' as' us' n' => Nat.beq f f' && tssSame ts ts' && esSame as as' && tssSame us us' && Nat.beq n n'
  | _, _ => false
def evPre : List Ev → List Ev → Bool
  | [], _ => true
  | a :: l, b :: m => Ev.same a b && evPre l m
  | _, _ => false
def withEvsD (σ : St) (done evs : List Ev) (nv' : Nat) (k : VC) : VC :=
  if evPre done evs then
    match evs.drop done.length with
    | [] => if σ.nv + newVars done = nv' then k else .bad 900021
    | new => if seqB (σ.nv + newVars done) new = some nv' && (decide (newVars new = 0) || σ.bd (σ.nv + newVars done)) then .ev new k else .bad 900022
  else .bad 900023
def padN (ops : Array Oper) (σ : St) : St := { σ with blks := σ.blks ++ List.replicate ((ops.toList.map takesD).foldl Nat.add 0) .none }
def callIn (o : Oper) (e : Eff) : Option (FuncId × List TS × List E × List TS × Nat) :=
  if isCallOp o && o.guard.isNone then (match e.evs with | [.call f ts as us n] => some (f, ts, as, us, n) | _ => none) else none
def callAt (ops : Array Oper) (tr : List (Nat × Nat × Eff)) : Option Nat := (List.range ops.size).find? fun i => match ops[i]?, tr[i]? with
  | some o, some p => (callIn o p.2.2).isSome
  | _, _ => false
def late (ops : Array Oper) (ic m : Nat) : Bool := ((Region.before ops).getD m 0).testBit ic
def isOb : Ev → Bool | .ob _ => true | _ => false
def panD (ops : Array Oper) (σ : St) (pin : Pins) (ic : Nat) (tr : List (Nat × Nat × Eff)) : Bool :=
  pinS σ pin && (List.range tr.length).all fun m => match tr[m]? with
    | some p => (Nat.beq m ic || p.2.2.evs.all isOb) && (late ops ic m || pin.all fun q => (Nat.beq m ic || !optB p.2.2.dst [q.1]) && !memN q.2 p.2.2.wb)
    | none => false
def evsAt (ops : Array Oper) (ic : Nat) (b : Bool) (tr : List (Nat × Nat × Eff)) : List Ev :=
  (List.range tr.length).flatMap fun m => if Nat.beq m ic then [] else if late ops ic m == b then (match tr[m]? with | some p => p.2.2.evs | none => []) else []
def mkEv (l : List Ev) (k : VC) : VC := match l with | [] => k | _ => .ev l k
def genD (P : Program) (pin : Pins) (id : Nat) (ops : Array Oper) (k : St → VC) : Nat → St → List Ev → VC
  | 0, _, _ => .bad 900024
  | f + 1, σ, done => match runD P ops (List.range ops.size) (padN ops σ) σ.blks.length with
    | .ok tr σ' =>
      if ordAll (Region.before ops) (tr.map (·.2.2)) 0 (tr.map (·.2.2)) && edgesOK ops && nbAll ops (padN ops σ) (tr.map (·.2.2)) 0 tr then
        match callAt ops tr with
        | some ic => (match ops[ic]?, tr[ic]? with
          | some o, some p => (match callIn o p.2.2 with
            | some (f, ts, as, us, n) =>
              if done.isEmpty && panD ops (padN ops σ) pin ic tr then
                (if seqB σ.nv (evsAt ops ic false tr) = some σ.nv && seqB σ.nv (evsAt ops ic false tr ++ .call f ts as us n :: evsAt ops ic true tr) = some σ'.nv && σ.bd σ.nv then
                  mkEv (evsAt ops ic false tr) (.cal f ts as us n (mkEv (evsAt ops ic true tr) (k { σ' with blks := killNone σ'.blks })))
                else .bad 900033)
              else withEvsD σ done (tr.flatMap (·.2.2.evs)) σ'.nv (k { σ' with blks := killNone σ'.blks })
            | none => .bad 900034)
          | _, _ => .bad 900035)
        | none => withEvsD σ done (tr.flatMap (·.2.2.evs)) σ'.nv (k { σ' with blks := killNone σ'.blks })
      else if (frzB σ σ').isEmpty then .bad (500000 + id * 100) else genD P pin id ops k f (frzL (frzB σ σ') σ) done
    | .split evs e => withEvsD σ done evs (σ.nv + newVars evs)
        (if e.bd (σ.nv + newVars evs) then .ite e (genD P pin id ops k f (σ.assume e true) evs) (genD P pin id ops k f (σ.assume e false) evs) else .bad 900025)
    | .fail i => .bad (600000 + id * 100 + i)
def VC.ends : VC → List St
  | .ev _ k => k.ends
  | .cal _ _ _ _ _ k => k.ends
  | .ite _ a b => a.ends ++ b.ends
  | .nilq _ a b => a.ends ++ b.ends
  | .loop _ _ b => b.ends
  | .join _ a b => a.ends ++ b.ends
  | .fin σ => [σ]
  | _ => []
def AV.beq : AV → AV → Bool
  | .v (.c a), .v (.c b) => a.beq b
  | .v (.g l), .v (.g l') => Nat.beq l.length l'.length && (l.zip l').all fun p => p.1.beq p.2
  | _, _ => false
def pickAV (l : List AV) : AV :=
  match l.find? (fun a => match a with | .v (.c .any) => true | .tup _ => true | _ => false) with
  | some _ => .v (.c .any)
  | none => match l.find? (fun a => match a with | .v (.c (.d ..)) => true | _ => false) with
    | some a => a
    | none => match l.find? (fun a => match a with | .v (.c (.row ..)) => true | _ => false) with
      | some a => a
      | none => l.headD (.v (.c .any))
def AV.refs : AV → List Nat
  | .v (.c (.row j _ _)) => [j]
  | .v (.c (.ptr j _)) => [j]
  | .v (.c (.rptr j _ _ _)) => [j]
  | .v (.c (.fn _ caps)) => caps.map (·.1)
  | .v (.g l) => l.flatMap fun a => match a with | .row j _ _ => [j] | .ptr j _ => [j] | .rptr j _ _ _ => [j] | .fn _ caps => caps.map (·.1) | _ => []
  | _ => []
def Blk.refs : Blk → List Nat
  | .cells l => (AV.v (.g l)).refs
  | _ => []
def maxL (l : List Nat) : Nat := l.foldl (fun a b => if Nat.ble a b then b else a) 0
def joinHead (σ : St) (ds keep : List Nat) (es : List St) : St × List Sh × List E :=
  match es with
  | [] => (σ, [], [])
  | e :: _ =>
    let pick : Nat → AV × Bool := fun t =>
      if memN t ds then
        (if keep.isEmpty || memN t keep then
          (let vs := es.map fun s => s.tmps.getD t (.v (.c .any))
           let v := pickAV vs
           if vs.all (fun u => u.beq v) && v.bd σ.nv then (v, false) else (v, true))
         else (.v (.c .any), false))
      else (e.tmps.getD t (.v (.c .any)), false)
    let ps := (List.range e.tmps.length).map pick
    let modT := (List.range ps.length).filter fun t => (ps.getD t (.v (.c .any), false)).2
    let tmps := ps.map (·.1)
    let nb := maxL (σ.blks.length :: (tmps.flatMap AV.refs ++ e.blks.flatMap Blk.refs).map (· + 1))
    let blks := e.blks.take nb
    let modB := (List.range blks.length).filter fun j => Nat.ble σ.blks.length j || es.any (fun s => !((s.blks.getD j .none).beq (e.blks.getD j .none))) || !((blks.getD j .none).bd σ.nv)
    let (bs, s1, e1) := genBlks σ.nv 0 modB blks
    let (ts, s2, e2) := genTmps (σ.nv + s1.length) 0 modT tmps
    ({ tmps := ts.map (refRow bs), blks := bs.map (refBlk bs), nv := σ.nv + s1.length + s2.length, asm := σ.asm, dep := σ.dep + 1, pj := σ.pj, sg := σ.sg, gl := σ.gl, jn := σ.jn, hd := σ.hd }, s1 ++ s2, e1 ++ e2)
def endSt (h c : St) : St :=
  let c1 := rowifyB (rowify c (rowSlots c h)) (cellRows c h)
  let c2 := frzFor h c1
  { c2 with blks := c2.blks ++ List.replicate (h.blks.length - c2.blks.length) .none }
def headId : Code → Option Nat
  | .region id _ _ => some id
  | .seq a _ => headId a
  | .block _ c | .loop c | .scope c => headId c
  | _ => none
def joinAt (jn : List (Nat × List Nat)) (b : Code) : Option (List Nat) :=
  match jn with
  | [] => none
  | _ => match headId b with
    | some i => (jn.find? fun p => Nat.beq p.1 i).map (·.2)
    | none => none
def lookH (l : List HdL) (kind : Bool) (b : Code) (nv : Nat) : Option HdL :=
  match l with
  | [] => none
  | _ => match headId b with
    | some i => l.find? fun h => bbeq h.kind kind && Nat.beq h.id i && Nat.beq h.nv nv
    | none => none
def headOf (σ : St) (l : HdL) : St :=
  { tmps := l.tmps, blks := l.blks, nv := σ.nv + l.shs.length, asm := σ.asm, dep := σ.dep + 1, pj := σ.pj, sg := σ.sg, gl := σ.gl, jn := σ.jn, hd := σ.hd }
def joinPick (l : Option HdL) (σ : St) (o : St × List Sh × List E) : St × List Sh := match l with
  | some l => (headOf σ l, l.shs)
  | none => (o.1, o.2.1)
def loopPick (l : Option HdL) (σ : St) (ds : List Nat) (pr : List Nat × List Nat × List Nat) : St × St × List Sh := match l with
  | some l =>
    let σ1 := frzL l.fz (rowifyB (rowify σ l.rs) l.bs)
    (σ1, headOf σ1 l, l.shs)
  | none =>
    let σ1 := frzL (frzOf pr.2.2).eraseDups (rowifyB (rowify σ pr.2.1.eraseDups) pr.2.2.eraseDups)
    let hh := genHead σ1 ds (pr.1 ++ (List.range σ1.blks.length).drop σ.blks.length)
    (σ1, hh.1, hh.2.1)
def lookX (l : List (Nat × (St → VC))) (i : Nat) : Option (St → VC) := (l.find? fun p => p.1 == i).map (·.2)
def gen (P : Program) (pin : Pins) : Code → St → Conts → VC
  | .skip, σ, k => k.normal σ
  | .label _, σ, k => k.normal σ
  | .region id ops draw, σ, k => if draw then genD P pin id ops k.normal 30 σ [] else goSeq P pin id ops (List.range ops.size) σ k.normal
  | .seq a b, σ, k => match joinAt σ.jn b with
    | none => gen P pin a σ { k with normal := fun σ' => gen P pin b σ' k }
    | some keep =>
      let σ0 : St := { σ with dep := σ.dep + 1 }
      let hs := joinPick (lookH σ.hd false b σ.nv) σ (joinHead σ (dstsC a) keep (gen P pin a σ0 { normal := VC.fin, exits := k.exits.map fun p => (p.1, fun _ => VC.bad 900040), ret := fun _ => .bad 900040 }).ends)
      let h := hs.1
      let shs := hs.2
      if asmBd σ.nv h.asm && Nat.beq h.nv (σ.nv + shs.length) && Nat.beq h.dep (σ.dep + 1) then
        .join shs (gen P pin a σ0 { k with normal := fun σ' =>
            let σ2 := endSt h σ'
            (match matSt σ.nv h σ2 with
            | some xs => if Sh.sames (xs.map (·.1)) shs && asmSame h.asm σ2.asm then .back σ.dep (xs.map (·.2)) else .bad 900041
            | none => .bad 900042) })
          (gen P pin b h k)
      else .bad 900043
  | .cond c a b, σ, k =>
    let pick (σ' : St) : VC := match boolAV σ'.asm (σ'.opd c) with
      | some true => gen P pin a σ' k
      | some false => gen P pin b σ' k
      | none => .bad 900004
    match boolAV σ.asm (σ.opd c) with
    | some true => gen P pin a σ k
    | some false => gen P pin b σ k
    | none => match splitOf (σ.opd c) with
      | some e => if e.bd σ.nv then .ite e (pick (σ.assume e true)) (pick (σ.assume e false)) else .bad 900005
      | none => match σ.opd c with
        | .v (.c (.nilq e)) => .nilq e (gen P pin a σ k) (gen P pin b σ k)
        | _ => .bad 900006
  | .block id c, σ, k => gen P pin c σ { k with exits := (id, k.normal) :: k.exits }
  | .scope c, σ, k => gen P pin c σ k
  | .exit id, σ, k => match lookX k.exits id with | some f => f σ | none => .bad 900007
  | .ret, σ, k => k.ret σ
  | .loop c, σ, k =>
    let ds := dstsC c
    let (h00, _, _) := genHead σ ds []
    let h0 : St := { h00 with tmps := keepNil σ.tmps h00.tmps }
    let hs := loopPick (lookH σ.hd true c σ.nv) σ ds (gen P pin c h0 { k with normal := fun σ' => VC.probe (diffB h0 σ') (rowSlots h0 σ') (cellRows h0 σ' ++ (frzB h0 σ' ++ frzS h0 σ').map (· + 1000000)) }).probed
    let σ1 := hs.1
    let h := hs.2.1
    let shs := hs.2.2
    let base := σ1.nv
    if asmBd base h.asm && Nat.beq h.nv (base + shs.length) && Nat.beq h.dep (σ1.dep + 1) && Nat.beq σ1.nv σ.nv && Nat.beq σ1.dep σ.dep && asmSame h.asm σ1.asm then
      (match matSt base h σ1 with
      | some init => if Sh.sames (init.map (·.1)) shs then
          .loop shs (init.map (·.2)) (gen P pin c h { k with normal := fun σ' =>
            let σ2 := frzFor h σ'
            (match matSt base h σ2 with
            | some xs => if Sh.sames (xs.map (·.1)) shs && asmSame h.asm σ'.asm then .back σ1.dep (xs.map (·.2)) else .bad 900017
            | none => .bad 900008) })
        else .bad 900018
      | none => .bad 900019)
    else .bad 900009
  | _, _, _ => .bad 900010

def resTV (P : Program) (σ : St) : ResultVar → Option TV
  | .tmp t => match σ.tmps[t]? with | some (.v a) => some a | _ => none
  | .cell t T => match σ.tmps[t]? with
    | some (.v (.c a)) => if (P.underlying T).isNone then none else match loadA P (fun j => σ.blks.getD j .dead) T a with | some (r, []) => some r | _ => none
    | _ => none
def fixR : TS → TV → TV
  | .c (.lst es), .c (.k (.slice none 0 0)) => .c (.nilS es)
  | .r es, .c (.k (.slice none 0 0)) => .c (.nilS es)
  | _, t => t
def fixRs : List TS → List TV → List TV
  | u :: us, t :: ts => fixR u t :: fixRs us ts
  | _, ts => ts
def retE (σ : St) (ts us : List TS) (vs : List TV) : VC :=
  if us.length ≠ vs.length then .bad 900020 else
  match prepTs (fun j => σ.blks.getD j .dead) (us ++ outsT ts) (fixRs us vs ++ σ.pj.map fun j => .c (.ptr j 0)) with
  | none => .bad 900012
  | some (es, frz, own) =>
    let own' := own.filterMap id
    if distinctN own' && !(own'.any fun j => frz.any fun i => Nat.beq j i) then .ret es else .bad 900013
def retK (P : Program) (fn : Func) (ts us : List TS) (σ : St) : VC :=
  match fn.results.toList.mapM (resTV P σ) with
  | none => .bad 900011
  | some vs => retE σ ts us vs
def startSt (sg : Nat → Option (List TS × List TS)) (gl : Globs) (fn : Func) (ts : List TS) : St :=
  { tmps := (varsTs 0 0 ts).1.map AV.v ++ List.replicate (fn.ntmps - ts.length) (.v (.c .any)), blks := (varsTs 0 0 ts).2, nv := flatLen ts, asm := [], dep := 0, pj := pjOf 0 0 ts, sg := sg, gl := gl }
def genFn (P : Program) (sg : Nat → Option (List TS × List TS)) (gl : Globs) (f : FuncId) (ts us : List TS) : VC :=
  match P.funcs[f]? with
  | some fn => match fn.body with
    | some c => if !ts.all TS.noI then .bad 900051 else gen P [] c (startSt sg gl fn ts) { normal := retK P fn ts us, exits := [], ret := retK P fn ts us }
    | none => .bad 900014
  | none => .bad 900015
def startH (jn : List (Nat × List Nat)) (hd : List HdL) (sg : Nat → Option (List TS × List TS)) (gl : Globs) (fn : Func) (ts : List TS) : St := { startSt sg gl fn ts with jn := jn, hd := hd }
def genFnH (P : Program) (jn : List (Nat × List Nat)) (hd : List HdL) (sg : Nat → Option (List TS × List TS)) (gl : Globs) (f : FuncId) (ts us : List TS) : VC :=
  match P.funcs[f]? with
  | some fn => match fn.body with
    | some c => if !ts.all TS.noI then .bad 900051 else gen P [] c (startH jn hd sg gl fn ts) { normal := retK P fn ts us, exits := [], ret := retK P fn ts us }
    | none => .bad 900014
  | none => .bad 900015

end Go.Proofs.Ytindphofgojfbaa.Sy
