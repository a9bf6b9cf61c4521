/- Px, second part: what the operations do on plain values; the run with oracles. Definitions alone. No condition. -/
import Derived.Test.YtelfmddcjlocpaaGreatDoorKRoundQuotedPxA
import Derived.Test.YtelfmddcjlocpaaGreatDoorKRoundQuotedBl
set_option linter.unusedVariables false
set_option linter.unusedSimpArgs false
namespace Go.Proofs.YtelfmddcjlocpaaGreatDoor.Px
open Go Go.RowKit Go.Proofs.YtelfmddcjlocpaaGreatDoorW.PrintWords Go.Proofs.YtelfmddcjlocpaaGreatDoorW.PrintMore
def eqL : List SC → List SC → Option Bool
  | [.i _ a], [.i _ b] => some (a == b)
  | [.b a], [.b b] => some (a == b)
  | .i _ a :: l, .i _ b :: m =>
    match eqL l m with
    | some r => some (a == b && r)
    | none => none
  | .b a :: l, .b b :: m =>
    match eqL l m with
    | some r => some (a == b && r)
    | none => none
  | _, _ => none
def plainS (P : Program) (ty : TypeId) (l m : List SC) : Bool :=
  match P.underlying ty with
  | some (.struct fs) => !P.stoodInHeld ty && !P.eqGuardType P.depth ty && go 0 fs.toList l m
  | _ => false
where
  go : Nat → List Field → List SC → List SC → Bool
    | _, [], [], [] => true
    | o, f :: fs, .i k _ :: l, .i k' _ :: m =>
      (match P.underlying f.type with
       | some (.int _) => decide (k = k')
       | _ => false) && Nat.beq f.offset o && (f.name != "_") && go (o + 1) fs l m
    | o, f :: fs, .b _ :: l, .b _ :: m =>
      (match P.underlying f.type with
       | some .bool => true
       | _ => false) && Nat.beq f.offset o && (f.name != "_") && go (o + 1) fs l m
    | _, _, _, _ => false
def effInt (op : BinOp) (k : IntKind) (a b : Int) : SC × List Prop :=
  match op with
  | .add => (.i k (wr k (a + b)), [])
  | .sub => (.i k (wr k (a - b)), [])
  | .mul => (.i k (wr k (a * b)), [])
  | .quo => (.i k (wr k (a.tdiv b)), [b ≠ 0])
  | .rem => (.i k (a.tmod b), [b ≠ 0])
  | .and => (.i k (Go.bits .and k a b), [])
  | .or => (.i k (Go.bits .or k a b), [])
  | .xor => (.i k (Go.bits .xor k a b), [])
  | .andNot => (.i k (Go.bits .andNot k a b), [])
  | .eql => (.b (a == b), [])
  | .neq => (.b (a != b), [])
  | .lss => (.b (decide (a < b)), [])
  | .leq => (.b (decide (a ≤ b)), [])
  | .gtr => (.b (decide (a > b)), [])
  | .geq => (.b (decide (a ≥ b)), [])
  | .shl => (.i k (shl k a b), [0 ≤ b])
  | .shr => (.i k (shr k a b), [0 ≤ b])
def shiftOp : BinOp → Bool
  | .shl | .shr => true
  | _ => false
def flBin (op : BinOp) (k : FloatKind) (a b : Nat) : Option (Option Nat) :=
  match op with
  | .add => some (k.format.add a b)
  | .sub => some (k.format.sub a b)
  | .mul => some (k.format.mul a b)
  | .quo => some (k.format.div a b)
  | _ => none
def flCmp (op : BinOp) (k : FloatKind) (a b : Nat) : Option Bool :=
  match op with
  | .eql => some (k.format.order a b == some .eq)
  | .neq => some (k.format.order a b != some .eq)
  | .lss => some (k.format.order a b == some .lt)
  | .leq => some (k.format.order a b == some .lt || k.format.order a b == some .eq)
  | .gtr => some (k.format.order a b == some .gt)
  | .geq => some (k.format.order a b == some .gt || k.format.order a b == some .eq)
  | _ => none
def eqOp (op : BinOp) (r : Bool) : Option SC :=
  match op with
  | .eql => some (.b r)
  | .neq => some (.b (!r))
  | _ => none
def effBin (P : Program) (op : BinOp) (ty : TypeId) (x y : PV) (an : List Ans) : Option (PV × List Prop × List Ans) :=
  match x, y with
  | .s (.i k a), .s (.i k' b) =>
    match shiftOp op || decide (k = k') with
    | true => some (.s (effInt op k a b).1, (effInt op k a b).2, an)
    | false => none
  | .s (.b a), .s (.b b) =>
    match P.underlying ty with
    | some .bool =>
      match op with
      | .eql => some (.s (.b (a == b)), [], an)
      | .neq => some (.s (.b (a != b)), [], an)
      | _ => none
    | _ => none
  | .ag l, .ag m =>
    match plainS P ty l m with
    | true =>
      match eqL l m with
      | some r =>
        match eqOp op r with
        | some c => some (.s c, [], an)
        | none => none
      | none => none
    | false => none
  | .s (.fl k a), .s (.fl k' b) =>
    match decide (k = k') with
    | true =>
      match flCmp op k a b with
      | some r => some (.s (.b r), [], an)
      | none =>
        match flBin op k a b, an with
        | some o, .r (.s (.fl _ r)) :: an' => some (.s (.fl k r), [o = some r], an')
        | _, _ => none
    | false => none
  | _, _ => none
def effUn (op : UnOp) (x : PV) : Option PV :=
  match op, x with
  | .neg, .s (.i k n) => some (.s (.i k (wr k (-n))))
  | .not, .s (.b a) => some (.s (.b (!a)))
  | .xor, .s (.i k n) => some (.s (.i k (Go.bits .xor k (if k.signed then -1 else k.max) n)))
  | .neg, .s (.fl k n) => some (.s (.fl k (Op.negFloat k n)))
  | _, _ => none
def effConv (P : Program) (src dst : TypeId) (x : PV) : Option PV :=
  match P.underlying src, P.underlying dst with
  | some _, some (.int k) =>
    match x with
    | .s (.i _ n) => some (.s (.i k (wr k n)))
    | _ => none
  | _, _ => none
def effIndex (P : Program) (ty : TypeId) (x ix : PV) : Option (PV × List Prop) :=
  match P.underlying ty with
  | some (.slice el) =>
    match P.info? el, x, ix with
    | some inf, .s (.sl k l), .s (.i _ n) => bif Nat.beq inf.size 1 then some (.s (.ep k (rd l n)), [0 ≤ n, n < (l.length : Int)]) else none
    | _, _, _ => none
  | _ => none
def effPick (c a b : PV) (an : List Ans) : Option (E × List Prop × List Ans) :=
  match c, an with
  | .s (.b t), .br x :: an' => some (.v (bif x then a else b), [t = x], an')
  | _, _ => none
def fillL (fs : Array Field) (P : Program) : List (Nat × PV) → List SC → Option (List SC)
  | [], l => some l
  | (i, v) :: r, l =>
    match fs[i]? with
    | some f =>
      match P.info? f.type with
      | some inf => bif (Nat.beq v.cells.length inf.size && Nat.ble (f.offset + v.cells.length) l.length) then fillL fs P r (splice l f.offset v.cells) else none
      | none => none
    | none => none
def effBuild (P : Program) (ty : TypeId) (ps : List (Nat × PV)) : Option PV :=
  match P.info? ty, P.underlying ty with
  | some inf, some (.struct fs) =>
    match inf.zero with
    | some (.agg cs) =>
      match (fs.toList.all fun f => (P.info? f.type).isSome) && (ps.all fun p => p.2.cells.all SC.fit) with
      | true =>
        match fillL fs P ps (cs.toList.map ofC) with
        | some l => some (.ag l)
        | none => none
      | false => none
    | _ => none
  | _, _ => none
def intsOf (k : IntKind) : List (Nat × PV) → Nat → Option (List Int)
  | [], _ => some []
  | (i, .s (.i k' n)) :: r, j =>
    bif Nat.beq i j && decide (k = k') then
      match intsOf k r (j + 1) with
      | some l => some (n :: l)
      | none => none
    else none
  | _, _ => none
def effBuildSlice (P : Program) (ty : TypeId) (len : Nat) (ps : List (Nat × PV)) : Option PV :=
  match P.underlying ty with
  | some (.slice el) =>
    match P.info? el, P.underlying el with
    | some inf, some (.int k) =>
      match inf.zero, Nat.beq inf.size 1 && Nat.ble len 1000 && Nat.beq ps.length len with
      | some (.int _ _), true =>
        match intsOf k ps 0 with
        | some l => some (.s (.sl k l))
        | none => none
      | _, _ => none
    | _, _ => none
  | _ => none
def effLen (P : Program) (ts : Array TypeId) (xs : List PV) : Option PV :=
  match ts[0]?, xs with
  | some t, [.s (.sl _ l)] =>
    match P.underlying t with
    | some (.slice _) => some (.s (.i .i64 (l.length : Int)))
    | _ => none
  | _, _ => none
def effExtract (x : PV) (i : Nat) : Option PV :=
  match x with
  | .tu l =>
    match l[i]? with
    | some p => some p.pv
    | none => none
  | _ => none
def effCheck (x : PV) : Option PV :=
  match x with
  | .s (.lo b o) => some (.s (.lo b o))
  | .s (.ep k n) => some (.s (.ep k n))
  | _ => none
def toIC : List SC → Option (List IC)
  | [] => some []
  | .i k n :: l =>
    match toIC l with
    | some m => some (.i k n :: m)
    | none => none
  | .b v :: l =>
    match toIC l with
    | some m => some (.b v :: m)
    | none => none
  | .sl k v :: l =>
    match toIC l with
    | some m => some (.sl k v :: m)
    | none => none
  | _ => none
def ifaceD : TypeDesc → Bool
  | .interface _ => true
  | _ => false
def St.evc (st : St) (x : Operand) (an : List Ans) : PV × Prop × List Ans :=
  match an with
  | .cs c :: an' => (.s c, st.ev x = .s c, an')
  | _ => (st.ev x, True, an)
def effMakeI (P : Program) (t : TypeId) (x : PV) : Option PV :=
  match P.underlying t with
  | some d =>
    match ifaceD d, x with
    | false, .ag l =>
      match toIC l with
      | some m => some (.s (.ifc t m))
      | none => none
    | _, _ => none
  | none => none
def zeroAg (P : Program) (ty : TypeId) : Option (List SC) :=
  match P.info? ty with
  | some inf =>
    match inf.zero with
    | some (.agg cs) => some (cs.toList.map ofC)
    | _ => none
  | none => none
def effAssert (P : Program) (x : PV) (asserted : TypeId) (ok : Bool) : Option PV :=
  match P.underlying asserted with
  | some d =>
    match ifaceD d, x with
    | false, .s (.ifc t l) =>
      match decide (t = asserted), ok with
      | true, true => some (.tu [.ag (l.map IC.sc), .s (.b true)])
      | true, false => some (.ag (l.map IC.sc))
      | false, true =>
        match zeroAg P asserted with
        | some z => some (.tu [.ag z, .s (.b false)])
        | none => none
      | false, false => none
    | _, _ => none
  | none => none
def methOf (P : Program) (t : TypeId) (name : String) : Option FuncId :=
  match P.info? t, P.underlying t with
  | some inf, some (.struct _) =>
    match inf.methods.find? (·.name == name) with
    | some m =>
      match m.path.toList, m.func with
      | [], some (f, false) => some f
      | _, _ => none
    | none => none
  | _, _ => none
def zeroOf (P : Program) (ty : TypeId) : Option (List SC) :=
  match P.info? ty with
  | some inf =>
    match inf.zero with
    | some (.agg cs) => some (cs.toList.map ofC)
    | some (.int k n) => some [.i k n]
    | some (.bool x) => some [.b x]
    | some (.float k n) => some [.fl k n]
    | some (.slice none 0 0) => some [.sl .u64 []]
    | _ => none
  | none => none
def eff (P : Program) (G : World → Prop) (op : Op) (fr : Nat) (st : St) (an : List Ans) : Option (E × List Prop × List Ans) :=
  let pure (x : Option PV) : Option (E × List Prop × List Ans) :=
    match x with
    | some v => some (.v v, [], an)
    | none => none
  match op with
  | .move x | .assign x => some (.v (st.ev x), [], an)
  | .pick c a b => effPick (st.ev c) (st.ev a) (st.ev b) an
  | .alloc ty =>
    match zeroOf P ty with
    | some l => some (.nb fr ty l, [], an)
    | none => none
  | .box ty x =>
    match (st.ev x).cells.all SC.fit with
    | true => some (.nb fr ty (st.ev x).cells, [], an)
    | false => none
  | .build ty ps => pure (effBuild P ty (ps.toList.map fun p => (p.1, st.ev p.2)))
  | .buildSlice ty len ps => pure (effBuildSlice P ty len (ps.toList.map fun p => (p.1, st.ev p.2)))
  | .load ty a =>
    match effLoad P st ty (st.ev a) with
    | some e => some (e, [], an)
    | none => none
  | .store ty a x =>
    match effStore P st ty (st.ev a) (st.ev x) with
    | some e => some (e, [], an)
    | none => none
  | .nilCheck x => pure (effCheck (st.ev x))
  | .binOp op ty x y _ =>
    match effBin P op ty (st.ev x) (st.ev y) an with
    | some (v, ps, an') => some (.v v, ps, an')
    | none => none
  | .unOp op _ x => pure (effUn op (st.ev x))
  | .convert s d x => pure (effConv P s d (st.ev x))
  | .fieldAddr ty x f => pure (effFieldAddr P ty (st.ev x) f)
  | .field ty x f => pure (effField P ty (st.ev x) f)
  | .indexAddr ty x ix =>
    match effIndex P ty (st.ev x) (st.ev ix) with
    | some (v, ps) => some (.v v, ps, an)
    | none => none
  | .extract x i => pure (effExtract (st.ev x) i)
  | .call c =>
    match c.callee with
    | .builtin .len => pure (effLen P c.argTypes (c.args.toList.map st.ev))
    | .builtin .max =>
      match c.args.toList.map st.ev with
      | [.s (.i k a), .s (.i _ b)] => some (.v (.s (.i k (mx a b))), [], an)
      | _ => none
    | .builtin .min =>
      match c.args.toList.map st.ev with
      | [.s (.i k a), .s (.i _ b)] => some (.v (.s (.i k (mn a b))), [], an)
      | _ => none
    | .value (.func f) =>
      match an with
      | .r v :: an' =>
        match v.clo && (c.args.toList.map st.ev).all PV.clo with
        | true => some (.v v, [Con P G f (c.args.toList.map st.ev) (· = v)], an')
        | false => none
      | .x v :: an' =>
        match v.clo && (c.args.toList.map st.ev).all PV.clo with
        | true => some (.v v, [ExtC P f (c.args.toList.map st.ev) v], an')
        | false => none
      | _ => none
    | .invoke x name =>
      match st.evc x an with
      | (.s (.ifc t l), q, .r v :: an') =>
        match methOf P t name with
        | some f =>
          match v.clo && (c.args.toList.map st.ev).all PV.clo with
          | true => some (.v v, [q, Con P G f (.ag (l.map IC.sc) :: c.args.toList.map st.ev) (· = v)], an')
          | false => none
        | none => none
      | _ => none
    | _ => none
  | .makeInterface ty x => pure (effMakeI P ty (st.ev x))
  | .typeAssert x _ t ok =>
    match st.evc x an with
    | (y, q, an') =>
      match effAssert P y t ok with
      | some v => some (.v v, [q], an')
      | none => none
  | _ => none
def run1 (P : Program) (G : World → Prop) (ops : Array Oper) (o : Oper) (fr : Nat) (st : St) (an : List Ans) : Option (E × List Prop × List Ans) :=
  match o.guard with
  | none => eff P G o.op fr st an
  | some (j, want) =>
    match (ops[j]?).bind (·.dst) with
    | some d =>
      match st.gt d, an with
      | .s (.b t), .br c :: an' =>
        match c == want with
        | true =>
          match eff P G o.op fr st an' with
          | some (e, ps, an'') => some (e, (t = c) :: ps, an'')
          | none => none
        | false => some (.v (.s .un), [t = c], an')
      | .s .un, _ => some (.v (.s .un), [], an)
      | _, _ => none
    | none => none
def tmpsOf (l : List Operand) : List Nat := l.filterMap fun
  | .tmp t => some t
  | _ => none
def PV.blk : PV → List Nat
  | .s (.lo b _) => [b]
  | _ => []
def E.wb : E → List Nat
  | .v _ => []
  | .nb b _ _ => [b]
  | .sto b _ _ => [b]
def opBlk (st : St) : Op → List Nat
  | .load _ a | .store _ a _ => (st.ev a).blk
  | _ => []
def opNew (fr : Nat) : Op → List Nat
  | .alloc _ | .box _ _ => [fr]
  | _ => []
structure En where
  d : Option Nat
  e : E
  rt : List Nat
  rb : List Nat
def En.wt (x : En) : List Nat := x.d.toList
def En.wb (x : En) : List Nat := x.e.wb
def enOf (ops : Array Oper) (o : Oper) (fr : Nat) (st : St) (e : E) : En :=
  { d := o.dst, e := e,
    rt := tmpsOf o.op.operands.toList ++ (match o.guard with
      | some (j, _) => ((ops[j]?).bind (·.dst)).toList
      | none => []),
    rb := opBlk st o.op ++ opNew fr o.op }
def runOps (P : Program) (G : World → Prop) (ops : Array Oper) : List Oper → St → List Ans → Option (List En × St × List Prop × List Ans)
  | [], st, an => some ([], st, [], an)
  | o :: os, st, an =>
    match run1 P G ops o st.m.length st an with
    | some (e, ps, an') =>
      match runOps P G ops os (app o.dst e st) an' with
      | some (ens, st', ps', an'') => some (enOf ops o st.m.length st e :: ens, st', ps ++ ps', an'')
      | none => none
    | none => none
def maskOf (acc : List Nat) (o : Oper) : Nat := o.after.toList.foldl (fun s e => if Region.binds .any e = true then s ||| 2 ^ e.on ||| acc.getD e.on 0 else s) 0
def masksGo : List Nat → List Oper → List Nat
  | acc, [] => acc
  | acc, o :: os => masksGo (acc ++ [maskOf acc o]) os
def masks (os : List Oper) : List Nat := masksGo [] os
def disj (a b : List Nat) : Bool := a.all fun x => !b.contains x
def indep (a b : En) : Bool :=
  disj a.wt b.wt && disj a.wt b.rt && disj a.rt b.wt && disj a.wb b.wb && disj a.wb b.rb && disj a.rb b.wb
def okPairs (ms : List Nat) (ens : List En) : Bool :=
  (List.range ens.length).all fun i => (List.range i).all fun j =>
    (ms.getD i 0).testBit j ||
    match ens[j]?, ens[i]? with
    | some a, some b => indep a b
    | _, _ => true
def okEdges (os : List Oper) : Bool := (List.range os.length).all fun i =>
  match os[i]? with
  | some o => o.after.all fun e => !Region.binds .any e || Nat.blt e.on i
  | none => true
def okDraw (ops : Array Oper) (ens : List En) : Bool := okEdges ops.toList && okPairs (masks ops.toList) ens
def conj (ps : List Prop) (q : Prop) : Prop := ps.foldr And q
def posOf (x : Nat) : List Nat → Nat → Option Nat
  | [], _ => none
  | y :: l, i => bif Nat.beq y x then some i else posOf x l (i + 1)
def SC.ren (bs : List Nat) : SC → SC
  | .lo x o =>
    match posOf x bs 0 with
    | some j => .lo j o
    | none => .top
  | c => c
def P1.ren (bs : List Nat) : P1 → P1
  | .s c => .s (c.ren bs)
  | .ag l => .ag (l.map (SC.ren bs))
def PV.ren (bs : List Nat) : PV → PV
  | .s c => .s (c.ren bs)
  | .ag l => .ag (l.map (SC.ren bs))
  | .tu l => .tu (l.map (P1.ren bs))
def keepT (ks bs : List Nat) : List PV → Nat → List PV
  | [], _ => []
  | v :: l, i => (bif ks.contains i then v.ren bs else .s .top) :: keepT ks bs l (i + 1)
def forgetC (fs : List (Nat × Nat)) (j : Nat) : Nat → List SC → List SC
  | _, [] => []
  | i, c :: l => (bif fs.any (fun p => Nat.beq p.1 j && Nat.beq p.2 i) then .top else c) :: forgetC fs j (i + 1) l
def cutM (st : St) (bs : List Nat) (fs : List (Nat × Nat)) : List Nat → Nat → List (Option (TypeId × List SC))
  | [], _ => []
  | x :: l, j => ((st.gm x).map fun y => (y.1, forgetC fs j 0 (y.2.map (SC.ren bs)))) :: cutM st bs fs l (j + 1)
def St.cut (st : St) (ks bs : List Nat) (fs : List (Nat × Nat)) : St :=
  { t := keepT ks bs st.t 0, m := cutM st bs fs bs 0 }
def resOf (P : Program) (st : St) : ResultVar → Option PV
  | .tmp t => some (st.gt t)
  | .cell a ty =>
    match effLoad P st ty (st.gt a) with
    | some (.v v) => some v
    | _ => none
def resAll (P : Program) (st : St) : List ResultVar → Option (List PV)
  | [] => some []
  | x :: l =>
    match resOf P st x, resAll P st l with
    | some v, some vs => some (v :: vs)
    | _, _ => none
def resV (P : Program) (st : St) (l : List ResultVar) : Option PV :=
  match resAll P st l with
  | some [v] => some v
  | some vs => some (.tu (vs.map PV.one))
  | none => none
def nodupB : List Nat → Bool
  | [] => true
  | x :: l => !l.contains x && nodupB l
def fb (f : FuncId) : Frame := { (default : Frame) with fn := f, kind := .normal }
structure Rp (W : World) (S : Nat → Prop) (r : Nat → Option Nat) (st : St) (a : Act) (w : World) : Prop where
  defers : a.defers = []
  below : Below W.heap.size W w
  inj : ∀ i j b, r i = some b → r j = some b → i = j
  dom : ∀ i b, r i = some b → W.heap.size ≤ b ∧ ∃ (ty : TypeId) (l : List SC) (vs : List Value), st.gm i = some (ty, l) ∧ w.heap[b]? = some (.cells vs.toArray ty (0, 0)) ∧ All2 (RepC w (Sr S r) r) l vs
  mem : ∀ i x, st.gm i = some x → ∃ b, r i = some b
  size : a.tmps.size = st.t.length
  tmp : ∀ i, RepV w (Sr S r) r (st.gt i) (a.tmps.getD i undef)
def Fin (P : Program) (G : World → Prop) (f : FuncId) (todo : List Item) (st : St) (R : PV → Prop) : Prop :=
  ∀ (W : World) (S : Nat → Prop) (r : Nat → Option Nat) (a : Act) (w : World), G W → (∀ b, S b → b < W.heap.size) → Rp W S r st a w → ∀ cs : List Frame,
    ∃ v w' fr x, Steps P (lone ((fb f).at a todo) cs w) (lone fr cs w') ∧ fr.fn = f ∧ fr.leaving P w' (.returned v) ∧ R x ∧ RepV w' S none' x v ∧ Below W.heap.size W w'
def place : List Item → Option (List Item)
  | .code (.region i ops d) :: k => some (.code (.region i ops d) :: k)
  | .code (.cond c x y) :: k => some (.code (.cond c x y) :: k)
  | .code (.loop c) :: k | .inLoop c :: k => some (.code c :: .inLoop c :: k)
  | _ => none
def cutAt (todo : List Item) (an : List Ans) : Option (List Item × List Nat × List Nat × List (Nat × Nat)) :=
  match an with
  | .cut 0 ks bs fs :: _ =>
    match place todo with
    | some t => some (t, ks, bs, fs)
    | none => none
  | _ => none
def less (todo : List Item) (an : List Ans) : List Ans :=
  match an with
  | .cut (n + 1) ks bs fs :: r =>
    match place todo with
    | some _ => .cut n ks bs fs :: r
    | none => an
  | _ => an
def go (P : Program) (G : World → Prop) (f : FuncId) (res : List ResultVar) (R : PV → Prop) : Nat → List Item → St → List Ans → Prop
  | 0, _, _, _ => False
  | n + 1, todo, st, an0 =>
    match cutAt todo an0 with
    | some (t, ks, bs, fs) =>
      match nodupB bs with
      | true => Fin P G f t (st.cut ks bs fs) R
      | false => False
    | none =>
      let an := less todo an0
      let ret : Prop :=
        match resV P st res with
        | some v =>
          match v.clo with
          | true => R v
          | false => False
        | none => False
      match todo with
      | [] => ret
      | .code .ret :: _ => ret
      | .code .skip :: k | .code (.label _) :: k | .inBlock _ :: k => go P G f res R n k st an
      | .code (.seq a b) :: k => go P G f res R n (.code a :: .code b :: k) st an
      | .code (.cond c x y) :: k =>
        match st.ev c, an with
        | .s (.b t), .br b :: an' => (t = b) ∧ go P G f res R n (.code (bif b then x else y) :: k) st an'
        | _, _ => False
      | .code (.block id c) :: k => go P G f res R n (.code c :: .inBlock id :: k) st an
      | .code (.loop c) :: k | .inLoop c :: k => go P G f res R n (.code c :: .inLoop c :: k) st an
      | .code (.exit id) :: k =>
        match exitTo id k with
        | some k' => go P G f res R n k' st an
        | none => False
      | .code (.region _ ops draw) :: k =>
        match runOps P G ops ops.toList st an with
        | some (ens, st', ps, an') =>
          match !draw || okDraw ops ens with
          | true => conj ps (go P G f res R n k st' an')
          | false => False
        | none => False
      | _ => False
def bodyOf (fn : Func) : Code :=
  match fn.body with
  | some c => c
  | none => .skip
def st0 (args : List PV) (n : Nat) : St := { t := args ++ List.replicate (n - args.length) (.s .un), m := [] }
def goF (P : Program) (G : World → Prop) (f : FuncId) (fn : Func) (R : PV → Prop) (n : Nat) (args : List PV) (an : List Ans) : Prop :=
  go P G f fn.results.toList R n [.code (bodyOf fn)] (st0 args fn.ntmps) an
end Go.Proofs.YtelfmddcjlocpaaGreatDoor.Px
