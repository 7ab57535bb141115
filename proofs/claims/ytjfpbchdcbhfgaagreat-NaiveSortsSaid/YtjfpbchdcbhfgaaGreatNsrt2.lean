/- Part 2 of the proof: BDef. -/
import Derived.Test.YtjfpbchdcbhfgaaGreatNsrt1
namespace Go.Proofs.YtjfpbchdcbhfgaaGreat.B
open Go
structure Uni where
 Ty : Type
 deq : DecidableEq Ty
 Den : Ty→Type
 dflt : (τ:Ty)→Den τ
 sz : Ty→Nat
inductive V (U:Uni) : Type
 | s (x:Value)
 | dat (τ:U.Ty) (xs:List (U.Den τ))
inductive D0 (U:Uni) : Type
 | v (x:V U)
 | agg (xs:List (V U))
def FV (U:Uni) : Type:=List (D0 U)→Option (List Prop×List (D0 U))
inductive C (U:Uni) : Type
 | s (x:Value)
 | sl (τ:U.Ty) (xs:List (U.Den τ)) (full:Bool)
 | ob (k v:Nat)
 | bx (k off:Nat)
 | el (τ:U.Ty) (xs:List (U.Den τ)) (i off:Nat)
 | em (k v i off:Nat)
 | fv (φ:FV U)
 | fc (f:Nat) (caps:List Nat)
 | top
inductive A (U:Uni) : Type
 | c (x:C U)
 | agg (cs:List (C U))
 | top
inductive AV (U:Uni) : Type
 | one (a:A U)
 | tup (al:List (A U))
 | undef
structure Enc (U:Uni) where
 enc : (τ:U.Ty)→U.Den τ→List (V U)
 dec : (τ:U.Ty)→List (V U)→Option (U.Den τ)
 len : ∀ τ x,(enc τ x).length=U.sz τ
 back : ∀ τ cs x,dec τ cs=some x→enc τ x=cs
inductive DC (U:Uni) : Type
 | v (x:V U)
 | fn (φ:FV U)
inductive D (U:Uni) : Type
 | d (x:D0 U)
 | fn (φ:FV U)
 | box (cs:List (DC U))
structure Ob (U:Uni) where
 ver : Nat
 τ : U.Ty
 xs : List (U.Den τ)
 fr : Option Nat
 live : Bool
variable {U:Uni}
def oneC : Value→Bool
 | .agg _=>false
 | .tuple _=>false
 | .int k n=>decide (k.min≤n∧n≤k.max)
 | .string b=>decide (b.size≤maxLen)
 | _=>true
def C.ofV : V U→C U
 | .s x=>.s x
 | .dat τ xs=>.sl τ xs false
def D0.toA : D0 U→A U
 | .v x=>.c (C.ofV x)
 | .agg xs=>.agg (xs.map C.ofV)
inductive TI (U:Uni) : Type
 | int (k:IntKind)
 | bool
 | str
 | sl (e:TypeId) (τ:U.Ty) (bytes:Nat)
 | st (fs:List (Nat×Nat×Bool)) (n:Nat)
 | ar (len esz:Nat) (eagg:Bool)
 | one
 | fn
 | oth
def TI.shape : TI U→Option (Bool×Nat)
 | .st _ n=>some (true,n)
 | .ar len esz _=>some (true,len*esz)
 | .oth=>none
 | _=>some (false,1)
structure S (U:Uni) where
 tm : List (AV U)
 bx : List (Option (Bool×List (C U)))
 ob : List (Option (Ob U))
 base : Nat
def FnC (U:Uni) : Type:=List (D U)→Option (List Prop×List (A U)×List (Ob U))
def FnG (U:Uni) : Type:=List (A U)→List (Bool×List (C U))→List (Ob U)→Option (List Prop×List (A U)×List (Bool×List (C U))×List (Ob U))
inductive EK
 | int (k:IntKind)
 | str
 | bool
def FnU (U:Uni) : Type:=(τ:U.Ty)→List (U.Den τ)→List (D U)→Option (List Prop×List (U.Den τ))
structure Mc (U:Uni) where
 E : Enc U
 tab : List (TypeId×TI U)
 zeros : List (TypeId×List (C U))
 fns : FuncId→Option (FnC U)
 fvs : FuncId→Option (FV U)
 clo : FuncId→Option (List (List (DC U))→Option (FV U))
 gns : FuncId→Option (List Bool×FnG U)
 eqs : List (TypeId×List EK)
 ups : FuncId→Option (FnU U)
def look {α:Type} (t:Nat) : List (Nat×α)→Option α
 | []=>none
 | (k,x)::r=>match Nat.beq k t with | true=>some x | false=>look t r
def Mc.ti (M:Mc U) (t:TypeId) : TI U:=match look t M.tab with | some x=>x | none=>.oth
def Mc.zero (M:Mc U) (t:TypeId) : Option (List (C U)):=look t M.zeros
def sets {α:Type} : List α→List (Nat×α)→List α
 | l,[]=>l
 | l,(k,x)::r=>sets (l.set k x) r
def evC : Value→Option (AV U)
 | .int k n=>match oneC (.int k n) with | true=>some (.one (.c (.s (.int k n)))) | false=>none
 | .bool b=>some (.one (.c (.s (.bool b))))
 | .string b=>match oneC (.string b) with | true=>some (.one (.c (.s (.string b)))) | false=>none
 | .nilFunc=>some (.one (.c (.s .nilFunc)))
 | _=>none
def S.ev (s:S U) (M:Mc U) : Operand→Option (AV U)
 | .tmp t=>s.tm[t]?
 | .const c=>evC c
 | .func f=>match M.fvs f with
  | some φ=>some (.one (.c (.fv φ)))
  | none=>some (.one (.c (.fc f [])))
 | .global _=>none
def zw8 : Operand→Bool
 | .const (.slice none 0 0)=>true
 | _=>false
def S.evT (M:Mc U) (s:S U) (t:TypeId) (x:Operand) : Option (AV U) :=
 match zw8 x with
 | true=>match M.ti t with
  | .sl _ τ _=>some (.one (.c (.sl τ [] true)))
  | _=>none
 | false=>s.ev M x
def AV.cells : AV U→Option (List (C U))
 | .one (.c x)=>some [x]
 | .one (.agg cs)=>some cs
 | _=>none
def mkAV (agg:Bool) (cs:List (C U)) : Option (AV U) :=
 match agg,cs with
 | true,cs=>some (.one (.agg cs))
 | false,[x]=>some (.one (.c x))
 | _,_=>none
def S.key (s:S U) (d:Nat) : Nat:=s.base+d
def S.okey (s:S U) (d:Nat) : Nat:=4*(s.base+d)
def S.obAt (s:S U) (k v:Nat) : Option (Ob U) :=
 match s.ob[k]? with
 | some (some o)=>match Nat.beq o.ver v with | true=>some o | false=>none
 | _=>none
def S.nver (s:S U) (q:Nat) : Option Nat :=
 match s.ob[q]? with
 | some (some o)=>some (o.ver+1)
 | some none=>some 0
 | none=>none
def S.lst (s:S U) : C U→Option ((τ:U.Ty)×List (U.Den τ))
 | .sl τ xs _=>some ⟨τ,xs⟩
 | .ob k v=>match s.obAt k v with | some o=>some ⟨o.τ,o.xs⟩ | none=>none
 | _=>none
def S.toV (s:S U) : C U→Option (V U)
 | .s x=>some (.s x)
 | .sl τ xs _=>some (.dat τ xs)
 | .ob k v=>match s.obAt k v with | some o=>some (.dat o.τ o.xs) | none=>none
 | _=>none
def S.toVs (s:S U) : List (C U)→Option (List (V U))
 | []=>some []
 | c::cs=>match s.toV c,s.toVs cs with
  | some v,some vs=>some (v::vs)
  | _,_=>none
def C.obs : C U→List Nat
 | .ob k _=>[k]
 | .em k _ _ _=>[k]
 | _=>[]
def Cs.obs : List (C U)→List Nat
 | []=>[]
 | c::cs=>c.obs++Cs.obs cs
def A.obs : A U→List Nat
 | .c x=>x.obs
 | .agg cs=>Cs.obs cs
 | .top=>[]
def As.obs : List (A U)→List Nat
 | []=>[]
 | a::l=>a.obs++As.obs l
def AV.obs : AV U→List Nat
 | .one a=>a.obs
 | .tup al=>As.obs al
 | .undef=>[]
def S.frz (s:S U) : List Nat→List (Nat×Option (Ob U))
 | []=>[]
 | k::ks=>match s.ob[k]? with
  | some (some o)=>(k,some { o with fr:=none })::s.frz ks
  | _=>s.frz ks
def S.toD (s:S U) : A U→Option (D U)
 | .c (.fv φ)=>some (.fn φ)
 | .c x=>match s.toV x with | some d=>some (.d (.v d)) | none=>none
 | .agg cs=>match s.toVs cs with | some ds=>some (.d (.agg ds)) | none=>none
 | _=>none
def S.toDs (s:S U) : List (A U)→Option (List (D U))
 | []=>some []
 | x::r=>match s.toD x,s.toDs r with
  | some d,some ds=>some (d::ds)
  | _,_=>none
def S.toD0 (s:S U) : A U→Option (D0 U)
 | .c x=>match s.toV x with | some d=>some (.v d) | none=>none
 | .agg cs=>match s.toVs cs with | some ds=>some (.agg ds) | none=>none
 | _=>none
def S.toD0s (s:S U) : List (A U)→Option (List (D0 U))
 | []=>some []
 | x::r=>match s.toD0 x,s.toD0s r with
  | some d,some ds=>some (d::ds)
  | _,_=>none
def S.toDC (s:S U) : C U→Option (DC U)
 | .fv φ=>some (.fn φ)
 | x=>match s.toV x with | some d=>some (.v d) | none=>none
def S.toDCs (s:S U) : List (C U)→Option (List (DC U))
 | []=>some []
 | x::r=>match s.toDC x,s.toDCs r with
  | some d,some ds=>some (d::ds)
  | _,_=>none
structure Res (U:Uni) where
 ob : List Prop
 v : AV U
 bw : List (Nat×Option (Bool×List (C U)))
 ow : List (Nat×Option (Ob U))
def ok (v:AV U) : Option (Res U):=some ⟨[],v,[],[]⟩
def okR (v:Option (AV U)) : Option (Res U):=match v with | some v=>ok v | none=>none
def sbin (op:BinOp) (x y:Value) : Option (List Prop×Value) :=
 match x,y with
 | .int k a,.int k' b =>
  match op with
  | .shl=>some ([¬ b<0],.int k (k.wrap (a*2 ^ (min b.toNat k.bits))))
  | .shr=>some ([¬ b<0],.int k (a.fdiv (2 ^ (min b.toNat k.bits))))
  | op =>
   if k=k' then
    match op with
    | .add=>some ([],.int k (k.wrap (a+b)))
    | .sub=>some ([],.int k (k.wrap (a - b)))
    | .mul=>some ([],.int k (k.wrap (a*b)))
    | .quo=>some ([¬ b=0],.int k (k.wrap (a.tdiv b)))
    | .rem=>some ([¬ b=0],.int k (a.tmod b))
    | .eql=>some ([],.bool (a == b))
    | .neq=>some ([],.bool (a != b))
    | .lss=>some ([],.bool (decide (a<b)))
    | .leq=>some ([],.bool (decide (a≤b)))
    | .gtr=>some ([],.bool (decide (a > b)))
    | .geq=>some ([],.bool (decide (a≥b)))
    | .and=>some ([],.int k (k.wrap (BitVec.ofInt k.bits a &&& BitVec.ofInt k.bits b).toNat))
    | .or=>some ([],.int k (k.wrap (BitVec.ofInt k.bits a ||| BitVec.ofInt k.bits b).toNat))
    | .andNot=>some ([],.int k (k.wrap (BitVec.ofInt k.bits a &&& ~~~BitVec.ofInt k.bits b).toNat))
    | .xor=>some ([],.int k (k.wrap (BitVec.ofInt k.bits a ^^^ BitVec.ofInt k.bits b).toNat))
    | _=>none
   else none
 | .string a,.string b =>
  match op with
  | .add=>some ([a.size+b.size≤9223372036854775807],.string (a++b))
  | .eql=>some ([],.bool (a.toList == b.toList))
  | .neq=>some ([],.bool (!(a.toList == b.toList)))
  | .lss=>some ([],.bool (Op.bytesLess a.toList b.toList))
  | .leq=>some ([],.bool (Op.bytesLess a.toList b.toList || a.toList == b.toList))
  | .gtr=>some ([],.bool (!(Op.bytesLess a.toList b.toList || a.toList == b.toList)))
  | .geq=>some ([],.bool (!Op.bytesLess a.toList b.toList))
  | _=>none
 | _,_=>none
def andB (es:List EK) (b r:Bool) : Bool:=match es with | []=>b | _=>b && r
def z3p : List EK→List (C U)→List (C U)→Option Bool
 | [],[],[]=>some true
 | .int k::es,.s (.int k1 a)::xs,.s (.int k2 b)::ys=>match decEq k1 k,decEq k2 k,z3p es xs ys with
  | .isTrue _,.isTrue _,some r=>some (andB es (a == b) r)
  | _,_,_=>none
 | .str::es,.s (.string a)::xs,.s (.string b)::ys=>match z3p es xs ys with
  | some r=>some (andB es (a.toList == b.toList) r)
  | none=>none
 | .bool::es,.s (.bool a)::xs,.s (.bool b)::ys=>match z3p es xs ys with
  | some r=>some (andB es (a == b) r)
  | none=>none
 | _,_,_=>none
def z22n (M:Mc U) (op:BinOp) (t:TypeId) (cs ds:List (C U)) : Option (Res U) :=
 match look t M.eqs with
 | some es=>match z3p es cs ds,op with
  | some r,.eql=>ok (.one (.c (.s (.bool r))))
  | some r,.neq=>ok (.one (.c (.s (.bool (!r)))))
  | _,_=>none
 | none=>none
def S.at (M:Mc U) (s:S U) (a:C U) (n:Nat) : Option (List (C U)) :=
 match a with
 | .bx k off=>match s.bx[k]? with
  | some (some (_,cells))=>if off+n≤cells.length then some ((cells.drop off).take n) else none
  | _=>none
 | .el τ xs i off=>if off+n≤U.sz τ then some ((((M.E.enc τ (xs.getD i (U.dflt τ))).drop off).take n).map C.ofV) else none
 | .em k v i off=>match s.obAt k v with
  | some o=>if off+n≤U.sz o.τ then some ((((M.E.enc o.τ (o.xs.getD i (U.dflt o.τ))).drop off).take n).map C.ofV) else none
  | none=>none
 | _=>none
def S.move (s:S U) (d:Nat) : C U→Option (C U)
 | .bx k off=>some (.bx k (off+d))
 | .el τ xs i off=>some (.el τ xs i (off+d))
 | .em k v i off=>match s.obAt k v with | some _=>some (.em k v i (off+d)) | none=>none
 | _=>none
def zdh {α:Type} (place:Nat→Option (Nat×Nat)) (cells:List α) : List (Nat×List α)→Option (List α)
 | []=>some cells
 | (i,cs)::rest=>match place i with
  | none=>none
  | some (off,size)=>if cs.length=size∧off+size≤cells.length then zdh place (cells.take off++cs++cells.drop (off+size)) rest else none
def zlj (M:Mc U) (s:S U) : List (Nat×Operand)→Option (List (Nat×List (C U)))
 | []=>some []
 | (i,x)::r=>match (s.ev M x).bind AV.cells,zlj M s r with
  | some cs,some l=>some ((i,cs)::l)
  | _,_=>none
def zB : Value→C U→Bool
 | .int k n,.s (.int k' n')=>decide (k=k') && n == n' && oneC (.int k n)
 | .bool b,.s (.bool b')=>b == b'
 | .string b,.s (.string b')=>b.data == b'.data && oneC (.string b)
 | .nilIface,.s .nilIface=>true
 | .nilFunc,.s .nilFunc=>true
 | .slice none 0 0,.sl _ [] true=>true
 | _,_=>false
def zsB : List Value→List (C U)→Bool
 | [],[]=>true
 | v::vs,c::cs=>zB v c && zsB vs cs
 | _,_=>false
def z13y (M:Mc U) (s:S U) (e:TypeId) (x:Operand) : Option (List (C U)) :=
 match x with
 | .const (.agg arr)=>match M.zero e with
  | some z=>match zsB arr.toList z with | true=>some z | false=>none
  | none=>none
 | x=>(s.evT M e x).bind AV.cells
def partsK (M:Mc U) (s:S U) (e:TypeId) : List (Nat×Operand)→Option (List (Nat×List (C U)))
 | []=>some []
 | (i,x)::r=>match z13y M s e x,partsK M s e r with
  | some cs,some l=>some ((i,cs)::l)
  | _,_=>none
def zhg (M:Mc U) (s:S U) (τ:U.Ty) : List (List (C U))→Option (List (U.Den τ))
 | []=>some []
 | r::rs=>match (s.toVs r).bind (M.E.dec τ),zhg M s τ rs with
  | some x,some xs=>some (x::xs)
  | _,_=>none
def zlk {α:Type} (n:Nat) : Nat→List α→List (List α)
 | 0,_=>[]
 | len+1,cs=>cs.take n::zlk n len (cs.drop n)
def zw : Nat:=35184372088832
def z1fq {τ τ':U.Ty} (h:τ'=τ) (xs:List (U.Den τ')) : List (U.Den τ):=h ▸ xs
def z4l (M:Mc U) (s:S U) : List Operand→List TypeId→Option (List (A U))
 | [],_=>some []
 | x::xs,ts=>match s.evT M (ts.headD 0) x,z4l M s xs ts.tail with
  | some (.one a),some al=>some (a::al)
  | _,_=>none
def zgc : List (A U)→AV U
 | [a]=>.one a
 | al=>.tup al
def zdt : List (A U)→Option (List Int)
 | []=>some []
 | .c (.s (.int .i64 n))::r=>(zdt r).map (n::·)
 | _=>none
def Ob.spent (o:Ob U) : Ob U :=
 match o.fr with
 | none=>{ o with live:=false }
 | some _=>⟨o.ver+1,o.τ,[],none,false⟩
def Ob.frozen (o:Ob U) : Nat:=match o.fr with | none=>o.xs.length | some j=>j
def zll (s:S U) (M:Mc U) (d:Nat) (tx:TypeId) (x y:AV U) : Option (Res U) :=
 match y with
 | .one (.c cy)=>match M.ti tx,s.lst cy,s.nver (s.okey d) with
  | .sl _ τ₀ bytes,some ⟨τ',ys⟩,some ver =>
   match x with
   | .one (.c (.sl τ xs true))=>match U.deq τ' τ,U.deq τ₀ τ with
    | .isTrue h,.isTrue _=>some ⟨[(xs.length+ys.length)*bytes≤zw],.one (.c (.ob (s.okey d) ver)),[],[(s.okey d,some ⟨ver,τ,xs++z1fq h ys,some xs.length,true⟩)]⟩
    | _,_=>none
   | .one (.c (.ob k v))=>match s.obAt k v with
    | some o=>match o.live with
     | true=>match U.deq τ' o.τ,U.deq τ₀ o.τ with
      | .isTrue h,.isTrue _=>some ⟨[(o.xs.length+ys.length)*bytes≤zw],.one (.c (.ob (s.okey d) ver)),[],[(k,some o.spent),(s.okey d,some ⟨ver,o.τ,o.xs++z1fq h ys,some o.frozen,true⟩)]⟩
      | _,_=>none
     | false=>none
    | none=>none
   | _=>none
  | _,_,_=>none
 | _=>none
def z4m (s:S U) (M:Mc U) (o:Oper) (b:Builtin) (c:Call) : Option (Res U) :=
 match b with
 | .len=>match c.args.toList,c.argTypes.toList with
  | [x],[t]=>match s.ev M x,M.ti t with
   | some (.one (.c (.s (.string b)))),.str=>ok (.one (.c (.s (.int .i64 (b.size:Nat)))))
   | some (.one (.c cx)),.sl _ _ _=>match s.lst cx with
    | some ⟨_,xs⟩=>ok (.one (.c (.s (.int .i64 (xs.length:Nat)))))
    | none=>none
   | _,_=>none
  | _,_=>none
 | .append=>match c.args.toList,c.argTypes.toList,o.dst with
  | [x,y],[tx,ty],some d=>match s.evT M tx x,s.evT M ty y,M.ti ty with
   | some vx,some vy,.sl _ _ _=>zll s M d tx vx vy
   | _,_,_=>none
  | _,_,_=>none
 | .min=>match (z4l M s c.args.toList c.argTypes.toList).bind zdt with
  | some (n::r)=>ok (.one (.c (.s (.int .i64 (r.foldl (fun a b=>if b<a then b else a) n)))))
  | _=>none
 | .max=>match (z4l M s c.args.toList c.argTypes.toList).bind zdt with
  | some (n::r)=>ok (.one (.c (.s (.int .i64 (r.foldl (fun a b=>if a<b then b else a) n)))))
  | _=>none
 | _=>none
def C.ret (q:Nat) (vers:List Nat) : C U→Option (C U)
 | .s x=>some (.s x)
 | .sl τ xs f=>some (.sl τ xs f)
 | .ob j 0=>match vers[j]? with | some v=>some (.ob (q+j) v) | none=>none
 | .fv φ=>some (.fv φ)
 | _=>none
def Cs.ret (q:Nat) (vers:List Nat) : List (C U)→Option (List (C U))
 | []=>some []
 | c::cs=>match c.ret q vers,Cs.ret q vers cs with
  | some x,some xs=>some (x::xs)
  | _,_=>none
def A.ret (q:Nat) (vers:List Nat) : A U→Option (A U)
 | .c x=>match x.ret q vers with | some y=>some (.c y) | none=>none
 | .agg cs=>match Cs.ret q vers cs with | some ys=>some (.agg ys) | none=>none
 | .top=>none
def As.ret (q:Nat) (vers:List Nat) : List (A U)→Option (List (A U))
 | []=>some []
 | a::l=>match a.ret q vers,As.ret q vers l with
  | some x,some xs=>some (x::xs)
  | _,_=>none
def C.scal : C U→Bool
 | .s _=>true
 | _=>false
def A.scal : A U→Bool
 | .c x=>x.scal
 | .agg cs=>cs.all C.scal
 | .top=>false
def S.vers (s:S U) (q:Nat) : List (Ob U)→Option (List Nat)
 | []=>some []
 | _::r=>match s.nver q,s.vers (q+1) r with
  | some v,some vs=>some (v::vs)
  | _,_=>none
def z5n (q:Nat) : List (Ob U)→List Nat→List (Nat×Option (Ob U))
 | o::r,v::vs=>(q,some { o with ver:=v })::z5n (q+1) r vs
 | _,_=>[]
def z1fr (M:Mc U) (s:S U) (d:Nat) (F:FnC U) (al:List (A U)) : Option (Res U) :=
 match s.toDs al with
 | some ds=>match F ds with
  | some (ob,rs,os)=>if os.length≤4 then match s.vers (s.okey d) os with
   | some vers=>match As.ret (s.okey d) vers rs with
    | some rs'=>match rs.all A.scal,os with
     | true,[]=>some ⟨ob,zgc rs',[],[]⟩
     | _,os=>some ⟨ob,zgc rs',[],s.frz (As.obs al)++z5n (s.okey d) os vers⟩
    | none=>none
   | none=>none else none
  | none=>none
 | none=>none
def D0.scal : D0 U→Bool
 | .v (.s _)=>true
 | .agg xs=>xs.all fun | .s _=>true | .dat _ _=>false
 | _=>false
def z1us (s:S U) (φ:FV U) (al:List (A U)) : Option (Res U) :=
 match s.toD0s al with
 | some ds=>match φ ds with
  | some (ob,rs)=>some ⟨ob,zgc (rs.map D0.toA),[],match rs.all D0.scal with | true=>[] | false=>s.frz (As.obs al)⟩
  | none=>none
 | none=>none
def z7h : List Nat→List Nat→Bool
 | [],_=>false
 | x::l,r=>r.any (Nat.beq x) || z7h l r
def z4a : List Nat→Bool
 | []=>true
 | x::l=>!l.any (Nat.beq x) && z4a l
def idx (k:Nat) : List Nat→Nat→Option Nat
 | [],_=>none
 | x::r,j=>match Nat.beq x k with | true=>some j | false=>idx k r (j+1)
def C.pass (s:S U) (ks oks:List Nat) : C U→C U
 | .s x=>.s x
 | .sl τ xs f=>.sl τ xs f
 | .ob k v=>match s.obAt k v,idx k oks 0 with | some _,some j=>.ob j 0 | _,_=>.top
 | .em k v i off=>match s.obAt k v,idx k oks 0 with | some _,some j=>.em j 0 i off | _,_=>.top
 | .bx k off=>match idx k ks 0 with | some i=>.bx i off | none=>.top
 | .el τ xs i off=>.el τ xs i off
 | .fv φ=>.fv φ
 | .fc _ _=>.top
 | .top=>.top
def idxs (ks:List Nat) : List Nat→Option (List Nat)
 | []=>some []
 | k::r=>match idx k ks 0,idxs ks r with
  | some i,some l=>some (i::l)
  | _,_=>none
def argG (s:S U) (ks oks:List Nat) (m:Bool) : A U→Option (A U)
 | .agg cs=>match s.toVs cs with | some ds=>some (.agg (ds.map C.ofV)) | none=>none
 | .c x=>match m,x with
  | _,.bx k off=>match idx k ks 0 with | some i=>some (.c (.bx i off)) | none=>none
  | _,.fv φ=>some (.c (.fv φ))
  | _,.fc f caps=>match idxs ks caps with | some is=>some (.c (.fc f is)) | none=>none
  | true,x=>some (.c (x.pass s ks oks))
  | false,x=>match s.toV x with | some d=>some (.c (C.ofV d)) | none=>none
 | .top=>none
def zq5 (s:S U) (ks oks:List Nat) : List Bool→List (A U)→Option (List (A U))
 | _,[]=>some []
 | ms,a::l=>match argG s ks oks (ms.headD false) a,zq5 s ks oks ms.tail l with
  | some x,some xs=>some (x::xs)
  | _,_=>none
def As.bxs : List (A U)→List Nat
 | []=>[]
 | .c (.bx k _)::l=>k::As.bxs l
 | .c (.fc _ ks)::l=>ks++As.bxs l
 | _::l=>As.bxs l
def S.curs (s:S U) : List (C U)→List Nat
 | []=>[]
 | .ob k v::r=>(match s.obAt k v with | some _=>[k] | none=>[])++s.curs r
 | _::r=>s.curs r
def S.cursB (s:S U) : List (Bool×List (C U))→List Nat
 | []=>[]
 | b::r=>s.curs b.2++s.cursB r
def zw9 (s:S U) (own m:Bool) (a:A U) : List Nat :=
 match own,m,a with
 | true,true,.c x=>s.curs [x]
 | false,true,.agg cs=>Cs.obs cs
 | false,false,a=>a.obs
 | _,_,_=>[]
def z4n (s:S U) (own:Bool) : List Bool→List (A U)→List Nat
 | _,[]=>[]
 | ms,a::l=>zw9 s own (ms.headD false) a++z4n s own ms.tail l
def S.boxesAt (s:S U) : List Nat→Option (List (Bool×List (C U)))
 | []=>some []
 | k::ks=>match s.bx[k]?,s.boxesAt ks with
  | some (some b),some bs=>some (b::bs)
  | _,_=>none
def S.passed (s:S U) : List Nat→Option (List (Ob U))
 | []=>some []
 | k::ks=>match s.ob[k]?,s.passed ks with
  | some (some o),some os=>some ({ o with ver:=0 }::os)
  | _,_=>none
def S.spents (s:S U) : List Nat→List (Nat×Option (Ob U))
 | []=>[]
 | k::ks=>match s.ob[k]? with
  | some (some o)=>(k,some o.spent)::s.spents ks
  | _=>s.spents ks
def C.back (ks:List Nat) (q:Nat) (vers:List Nat) : C U→C U
 | .ob j 0=>match vers[j]? with | some v=>.ob (q+j) v | none=>.top
 | .ob _ _=>.top
 | .em _ _ _ _=>.top
 | .bx i off=>match ks[i]? with | some k=>.bx k off | none=>.top
 | .fc _ _=>.top
 | c=>c
def A.back (ks:List Nat) (q:Nat) (vers:List Nat) : A U→A U
 | .c x=>.c (x.back ks q vers)
 | .agg cs=>.agg (cs.map (C.back ks q vers))
 | .top=>.top
def zwa (ks:List Nat) (q:Nat) (vers:List Nat) : List Nat→List (Bool×List (C U))→List (Nat×Option (Bool×List (C U)))
 | k::r,b::bs=>(k,some (b.1,b.2.map (C.back ks q vers)))::zwa ks q vers r bs
 | _,_=>[]
def effG (s:S U) (d:Nat) (F:FnG U) (ms:List Bool) (al:List (A U)) : Option (Res U) :=
 match s.boxesAt (As.bxs al) with
 | some bs=>match z4a (As.bxs al) && z4a (z4n s true ms al++s.cursB bs) && !z7h (z4n s true ms al++s.cursB bs) (z4n s false ms al) with
  | true=>match s.passed (z4n s true ms al++s.cursB bs),zq5 s (As.bxs al) (z4n s true ms al++s.cursB bs) ms al with
   | some os,some al'=>match F al' (bs.map fun b=>(b.1,b.2.map (C.pass s (As.bxs al) (z4n s true ms al++s.cursB bs)))) os with
    | some (ob,rs,bs',os')=>if bs'.length=bs.length∧os'.length≤4 then match s.vers (s.okey d) os' with
     | some vers=>some ⟨ob,zgc (rs.map (A.back (As.bxs al) (s.okey d) vers)),zwa (As.bxs al) (s.okey d) vers (As.bxs al) bs',s.frz (z4n s false ms al)++s.spents (z4n s true ms al++s.cursB bs)++z5n (s.okey d) os' vers⟩
     | none=>none else none
    | none=>none
   | _,_=>none
  | false=>none
 | none=>none
def z13z (k:Nat) : List (C U)→Nat→List (Nat×Nat)
 | [],_=>[]
 | .sl _ [] true::r,i=>(k,i)::z13z k r (i+1)
 | _::r,i=>z13z k r (i+1)
def S.nils (s:S U) : List Nat→List (Nat×Nat)
 | []=>[]
 | k::ks=>(match s.bx[k]? with | some (some (_,cells))=>z13z k cells 0 | _=>[])++s.nils ks
def zwb (d:Nat) (F:FnG U) (ms:List Bool) (al:List (A U)) : List (Nat×Nat)→Nat→S U→Option (Res U)
 | [],_,s=>effG s d F ms al
 | (k,i)::r,j,s=>match s.bx[k]?,s.nver (s.okey d+j),Nat.blt j 4 with
  | some (some (fz,cells)),some ver,true=>match cells[i]? with
   | some (.sl τ [] true)=>match zwb d F ms al r (j+1) { s with bx:=s.bx.set k (some (fz,cells.set i (.ob (s.okey d+j) ver))),ob:=s.ob.set (s.okey d+j) (some ⟨ver,τ,[],some 0,true⟩) } with
    | some res=>some { res with bw:=(k,some (fz,cells.set i (.ob (s.okey d+j) ver)))::res.bw,ow:=(s.okey d+j,some ⟨ver,τ,[],some 0,true⟩)::res.ow }
    | none=>none
   | _=>none
  | _,_,_=>none
def zwc (s:S U) (d:Nat) (F:FnG U) (ms:List Bool) (al:List (A U)) : Option (Res U) :=
 match effG s d F ms al with
 | some r=>some r
 | none=>zwb d F ms al (s.nils (As.bxs al)) 0 s
def effU (s:S U) (F:FnU U) : List (A U)→Option (Res U)
 | .c (.ob k v)::al=>match s.obAt k v,s.toDs al with
  | some o,some ds=>match o.fr,(As.obs al).any (Nat.beq k) with
   | some 0,false=>match F o.τ o.xs ds with
    | some (ob,ys)=>some ⟨ob,.tup [],[],s.frz (As.obs al)++[(k,some { o with xs:=ys })]⟩
    | none=>none
   | _,_=>none
  | _,_=>none
 | _=>none
def zjo (M:Mc U) (s:S U) (o:Oper) (c:Call) : Option (Res U) :=
 match c.callee with
 | .builtin b=>z4m s M o b c
 | .value (.func f)=>match M.fns f,z4l M s c.args.toList c.argTypes.toList,o.dst with
  | some F,some al,some d=>z1fr M s d F al
  | none,some al,some d=>match M.gns f with
   | some (ms,F)=>zwc s d F ms al
   | none=>match M.ups f with
    | some F=>effU s F al
    | none=>none
  | none,some al,none=>match M.ups f with
   | some F=>effU s F al
   | none=>none
  | _,_,_=>none
 | .value (.tmp t)=>match s.tm[t]?,z4l M s c.args.toList c.argTypes.toList with
  | some (.one (.c (.fv φ))),some al=>z1us s φ al
  | some (.one (.c (.fc f ks))),some al=>match M.gns f,o.dst with
   | some (ms,F),some d=>zwc s d F ms (al++ks.map fun k=>.c (.bx k 0))
   | _,_=>none
  | _,_=>none
 | _=>none
def bnd : Option (AV U)→Option Int
 | some (.one (.c (.s (.int _ n))))=>some n
 | _=>none
def bndO (s:S U) (M:Mc U) : Option Operand→Option (Option Int)
 | none=>some none
 | some x=>match bnd (s.ev M x) with | some n=>some (some n) | none=>none
def zog (s:S U) (ti:TI U) (x:AV U) (lo hi mx:Option Int) : Option (Res U) :=
 match ti,x with
 | .sl _ τ₀ _,.one (.c cx)=>match s.lst cx with
  | some ⟨τ,xs⟩=>if U.sz τ₀=U.sz τ then
    let ow:=s.frz cx.obs
    let full:=match cx with | .sl _ _ f=>f | _=>false
    match lo,hi,mx with
    | none,none,none=>some ⟨[],.one (.c cx),[],[]⟩
    | some l,none,none=>some ⟨[0≤l∧l≤(xs.length:Int)],.one (.c (.sl τ (xs.drop l.toNat) full)),[],ow⟩
    | none,some h,none=>some ⟨[0≤h∧h≤(xs.length:Int)],.one (.c (.sl τ (xs.take h.toNat) false)),[],ow⟩
    | some l,some h,none=>some ⟨[0≤l∧l≤h∧h≤(xs.length:Int)],.one (.c (.sl τ ((xs.take h.toNat).drop l.toNat) false)),[],ow⟩
    | none,some h,some m=>some ⟨[0≤h∧h=m∧m≤(xs.length:Int)],.one (.c (.sl τ (xs.take h.toNat) true)),[],ow⟩
    | some l,some h,some m=>some ⟨[0≤l∧l≤h∧h=m∧m≤(xs.length:Int)],.one (.c (.sl τ ((xs.take h.toNat).drop l.toNat) true)),[],ow⟩
    | _,_,_=>none
   else none
  | none=>none
 | .str,.one (.c (.s (.string b))) =>
   match lo,hi,mx with
   | none,none,none=>ok (.one (.c (.s (.string b))))
   | some l,none,none=>some ⟨[0≤l∧l≤(b.size:Int)],.one (.c (.s (.string (b.extract l.toNat b.size)))),[],[]⟩
   | none,some h,none=>some ⟨[0≤h∧h≤(b.size:Int)],.one (.c (.s (.string (b.extract 0 h.toNat)))),[],[]⟩
   | some l,some h,none=>some ⟨[0≤l∧l≤h∧h≤(b.size:Int)],.one (.c (.s (.string (b.extract l.toNat h.toNat)))),[],[]⟩
   | _,_,_=>none
 | _,_=>none
def z8b (M:Mc U) (s:S U) (p:C U) (cs:List (C U)) : Option (Res U) :=
 match p with
 | .bx k off=>match s.bx[k]? with
  | some (some (false,cells))=>if off+cs.length≤cells.length then
    match z7h (Cs.obs cs) (Cs.obs (cells.take off++cells.drop (off+cs.length))) with
    | false=>some ⟨[],.undef,[(k,some (false,cells.take off++cs++cells.drop (off+cs.length)))],[]⟩
    | true=>match s.toVs cs with
     | some vs=>some ⟨[],.undef,[(k,some (false,cells.take off++vs.map C.ofV++cells.drop (off+cs.length)))],s.frz (Cs.obs cs)⟩
     | none=>none
   else none
  | _=>none
 | .em k v i off=>match s.obAt k v,s.toVs cs with
  | some o,some vs=>match o.fr with
   | some j=>if off+vs.length≤U.sz o.τ∧¬ k∈Cs.obs cs then
     match M.E.dec o.τ ((M.E.enc o.τ (o.xs.getD i (U.dflt o.τ))).take off++vs++(M.E.enc o.τ (o.xs.getD i (U.dflt o.τ))).drop (off+vs.length)) with
     | some y=>some ⟨[j≤i],.undef,[],s.frz (Cs.obs cs)++[(k,some { o with xs:=o.xs.set i y })]⟩
     | none=>none
    else none
   | none=>none
  | _,_=>none
 | _=>none
def z9u (s:S U) (M:Mc U) : List Operand→Option (List Nat)
 | []=>some []
 | x::r=>match s.ev M x,z9u s M r with
  | some (.one (.c (.bx k 0))),some ks=>some (k::ks)
  | _,_=>none
def S.caps (s:S U) : List Nat→Option (List (List (DC U))×List (Nat×Option (Bool×List (C U)))×List (Nat×Option (Ob U)))
 | []=>some ([],[],[])
 | k::ks=>match s.bx[k]?,s.caps ks with
  | some (some (_,cells)),some (dl,bw,ow)=>match s.toDCs cells with
   | some dcs=>some (dcs::dl,(k,some (true,cells))::bw,s.frz (Cs.obs cells)++ow)
   | none=>none
  | _,_=>none
def z1fs (M:Mc U) (s:S U) (f:FuncId) (captured:List Operand) : Option (Res U) :=
 match z9u s M captured with
 | some ks=>match M.clo f with
  | none=>ok (.one (.c (.fc f ks)))
  | some F=>match s.caps ks with
   | some (dl,bw,ow)=>match F dl with
    | some φ=>some ⟨[],.one (.c (.fv φ)),bw,ow⟩
    | none=>none
   | none=>none
 | none=>none
def zts (M:Mc U) (s:S U) (d:Nat) (t:TypeId) (len cap:AV U) : Option (Res U) :=
 match len,cap,M.ti t with
 | .one (.c (.s (.int .i64 n))),.one (.c (.s (.int .i64 c))),.sl e τ bytes=>match M.zero e,s.nver (s.okey d) with
  | some z,some ver=>if z.length=U.sz τ then match (s.toVs z).bind (M.E.dec τ) with
   | some x=>some ⟨[0≤n∧n≤c∧c.toNat*bytes≤zw],.one (.c (.ob (s.okey d) ver)),[],[(s.okey d,some ⟨ver,τ,List.replicate n.toNat x,some 0,true⟩)]⟩
   | none=>none else none
  | _,_=>none
 | _,_,_=>none
def eff (M:Mc U) (s:S U) (o:Oper) : Option (Res U) :=
 match o.op with
 | .move x | .assign x=>okR (s.evT M o.type x)
 | .pick c a b=>match s.ev M c with
  | some (.one (.c (.s (.bool x))))=>okR (match x with | true=>s.evT M o.type a | false=>s.evT M o.type b)
  | _=>none
 | .alloc t=>match M.zero t,o.dst with
  | some cs,some d=>match s.bx[s.key d]? with
   | some none=>some ⟨[],.one (.c (.bx (s.key d) 0)),[(s.key d,some (false,cs))],[]⟩
   | _=>none
  | _,_=>none
 | .box t x=>match (s.evT M t x).bind AV.cells,o.dst with
  | some cs,some d=>match s.bx[s.key d]? with
   | some none=>some ⟨[],.one (.c (.bx (s.key d) 0)),[(s.key d,some (false,cs))],[]⟩
   | _=>none
  | _,_=>none
 | .build t ps=>match M.zero t,M.ti t,zlj M s ps.toList with
  | some z,.st fs n,some l=>if z.length=n then match zdh (fun i=>(fs[i]?).map fun f=>(f.1,f.2.1)) z l with
   | some cs=>ok (.one (.agg cs))
   | none=>none else none
  | some z,.ar len esz _,some l=>if z.length=len*esz then match zdh (fun i=>some (i*esz,esz)) z l with
   | some cs=>ok (.one (.agg cs))
   | none=>none else none
  | _,_,_=>none
 | .buildSlice t len ps=>match M.ti t,o.dst with
  | .sl e τ bytes,some d=>match M.zero e,partsK M s e ps.toList,s.nver (s.okey d) with
   | some z,some l,some ver=>if z.length=U.sz τ∧len*U.sz τ≤4096∧0<U.sz τ then match zdh (fun i=>some (i*U.sz τ,U.sz τ)) ((List.replicate len z).flatten) l with
    | some cs=>match zhg M s τ (zlk (U.sz τ) len cs) with
     | some xs=>some ⟨[],.one (.c (.ob (s.okey d) ver)),[],s.frz (Cs.obs cs)++[(s.okey d,some ⟨ver,τ,xs,some 0,true⟩)]⟩
     | none=>none
    | none=>none else none
   | _,_,_=>none
  | _,_=>none
 | .load t a=>match s.ev M a with
  | some (.one (.c p))=>match (M.ti t).shape with
   | some (agg,n)=>match s.at M p n with
    | some cs=>okR (mkAV agg cs)
    | none=>none
   | none=>none
  | _=>none
 | .store t a x=>match s.ev M a,(s.evT M t x).bind AV.cells,o.dst with
  | some (.one (.c p)),some cs,none=>match (M.ti t).shape with
   | some (_,n)=>if cs.length=n then z8b M s p cs else none
   | none=>none
  | _,_,_=>none
 | .nilCheck x=>match s.ev M x with
  | some (.one (.c (.bx k off)))=>ok (.one (.c (.bx k off)))
  | some (.one (.c (.el τ xs i off)))=>ok (.one (.c (.el τ xs i off)))
  | some (.one (.c (.em k v i off)))=>match s.obAt k v with | some _=>ok (.one (.c (.em k v i off))) | none=>none
  | some (.one (.c (.fv φ)))=>ok (.one (.c (.fv φ)))
  | _=>none
 | .binOp op t x y _=>match s.ev M x,s.ev M y with
  | some (.one (.c (.s (.bool a)))),some (.one (.c (.s (.bool b))))=>match op,M.ti t with
   | .eql,.bool=>ok (.one (.c (.s (.bool (a == b)))))
   | .neq,.bool=>ok (.one (.c (.s (.bool (!(a == b))))))
   | _,_=>none
  | some (.one (.c (.s .nilFunc))),some (.one (.c (.s .nilFunc)))=>match op,M.ti t with
   | .eql,.fn=>ok (.one (.c (.s (.bool true))))
   | .neq,.fn=>ok (.one (.c (.s (.bool false))))
   | _,_=>none
  | some (.one (.c (.fv _))),some (.one (.c (.s .nilFunc)))=>match op,M.ti t with
   | .eql,.fn=>ok (.one (.c (.s (.bool false))))
   | .neq,.fn=>ok (.one (.c (.s (.bool true))))
   | _,_=>none
  | some (.one (.c (.s a))),some (.one (.c (.s b)))=>match sbin op a b with
   | some (ob,v)=>some ⟨ob,.one (.c (.s v)),[],[]⟩
   | none=>none
  | some (.one (.agg cs)),some (.one (.agg ds))=>z22n M op t cs ds
  | _,_=>none
 | .unOp op _ x=>match op,s.ev M x with
  | .not,some (.one (.c (.s (.bool b))))=>ok (.one (.c (.s (.bool (!b)))))
  | .neg,some (.one (.c (.s (.int k n))))=>ok (.one (.c (.s (.int k (k.wrap (0 - n))))))
  | _,_=>none
 | .convert src dst x=>match M.ti src,M.ti dst,s.ev M x with
  | .int _,.int k,some (.one (.c (.s (.int _ n))))=>ok (.one (.c (.s (.int k (k.wrap n)))))
  | _,_,_=>none
 | .slice t x lo hi mx=>match s.ev M x,bndO s M lo,bndO s M hi,bndO s M mx with
  | some v,some l,some h,some m=>zog s (M.ti t) v l h m
  | _,_,_,_=>none
 | .fieldAddr t x f=>match s.ev M x,M.ti t with
  | some (.one (.c p)),.st fs _=>match fs[f]? with
   | some d=>match s.move d.1 p with
    | some q=>ok (.one (.c q))
    | none=>none
   | none=>none
  | _,_=>none
 | .field t x f=>match s.ev M x,M.ti t with
  | some (.one (.agg cs)),.st fs n=>match fs[f]? with
   | some d=>if cs.length=n∧d.1+d.2.1≤n then okR (mkAV d.2.2 ((cs.drop d.1).take d.2.1)) else none
   | none=>none
  | _,_=>none
 | .indexAddr t x i=>match s.ev M x,s.ev M i,M.ti t with
  | some (.one (.c (.sl τ xs _))),some (.one (.c (.s (.int _ n)))),.sl _ τ₀ _=>if U.sz τ₀=U.sz τ then some ⟨[0≤n∧n<(xs.length:Int)],.one (.c (.el τ xs n.toNat 0)),[],[]⟩ else none
  | some (.one (.c (.ob k v))),some (.one (.c (.s (.int _ n)))),.sl _ τ₀ _=>match s.obAt k v with
   | some o=>if U.sz τ₀=U.sz o.τ then some ⟨[0≤n∧n<(o.xs.length:Int)],.one (.c (.em k v n.toNat 0)),[],[]⟩ else none
   | none=>none
  | some (.one (.c (.bx k off))),some (.one (.c (.s (.int _ n)))),.ar len esz _=>if 0≤n∧n<(len:Int) then ok (.one (.c (.bx k (off+n.toNat*esz)))) else none
  | some (.one (.c (.el τ xs j off))),some (.one (.c (.s (.int _ n)))),.ar len esz _=>if 0≤n∧n<(len:Int) then ok (.one (.c (.el τ xs j (off+n.toNat*esz)))) else none
  | _,_,_=>none
 | .index t x i=>match s.ev M x,s.ev M i,M.ti t with
  | some (.one (.c (.s (.string b)))),some (.one (.c (.s (.int _ n)))),.str=>some ⟨[0≤n∧n<(b.size:Int)],.one (.c (.s (.int .u8 ((b.toList.getD n.toNat 0).toNat:Nat)))),[],[]⟩
  | _,_,_=>none
 | .extract t j=>match s.ev M t with
  | some (.tup al)=>match al[j]? with
   | some a=>ok (.one a)
   | none=>none
  | _=>none
 | .makeSlice t len cap=>match s.ev M len,s.ev M cap,o.dst with
  | some l,some c,some d=>zts M s d t l c
  | _,_,_=>none
 | .makeFunc (.func f) first captured=>match first.toList with
  | []=>z1fs M s f captured.toList
  | _=>none
 | .call c=>zjo M s o c
 | _=>none
def S.upd (s:S U) (dst:Option Nat) (r:Res U) : S U :=
 { s with tm:=(match dst with | some d=>s.tm.set d r.v | none=>s.tm),bx:=sets s.bx r.bw,ob:=sets s.ob r.ow }
def z103 : Res U:=⟨[],.undef,[],[]⟩
def z1ft (o:Op) : List Nat:=o.operands.toList.filterMap fun | .tmp t=>some t | _=>none
def zq6 (ops:List Oper) (o:Oper) : List Nat :=
 match o.guard with
 | none=>[]
 | some (j,_)=>match (ops[j]?).bind (·.dst) with | some d=>[d] | none=>[]
def S.obsX (s:S U) : Operand→List Nat
 | .tmp t=>match s.tm[t]? with | some v=>v.obs | none=>[]
 | _=>[]
def S.obsXs (s:S U) : List Operand→List Nat
 | []=>[]
 | x::r=>s.obsX x++s.obsXs r
def S.bxX (s:S U) : Operand→List Nat
 | .tmp t=>match s.tm[t]? with | some (.one (.c (.bx k _)))=>[k] | some (.one (.c (.fc _ ks)))=>ks | _=>[]
 | _=>[]
def S.bxXs (s:S U) : List Operand→List Nat
 | []=>[]
 | x::r=>s.bxX x++s.bxXs r
def S.capX (s:S U) (c:Call) : List Nat :=
 match c.callee with
 | .value (.tmp t)=>match s.tm[t]? with | some (.one (.c (.fc _ ks)))=>ks | _=>[]
 | _=>[]
def S.boxObs (s:S U) : List Nat→List Nat
 | []=>[]
 | k::r=>(match s.bx[k]? with | some (some (_,cells))=>Cs.obs cells | _=>[])++s.boxObs r
structure Fp where
 rs : List Nat
 rb : List Nat
 ro : List Nat
 ws : List Nat
 wb : List Nat
 wo : List Nat
def S.readB (s:S U) (o:Oper) : List Nat :=
 match o.op with
 | .alloc _ | .box _ _=>match o.dst with | some d=>[s.key d] | none=>[]
 | .load _ a | .store _ a _=>s.bxX a
 | .makeFunc _ _ captured=>s.bxXs captured.toList
 | .call c=>s.bxXs c.args.toList++s.capX c
 | _=>[]
def Mc.zobs (M:Mc U) (t:TypeId) : List Nat :=
 match M.ti t with
 | .sl e _ _=>match M.zero e with | some z=>Cs.obs z | none=>[]
 | _=>[]
def S.readO (M:Mc U) (s:S U) (o:Oper) : List Nat :=
 match o.op with
 | .load _ a=>s.obsX a
 | .store _ a x=>s.obsX a++(match s.obsX a,z7h (s.obsX x) (s.boxObs (s.bxX a)) with | [],false=>[] | _,_=>s.obsX x)
 | .buildSlice t _ ps=>(match o.dst with | some d=>[s.okey d] | none=>[])++s.obsXs (ps.toList.map (·.2))++M.zobs t
 | .makeSlice t _ _=>(match o.dst with | some d=>[s.okey d] | none=>[])++M.zobs t
 | .slice _ x _ _ _=>s.obsX x
 | .indexAddr _ x _=>s.obsX x
 | .nilCheck x=>s.obsX x
 | .fieldAddr _ x _=>s.obsX x
 | .makeFunc _ _ captured=>s.boxObs (s.bxXs captured.toList)
 | .call c=>(match o.dst with | some d=>[s.okey d,s.okey d+1,s.okey d+2,s.okey d+3] | none=>[])++s.obsXs c.args.toList++s.boxObs (s.bxXs c.args.toList++s.capX c)
 | _=>[]
def S.fp (M:Mc U) (s:S U) (ops:List Oper) (o:Oper) (r:Res U) : Fp :=
 ⟨z1ft o.op++zq6 ops o,s.readB o,s.readO M o,o.dst.toList,r.bw.map (·.1),r.ow.map (·.1)⟩
def S.fp0 (ops:List Oper) (o:Oper) : Fp:=⟨zq6 ops o,[],[],o.dst.toList,[],[]⟩
def Fp.clash (a b:Fp) : Bool :=
 z7h a.ws b.rs || z7h a.ws b.ws || z7h a.wb b.rb || z7h a.wb b.wb || z7h a.wo b.ro || z7h a.wo b.wo ||
 z7h a.rs b.ws || z7h a.rb b.wb || z7h a.ro b.wo
def zq7 (bs:List Nat) (j:Nat) (fj:Fp) : Nat→List Fp→Bool
 | _,[]=>true
 | i,f::fs=>(!(f.clash fj) || Nat.testBit (bs.getD j 0) i) && zq7 bs j fj (i+1) fs
def zoh (bs:List Nat) : Nat→List Fp→List Fp→Bool
 | _,_,[]=>true
 | j,done,f::fs=>zq7 bs j f 0 done && zoh bs (j+1) (done++[f]) fs
def cnd (b:Bool) (X Y:Prop) : Prop:=match b with | true=>X | false=>Y
def obs : List Prop→Prop→Prop
 | [],K=>K
 | p::ps,K=>p∧obs ps K
def zn8 (ops:List Oper) (s:S U) (o:Oper) : Option Bool :=
 match o.guard with
 | none=>some true
 | some (j,want)=>match (ops[j]?).bind (·.dst) with
  | none=>none
  | some d=>match s.tm[d]? with
   | some (.one (.c (.s (.bool x))))=>some (x == want)
   | some .undef=>some false
   | _=>none
def z1tv (ops:List Oper) (i:Nat) : Bool:=ops.any fun o=>match o.guard with | some (j,_)=>j == i | none=>false
def z1ut (ops:List Oper) (i:Nat) (o:Oper) (s:S U) (r:Res U) (K:S U→Prop) : Prop :=
 obs r.ob (match z1tv ops i,r.v with
  | true,.one (.c (.s (.bool x)))=>cnd x (K (s.upd o.dst { r with v:=.one (.c (.s (.bool true))) })) (K (s.upd o.dst { r with v:=.one (.c (.s (.bool false))) }))
  | _,_=>K (s.upd o.dst r))
def zlm (M:Mc U) (ops:List Oper) : List Oper→Nat→S U→List Fp→(S U→List Fp→Prop)→Prop
 | [],_,s,fs,K=>K s fs
 | o::rest,i,s,fs,K =>
  match zn8 ops s o with
  | some true=>match eff M s o with
   | some r=>z1ut ops i o s r fun s'=>zlm M ops rest (i+1) s' (s.fp M ops o r::fs) K
   | none=>False
  | some false=>zlm M ops rest (i+1) (s.upd o.dst z103) (S.fp0 ops o::fs) K
  | none=>False
def zln (done:List Nat) : List Edge→Nat
 | []=>0
 | e::r=>if Region.binds .any e then zln done r ||| 2 ^ e.on ||| done.getD e.on 0 else zln done r
def z9v : List Oper→List Nat→List Nat
 | [],done=>done
 | o::r,done=>z9v r (done++[zln done o.after.toList])
def zo2 : Nat→List Oper→Bool
 | _,[]=>true
 | i,o::r=>o.after.toList.all (fun e=>!Region.binds .any e || Nat.blt e.on i) && zo2 (i+1) r
def iff' (b:Bool) (X:Prop) : Prop:=match b with | true=>X | false=>False
def z104 (M:Mc U) (ops:Array Oper) (drawn:Bool) (s:S U) (K:S U→Prop) : Prop :=
 zlm M ops.toList ops.toList 0 s [] fun s' fs=>match drawn with
  | false=>K s'
  | true=>iff' (zo2 0 ops.toList && zoh (z9v ops.toList []) 0 [] fs.reverse) (K s')
inductive Pos
 | sl (d:Nat)
 | cell (k i:Nat)
structure NS where
 ts : List Bool
 bs : List Bool
 nm : List (Pos×Nat)
 gb : List Nat:=[]
 gs : List Nat:=[]
 cs : Bool:=false
def S.refAt (s:S U) : Pos→Option (C U)
 | .sl d=>match s.tm[d]? with | some (.one (.c x))=>some x | _=>none
 | .cell k i=>match s.bx[k]? with | some (some (_,cells))=>cells[i]? | _=>none
def S.setRef (s:S U) (c:C U) : Pos→S U
 | .sl d=>{ s with tm:=s.tm.set d (.one (.c c)) }
 | .cell k i=>match s.bx[k]? with | some (some (fz,cells))=>{ s with bx:=s.bx.set k (some (fz,cells.set i c)) } | _=>s
def S.objNil (s:S U) (p:Pos) (q:Nat) : Option (S U) :=
 match s.refAt p with
 | some (.sl τ [] true)=>match s.nver q with
  | some ver=>some ({ s with ob:=s.ob.set q (some ⟨ver,τ,[],some 0,true⟩) }.setRef (.ob q ver) p)
  | none=>none
 | some (.ob _ _)=>some s
 | _=>none
def S.objNils : List (Pos×Nat)→S U→Option (S U)
 | [],s=>some s
 | (p,q)::r,s=>match s.objNil p q with | some s1=>s1.objNils r | none=>none
def S.names (s:S U) : List (Pos×Nat)→Option (List (Nat×Nat))
 | []=>some []
 | (p,q)::r=>match s.refAt p,s.names r with
  | some (.ob k v),some l=>match s.obAt k v with | some _=>some ((k,q)::l) | none=>none
  | _,_=>none
def C.ren (s:S U) (mp:List (Nat×Nat)) (bs:List Bool) : C U→C U
 | .ob k v=>match look k mp,s.obAt k v with
  | some q,some _=>.ob q 0
  | _,_=>.top
 | .em k v i off=>match look k mp,s.obAt k v with
  | some q,some _=>.em q 0 i off
  | _,_=>.top
 | .bx k off=>match bs[k]? with | some true=>.bx k off | _=>.top
 | .fc f caps=>match caps.all (fun k=>bs.getD k false) with | true=>.fc f caps | false=>.top
 | c=>c
def A.ren (s:S U) (mp:List (Nat×Nat)) (bs:List Bool) : A U→A U
 | .c x=>.c (x.ren s mp bs)
 | .agg cs=>.agg (cs.map (C.ren s mp bs))
 | .top=>.top
def AV.ren (s:S U) (mp:List (Nat×Nat)) (bs:List Bool) : AV U→AV U
 | .one a=>.one (a.ren s mp bs)
 | .tup al=>.tup (al.map (A.ren s mp bs))
 | .undef=>.undef
def zai {α:Type} (z:α) : List Bool→List α→List α
 | _,[]=>[]
 | [],_::xs=>z::zai z [] xs
 | b::bs,x::xs=>(match b with | true=>x | false=>z)::zai z bs xs
def S.moved (s:S U) : List (Nat×Nat)→List (Nat×Option (Ob U))
 | []=>[]
 | (k,q)::r=>(q,match s.ob[k]? with | some (some o)=>some { o with ver:=0 } | _=>none)::s.moved r
def S.ren (s:S U) (mp:List (Nat×Nat)) (ts bs:List Bool) : S U :=
 { tm:=(zai (.one .top) ts s.tm).map (AV.ren s mp bs),bx:=(zai none bs s.bx).map (Option.map fun x=>(x.1,x.2.map (C.ren s mp bs))),ob:=sets (List.replicate s.ob.length none) (s.moved mp),base:=s.base }
def C.weak : C U→C U
 | .sl τ xs _=>.sl τ xs false
 | c=>c
def AV.weak : AV U→AV U
 | .one (.c x)=>.one (.c x.weak)
 | v=>v
def S.weakB : List Nat→S U→S U
 | [],s=>s
 | k::r,s=>S.weakB r { s with bx:=s.bx.modify k (Option.map fun x=>(x.1,x.2.map C.weak)) }
def S.weakS : List Nat→S U→S U
 | [],s=>s
 | d::r,s=>S.weakS r { s with tm:=s.tm.modify d AV.weak }
def S.frzB : List Nat→S U→S U
 | [],s=>s
 | k::r,s=>match s.bx[k]? with
  | some (some (fz,cells))=>match s.toVs cells with
   | some vs=>S.frzB r { s with bx:=s.bx.set k (some (fz,vs.map C.ofV)),ob:=sets s.ob (s.frz (Cs.obs cells)) }
   | none=>S.frzB r s
  | _=>S.frzB r s
def S.norm (n:NS) (s:S U) : Option (S U) :=
 match (s.frzB n.gb).objNils n.nm with
 | some s1=>match s1.names n.nm with
  | some mp=>match z4a (mp.map (·.1)) && z4a (mp.map (·.2)) && mp.all (fun x=>Nat.blt x.2 s1.ob.length) with
   | true=>some (S.weakS n.gs (S.weakB n.gb (s1.ren mp n.ts n.bs)))
   | false=>none
  | none=>none
 | none=>none
def lid : Code→Nat
 | .region id _ _=>id
 | .seq a _=>lid a
 | .block _ c=>lid c
 | .loop c=>lid c
 | .scope c=>lid c
 | _=>0
def z1uu (next:S U→Prop) (Q:Exit→S U→Prop) : Exit→S U→Prop
 | .normal,s=>next s
 | e,s=>Q e s
def z105 (id:Nat) (Q:Exit→S U→Prop) : Exit→S U→Prop
 | .exit id',s=>if id'=id then Q .normal s else Q (.exit id') s
 | e,s=>Q e s
def zn9 (n:NS) (K:S U→Prop) (s:S U) : Prop:=match s.norm n with | some s1=>K s1 | none=>False
def z1nn (n:NS) (I:S U→Prop) (Q:Exit→S U→Prop) : Exit→S U→Prop
 | .normal,s=>zn9 n I s
 | e,s=>zn9 n (Q e) s
def z1o (n:NS) (body:S U→(Exit→S U→Prop)→Prop) (Q:Exit→S U→Prop) : Nat→S U→Prop
 | 0,_=>False
 | k+1,s=>body s (z1nn n (z1o n body Q k) Q)
def z12 (n:NS) (body:S U→(Exit→S U→Prop)→Prop) (Q:Exit→S U→Prop) (s:S U) : Prop:=∃ k,z1o n body Q k s
def z24z (n:NS) (body:S U→(Exit→S U→Prop)→Prop) (s:S U) (Q:Exit→S U→Prop) : Prop:=zn9 n (z12 n body Q) s
def S.onX (f:Bool) (c:Operand) (v:Bool) (s:S U) : S U:=match f,c with
 | true,.tmp t=>{ s with tm:=s.tm.set t (.one (.c (.s (.bool v)))) }
 | _,_=>s
def awp (M:Mc U) (N:Nat→NS) : Code→S U→(Exit→S U→Prop)→Prop
 | .skip,s,Q=>Q .normal s
 | .region _ ops drawn,s,Q=>z104 M ops drawn s (Q .normal)
 | .seq a b,s,Q=>awp M N a s (z1uu (fun s'=>awp M N b s' Q) Q)
 | .cond c a b,s,Q=>match s.ev M c with
  | some (.one (.c (.s (.bool x))))=>cnd x (awp M N a (s.onX (N 0).cs c true) Q) (awp M N b (s.onX (N 0).cs c false) Q)
  | _=>False
 | .block id c,s,Q=>awp M N c s (z105 id Q)
 | .loop c,s,Q=>z24z (N (lid c)) (awp M N c) s Q
 | .exit id,s,Q=>Q (.exit id) s
 | .ret,s,Q=>Q .ret s
 | _,_,_=>False
def sub : Code→List Nat→Code
 | c,[]=>c
 | .seq a b,k::p=>match k with | 0=>sub a p | _=>sub b p
 | .block _ c,_::p=>sub c p
 | .loop c,_::p=>sub c p
 | .cond _ a b,k::p=>match k with | 3=>sub a p | _=>sub b p
 | _,_=>.skip
def ctxK (M:Mc U) (N:Nat→NS) : Code→List Nat→(Exit→S U→Prop)→Exit→S U→Prop
 | .seq a b,k::p,Q=>match k with | 0=>ctxK M N a p (z1uu (fun s'=>awp M N b s' Q) Q) | _=>ctxK M N b p Q
 | .block id c,_::p,Q=>ctxK M N c p (z105 id Q)
 | .cond _ a b,k::p,Q=>match k with | 3=>ctxK M N a p Q | _=>ctxK M N b p Q
 | _,_,Q=>Q
def st (n b o base:Nat) (ts:List (Nat×AV U)) (bs:List (Nat×Option (Bool×List (C U)))) (os:List (Nat×Option (Ob U))) : S U :=
 ⟨sets (List.replicate n (.one .top)) ts,sets (List.replicate b none) bs,sets (List.replicate o none) os,base⟩
def z8 (f:Func) : Code:=f.body.getD .skip
inductive Kind
 | d | o | m
def S.outD (s:S U) : C U→Option (C U)
 | .s x=>some (.s x)
 | .fv φ=>some (.fv φ)
 | c=>match s.lst c with | some ⟨τ,xs⟩=>some (.sl τ xs false) | none=>some .top
def S.outDs (s:S U) : List (C U)→Option (List (C U))
 | []=>some []
 | c::cs=>match s.outD c,s.outDs cs with
  | some x,some xs=>some (x::xs)
  | _,_=>none
def S.outA (s:S U) (k:Kind) (j:Nat) (x:A U) : Option (A U×List (Option Nat×Ob U)) :=
 match k,x with
 | .d,.c x=>match s.outD x with | some y=>some (.c y,[]) | none=>none
 | .d,.agg cs=>match s.outDs cs with | some ys=>some (.agg ys,[]) | none=>none
 | .o,.c (.sl τ [] true)=>some (.c (.ob j 0),[(none,⟨0,τ,[],none,true⟩)])
 | .o,.c (.ob k v)=>match s.obAt k v with
  | some o=>match o.live with | true=>some (.c (.ob j 0),[(some k,⟨0,o.τ,o.xs,none,true⟩)]) | false=>none
  | none=>none
 | .m,.c (.sl τ [] true)=>some (.c (.ob j 0),[(none,⟨0,τ,[],some 0,true⟩)])
 | .m,.c (.ob k v)=>match s.obAt k v with
  | some o=>match o.live,o.fr with | true,some 0=>some (.c (.ob j 0),[(some k,⟨0,o.τ,o.xs,some 0,true⟩)]) | _,_=>none
  | none=>none
 | _,_=>none
def S.outs (s:S U) : List Kind→Nat→List (A U)→Option (List (A U)×List (Option Nat×Ob U))
 | _,_,[]=>some ([],[])
 | ks,j,x::al=>match s.outA (ks.headD .d) j x with
  | some (r,e)=>match s.outs ks.tail (j+e.length) al with
   | some (rs,es)=>some (r::rs,e++es)
   | none=>none
  | none=>none
def srcs : List (Option Nat×Ob U)→List Nat
 | []=>[]
 | (some k,_)::r=>k::srcs r
 | (none,_)::r=>srcs r
def z82 : List Kind→List (A U)→List Nat
 | _,[]=>[]
 | ks,x::al=>(match ks.headD .d with | .m=>[] | _=>x.obs)++z82 ks.tail al
def z106 : List Kind→List (A U)→List Nat
 | _,[]=>[]
 | ks,x::al=>(match ks.headD .d with | .m=>x.obs | _=>[])++z106 ks.tail al
def S.out (s:S U) (fm:List Kind) (al:List (A U)) : Option (List (A U)×List (Ob U)) :=
 match s.outs fm 0 al with
 | some (rs,es)=>match z4a (srcs es) && !z7h (z106 fm al) (z82 fm al) with
  | true=>some (rs,es.map (·.2))
  | false=>none
 | none=>none
def S.res (M:Mc U) (s:S U) : ResultVar→Option (A U)
 | .tmp t=>match s.tm[t]? with | some (.one a)=>some a | _=>none
 | .cell t ty=>match s.tm[t]? with
  | some (.one (.c p))=>match (M.ti ty).shape with
   | some (agg,n)=>match s.at M p n with
    | some cs=>match mkAV agg cs with | some (.one a)=>some a | _=>none
    | none=>none
   | none=>none
  | _=>none
def S.ress (M:Mc U) (s:S U) : List ResultVar→Option (List (A U))
 | []=>some []
 | r::rs=>match s.res M r,s.ress M rs with
  | some a,some al=>some (a::al)
  | _,_=>none
def retK (M:Mc U) (rv:List ResultVar) (fm:List Kind) (K:List (A U)→List (Ob U)→Prop) (s:S U) : Prop :=
 match s.ress M rv with
 | some al=>match s.out fm al with
  | some (rs,os)=>K rs os
  | none=>False
 | none=>False
def retQ (M:Mc U) (rv:List ResultVar) (fm:List Kind) (K:List (A U)→List (Ob U)→Prop) : Exit→S U→Prop
 | .ret,s=>retK M rv fm K s
 | .normal,s=>retK M rv fm K s
 | _,_=>False
def unC : List (A U)→Option (List (C U))
 | []=>some []
 | .c x::l=>match unC l with | some r=>some (x::r) | none=>none
 | _=>none
def ztt : List (Bool×List (C U))→List (A U)→Option (List (Bool×List (C U))×List (A U))
 | [],l=>some ([],l)
 | b::bs,l=>match unC (l.take b.2.length),ztt bs (l.drop b.2.length) with
  | some cs,some (bs',r)=>some ((b.1,cs)::bs',r)
  | _,_=>none
def z1aj : List (Bool×List (C U))→List (A U)
 | []=>[]
 | b::bs=>b.2.map .c++z1aj bs
def z140 (M:Mc U) (nb:Nat) (rv:List ResultVar) (fm:List Kind) (K:List (A U)→List (Bool×List (C U))→List (Ob U)→Prop) (s:S U) : Prop :=
 match s.ress M rv,s.boxesAt (List.range nb) with
 | some al,some bs=>match s.out fm (z1aj bs++al) with
  | some (rs,os)=>match ztt bs rs with
   | some (bs',rs')=>K rs' bs' os
   | none=>False
  | none=>False
 | _,_=>False
def z2i (M:Mc U) (nb:Nat) (rv:List ResultVar) (fm:List Kind) (K:List (A U)→List (Bool×List (C U))→List (Ob U)→Prop) : Exit→S U→Prop
 | .ret,s=>z140 M nb rv fm K s
 | .normal,s=>z140 M nb rv fm K s
 | _,_=>False
def z1ak (n x:Nat) (args:List (A U)) (bs:List (Bool×List (C U))) (os:List (Ob U)) : S U :=
 ⟨args.map .one++List.replicate (n - args.length) (.one .top),bs.map some++List.replicate n none,os.map some++List.replicate (4*(bs.length+n)+x - os.length) none,bs.length⟩
def DC.toC : DC U→C U
 | .v x=>C.ofV x
 | .fn φ=>.fv φ
def argA (k:Nat) : D U→AV U
 | .d x=>.one x.toA
 | .fn φ=>.one (.c (.fv φ))
 | .box _=>.one (.c (.bx k 0))
def zwd : Nat→List (D U)→List (AV U)
 | _,[]=>[]
 | k,d::r=>argA k d::zwd (match d with | .box _=>k+1 | _=>k) r
def z7i : List (D U)→List (Option (Bool×List (C U)))
 | []=>[]
 | .box cs::r=>some (true,cs.map DC.toC)::z7i r
 | _::r=>z7i r
def zg (n x:Nat) (args:List (D U)) : S U :=
 ⟨zwd 0 args++List.replicate (n - args.length) (.one .top),z7i args++List.replicate n none,List.replicate (4*((z7i args).length+n)+x) none,(z7i args).length⟩
end Go.Proofs.YtjfpbchdcbhfgaaGreat.B
