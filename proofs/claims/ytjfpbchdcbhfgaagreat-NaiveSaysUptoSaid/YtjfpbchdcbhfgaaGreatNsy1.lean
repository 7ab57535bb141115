/- Part 1 of the proof: BLaid Base BDef BRel BRun BSim BTab. -/
import Derived.WalkKit
import Derived.Lib.LaidTab
import Derived.ProofKit
import Derived.OpenShut
import Derived.Lib.Hide
import Derived.WalkLawsBesides
import Derived.BigQuiet
import Derived.Deep.QuietTactic
set_option linter.unusedVariables false
set_option linter.unusedSimpArgs false
set_option linter.defProp false
namespace Go.Proofs.YtjfpbchdcbhfgaaGreat
def y5:=@Int.toNat_natCast
def y6:=@Option.bind_eq_some_iff
def y7:=@Nat.le_refl
def y8:=@Option.some.injEq
def y9:=@List.mem_of_getElem?
def ya:=@List.getElem?_eq_getElem
def yb:=@List.length_append
def yc:=@Nat.zero_le
def yd:=@List.length_singleton
def ye:=@List.mem_append
def yf:=@List.getD_eq_getElem?_getD
def yg:=@Option.some.inj
def yh:=@List.mem_cons
def yi:=@Prod.mk.injEq
def yj:=@Option.bind_some
def yk:=@Nat.lt_or_ge
def yl:=@List.mem_singleton
def ym:=@List.getElem?_eq_some_iff
def yn:=@List.length_take
def yp:=@Bool.and_eq_true
def yq:=@List.foldl_cons
def yr:=@List.nil_append
def yt:=@List.length_drop
def yu:=@Nat.lt_of_lt_of_le
def yw:=@List.append_assoc
def yx:=@List.eq_nil_of_length_eq_zero
def yy:=@List.length_map
def yz:=@List.length_cons
def cL:=@List.map_cons
def cP:=@List.mem_cons_self
def cQ:=@Nat.not_lt_zero
def cV:=@List.mem_cons_of_mem
def de:=@List.append_nil
def dn:=@List.getElem?_map
def dP:=@List.getElem?_set_ne
def dQ:=@Bool.true_and
def eH:=@List.getElem?_set_self
def d7:=@List.getElem?_append_left
def fA:=@List.drop_of_length_le
def y1b:=@List.all_eq_true
def fa:=@Nat.add_assoc
def fB:=@Nat.mul_le_mul_right
def eT:=@List.cons_append
def gK:=@Nat.le_trans
def fb:=@List.all_cons
def fC:=@List.getElem?_append_right
def fR:=@List.drop_eq_getElem_cons
def fD:=@List.cons.injEq
def iz:=@Array.length_toList
def f9:=@List.mem_append_left
def iA:=@Nat.add_mul
def gL:=@List.mem_append_right
def y1o:=@List.drop_eq_nil_iff
def iB:=@List.take_append_drop
def iC:=@Nat.add_zero
def iD:=@Option.map_some
def iE:=@Nat.zero_add
def j8:=@List.getElem?_of_mem
def iF:=@Bool.or_eq_true
def iG:=@List.length_set
def jq:=@Bool.not_eq_true'
def jr:=@List.map_nil
def js:=@Bool.false_and
def mc:=@List.getElem_mem
def j9:=@List.getElem?_set
def y21:=@List.length_pos_iff
def ld:=@Nat.mul_le_mul
def mf:=@Bool.false_eq_true
def mg:=@List.getElem?_drop
def y25:=@List.pairwise_append
def nN:=@List.length_nil
def y27:=@List.findIdx?_eq_some_iff_getElem
def sy:=@Nat.mul_comm
def nO:=@Array.getElem?_toList
def y2a:=@List.mem_map
def nP:=@List.foldl_append
def nQ:=@List.findIdx?_cons
def A5:=@List.mem_of_mem_drop
def pH:=@List.not_mem_nil
def pI:=@Nat.lt_succ_self
def pJ:=@Int.le_refl
def sC:=@List.drop_length
def PU:=@Nat.eq_of_beq_eq_true
def sD:=@Array.getElem?_eq_getElem
def sE:=@List.length_replicate
def y2l:=@List.pairwise_cons
def sF:=@Array.size_push
def Gg:=@List.takeWhile_append_dropWhile
def vm:=@List.take_of_length_le
def A6:=@Nat.mod_lt
def vn:=@List.getElem?_take_of_lt
def vo:=@Option.map_none
def vp:=@List.take_length
def vq:=@List.flatten_cons
def y2u:=@List.mem_filter
def vr:=@Bool.not_true
def vt:=@List.length_range
def vu:=@Array.toList_setIfInBounds
def vw:=@List.takeWhile_cons
def Gh:=@List.drop_drop
def PV:=@Array.ext'
def A7:=@List.getElem?_cons_zero
def A8:=@Array.toList_map
def y33:=@Array.getElem?_eq_some_iff
def A9:=@List.forall_mem_cons
def Ba:=@List.getElem_map
def Bb:=@Bool.eq_iff_iff
def Bc:=@List.foldl_nil
def Bd:=@Int.eq_ofNat_of_zero_le
def Be:=@List.dropWhile_cons
def Bf:=@Nat.sub_self
def Bg:=@List.nil_merge
def Bh:=@List.merge_right
def y3d:=@Bool.or_eq_false_iff
def PW:=@Nat.div_lt_iff_lt_mul
def PX:=@Nat.mod_eq_of_lt
def y3g:=@List.mem_of_mem_take
def Gi:=@Option.getD_some
def y3i:=@List.pairwise_iff_getElem
def Gj:=@List.cons.inj
def Gk:=@Bool.false_or
def Gl:=@Bool.and_assoc
def Gm:=@List.take_add_one
def Gn:=@List.map_append
def PY:=@List.length_pos_of_mem
def Gp:=@Array.getElem?_append_left
def y3q:=@Array.toArray_toList
def Gq:=@Nat.lt_irrefl
def Gr:=@Int.toNat_of_nonneg
def y3t:=@List.perm_middle
def Gs:=@List.cons_merge_cons
def y3v:=@List.map_congr_left
def y3w:=@Nat.div_add_mod
def PZ:=@List.getElem?_range
def y3y:=@Nat.mul_add_mod
def y3z:=@List.any_eq_false
def P0:=@Nat.le_add_right
def P1:=@List.drop_zero
def P2:=@Nat.eq_zero_or_pos
def P3:=@Nat.le_mul_of_pos_right
def P4:=@List.ext_getElem?
def P5:=@List.foldl_map
def P6:=@Array.getElem?_push_size
def y47:=@List.length_eq_zero_iff
def P7:=@List.takeWhile_sublist
def P8:=@List.getElem?_eq_none
def P9:=@Array.getElem?_modify
def Qa:=@List.eq_nil_or_concat
def Qb:=@List.concat_eq_append
def Qc:=@Bool.not_not
def Qd:=@Nat.mul_one
def y4f:=@List.eraseIdx_eq_take_drop_succ
def y4g:=@Int.fdiv_eq_ediv_of_nonneg
def y4h:=@List.range_eq_range'
def y4i:=@Array.mapM_eq_mapM_toList
def y4j:=@List.replicate_succ
def y4k:=@List.getElem?_modify
def y4l:=@Array.getD_eq_getD_getElem?
def y4m:=@List.getElem_of_mem
def y4n:=@List.mem_map_of_mem
def y4o:=@List.getElem?_cons_succ
def y4p:=@Int.mul_le_mul_of_nonneg_right
def y4q:=@List.drop_eq_nil_of_le
def y4r:=@List.takeWhile_append_of_pos
def y4s:=@List.dropWhile_append_of_pos
def y4t:=@List.length_eq_one_iff
def y4u:=@List.getElem_finRange
def y4v:=@List.filter_eq_self
def y4w:=@List.length_filter_le
end Go.Proofs.YtjfpbchdcbhfgaaGreat
namespace Go.Proofs.YtjfpbchdcbhfgaaGreat
open Go Go.RowKit
def LB(_:Nat):Bool:=false
def Laid(_:World):Prop:=True
theorem Laid.lt{w}(_h:Laid w) b(hl:LB b=true):b<w.heap.size:=by simp[LB]at hl
def Laid.on{w w'}(_h:Laid w)(_hs:w.heap.size≤w'.heap.size)(_hb:∀b,LB b=true→w'.heap[b]?=w.heap[b]?):Laid w':=trivial
def Laid.none w:Laid w:=trivial
end Go.Proofs.YtjfpbchdcbhfgaaGreat
namespace Go.Proofs.YtjfpbchdcbhfgaaGreat
open Go.RowKit
def Ext(w w':World):Prop:=Below w.heap.size w w'
def Laid.ext{w w'}(h:Laid w)(hb:Ext w w'):Laid w':=h.on hb.size fun b hl=>Below.block hb b<|h.lt b hl
def Ext.refl w:Ext w w:=Below.refl _ _
theorem Ext.trans{a b c}(h:Ext a b)(k:Ext b c):Ext a c:=Below.trans h<|Below.mono k h.size
theorem Ext.alloc{a b}(h:Ext a b) o:Ext a (b.alloc o):=Below.alloc h h.size o
def Ext.drew{a b}(h:Ext a b):Ext a b.drew:=Below.drew h
theorem Ext.setCell{a b}(h:Ext a b){p}(hp:a.heap.size≤p.block) u:Ext a (b.setCell p u):=Below.setCell h hp u
theorem Ext.cell{a b}(h:Ext a b){p}(hp:p.block<a.heap.size):b.cell? p=a.cell? p:=Below.cell h hp
theorem Ext.frozen{a b}(h:Ext a b){p}(hp:p.block<a.heap.size):b.frozen? p=a.frozen? p:=Below.frozen h hp
def stuck(w:World)(p:Addr):Bool:=w.frozen? p||(match w.shape? p.block with|some (_,n)=>w.frozen? ⟨p.block,n,none⟩|none=>false)
theorem yQ{w p}(h:stuck w p=false):w.frozen? p=false:=(y3d.1 h).1
def agp{w p}(h:stuck w p=false){t n}(hs:w.shape? p.block=some (t,n)):w.frozen? ⟨p.block,n,none⟩=false:=by
 have:=(y3d.1 h).2;grind
def Kk{w w' p}(h:w'.heap[p.block]?=w.heap[p.block]?):stuck w' p=stuck w p:=by
 simp_all[stuck,World.frozen?,World.shape?]
theorem Qe w a v p:stuck (w.setCell a v) p=stuck w p:=by
 have hs:(w.setCell a v).shape? p.block=w.shape? p.block:=by
  unfold World.shape? World.setCell;grind
 simp_all[stuck,World.frozen?_setCell]
@[simp] theorem aAU(w:World) arr t o:stuck (w.alloc<|.cells arr t) ⟨w.heap.size,o,none⟩=false:=by
 unfold stuck World.shape? World.frozen? World.alloc;simp
theorem Ext.stuck{a b}(h:Ext a b){p}(hp:p.block<a.heap.size):stuck b p=stuck a p:=Kk<|Below.block h _ hp
def Ext.le{a b}(h:Ext a b):a.heap.size≤b.heap.size:=h.size
theorem Ext.block{a b}(h:Ext a b){k}(hk:k<a.heap.size):b.heap[k]?=a.heap[k]?:=Below.block h k hk
def vz{w:World}{p v}(h:w.cell? p=some v):p.block<w.heap.size:=by
 grind[World.cell?,Nat.lt_or_ge,Array.getElem?_eq_none]
def Ext.keeps{a b}(h:Ext a b){p v}(hc:a.cell? p=some v):b.cell? p=some v:=by
 rw[h.cell<|vz hc];omega
end Go.Proofs.YtjfpbchdcbhfgaaGreat
namespace Go.Proofs.YtjfpbchdcbhfgaaGreat.B
open Go
structure Uni where
 Ty:Type
 deq:DecidableEq Ty
 Den:Ty→Type
 dflt:(τ:Ty)→Den τ
 sz:Ty→Nat
inductive V(U:Uni):Type
 |s (x:Value)
 |dat (τ:U.Ty) (xs:List (U.Den τ))
inductive D0(U:Uni):Type
 |v (x:V U)
 |agg (xs:List (V U))
def FV(U:Uni):Type:=List (D0 U)→Option (List Prop×List (D0 U))
inductive C(U:Uni):Type
 |s (x:Value)
 |sl (τ:U.Ty) (xs:List (U.Den τ)) (full:Bool)
 |ob (k v:Nat)
 |bx (k off:Nat)
 |el (τ:U.Ty) (xs:List (U.Den τ)) (i off:Nat)
 |em (k v i off:Nat)
 |fv (φ:FV U)
 |fc (f:Nat) (caps:List Nat)
 |top
inductive A(U:Uni):Type
 |c (x:C U)
 |agg (cs:List (C U))
 |top
inductive AV(U:Uni):Type
 |one (a:A U)
 |tup (al:List (A U))
 |undef
structure Enc(U:Uni) where
 enc:(τ:U.Ty)→U.Den τ→List (V U)
 dec:(τ:U.Ty)→List (V U)→Option (U.Den τ)
 len:∀τ x,(enc τ x).length=U.sz τ
 back:∀τ cs x,dec τ cs=some x→enc τ x=cs
inductive DC(U:Uni):Type
 |v (x:V U)
 |fn (φ:FV U)
inductive D(U:Uni):Type
 |d (x:D0 U)
 |fn (φ:FV U)
 |box (cs:List (DC U))
structure Ob(U:Uni) where
 ver:Nat
 τ:U.Ty
 xs:List (U.Den τ)
 fr:Option Nat
 live:Bool
variable {U:Uni}
def bH:Value→Bool
 | .agg _=>false
 | .tuple _=>false
 | .int k n=>decide<|k.min≤n∧n≤k.max
 | .string b=>decide<|b.size≤maxLen
 |_=>true
def C.ofV:V U→C U
 | .s x=>.s x
 | .dat τ xs=>.sl τ xs false
def D0.toA:D0 U→A U
 | .v x=>.c<|C.ofV x
 | .agg xs=>.agg<|xs.map C.ofV
inductive TI(U:Uni):Type
 |int (k:IntKind)
 |bool
 |str
 |sl (e:TypeId) (τ:U.Ty) (bytes:Nat)
 |st (fs:List (Nat×Nat×Bool)) (n:Nat)
 |ar (len esz:Nat) (eagg:Bool)
 |one
 |fn
 |oth
def TI.shape:TI U→Option (Bool×Nat)
 | .st _ n=>some (true,n)
 | .ar len esz _=>some (true,len*esz)
 | .oth=>none
 |_=>some (false,1)
structure S(U:Uni) where
 tm:List (AV U)
 bx:List (Option<|Bool×List (C U))
 ob:List (Option<|Ob U)
 base:Nat
def au(U:Uni):Type:=List (D U)→Option (List Prop×List (A U)×List (Ob U))
def fS(U:Uni):Type:=List (A U)→List (Bool×List (C U))→List (Ob U)→Option (List Prop×List (A U)×List (Bool×List (C U))×List (Ob U))
inductive EK
 |int (k:IntKind)
 |str
 |bool
def mh(U:Uni):Type:=(τ:U.Ty)→List (U.Den τ)→List (D U)→Option (List Prop×List (U.Den τ))
structure Mc(U:Uni) where
 E:Enc U
 tab:List (TypeId×TI U)
 zeros:List (TypeId×List (C U))
 fns:FuncId→Option (au U)
 fvs:FuncId→Option (FV U)
 clo:FuncId→Option (List (List<|DC U)→Option (FV U))
 gns:FuncId→Option (List Bool×fS U)
 eqs:List (TypeId×List EK)
 ups:FuncId→Option (mh U)
def look{α:Type}(t:Nat):List (Nat×α)→Option α
 |[]=>none
 |(k,x)::r=>match Nat.beq k t with|true=>some x|false=>look t r
def Mc.ti(M:Mc U)(t:TypeId):TI U:=match look t M.tab with|some x=>x|none=>.oth
def Mc.zero(M:Mc U)(t:TypeId):Option (List<|C U):=look t M.zeros
def aH{α:Type}:List α→List (Nat×α)→List α
 |l,[]=>l
 |l,(k,x)::r=>aH (l.set k x) r
def Gt:Value→Option (AV U)
 | .int k n=>match bH (.int k n)with|true=>some (.one<|.c<|.s<|.int k n)|false=>none
 | .bool b=>some<|.one<|.c<|.s<|.bool b
 | .string b=>match bH (.string b)with|true=>some (.one<|.c<|.s<|.string b)|false=>none
 | .nilFunc=>some<|.one<|.c<|.s .nilFunc
 |_=>none
def S.ev(s:S U)(M:Mc U):Operand→Option (AV U)
 | .tmp t=>s.tm[t]?
 | .const c=>Gt c
 | .func f=>match M.fvs f with
  |some φ=>some<|.one<|.c<|.fv φ
  |none=>some<|.one<|.c<|.fc f []
 | .global _=>none
def Kl:Operand→Bool
 | .const (.slice none 0 0)=>true
 |_=>false
def S.evT(M:Mc U)(s:S U)(t:TypeId)(x:Operand):Option (AV U):=
 match Kl x with
 |true=>match M.ti t with
  | .sl _ τ _=>some<|.one<|.c<|.sl τ [] true
  |_=>none
 |false=>s.ev M x
def AV.cells:AV U→Option (List<|C U)
 | .one (.c x)=>some [x]
 | .one (.agg cs)=>some cs
 |_=>none
def pr(agg:Bool)(cs:List (C U)):Option (AV U):=
 match agg,cs with
 |true,cs=>some<|.one<|.agg cs
 |false,[x]=>some<|.one<|.c x
 |_,_=>none
def S.key(s:S U)(d:Nat):Nat:=s.base+d
def S.okey(s:S U)(d:Nat):Nat:=4*(s.base+d)
def S.obAt(s:S U)(k v:Nat):Option (Ob U):=
 match s.ob[k]? with
 |some (some o)=>match Nat.beq o.ver v with|true=>some o|false=>none
 |_=>none
def S.nver(s:S U)(q:Nat):Option Nat:=
 match s.ob[q]? with
 |some (some o)=>some<|o.ver+1
 |some none=>some 0
 |none=>none
def S.lst(s:S U):C U→Option ((τ:U.Ty)×List (U.Den τ))
 | .sl τ xs _=>some ⟨τ,xs⟩
 | .ob k v=>match s.obAt k v with|some o=>some ⟨o.τ,o.xs⟩|none=>none
 |_=>none
def S.toV(s:S U):C U→Option (V U)
 | .s x=>some<|.s x
 | .sl τ xs _=>some<|.dat τ xs
 | .ob k v=>match s.obAt k v with|some o=>some (.dat o.τ o.xs)|none=>none
 |_=>none
def S.toVs(s:S U):List (C U)→Option (List<|V U)
 |[]=>some []
 |c::cs=>match s.toV c,s.toVs cs with
  |some v,some vs=>some<|v::vs
  |_,_=>none
def C.obs:C U→List Nat
 | .ob k _=>[k]
 | .em k _ _ _=>[k]
 |_=>[]
def Cs.obs:List (C U)→List Nat
 |[]=>[]
 |c::cs=>c.obs++Cs.obs cs
def A.obs:A U→List Nat
 | .c x=>x.obs
 | .agg cs=>Cs.obs cs
 | .top=>[]
def As.obs:List (A U)→List Nat
 |[]=>[]
 |a::l=>a.obs++As.obs l
def AV.obs:AV U→List Nat
 | .one a=>a.obs
 | .tup al=>As.obs al
 | .undef=>[]
def S.frz(s:S U):List Nat→List (Nat×Option (Ob U))
 |[]=>[]
 |k::ks=>match s.ob[k]? with
  |some (some o)=>(k,some {o with fr:=none})::s.frz ks
  |_=>s.frz ks
def S.toD(s:S U):A U→Option (D U)
 | .c (.fv φ)=>some<|.fn φ
 | .c x=>match s.toV x with|some d=>some (.d<|.v d)|none=>none
 | .agg cs=>match s.toVs cs with|some ds=>some (.d<|.agg ds)|none=>none
 |_=>none
def S.toDs(s:S U):List (A U)→Option (List<|D U)
 |[]=>some []
 |x::r=>match s.toD x,s.toDs r with
  |some d,some ds=>some<|d::ds
  |_,_=>none
def S.toD0(s:S U):A U→Option (D0 U)
 | .c x=>match s.toV x with|some d=>some (.v d)|none=>none
 | .agg cs=>match s.toVs cs with|some ds=>some (.agg ds)|none=>none
 |_=>none
def S.toD0s(s:S U):List (A U)→Option (List<|D0 U)
 |[]=>some []
 |x::r=>match s.toD0 x,s.toD0s r with
  |some d,some ds=>some<|d::ds
  |_,_=>none
def S.toDC(s:S U):C U→Option (DC U)
 | .fv φ=>some<|.fn φ
 |x=>match s.toV x with|some d=>some (.v d)|none=>none
def S.toDCs(s:S U):List (C U)→Option (List<|DC U)
 |[]=>some []
 |x::r=>match s.toDC x,s.toDCs r with
  |some d,some ds=>some<|d::ds
  |_,_=>none
structure Res(U:Uni) where
 ob:List Prop
 v:AV U
 bw:List (Nat×Option (Bool×List (C U)))
 ow:List (Nat×Option (Ob U))
def ok(v:AV U):Option (Res U):=some ⟨[],v,[],[]⟩
def pK(v:Option (AV U)):Option (Res U):=match v with|some v=>ok v|none=>none
def yR(op:BinOp)(x y:Value):Option (List Prop×Value):=
 match x,y with
 | .int k a,.int k' b=>
  match op with
  | .shl=>some ([¬b<0],.int k<|k.wrap<|a*2 ^(min b.toNat k.bits))
  | .shr=>some ([¬b<0],.int k<|a.fdiv<|2 ^(min b.toNat k.bits))
  |op=>
   if k=k' then
    match op with
    | .add=>some ([],.int k<|k.wrap<|a+b)
    | .sub=>some ([],.int k<|k.wrap<|a- b)
    | .mul=>some ([],.int k<|k.wrap<|a*b)
    | .quo=>some ([¬b=0],.int k<|k.wrap<|a.tdiv b)
    | .rem=>some ([¬b=0],.int k<|a.tmod b)
    | .eql=>some ([],.bool<|a==b)
    | .neq=>some ([],.bool<|a !=b)
    | .lss=>some ([],.bool<|decide<|a<b)
    | .leq=>some ([],.bool<|decide<|a≤b)
    | .gtr=>some ([],.bool<|decide<|a>b)
    | .geq=>some ([],.bool<|decide<|a≥b)
    | .and=>some ([],.int k<|k.wrap (BitVec.ofInt k.bits a&&&BitVec.ofInt k.bits b).toNat)
    | .or=>some ([],.int k<|k.wrap (BitVec.ofInt k.bits a|||BitVec.ofInt k.bits b).toNat)
    | .andNot=>some ([],.int k<|k.wrap (BitVec.ofInt k.bits a&&& ~~~BitVec.ofInt k.bits b).toNat)
    | .xor=>some ([],.int k<|k.wrap (BitVec.ofInt k.bits a ^^^BitVec.ofInt k.bits b).toNat)
    |_=>none
   else none
 | .string a,.string b=>
  match op with
  | .add=>some ([a.size+b.size≤9223372036854775807],.string<|a++b)
  | .eql=>some ([],.bool<|a.toList==b.toList)
  | .neq=>some ([],.bool<|!(a.toList==b.toList))
  | .lss=>some ([],.bool<|Op.bytesLess a.toList b.toList)
  | .leq=>some ([],.bool<|Op.bytesLess a.toList b.toList||a.toList==b.toList)
  | .gtr=>some ([],.bool<|!(Op.bytesLess a.toList b.toList||a.toList==b.toList))
  | .geq=>some ([],.bool<|!Op.bytesLess a.toList b.toList)
  |_=>none
 |_,_=>none
def nw(es:List EK)(b r:Bool):Bool:=match es with|[]=>b|_=>b&&r
def d8:List EK→List (C U)→List (C U)→Option Bool
 |[],[],[]=>some true
 | .int k::es,.s (.int k1 a)::xs,.s (.int k2 b)::ys=>match decEq k1 k,decEq k2 k,d8 es xs ys with
  | .isTrue _,.isTrue _,some r=>some<|nw es (a==b) r
  |_,_,_=>none
 | .str::es,.s (.string a)::xs,.s (.string b)::ys=>match d8 es xs ys with
  |some r=>some<|nw es (a.toList==b.toList) r
  |none=>none
 | .bool::es,.s (.bool a)::xs,.s (.bool b)::ys=>match d8 es xs ys with
  |some r=>some<|nw es (a==b) r
  |none=>none
 |_,_,_=>none
def Rx(M:Mc U)(op:BinOp)(t:TypeId)(cs ds:List (C U)):Option (Res U):=
 match look t M.eqs with
 |some es=>match d8 es cs ds,op with
  |some r,.eql=>ok<|.one<|.c<|.s<|.bool r
  |some r,.neq=>ok<|.one<|.c<|.s<|.bool<|!r
  |_,_=>none
 |none=>none
def S.at(M:Mc U)(s:S U)(a:C U)(n:Nat):Option (List<|C U):=
 match a with
 | .bx k off=>match s.bx[k]? with
  |some (some (_,cells))=>if off+n≤cells.length then some ((cells.drop off).take n)else none
  |_=>none
 | .el τ xs i off=>if off+n≤U.sz τ then some ((((M.E.enc τ<|xs.getD i<|U.dflt τ).drop off).take n).map C.ofV)else none
 | .em k v i off=>match s.obAt k v with
  |some o=>if off+n≤U.sz o.τ then some ((((M.E.enc o.τ<|o.xs.getD i<|U.dflt o.τ).drop off).take n).map C.ofV)else none
  |none=>none
 |_=>none
def S.move(s:S U)(d:Nat):C U→Option (C U)
 | .bx k off=>some<|.bx k<|off+d
 | .el τ xs i off=>some<|.el τ xs i<|off+d
 | .em k v i off=>match s.obAt k v with|some _=>some (.em k v i<|off+d)|none=>none
 |_=>none
def iH{α:Type}(place:Nat→Option (Nat×Nat))(cells:List α):List (Nat×List α)→Option (List α)
 |[]=>some cells
 |(i,cs)::rest=>match place i with
  |none=>none
  |some (off,size)=>if cs.length=size∧off+size≤cells.length then iH place (cells.take off++cs++cells.drop (off+size)) rest else none
def pL(M:Mc U)(s:S U):List (Nat×Operand)→Option (List<|Nat×List (C U))
 |[]=>some []
 |(i,x)::r=>match(s.ev M x).bind AV.cells,pL M s r with
  |some cs,some l=>some<|(i,cs)::l
  |_,_=>none
def zB:Value→C U→Bool
 | .int k n,.s (.int k' n')=>decide (k=k')&&n==n'&&bH (.int k n)
 | .bool b,.s (.bool b')=>b==b'
 | .string b,.s (.string b')=>b.data==b'.data&&bH (.string b)
 | .nilIface,.s .nilIface=>true
 | .nilFunc,.s .nilFunc=>true
 | .slice none 0 0,.sl _ [] true=>true
 |_,_=>false
def sG:List Value→List (C U)→Bool
 |[],[]=>true
 |v::vs,c::cs=>zB v c&&sG vs cs
 |_,_=>false
def ui(M:Mc U)(s:S U)(e:TypeId)(x:Operand):Option (List<|C U):=
 match x with
 | .const (.agg arr)=>match M.zero e with
  |some z=>match sG arr.toList z with|true=>some z|false=>none
  |none=>none
 |x=>(s.evT M e x).bind AV.cells
def partsK(M:Mc U)(s:S U)(e:TypeId):List (Nat×Operand)→Option (List<|Nat×List (C U))
 |[]=>some []
 |(i,x)::r=>match ui M s e x,partsK M s e r with
  |some cs,some l=>some<|(i,cs)::l
  |_,_=>none
def pM(M:Mc U)(s:S U)(τ:U.Ty):List (List<|C U)→Option (List<|U.Den τ)
 |[]=>some []
 |r::rs=>match(s.toVs r).bind (M.E.dec τ),pM M s τ rs with
  |some x,some xs=>some<|x::xs
  |_,_=>none
def rF{α:Type}(n:Nat):Nat→List α→List (List α)
 |0,_=>[]
 |len+1,cs=>cs.take n::rF n len (cs.drop n)
def ze:Nat:=35184372088832
def Km{τ τ':U.Ty}(h:τ'=τ)(xs:List (U.Den τ')):List (U.Den τ):=h▸xs
def dK(M:Mc U)(s:S U):List Operand→List TypeId→Option (List<|A U)
 |[],_=>some []
 |x::xs,ts=>match s.evT M (ts.headD 0) x,dK M s xs ts.tail with
  |some (.one a),some al=>some<|a::al
  |_,_=>none
def nS:List (A U)→AV U
 |[a]=>.one a
 |al=>.tup al
def lf:List (A U)→Option (List Int)
 |[]=>some []
 | .c (.s<|.int .i64 n)::r=>(lf r).map (n::·)
 |_=>none
def Ob.spent(o:Ob U):Ob U:=
 match o.fr with
 |none=>{o with live:=false}
 |some _=>⟨o.ver+1,o.τ,[],none,false⟩
def Ob.frozen(o:Ob U):Nat:=match o.fr with|none=>o.xs.length|some j=>j
def Bi(s:S U)(M:Mc U)(d:Nat)(tx:TypeId)(x y:AV U):Option (Res U):=
 match y with
 | .one (.c cy)=>match M.ti tx,s.lst cy,s.nver (s.okey d)with
  | .sl _ τ₀ bytes,some ⟨τ',ys⟩,some ver=>
   match x with
   | .one (.c<|.sl τ xs true)=>match U.deq τ' τ,U.deq τ₀ τ with
    | .isTrue h,.isTrue _=>some ⟨[(xs.length+ys.length)*bytes≤ze],.one<|.c<|.ob (s.okey d) ver,[],[(s.okey d,some ⟨ver,τ,xs++Km h ys,some xs.length,true⟩)]⟩
    |_,_=>none
   | .one (.c<|.ob k v)=>match s.obAt k v with
    |some o=>match o.live with
     |true=>match U.deq τ' o.τ,U.deq τ₀ o.τ with
      | .isTrue h,.isTrue _=>some ⟨[(o.xs.length+ys.length)*bytes≤ze],.one<|.c<|.ob (s.okey d) ver,[],[(k,some o.spent),(s.okey d,some ⟨ver,o.τ,o.xs++Km h ys,some o.frozen,true⟩)]⟩
      |_,_=>none
     |false=>none
    |none=>none
   |_=>none
  |_,_,_=>none
 |_=>none
def iJ(s:S U)(M:Mc U)(o:Oper)(b:Builtin)(c:Call):Option (Res U):=
 match b with
 | .len=>match c.args.toList,c.argTypes.toList with
  |[x],[t]=>match s.ev M x,M.ti t with
   |some (.one<|.c<|.s<|.string b),.str=>ok<|.one<|.c<|.s<|.int .i64 (b.size:Nat)
   |some (.one<|.c cx),.sl _ _ _=>match s.lst cx with
    |some ⟨_,xs⟩=>ok<|.one<|.c<|.s<|.int .i64 (xs.length:Nat)
    |none=>none
   |_,_=>none
  |_,_=>none
 | .append=>match c.args.toList,c.argTypes.toList,o.dst with
  |[x,y],[tx,ty],some d=>match s.evT M tx x,s.evT M ty y,M.ti ty with
   |some vx,some vy,.sl _ _ _=>Bi s M d tx vx vy
   |_,_,_=>none
  |_,_,_=>none
 | .min=>match(dK M s c.args.toList c.argTypes.toList).bind lf with
  |some (n::r)=>ok<|.one<|.c<|.s<|.int .i64<|r.foldl (fun a b=>if b<a then b else a) n
  |_=>none
 | .max=>match(dK M s c.args.toList c.argTypes.toList).bind lf with
  |some (n::r)=>ok<|.one<|.c<|.s<|.int .i64<|r.foldl (fun a b=>if a<b then b else a) n
  |_=>none
 |_=>none
def C.ret(q:Nat)(vers:List Nat):C U→Option (C U)
 | .s x=>some<|.s x
 | .sl τ xs f=>some<|.sl τ xs f
 | .ob j 0=>match vers[j]? with|some v=>some (.ob (q+j) v)|none=>none
 | .fv φ=>some<|.fv φ
 |_=>none
def Cs.ret(q:Nat)(vers:List Nat):List (C U)→Option (List<|C U)
 |[]=>some []
 |c::cs=>match c.ret q vers,Cs.ret q vers cs with
  |some x,some xs=>some<|x::xs
  |_,_=>none
def A.ret(q:Nat)(vers:List Nat):A U→Option (A U)
 | .c x=>match x.ret q vers with|some y=>some (.c y)|none=>none
 | .agg cs=>match Cs.ret q vers cs with|some ys=>some (.agg ys)|none=>none
 | .top=>none
def As.ret(q:Nat)(vers:List Nat):List (A U)→Option (List<|A U)
 |[]=>some []
 |a::l=>match a.ret q vers,As.ret q vers l with
  |some x,some xs=>some<|x::xs
  |_,_=>none
def C.scal:C U→Bool
 | .s _=>true
 |_=>false
def A.scal:A U→Bool
 | .c x=>x.scal
 | .agg cs=>cs.all C.scal
 | .top=>false
def S.vers(s:S U)(q:Nat):List (Ob U)→Option (List Nat)
 |[]=>some []
 |_::r=>match s.nver q,s.vers (q+1) r with
  |some v,some vs=>some<|v::vs
  |_,_=>none
def fe(q:Nat):List (Ob U)→List Nat→List (Nat×Option (Ob U))
 |o::r,v::vs=>(q,some {o with ver:=v})::fe (q+1) r vs
 |_,_=>[]
def Kn(M:Mc U)(s:S U)(d:Nat)(F:au U)(al:List (A U)):Option (Res U):=
 match s.toDs al with
 |some ds=>match F ds with
  |some (ob,rs,os)=>if os.length≤4 then match s.vers (s.okey d) os with
   |some vers=>match As.ret (s.okey d) vers rs with
    |some rs'=>match rs.all A.scal,os with
     |true,[]=>some ⟨ob,nS rs',[],[]⟩
     |_,os=>some ⟨ob,nS rs',[],s.frz (As.obs al)++fe (s.okey d) os vers⟩
    |none=>none
   |none=>none else none
  |none=>none
 |none=>none
def D0.scal:D0 U→Bool
 | .v (.s _)=>true
 | .agg xs=>xs.all fun| .s _=>true| .dat _ _=>false
 |_=>false
def Ko(s:S U)(φ:FV U)(al:List (A U)):Option (Res U):=
 match s.toD0s al with
 |some ds=>match φ ds with
  |some (ob,rs)=>some ⟨ob,nS<|rs.map D0.toA,[],match rs.all D0.scal with|true=>[]|false=>s.frz<|As.obs al⟩
  |none=>none
 |none=>none
def eI:List Nat→List Nat→Bool
 |[],_=>false
 |x::l,r=>r.any (Nat.beq x)||eI l r
def du:List Nat→Bool
 |[]=>true
 |x::l=>!l.any (Nat.beq x)&&du l
def bX(k:Nat):List Nat→Nat→Option Nat
 |[],_=>none
 |x::r,j=>match Nat.beq x k with|true=>some j|false=>bX k r<|j+1
def C.pass(s:S U)(ks oks:List Nat):C U→C U
 | .s x=>.s x
 | .sl τ xs f=>.sl τ xs f
 | .ob k v=>match s.obAt k v,bX k oks 0 with|some _,some j=>.ob j 0|_,_=>.top
 | .em k v i off=>match s.obAt k v,bX k oks 0 with|some _,some j=>.em j 0 i off|_,_=>.top
 | .bx k off=>match bX k ks 0 with|some i=>.bx i off|none=>.top
 | .el τ xs i off=>.el τ xs i off
 | .fv φ=>.fv φ
 | .fc _ _=>.top
 | .top=>.top
def rG(ks:List Nat):List Nat→Option (List Nat)
 |[]=>some []
 |k::r=>match bX k ks 0,rG ks r with
  |some i,some l=>some<|i::l
  |_,_=>none
def pt(s:S U)(ks oks:List Nat)(m:Bool):A U→Option (A U)
 | .agg cs=>match s.toVs cs with|some ds=>some (.agg<|ds.map C.ofV)|none=>none
 | .c x=>match m,x with
  |_,.bx k off=>match bX k ks 0 with|some i=>some (.c<|.bx i off)|none=>none
  |_,.fv φ=>some<|.c<|.fv φ
  |_,.fc f caps=>match rG ks caps with|some is=>some (.c<|.fc f is)|none=>none
  |true,x=>some<|.c<|x.pass s ks oks
  |false,x=>match s.toV x with|some d=>some (.c<|C.ofV d)|none=>none
 | .top=>none
def pu(s:S U)(ks oks:List Nat):List Bool→List (A U)→Option (List<|A U)
 |_,[]=>some []
 |ms,a::l=>match pt s ks oks (ms.headD false) a,pu s ks oks ms.tail l with
  |some x,some xs=>some<|x::xs
  |_,_=>none
def As.bxs:List (A U)→List Nat
 |[]=>[]
 | .c (.bx k _)::l=>k::As.bxs l
 | .c (.fc _ ks)::l=>ks++As.bxs l
 |_::l=>As.bxs l
def S.curs(s:S U):List (C U)→List Nat
 |[]=>[]
 | .ob k v::r=>(match s.obAt k v with|some _=>[k]|none=>[])++s.curs r
 |_::r=>s.curs r
def S.cursB(s:S U):List (Bool×List (C U))→List Nat
 |[]=>[]
 |b::r=>s.curs b.2++s.cursB r
def rH(s:S U)(own m:Bool)(a:A U):List Nat:=
 match own,m,a with
 |true,true,.c x=>s.curs [x]
 |false,true,.agg cs=>Cs.obs cs
 |false,false,a=>a.obs
 |_,_,_=>[]
def dM(s:S U)(own:Bool):List Bool→List (A U)→List Nat
 |_,[]=>[]
 |ms,a::l=>rH s own (ms.headD false) a++dM s own ms.tail l
def S.boxesAt(s:S U):List Nat→Option (List<|Bool×List (C U))
 |[]=>some []
 |k::ks=>match s.bx[k]?,s.boxesAt ks with
  |some (some b),some bs=>some<|b::bs
  |_,_=>none
def S.passed(s:S U):List Nat→Option (List<|Ob U)
 |[]=>some []
 |k::ks=>match s.ob[k]?,s.passed ks with
  |some (some o),some os=>some<|{o with ver:=0}::os
  |_,_=>none
def S.spents(s:S U):List Nat→List (Nat×Option (Ob U))
 |[]=>[]
 |k::ks=>match s.ob[k]? with
  |some (some o)=>(k,some o.spent)::s.spents ks
  |_=>s.spents ks
def C.back(ks:List Nat)(q:Nat)(vers:List Nat):C U→C U
 | .ob j 0=>match vers[j]? with|some v=>.ob (q+j) v|none=>.top
 | .ob _ _=>.top
 | .em _ _ _ _=>.top
 | .bx i off=>match ks[i]? with|some k=>.bx k off|none=>.top
 | .fc _ _=>.top
 |c=>c
def A.back(ks:List Nat)(q:Nat)(vers:List Nat):A U→A U
 | .c x=>.c<|x.back ks q vers
 | .agg cs=>.agg<|cs.map<|C.back ks q vers
 | .top=>.top
def rI(ks:List Nat)(q:Nat)(vers:List Nat):List Nat→List (Bool×List (C U))→List (Nat×Option (Bool×List (C U)))
 |k::r,b::bs=>(k,some (b.1,b.2.map<|C.back ks q vers))::rI ks q vers r bs
 |_,_=>[]
def rJ(s:S U)(d:Nat)(F:fS U)(ms:List Bool)(al:List (A U)):Option (Res U):=
 match s.boxesAt (As.bxs al)with
 |some bs=>match du (As.bxs al)&&du (dM s true ms al++s.cursB bs)&& !eI (dM s true ms al++s.cursB bs) (dM s false ms al)with
  |true=>match s.passed (dM s true ms al++s.cursB bs),pu s (As.bxs al) (dM s true ms al++s.cursB bs) ms al with
   |some os,some al'=>match F al' (bs.map fun b=>(b.1,b.2.map<|C.pass s (As.bxs al)<|dM s true ms al++s.cursB bs)) os with
    |some (ob,rs,bs',os')=>if bs'.length=bs.length∧os'.length≤4 then match s.vers (s.okey d) os' with
     |some vers=>some ⟨ob,nS<|rs.map<|A.back (As.bxs al) (s.okey d) vers,rI (As.bxs al) (s.okey d) vers (As.bxs al) bs',s.frz (dM s false ms al)++s.spents (dM s true ms al++s.cursB bs)++fe (s.okey d) os' vers⟩
     |none=>none else none
    |none=>none
   |_,_=>none
  |false=>none
 |none=>none
def uj(k:Nat):List (C U)→Nat→List (Nat×Nat)
 |[],_=>[]
 | .sl _ [] true::r,i=>(k,i)::uj k r (i+1)
 |_::r,i=>uj k r<|i+1
def S.nils(s:S U):List Nat→List (Nat×Nat)
 |[]=>[]
 |k::ks=>(match s.bx[k]? with|some (some (_,cells))=>uj k cells 0|_=>[])++s.nils ks
def rK(d:Nat)(F:fS U)(ms:List Bool)(al:List (A U)):List (Nat×Nat)→Nat→S U→Option (Res U)
 |[],_,s=>rJ s d F ms al
 |(k,i)::r,j,s=>match s.bx[k]?,s.nver<|s.okey d+j,Nat.blt j 4 with
  |some (some (fz,cells)),some ver,true=>match cells[i]? with
   |some (.sl τ [] true)=>match rK d F ms al r (j+1) {s with bx:=s.bx.set k<|some (fz,cells.set i<|.ob (s.okey d+j) ver),ob:=s.ob.set (s.okey d+j)<|some ⟨ver,τ,[],some 0,true⟩}with
    |some res=>some {res with bw:=(k,some (fz,cells.set i<|.ob (s.okey d+j) ver))::res.bw,ow:=(s.okey d+j,some ⟨ver,τ,[],some 0,true⟩)::res.ow}
    |none=>none
   |_=>none
  |_,_,_=>none
def rL(s:S U)(d:Nat)(F:fS U)(ms:List Bool)(al:List (A U)):Option (Res U):=
 match rJ s d F ms al with
 |some r=>some r
 |none=>rK d F ms al (s.nils<|As.bxs al) 0 s
def ny(s:S U)(F:mh U):List (A U)→Option (Res U)
 | .c (.ob k v)::al=>match s.obAt k v,s.toDs al with
  |some o,some ds=>match o.fr,(As.obs al).any (Nat.beq k)with
   |some 0,false=>match F o.τ o.xs ds with
    |some (ob,ys)=>some ⟨ob,.tup [],[],s.frz (As.obs al)++[(k,some {o with xs:=ys})]⟩
    |none=>none
   |_,_=>none
  |_,_=>none
 |_=>none
def sH(M:Mc U)(s:S U)(o:Oper)(c:Call):Option (Res U):=
 match c.callee with
 | .builtin b=>iJ s M o b c
 | .value (.func f)=>match M.fns f,dK M s c.args.toList c.argTypes.toList,o.dst with
  |some F,some al,some d=>Kn M s d F al
  |none,some al,some d=>match M.gns f with
   |some (ms,F)=>rL s d F ms al
   |none=>match M.ups f with
    |some F=>ny s F al
    |none=>none
  |none,some al,none=>match M.ups f with
   |some F=>ny s F al
   |none=>none
  |_,_,_=>none
 | .value (.tmp t)=>match s.tm[t]?,dK M s c.args.toList c.argTypes.toList with
  |some (.one<|.c<|.fv φ),some al=>Ko s φ al
  |some (.one<|.c<|.fc f ks),some al=>match M.gns f,o.dst with
   |some (ms,F),some d=>rL s d F ms<|al++ks.map fun k=>.c<|.bx k 0
   |_,_=>none
  |_,_=>none
 |_=>none
def bnd:Option (AV U)→Option Int
 |some (.one<|.c<|.s<|.int _ n)=>some n
 |_=>none
def kQ(s:S U)(M:Mc U):Option Operand→Option (Option Int)
 |none=>some none
 |some x=>match bnd (s.ev M x)with|some n=>some (some n)|none=>none
def yS(s:S U)(ti:TI U)(x:AV U)(lo hi mx:Option Int):Option (Res U):=
 match ti,x with
 | .sl _ τ₀ _,.one (.c cx)=>match s.lst cx with
  |some ⟨τ,xs⟩=>if U.sz τ₀=U.sz τ then
   let ow:=s.frz cx.obs;let full:=match cx with| .sl _ _ f=>f|_=>false
   match lo,hi,mx with
   |none,none,none=>some ⟨[],.one<|.c cx,[],[]⟩
   |some l,none,none=>some ⟨[0≤l∧l≤(xs.length:Int)],.one<|.c<|.sl τ (xs.drop l.toNat) full,[],ow⟩
   |none,some h,none=>some ⟨[0≤h∧h≤(xs.length:Int)],.one<|.c<|.sl τ (xs.take h.toNat) false,[],ow⟩
   |some l,some h,none=>some ⟨[0≤l∧l≤h∧h≤(xs.length:Int)],.one<|.c<|.sl τ ((xs.take h.toNat).drop l.toNat) false,[],ow⟩
   |none,some h,some m=>some ⟨[0≤h∧h=m∧m≤(xs.length:Int)],.one<|.c<|.sl τ (xs.take h.toNat) true,[],ow⟩
   |some l,some h,some m=>some ⟨[0≤l∧l≤h∧h=m∧m≤(xs.length:Int)],.one<|.c<|.sl τ ((xs.take h.toNat).drop l.toNat) true,[],ow⟩
   |_,_,_=>none
   else none
  |none=>none
 | .str,.one (.c<|.s<|.string b)=>
  match lo,hi,mx with
  |none,none,none=>ok<|.one<|.c<|.s<|.string b
  |some l,none,none=>some ⟨[0≤l∧l≤(b.size:Int)],.one<|.c<|.s<|.string<|b.extract l.toNat b.size,[],[]⟩
  |none,some h,none=>some ⟨[0≤h∧h≤(b.size:Int)],.one<|.c<|.s<|.string<|b.extract 0 h.toNat,[],[]⟩
  |some l,some h,none=>some ⟨[0≤l∧l≤h∧h≤(b.size:Int)],.one<|.c<|.s<|.string<|b.extract l.toNat h.toNat,[],[]⟩
  |_,_,_=>none
 |_,_=>none
def kg(M:Mc U)(s:S U)(p:C U)(cs:List (C U)):Option (Res U):=
 match p with
 | .bx k off=>match s.bx[k]? with
  |some (some (false,cells))=>if off+cs.length≤cells.length then
   match eI (Cs.obs cs) (Cs.obs<|cells.take off++cells.drop (off+cs.length))with
   |false=>some ⟨[],.undef,[(k,some (false,cells.take off++cs++cells.drop (off+cs.length)))],[]⟩
   |true=>match s.toVs cs with
    |some vs=>some ⟨[],.undef,[(k,some (false,cells.take off++vs.map C.ofV++cells.drop (off+cs.length)))],s.frz<|Cs.obs cs⟩
    |none=>none
   else none
  |_=>none
 | .em k v i off=>match s.obAt k v,s.toVs cs with
  |some o,some vs=>match o.fr with
   |some j=>if off+vs.length≤U.sz o.τ∧¬k∈Cs.obs cs then
    match M.E.dec o.τ ((M.E.enc o.τ<|o.xs.getD i<|U.dflt o.τ).take off++vs++(M.E.enc o.τ<|o.xs.getD i<|U.dflt o.τ).drop (off+vs.length))with
    |some y=>some ⟨[j≤i],.undef,[],s.frz (Cs.obs cs)++[(k,some {o with xs:=o.xs.set i y})]⟩
    |none=>none
    else none
   |none=>none
  |_,_=>none
 |_=>none
def kh(s:S U)(M:Mc U):List Operand→Option (List Nat)
 |[]=>some []
 |x::r=>match s.ev M x,kh s M r with
  |some (.one<|.c<|.bx k 0),some ks=>some<|k::ks
  |_,_=>none
def S.caps(s:S U):List Nat→Option (List (List<|DC U)×List (Nat×Option (Bool×List (C U)))×List (Nat×Option (Ob U)))
 |[]=>some ([],[],[])
 |k::ks=>match s.bx[k]?,s.caps ks with
  |some (some (_,cells)),some (dl,bw,ow)=>match s.toDCs cells with
   |some dcs=>some (dcs::dl,(k,some (true,cells))::bw,s.frz (Cs.obs cells)++ow)
   |none=>none
  |_,_=>none
def Kp(M:Mc U)(s:S U)(f:FuncId)(captured:List Operand):Option (Res U):=
 match kh s M captured with
 |some ks=>match M.clo f with
  |none=>ok<|.one<|.c<|.fc f ks
  |some F=>match s.caps ks with
   |some (dl,bw,ow)=>match F dl with
    |some φ=>some ⟨[],.one<|.c<|.fv φ,bw,ow⟩
    |none=>none
   |none=>none
 |none=>none
def yT(M:Mc U)(s:S U)(d:Nat)(t:TypeId)(len cap:AV U):Option (Res U):=
 match len,cap,M.ti t with
 | .one (.c<|.s<|.int .i64 n),.one<|.c<|.s<|.int .i64 c,.sl e τ bytes=>match M.zero e,s.nver (s.okey d)with
  |some z,some ver=>if z.length=U.sz τ then match(s.toVs z).bind (M.E.dec τ)with
   |some x=>some ⟨[0≤n∧n≤c∧c.toNat*bytes≤ze],.one<|.c<|.ob (s.okey d) ver,[],[(s.okey d,some ⟨ver,τ,List.replicate n.toNat x,some 0,true⟩)]⟩
   |none=>none else none
  |_,_=>none
 |_,_,_=>none
def aT(M:Mc U)(s:S U)(o:Oper):Option (Res U):=
 match o.op with
 | .move x| .assign x=>pK<|s.evT M o.type x
 | .pick c a b=>match s.ev M c with
  |some (.one<|.c<|.s<|.bool x)=>pK (match x with|true=>s.evT M o.type a|false=>s.evT M o.type b)
  |_=>none
 | .alloc t=>match M.zero t,o.dst with
  |some cs,some d=>match s.bx[s.key d]? with
   |some none=>some ⟨[],.one<|.c<|.bx (s.key d) 0,[(s.key d,some (false,cs))],[]⟩
   |_=>none
  |_,_=>none
 | .box t x=>match(s.evT M t x).bind AV.cells,o.dst with
  |some cs,some d=>match s.bx[s.key d]? with
   |some none=>some ⟨[],.one<|.c<|.bx (s.key d) 0,[(s.key d,some (false,cs))],[]⟩
   |_=>none
  |_,_=>none
 | .build t ps=>match M.zero t,M.ti t,pL M s ps.toList with
  |some z,.st fs n,some l=>if z.length=n then match iH (fun i=>(fs[i]?).map fun f=>(f.1,f.2.1)) z l with
   |some cs=>ok<|.one<|.agg cs
   |none=>none else none
  |some z,.ar len esz _,some l=>if z.length=len*esz then match iH (fun i=>some (i*esz,esz)) z l with
   |some cs=>ok<|.one<|.agg cs
   |none=>none else none
  |_,_,_=>none
 | .buildSlice t len ps=>match M.ti t,o.dst with
  | .sl e τ bytes,some d=>match M.zero e,partsK M s e ps.toList,s.nver (s.okey d)with
   |some z,some l,some ver=>if z.length=U.sz τ∧len*U.sz τ≤4096∧0<U.sz τ then match iH (fun i=>some (i*U.sz τ,U.sz τ)) ((List.replicate len z).flatten) l with
    |some cs=>match pM M s τ (rF (U.sz τ) len cs)with
     |some xs=>some ⟨[],.one<|.c<|.ob (s.okey d) ver,[],s.frz (Cs.obs cs)++[(s.okey d,some ⟨ver,τ,xs,some 0,true⟩)]⟩
     |none=>none
    |none=>none else none
   |_,_,_=>none
  |_,_=>none
 | .load t a=>match s.ev M a with
  |some (.one<|.c p)=>match(M.ti t).shape with
   |some (agg,n)=>match s.at M p n with
    |some cs=>pK<|pr agg cs
    |none=>none
   |none=>none
  |_=>none
 | .store t a x=>match s.ev M a,(s.evT M t x).bind AV.cells,o.dst with
  |some (.one<|.c p),some cs,none=>match(M.ti t).shape with
   |some (_,n)=>if cs.length=n then kg M s p cs else none
   |none=>none
  |_,_,_=>none
 | .nilCheck x=>match s.ev M x with
  |some (.one<|.c<|.bx k off)=>ok<|.one<|.c<|.bx k off
  |some (.one<|.c<|.el τ xs i off)=>ok<|.one<|.c<|.el τ xs i off
  |some (.one<|.c<|.em k v i off)=>match s.obAt k v with|some _=>ok (.one<|.c<|.em k v i off)|none=>none
  |some (.one<|.c<|.fv φ)=>ok<|.one<|.c<|.fv φ
  |_=>none
 | .binOp op t x y _=>match s.ev M x,s.ev M y with
  |some (.one<|.c<|.s<|.bool a),some (.one<|.c<|.s<|.bool b)=>match op,M.ti t with
   | .eql,.bool=>ok<|.one<|.c<|.s<|.bool<|a==b
   | .neq,.bool=>ok<|.one<|.c<|.s<|.bool<|!(a==b)
   |_,_=>none
  |some (.one<|.c<|.s .nilFunc),some (.one<|.c<|.s .nilFunc)=>match op,M.ti t with
   | .eql,.fn=>ok<|.one<|.c<|.s<|.bool true
   | .neq,.fn=>ok<|.one<|.c<|.s<|.bool false
   |_,_=>none
  |some (.one<|.c<|.fv _),some (.one<|.c<|.s .nilFunc)=>match op,M.ti t with
   | .eql,.fn=>ok<|.one<|.c<|.s<|.bool false
   | .neq,.fn=>ok<|.one<|.c<|.s<|.bool true
   |_,_=>none
  |some (.one<|.c<|.s a),some (.one<|.c<|.s b)=>match yR op a b with
   |some (ob,v)=>some ⟨ob,.one<|.c<|.s v,[],[]⟩
   |none=>none
  |some (.one<|.agg cs),some (.one<|.agg ds)=>Rx M op t cs ds
  |_,_=>none
 | .unOp op _ x=>match op,s.ev M x with
  | .not,some (.one<|.c<|.s<|.bool b)=>ok<|.one<|.c<|.s<|.bool<|!b
  | .neg,some (.one<|.c<|.s<|.int k n)=>ok<|.one<|.c<|.s<|.int k<|k.wrap<|0- n
  |_,_=>none
 | .convert src dst x=>match M.ti src,M.ti dst,s.ev M x with
  | .int _,.int k,some (.one<|.c<|.s<|.int _ n)=>ok<|.one<|.c<|.s<|.int k<|k.wrap n
  |_,_,_=>none
 | .slice t x lo hi mx=>match s.ev M x,kQ s M lo,kQ s M hi,kQ s M mx with
  |some v,some l,some h,some m=>yS s (M.ti t) v l h m
  |_,_,_,_=>none
 | .fieldAddr t x f=>match s.ev M x,M.ti t with
  |some (.one<|.c p),.st fs _=>match fs[f]? with
   |some d=>match s.move d.1 p with
    |some q=>ok<|.one<|.c q
    |none=>none
   |none=>none
  |_,_=>none
 | .field t x f=>match s.ev M x,M.ti t with
  |some (.one<|.agg cs),.st fs n=>match fs[f]? with
   |some d=>if cs.length=n∧d.1+d.2.1≤n then pK (pr d.2.2<|(cs.drop d.1).take d.2.1)else none
   |none=>none
  |_,_=>none
 | .indexAddr t x i=>match s.ev M x,s.ev M i,M.ti t with
  |some (.one<|.c<|.sl τ xs _),some<|.one<|.c<|.s<|.int _ n,.sl _ τ₀ _=>if U.sz τ₀=U.sz τ then some ⟨[0≤n∧n<(xs.length:Int)],.one<|.c<|.el τ xs n.toNat 0,[],[]⟩else none
  |some (.one<|.c<|.ob k v),some<|.one<|.c<|.s<|.int _ n,.sl _ τ₀ _=>match s.obAt k v with
   |some o=>if U.sz τ₀=U.sz o.τ then some ⟨[0≤n∧n<(o.xs.length:Int)],.one<|.c<|.em k v n.toNat 0,[],[]⟩else none
   |none=>none
  |some (.one<|.c<|.bx k off),some<|.one<|.c<|.s<|.int _ n,.ar len esz _=>if 0≤n∧n<(len:Int)then ok (.one<|.c<|.bx k<|off+n.toNat*esz)else none
  |some (.one<|.c<|.el τ xs j off),some<|.one<|.c<|.s<|.int _ n,.ar len esz _=>if 0≤n∧n<(len:Int)then ok (.one<|.c<|.el τ xs j<|off+n.toNat*esz)else none
  |_,_,_=>none
 | .index t x i=>match s.ev M x,s.ev M i,M.ti t with
  |some (.one<|.c<|.s<|.string b),some<|.one<|.c<|.s<|.int _ n,.str=>some ⟨[0≤n∧n<(b.size:Int)],.one<|.c<|.s<|.int .u8 ((b.toList.getD n.toNat 0).toNat:Nat),[],[]⟩
  |_,_,_=>none
 | .extract t j=>match s.ev M t with
  |some (.tup al)=>match al[j]? with
   |some a=>ok<|.one a
   |none=>none
  |_=>none
 | .makeSlice t len cap=>match s.ev M len,s.ev M cap,o.dst with
  |some l,some c,some d=>yT M s d t l c
  |_,_,_=>none
 | .makeFunc (.func f) first captured=>match first.toList with
  |[]=>Kp M s f captured.toList
  |_=>none
 | .call c=>sH M s o c
 |_=>none
def S.upd(s:S U)(dst:Option Nat)(r:Res U):S U:=
 {s with tm:=(match dst with|some d=>s.tm.set d r.v|none=>s.tm),bx:=aH s.bx r.bw,ob:=aH s.ob r.ow}
def yU:Res U:=⟨[],.undef,[],[]⟩
def Kq(o:Op):List Nat:=o.operands.toList.filterMap fun| .tmp t=>some t|_=>none
def Dr(ops:List Oper)(o:Oper):List Nat:=
 match o.guard with
 |none=>[]
 |some (j,_)=>match(ops[j]?).bind (·.dst)with|some d=>[d]|none=>[]
def S.obsX(s:S U):Operand→List Nat
 | .tmp t=>match s.tm[t]? with|some v=>v.obs|none=>[]
 |_=>[]
def S.obsXs(s:S U):List Operand→List Nat
 |[]=>[]
 |x::r=>s.obsX x++s.obsXs r
def S.bxX(s:S U):Operand→List Nat
 | .tmp t=>match s.tm[t]? with|some (.one<|.c<|.bx k _)=>[k]|some (.one<|.c<|.fc _ ks)=>ks|_=>[]
 |_=>[]
def S.bxXs(s:S U):List Operand→List Nat
 |[]=>[]
 |x::r=>s.bxX x++s.bxXs r
def S.capX(s:S U)(c:Call):List Nat:=
 match c.callee with
 | .value (.tmp t)=>match s.tm[t]? with|some (.one<|.c<|.fc _ ks)=>ks|_=>[]
 |_=>[]
def S.boxObs(s:S U):List Nat→List Nat
 |[]=>[]
 |k::r=>(match s.bx[k]? with|some (some (_,cells))=>Cs.obs cells|_=>[])++s.boxObs r
structure Fp where
 rs:List Nat
 rb:List Nat
 ro:List Nat
 ws:List Nat
 wb:List Nat
 wo:List Nat
def S.readB(s:S U)(o:Oper):List Nat:=
 match o.op with
 | .alloc _| .box _ _=>match o.dst with|some d=>[s.key d]|none=>[]
 | .load _ a| .store _ a _=>s.bxX a
 | .makeFunc _ _ captured=>s.bxXs captured.toList
 | .call c=>s.bxXs c.args.toList++s.capX c
 |_=>[]
def Mc.zobs(M:Mc U)(t:TypeId):List Nat:=
 match M.ti t with
 | .sl e _ _=>match M.zero e with|some z=>Cs.obs z|none=>[]
 |_=>[]
def S.readO(M:Mc U)(s:S U)(o:Oper):List Nat:=
 match o.op with
 | .load _ a=>s.obsX a
 | .store _ a x=>s.obsX a++(match s.obsX a,eI (s.obsX x) (s.boxObs<|s.bxX a)with|[],false=>[]|_,_=>s.obsX x)
 | .buildSlice t _ ps=>(match o.dst with|some d=>[s.okey d]|none=>[])++s.obsXs (ps.toList.map (·.2))++M.zobs t
 | .makeSlice t _ _=>(match o.dst with|some d=>[s.okey d]|none=>[])++M.zobs t
 | .slice _ x _ _ _=>s.obsX x
 | .indexAddr _ x _=>s.obsX x
 | .nilCheck x=>s.obsX x
 | .fieldAddr _ x _=>s.obsX x
 | .makeFunc _ _ captured=>s.boxObs<|s.bxXs captured.toList
 | .call c=>(match o.dst with|some d=>[s.okey d,s.okey d+1,s.okey d+2,s.okey d+3]|none=>[])++s.obsXs c.args.toList++s.boxObs (s.bxXs c.args.toList++s.capX c)
 |_=>[]
def S.fp(M:Mc U)(s:S U)(ops:List Oper)(o:Oper)(r:Res U):Fp:=
 ⟨Kq o.op++Dr ops o,s.readB o,s.readO M o,o.dst.toList,r.bw.map (·.1),r.ow.map (·.1)⟩
def S.fp0(ops:List Oper)(o:Oper):Fp:=⟨Dr ops o,[],[],o.dst.toList,[],[]⟩
def Fp.clash(a b:Fp):Bool:=
 eI a.ws b.rs||eI a.ws b.ws||eI a.wb b.rb||eI a.wb b.wb||eI a.wo b.ro||eI a.wo b.wo||
 eI a.rs b.ws||eI a.rb b.wb||eI a.ro b.wo
def Ds(bs:List Nat)(j:Nat)(fj:Fp):Nat→List Fp→Bool
 |_,[]=>true
 |i,f::fs=>(!(f.clash fj)||Nat.testBit (bs.getD j 0) i)&&Ds bs j fj (i+1) fs
def yV(bs:List Nat):Nat→List Fp→List Fp→Bool
 |_,_,[]=>true
 |j,done,f::fs=>Ds bs j f 0 done&&yV bs (j+1) (done++[f]) fs
def bv(b:Bool)(X Y:Prop):Prop:=match b with|true=>X|false=>Y
def obs:List Prop→Prop→Prop
 |[],K=>K
 |p::ps,K=>p∧obs ps K
def nU(ops:List Oper)(s:S U)(o:Oper):Option Bool:=
 match o.guard with
 |none=>some true
 |some (j,want)=>match(ops[j]?).bind (·.dst)with
  |none=>none
  |some d=>match s.tm[d]? with
   |some (.one<|.c<|.s<|.bool x)=>some<|x==want
   |some .undef=>some false
   |_=>none
def Ry(ops:List Oper)(i:Nat):Bool:=ops.any fun o=>match o.guard with|some (j,_)=>j==i|none=>false
def Rz(ops:List Oper)(i:Nat)(o:Oper)(s:S U)(r:Res U)(K:S U→Prop):Prop:=
 obs r.ob (match Ry ops i,r.v with
  |true,.one (.c<|.s<|.bool x)=>bv x (K<|s.upd o.dst {r with v:=.one<|.c<|.s<|.bool true})<|K<|s.upd o.dst {r with v:=.one<|.c<|.s<|.bool false}
  |_,_=>K (s.upd o.dst r))
def pN(M:Mc U)(ops:List Oper):List Oper→Nat→S U→List Fp→(S U→List Fp→Prop)→Prop
 |[],_,s,fs,K=>K s fs
 |o::rest,i,s,fs,K=>
  match nU ops s o with
  |some true=>match aT M s o with
   |some r=>Rz ops i o s r fun s'=>pN M ops rest (i+1) s' (s.fp M ops o r::fs) K
   |none=>False
  |some false=>pN M ops rest (i+1) (s.upd o.dst yU) (S.fp0 ops o::fs) K
  |none=>False
def pO(done:List Nat):List Edge→Nat
 |[]=>0
 |e::r=>if Region.binds .any e then pO done r|||2 ^e.on|||done.getD e.on 0 else pO done r
def lg:List Oper→List Nat→List Nat
 |[],done=>done
 |o::r,done=>lg r<|done++[pO done o.after.toList]
def uk:Nat→List Oper→Bool
 |_,[]=>true
 |i,o::r=>o.after.toList.all (fun e=>!Region.binds .any e||Nat.blt e.on i)&&uk (i+1) r
def Kr(b:Bool)(X:Prop):Prop:=match b with|true=>X|false=>False
def Ks(M:Mc U)(ops:Array Oper)(drawn:Bool)(s:S U)(K:S U→Prop):Prop:=
 pN M ops.toList ops.toList 0 s [] fun s' fs=>match drawn with
  |false=>K s'
  |true=>Kr (uk 0 ops.toList&&yV (lg ops.toList []) 0 [] fs.reverse)<|K s'
inductive Pos
 |sl (d:Nat)
 |cell (k i:Nat)
structure NS where
 ts:List Bool
 bs:List Bool
 nm:List (Pos×Nat)
 gb:List Nat:=[]
 gs:List Nat:=[]
 cs:Bool:=false
def S.refAt(s:S U):Pos→Option (C U)
 | .sl d=>match s.tm[d]? with|some (.one<|.c x)=>some x|_=>none
 | .cell k i=>match s.bx[k]? with|some (some (_,cells))=>cells[i]?|_=>none
def S.setRef(s:S U)(c:C U):Pos→S U
 | .sl d=>{s with tm:=s.tm.set d<|.one<|.c c}
 | .cell k i=>match s.bx[k]? with|some (some (fz,cells))=>{s with bx:=s.bx.set k<|some (fz,cells.set i c)}|_=>s
def S.objNil(s:S U)(p:Pos)(q:Nat):Option (S U):=
 match s.refAt p with
 |some (.sl τ [] true)=>match s.nver q with
  |some ver=>some<|{s with ob:=s.ob.set q<|some ⟨ver,τ,[],some 0,true⟩}.setRef (.ob q ver) p
  |none=>none
 |some (.ob _ _)=>some s
 |_=>none
def S.objNils:List (Pos×Nat)→S U→Option (S U)
 |[],s=>some s
 |(p,q)::r,s=>match s.objNil p q with|some s1=>s1.objNils r|none=>none
def S.names(s:S U):List (Pos×Nat)→Option (List<|Nat×Nat)
 |[]=>some []
 |(p,q)::r=>match s.refAt p,s.names r with
  |some (.ob k v),some l=>match s.obAt k v with|some _=>some ((k,q)::l)|none=>none
  |_,_=>none
def C.ren(s:S U)(mp:List (Nat×Nat))(bs:List Bool):C U→C U
 | .ob k v=>match look k mp,s.obAt k v with
  |some q,some _=>.ob q 0
  |_,_=>.top
 | .em k v i off=>match look k mp,s.obAt k v with
  |some q,some _=>.em q 0 i off
  |_,_=>.top
 | .bx k off=>match bs[k]? with|some true=>.bx k off|_=>.top
 | .fc f caps=>match caps.all (fun k=>bs.getD k false)with|true=>.fc f caps|false=>.top
 |c=>c
def A.ren(s:S U)(mp:List (Nat×Nat))(bs:List Bool):A U→A U
 | .c x=>.c<|x.ren s mp bs
 | .agg cs=>.agg<|cs.map<|C.ren s mp bs
 | .top=>.top
def AV.ren(s:S U)(mp:List (Nat×Nat))(bs:List Bool):AV U→AV U
 | .one a=>.one<|a.ren s mp bs
 | .tup al=>.tup<|al.map<|A.ren s mp bs
 | .undef=>.undef
def iK{α:Type}(z:α):List Bool→List α→List α
 |_,[]=>[]
 |[],_::xs=>z::iK z [] xs
 |b::bs,x::xs=>(match b with|true=>x|false=>z)::iK z bs xs
def S.moved(s:S U):List (Nat×Nat)→List (Nat×Option (Ob U))
 |[]=>[]
 |(k,q)::r=>(q,match s.ob[k]? with|some (some o)=>some {o with ver:=0}|_=>none)::s.moved r
def S.ren(s:S U)(mp:List (Nat×Nat))(ts bs:List Bool):S U:=
 {tm:=(iK (.one .top) ts s.tm).map<|AV.ren s mp bs,bx:=(iK none bs s.bx).map<|Option.map fun x=>(x.1,x.2.map<|C.ren s mp bs),ob:=aH (List.replicate s.ob.length none)<|s.moved mp,base:=s.base}
def C.weak:C U→C U
 | .sl τ xs _=>.sl τ xs false
 |c=>c
def AV.weak:AV U→AV U
 | .one (.c x)=>.one<|.c x.weak
 |v=>v
def S.weakB:List Nat→S U→S U
 |[],s=>s
 |k::r,s=>S.weakB r {s with bx:=s.bx.modify k<|Option.map fun x=>(x.1,x.2.map C.weak)}
def S.weakS:List Nat→S U→S U
 |[],s=>s
 |d::r,s=>S.weakS r {s with tm:=s.tm.modify d AV.weak}
def S.frzB:List Nat→S U→S U
 |[],s=>s
 |k::r,s=>match s.bx[k]? with
  |some (some (fz,cells))=>match s.toVs cells with
   |some vs=>S.frzB r {s with bx:=s.bx.set k<|some (fz,vs.map C.ofV),ob:=aH s.ob<|s.frz<|Cs.obs cells}
   |none=>S.frzB r s
  |_=>S.frzB r s
def S.norm(n:NS)(s:S U):Option (S U):=
 match(s.frzB n.gb).objNils n.nm with
 |some s1=>match s1.names n.nm with
  |some mp=>match du (mp.map (·.1))&&du (mp.map (·.2))&&mp.all (fun x=>Nat.blt x.2 s1.ob.length)with
   |true=>some<|S.weakS n.gs<|S.weakB n.gb<|s1.ren mp n.ts n.bs
   |false=>none
  |none=>none
 |none=>none
def eJ:Code→Nat
 | .region id _ _=>id
 | .seq a _=>eJ a
 | .block _ c=>eJ c
 | .loop c=>eJ c
 | .scope c=>eJ c
 |_=>0
def Kt(next:S U→Prop)(Q:Exit→S U→Prop):Exit→S U→Prop
 | .normal,s=>next s
 |e,s=>Q e s
def yW(id:Nat)(Q:Exit→S U→Prop):Exit→S U→Prop
 | .exit id',s=>if id'=id then Q .normal s else Q (.exit id') s
 |e,s=>Q e s
def nV(n:NS)(K:S U→Prop)(s:S U):Prop:=match s.norm n with|some s1=>K s1|none=>False
def Ku(n:NS)(I:S U→Prop)(Q:Exit→S U→Prop):Exit→S U→Prop
 | .normal,s=>nV n I s
 |e,s=>nV n (Q e) s
def br(n:NS)(body:S U→(Exit→S U→Prop)→Prop)(Q:Exit→S U→Prop):Nat→S U→Prop
 |0,_=>False
 |k+1,s=>body s<|Ku n (br n body Q k) Q
def zw(n:NS)(body:S U→(Exit→S U→Prop)→Prop)(Q:Exit→S U→Prop)(s:S U):Prop:=∃k,br n body Q k s
def agq(n:NS)(body:S U→(Exit→S U→Prop)→Prop)(s:S U)(Q:Exit→S U→Prop):Prop:=nV n (zw n body Q) s
def S.onX(f:Bool)(c:Operand)(v:Bool)(s:S U):S U:=match f,c with
 |true,.tmp t=>{s with tm:=s.tm.set t<|.one<|.c<|.s<|.bool v}
 |_,_=>s
def aB(M:Mc U)(N:Nat→NS):Code→S U→(Exit→S U→Prop)→Prop
 | .skip,s,Q=>Q .normal s
 | .region _ ops drawn,s,Q=>Ks M ops drawn s<|Q .normal
 | .seq a b,s,Q=>aB M N a s<|Kt (fun s'=>aB M N b s' Q) Q
 | .cond c a b,s,Q=>match s.ev M c with
  |some (.one<|.c<|.s<|.bool x)=>bv x (aB M N a (s.onX (N 0).cs c true) Q)<|aB M N b (s.onX (N 0).cs c false) Q
  |_=>False
 | .block id c,s,Q=>aB M N c s<|yW id Q
 | .loop c,s,Q=>agq (N<|eJ c) (aB M N c) s Q
 | .exit id,s,Q=>Q (.exit id) s
 | .ret,s,Q=>Q .ret s
 |_,_,_=>False
def sub:Code→List Nat→Code
 |c,[]=>c
 | .seq a b,k::p=>match k with|0=>sub a p|_=>sub b p
 | .block _ c,_::p=>sub c p
 | .loop c,_::p=>sub c p
 | .cond _ a b,k::p=>match k with|3=>sub a p|_=>sub b p
 |_,_=>.skip
def bk(M:Mc U)(N:Nat→NS):Code→List Nat→(Exit→S U→Prop)→Exit→S U→Prop
 | .seq a b,k::p,Q=>match k with|0=>bk M N a p (Kt (fun s'=>aB M N b s' Q) Q)|_=>bk M N b p Q
 | .block id c,_::p,Q=>bk M N c p<|yW id Q
 | .cond _ a b,k::p,Q=>match k with|3=>bk M N a p Q|_=>bk M N b p Q
 |_,_,Q=>Q
def st(n b o base:Nat)(ts:List (Nat×AV U))(bs:List (Nat×Option (Bool×List (C U))))(os:List (Nat×Option (Ob U))):S U:=
 ⟨aH (List.replicate n<|.one .top) ts,aH (List.replicate b none) bs,aH (List.replicate o none) os,base⟩
def zh(f:Func):Code:=f.body.getD .skip
inductive Kind
 |d|o|m
def S.outD(s:S U):C U→Option (C U)
 | .s x=>some<|.s x
 | .fv φ=>some<|.fv φ
 |c=>match s.lst c with|some ⟨τ,xs⟩=>some (.sl τ xs false)|none=>some .top
def S.outDs(s:S U):List (C U)→Option (List<|C U)
 |[]=>some []
 |c::cs=>match s.outD c,s.outDs cs with
  |some x,some xs=>some<|x::xs
  |_,_=>none
def S.outA(s:S U)(k:Kind)(j:Nat)(x:A U):Option (A U×List (Option Nat×Ob U)):=
 match k,x with
 | .d,.c x=>match s.outD x with|some y=>some (.c y,[])|none=>none
 | .d,.agg cs=>match s.outDs cs with|some ys=>some (.agg ys,[])|none=>none
 | .o,.c (.sl τ [] true)=>some (.c<|.ob j 0,[(none,⟨0,τ,[],none,true⟩)])
 | .o,.c (.ob k v)=>match s.obAt k v with
  |some o=>match o.live with|true=>some (.c<|.ob j 0,[(some k,⟨0,o.τ,o.xs,none,true⟩)])|false=>none
  |none=>none
 | .m,.c (.sl τ [] true)=>some (.c<|.ob j 0,[(none,⟨0,τ,[],some 0,true⟩)])
 | .m,.c (.ob k v)=>match s.obAt k v with
  |some o=>match o.live,o.fr with|true,some 0=>some (.c<|.ob j 0,[(some k,⟨0,o.τ,o.xs,some 0,true⟩)])|_,_=>none
  |none=>none
 |_,_=>none
def S.outs(s:S U):List Kind→Nat→List (A U)→Option (List (A U)×List (Option Nat×Ob U))
 |_,_,[]=>some ([],[])
 |ks,j,x::al=>match s.outA (ks.headD .d) j x with
  |some (r,e)=>match s.outs ks.tail (j+e.length) al with
   |some (rs,es)=>some (r::rs,e++es)
   |none=>none
  |none=>none
def nz:List (Option Nat×Ob U)→List Nat
 |[]=>[]
 |(some k,_)::r=>k::nz r
 |(none,_)::r=>nz r
def iL:List Kind→List (A U)→List Nat
 |_,[]=>[]
 |ks,x::al=>(match ks.headD .d with| .m=>[]|_=>x.obs)++iL ks.tail al
def yX:List Kind→List (A U)→List Nat
 |_,[]=>[]
 |ks,x::al=>(match ks.headD .d with| .m=>x.obs|_=>[])++yX ks.tail al
def S.out(s:S U)(fm:List Kind)(al:List (A U)):Option (List (A U)×List (Ob U)):=
 match s.outs fm 0 al with
 |some (rs,es)=>match du (nz es)&& !eI (yX fm al) (iL fm al)with
  |true=>some (rs,es.map (·.2))
  |false=>none
 |none=>none
def S.res(M:Mc U)(s:S U):ResultVar→Option (A U)
 | .tmp t=>match s.tm[t]? with|some (.one a)=>some a|_=>none
 | .cell t ty=>match s.tm[t]? with
  |some (.one<|.c p)=>match(M.ti ty).shape with
   |some (agg,n)=>match s.at M p n with
    |some cs=>match pr agg cs with|some (.one a)=>some a|_=>none
    |none=>none
   |none=>none
  |_=>none
def S.ress(M:Mc U)(s:S U):List ResultVar→Option (List<|A U)
 |[]=>some []
 |r::rs=>match s.res M r,s.ress M rs with
  |some a,some al=>some<|a::al
  |_,_=>none
def ul(M:Mc U)(rv:List ResultVar)(fm:List Kind)(K:List (A U)→List (Ob U)→Prop)(s:S U):Prop:=
 match s.ress M rv with
 |some al=>match s.out fm al with
  |some (rs,os)=>K rs os
  |none=>False
 |none=>False
def aK(M:Mc U)(rv:List ResultVar)(fm:List Kind)(K:List (A U)→List (Ob U)→Prop):Exit→S U→Prop
 | .ret,s=>ul M rv fm K s
 | .normal,s=>ul M rv fm K s
 |_,_=>False
def vA:List (A U)→Option (List<|C U)
 |[]=>some []
 | .c x::l=>match vA l with|some r=>some (x::r)|none=>none
 |_=>none
def yY:List (Bool×List (C U))→List (A U)→Option (List (Bool×List (C U))×List (A U))
 |[],l=>some ([],l)
 |b::bs,l=>match vA (l.take b.2.length),yY bs (l.drop b.2.length)with
  |some cs,some (bs',r)=>some ((b.1,cs)::bs',r)
  |_,_=>none
def yZ:List (Bool×List (C U))→List (A U)
 |[]=>[]
 |b::bs=>b.2.map .c++yZ bs
def um(M:Mc U)(nb:Nat)(rv:List ResultVar)(fm:List Kind)(K:List (A U)→List (Bool×List (C U))→List (Ob U)→Prop)(s:S U):Prop:=
 match s.ress M rv,s.boxesAt (List.range nb)with
 |some al,some bs=>match s.out fm (yZ bs++al)with
  |some (rs,os)=>match yY bs rs with
   |some (bs',rs')=>K rs' bs' os
   |none=>False
  |none=>False
 |_,_=>False
def b9(M:Mc U)(nb:Nat)(rv:List ResultVar)(fm:List Kind)(K:List (A U)→List (Bool×List (C U))→List (Ob U)→Prop):Exit→S U→Prop
 | .ret,s=>um M nb rv fm K s
 | .normal,s=>um M nb rv fm K s
 |_,_=>False
def Dt(n x:Nat)(args:List (A U))(bs:List (Bool×List (C U)))(os:List (Ob U)):S U:=
 ⟨args.map .one++List.replicate (n- args.length) (.one .top),bs.map some++List.replicate n none,os.map some++List.replicate (4*(bs.length+n)+x- os.length) none,bs.length⟩
def DC.toC:DC U→C U
 | .v x=>C.ofV x
 | .fn φ=>.fv φ
def agr(k:Nat):D U→AV U
 | .d x=>.one x.toA
 | .fn φ=>.one<|.c<|.fv φ
 | .box _=>.one<|.c<|.bx k 0
def Kv:Nat→List (D U)→List (AV U)
 |_,[]=>[]
 |k,d::r=>agr k d::Kv (match d with| .box _=>k+1|_=>k) r
def ff:List (D U)→List (Option<|Bool×List (C U))
 |[]=>[]
 | .box cs::r=>some (true,cs.map DC.toC)::ff r
 |_::r=>ff r
def bG(n x:Nat)(args:List (D U)):S U:=
 ⟨Kv 0 args++List.replicate (n- args.length) (.one .top),ff args++List.replicate n none,List.replicate (4*((ff args).length+n)+x) none,(ff args).length⟩
end Go.Proofs.YtjfpbchdcbhfgaaGreat.B
namespace Go.Proofs.YtjfpbchdcbhfgaaGreat.B
open Go Go.RowKit
variable {U:Uni} {P:Program}
inductive VRel(E:Enc U)(St:Nat→Nat→Prop)(w:World):Value→V U→Prop
 |s (x:Value) (h:bH x=true):VRel E St w x (.s x)
 |nil (τ:U.Ty) (a:Option Addr) (cap:Nat):VRel E St w (.slice a 0 cap) (.dat τ [])
 |dat (τ:U.Ty) (xs:List (U.Den τ)) (b o cap:Nat) (cv:Nat→Nat→Value) (hcap:xs.length≤cap∧xs.length≤9223372036854775807)
  (h1:∀i j,i<xs.length→j<U.sz τ→St b (o+i*U.sz τ+j)∧w.cell? ⟨b,o+i*U.sz τ+j,none⟩=some (cv i j))
  (h2:∀i(hi:i<xs.length) j d,(E.enc τ xs[i])[j]?=some d→VRel E St w (cv i j) d):
  VRel E St w (.slice (some ⟨b,o,none⟩) xs.length cap) (.dat τ xs)
def Keeps(St:Nat→Nat→Prop)(w:World)(St':Nat→Nat→Prop)(w':World):Prop:=
 ∀b o,St b o→St' b o∧w'.cell? ⟨b,o,none⟩=w.cell? ⟨b,o,none⟩
def Keeps.refl St w:Keeps St w St w:=fun _ _ h=>⟨h,rfl⟩
theorem Keeps.trans{St St' St'' w w' w''}(h:Keeps St w St' w')(k:Keeps St' w' St'' w''):Keeps St w St'' w'':=
 fun b o hs=>⟨(k b o (h b o hs).1).1,(k b o (h b o hs).1).2.trans (h b o hs).2⟩
theorem VRel.mono{E St St' w w' v}{d:V U}(h:VRel E St w v d)(hs:Keeps St w St' w'):VRel E St' w' v d:=by
 induction h with
 |s x h=>exact .s x h
 |nil τ a cap=>exact .nil τ a cap
 |dat τ xs b o cap cv hcap h1 h2 ih=>
  refine .dat τ xs b o cap cv hcap (fun i j hi hj=>?_) ih;obtain⟨g1,g2⟩:=h1 i j hi hj;obtain⟨g3,g4⟩:=hs _ _ g1;grind
def VRel.inv{E St w v τ xs}(h:VRel E St w v (.dat τ xs)):
 (xs=[]∧∃a cap,v=.slice a 0 cap)∨∃(b o cap:Nat)(cv:Nat→Nat→Value),v=.slice (some ⟨b,o,none⟩) xs.length cap∧(xs.length≤cap∧xs.length≤9223372036854775807)∧
  (∀i j,i<xs.length→j<U.sz τ→St b (o+i*U.sz τ+j)∧w.cell? ⟨b,o+i*U.sz τ+j,none⟩=some (cv i j))∧
  (∀i(hi:i<xs.length) j d,(E.enc τ xs[i])[j]?=some d→VRel E St w (cv i j) d):=by
 cases h with
 |nil _ a cap=>simp
 |dat _ _ b o cap cv hcap h1 h2=>exact .inr ⟨b,o,cap,cv,rfl,hcap,h1,h2⟩
def VRel.one{E St w v}{d:V U}(h:VRel E St w v d):bH v=true:=by
 cases h<;>first|rfl|omega
def All2{α β:Type}(R:α→β→Prop):List α→List β→Prop
 |[],[]=>True
 |a::l,b::r=>R a b∧All2 R l r
 |_,_=>False
section
variable {α β:Type} {R R':α→β→Prop}
theorem All2.length:∀{l:List α}{r:List β},All2 R l r→l.length=r.length
 |[],[],_=>rfl
 |_::_,_::_,h=>by simp[All2.length h.2]
def All2.imp(h:∀a b,R a b→R' a b):∀{l:List α}{r:List β},All2 R l r→All2 R' l r
 |[],[],_=>trivial
 |_::_,_::_,hh=>⟨h _ _ hh.1,All2.imp h hh.2⟩
def All2.append:∀{l l':List α}{r r':List β},All2 R l r→All2 R l' r'→All2 R (l++l') (r++r')
 |[],_,[],_,_,h=>h
 |_::_,_,_::_,_,h,h'=>⟨h.1,All2.append h.2 h'⟩
def All2.drop:∀(n:Nat){l:List α}{r:List β},All2 R l r→All2 R (l.drop n) (r.drop n)
 |0,_,_,h=>h
 |_+1,[],[],_=>trivial
 |n+1,_::_,_::_,h=>All2.drop n h.2
def All2.take:∀(n:Nat){l:List α}{r:List β},All2 R l r→All2 R (l.take n) (r.take n)
 |0,l,r,_=>by simp[All2]
 |_+1,[],[],_=>trivial
 |n+1,_::_,_::_,h=>⟨h.1,All2.take n h.2⟩
def All2.get:∀{l:List α}{r:List β}(i:Nat){b:β},All2 R l r→r[i]?=some b→∃a,l[i]?=some a∧R a b
 |a::_,b::_,0,_,h,e=>by simp at e;subst e;exact⟨a,rfl,h.1⟩
 |_::_,_::_,i+1,_,h,e=>All2.get (l:=_) i h.2<|by grind
 |[],[],_,_,_,e=>by grind
def All2.get':∀{l:List α}{r:List β}(i:Nat){a:α},All2 R l r→l[i]?=some a→∃b,r[i]?=some b∧R a b
 |_::_,b::_,0,_,h,e=>by simp at e;subst e;exact⟨b,rfl,h.1⟩
 |_::_,_::_,i+1,_,h,e=>All2.get' (r:=_) i h.2<|by grind
 |[],[],_,_,_,e=>by grind
theorem All2.set:∀{l:List α}{r:List β}(i:Nat){a:α}{b:β},All2 R l r→R a b→All2 R (l.set i a) (r.set i b)
 |[],[],_,_,_,_,_=>trivial
 |_::_,_::_,0,_,_,h,hab=>⟨hab,h.2⟩
 |_::_,_::_,i+1,_,_,h,hab=>⟨h.1,All2.set i h.2 hab⟩
theorem All2.map_right{γ R'}(f:β→γ)(h:∀a b,R a b→R' a (f b)):∀{l:List α}{r:List β},All2 R l r→All2 R' l (r.map f)
 |[],[],_=>trivial
 |_::_,_::_,hh=>⟨h _ _ hh.1,All2.map_right f h hh.2⟩
def All2.of_get:∀{l:List α}{r:List β},l.length=r.length→(∀(i:Nat) a b,l[i]?=some a→r[i]?=some b→R a b)→All2 R l r
 |[],[],_,_=>trivial
 |a::l,b::r,hl,h=>⟨h 0 a b rfl rfl,All2.of_get (by grind) fun i x y hx hy=>h (i+1) x y (by grind)<|by grind⟩
end
def D0Rel(E:Enc U)(St:Nat→Nat→Prop)(w:World)(v:Value):D0 U→Prop
 | .v x=>VRel E St w v x
 | .agg xs=>∃arr:Array Value,v=.agg arr∧All2 (VRel E St w) arr.toList xs
def RetRel{α:Type}(R:Value→α→Prop)(v:Value):List α→Prop
 |[d]=>R v d
 |ds=>∃arr:Array Value,v=.tuple arr∧All2 R arr.toList ds
def RetRel.imp{α R R'}(hi:∀a b,R a b→R' a b){v}{ds:List α}(h:RetRel R v ds):RetRel R' v ds:=by
 match ds,h with
 |[],h=>obtain⟨arr,h1,h2⟩:=h;exact⟨arr,h1,h2.imp hi⟩
 |[d],h=>exact hi _ _ h
 |_::_::_,h=>obtain⟨arr,h1,h2⟩:=h;exact⟨arr,h1,h2.imp hi⟩
theorem D0Rel.mono{E St St' w w'}(hs:Keeps St w St' w'){v}{d:D0 U}(h:D0Rel E St w v d):D0Rel E St' w' v d:=by
 cases d with
 |v x=>exact VRel.mono h hs
 |agg xs=>obtain⟨arr,h1,h2⟩:=h;exact⟨arr,h1,h2.imp fun _ _ h=>h.mono hs⟩
def Kw(E:Enc U)(St:Nat→Nat→Prop)(w w':World)(v:Value)(rs:List (D0 U)):Prop:=
 Ext w w'∧∃St':Nat→Nat→Prop,(∀b o,b<w.heap.size→St' b o→St b o)∧(∀b o,St' b o→b<w'.heap.size)∧RetRel (D0Rel E St' w') v rs
def RA(ob:List Prop)(w w':World):Prop:=ob.length=5→w.drawn≤w'.drawn
def ags(P:Program)(E:Enc U)(f:FuncId)(caps:Array Value)(St:Nat→Nat→Prop)(w:World)(φ:FV U):Prop:=
 ∀(St':Nat→Nat→Prop)(w':World),Keeps St w St' w'→(∀b o,St' b o→b<w'.heap.size)→Laid w'→∀(args:List (D0 U))(ob:List Prop)(rs:List (D0 U)),φ args=some (ob,rs)→(∀p∈ob,p)→
  ∀vs:List Value,All2 (D0Rel E St' w') vs args→Calls P f (vs.toArray++caps) w' fun e w''=>∃v,e=.returned v∧Kw E St' w' w'' v rs∧RA ob w' w''
def dw(P:Program)(f:FuncId):Prop:=∃fn c,P.funcs[f]?=some fn∧fn.body=some c∧(fn.name== "runtime.NumGoroutine")=false
def FunRel(P:Program)(E:Enc U)(St:Nat→Nat→Prop)(w:World)(v:Value)(φ:FV U):Prop:=
 ∃(f:FuncId)(caps:Array Value),v=.func (.func f) #[] caps∧dw P f∧ags P E f caps St w φ
theorem FunRel.mono{E St St' w w'}(hs:Keeps St w St' w'){v}{φ:FV U}(h:FunRel P E St w v φ):FunRel P E St' w' v φ:=by
 obtain⟨f,caps,h1,h2,h3⟩:=h;exact⟨f,caps,h1,h2,fun St'' w'' hk=>h3 St'' w''<|hs.trans hk⟩
def FunRel.one{E St w v}{φ:FV U}(h:FunRel P E St w v φ):bH v=true:=by
 obtain⟨f,caps,rfl,_⟩:=h;rfl
inductive Own
 |st
 |box (k:Nat)
 |obj (k:Nat)
structure G where
 β:Nat→Nat
 lb:Nat→Prop
 ω:Nat→Nat→Option Own
 tk:Nat→Option Addr×Nat
def G.St(g:G)(b o:Nat):Prop:=g.ω b o=some .st
def gM(g:G)(ks:List Nat):Array Value:=(ks.map fun k=>Value.pointer<|some ⟨g.β k,0,none⟩).toArray
def CRel(P:Program)(E:Enc U)(g:G)(ob:List (Option<|Ob U))(w:World)(v:Value):C U→Prop
 | .s x=>v=x∧bH x=true
 | .sl τ xs f=>VRel E g.St w v (.dat τ xs)∧(f=true→∃a n,v=.slice a n n)
 | .ob k ver=>bH v=true∧∃o,ob[k]?=some (some o)∧ver≤o.ver∧(ver=o.ver→v=.slice (g.tk k).1 o.xs.length (g.tk k).2)
 | .bx k off=>g.lb k∧v=.pointer (some ⟨g.β k,off,none⟩)
 | .el τ xs i off=>i<xs.length∧∃b o cap,v=.pointer (some ⟨b,o+i*U.sz τ+off,none⟩)∧VRel E g.St w (.slice (some ⟨b,o,none⟩) xs.length cap) (.dat τ xs)
 | .em k ver i off=>bH v=true∧∃o,ob[k]?=some (some o)∧ver≤o.ver∧(ver=o.ver→i<o.xs.length∧∃b o',(g.tk k).1=some ⟨b,o',none⟩∧v=.pointer (some ⟨b,o'+i*U.sz o.τ+off,none⟩))
 | .fv φ=>FunRel P E g.St w v φ
 | .fc f caps=>v=.func (.func f) #[] (gM g caps)∧∀k∈caps,g.lb k
 | .top=>bH v=true
structure GLe(g:G)(ob:List (Option<|Ob U))(w:World)(g':G)(ob':List (Option<|Ob U))(w':World):Prop where
 st:Keeps g.St w g'.St w'
 lb:∀k,g.lb k→g'.lb k∧g'.β k=g.β k
 ob:∀k o,ob[k]?=some (some o)→∃o',ob'[k]?=some (some o')∧o.ver≤o'.ver∧(o.ver=o'.ver→o'.xs.length=o.xs.length∧U.sz o'.τ=U.sz o.τ∧g'.tk k=g.tk k)
def GLe.refl g(ob:List (Option<|Ob U)) w:GLe g ob w g ob w:=
 ⟨Keeps.refl _ _,fun _ h=>⟨h,rfl⟩,fun _ o h=>⟨o,h,y7 _,fun _=>⟨rfl,rfl,rfl⟩⟩⟩
theorem GLe.trans{g g' g''}{ob ob' ob'':List (Option<|Ob U)}{w w' w''}(h:GLe g ob w g' ob' w')(k:GLe g' ob' w' g'' ob'' w''):GLe g ob w g'' ob'' w'':=by
 refine⟨h.st.trans k.st,fun b hs=>⟨(k.lb b (h.lb b hs).1).1,(k.lb b (h.lb b hs).1).2.trans (h.lb b hs).2⟩,fun q o hq=>?_⟩;obtain⟨o',h1,h2,h3⟩:=h.ob q o hq;obtain⟨o'',k1,k2,k3⟩:=k.ob q o' h1;refine⟨o'',k1,gK h2 k2,fun e=>?_⟩;have e1:o.ver=o'.ver:=by omega
 have e2:o'.ver=o''.ver:=by omega
 obtain⟨a1,a2,a3⟩:=h3 e1;obtain⟨b1,b2,b3⟩:=k3 e2;exact⟨b1.trans a1,b2.trans a2,b3.trans a3⟩
def CRel.one{E g ob w v}{c:C U}(hc:CRel P E g ob w v c):bH v=true:=by
 cases c with
 |s x=>rw[hc.1];exact hc.2
 |sl τ xs t=>exact hc.1.one
 |ob k ver=>exact hc.1
 |bx k off=>rw[hc.2];rfl
 |el τ xs i off=>obtain⟨_,b,o,cap,h2,_⟩:=hc;rw[h2];rfl
 |em k ver i off=>exact hc.1
 |fv φ=>exact FunRel.one hc
 |fc f caps=>rw[hc.1];rfl
 |top=>exact hc
theorem CRel.mono{E g g' ob ob' w w'}(h:GLe g ob w g' ob' w'){v}{c:C U}(hc:CRel P E g ob w v c):CRel P E g' ob' w' v c:=by
 cases c with
 |s x=>exact hc
 |sl τ xs t=>exact⟨hc.1.mono h.st,hc.2⟩
 |ob k ver=>
  obtain⟨h1,o,h2,h3,h4⟩:=hc;obtain⟨o',k1,k2,k3⟩:=h.ob k o h2;refine⟨h1,o',k1,gK h3 k2,fun e=>?_⟩;grind
 |bx k off=>exact⟨(h.lb k hc.1).1,by rw[(h.lb k hc.1).2];exact hc.2⟩
 |el τ xs i off=>
  obtain⟨h1,b,o,cap,h2,h3⟩:=hc;exact⟨h1,b,o,cap,h2,h3.mono h.st⟩
 |em k ver i off=>
  obtain⟨h1,o,h2,h3,h4⟩:=hc;obtain⟨o',k1,k2,k3⟩:=h.ob k o h2;refine⟨h1,o',k1,gK h3 k2,fun e=>?_⟩;grind
 |fv φ=>exact FunRel.mono h.st hc
 |fc f caps=>
  refine⟨?_,fun k hk=>(h.lb k<|hc.2 k hk).1⟩;rw[hc.1];unfold gM;congr 2;refine y3v fun k hk=>?_;rw[(h.lb k<|hc.2 k hk).2]
 |top=>exact hc
def ARel(P:Program)(E:Enc U)(g:G)(ob:List (Option<|Ob U))(w:World)(v:Value):A U→Prop
 | .c x=>CRel P E g ob w v x
 | .agg cs=>∃arr:Array Value,v=.agg arr∧All2 (CRel P E g ob w) arr.toList cs
 | .top=>True
def AVRel(P:Program)(E:Enc U)(g:G)(ob:List (Option<|Ob U))(w:World)(v:Value):AV U→Prop
 | .one a=>ARel P E g ob w v a
 | .tup al=>∃arr:Array Value,v=.tuple arr∧All2 (ARel P E g ob w) arr.toList al
 | .undef=>v=undef
theorem ARel.mono{E g g' ob ob' w w'}(h:GLe g ob w g' ob' w'){v}{a:A U}(ha:ARel P E g ob w v a):ARel P E g' ob' w' v a:=by
 cases a with
 |c x=>exact CRel.mono h ha
 |agg cs=>obtain⟨arr,h1,h2⟩:=ha;exact⟨arr,h1,h2.imp fun _ _=>CRel.mono h⟩
 |top=>trivial
theorem AVRel.mono{E g g' ob ob' w w'}(h:GLe g ob w g' ob' w'){v}{a:AV U}(ha:AVRel P E g ob w v a):AVRel P E g' ob' w' v a:=by
 cases a with
 |one a=>exact ARel.mono h ha
 |tup al=>obtain⟨arr,h1,h2⟩:=ha;exact⟨arr,h1,h2.imp fun _ _=>ARel.mono h⟩
 |undef=>exact ha
theorem Kx{E g ob w v}{rs:List (A U)}:AVRel P E g ob w v (nS rs)↔RetRel (ARel P E g ob w) v rs:=by
 match rs with
 |[]=>rfl
 |[_]=>rfl
 |_::_::_=>rfl
def BoxRel(P:Program)(E:Enc U)(g:G)(ob:List (Option<|Ob U))(w:World)(k:Nat)(fz:Bool)(cells:List (C U)):Prop:=
 ∃vs:List Value,All2 (CRel P E g ob w) vs cells∧∀(i:Nat) v,vs[i]?=some v→w.cell? ⟨g.β k,i,none⟩=some v∧
  (fz=false→stuck w ⟨g.β k,i,none⟩=false∧g.ω (g.β k) i=some (.box k))∧(fz=true→g.St (g.β k) i)
def eu(g:G)(w:World)(k:Nat)(fr:Option Nat)(i b o:Nat):Prop:=
 match fr with
 |none=>g.St b o
 |some f=>(i<f→g.St b o)∧(f≤i→g.ω b o=some (.obj k)∧stuck w ⟨b,o,none⟩=false)
structure ObAt(E:Enc U)(g:G)(w:World)(k:Nat)(o:Ob U)(b off cap:Nat)(cv:Nat→Nat→Value):Prop where
 cell:∀i j,i<o.xs.length→j<U.sz o.τ→w.cell? ⟨b,off+i*U.sz o.τ+j,none⟩=some (cv i j)∧eu g w k o.fr i b (off+i*U.sz o.τ+j)
 rel:∀i(hi:i<o.xs.length) j d,(E.enc o.τ o.xs[i])[j]?=some d→VRel E g.St w (cv i j) d
 spare:o.live=true→∀x,o.xs.length*U.sz o.τ≤x→x<cap*U.sz o.τ→g.ω b (off+x)=some (.obj k)∧(∃v,w.cell? ⟨b,off+x,none⟩=some v)∧stuck w ⟨b,off+x,none⟩=false
def ObRel(E:Enc U)(g:G)(w:World)(k:Nat)(o:Ob U):Prop:=
 ((o.xs.length≤(g.tk k).2∧o.xs.length≤9223372036854775807)∧∀f,o.fr=some f→f≤o.xs.length)∧(0<(g.tk k).2→∃b off cv,(g.tk k).1=some ⟨b,off,none⟩∧ObAt E g w k o b off (g.tk k).2 cv)
structure Fr where
 w0:World
 own:Nat→Nat→Prop
 st:Nat→Nat→Prop
 nb:Nat
 β:Nat→Nat
structure FExt(fr:Fr)(w:World):Prop where
 os:w.os=fr.w0.os
 tape:w.tape=fr.w0.tape
 output:w.output=fr.w0.output
 size:fr.w0.heap.size≤w.heap.size
 block:∀k,k<fr.w0.heap.size→(∀o,¬fr.own k o)→w.heap[k]?=fr.w0.heap[k]?
 cell:∀b o,b<fr.w0.heap.size→¬fr.own b o→w.cell? ⟨b,o,none⟩=fr.w0.cell? ⟨b,o,none⟩
 frozen:∀b o,b<fr.w0.heap.size→¬fr.own b o→stuck w ⟨b,o,none⟩=stuck fr.w0 ⟨b,o,none⟩
 laid:Laid w
 lb0:∀b,LB b=true→b<fr.w0.heap.size
 nlb:∀b o,LB b=true→¬fr.own b o
structure Sim(P:Program)(E:Enc U)(fr:Fr)(g:G)(s:S U)(a:Act)(w:World):Prop where
 ext:FExt fr w
 tms:All2 (AVRel P E g s.ob w) a.tmps.toList s.tm
 bxs:∀k fz cells,s.bx[k]?=some (some (fz,cells))→g.lb k∧BoxRel P E g s.ob w k fz cells
 lbs:∀k,g.lb k→∃c,s.bx[k]?=some (some c)
 obs:∀k o,s.ob[k]?=some (some o)→ObRel E g w k o
 own:∀b o x,g.ω b o=some x→b<w.heap.size∧(fr.w0.heap.size≤b∨fr.own b o∨(x=.st∧fr.st b o))
 dfr:a.defers=[]
 fix:∀k,k<fr.nb→g.lb k→g.β k=fr.β k
 bas:fr.nb≤s.base
def Sim.wr{E fr g}{s:S U}{a w}(h:Sim P E fr g s a w){b o x}(hx:g.ω b o=some x)(hne:x≠.st):fr.w0.heap.size≤b∨fr.own b o:=by
 rcases(h.own b o x hx).2 with h1|h1|⟨h1,_⟩
 all_goals grind
def Sim.nlb{E fr g}{s:S U}{a w}(h:Sim P E fr g s a w){b o x}(hl:LB b=true)(hx:g.ω b o=some x):x=.st:=by
 rcases(h.own b o x hx).2 with h1|h1|⟨h1,_⟩
 ·exact absurd (h.ext.lb0 b hl)<|by omega
 ·exact(h.ext.nlb b o hl h1).elim
 omega
end Go.Proofs.YtjfpbchdcbhfgaaGreat.B
namespace Go.Proofs.YtjfpbchdcbhfgaaGreat.B
open Go Go.RowKit
variable {P:Program}
theorem nW b o i:(⟨b,o,none⟩:Addr).add i=⟨b,o+i,none⟩:=by
 simp[Addr.add]
theorem zzs w b o:∀(vs:List Value)(i:Nat)(acc:Array Value),(∀(j:Nat) v,vs[j]?=some v→w.cell? ⟨b,o+i+j,none⟩=some v)→
 (loadCellsFrom ⟨b,o,none⟩ i vs.length acc).run P w=.ok (acc++vs.toArray) w
 |[],i,acc,_=>by rfl
 |v::vs,i,acc,h=>by
  have h0:=h 0 v rfl
  have ih:=zzs w b o vs (i+1) (acc.push v) (fun j u hu=>by
   have:=h (j+1) u<|by grind
   grind)
  simp only[yz,loadCellsFrom,Sem.run_bind,run_load,nW,iC]at h0 ⊢;simp_all
theorem Qf w b o(vs:List Value)(h:∀(j:Nat) v,vs[j]?=some v→w.cell? ⟨b,o+j,none⟩=some v):
 (loadCells ⟨b,o,none⟩ vs.length).run P w=.ok vs.toArray w:=by
 simp_all[loadCells,zzs]
structure Stored(w w':World)(b o:Nat)(vs:List Value):Prop where
 os:w'.os=w.os
 tape:w'.tape=w.tape
 output:w'.output=w.output
 size:w'.heap.size=w.heap.size
 block:∀k,k≠b→w'.heap[k]?=w.heap[k]?
 cell:∀(i:Nat) v,vs[i]?=some v→w'.cell? ⟨b,o+i,none⟩=some v
 other:∀p:Addr,(p.off<o∨o+vs.length≤p.off∨p.block≠b)→w'.cell? p=w.cell? p
 frozen:∀p:Addr,stuck w' p=stuck w p
 same:vs=[]→w'=w
theorem Ky{v}(h:bH v=true):v.oneCell'=true:=by cases v<;>first|rfl|grind[bH]
def Gu:∀(vs:List Value)(w:World)(b o i:Nat),(∀v∈vs,bH v=true)→
 (∀(j:Nat),j<vs.length→(∃u,w.cell? ⟨b,o+i+j,none⟩=some u)∧stuck w ⟨b,o+i+j,none⟩=false)→
 ∃w',(storeCells ⟨b,o,none⟩ vs i).run P w=.ok () w'∧Stored w w' b (o+i) vs
 |[],w,b,o,i,_,_=>⟨w,by rfl,⟨rfl,rfl,rfl,rfl,fun _ _=>rfl,fun i v h=>by grind,fun _ _=>rfl,fun _=>rfl,fun _=>rfl⟩⟩
 |v::vs,w,b,o,i,hv,hc=>by
  obtain⟨⟨u,hu⟩,hf⟩:=hc 0 (by simp)
  obtain⟨w',hr,hs⟩:=Gu vs (w.setCell ⟨b,o+i,none⟩ v) b o (i+1) (fun x hx=>hv x (by grind)) (fun j hj=>by
   obtain⟨⟨x,hx⟩,hfx⟩:=hc (j+1) (by grind)
   grind[World.cell?_setCell_other,Qe])
  refine⟨w',?_,⟨hs.os,hs.tape,hs.output,by rw[hs.size];simp,fun k hk=>by rw[hs.block k hk];grind[Below.heap_setCell],?_,?_,?_,by simp⟩⟩
  ·simp only[storeCells,Sem.run_bind,nW];simp_all[run_store,Ky,yQ,mf,if_false,Result.andThen_ok]
  ·intro j x hx;cases j with
   |zero=>
    simp at hx;subst hx;rw[iC,hs.other _ (by simp)];exact World.cell?_setCell_same _ _ _ hu
   |succ j=>
    have:=hs.cell j x (by grind);grind
  ·intro p hp;simp at hp;rw[hs.other p (by omega)];exact World.cell?_setCell_other _ _ _ _ (by grind)
  ·intro p;rw[hs.frozen];simp[Qe]
end Go.Proofs.YtjfpbchdcbhfgaaGreat.B
namespace Go.Proofs.YtjfpbchdcbhfgaaGreat.B
open Go Go.RowKit
variable {U:Uni} {P:Program} {E:Enc U} {fr:Fr} {w:World} {g:G} {s:S U} {a:Act}
def aAV{l:Array Value}{t v}(h:l.toList[t]?=some v):l.getD t undef=v:=by
 simp_all
def Sim.slot(h:Sim P E fr g s a w){t x}(hx:s.tm[t]?=some x):AVRel P E g s.ob w (a.tmps.getD t undef) x:=by
 obtain⟨v,hv,hr⟩:=All2.get t h.tms hx;simp_all
def Kz(l:Array Value) d v:(l.setIfInBounds d v).toList=l.toList.set d v:=by simp
theorem Sim.put(h:Sim P E fr g s a w){dst v r}(hv:AVRel P E g s.ob w v r.v)(hb:r.bw=[])(ho:r.ow=[]):Sim P E fr g (s.upd dst r) (a.put dst v) w:=by
 unfold S.upd;rw[hb,ho];cases dst with
 |none=>exact h
 |some d=>
  have ht:All2 (AVRel P E g s.ob w) (a.tmps.setIfInBounds d v).toList (s.tm.set d r.v):=by
   rw[Kz];exact All2.set d h.tms hv
  exact{h with tms:=ht}
def Sim.put'{s':S U}{dst v r}(h:Sim P E fr g {s with bx:=aH s.bx r.bw,ob:=aH s.ob r.ow} a w)(hv:AVRel P E g (aH s.ob r.ow) w v r.v):Sim P E fr g (s.upd dst r) (a.put dst v) w:=by
 cases dst with
 |none=>exact h
 |some d=>
  have ht:All2 (AVRel P E g (aH s.ob r.ow) w) (a.tmps.setIfInBounds d v).toList (s.tm.set d r.v):=by
   rw[Kz];exact All2.set d h.tms hv
  exact{h with tms:=ht}
def Same(g:G)(w:World)(g':G)(w':World)(x:Own):Prop:=
 ∀b o,g.ω b o=some x→g'.ω b o=some x∧w'.cell? ⟨b,o,none⟩=w.cell? ⟨b,o,none⟩∧stuck w' ⟨b,o,none⟩=stuck w ⟨b,o,none⟩
def Same.keeps{g g' w w'}(h:Same g w g' w' .st):Keeps g.St w g'.St w':=fun b o hs=>⟨(h b o hs).1,(h b o hs).2.1⟩
def BoxRel.keep{g g' ob ob' w w' k fz cells}(h:BoxRel P E g ob w k fz cells)(hl:g.lb k)(hg:GLe g ob w g' ob' w')(hs:Same g w g' w' (.box k)):
 BoxRel P E g' ob' w' k fz cells:=by
 obtain⟨vs,h1,h2⟩:=h;refine⟨vs,h1.imp fun _ _=>CRel.mono hg,fun i v hv=>?_⟩;obtain⟨i1,i2,i3⟩:=h2 i v hv;rw[(hg.lb k hl).2];cases fz with
 |false=>
  obtain⟨j1,j2⟩:=i2 rfl;obtain⟨k1,k2,k3⟩:=hs _ _ j2;grind
 |true=>
  obtain⟨k1,k2⟩:=hg.st _ _<|i3 rfl;grind
def ObRel.keep{g g' w w' k o}(h:ObRel E g w k o)(hk:Keeps g.St w g'.St w')(hs:Same g w g' w' (.obj k))(ht:g'.tk k=g.tk k):ObRel E g' w' k o:=by
 obtain⟨h1,h2⟩:=h;refine⟨by grind,fun hc=>?_⟩;rw[ht]at hc ⊢;obtain⟨b,off,cv,e,hA⟩:=h2 hc;refine⟨b,off,cv,e,⟨fun i j hi hj=>?_,fun i hi j d hd=>(hA.rel i hi j d hd).mono hk,fun hl x hx hx'=>?_⟩⟩
 ·obtain⟨c1,c2⟩:=hA.cell i j hi hj;unfold eu at c2 ⊢;split at c2
  ·obtain⟨k1,k2⟩:=hk _ _ c2;grind
  ·rename_i f hf;rcases yk i f with hlt|hge
   ·obtain⟨k1,k2⟩:=hk _ _<|c2.1 hlt;grind
   ·obtain⟨d1,d2⟩:=c2.2 hge;obtain⟨k1,k2,k3⟩:=hs _ _ d1;grind
 ·obtain⟨d1,⟨v,d2⟩,d3⟩:=hA.spare hl x hx hx';obtain⟨k1,k2,k3⟩:=hs _ _ d1;grind
def FExt.later{w w'}(h:FExt fr w)(hb:Ext w w'):FExt fr w':=
 ⟨hb.os.trans h.os,hb.tape.trans h.tape,hb.output.trans h.output,gK h.size hb.le,
  fun k hk ho=>(hb.block<|yu hk h.size).trans<|h.block k hk ho,
  fun b o hk ho=>(hb.cell (p:=⟨b,o,none⟩)<|yu hk h.size).trans<|h.cell b o hk ho,
  fun b o hk ho=>(hb.stuck (p:=⟨b,o,none⟩)<|yu hk h.size).trans<|h.frozen b o hk ho,
  h.laid.ext hb,h.lb0,h.nlb⟩
def FExt.stored{w w' b off vs}(h:FExt fr w)(hst:Stored w w' b off vs)(ho:∀(i:Nat),i<vs.length→fr.w0.heap.size≤b∨fr.own b (off+i)):FExt fr w':=by
 refine⟨hst.os.trans h.os,hst.tape.trans h.tape,hst.output.trans h.output,by rw[hst.size];exact h.size,fun k hk hn=>?_,fun b' o hk hn=>?_,fun b' o hk hn=>(hst.frozen _).trans<|h.frozen b' o hk hn,h.laid.on (by rw[hst.size];simp) fun k hl=>?_,h.lb0,h.nlb⟩
 ·by_cases e:k=b
  ·cases vs with
   |nil=>
    have:=hst.same rfl;rw[this];exact h.block k hk hn
   |cons v vs=>
    rcases ho 0 (by simp)with h1|h1
    all_goals grind
  ·exact(hst.block k e).trans<|h.block k hk hn
 ·refine Eq.trans ?_ (h.cell b' o hk hn);refine hst.other _ ?_;by_cases e:b'=b
  ·by_cases h1:o<off
   ·grind
   ·by_cases h2:off+vs.length≤o
    ·grind
    ·rcases ho (o- off) (by omega)with h3|h3
     all_goals grind
  grind
 ·by_cases e:k=b
  ·subst e;cases vs with
   |nil=>rw[hst.same rfl]
   |cons v vs=>
    rcases ho 0 (by simp)with h1|h1
    ·exact absurd (h.lb0 k hl)<|by omega
    ·exact(h.nlb k _ hl h1).elim
  ·exact hst.block k e
def Sim.later(h:Sim P E fr g s a w){w'}(hb:Ext w w'):Sim P E fr g s a w':=by
 have hs:∀x,Same g w g w' x:=fun x b o hx=>⟨hx,hb.cell (h.own b o x hx).1,hb.stuck (p:=⟨b,o,none⟩) (h.own b o x hx).1⟩;have hg:GLe g s.ob w g s.ob w':={GLe.refl g s.ob w with st:=(hs .st).keeps};refine{ext:=h.ext.later hb,tms:=h.tms.imp fun _ _=>AVRel.mono hg,bxs:=fun k fz cells hk=>?_,lbs:=h.lbs,obs:=fun k o hk=>(h.obs k o hk).keep hg.st (hs _) rfl,own:=fun b o x hx=>⟨yu (h.own b o x hx).1 hb.le,(h.own b o x hx).2⟩,dfr:=h.dfr,fix:=h.fix,bas:=h.bas};obtain⟨hl,hbx⟩:=h.bxs k fz cells hk;exact⟨hl,hbx.keep hl hg<|hs _⟩
def pP{St:Nat→Nat→Prop}{ob}(hs:St=g.St){v d}(h:VRel E St w v d):CRel P E g ob w v (C.ofV d):=by
 subst hs;cases h with
 |s x h=>exact⟨rfl,h⟩
 |nil τ aa cap=>exact⟨.nil τ aa cap,by simp⟩
 |dat τ xs b o cap cv hcap h1 h2=>exact⟨.dat τ xs b o cap cv hcap h1 h2,by simp⟩
def Qg{α:Type}{f n j}{v:α}(h:((List.range n).map f)[j]?=some v):j<n∧f j=v:=by
 grind
def gN{k v o}(h:s.obAt k v=some o):s.ob[k]?=some (some o)∧o.ver=v:=by
 grind[S.obAt,Nat.eq_of_beq_eq_true]
def Sim.obval(h:Sim P E fr g s a w){k v o x}(ho:s.obAt k v=some o)(hx:CRel P E g s.ob w x (.ob k v)):x=.slice (g.tk k).1 o.xs.length (g.tk k).2∧ObRel E g w k o:=by
 obtain⟨h1,h2⟩:=gN ho;obtain⟨_,o',h3,h4,h5⟩:=hx;rw[h1]at h3;simp at h3;subst h3;exact⟨h5 h2.symm,h.obs k o h1⟩
theorem Sim.len(h:Sim P E fr g s a w){c τ xs x}(hl:s.lst c=some ⟨τ,xs⟩)(hx:CRel P E g s.ob w x c):∃p cap,x=.slice p xs.length cap∧xs.length≤cap∧xs.length≤9223372036854775807:=by
 cases c with
 |sl τ' xs' f=>
  simp[S.lst]at hl;rcases hx.1.inv with⟨rfl,p,cap,rfl⟩|⟨b,o,cap,cv,rfl,hcap,_⟩
  all_goals grind
 |ob k v=>
  simp only[S.lst]at hl;split at hl
  ·rename_i o ho;simp at hl;obtain⟨rfl,hl⟩:=hl;subst hl;obtain⟨h1,h2⟩:=h.obval ho hx;exact⟨_,_,h1,h2.1.1⟩
  grind
 |_=>simp[S.lst]at hl
def zA(E:Enc U)(St:Nat→Nat→Prop)(w:World)(τ:U.Ty)(xs:List (U.Den τ))(p:Option Addr)(vs:List Value):Prop:=
 vs.length=xs.length*U.sz τ∧(xs≠[]→∃b o,p=some ⟨b,o,none⟩∧∀(q:Nat) v,vs[q]?=some v→w.cell? ⟨b,o+q,none⟩=some v)∧
 ∀i(hi:i<xs.length) j d,(E.enc τ xs[i])[j]?=some d→∃u,vs[i*U.sz τ+j]?=some u∧VRel E St w u d
def RC{St τ xs b o}{cv:Nat→Nat→Value}(hz:0<U.sz τ)(g1:∀i j,i<xs.length→j<U.sz τ→w.cell? ⟨b,o+i*U.sz τ+j,none⟩=some (cv i j))(g2:∀i(hi:i<xs.length) j d,(E.enc τ xs[i])[j]?=some d→VRel E St w (cv i j) d):∃vs,zA E St w τ xs (some ⟨b,o,none⟩) vs:=by
 refine⟨(List.range<|xs.length*U.sz τ).map fun q=>cv (q/U.sz τ)<|q % U.sz τ,by simp,fun _=>⟨b,o,rfl,fun q v hq=>?_⟩,fun i hi j d hd=>?_⟩
 ·grind[Nat.div_lt_iff_lt_mul,Nat.mod_lt,Nat.mul_comm,Nat.div_add_mod,Nat.add_assoc]
 ·have hj:j<U.sz τ:=by
   rw[←E.len τ xs[i]];grind
  have hlt:i*U.sz τ+j<xs.length*U.sz τ:=by
   have:(i+1)*U.sz τ≤xs.length*U.sz τ:=fB _ hi;grind
  refine⟨cv i j,?_,g2 i hi j d hd⟩;rw[dn,PZ hlt];simp only[iD];rw[show(i*U.sz τ+j)/U.sz τ=i from by rw[sy,Nat.mul_add_div hz,Nat.div_eq_of_lt hj,iC],show(i*U.sz τ+j) % U.sz τ=j from by rw[sy,y3y,PX hj]]
def RD{St τ} p:zA E St w τ [] p []:=⟨by simp,by simp,fun i hi=>by grind⟩
def Sim.row(h:Sim P E fr g s a w){c τ xs p n cap}(hz:0<U.sz τ)(hl:s.lst c=some ⟨τ,xs⟩)(hx:CRel P E g s.ob w (.slice p n cap) c):
 n=xs.length∧n≤cap∧∃vs,zA E g.St w τ xs p vs:=by
 obtain⟨p',cap',e,hcap⟩:=h.len hl hx;obtain⟨rfl,rfl,rfl⟩:=e;refine⟨rfl,hcap.1,?_⟩;cases c with
 |sl τ' xs' f=>
  simp[S.lst]at hl;obtain⟨rfl,hl⟩:=hl;subst hl;rcases hx.1.inv with⟨rfl,_⟩|⟨b,o,cap',cv,hv,hcap',g1,g2⟩
  ·exact⟨[],RD p⟩
  ·obtain⟨rfl,_⟩:=hv;exact RC hz (fun i j hi hj=>(g1 i j hi hj).2) g2
 |ob k v=>
  simp only[S.lst]at hl;split at hl
  ·rename_i o ho;simp at hl;obtain⟨rfl,hl⟩:=hl;subst hl;obtain⟨h1,h2⟩:=h.obval ho hx;obtain⟨rfl,h1⟩:=h1;by_cases h0:o.xs=[]
   ·rw[h0];exact⟨[],RD _⟩
   ·have hpos:0<(g.tk k).2:=by grind[List.length_pos_iff]
    obtain⟨b,off,cv,e,hA⟩:=h2.2 hpos;rw[e];exact RC hz (fun i j hi hj=>(hA.cell i j hi hj).1) hA.rel
  grind
 |_=>simp[S.lst]at hl
def ObRel.data{k o}(h:ObRel E g w k o)(hf:o.fr=none):VRel E g.St w (.slice (g.tk k).1 o.xs.length (g.tk k).2) (.dat o.τ o.xs):=by
 by_cases h0:o.xs.length=0
 ·have:o.xs=[]:=yx h0;rw[this];exact .nil _ _ _
 ·obtain⟨b,off,cv,e,hA⟩:=h.2 (by have:=h.1.1;omega);rw[e];refine .dat o.τ o.xs b off _ cv h.1.1 (fun i j hi hj=>?_) hA.rel;obtain⟨c1,c2⟩:=hA.cell i j hi hj;simp_all[eu]
end Go.Proofs.YtjfpbchdcbhfgaaGreat.B
namespace Go.Proofs.YtjfpbchdcbhfgaaGreat.B
open Go Go.RowKit
variable {U:Uni}
def KA:TypeDesc→Bool
 | .struct _=>true
 | .array _ _=>true
 |_=>false
def jt(P:Program)(t:TypeId)(agg:Bool)(n:Nat):Prop:=∃d i,P.underlying t=some d∧KA d=agg∧P.info? t=some i∧i.size=n
def RE(P:Program)(t:TypeId)(x:TI U):Prop:=
 (∀agg n,x.shape=some (agg,n)→jt P t agg n)∧
 match x with
 | .int k=>P.underlying t=some (.int k)
 | .bool=>P.underlying t=some .bool
 | .str=>P.underlying t=some .string
 | .sl e τ bytes=>P.underlying t=some (.slice e)∧(0<U.sz τ∧0<bytes)∧∃i z,P.info? e=some i∧i.size=U.sz τ∧i.bytes=bytes∧i.zero=some z∧z.cells.size=U.sz τ
 | .st fs _=>∃fl,P.underlying t=some (.struct fl)∧fl.size=fs.length∧∀(f:Nat) d,fs[f]?=some d→∃fd,fl[f]?=some fd∧fd.offset=d.1∧0<d.2.1∧jt P fd.type d.2.2 d.2.1
 | .ar len esz eagg=>∃e,P.underlying t=some (.array len e)∧jt P e eagg esz
 | .one=>True
 | .fn=>∃ps rs v,P.underlying t=some (.func ps rs v)
 | .oth=>True
def KB(v:Value)(c:C U):Prop:=∀(P:Program)(E:Enc U)(g:G)(ob:List (Option<|Ob U))(w:World),CRel P E g ob w v c
def EK.desc:EK→TypeDesc
 | .int k=>.int k
 | .str=>.string
 | .bool=>.bool
def Du(P:Program):Nat→List Field→List EK→Prop
 |_,[],[]=>True
 |i,f::fs,e::es=>(f.name≠ "_" ∧f.offset=i∧P.underlying f.type=some e.desc)∧Du P (i+1) fs es
 |_,_,_=>False
def KC(P:Program)(t:TypeId)(es:List EK):Prop:=
 P.eqGuardType P.depth t=false∧
 ((∃fl,P.underlying t=some (.struct fl)∧P.stoodInHeld t=false∧Du P 0 fl.toList es)∨
  (∃n e k,P.underlying t=some (.array n e)∧P.underlying e=some (EK.desc k)∧es=List.replicate n k∧P.cellsOf e=1∧∃i,P.info? e=some i))
structure TabOK(P:Program)(M:Mc U):Prop where
 eqs:∀t es,look t M.eqs=some es→KC P t es
 ti:∀t,RE P t<|M.ti t
 zero:∀t cs,M.zero t=some cs→∃i z,P.info? t=some i∧i.zero=some z∧All2 KB z.cells.toList cs
def DCRel(P:Program)(E:Enc U)(St:Nat→Nat→Prop)(w:World)(v:Value):DC U→Prop
 | .v x=>VRel E St w v x
 | .fn φ=>FunRel P E St w v φ
def DRel(P:Program)(E:Enc U)(St:Nat→Nat→Prop)(w:World)(v:Value):D U→Prop
 | .d x=>D0Rel E St w v x
 | .fn φ=>FunRel P E St w v φ
 | .box cs=>∃b,v=.pointer (some ⟨b,0,none⟩)∧∀(i:Nat) c,cs[i]?=some c→St b i∧∃u,w.cell? ⟨b,i,none⟩=some u∧DCRel P E St w u c
def pQ(P:Program)(E:Enc U)(St:Nat→Nat→Prop)(w w':World)(v:Value)(rs:List (A U))(os:List (Ob U)):Prop:=
 Ext w w'∧∃g:G,(∀k,¬g.lb k)∧(∀b o x,b<w.heap.size→g.ω b o=some x→x=.st∧St b o)∧(∀b o x,g.ω b o=some x→b<w'.heap.size)∧
  RetRel (ARel P E g (os.map some) w') v rs∧∀k o,os[k]?=some o→ObRel E g w' k o∧o.ver=0
def Contract(P:Program)(E:Enc U)(f:FuncId)(args:List (D U))(rs:List (A U))(os:List (Ob U)):Prop:=
 ∀(w:World)(St:Nat→Nat→Prop)(vs:List Value),(∀b o,St b o→b<w.heap.size)→All2 (DRel P E St w) vs args→Laid w→
  Calls P f vs.toArray w fun e w'=>∃v,e=.returned v∧pQ P E St w w' v rs os
def sI(P:Program)(E:Enc U)(f:FuncId)(args:List (D U))(ob:List Prop)(rs:List (D0 U)):Prop:=
 ∀(w:World)(St:Nat→Nat→Prop)(vs:List Value),(∀b o,St b o→b<w.heap.size)→All2 (DRel P E St w) vs args→Laid w→
  Calls P f vs.toArray w fun e w'=>∃v,e=.returned v∧Kw E St w w' v rs∧RA ob w w'
structure Part(P:Program)(E:Enc U)(g:G)(w:World)(bs:List (Bool×List (C U)))(os:List (Ob U)):Prop where
 bxs:∀k fz cells,bs[k]?=some (fz,cells)→g.lb k∧BoxRel P E g (os.map some) w k fz cells
 lbs:∀k,g.lb k→k<bs.length
 obs:∀k o,os[k]?=some o→ObRel E g w k o∧o.ver=0
 own:∀b o x,g.ω b o=some x→b<w.heap.size
 laid:Laid w
 nlb:∀b o x,LB b=true→g.ω b o=some x→x=.st
def G.mine(g:G)(b o:Nat):Prop:=∃y,y≠Own.st∧g.ω b o=some y
def rM(P:Program)(E:Enc U)(g:G)(w w':World)(v:Value)(rs:List (A U))(bxs':List (Bool×List (C U)))(obs':List (Ob U)):Prop:=
 ∃g':G,FExt ⟨w,g.mine,g.St,bxs'.length,g.β⟩ w'∧Part P E g' w' bxs' obs'∧(∀k,g.lb k→g'.β k=g.β k)∧(∀b o x,b<w.heap.size→g'.ω b o=some x→g.mine b o∨(x=.st∧g.St b o))∧RetRel (ARel P E g' (obs'.map some) w') v rs
def GContract(P:Program)(E:Enc U)(f:FuncId)(args:List (A U))(bxs:List (Bool×List (C U)))(obs:List (Ob U))(rs:List (A U))(bxs':List (Bool×List (C U)))(obs':List (Ob U)):Prop:=
 ∀(w:World)(g:G)(vs:List Value),Part P E g w bxs obs→All2 (ARel P E g (obs.map some) w) vs args→
  Calls P f vs.toArray w fun e w'=>∃v,e=.returned v∧rM P E g w w' v rs bxs' obs'
def RG(P:Program)(E:Enc U)(f:FuncId)(τ:U.Ty)(xs:List (U.Den τ))(ds:List (D U))(ys:List (U.Den τ)):Prop:=
 ∀(w:World)(g:G)(k ver:Nat)(live:Bool)(vs:List Value),ObRel E g w k ⟨ver,τ,xs,some 0,live⟩→(∀b o x,g.ω b o=some x→b<w.heap.size)→All2 (DRel P E g.St w) vs ds→Laid w→(∀b o,LB b=true→¬g.ω b o=some (.obj k))→
  Calls P f (.slice (g.tk k).1 xs.length (g.tk k).2::vs).toArray w fun e w'=>e=.returned (.tuple #[])∧ys.length=xs.length∧FExt ⟨w,fun b i=>g.ω b i=some (.obj k),g.St,0,g.β⟩ w'∧ObRel E g w' k ⟨ver,τ,ys,some 0,live⟩
structure FnsOK(P:Program)(M:Mc U):Prop where
 ups:∀f F τ xs ds ob ys,M.ups f=some F→F τ xs ds=some (ob,ys)→(∀p∈ob,p)→RG P M.E f τ xs ds ys∧dw P f
 gns:∀f ms F args bxs obs ob rs bxs' obs',M.gns f=some (ms,F)→F args bxs obs=some (ob,rs,bxs',obs')→(∀p∈ob,p)→GContract P M.E f args bxs obs rs bxs' obs'∧dw P f
 fns:∀f F args ob rs os,M.fns f=some F→F args=some (ob,rs,os)→(∀p∈ob,p)→Contract P M.E f args rs os∧dw P f
 fvb:∀f φ,M.fvs f=some φ→dw P f
 fvs:∀f φ args ob rs,M.fvs f=some φ→φ args=some (ob,rs)→(∀p∈ob,p)→sI P M.E f (args.map .d) ob rs
 clb:∀f F,M.clo f=some F→dw P f
 clo:∀f F dl φ args ob rs,M.clo f=some F→F dl=some φ→φ args=some (ob,rs)→(∀p∈ob,p)→sI P M.E f (args.map .d++dl.map .box) ob rs
def zC(P:Program)(t:TypeId)(agg:Bool)(n:Nat):Bool:=
 match P.underlying t,P.info? t with
 |some d,some i=>KA d==agg&&i.size==n
 |_,_=>false
theorem KD{P t agg n}(h:zC P t agg n=true):jt P t agg n:=by
 unfold zC at h;split at h
 ·rename_i d i h1 h2;simp at h;exact⟨d,i,h1,h.1,h2,h.2⟩
 grind
def nX(P:Program):List Field→List (Nat×Nat×Bool)→Bool
 |[],[]=>true
 |[],_::_=>false
 |_::_,[]=>false
 |fd::fl,d::ds=>fd.offset==d.1&&decide (0<d.2.1)&&zC P fd.type d.2.2 d.2.1&&nX P fl ds
def RH{P}:∀{fl:List Field}{ds:List (Nat×Nat×Bool)},nX P fl ds=true→∀(f:Nat) d,ds[f]?=some d→∃fd,fl[f]?=some fd∧fd.offset=d.1∧0<d.2.1∧jt P fd.type d.2.2 d.2.1
 |_,[],_,f,d,h=>by grind
 |[],_::_,hb,_,_,_=>by grind[nX]
 |fd::fl,d0::ds,hb,f,d,h=>by
  simp only[nX,yp,beq_iff_eq,decide_eq_true_eq]at hb;obtain⟨⟨⟨h1,h2⟩,h3⟩,h4⟩:=hb;cases f with
  |zero=>simp at h;subst h;exact⟨fd,rfl,h1,h2,KD h3⟩
  |succ f=>exact RH h4 f d h
theorem RI{P}:∀{fl:List Field}{ds:List (Nat×Nat×Bool)},nX P fl ds=true→fl.length=ds.length
 |[],[],_=>rfl
 |[],_::_,h=>by grind[nX]
 |_::_,[],h=>by grind[nX]
 |_::_,_::_,h=>by
  simp only[nX,yp]at h;simp[RI h.2]
def Gv(P:Program)(t:TypeId)(x:TI U):Bool:=
 (match x.shape with|some (agg,n)=>zC P t agg n|none=>true)&&
 match x with
 | .int k=>(match P.underlying t with|some (.int k')=>decide (k'=k)|_=>false)
 | .bool=>(match P.underlying t with|some .bool=>true|_=>false)
 | .str=>(match P.underlying t with|some .string=>true|_=>false)
 | .sl e τ bytes=>(match P.underlying t,P.info? e with
  |some (.slice e'),some i=>e'==e&&decide (0<U.sz τ∧0<bytes)&&i.size==U.sz τ&&i.bytes==bytes&&(match i.zero with|some z=>z.cells.size==U.sz τ|none=>false)
  |_,_=>false)
 | .st fs _=>(match P.underlying t with|some (.struct fl)=>nX P fl.toList fs|_=>false)
 | .ar len esz eagg=>(match P.underlying t with|some (.array len' e)=>len'==len&&zC P e eagg esz|_=>false)
 | .one=>true
 | .fn=>(match P.underlying t with|some (.func _ _ _)=>true|_=>false)
 | .oth=>true
def agt{P t}{x:TI U}(h:Gv P t x=true):RE P t x:=by
 simp only[Gv,yp]at h;obtain⟨h0,h1⟩:=h;refine⟨fun agg n hs=>?_,?_⟩
 ·simp_all[KD]
 ·cases x with
  |int k=>grind
  |bool=>grind
  |str=>grind
  |sl e τ bytes=>
   grind
  |st fs n=>
   dsimp only at h1 ⊢;split at h1
   ·rename_i fl h2;refine⟨fl,h2,by rw[←RI h1];simp,fun f d hd=>?_⟩;obtain⟨fd,i1,i2⟩:=RH h1 f d hd;exact⟨fd,by rw[nO]at i1;exact i1,i2⟩
   grind
  |ar len esz eagg=>
   dsimp only at h1 ⊢;split at h1
   ·rename_i len' e h2;simp at h1;obtain⟨rfl,h3⟩:=h1;exact⟨e,h2,KD h3⟩
   ·simp at h1
  |one=>simp
  |fn=>
   grind
  |oth=>simp
def agu{v}{c:C U}(h:zB v c=true):KB v c:=by
 intro P E g ob w;unfold zB at h;split at h
 ·simp at h;obtain⟨⟨rfl,rfl⟩,h2⟩:=h;exact⟨rfl,h2⟩
 ·simp at h;subst h;exact⟨rfl,rfl⟩
 ·rename_i b b';cases b;simp at h;obtain⟨h1,h2⟩:=h;subst h1;exact⟨rfl,h2⟩
 ·exact⟨rfl,rfl⟩
 ·exact⟨rfl,rfl⟩
 ·exact⟨.nil _ _ _,fun _=>⟨_,_,rfl⟩⟩
 grind
def KE:∀{vs:List Value}{cs:List (C U)},sG vs cs=true→All2 KB vs cs
 |[],[],_=>trivial
 |v::vs,c::cs,h=>by
  simp only[sG,yp]at h;exact⟨agu h.1,KE h.2⟩
 |[],_::_,h=>by grind[sG]
 |_::_,[],h=>by grind[sG]
def Dv:Option TypeDesc→EK→Bool
 |some (.int k),.int k'=>decide<|k=k'
 |some .string,.str=>true
 |some .bool,.bool=>true
 |_,_=>false
def RJ{d e}(h:Dv d e=true):d=some e.desc:=by
 unfold Dv at h;split at h
 ·have:=of_decide_eq_true h;subst this;rfl
 ·rfl
 ·rfl
 grind
def un(P:Program):Nat→List Field→List EK→Bool
 |_,[],[]=>true
 |i,f::fs,e::es=>(f.name != "_" &&f.offset==i&&Dv (P.underlying f.type) e)&&un P (i+1) fs es
 |_,_,_=>false
theorem RK{P}:∀{i:Nat}{fs:List Field}{es:List EK},un P i fs es=true→Du P i fs es
 |_,[],[],_=>trivial
 |i,f::fs,e::es,h=>by
  simp only[un,yp,bne_iff_ne,beq_iff_eq]at h;exact⟨⟨h.1.1.1,h.1.1.2,RJ h.1.2⟩,RK h.2⟩
 |_,[],_::_,h=>by grind[un]
 |_,_::_,[],h=>by grind[un]
def Qh(P:Program)(t:TypeId)(es:List EK):Bool:=
 !(P.eqGuardType P.depth t)&&match P.underlying t with
 |some (.struct fl)=>!(P.stoodInHeld t)&&un P 0 fl.toList es
 |some (.array n e)=>es.length==n&&(match es with|k::_=>es.all (fun x=>Dv (P.underlying e) x&&match x,k with| .int a,.int b=>decide (a=b)| .str,.str=>true| .bool,.bool=>true|_,_=>false)|[]=>false)&&P.cellsOf e==1&&(P.info? e).isSome
 |_=>false
def agv{P t es}(h:Qh P t es=true):KC P t es:=by
 unfold Qh at h;rw[yp]at h;refine⟨by grind,?_⟩;have h2:=h.2;split at h2
 ·simp_all[yp,RK]
 ·rename_i n e hu;simp at h2;obtain⟨⟨⟨h3,h4⟩,h5⟩,h6⟩:=h2;cases es with
  |nil=>grind
  |cons k r=>
   rw[y1b]at h4;have h7:=h4 k (by simp);rw[yp]at h7;refine .inr ⟨n,e,k,hu,RJ h7.1,?_,h5,Option.isSome_iff_exists.1 h6⟩;rw[List.eq_replicate_iff];grind
 grind
def RL(P:Program)(M:Mc U):Bool:=
 M.eqs.all (fun x=>Qh P x.1 x.2)&&M.tab.all (fun x=>Gv P x.1 x.2)&&M.zeros.all (fun x=>match P.info? x.1 with
  |some i=>(match i.zero with|some z=>sG z.cells.toList x.2|none=>false)
  |none=>false)
def sJ{α t x}:∀{l:List (Nat×α)},look t l=some x→(t,x)∈l
 |[],h=>by grind[look]
 |(k,y)::r,h=>by
  simp only[look]at h;split at h
  ·simp_all
  ·exact cV _<|sJ h
def agw{P}{M:Mc U}(h:RL P M=true):TabOK P M:=by
 simp only[RL,yp,y1b]at h;obtain⟨⟨h0,h1⟩,h2⟩:=h;have h:(∀x∈M.tab,Gv P x.1 x.2=true)∧_:=⟨h1,h2⟩;refine⟨fun t es he=>agv<|h0 (t,es)<|sJ he,fun t=>?_,fun t cs hz=>?_⟩
 ·unfold Mc.ti;cases hl:look t M.tab with
  |none=>exact⟨fun _ _ hs=>by grind[TI.shape],trivial⟩
  |some x=>exact agt<|h.1 (t,x)<|sJ hl
 ·have:=h.2 (t,cs)<|sJ hz;cases hi:P.info? t with
  |none=>grind
  |some i=>
   cases hz':i.zero with
   |none=>grind
   |some z=>simp[hi,hz']at this;exact⟨i,z,rfl,hz',KE this⟩
end Go.Proofs.YtjfpbchdcbhfgaaGreat.B
