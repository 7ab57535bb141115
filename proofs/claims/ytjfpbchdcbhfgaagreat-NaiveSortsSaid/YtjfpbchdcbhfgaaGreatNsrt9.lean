/- Part 9 of the proof: BData. -/
import Derived.Test.YtjfpbchdcbhfgaaGreatNsrt8
namespace Go.Proofs.YtjfpbchdcbhfgaaGreat.B
open Go
structure Val where
 kind : Int
 n : Int
 s : ByteArray
def z7 : Val:=⟨0,0,⟨#[]⟩⟩
structure Col where
 table : ByteArray
 name : ByteArray
 type : Int
def z47 : Col:=⟨⟨#[]⟩,⟨#[]⟩,0⟩
structure By where
 at_ : Int
 down : Bool
def z6n : By:=⟨0,false⟩
structure Bound where
 is : Bool
 open_ : Bool
 key : List Val
def zlu : Bound:=⟨false,false,[]⟩
structure Often where
 v : Val
 n : Int
def z1xy : Often:=⟨z7,0⟩
structure ColStat where
 nulls : Int
 distinct : Int
 ends : List Val
 common : List Often
def z15f : ColStat:=⟨0,0,[],[]⟩
structure Data where
 table : ByteArray
 rows : List (List Val)
def zjr : Data:=⟨⟨#[]⟩,[]⟩
structure Acc where
 name : ByteArray
 distinct : Bool
 n : Int
 hi : Int
 lo : Int
 v : Val
 l : List Val
def z22y : Acc:=⟨⟨#[]⟩,false,0,0,0,z7,[]⟩
structure Stat where
 table : ByteArray
 rows : Int
 pages : Int
 cols : List ColStat
def z20s : Stat:=⟨⟨#[]⟩,0,0,[]⟩
structure Column where
 c : ColStat
 nulls : Int
 others : Int
 all : Int
def z1v7 : Column:=⟨z15f,0,0,0⟩
mutual
inductive Term
 | mk (op:Int) (v:Val) (depth:Int) (at_:Int) (name:ByteArray) (kids:List Term) (sub:List Rel) (type:Int)
inductive Agg
 | mk (name:ByteArray) (distinct:Bool) (t:List Term)
inductive Rel
 | mk (op:Int) (table:ByteArray) (cols:List Col) (kids:List Rel) (terms:List Term) (aggs:List Agg) (keys:List By) (limit:Int) (skip:Int) (all:Bool) (rows:List (List Val))
end
def Term.op : Term→Int | .mk x _ _ _ _ _ _ _=>x
@[simp] theorem Term.op_mk (op:Int) (v:Val) (depth:Int) (at_:Int) (name:ByteArray) (kids:List Term) (sub:List Rel) (type:Int) : (Term.mk op v depth at_ name kids sub type).op=op:=rfl
def Term.v : Term→Val | .mk _ x _ _ _ _ _ _=>x
@[simp] theorem Term.v_mk (op:Int) (v:Val) (depth:Int) (at_:Int) (name:ByteArray) (kids:List Term) (sub:List Rel) (type:Int) : (Term.mk op v depth at_ name kids sub type).v=v:=rfl
def Term.depth : Term→Int | .mk _ _ x _ _ _ _ _=>x
@[simp] theorem Term.depth_mk (op:Int) (v:Val) (depth:Int) (at_:Int) (name:ByteArray) (kids:List Term) (sub:List Rel) (type:Int) : (Term.mk op v depth at_ name kids sub type).depth=depth:=rfl
def Term.at_ : Term→Int | .mk _ _ _ x _ _ _ _=>x
@[simp] theorem Term.at__mk (op:Int) (v:Val) (depth:Int) (at_:Int) (name:ByteArray) (kids:List Term) (sub:List Rel) (type:Int) : (Term.mk op v depth at_ name kids sub type).at_=at_:=rfl
def Term.name : Term→ByteArray | .mk _ _ _ _ x _ _ _=>x
@[simp] theorem Term.name_mk (op:Int) (v:Val) (depth:Int) (at_:Int) (name:ByteArray) (kids:List Term) (sub:List Rel) (type:Int) : (Term.mk op v depth at_ name kids sub type).name=name:=rfl
def Term.kids : Term→List Term | .mk _ _ _ _ _ x _ _=>x
@[simp] theorem Term.kids_mk (op:Int) (v:Val) (depth:Int) (at_:Int) (name:ByteArray) (kids:List Term) (sub:List Rel) (type:Int) : (Term.mk op v depth at_ name kids sub type).kids=kids:=rfl
def Term.sub : Term→List Rel | .mk _ _ _ _ _ _ x _=>x
@[simp] theorem Term.sub_mk (op:Int) (v:Val) (depth:Int) (at_:Int) (name:ByteArray) (kids:List Term) (sub:List Rel) (type:Int) : (Term.mk op v depth at_ name kids sub type).sub=sub:=rfl
def Term.type : Term→Int | .mk _ _ _ _ _ _ _ x=>x
@[simp] theorem Term.type_mk (op:Int) (v:Val) (depth:Int) (at_:Int) (name:ByteArray) (kids:List Term) (sub:List Rel) (type:Int) : (Term.mk op v depth at_ name kids sub type).type=type:=rfl
def z1h : Term:=.mk 0 z7 0 0 ⟨#[]⟩ [] [] 0
def Agg.name : Agg→ByteArray | .mk x _ _=>x
@[simp] theorem Agg.name_mk (name:ByteArray) (distinct:Bool) (t:List Term) : (Agg.mk name distinct t).name=name:=rfl
def Agg.distinct : Agg→Bool | .mk _ x _=>x
@[simp] theorem Agg.distinct_mk (name:ByteArray) (distinct:Bool) (t:List Term) : (Agg.mk name distinct t).distinct=distinct:=rfl
def Agg.t : Agg→List Term | .mk _ _ x=>x
@[simp] theorem Agg.t_mk (name:ByteArray) (distinct:Bool) (t:List Term) : (Agg.mk name distinct t).t=t:=rfl
def z37 : Agg:=.mk ⟨#[]⟩ false []
def Rel.op : Rel→Int | .mk x _ _ _ _ _ _ _ _ _ _=>x
@[simp] theorem Rel.op_mk (op:Int) (table:ByteArray) (cols:List Col) (kids:List Rel) (terms:List Term) (aggs:List Agg) (keys:List By) (limit:Int) (skip:Int) (all:Bool) (rows:List (List Val)) : (Rel.mk op table cols kids terms aggs keys limit skip all rows).op=op:=rfl
def Rel.table : Rel→ByteArray | .mk _ x _ _ _ _ _ _ _ _ _=>x
@[simp] theorem Rel.table_mk (op:Int) (table:ByteArray) (cols:List Col) (kids:List Rel) (terms:List Term) (aggs:List Agg) (keys:List By) (limit:Int) (skip:Int) (all:Bool) (rows:List (List Val)) : (Rel.mk op table cols kids terms aggs keys limit skip all rows).table=table:=rfl
def Rel.cols : Rel→List Col | .mk _ _ x _ _ _ _ _ _ _ _=>x
@[simp] theorem Rel.cols_mk (op:Int) (table:ByteArray) (cols:List Col) (kids:List Rel) (terms:List Term) (aggs:List Agg) (keys:List By) (limit:Int) (skip:Int) (all:Bool) (rows:List (List Val)) : (Rel.mk op table cols kids terms aggs keys limit skip all rows).cols=cols:=rfl
def Rel.kids : Rel→List Rel | .mk _ _ _ x _ _ _ _ _ _ _=>x
@[simp] theorem Rel.kids_mk (op:Int) (table:ByteArray) (cols:List Col) (kids:List Rel) (terms:List Term) (aggs:List Agg) (keys:List By) (limit:Int) (skip:Int) (all:Bool) (rows:List (List Val)) : (Rel.mk op table cols kids terms aggs keys limit skip all rows).kids=kids:=rfl
def Rel.terms : Rel→List Term | .mk _ _ _ _ x _ _ _ _ _ _=>x
@[simp] theorem Rel.terms_mk (op:Int) (table:ByteArray) (cols:List Col) (kids:List Rel) (terms:List Term) (aggs:List Agg) (keys:List By) (limit:Int) (skip:Int) (all:Bool) (rows:List (List Val)) : (Rel.mk op table cols kids terms aggs keys limit skip all rows).terms=terms:=rfl
def Rel.aggs : Rel→List Agg | .mk _ _ _ _ _ x _ _ _ _ _=>x
@[simp] theorem Rel.aggs_mk (op:Int) (table:ByteArray) (cols:List Col) (kids:List Rel) (terms:List Term) (aggs:List Agg) (keys:List By) (limit:Int) (skip:Int) (all:Bool) (rows:List (List Val)) : (Rel.mk op table cols kids terms aggs keys limit skip all rows).aggs=aggs:=rfl
def Rel.keys : Rel→List By | .mk _ _ _ _ _ _ x _ _ _ _=>x
@[simp] theorem Rel.keys_mk (op:Int) (table:ByteArray) (cols:List Col) (kids:List Rel) (terms:List Term) (aggs:List Agg) (keys:List By) (limit:Int) (skip:Int) (all:Bool) (rows:List (List Val)) : (Rel.mk op table cols kids terms aggs keys limit skip all rows).keys=keys:=rfl
def Rel.limit : Rel→Int | .mk _ _ _ _ _ _ _ x _ _ _=>x
@[simp] theorem Rel.limit_mk (op:Int) (table:ByteArray) (cols:List Col) (kids:List Rel) (terms:List Term) (aggs:List Agg) (keys:List By) (limit:Int) (skip:Int) (all:Bool) (rows:List (List Val)) : (Rel.mk op table cols kids terms aggs keys limit skip all rows).limit=limit:=rfl
def Rel.skip : Rel→Int | .mk _ _ _ _ _ _ _ _ x _ _=>x
@[simp] theorem Rel.skip_mk (op:Int) (table:ByteArray) (cols:List Col) (kids:List Rel) (terms:List Term) (aggs:List Agg) (keys:List By) (limit:Int) (skip:Int) (all:Bool) (rows:List (List Val)) : (Rel.mk op table cols kids terms aggs keys limit skip all rows).skip=skip:=rfl
def Rel.all : Rel→Bool | .mk _ _ _ _ _ _ _ _ _ x _=>x
@[simp] theorem Rel.all_mk (op:Int) (table:ByteArray) (cols:List Col) (kids:List Rel) (terms:List Term) (aggs:List Agg) (keys:List By) (limit:Int) (skip:Int) (all:Bool) (rows:List (List Val)) : (Rel.mk op table cols kids terms aggs keys limit skip all rows).all=all:=rfl
def Rel.rows : Rel→List (List Val) | .mk _ _ _ _ _ _ _ _ _ _ x=>x
@[simp] theorem Rel.rows_mk (op:Int) (table:ByteArray) (cols:List Col) (kids:List Rel) (terms:List Term) (aggs:List Agg) (keys:List By) (limit:Int) (skip:Int) (all:Bool) (rows:List (List Val)) : (Rel.mk op table cols kids terms aggs keys limit skip all rows).rows=rows:=rfl
def zi : Rel:=.mk 0 ⟨#[]⟩ [] [] [] [] [] 0 0 false []
mutual
inductive Plan
 | mk (op:Int) (table:ByteArray) (index:ByteArray) (cols:List Col) (kids:List Plan) (terms:List Term) (lkeys:List Term) (rkeys:List Term) (aggs:List Agg) (keys:List By) (out:List Int) (lo:Bound) (hi:Bound) (limit:Int) (skip:Int) (all:Bool) (rows:List (List Val)) (est:Int) (cost:Int)
end
def Plan.op : Plan→Int | .mk x _ _ _ _ _ _ _ _ _ _ _ _ _ _ _ _ _ _=>x
@[simp] theorem Plan.op_mk (op:Int) (table:ByteArray) (index:ByteArray) (cols:List Col) (kids:List Plan) (terms:List Term) (lkeys:List Term) (rkeys:List Term) (aggs:List Agg) (keys:List By) (out:List Int) (lo:Bound) (hi:Bound) (limit:Int) (skip:Int) (all:Bool) (rows:List (List Val)) (est:Int) (cost:Int) : (Plan.mk op table index cols kids terms lkeys rkeys aggs keys out lo hi limit skip all rows est cost).op=op:=rfl
def Plan.table : Plan→ByteArray | .mk _ x _ _ _ _ _ _ _ _ _ _ _ _ _ _ _ _ _=>x
@[simp] theorem Plan.table_mk (op:Int) (table:ByteArray) (index:ByteArray) (cols:List Col) (kids:List Plan) (terms:List Term) (lkeys:List Term) (rkeys:List Term) (aggs:List Agg) (keys:List By) (out:List Int) (lo:Bound) (hi:Bound) (limit:Int) (skip:Int) (all:Bool) (rows:List (List Val)) (est:Int) (cost:Int) : (Plan.mk op table index cols kids terms lkeys rkeys aggs keys out lo hi limit skip all rows est cost).table=table:=rfl
def Plan.index : Plan→ByteArray | .mk _ _ x _ _ _ _ _ _ _ _ _ _ _ _ _ _ _ _=>x
@[simp] theorem Plan.index_mk (op:Int) (table:ByteArray) (index:ByteArray) (cols:List Col) (kids:List Plan) (terms:List Term) (lkeys:List Term) (rkeys:List Term) (aggs:List Agg) (keys:List By) (out:List Int) (lo:Bound) (hi:Bound) (limit:Int) (skip:Int) (all:Bool) (rows:List (List Val)) (est:Int) (cost:Int) : (Plan.mk op table index cols kids terms lkeys rkeys aggs keys out lo hi limit skip all rows est cost).index=index:=rfl
def Plan.cols : Plan→List Col | .mk _ _ _ x _ _ _ _ _ _ _ _ _ _ _ _ _ _ _=>x
@[simp] theorem Plan.cols_mk (op:Int) (table:ByteArray) (index:ByteArray) (cols:List Col) (kids:List Plan) (terms:List Term) (lkeys:List Term) (rkeys:List Term) (aggs:List Agg) (keys:List By) (out:List Int) (lo:Bound) (hi:Bound) (limit:Int) (skip:Int) (all:Bool) (rows:List (List Val)) (est:Int) (cost:Int) : (Plan.mk op table index cols kids terms lkeys rkeys aggs keys out lo hi limit skip all rows est cost).cols=cols:=rfl
def Plan.kids : Plan→List Plan | .mk _ _ _ _ x _ _ _ _ _ _ _ _ _ _ _ _ _ _=>x
@[simp] theorem Plan.kids_mk (op:Int) (table:ByteArray) (index:ByteArray) (cols:List Col) (kids:List Plan) (terms:List Term) (lkeys:List Term) (rkeys:List Term) (aggs:List Agg) (keys:List By) (out:List Int) (lo:Bound) (hi:Bound) (limit:Int) (skip:Int) (all:Bool) (rows:List (List Val)) (est:Int) (cost:Int) : (Plan.mk op table index cols kids terms lkeys rkeys aggs keys out lo hi limit skip all rows est cost).kids=kids:=rfl
def Plan.terms : Plan→List Term | .mk _ _ _ _ _ x _ _ _ _ _ _ _ _ _ _ _ _ _=>x
@[simp] theorem Plan.terms_mk (op:Int) (table:ByteArray) (index:ByteArray) (cols:List Col) (kids:List Plan) (terms:List Term) (lkeys:List Term) (rkeys:List Term) (aggs:List Agg) (keys:List By) (out:List Int) (lo:Bound) (hi:Bound) (limit:Int) (skip:Int) (all:Bool) (rows:List (List Val)) (est:Int) (cost:Int) : (Plan.mk op table index cols kids terms lkeys rkeys aggs keys out lo hi limit skip all rows est cost).terms=terms:=rfl
def Plan.lkeys : Plan→List Term | .mk _ _ _ _ _ _ x _ _ _ _ _ _ _ _ _ _ _ _=>x
@[simp] theorem Plan.lkeys_mk (op:Int) (table:ByteArray) (index:ByteArray) (cols:List Col) (kids:List Plan) (terms:List Term) (lkeys:List Term) (rkeys:List Term) (aggs:List Agg) (keys:List By) (out:List Int) (lo:Bound) (hi:Bound) (limit:Int) (skip:Int) (all:Bool) (rows:List (List Val)) (est:Int) (cost:Int) : (Plan.mk op table index cols kids terms lkeys rkeys aggs keys out lo hi limit skip all rows est cost).lkeys=lkeys:=rfl
def Plan.rkeys : Plan→List Term | .mk _ _ _ _ _ _ _ x _ _ _ _ _ _ _ _ _ _ _=>x
@[simp] theorem Plan.rkeys_mk (op:Int) (table:ByteArray) (index:ByteArray) (cols:List Col) (kids:List Plan) (terms:List Term) (lkeys:List Term) (rkeys:List Term) (aggs:List Agg) (keys:List By) (out:List Int) (lo:Bound) (hi:Bound) (limit:Int) (skip:Int) (all:Bool) (rows:List (List Val)) (est:Int) (cost:Int) : (Plan.mk op table index cols kids terms lkeys rkeys aggs keys out lo hi limit skip all rows est cost).rkeys=rkeys:=rfl
def Plan.aggs : Plan→List Agg | .mk _ _ _ _ _ _ _ _ x _ _ _ _ _ _ _ _ _ _=>x
@[simp] theorem Plan.aggs_mk (op:Int) (table:ByteArray) (index:ByteArray) (cols:List Col) (kids:List Plan) (terms:List Term) (lkeys:List Term) (rkeys:List Term) (aggs:List Agg) (keys:List By) (out:List Int) (lo:Bound) (hi:Bound) (limit:Int) (skip:Int) (all:Bool) (rows:List (List Val)) (est:Int) (cost:Int) : (Plan.mk op table index cols kids terms lkeys rkeys aggs keys out lo hi limit skip all rows est cost).aggs=aggs:=rfl
def Plan.keys : Plan→List By | .mk _ _ _ _ _ _ _ _ _ x _ _ _ _ _ _ _ _ _=>x
@[simp] theorem Plan.keys_mk (op:Int) (table:ByteArray) (index:ByteArray) (cols:List Col) (kids:List Plan) (terms:List Term) (lkeys:List Term) (rkeys:List Term) (aggs:List Agg) (keys:List By) (out:List Int) (lo:Bound) (hi:Bound) (limit:Int) (skip:Int) (all:Bool) (rows:List (List Val)) (est:Int) (cost:Int) : (Plan.mk op table index cols kids terms lkeys rkeys aggs keys out lo hi limit skip all rows est cost).keys=keys:=rfl
def Plan.out : Plan→List Int | .mk _ _ _ _ _ _ _ _ _ _ x _ _ _ _ _ _ _ _=>x
@[simp] theorem Plan.out_mk (op:Int) (table:ByteArray) (index:ByteArray) (cols:List Col) (kids:List Plan) (terms:List Term) (lkeys:List Term) (rkeys:List Term) (aggs:List Agg) (keys:List By) (out:List Int) (lo:Bound) (hi:Bound) (limit:Int) (skip:Int) (all:Bool) (rows:List (List Val)) (est:Int) (cost:Int) : (Plan.mk op table index cols kids terms lkeys rkeys aggs keys out lo hi limit skip all rows est cost).out=out:=rfl
def Plan.lo : Plan→Bound | .mk _ _ _ _ _ _ _ _ _ _ _ x _ _ _ _ _ _ _=>x
@[simp] theorem Plan.lo_mk (op:Int) (table:ByteArray) (index:ByteArray) (cols:List Col) (kids:List Plan) (terms:List Term) (lkeys:List Term) (rkeys:List Term) (aggs:List Agg) (keys:List By) (out:List Int) (lo:Bound) (hi:Bound) (limit:Int) (skip:Int) (all:Bool) (rows:List (List Val)) (est:Int) (cost:Int) : (Plan.mk op table index cols kids terms lkeys rkeys aggs keys out lo hi limit skip all rows est cost).lo=lo:=rfl
def Plan.hi : Plan→Bound | .mk _ _ _ _ _ _ _ _ _ _ _ _ x _ _ _ _ _ _=>x
@[simp] theorem Plan.hi_mk (op:Int) (table:ByteArray) (index:ByteArray) (cols:List Col) (kids:List Plan) (terms:List Term) (lkeys:List Term) (rkeys:List Term) (aggs:List Agg) (keys:List By) (out:List Int) (lo:Bound) (hi:Bound) (limit:Int) (skip:Int) (all:Bool) (rows:List (List Val)) (est:Int) (cost:Int) : (Plan.mk op table index cols kids terms lkeys rkeys aggs keys out lo hi limit skip all rows est cost).hi=hi:=rfl
def Plan.limit : Plan→Int | .mk _ _ _ _ _ _ _ _ _ _ _ _ _ x _ _ _ _ _=>x
@[simp] theorem Plan.limit_mk (op:Int) (table:ByteArray) (index:ByteArray) (cols:List Col) (kids:List Plan) (terms:List Term) (lkeys:List Term) (rkeys:List Term) (aggs:List Agg) (keys:List By) (out:List Int) (lo:Bound) (hi:Bound) (limit:Int) (skip:Int) (all:Bool) (rows:List (List Val)) (est:Int) (cost:Int) : (Plan.mk op table index cols kids terms lkeys rkeys aggs keys out lo hi limit skip all rows est cost).limit=limit:=rfl
def Plan.skip : Plan→Int | .mk _ _ _ _ _ _ _ _ _ _ _ _ _ _ x _ _ _ _=>x
@[simp] theorem Plan.skip_mk (op:Int) (table:ByteArray) (index:ByteArray) (cols:List Col) (kids:List Plan) (terms:List Term) (lkeys:List Term) (rkeys:List Term) (aggs:List Agg) (keys:List By) (out:List Int) (lo:Bound) (hi:Bound) (limit:Int) (skip:Int) (all:Bool) (rows:List (List Val)) (est:Int) (cost:Int) : (Plan.mk op table index cols kids terms lkeys rkeys aggs keys out lo hi limit skip all rows est cost).skip=skip:=rfl
def Plan.all : Plan→Bool | .mk _ _ _ _ _ _ _ _ _ _ _ _ _ _ _ x _ _ _=>x
@[simp] theorem Plan.all_mk (op:Int) (table:ByteArray) (index:ByteArray) (cols:List Col) (kids:List Plan) (terms:List Term) (lkeys:List Term) (rkeys:List Term) (aggs:List Agg) (keys:List By) (out:List Int) (lo:Bound) (hi:Bound) (limit:Int) (skip:Int) (all:Bool) (rows:List (List Val)) (est:Int) (cost:Int) : (Plan.mk op table index cols kids terms lkeys rkeys aggs keys out lo hi limit skip all rows est cost).all=all:=rfl
def Plan.rows : Plan→List (List Val) | .mk _ _ _ _ _ _ _ _ _ _ _ _ _ _ _ _ x _ _=>x
@[simp] theorem Plan.rows_mk (op:Int) (table:ByteArray) (index:ByteArray) (cols:List Col) (kids:List Plan) (terms:List Term) (lkeys:List Term) (rkeys:List Term) (aggs:List Agg) (keys:List By) (out:List Int) (lo:Bound) (hi:Bound) (limit:Int) (skip:Int) (all:Bool) (rows:List (List Val)) (est:Int) (cost:Int) : (Plan.mk op table index cols kids terms lkeys rkeys aggs keys out lo hi limit skip all rows est cost).rows=rows:=rfl
def Plan.est : Plan→Int | .mk _ _ _ _ _ _ _ _ _ _ _ _ _ _ _ _ _ x _=>x
@[simp] theorem Plan.est_mk (op:Int) (table:ByteArray) (index:ByteArray) (cols:List Col) (kids:List Plan) (terms:List Term) (lkeys:List Term) (rkeys:List Term) (aggs:List Agg) (keys:List By) (out:List Int) (lo:Bound) (hi:Bound) (limit:Int) (skip:Int) (all:Bool) (rows:List (List Val)) (est:Int) (cost:Int) : (Plan.mk op table index cols kids terms lkeys rkeys aggs keys out lo hi limit skip all rows est cost).est=est:=rfl
def Plan.cost : Plan→Int | .mk _ _ _ _ _ _ _ _ _ _ _ _ _ _ _ _ _ _ x=>x
@[simp] theorem Plan.cost_mk (op:Int) (table:ByteArray) (index:ByteArray) (cols:List Col) (kids:List Plan) (terms:List Term) (lkeys:List Term) (rkeys:List Term) (aggs:List Agg) (keys:List By) (out:List Int) (lo:Bound) (hi:Bound) (limit:Int) (skip:Int) (all:Bool) (rows:List (List Val)) (est:Int) (cost:Int) : (Plan.mk op table index cols kids terms lkeys rkeys aggs keys out lo hi limit skip all rows est cost).cost=cost:=rfl
def z20t : Plan:=.mk 0 ⟨#[]⟩ ⟨#[]⟩ [] [] [] [] [] [] [] [] zlu zlu 0 0 false [] 0 0
structure Sign where
 kind : Int
 b : Int
def zjs : Sign:=⟨0,0⟩
structure Bunch where
 key : List Val
 rows : List (List Val)
def zl : Bunch:=⟨[],[]⟩
structure Wld where
 env : List (List Val)
 db : List Data
def z145 : Wld:=⟨[],[]⟩
structure Span where
 front : List Val
 lo : Bound
 hi : Bound
 n : Int
 counts : List Term
def z20u : Span:=⟨[],zlu,zlu,0,[]⟩
inductive Ty
 | int | str | row | ints | pair | u8 | bol | trms | colss | rowss | val | col | by_ | bound | often | colStat | data | acc | stat | column | term | agg | rel | plan | sign | bunch | wld | span
 deriving DecidableEq
@[reducible] def Den : Ty→Type
 | .int=>Int
 | .str=>ByteArray
 | .row=>List Val
 | .ints=>List Int
 | .pair=>Int×Int
 | .u8=>Int
 | .bol=>Bool
 | .trms=>List Term
 | .colss=>List Col
 | .rowss=>List (List Val)
 | .val=>Val
 | .col=>Col
 | .by_=>By
 | .bound=>Bound
 | .often=>Often
 | .colStat=>ColStat
 | .data=>Data
 | .acc=>Acc
 | .stat=>Stat
 | .column=>Column
 | .term=>Term
 | .agg=>Agg
 | .rel=>Rel
 | .plan=>Plan
 | .sign=>Sign
 | .bunch=>Bunch
 | .wld=>Wld
 | .span=>Span
def dflt : (τ:Ty)→Den τ
 | .int=>(0:Int)
 | .str=>(⟨#[]⟩ : ByteArray)
 | .row=>([] : List Val)
 | .ints=>([] : List Int)
 | .pair=>((0,0) : Int×Int)
 | .u8=>(0:Int)
 | .bol=>(false:Bool)
 | .trms=>([] : List Term)
 | .colss=>([] : List Col)
 | .rowss=>([] : List (List Val))
 | .val=>(z7:Val)
 | .col=>(z47:Col)
 | .by_=>(z6n:By)
 | .bound=>(zlu:Bound)
 | .often=>(z1xy:Often)
 | .colStat=>(z15f:ColStat)
 | .data=>(zjr:Data)
 | .acc=>(z22y:Acc)
 | .stat=>(z20s:Stat)
 | .column=>(z1v7:Column)
 | .term=>(z1h:Term)
 | .agg=>(z37:Agg)
 | .rel=>(zi:Rel)
 | .plan=>(z20t:Plan)
 | .sign=>(zjs:Sign)
 | .bunch=>(zl:Bunch)
 | .wld=>(z145:Wld)
 | .span=>(z20u:Span)
def sz : Ty→Nat
 | .int=>1
 | .str=>1
 | .row=>1
 | .ints=>1
 | .pair=>2
 | .u8=>1
 | .bol=>1
 | .trms=>1
 | .colss=>1
 | .rowss=>1
 | .val=>3
 | .col=>3
 | .by_=>2
 | .bound=>3
 | .often=>4
 | .colStat=>4
 | .data=>2
 | .acc=>9
 | .stat=>4
 | .column=>7
 | .term=>10
 | .agg=>3
 | .rel=>11
 | .plan=>23
 | .sign=>2
 | .bunch=>2
 | .wld=>2
 | .span=>9
@[reducible] def Un : Uni:=⟨Ty,inferInstance,Den,dflt,sz⟩
def ci (n:Int) : V Un:=.s (.int .i64 n)
def cu8 (n:Int) : V Un:=.s (.int .u8 n)
def cb (b:Bool) : V Un:=.s (.bool b)
def cs (s:ByteArray) : V Un:=.s (.string s)
def enc : (τ:Ty)→Den τ→List (V Un)
 | .int,(x:Int)=>[ci x]
 | .str,(x:ByteArray)=>[cs x]
 | .row,(x:List Val)=>[.dat (U:=Un) Ty.val x]
 | .ints,(x:List Int)=>[.dat (U:=Un) Ty.int x]
 | .pair,(x:Int×Int)=>[ci x.1,ci x.2]
 | .u8,(x:Int)=>[cu8 x]
 | .bol,(x:Bool)=>[cb x]
 | .trms,(x:List Term)=>[.dat (U:=Un) Ty.term x]
 | .colss,(x:List Col)=>[.dat (U:=Un) Ty.col x]
 | .rowss,(x:List (List Val))=>[.dat (U:=Un) Ty.row x]
 | .val,(x:Val)=>[ci x.kind,ci x.n,cs x.s]
 | .col,(x:Col)=>[cs x.table,cs x.name,ci x.type]
 | .by_,(x:By)=>[ci x.at_,cb x.down]
 | .bound,(x:Bound)=>[cb x.is,cb x.open_,.dat (U:=Un) Ty.val x.key]
 | .often,(x:Often)=>[ci x.v.kind,ci x.v.n,cs x.v.s,ci x.n]
 | .colStat,(x:ColStat)=>[ci x.nulls,ci x.distinct,.dat (U:=Un) Ty.val x.ends,.dat (U:=Un) Ty.often x.common]
 | .data,(x:Data)=>[cs x.table,.dat (U:=Un) Ty.row x.rows]
 | .acc,(x:Acc)=>[cs x.name,cb x.distinct,ci x.n,ci x.hi,ci x.lo,ci x.v.kind,ci x.v.n,cs x.v.s,.dat (U:=Un) Ty.val x.l]
 | .stat,(x:Stat)=>[cs x.table,ci x.rows,ci x.pages,.dat (U:=Un) Ty.colStat x.cols]
 | .column,(x:Column)=>[ci x.c.nulls,ci x.c.distinct,.dat (U:=Un) Ty.val x.c.ends,.dat (U:=Un) Ty.often x.c.common,ci x.nulls,ci x.others,ci x.all]
 | .term,(x:Term)=>[ci x.op,ci x.v.kind,ci x.v.n,cs x.v.s,ci x.depth,ci x.at_,cs x.name,.dat (U:=Un) Ty.term x.kids,.dat (U:=Un) Ty.rel x.sub,ci x.type]
 | .agg,(x:Agg)=>[cs x.name,cb x.distinct,.dat (U:=Un) Ty.term x.t]
 | .rel,(x:Rel)=>[ci x.op,cs x.table,.dat (U:=Un) Ty.col x.cols,.dat (U:=Un) Ty.rel x.kids,.dat (U:=Un) Ty.term x.terms,.dat (U:=Un) Ty.agg x.aggs,.dat (U:=Un) Ty.by_ x.keys,ci x.limit,ci x.skip,cb x.all,.dat (U:=Un) Ty.row x.rows]
 | .plan,(x:Plan)=>[ci x.op,cs x.table,cs x.index,.dat (U:=Un) Ty.col x.cols,.dat (U:=Un) Ty.plan x.kids,.dat (U:=Un) Ty.term x.terms,.dat (U:=Un) Ty.term x.lkeys,.dat (U:=Un) Ty.term x.rkeys,.dat (U:=Un) Ty.agg x.aggs,.dat (U:=Un) Ty.by_ x.keys,.dat (U:=Un) Ty.int x.out,cb x.lo.is,cb x.lo.open_,.dat (U:=Un) Ty.val x.lo.key,cb x.hi.is,cb x.hi.open_,.dat (U:=Un) Ty.val x.hi.key,ci x.limit,ci x.skip,cb x.all,.dat (U:=Un) Ty.row x.rows,ci x.est,ci x.cost]
 | .sign,(x:Sign)=>[ci x.kind,cu8 x.b]
 | .bunch,(x:Bunch)=>[.dat (U:=Un) Ty.val x.key,.dat (U:=Un) Ty.row x.rows]
 | .wld,(x:Wld)=>[.dat (U:=Un) Ty.row x.env,.dat (U:=Un) Ty.data x.db]
 | .span,(x:Span)=>[.dat (U:=Un) Ty.val x.front,cb x.lo.is,cb x.lo.open_,.dat (U:=Un) Ty.val x.lo.key,cb x.hi.is,cb x.hi.open_,.dat (U:=Un) Ty.val x.hi.key,ci x.n,.dat (U:=Un) Ty.term x.counts]
def int? : V Un→Option Int | .s (.int .i64 n)=>some n | _=>none
def u8? : V Un→Option Int | .s (.int .u8 n)=>some n | _=>none
def z9n : V Un→Option Bool | .s (.bool b)=>some b | _=>none
def str? : V Un→Option ByteArray | .s (.string s)=>some s | _=>none
def lst? (τ:Ty) : V Un→Option (List (Den τ))
 | .dat τ' xs=>match instDecidableEqTy τ' τ with | .isTrue h=>some (h ▸ xs) | .isFalse _=>none
 | _=>none
theorem z2e {c:V Un} {n:Int} (h:int? c=some n) : c=ci n:=by unfold int? at h;split at h<;>simp at h;subst h;rfl
theorem z22p {c:V Un} {n:Int} (h:u8? c=some n) : c=cu8 n:=by unfold u8? at h;split at h<;>simp at h;subst h;rfl
theorem z6x {c:V Un} {n:Bool} (h:z9n c=some n) : c=cb n:=by unfold z9n at h;split at h<;>simp at h;subst h;rfl
theorem z9c {c:V Un} {n:ByteArray} (h:str? c=some n) : c=cs n:=by unfold str? at h;split at h<;>simp at h;subst h;rfl
theorem z25 {τ:Ty} {c:V Un} {n:List (Den τ)} (h:lst? τ c=some n) : c=.dat (U:=Un) τ n:=by
 cases c with
 | s x=>simp [lst?] at h
 | dat τ' xs =>
  simp only[lst?] at h
  split at h
  ·rename_i hh _;subst hh;simp at h;subst h;rfl
  ·simp at h
def z1fy : List (V Un)→Option (Int)
 | [c0]=>(int? c0).bind fun a0=>some a0
 | _=>none
theorem z20v {l:List (V Un)} {x:Int} (h:z1fy l=some x) : enc .int x=l:=by
 unfold z1fy at h
 split at h
 ·simp only[Option.bind_eq_some_iff,Option.some.injEq] at h
  obtain⟨a0,h0,rfl⟩:=h
  rw[z2e h0]
  rfl
 ·simp at h
def z1fz : List (V Un)→Option (ByteArray)
 | [c0]=>(str? c0).bind fun a0=>some a0
 | _=>none
theorem z20w {l:List (V Un)} {x:ByteArray} (h:z1fz l=some x) : enc .str x=l:=by
 unfold z1fz at h
 split at h
 ·simp only[Option.bind_eq_some_iff,Option.some.injEq] at h
  obtain⟨a0,h0,rfl⟩:=h
  rw[z9c h0]
  rfl
 ·simp at h
def z1g0 : List (V Un)→Option (List Val)
 | [c0]=>(lst? .val c0).bind fun a0=>some a0
 | _=>none
theorem z20x {l:List (V Un)} {x:List Val} (h:z1g0 l=some x) : enc .row x=l:=by
 unfold z1g0 at h
 split at h
 ·simp only[Option.bind_eq_some_iff,Option.some.injEq] at h
  obtain⟨a0,h0,rfl⟩:=h
  rw[z25 h0]
  rfl
 ·simp at h
def z18i : List (V Un)→Option (List Int)
 | [c0]=>(lst? .int c0).bind fun a0=>some a0
 | _=>none
theorem z1xz {l:List (V Un)} {x:List Int} (h:z18i l=some x) : enc .ints x=l:=by
 unfold z18i at h
 split at h
 ·simp only[Option.bind_eq_some_iff,Option.some.injEq] at h
  obtain⟨a0,h0,rfl⟩:=h
  rw[z25 h0]
  rfl
 ·simp at h
def z18j : List (V Un)→Option (Int×Int)
 | [c0,c1]=>(int? c0).bind fun a0=>(int? c1).bind fun a1=>some (a0,a1)
 | _=>none
theorem z1y0 {l:List (V Un)} {x:Int×Int} (h:z18j l=some x) : enc .pair x=l:=by
 unfold z18j at h
 split at h
 ·simp only[Option.bind_eq_some_iff,Option.some.injEq] at h
  obtain⟨a0,h0,a1,h1,rfl⟩:=h
  rw[z2e h0,z2e h1]
  rfl
 ·simp at h
def z1oe : List (V Un)→Option (Int)
 | [c0]=>(u8? c0).bind fun a0=>some a0
 | _=>none
theorem z22z {l:List (V Un)} {x:Int} (h:z1oe l=some x) : enc .u8 x=l:=by
 unfold z1oe at h
 split at h
 ·simp only[Option.bind_eq_some_iff,Option.some.injEq] at h
  obtain⟨a0,h0,rfl⟩:=h
  rw[z22p h0]
  rfl
 ·simp at h
def z1g1 : List (V Un)→Option (Bool)
 | [c0]=>(z9n c0).bind fun a0=>some a0
 | _=>none
theorem z20y {l:List (V Un)} {x:Bool} (h:z1g1 l=some x) : enc .bol x=l:=by
 unfold z1g1 at h
 split at h
 ·simp only[Option.bind_eq_some_iff,Option.some.injEq] at h
  obtain⟨a0,h0,rfl⟩:=h
  rw[z6x h0]
  rfl
 ·simp at h
def z18k : List (V Un)→Option (List Term)
 | [c0]=>(lst? .term c0).bind fun a0=>some a0
 | _=>none
theorem z1y1 {l:List (V Un)} {x:List Term} (h:z18k l=some x) : enc .trms x=l:=by
 unfold z18k at h
 split at h
 ·simp only[Option.bind_eq_some_iff,Option.some.injEq] at h
  obtain⟨a0,h0,rfl⟩:=h
  rw[z25 h0]
  rfl
 ·simp at h
def z10n : List (V Un)→Option (List Col)
 | [c0]=>(lst? .col c0).bind fun a0=>some a0
 | _=>none
theorem z1v8 {l:List (V Un)} {x:List Col} (h:z10n l=some x) : enc .colss x=l:=by
 unfold z10n at h
 split at h
 ·simp only[Option.bind_eq_some_iff,Option.some.injEq] at h
  obtain⟨a0,h0,rfl⟩:=h
  rw[z25 h0]
  rfl
 ·simp at h
def z10o : List (V Un)→Option (List (List Val))
 | [c0]=>(lst? .row c0).bind fun a0=>some a0
 | _=>none
theorem z1v9 {l:List (V Un)} {x:List (List Val)} (h:z10o l=some x) : enc .rowss x=l:=by
 unfold z10o at h
 split at h
 ·simp only[Option.bind_eq_some_iff,Option.some.injEq] at h
  obtain⟨a0,h0,rfl⟩:=h
  rw[z25 h0]
  rfl
 ·simp at h
def z1g2 : List (V Un)→Option (Val)
 | [c0,c1,c2]=>(int? c0).bind fun a0=>(int? c1).bind fun a1=>(str? c2).bind fun a2=>some (Val.mk a0 a1 a2)
 | _=>none
theorem z20z {l:List (V Un)} {x:Val} (h:z1g2 l=some x) : enc .val x=l:=by
 unfold z1g2 at h
 split at h
 ·simp only[Option.bind_eq_some_iff,Option.some.injEq] at h
  obtain⟨a0,h0,a1,h1,a2,h2,rfl⟩:=h
  rw[z2e h0,z2e h1,z9c h2]
  rfl
 ·simp at h
def z1g3 : List (V Un)→Option (Col)
 | [c0,c1,c2]=>(str? c0).bind fun a0=>(str? c1).bind fun a1=>(int? c2).bind fun a2=>some (Col.mk a0 a1 a2)
 | _=>none
theorem z210 {l:List (V Un)} {x:Col} (h:z1g3 l=some x) : enc .col x=l:=by
 unfold z1g3 at h
 split at h
 ·simp only[Option.bind_eq_some_iff,Option.some.injEq] at h
  obtain⟨a0,h0,a1,h1,a2,h2,rfl⟩:=h
  rw[z9c h0,z9c h1,z2e h2]
  rfl
 ·simp at h
def z1g4 : List (V Un)→Option (By)
 | [c0,c1]=>(int? c0).bind fun a0=>(z9n c1).bind fun a1=>some (By.mk a0 a1)
 | _=>none
theorem z211 {l:List (V Un)} {x:By} (h:z1g4 l=some x) : enc .by_ x=l:=by
 unfold z1g4 at h
 split at h
 ·simp only[Option.bind_eq_some_iff,Option.some.injEq] at h
  obtain⟨a0,h0,a1,h1,rfl⟩:=h
  rw[z2e h0,z6x h1]
  rfl
 ·simp at h
def z10p : List (V Un)→Option (Bound)
 | [c0,c1,c2]=>(z9n c0).bind fun a0=>(z9n c1).bind fun a1=>(lst? .val c2).bind fun a2=>some (Bound.mk a0 a1 a2)
 | _=>none
theorem z1va {l:List (V Un)} {x:Bound} (h:z10p l=some x) : enc .bound x=l:=by
 unfold z10p at h
 split at h
 ·simp only[Option.bind_eq_some_iff,Option.some.injEq] at h
  obtain⟨a0,h0,a1,h1,a2,h2,rfl⟩:=h
  rw[z6x h0,z6x h1,z25 h2]
  rfl
 ·simp at h
def z10q : List (V Un)→Option (Often)
 | [c0,c1,c2,c3]=>(int? c0).bind fun a0=>(int? c1).bind fun a1=>(str? c2).bind fun a2=>(int? c3).bind fun a3=>some (Often.mk (Val.mk a0 a1 a2) a3)
 | _=>none
theorem z1vb {l:List (V Un)} {x:Often} (h:z10q l=some x) : enc .often x=l:=by
 unfold z10q at h
 split at h
 ·simp only[Option.bind_eq_some_iff,Option.some.injEq] at h
  obtain⟨a0,h0,a1,h1,a2,h2,a3,h3,rfl⟩:=h
  rw[z2e h0,z2e h1,z9c h2,z2e h3]
  rfl
 ·simp at h
def zsj : List (V Un)→Option (ColStat)
 | [c0,c1,c2,c3]=>(int? c0).bind fun a0=>(int? c1).bind fun a1=>(lst? .val c2).bind fun a2=>(lst? .often c3).bind fun a3=>some (ColStat.mk a0 a1 a2 a3)
 | _=>none
theorem z1of {l:List (V Un)} {x:ColStat} (h:zsj l=some x) : enc .colStat x=l:=by
 unfold zsj at h
 split at h
 ·simp only[Option.bind_eq_some_iff,Option.some.injEq] at h
  obtain⟨a0,h0,a1,h1,a2,h2,a3,h3,rfl⟩:=h
  rw[z2e h0,z2e h1,z25 h2,z25 h3]
  rfl
 ·simp at h
def z18l : List (V Un)→Option (Data)
 | [c0,c1]=>(str? c0).bind fun a0=>(lst? .row c1).bind fun a1=>some (Data.mk a0 a1)
 | _=>none
theorem z1y2 {l:List (V Un)} {x:Data} (h:z18l l=some x) : enc .data x=l:=by
 unfold z18l at h
 split at h
 ·simp only[Option.bind_eq_some_iff,Option.some.injEq] at h
  obtain⟨a0,h0,a1,h1,rfl⟩:=h
  rw[z9c h0,z25 h1]
  rfl
 ·simp at h
def z1g5 : List (V Un)→Option (Acc)
 | [c0,c1,c2,c3,c4,c5,c6,c7,c8]=>(str? c0).bind fun a0=>(z9n c1).bind fun a1=>(int? c2).bind fun a2=>(int? c3).bind fun a3=>(int? c4).bind fun a4=>(int? c5).bind fun a5=>(int? c6).bind fun a6=>(str? c7).bind fun a7=>(lst? .val c8).bind fun a8=>some (Acc.mk a0 a1 a2 a3 a4 (Val.mk a5 a6 a7) a8)
 | _=>none
theorem z212 {l:List (V Un)} {x:Acc} (h:z1g5 l=some x) : enc .acc x=l:=by
 unfold z1g5 at h
 split at h
 ·simp only[Option.bind_eq_some_iff,Option.some.injEq] at h
  obtain⟨a0,h0,a1,h1,a2,h2,a3,h3,a4,h4,a5,h5,a6,h6,a7,h7,a8,h8,rfl⟩:=h
  rw[z9c h0,z6x h1,z2e h2,z2e h3,z2e h4,z2e h5,z2e h6,z9c h7,z25 h8]
  rfl
 ·simp at h
def z18m : List (V Un)→Option (Stat)
 | [c0,c1,c2,c3]=>(str? c0).bind fun a0=>(int? c1).bind fun a1=>(int? c2).bind fun a2=>(lst? .colStat c3).bind fun a3=>some (Stat.mk a0 a1 a2 a3)
 | _=>none
theorem z1y3 {l:List (V Un)} {x:Stat} (h:z18m l=some x) : enc .stat x=l:=by
 unfold z18m at h
 split at h
 ·simp only[Option.bind_eq_some_iff,Option.some.injEq] at h
  obtain⟨a0,h0,a1,h1,a2,h2,a3,h3,rfl⟩:=h
  rw[z9c h0,z2e h1,z2e h2,z25 h3]
  rfl
 ·simp at h
def zws : List (V Un)→Option (Column)
 | [c0,c1,c2,c3,c4,c5,c6]=>(int? c0).bind fun a0=>(int? c1).bind fun a1=>(lst? .val c2).bind fun a2=>(lst? .often c3).bind fun a3=>(int? c4).bind fun a4=>(int? c5).bind fun a5=>(int? c6).bind fun a6=>some (Column.mk (ColStat.mk a0 a1 a2 a3) a4 a5 a6)
 | _=>none
theorem z1sc {l:List (V Un)} {x:Column} (h:zws l=some x) : enc .column x=l:=by
 unfold zws at h
 split at h
 ·simp only[Option.bind_eq_some_iff,Option.some.injEq] at h
  obtain⟨a0,h0,a1,h1,a2,h2,a3,h3,a4,h4,a5,h5,a6,h6,rfl⟩:=h
  rw[z2e h0,z2e h1,z25 h2,z25 h3,z2e h4,z2e h5,z2e h6]
  rfl
 ·simp at h
def z18n : List (V Un)→Option (Term)
 | [c0,c1,c2,c3,c4,c5,c6,c7,c8,c9]=>(int? c0).bind fun a0=>(int? c1).bind fun a1=>(int? c2).bind fun a2=>(str? c3).bind fun a3=>(int? c4).bind fun a4=>(int? c5).bind fun a5=>(str? c6).bind fun a6=>(lst? .term c7).bind fun a7=>(lst? .rel c8).bind fun a8=>(int? c9).bind fun a9=>some (Term.mk a0 (Val.mk a1 a2 a3) a4 a5 a6 a7 a8 a9)
 | _=>none
theorem z1y4 {l:List (V Un)} {x:Term} (h:z18n l=some x) : enc .term x=l:=by
 unfold z18n at h
 split at h
 ·simp only[Option.bind_eq_some_iff,Option.some.injEq] at h
  obtain⟨a0,h0,a1,h1,a2,h2,a3,h3,a4,h4,a5,h5,a6,h6,a7,h7,a8,h8,a9,h9,rfl⟩:=h
  rw[z2e h0,z2e h1,z2e h2,z9c h3,z2e h4,z2e h5,z9c h6,z25 h7,z25 h8,z2e h9]
  rfl
 ·simp at h
def z1g6 : List (V Un)→Option (Agg)
 | [c0,c1,c2]=>(str? c0).bind fun a0=>(z9n c1).bind fun a1=>(lst? .term c2).bind fun a2=>some (Agg.mk a0 a1 a2)
 | _=>none
theorem z213 {l:List (V Un)} {x:Agg} (h:z1g6 l=some x) : enc .agg x=l:=by
 unfold z1g6 at h
 split at h
 ·simp only[Option.bind_eq_some_iff,Option.some.injEq] at h
  obtain⟨a0,h0,a1,h1,a2,h2,rfl⟩:=h
  rw[z9c h0,z6x h1,z25 h2]
  rfl
 ·simp at h
def z1g7 : List (V Un)→Option (Rel)
 | [c0,c1,c2,c3,c4,c5,c6,c7,c8,c9,c10]=>(int? c0).bind fun a0=>(str? c1).bind fun a1=>(lst? .col c2).bind fun a2=>(lst? .rel c3).bind fun a3=>(lst? .term c4).bind fun a4=>(lst? .agg c5).bind fun a5=>(lst? .by_ c6).bind fun a6=>(int? c7).bind fun a7=>(int? c8).bind fun a8=>(z9n c9).bind fun a9=>(lst? .row c10).bind fun a10=>some (Rel.mk a0 a1 a2 a3 a4 a5 a6 a7 a8 a9 a10)
 | _=>none
theorem z214 {l:List (V Un)} {x:Rel} (h:z1g7 l=some x) : enc .rel x=l:=by
 unfold z1g7 at h
 split at h
 ·simp only[Option.bind_eq_some_iff,Option.some.injEq] at h
  obtain⟨a0,h0,a1,h1,a2,h2,a3,h3,a4,h4,a5,h5,a6,h6,a7,h7,a8,h8,a9,h9,a10,h10,rfl⟩:=h
  rw[z2e h0,z9c h1,z25 h2,z25 h3,z25 h4,z25 h5,z25 h6,z2e h7,z2e h8,z6x h9,z25 h10]
  rfl
 ·simp at h
def z18o : List (V Un)→Option (Plan)
 | [c0,c1,c2,c3,c4,c5,c6,c7,c8,c9,c10,c11,c12,c13,c14,c15,c16,c17,c18,c19,c20,c21,c22]=>(int? c0).bind fun a0=>(str? c1).bind fun a1=>(str? c2).bind fun a2=>(lst? .col c3).bind fun a3=>(lst? .plan c4).bind fun a4=>(lst? .term c5).bind fun a5=>(lst? .term c6).bind fun a6=>(lst? .term c7).bind fun a7=>(lst? .agg c8).bind fun a8=>(lst? .by_ c9).bind fun a9=>(lst? .int c10).bind fun a10=>(z9n c11).bind fun a11=>(z9n c12).bind fun a12=>(lst? .val c13).bind fun a13=>(z9n c14).bind fun a14=>(z9n c15).bind fun a15=>(lst? .val c16).bind fun a16=>(int? c17).bind fun a17=>(int? c18).bind fun a18=>(z9n c19).bind fun a19=>(lst? .row c20).bind fun a20=>(int? c21).bind fun a21=>(int? c22).bind fun a22=>some (Plan.mk a0 a1 a2 a3 a4 a5 a6 a7 a8 a9 a10 (Bound.mk a11 a12 a13) (Bound.mk a14 a15 a16) a17 a18 a19 a20 a21 a22)
 | _=>none
theorem z1y5 {l:List (V Un)} {x:Plan} (h:z18o l=some x) : enc .plan x=l:=by
 unfold z18o at h
 split at h
 ·simp only[Option.bind_eq_some_iff,Option.some.injEq] at h
  obtain⟨a0,h0,a1,h1,a2,h2,a3,h3,a4,h4,a5,h5,a6,h6,a7,h7,a8,h8,a9,h9,a10,h10,a11,h11,a12,h12,a13,h13,a14,h14,a15,h15,a16,h16,a17,h17,a18,h18,a19,h19,a20,h20,a21,h21,a22,h22,rfl⟩:=h
  rw[z2e h0,z9c h1,z9c h2,z25 h3,z25 h4,z25 h5,z25 h6,z25 h7,z25 h8,z25 h9,z25 h10,z6x h11,z6x h12,z25 h13,z6x h14,z6x h15,z25 h16,z2e h17,z2e h18,z6x h19,z25 h20,z2e h21,z2e h22]
  rfl
 ·simp at h
def z18p : List (V Un)→Option (Sign)
 | [c0,c1]=>(int? c0).bind fun a0=>(u8? c1).bind fun a1=>some (Sign.mk a0 a1)
 | _=>none
theorem z1y6 {l:List (V Un)} {x:Sign} (h:z18p l=some x) : enc .sign x=l:=by
 unfold z18p at h
 split at h
 ·simp only[Option.bind_eq_some_iff,Option.some.injEq] at h
  obtain⟨a0,h0,a1,h1,rfl⟩:=h
  rw[z2e h0,z22p h1]
  rfl
 ·simp at h
def z10r : List (V Un)→Option (Bunch)
 | [c0,c1]=>(lst? .val c0).bind fun a0=>(lst? .row c1).bind fun a1=>some (Bunch.mk a0 a1)
 | _=>none
theorem z1vc {l:List (V Un)} {x:Bunch} (h:z10r l=some x) : enc .bunch x=l:=by
 unfold z10r at h
 split at h
 ·simp only[Option.bind_eq_some_iff,Option.some.injEq] at h
  obtain⟨a0,h0,a1,h1,rfl⟩:=h
  rw[z25 h0,z25 h1]
  rfl
 ·simp at h
def z1g8 : List (V Un)→Option (Wld)
 | [c0,c1]=>(lst? .row c0).bind fun a0=>(lst? .data c1).bind fun a1=>some (Wld.mk a0 a1)
 | _=>none
theorem z215 {l:List (V Un)} {x:Wld} (h:z1g8 l=some x) : enc .wld x=l:=by
 unfold z1g8 at h
 split at h
 ·simp only[Option.bind_eq_some_iff,Option.some.injEq] at h
  obtain⟨a0,h0,a1,h1,rfl⟩:=h
  rw[z25 h0,z25 h1]
  rfl
 ·simp at h
def z18q : List (V Un)→Option (Span)
 | [c0,c1,c2,c3,c4,c5,c6,c7,c8]=>(lst? .val c0).bind fun a0=>(z9n c1).bind fun a1=>(z9n c2).bind fun a2=>(lst? .val c3).bind fun a3=>(z9n c4).bind fun a4=>(z9n c5).bind fun a5=>(lst? .val c6).bind fun a6=>(int? c7).bind fun a7=>(lst? .term c8).bind fun a8=>some (Span.mk a0 (Bound.mk a1 a2 a3) (Bound.mk a4 a5 a6) a7 a8)
 | _=>none
theorem z1y7 {l:List (V Un)} {x:Span} (h:z18q l=some x) : enc .span x=l:=by
 unfold z18q at h
 split at h
 ·simp only[Option.bind_eq_some_iff,Option.some.injEq] at h
  obtain⟨a0,h0,a1,h1,a2,h2,a3,h3,a4,h4,a5,h5,a6,h6,a7,h7,a8,h8,rfl⟩:=h
  rw[z25 h0,z6x h1,z6x h2,z25 h3,z6x h4,z6x h5,z25 h6,z2e h7,z25 h8]
  rfl
 ·simp at h
def dec : (τ:Ty)→List (V Un)→Option (Den τ)
 | .int=>z1fy
 | .str=>z1fz
 | .row=>z1g0
 | .ints=>z18i
 | .pair=>z18j
 | .u8=>z1oe
 | .bol=>z1g1
 | .trms=>z18k
 | .colss=>z10n
 | .rowss=>z10o
 | .val=>z1g2
 | .col=>z1g3
 | .by_=>z1g4
 | .bound=>z10p
 | .often=>z10q
 | .colStat=>zsj
 | .data=>z18l
 | .acc=>z1g5
 | .stat=>z18m
 | .column=>zws
 | .term=>z18n
 | .agg=>z1g6
 | .rel=>z1g7
 | .plan=>z18o
 | .sign=>z18p
 | .bunch=>z10r
 | .wld=>z1g8
 | .span=>z18q
theorem zei : ∀ τ x,(enc τ x).length=sz τ:=by intro τ x;cases τ<;>rfl
theorem z18r : ∀ τ cs x,dec τ cs=some x→enc τ x=cs:=by
 intro τ cs x h
 cases τ with
 | int=>exact z20v h
 | str=>exact z20w h
 | row=>exact z20x h
 | ints=>exact z1xz h
 | pair=>exact z1y0 h
 | u8=>exact z22z h
 | bol=>exact z20y h
 | trms=>exact z1y1 h
 | colss=>exact z1v8 h
 | rowss=>exact z1v9 h
 | val=>exact z20z h
 | col=>exact z210 h
 | by_=>exact z211 h
 | bound=>exact z1va h
 | often=>exact z1vb h
 | colStat=>exact z1of h
 | data=>exact z1y2 h
 | acc=>exact z212 h
 | stat=>exact z1y3 h
 | column=>exact z1sc h
 | term=>exact z1y4 h
 | agg=>exact z213 h
 | rel=>exact z214 h
 | plan=>exact z1y5 h
 | sign=>exact z1y6 h
 | bunch=>exact z1vc h
 | wld=>exact z215 h
 | span=>exact z1y7 h
def En : Enc Un:=⟨enc,dec,zei,z18r⟩
def encC (τ:Ty) (x:Den τ) : List (C Un):=(enc τ x).map C.ofV
abbrev WI (n:Int) : Prop:=-9223372036854775808≤n∧n≤9223372036854775807
abbrev WK (k:IntKind) (n:Int) : Prop:=k.min≤n∧n≤k.max
abbrev WStr (s:ByteArray) : Prop:=s.size≤9223372036854775807
def WL (τ:Ty) (l:List (Den τ)) : Prop:=VWf En (.dat (U:=Un) τ l)
def WS (τ:Ty) (x:Den τ) : Prop:=∀ d∈enc τ x,VWf En d
theorem z1og (n:Int) : VWf En (ci n)↔WI n:=⟨fun h=>by cases h with | s _ h=>exact of_decide_eq_true h,fun h=>.s _ (decide_eq_true h)⟩
theorem z1g9 (n:Int) : VWf En (cu8 n)↔WK .u8 n:=⟨fun h=>by cases h with | s _ h=>exact of_decide_eq_true h,fun h=>.s _ (decide_eq_true h)⟩
theorem z1oh (b:Bool) : VWf En (cb b)↔True:=⟨fun _=>trivial,fun _=>.s _ rfl⟩
theorem z10s (s:ByteArray) : VWf En (cs s)↔WStr s:=⟨fun h=>by cases h with | s _ h=>exact of_decide_eq_true h,fun h=>.s _ (decide_eq_true h)⟩
theorem z1ga (τ:Ty) (l:List (Den τ)) : VWf En (.dat (U:=Un) τ l)↔WL τ l:=Iff.rfl
theorem z1ba (τ:Ty) (l:List (Den τ)) : WL τ l↔l.length≤9223372036854775807∧∀ x∈l,WS τ x:=by
 refine⟨fun h=>?_,fun h=>.dat (U:=Un) τ l h.1 fun i hi j d hd=>h.2 _ (List.getElem_mem hi) _ (List.mem_of_getElem? hd)⟩
 cases h with
 | dat _ _ h1 h2 =>
  refine⟨h1,fun x hx d hd=>?_⟩
  obtain⟨i,hi,rfl⟩:=List.getElem_of_mem hx
  obtain⟨j,hj⟩:=List.getElem?_of_mem hd
  exact h2 i hi j d hj
theorem WL.len {τ:Ty} {l:List (Den τ)} (h:WL τ l) : l.length≤9223372036854775807:=((z1ba τ l).1 h).1
theorem WL.get {τ:Ty} {l:List (Den τ)} (h:WL τ l) {x:Den τ} (hx:x∈l) : WS τ x:=((z1ba τ l).1 h).2 x hx
theorem WL.nil {τ:Ty} : WL τ []:=(z1ba τ []).2 ⟨by simp,by simp⟩
theorem WL.sub {τ:Ty} {l r:List (Den τ)} (h:WL τ l) (hs:r.length≤l.length) (hm:∀ x∈r,x∈l) : WL τ r:=(z1ba τ r).2 ⟨Nat.le_trans hs h.len,fun x hx=>h.get (hm x hx)⟩
theorem WL.drop {τ:Ty} {l:List (Den τ)} (h:WL τ l) (n:Nat) : WL τ (l.drop n):=h.sub (by simp) fun _ hx=>List.mem_of_mem_drop hx
theorem WL.take {τ:Ty} {l:List (Den τ)} (h:WL τ l) (n:Nat) : WL τ (l.take n):=h.sub (by simp;omega) fun _ hx=>List.mem_of_mem_take hx
theorem WL.at {τ:Ty} {l:List (Den τ)} (h:WL τ l) {i:Nat} (hi:i<l.length) : WS τ (l.getD i (dflt τ)):=by rw[List.getD_eq_getElem?_getD,List.getElem?_eq_getElem hi];exact h.get (List.getElem_mem hi)
theorem z24b (x:Val) : WS .val x↔(WI x.kind)∧(WI x.n)∧(WStr x.s):=by
 show (∀ d∈[ci x.kind,ci x.n,cs x.s],VWf En d)↔_
 simp only[List.forall_mem_cons,List.not_mem_nil,false_implies,implies_true,z1og,z1g9,z1oh,z10s,z1ga,and_true,true_and]
theorem z230 (x:Term) : WS .term x↔(WI x.op)∧(WI x.v.kind)∧(WI x.v.n)∧(WStr x.v.s)∧(WI x.depth)∧(WI x.at_)∧(WStr x.name)∧(WL .term x.kids)∧(WL .rel x.sub)∧(WI x.type):=by
 show (∀ d∈[ci x.op,ci x.v.kind,ci x.v.n,cs x.v.s,ci x.depth,ci x.at_,cs x.name,.dat (U:=Un) Ty.term x.kids,.dat (U:=Un) Ty.rel x.sub,ci x.type],VWf En d)↔_
 simp only[List.forall_mem_cons,List.not_mem_nil,false_implies,implies_true,z1og,z1g9,z1oh,z10s,z1ga,and_true,true_and]
theorem z24c (x:Rel) : WS .rel x↔(WI x.op)∧(WStr x.table)∧(WL .col x.cols)∧(WL .rel x.kids)∧(WL .term x.terms)∧(WL .agg x.aggs)∧(WL .by_ x.keys)∧(WI x.limit)∧(WI x.skip)∧(WL .row x.rows):=by
 show (∀ d∈[ci x.op,cs x.table,.dat (U:=Un) Ty.col x.cols,.dat (U:=Un) Ty.rel x.kids,.dat (U:=Un) Ty.term x.terms,.dat (U:=Un) Ty.agg x.aggs,.dat (U:=Un) Ty.by_ x.keys,ci x.limit,ci x.skip,cb x.all,.dat (U:=Un) Ty.row x.rows],VWf En d)↔_
 simp only[List.forall_mem_cons,List.not_mem_nil,false_implies,implies_true,z1og,z1g9,z1oh,z10s,z1ga,and_true,true_and]
theorem WS.val_n {x:Val} (h:WS .val x) : WI x.n:=((z24b x).1 h).2.1
theorem WS.term_kids {x:Term} (h:WS .term x) : WL .term x.kids:=((z230 x).1 h).2.2.2.2.2.2.2.1
theorem WS.rel_kids {x:Rel} (h:WS .rel x) : WL .rel x.kids:=((z24c x).1 h).2.2.2.1
end Go.Proofs.YtjfpbchdcbhfgaaGreat.B
