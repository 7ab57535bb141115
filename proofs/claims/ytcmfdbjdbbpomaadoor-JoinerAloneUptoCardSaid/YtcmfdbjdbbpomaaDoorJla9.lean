/- Part 9 of the proof: BData BTabs BEntryG. -/
import Derived.Test.YtcmfdbjdbbpomaaDoorProg
import Derived.KernelRfl
import Derived.Test.YtcmfdbjdbbpomaaDoorJla8
namespace Go.Proofs.YtcmfdbjdbbpomaaDoor.B
open Go
structure Val where
  kind : Int
  n : Int
  s : ByteArray
def zeroVal : Val := ⟨0, 0, ⟨#[]⟩⟩
structure Col where
  table : ByteArray
  name : ByteArray
  type : Int
def zeroCol : Col := ⟨⟨#[]⟩, ⟨#[]⟩, 0⟩
structure By where
  at_ : Int
  down : Bool
def zeroBy : By := ⟨0, false⟩
structure Bound where
  is : Bool
  open_ : Bool
  key : List Val
def zeroBound : Bound := ⟨false, false, []⟩
structure Often where
  v : Val
  n : Int
def zeroOften : Often := ⟨zeroVal, 0⟩
structure ColStat where
  nulls : Int
  distinct : Int
  ends : List Val
  common : List Often
def zeroColStat : ColStat := ⟨0, 0, [], []⟩
structure Data where
  table : ByteArray
  rows : List (List Val)
def zeroData : Data := ⟨⟨#[]⟩, []⟩
structure Acc where
  name : ByteArray
  distinct : Bool
  n : Int
  hi : Int
  lo : Int
  v : Val
  l : List Val
def zeroAcc : Acc := ⟨⟨#[]⟩, false, 0, 0, 0, zeroVal, []⟩
structure Stat where
  table : ByteArray
  rows : Int
  pages : Int
  cols : List ColStat
def zeroStat : Stat := ⟨⟨#[]⟩, 0, 0, []⟩
structure Column where
  c : ColStat
  nulls : Int
  others : Int
  all : Int
def zeroColumn : Column := ⟨zeroColStat, 0, 0, 0⟩
mutual
inductive Term
  | mk (op : Int) (v : Val) (depth : Int) (at_ : Int) (name : ByteArray) (kids : List Term) (sub : List Rel) (type : Int)
inductive Agg
  | mk (name : ByteArray) (distinct : Bool) (t : List Term)
inductive Rel
  | mk (op : Int) (table : ByteArray) (cols : List Col) (kids : List Rel) (terms : List Term) (aggs : List Agg) (keys : List By) (limit : Int) (skip : Int) (all : Bool) (rows : List (List Val))
end
def Term.op : Term → Int | .mk x _ _ _ _ _ _ _ => x
@[simp] theorem Term.op_mk (op : Int) (v : Val) (depth : Int) (at_ : Int) (name : ByteArray) (kids : List Term) (sub : List Rel) (type : Int) : (Term.mk op v depth at_ name kids sub type).op = op := rfl
def Term.v : Term → Val | .mk _ x _ _ _ _ _ _ => x
@[simp] theorem Term.v_mk (op : Int) (v : Val) (depth : Int) (at_ : Int) (name : ByteArray) (kids : List Term) (sub : List Rel) (type : Int) : (Term.mk op v depth at_ name kids sub type).v = v := rfl
def Term.depth : Term → Int | .mk _ _ x _ _ _ _ _ => x
@[simp] theorem Term.depth_mk (op : Int) (v : Val) (depth : Int) (at_ : Int) (name : ByteArray) (kids : List Term) (sub : List Rel) (type : Int) : (Term.mk op v depth at_ name kids sub type).depth = depth := rfl
def Term.at_ : Term → Int | .mk _ _ _ x _ _ _ _ => x
@[simp] theorem Term.at__mk (op : Int) (v : Val) (depth : Int) (at_ : Int) (name : ByteArray) (kids : List Term) (sub : List Rel) (type : Int) : (Term.mk op v depth at_ name kids sub type).at_ = at_ := rfl
def Term.name : Term → ByteArray | .mk _ _ _ _ x _ _ _ => x
@[simp] theorem Term.name_mk (op : Int) (v : Val) (depth : Int) (at_ : Int) (name : ByteArray) (kids : List Term) (sub : List Rel) (type : Int) : (Term.mk op v depth at_ name kids sub type).name = name := rfl
def Term.kids : Term → List Term | .mk _ _ _ _ _ x _ _ => x
@[simp] theorem Term.kids_mk (op : Int) (v : Val) (depth : Int) (at_ : Int) (name : ByteArray) (kids : List Term) (sub : List Rel) (type : Int) : (Term.mk op v depth at_ name kids sub type).kids = kids := rfl
def Term.sub : Term → List Rel | .mk _ _ _ _ _ _ x _ => x
@[simp] theorem Term.sub_mk (op : Int) (v : Val) (depth : Int) (at_ : Int) (name : ByteArray) (kids : List Term) (sub : List Rel) (type : Int) : (Term.mk op v depth at_ name kids sub type).sub = sub := rfl
def Term.type : Term → Int | .mk _ _ _ _ _ _ _ x => x
@[simp] theorem Term.type_mk (op : Int) (v : Val) (depth : Int) (at_ : Int) (name : ByteArray) (kids : List Term) (sub : List Rel) (type : Int) : (Term.mk op v depth at_ name kids sub type).type = type := rfl
def zeroTerm : Term := .mk 0 zeroVal 0 0 ⟨#[]⟩ [] [] 0
def Agg.name : Agg → ByteArray | .mk x _ _ => x
@[simp] theorem Agg.name_mk (name : ByteArray) (distinct : Bool) (t : List Term) : (Agg.mk name distinct t).name = name := rfl
def Agg.distinct : Agg → Bool | .mk _ x _ => x
@[simp] theorem Agg.distinct_mk (name : ByteArray) (distinct : Bool) (t : List Term) : (Agg.mk name distinct t).distinct = distinct := rfl
def Agg.t : Agg → List Term | .mk _ _ x => x
@[simp] theorem Agg.t_mk (name : ByteArray) (distinct : Bool) (t : List Term) : (Agg.mk name distinct t).t = t := rfl
def zeroAgg : Agg := .mk ⟨#[]⟩ false []
def Rel.op : Rel → Int | .mk x _ _ _ _ _ _ _ _ _ _ => x
@[simp] theorem Rel.op_mk (op : Int) (table : ByteArray) (cols : List Col) (kids : List Rel) (terms : List Term) (aggs : List Agg) (keys : List By) (limit : Int) (skip : Int) (all : Bool) (rows : List (List Val)) : (Rel.mk op table cols kids terms aggs keys limit skip all rows).op = op := rfl
def Rel.table : Rel → ByteArray | .mk _ x _ _ _ _ _ _ _ _ _ => x
@[simp] theorem Rel.table_mk (op : Int) (table : ByteArray) (cols : List Col) (kids : List Rel) (terms : List Term) (aggs : List Agg) (keys : List By) (limit : Int) (skip : Int) (all : Bool) (rows : List (List Val)) : (Rel.mk op table cols kids terms aggs keys limit skip all rows).table = table := rfl
def Rel.cols : Rel → List Col | .mk _ _ x _ _ _ _ _ _ _ _ => x
@[simp] theorem Rel.cols_mk (op : Int) (table : ByteArray) (cols : List Col) (kids : List Rel) (terms : List Term) (aggs : List Agg) (keys : List By) (limit : Int) (skip : Int) (all : Bool) (rows : List (List Val)) : (Rel.mk op table cols kids terms aggs keys limit skip all rows).cols = cols := rfl
def Rel.kids : Rel → List Rel | .mk _ _ _ x _ _ _ _ _ _ _ => x
@[simp] theorem Rel.kids_mk (op : Int) (table : ByteArray) (cols : List Col) (kids : List Rel) (terms : List Term) (aggs : List Agg) (keys : List By) (limit : Int) (skip : Int) (all : Bool) (rows : List (List Val)) : (Rel.mk op table cols kids terms aggs keys limit skip all rows).kids = kids := rfl
def Rel.terms : Rel → List Term | .mk _ _ _ _ x _ _ _ _ _ _ => x
@[simp] theorem Rel.terms_mk (op : Int) (table : ByteArray) (cols : List Col) (kids : List Rel) (terms : List Term) (aggs : List Agg) (keys : List By) (limit : Int) (skip : Int) (all : Bool) (rows : List (List Val)) : (Rel.mk op table cols kids terms aggs keys limit skip all rows).terms = terms := rfl
def Rel.aggs : Rel → List Agg | .mk _ _ _ _ _ x _ _ _ _ _ => x
@[simp] theorem Rel.aggs_mk (op : Int) (table : ByteArray) (cols : List Col) (kids : List Rel) (terms : List Term) (aggs : List Agg) (keys : List By) (limit : Int) (skip : Int) (all : Bool) (rows : List (List Val)) : (Rel.mk op table cols kids terms aggs keys limit skip all rows).aggs = aggs := rfl
def Rel.keys : Rel → List By | .mk _ _ _ _ _ _ x _ _ _ _ => x
@[simp] theorem Rel.keys_mk (op : Int) (table : ByteArray) (cols : List Col) (kids : List Rel) (terms : List Term) (aggs : List Agg) (keys : List By) (limit : Int) (skip : Int) (all : Bool) (rows : List (List Val)) : (Rel.mk op table cols kids terms aggs keys limit skip all rows).keys = keys := rfl
def Rel.limit : Rel → Int | .mk _ _ _ _ _ _ _ x _ _ _ => x
@[simp] theorem Rel.limit_mk (op : Int) (table : ByteArray) (cols : List Col) (kids : List Rel) (terms : List Term) (aggs : List Agg) (keys : List By) (limit : Int) (skip : Int) (all : Bool) (rows : List (List Val)) : (Rel.mk op table cols kids terms aggs keys limit skip all rows).limit = limit := rfl
def Rel.skip : Rel → Int | .mk _ _ _ _ _ _ _ _ x _ _ => x
@[simp] theorem Rel.skip_mk (op : Int) (table : ByteArray) (cols : List Col) (kids : List Rel) (terms : List Term) (aggs : List Agg) (keys : List By) (limit : Int) (skip : Int) (all : Bool) (rows : List (List Val)) : (Rel.mk op table cols kids terms aggs keys limit skip all rows).skip = skip := rfl
def Rel.all : Rel → Bool | .mk _ _ _ _ _ _ _ _ _ x _ => x
@[simp] theorem Rel.all_mk (op : Int) (table : ByteArray) (cols : List Col) (kids : List Rel) (terms : List Term) (aggs : List Agg) (keys : List By) (limit : Int) (skip : Int) (all : Bool) (rows : List (List Val)) : (Rel.mk op table cols kids terms aggs keys limit skip all rows).all = all := rfl
def Rel.rows : Rel → List (List Val) | .mk _ _ _ _ _ _ _ _ _ _ x => x
@[simp] theorem Rel.rows_mk (op : Int) (table : ByteArray) (cols : List Col) (kids : List Rel) (terms : List Term) (aggs : List Agg) (keys : List By) (limit : Int) (skip : Int) (all : Bool) (rows : List (List Val)) : (Rel.mk op table cols kids terms aggs keys limit skip all rows).rows = rows := rfl
def zeroRel : Rel := .mk 0 ⟨#[]⟩ [] [] [] [] [] 0 0 false []
mutual
inductive Plan
  | mk (op : Int) (table : ByteArray) (index : ByteArray) (cols : List Col) (kids : List Plan) (terms : List Term) (lkeys : List Term) (rkeys : List Term) (aggs : List Agg) (keys : List By) (out : List Int) (lo : Bound) (hi : Bound) (limit : Int) (skip : Int) (all : Bool) (rows : List (List Val)) (est : Int) (cost : Int)
end
def Plan.op : Plan → Int | .mk x _ _ _ _ _ _ _ _ _ _ _ _ _ _ _ _ _ _ => x
@[simp] theorem Plan.op_mk (op : Int) (table : ByteArray) (index : ByteArray) (cols : List Col) (kids : List Plan) (terms : List Term) (lkeys : List Term) (rkeys : List Term) (aggs : List Agg) (keys : List By) (out : List Int) (lo : Bound) (hi : Bound) (limit : Int) (skip : Int) (all : Bool) (rows : List (List Val)) (est : Int) (cost : Int) : (Plan.mk op table index cols kids terms lkeys rkeys aggs keys out lo hi limit skip all rows est cost).op = op := rfl
def Plan.table : Plan → ByteArray | .mk _ x _ _ _ _ _ _ _ _ _ _ _ _ _ _ _ _ _ => x
@[simp] theorem Plan.table_mk (op : Int) (table : ByteArray) (index : ByteArray) (cols : List Col) (kids : List Plan) (terms : List Term) (lkeys : List Term) (rkeys : List Term) (aggs : List Agg) (keys : List By) (out : List Int) (lo : Bound) (hi : Bound) (limit : Int) (skip : Int) (all : Bool) (rows : List (List Val)) (est : Int) (cost : Int) : (Plan.mk op table index cols kids terms lkeys rkeys aggs keys out lo hi limit skip all rows est cost).table = table := rfl
def Plan.index : Plan → ByteArray | .mk _ _ x _ _ _ _ _ _ _ _ _ _ _ _ _ _ _ _ => x
@[simp] theorem Plan.index_mk (op : Int) (table : ByteArray) (index : ByteArray) (cols : List Col) (kids : List Plan) (terms : List Term) (lkeys : List Term) (rkeys : List Term) (aggs : List Agg) (keys : List By) (out : List Int) (lo : Bound) (hi : Bound) (limit : Int) (skip : Int) (all : Bool) (rows : List (List Val)) (est : Int) (cost : Int) : (Plan.mk op table index cols kids terms lkeys rkeys aggs keys out lo hi limit skip all rows est cost).index = index := rfl
def Plan.cols : Plan → List Col | .mk _ _ _ x _ _ _ _ _ _ _ _ _ _ _ _ _ _ _ => x
@[simp] theorem Plan.cols_mk (op : Int) (table : ByteArray) (index : ByteArray) (cols : List Col) (kids : List Plan) (terms : List Term) (lkeys : List Term) (rkeys : List Term) (aggs : List Agg) (keys : List By) (out : List Int) (lo : Bound) (hi : Bound) (limit : Int) (skip : Int) (all : Bool) (rows : List (List Val)) (est : Int) (cost : Int) : (Plan.mk op table index cols kids terms lkeys rkeys aggs keys out lo hi limit skip all rows est cost).cols = cols := rfl
def Plan.kids : Plan → List Plan | .mk _ _ _ _ x _ _ _ _ _ _ _ _ _ _ _ _ _ _ => x
@[simp] theorem Plan.kids_mk (op : Int) (table : ByteArray) (index : ByteArray) (cols : List Col) (kids : List Plan) (terms : List Term) (lkeys : List Term) (rkeys : List Term) (aggs : List Agg) (keys : List By) (out : List Int) (lo : Bound) (hi : Bound) (limit : Int) (skip : Int) (all : Bool) (rows : List (List Val)) (est : Int) (cost : Int) : (Plan.mk op table index cols kids terms lkeys rkeys aggs keys out lo hi limit skip all rows est cost).kids = kids := rfl
def Plan.terms : Plan → List Term | .mk _ _ _ _ _ x _ _ _ _ _ _ _ _ _ _ _ _ _ => x
@[simp] theorem Plan.terms_mk (op : Int) (table : ByteArray) (index : ByteArray) (cols : List Col) (kids : List Plan) (terms : List Term) (lkeys : List Term) (rkeys : List Term) (aggs : List Agg) (keys : List By) (out : List Int) (lo : Bound) (hi : Bound) (limit : Int) (skip : Int) (all : Bool) (rows : List (List Val)) (est : Int) (cost : Int) : (Plan.mk op table index cols kids terms lkeys rkeys aggs keys out lo hi limit skip all rows est cost).terms = terms := rfl
def Plan.lkeys : Plan → List Term | .mk _ _ _ _ _ _ x _ _ _ _ _ _ _ _ _ _ _ _ => x
@[simp] theorem Plan.lkeys_mk (op : Int) (table : ByteArray) (index : ByteArray) (cols : List Col) (kids : List Plan) (terms : List Term) (lkeys : List Term) (rkeys : List Term) (aggs : List Agg) (keys : List By) (out : List Int) (lo : Bound) (hi : Bound) (limit : Int) (skip : Int) (all : Bool) (rows : List (List Val)) (est : Int) (cost : Int) : (Plan.mk op table index cols kids terms lkeys rkeys aggs keys out lo hi limit skip all rows est cost).lkeys = lkeys := rfl
def Plan.rkeys : Plan → List Term | .mk _ _ _ _ _ _ _ x _ _ _ _ _ _ _ _ _ _ _ => x
@[simp] theorem Plan.rkeys_mk (op : Int) (table : ByteArray) (index : ByteArray) (cols : List Col) (kids : List Plan) (terms : List Term) (lkeys : List Term) (rkeys : List Term) (aggs : List Agg) (keys : List By) (out : List Int) (lo : Bound) (hi : Bound) (limit : Int) (skip : Int) (all : Bool) (rows : List (List Val)) (est : Int) (cost : Int) : (Plan.mk op table index cols kids terms lkeys rkeys aggs keys out lo hi limit skip all rows est cost).rkeys = rkeys := rfl
def Plan.aggs : Plan → List Agg | .mk _ _ _ _ _ _ _ _ x _ _ _ _ _ _ _ _ _ _ => x
@[simp] theorem Plan.aggs_mk (op : Int) (table : ByteArray) (index : ByteArray) (cols : List Col) (kids : List Plan) (terms : List Term) (lkeys : List Term) (rkeys : List Term) (aggs : List Agg) (keys : List By) (out : List Int) (lo : Bound) (hi : Bound) (limit : Int) (skip : Int) (all : Bool) (rows : List (List Val)) (est : Int) (cost : Int) : (Plan.mk op table index cols kids terms lkeys rkeys aggs keys out lo hi limit skip all rows est cost).aggs = aggs := rfl
def Plan.keys : Plan → List By | .mk _ _ _ _ _ _ _ _ _ x _ _ _ _ _ _ _ _ _ => x
@[simp] theorem Plan.keys_mk (op : Int) (table : ByteArray) (index : ByteArray) (cols : List Col) (kids : List Plan) (terms : List Term) (lkeys : List Term) (rkeys : List Term) (aggs : List Agg) (keys : List By) (out : List Int) (lo : Bound) (hi : Bound) (limit : Int) (skip : Int) (all : Bool) (rows : List (List Val)) (est : Int) (cost : Int) : (Plan.mk op table index cols kids terms lkeys rkeys aggs keys out lo hi limit skip all rows est cost).keys = keys := rfl
def Plan.out : Plan → List Int | .mk _ _ _ _ _ _ _ _ _ _ x _ _ _ _ _ _ _ _ => x
@[simp] theorem Plan.out_mk (op : Int) (table : ByteArray) (index : ByteArray) (cols : List Col) (kids : List Plan) (terms : List Term) (lkeys : List Term) (rkeys : List Term) (aggs : List Agg) (keys : List By) (out : List Int) (lo : Bound) (hi : Bound) (limit : Int) (skip : Int) (all : Bool) (rows : List (List Val)) (est : Int) (cost : Int) : (Plan.mk op table index cols kids terms lkeys rkeys aggs keys out lo hi limit skip all rows est cost).out = out := rfl
def Plan.lo : Plan → Bound | .mk _ _ _ _ _ _ _ _ _ _ _ x _ _ _ _ _ _ _ => x
@[simp] theorem Plan.lo_mk (op : Int) (table : ByteArray) (index : ByteArray) (cols : List Col) (kids : List Plan) (terms : List Term) (lkeys : List Term) (rkeys : List Term) (aggs : List Agg) (keys : List By) (out : List Int) (lo : Bound) (hi : Bound) (limit : Int) (skip : Int) (all : Bool) (rows : List (List Val)) (est : Int) (cost : Int) : (Plan.mk op table index cols kids terms lkeys rkeys aggs keys out lo hi limit skip all rows est cost).lo = lo := rfl
def Plan.hi : Plan → Bound | .mk _ _ _ _ _ _ _ _ _ _ _ _ x _ _ _ _ _ _ => x
@[simp] theorem Plan.hi_mk (op : Int) (table : ByteArray) (index : ByteArray) (cols : List Col) (kids : List Plan) (terms : List Term) (lkeys : List Term) (rkeys : List Term) (aggs : List Agg) (keys : List By) (out : List Int) (lo : Bound) (hi : Bound) (limit : Int) (skip : Int) (all : Bool) (rows : List (List Val)) (est : Int) (cost : Int) : (Plan.mk op table index cols kids terms lkeys rkeys aggs keys out lo hi limit skip all rows est cost).hi = hi := rfl
def Plan.limit : Plan → Int | .mk _ _ _ _ _ _ _ _ _ _ _ _ _ x _ _ _ _ _ => x
@[simp] theorem Plan.limit_mk (op : Int) (table : ByteArray) (index : ByteArray) (cols : List Col) (kids : List Plan) (terms : List Term) (lkeys : List Term) (rkeys : List Term) (aggs : List Agg) (keys : List By) (out : List Int) (lo : Bound) (hi : Bound) (limit : Int) (skip : Int) (all : Bool) (rows : List (List Val)) (est : Int) (cost : Int) : (Plan.mk op table index cols kids terms lkeys rkeys aggs keys out lo hi limit skip all rows est cost).limit = limit := rfl
def Plan.skip : Plan → Int | .mk _ _ _ _ _ _ _ _ _ _ _ _ _ _ x _ _ _ _ => x
@[simp] theorem Plan.skip_mk (op : Int) (table : ByteArray) (index : ByteArray) (cols : List Col) (kids : List Plan) (terms : List Term) (lkeys : List Term) (rkeys : List Term) (aggs : List Agg) (keys : List By) (out : List Int) (lo : Bound) (hi : Bound) (limit : Int) (skip : Int) (all : Bool) (rows : List (List Val)) (est : Int) (cost : Int) : (Plan.mk op table index cols kids terms lkeys rkeys aggs keys out lo hi limit skip all rows est cost).skip = skip := rfl
def Plan.all : Plan → Bool | .mk _ _ _ _ _ _ _ _ _ _ _ _ _ _ _ x _ _ _ => x
@[simp] theorem Plan.all_mk (op : Int) (table : ByteArray) (index : ByteArray) (cols : List Col) (kids : List Plan) (terms : List Term) (lkeys : List Term) (rkeys : List Term) (aggs : List Agg) (keys : List By) (out : List Int) (lo : Bound) (hi : Bound) (limit : Int) (skip : Int) (all : Bool) (rows : List (List Val)) (est : Int) (cost : Int) : (Plan.mk op table index cols kids terms lkeys rkeys aggs keys out lo hi limit skip all rows est cost).all = all := rfl
def Plan.rows : Plan → List (List Val) | .mk _ _ _ _ _ _ _ _ _ _ _ _ _ _ _ _ x _ _ => x
@[simp] theorem Plan.rows_mk (op : Int) (table : ByteArray) (index : ByteArray) (cols : List Col) (kids : List Plan) (terms : List Term) (lkeys : List Term) (rkeys : List Term) (aggs : List Agg) (keys : List By) (out : List Int) (lo : Bound) (hi : Bound) (limit : Int) (skip : Int) (all : Bool) (rows : List (List Val)) (est : Int) (cost : Int) : (Plan.mk op table index cols kids terms lkeys rkeys aggs keys out lo hi limit skip all rows est cost).rows = rows := rfl
def Plan.est : Plan → Int | .mk _ _ _ _ _ _ _ _ _ _ _ _ _ _ _ _ _ x _ => x
@[simp] theorem Plan.est_mk (op : Int) (table : ByteArray) (index : ByteArray) (cols : List Col) (kids : List Plan) (terms : List Term) (lkeys : List Term) (rkeys : List Term) (aggs : List Agg) (keys : List By) (out : List Int) (lo : Bound) (hi : Bound) (limit : Int) (skip : Int) (all : Bool) (rows : List (List Val)) (est : Int) (cost : Int) : (Plan.mk op table index cols kids terms lkeys rkeys aggs keys out lo hi limit skip all rows est cost).est = est := rfl
def Plan.cost : Plan → Int | .mk _ _ _ _ _ _ _ _ _ _ _ _ _ _ _ _ _ _ x => x
@[simp] theorem Plan.cost_mk (op : Int) (table : ByteArray) (index : ByteArray) (cols : List Col) (kids : List Plan) (terms : List Term) (lkeys : List Term) (rkeys : List Term) (aggs : List Agg) (keys : List By) (out : List Int) (lo : Bound) (hi : Bound) (limit : Int) (skip : Int) (all : Bool) (rows : List (List Val)) (est : Int) (cost : Int) : (Plan.mk op table index cols kids terms lkeys rkeys aggs keys out lo hi limit skip all rows est cost).cost = cost := rfl
def zeroPlan : Plan := .mk 0 ⟨#[]⟩ ⟨#[]⟩ [] [] [] [] [] [] [] [] zeroBound zeroBound 0 0 false [] 0 0
structure Sign where
  kind : Int
  b : Int
def zeroSign : Sign := ⟨0, 0⟩
structure Bunch where
  key : List Val
  rows : List (List Val)
def zeroBunch : Bunch := ⟨[], []⟩
structure Wld where
  env : List (List Val)
  db : List Data
def zeroWld : Wld := ⟨[], []⟩
structure Span where
  front : List Val
  lo : Bound
  hi : Bound
  n : Int
  counts : List Term
def zeroSpan : Span := ⟨[], zeroBound, zeroBound, 0, []⟩
inductive Ty
  | int | str | row | ints | pair | u8 | bol | trms | colss | val | col | by_ | bound | often | colStat | data | acc | stat | column | term | agg | rel | plan | sign | bunch | wld | span
  deriving DecidableEq
@[reducible] def Den : Ty → Type
  | .int => Int
  | .str => ByteArray
  | .row => List Val
  | .ints => List Int
  | .pair => Int × Int
  | .u8 => Int
  | .bol => Bool
  | .trms => List Term
  | .colss => List Col
  | .val => Val
  | .col => Col
  | .by_ => By
  | .bound => Bound
  | .often => Often
  | .colStat => ColStat
  | .data => Data
  | .acc => Acc
  | .stat => Stat
  | .column => Column
  | .term => Term
  | .agg => Agg
  | .rel => Rel
  | .plan => Plan
  | .sign => Sign
  | .bunch => Bunch
  | .wld => Wld
  | .span => Span
def dflt : (τ : Ty) → Den τ
  | .int => (0 : Int)
  | .str => (⟨#[]⟩ : ByteArray)
  | .row => ([] : List Val)
  | .ints => ([] : List Int)
  | .pair => ((0, 0) : Int × Int)
  | .u8 => (0 : Int)
  | .bol => (false : Bool)
  | .trms => ([] : List Term)
  | .colss => ([] : List Col)
  | .val => (zeroVal : Val)
  | .col => (zeroCol : Col)
  | .by_ => (zeroBy : By)
  | .bound => (zeroBound : Bound)
  | .often => (zeroOften : Often)
  | .colStat => (zeroColStat : ColStat)
  | .data => (zeroData : Data)
  | .acc => (zeroAcc : Acc)
  | .stat => (zeroStat : Stat)
  | .column => (zeroColumn : Column)
  | .term => (zeroTerm : Term)
  | .agg => (zeroAgg : Agg)
  | .rel => (zeroRel : Rel)
  | .plan => (zeroPlan : Plan)
  | .sign => (zeroSign : Sign)
  | .bunch => (zeroBunch : Bunch)
  | .wld => (zeroWld : Wld)
  | .span => (zeroSpan : Span)
def sz : Ty → Nat
  | .int => 1
  | .str => 1
  | .row => 1
  | .ints => 1
  | .pair => 2
  | .u8 => 1
  | .bol => 1
  | .trms => 1
  | .colss => 1
  | .val => 3
  | .col => 3
  | .by_ => 2
  | .bound => 3
  | .often => 4
  | .colStat => 4
  | .data => 2
  | .acc => 9
  | .stat => 4
  | .column => 7
  | .term => 10
  | .agg => 3
  | .rel => 11
  | .plan => 23
  | .sign => 2
  | .bunch => 2
  | .wld => 2
  | .span => 9
@[reducible] def Un : Uni := ⟨Ty, inferInstance, Den, dflt, sz⟩
def ci (n : Int) : V Un := .s (.int .i64 n)
def cu8 (n : Int) : V Un := .s (.int .u8 n)
def cb (b : Bool) : V Un := .s (.bool b)
def cs (s : ByteArray) : V Un := .s (.string s)
def enc : (τ : Ty) → Den τ → List (V Un)
  | .int, (x : Int) => [ci x]
  | .str, (x : ByteArray) => [cs x]
  | .row, (x : List Val) => [.dat (U := Un) Ty.val x]
  | .ints, (x : List Int) => [.dat (U := Un) Ty.int x]
  | .pair, (x : Int × Int) => [ci x.1, ci x.2]
  | .u8, (x : Int) => [cu8 x]
  | .bol, (x : Bool) => [cb x]
  | .trms, (x : List Term) => [.dat (U := Un) Ty.term x]
  | .colss, (x : List Col) => [.dat (U := Un) Ty.col x]
  | .val, (x : Val) => [ci x.kind, ci x.n, cs x.s]
  | .col, (x : Col) => [cs x.table, cs x.name, ci x.type]
  | .by_, (x : By) => [ci x.at_, cb x.down]
  | .bound, (x : Bound) => [cb x.is, cb x.open_, .dat (U := Un) Ty.val x.key]
  | .often, (x : Often) => [ci x.v.kind, ci x.v.n, cs x.v.s, ci x.n]
  | .colStat, (x : ColStat) => [ci x.nulls, ci x.distinct, .dat (U := Un) Ty.val x.ends, .dat (U := Un) Ty.often x.common]
  | .data, (x : Data) => [cs x.table, .dat (U := Un) Ty.row x.rows]
  | .acc, (x : Acc) => [cs x.name, cb x.distinct, ci x.n, ci x.hi, ci x.lo, ci x.v.kind, ci x.v.n, cs x.v.s, .dat (U := Un) Ty.val x.l]
  | .stat, (x : Stat) => [cs x.table, ci x.rows, ci x.pages, .dat (U := Un) Ty.colStat x.cols]
  | .column, (x : Column) => [ci x.c.nulls, ci x.c.distinct, .dat (U := Un) Ty.val x.c.ends, .dat (U := Un) Ty.often x.c.common, ci x.nulls, ci x.others, ci x.all]
  | .term, (x : Term) => [ci x.op, ci x.v.kind, ci x.v.n, cs x.v.s, ci x.depth, ci x.at_, cs x.name, .dat (U := Un) Ty.term x.kids, .dat (U := Un) Ty.rel x.sub, ci x.type]
  | .agg, (x : Agg) => [cs x.name, cb x.distinct, .dat (U := Un) Ty.term x.t]
  | .rel, (x : Rel) => [ci x.op, cs x.table, .dat (U := Un) Ty.col x.cols, .dat (U := Un) Ty.rel x.kids, .dat (U := Un) Ty.term x.terms, .dat (U := Un) Ty.agg x.aggs, .dat (U := Un) Ty.by_ x.keys, ci x.limit, ci x.skip, cb x.all, .dat (U := Un) Ty.row x.rows]
  | .plan, (x : Plan) => [ci x.op, cs x.table, cs x.index, .dat (U := Un) Ty.col x.cols, .dat (U := Un) Ty.plan x.kids, .dat (U := Un) Ty.term x.terms, .dat (U := Un) Ty.term x.lkeys, .dat (U := Un) Ty.term x.rkeys, .dat (U := Un) Ty.agg x.aggs, .dat (U := Un) Ty.by_ x.keys, .dat (U := Un) Ty.int x.out, cb x.lo.is, cb x.lo.open_, .dat (U := Un) Ty.val x.lo.key, cb x.hi.is, cb x.hi.open_, .dat (U := Un) Ty.val x.hi.key, ci x.limit, ci x.skip, cb x.all, .dat (U := Un) Ty.row x.rows, ci x.est, ci x.cost]
  | .sign, (x : Sign) => [ci x.kind, cu8 x.b]
  | .bunch, (x : Bunch) => [.dat (U := Un) Ty.val x.key, .dat (U := Un) Ty.row x.rows]
  | .wld, (x : Wld) => [.dat (U := Un) Ty.row x.env, .dat (U := Un) Ty.data x.db]
  | .span, (x : Span) => [.dat (U := Un) Ty.val x.front, cb x.lo.is, cb x.lo.open_, .dat (U := Un) Ty.val x.lo.key, cb x.hi.is, cb x.hi.open_, .dat (U := Un) Ty.val x.hi.key, ci x.n, .dat (U := Un) Ty.term x.counts]
def int? : V Un → Option Int | .s (.int .i64 n) => some n | _ => none
def u8? : V Un → Option Int | .s (.int .u8 n) => some n | _ => none
def bool? : V Un → Option Bool | .s (.bool b) => some b | _ => none
def str? : V Un → Option ByteArray | .s (.string s) => some s | _ => none
def lst? (τ : Ty) : V Un → Option (List (Den τ))
  | .dat τ' xs => match instDecidableEqTy τ' τ with | .isTrue h => some (h ▸ xs) | .isFalse _ => none
  | _ => none
theorem int_of {c : V Un} {n : Int} (h : int? c = some n) : c = ci n := by unfold int? at h; split at h <;> simp at h; subst h; rfl
theorem u8_of {c : V Un} {n : Int} (h : u8? c = some n) : c = cu8 n := by unfold u8? at h; split at h <;> simp at h; subst h; rfl
theorem bool_of {c : V Un} {n : Bool} (h : bool? c = some n) : c = cb n := by unfold bool? at h; split at h <;> simp at h; subst h; rfl
theorem str_of {c : V Un} {n : ByteArray} (h : str? c = some n) : c = cs n := by unfold str? at h; split at h <;> simp at h; subst h; rfl
theorem lst_of {τ : Ty} {c : V Un} {n : List (Den τ)} (h : lst? τ c = some n) : c = .dat (U := Un) τ n := by
  cases c with
  | s x => simp [lst?] at h
  | dat τ' xs =>
    simp only [lst?] at h
    split at h
    · rename_i hh _; subst hh; simp at h; subst h; rfl
    · simp at h
def dec_int : List (V Un) → Option (Int)
  | [c0] => (int? c0).bind fun a0 => some a0
  | _ => none
theorem back_int {l : List (V Un)} {x : Int} (h : dec_int l = some x) : enc .int x = l := by
  unfold dec_int at h
  split at h
  · simp only [Option.bind_eq_some_iff, Option.some.injEq] at h
    obtain ⟨a0, h0, rfl⟩ := h
    rw [int_of h0]
    rfl
  · simp at h
def dec_str : List (V Un) → Option (ByteArray)
  | [c0] => (str? c0).bind fun a0 => some a0
  | _ => none
theorem back_str {l : List (V Un)} {x : ByteArray} (h : dec_str l = some x) : enc .str x = l := by
  unfold dec_str at h
  split at h
  · simp only [Option.bind_eq_some_iff, Option.some.injEq] at h
    obtain ⟨a0, h0, rfl⟩ := h
    rw [str_of h0]
    rfl
  · simp at h
def dec_row : List (V Un) → Option (List Val)
  | [c0] => (lst? .val c0).bind fun a0 => some a0
  | _ => none
theorem back_row {l : List (V Un)} {x : List Val} (h : dec_row l = some x) : enc .row x = l := by
  unfold dec_row at h
  split at h
  · simp only [Option.bind_eq_some_iff, Option.some.injEq] at h
    obtain ⟨a0, h0, rfl⟩ := h
    rw [lst_of h0]
    rfl
  · simp at h
def dec_ints : List (V Un) → Option (List Int)
  | [c0] => (lst? .int c0).bind fun a0 => some a0
  | _ => none
theorem back_ints {l : List (V Un)} {x : List Int} (h : dec_ints l = some x) : enc .ints x = l := by
  unfold dec_ints at h
  split at h
  · simp only [Option.bind_eq_some_iff, Option.some.injEq] at h
    obtain ⟨a0, h0, rfl⟩ := h
    rw [lst_of h0]
    rfl
  · simp at h
def dec_pair : List (V Un) → Option (Int × Int)
  | [c0, c1] => (int? c0).bind fun a0 => (int? c1).bind fun a1 => some (a0, a1)
  | _ => none
theorem back_pair {l : List (V Un)} {x : Int × Int} (h : dec_pair l = some x) : enc .pair x = l := by
  unfold dec_pair at h
  split at h
  · simp only [Option.bind_eq_some_iff, Option.some.injEq] at h
    obtain ⟨a0, h0, a1, h1, rfl⟩ := h
    rw [int_of h0, int_of h1]
    rfl
  · simp at h
def dec_u8 : List (V Un) → Option (Int)
  | [c0] => (u8? c0).bind fun a0 => some a0
  | _ => none
theorem back_u8 {l : List (V Un)} {x : Int} (h : dec_u8 l = some x) : enc .u8 x = l := by
  unfold dec_u8 at h
  split at h
  · simp only [Option.bind_eq_some_iff, Option.some.injEq] at h
    obtain ⟨a0, h0, rfl⟩ := h
    rw [u8_of h0]
    rfl
  · simp at h
def dec_bol : List (V Un) → Option (Bool)
  | [c0] => (bool? c0).bind fun a0 => some a0
  | _ => none
theorem back_bol {l : List (V Un)} {x : Bool} (h : dec_bol l = some x) : enc .bol x = l := by
  unfold dec_bol at h
  split at h
  · simp only [Option.bind_eq_some_iff, Option.some.injEq] at h
    obtain ⟨a0, h0, rfl⟩ := h
    rw [bool_of h0]
    rfl
  · simp at h
def dec_trms : List (V Un) → Option (List Term)
  | [c0] => (lst? .term c0).bind fun a0 => some a0
  | _ => none
theorem back_trms {l : List (V Un)} {x : List Term} (h : dec_trms l = some x) : enc .trms x = l := by
  unfold dec_trms at h
  split at h
  · simp only [Option.bind_eq_some_iff, Option.some.injEq] at h
    obtain ⟨a0, h0, rfl⟩ := h
    rw [lst_of h0]
    rfl
  · simp at h
def dec_colss : List (V Un) → Option (List Col)
  | [c0] => (lst? .col c0).bind fun a0 => some a0
  | _ => none
theorem back_colss {l : List (V Un)} {x : List Col} (h : dec_colss l = some x) : enc .colss x = l := by
  unfold dec_colss at h
  split at h
  · simp only [Option.bind_eq_some_iff, Option.some.injEq] at h
    obtain ⟨a0, h0, rfl⟩ := h
    rw [lst_of h0]
    rfl
  · simp at h
def dec_val : List (V Un) → Option (Val)
  | [c0, c1, c2] => (int? c0).bind fun a0 => (int? c1).bind fun a1 => (str? c2).bind fun a2 => some (Val.mk a0 a1 a2)
  | _ => none
theorem back_val {l : List (V Un)} {x : Val} (h : dec_val l = some x) : enc .val x = l := by
  unfold dec_val at h
  split at h
  · simp only [Option.bind_eq_some_iff, Option.some.injEq] at h
    obtain ⟨a0, h0, a1, h1, a2, h2, rfl⟩ := h
    rw [int_of h0, int_of h1, str_of h2]
    rfl
  · simp at h
def dec_col : List (V Un) → Option (Col)
  | [c0, c1, c2] => (str? c0).bind fun a0 => (str? c1).bind fun a1 => (int? c2).bind fun a2 => some (Col.mk a0 a1 a2)
  | _ => none
theorem back_col {l : List (V Un)} {x : Col} (h : dec_col l = some x) : enc .col x = l := by
  unfold dec_col at h
  split at h
  · simp only [Option.bind_eq_some_iff, Option.some.injEq] at h
    obtain ⟨a0, h0, a1, h1, a2, h2, rfl⟩ := h
    rw [str_of h0, str_of h1, int_of h2]
    rfl
  · simp at h
def dec_by_ : List (V Un) → Option (By)
  | [c0, c1] => (int? c0).bind fun a0 => (bool? c1).bind fun a1 => some (By.mk a0 a1)
  | _ => none
theorem back_by_ {l : List (V Un)} {x : By} (h : dec_by_ l = some x) : enc .by_ x = l := by
  unfold dec_by_ at h
  split at h
  · simp only [Option.bind_eq_some_iff, Option.some.injEq] at h
    obtain ⟨a0, h0, a1, h1, rfl⟩ := h
    rw [int_of h0, bool_of h1]
    rfl
  · simp at h
def dec_bound : List (V Un) → Option (Bound)
  | [c0, c1, c2] => (bool? c0).bind fun a0 => (bool? c1).bind fun a1 => (lst? .val c2).bind fun a2 => some (Bound.mk a0 a1 a2)
  | _ => none
theorem back_bound {l : List (V Un)} {x : Bound} (h : dec_bound l = some x) : enc .bound x = l := by
  unfold dec_bound at h
  split at h
  · simp only [Option.bind_eq_some_iff, Option.some.injEq] at h
    obtain ⟨a0, h0, a1, h1, a2, h2, rfl⟩ := h
    rw [bool_of h0, bool_of h1, lst_of h2]
    rfl
  · simp at h
def dec_often : List (V Un) → Option (Often)
  | [c0, c1, c2, c3] => (int? c0).bind fun a0 => (int? c1).bind fun a1 => (str? c2).bind fun a2 => (int? c3).bind fun a3 => some (Often.mk (Val.mk a0 a1 a2) a3)
  | _ => none
theorem back_often {l : List (V Un)} {x : Often} (h : dec_often l = some x) : enc .often x = l := by
  unfold dec_often at h
  split at h
  · simp only [Option.bind_eq_some_iff, Option.some.injEq] at h
    obtain ⟨a0, h0, a1, h1, a2, h2, a3, h3, rfl⟩ := h
    rw [int_of h0, int_of h1, str_of h2, int_of h3]
    rfl
  · simp at h
def dec_colStat : List (V Un) → Option (ColStat)
  | [c0, c1, c2, c3] => (int? c0).bind fun a0 => (int? c1).bind fun a1 => (lst? .val c2).bind fun a2 => (lst? .often c3).bind fun a3 => some (ColStat.mk a0 a1 a2 a3)
  | _ => none
theorem back_colStat {l : List (V Un)} {x : ColStat} (h : dec_colStat l = some x) : enc .colStat x = l := by
  unfold dec_colStat at h
  split at h
  · simp only [Option.bind_eq_some_iff, Option.some.injEq] at h
    obtain ⟨a0, h0, a1, h1, a2, h2, a3, h3, rfl⟩ := h
    rw [int_of h0, int_of h1, lst_of h2, lst_of h3]
    rfl
  · simp at h
def dec_data : List (V Un) → Option (Data)
  | [c0, c1] => (str? c0).bind fun a0 => (lst? .row c1).bind fun a1 => some (Data.mk a0 a1)
  | _ => none
theorem back_data {l : List (V Un)} {x : Data} (h : dec_data l = some x) : enc .data x = l := by
  unfold dec_data at h
  split at h
  · simp only [Option.bind_eq_some_iff, Option.some.injEq] at h
    obtain ⟨a0, h0, a1, h1, rfl⟩ := h
    rw [str_of h0, lst_of h1]
    rfl
  · simp at h
def dec_acc : List (V Un) → Option (Acc)
  | [c0, c1, c2, c3, c4, c5, c6, c7, c8] => (str? c0).bind fun a0 => (bool? c1).bind fun a1 => (int? c2).bind fun a2 => (int? c3).bind fun a3 => (int? c4).bind fun a4 => (int? c5).bind fun a5 => (int? c6).bind fun a6 => (str? c7).bind fun a7 => (lst? .val c8).bind fun a8 => some (Acc.mk a0 a1 a2 a3 a4 (Val.mk a5 a6 a7) a8)
  | _ => none
theorem back_acc {l : List (V Un)} {x : Acc} (h : dec_acc l = some x) : enc .acc x = l := by
  unfold dec_acc at h
  split at h
  · simp only [Option.bind_eq_some_iff, Option.some.injEq] at h
    obtain ⟨a0, h0, a1, h1, a2, h2, a3, h3, a4, h4, a5, h5, a6, h6, a7, h7, a8, h8, rfl⟩ := h
    rw [str_of h0, bool_of h1, int_of h2, int_of h3, int_of h4, int_of h5, int_of h6, str_of h7, lst_of h8]
    rfl
  · simp at h
def dec_stat : List (V Un) → Option (Stat)
  | [c0, c1, c2, c3] => (str? c0).bind fun a0 => (int? c1).bind fun a1 => (int? c2).bind fun a2 => (lst? .colStat c3).bind fun a3 => some (Stat.mk a0 a1 a2 a3)
  | _ => none
theorem back_stat {l : List (V Un)} {x : Stat} (h : dec_stat l = some x) : enc .stat x = l := by
  unfold dec_stat at h
  split at h
  · simp only [Option.bind_eq_some_iff, Option.some.injEq] at h
    obtain ⟨a0, h0, a1, h1, a2, h2, a3, h3, rfl⟩ := h
    rw [str_of h0, int_of h1, int_of h2, lst_of h3]
    rfl
  · simp at h
def dec_column : List (V Un) → Option (Column)
  | [c0, c1, c2, c3, c4, c5, c6] => (int? c0).bind fun a0 => (int? c1).bind fun a1 => (lst? .val c2).bind fun a2 => (lst? .often c3).bind fun a3 => (int? c4).bind fun a4 => (int? c5).bind fun a5 => (int? c6).bind fun a6 => some (Column.mk (ColStat.mk a0 a1 a2 a3) a4 a5 a6)
  | _ => none
theorem back_column {l : List (V Un)} {x : Column} (h : dec_column l = some x) : enc .column x = l := by
  unfold dec_column at h
  split at h
  · simp only [Option.bind_eq_some_iff, Option.some.injEq] at h
    obtain ⟨a0, h0, a1, h1, a2, h2, a3, h3, a4, h4, a5, h5, a6, h6, rfl⟩ := h
    rw [int_of h0, int_of h1, lst_of h2, lst_of h3, int_of h4, int_of h5, int_of h6]
    rfl
  · simp at h
def dec_term : List (V Un) → Option (Term)
  | [c0, c1, c2, c3, c4, c5, c6, c7, c8, c9] => (int? c0).bind fun a0 => (int? c1).bind fun a1 => (int? c2).bind fun a2 => (str? c3).bind fun a3 => (int? c4).bind fun a4 => (int? c5).bind fun a5 => (str? c6).bind fun a6 => (lst? .term c7).bind fun a7 => (lst? .rel c8).bind fun a8 => (int? c9).bind fun a9 => some (Term.mk a0 (Val.mk a1 a2 a3) a4 a5 a6 a7 a8 a9)
  | _ => none
theorem back_term {l : List (V Un)} {x : Term} (h : dec_term l = some x) : enc .term x = l := by
  unfold dec_term at h
  split at h
  · simp only [Option.bind_eq_some_iff, Option.some.injEq] at h
    obtain ⟨a0, h0, a1, h1, a2, h2, a3, h3, a4, h4, a5, h5, a6, h6, a7, h7, a8, h8, a9, h9, rfl⟩ := h
    rw [int_of h0, int_of h1, int_of h2, str_of h3, int_of h4, int_of h5, str_of h6, lst_of h7, lst_of h8, int_of h9]
    rfl
  · simp at h
def dec_agg : List (V Un) → Option (Agg)
  | [c0, c1, c2] => (str? c0).bind fun a0 => (bool? c1).bind fun a1 => (lst? .term c2).bind fun a2 => some (Agg.mk a0 a1 a2)
  | _ => none
theorem back_agg {l : List (V Un)} {x : Agg} (h : dec_agg l = some x) : enc .agg x = l := by
  unfold dec_agg at h
  split at h
  · simp only [Option.bind_eq_some_iff, Option.some.injEq] at h
    obtain ⟨a0, h0, a1, h1, a2, h2, rfl⟩ := h
    rw [str_of h0, bool_of h1, lst_of h2]
    rfl
  · simp at h
def dec_rel : List (V Un) → Option (Rel)
  | [c0, c1, c2, c3, c4, c5, c6, c7, c8, c9, c10] => (int? c0).bind fun a0 => (str? c1).bind fun a1 => (lst? .col c2).bind fun a2 => (lst? .rel c3).bind fun a3 => (lst? .term c4).bind fun a4 => (lst? .agg c5).bind fun a5 => (lst? .by_ c6).bind fun a6 => (int? c7).bind fun a7 => (int? c8).bind fun a8 => (bool? c9).bind fun a9 => (lst? .row c10).bind fun a10 => some (Rel.mk a0 a1 a2 a3 a4 a5 a6 a7 a8 a9 a10)
  | _ => none
theorem back_rel {l : List (V Un)} {x : Rel} (h : dec_rel l = some x) : enc .rel x = l := by
  unfold dec_rel at h
  split at h
  · simp only [Option.bind_eq_some_iff, Option.some.injEq] at h
    obtain ⟨a0, h0, a1, h1, a2, h2, a3, h3, a4, h4, a5, h5, a6, h6, a7, h7, a8, h8, a9, h9, a10, h10, rfl⟩ := h
    rw [int_of h0, str_of h1, lst_of h2, lst_of h3, lst_of h4, lst_of h5, lst_of h6, int_of h7, int_of h8, bool_of h9, lst_of h10]
    rfl
  · simp at h
def dec_plan : List (V Un) → Option (Plan)
  | [c0, c1, c2, c3, c4, c5, c6, c7, c8, c9, c10, c11, c12, c13, c14, c15, c16, c17, c18, c19, c20, c21, c22] => (int? c0).bind fun a0 => (str? c1).bind fun a1 => (str? c2).bind fun a2 => (lst? .col c3).bind fun a3 => (lst? .plan c4).bind fun a4 => (lst? .term c5).bind fun a5 => (lst? .term c6).bind fun a6 => (lst? .term c7).bind fun a7 => (lst? .agg c8).bind fun a8 => (lst? .by_ c9).bind fun a9 => (lst? .int c10).bind fun a10 => (bool? c11).bind fun a11 => (bool? c12).bind fun a12 => (lst? .val c13).bind fun a13 => (bool? c14).bind fun a14 => (bool? c15).bind fun a15 => (lst? .val c16).bind fun a16 => (int? c17).bind fun a17 => (int? c18).bind fun a18 => (bool? c19).bind fun a19 => (lst? .row c20).bind fun a20 => (int? c21).bind fun a21 => (int? c22).bind fun a22 => some (Plan.mk a0 a1 a2 a3 a4 a5 a6 a7 a8 a9 a10 (Bound.mk a11 a12 a13) (Bound.mk a14 a15 a16) a17 a18 a19 a20 a21 a22)
  | _ => none
theorem back_plan {l : List (V Un)} {x : Plan} (h : dec_plan l = some x) : enc .plan x = l := by
  unfold dec_plan at h
  split at h
  · simp only [Option.bind_eq_some_iff, Option.some.injEq] at h
    obtain ⟨a0, h0, a1, h1, a2, h2, a3, h3, a4, h4, a5, h5, a6, h6, a7, h7, a8, h8, a9, h9, a10, h10, a11, h11, a12, h12, a13, h13, a14, h14, a15, h15, a16, h16, a17, h17, a18, h18, a19, h19, a20, h20, a21, h21, a22, h22, rfl⟩ := h
    rw [int_of h0, str_of h1, str_of h2, lst_of h3, lst_of h4, lst_of h5, lst_of h6, lst_of h7, lst_of h8, lst_of h9, lst_of h10, bool_of h11, bool_of h12, lst_of h13, bool_of h14, bool_of h15, lst_of h16, int_of h17, int_of h18, bool_of h19, lst_of h20, int_of h21, int_of h22]
    rfl
  · simp at h
def dec_sign : List (V Un) → Option (Sign)
  | [c0, c1] => (int? c0).bind fun a0 => (u8? c1).bind fun a1 => some (Sign.mk a0 a1)
  | _ => none
theorem back_sign {l : List (V Un)} {x : Sign} (h : dec_sign l = some x) : enc .sign x = l := by
  unfold dec_sign at h
  split at h
  · simp only [Option.bind_eq_some_iff, Option.some.injEq] at h
    obtain ⟨a0, h0, a1, h1, rfl⟩ := h
    rw [int_of h0, u8_of h1]
    rfl
  · simp at h
def dec_bunch : List (V Un) → Option (Bunch)
  | [c0, c1] => (lst? .val c0).bind fun a0 => (lst? .row c1).bind fun a1 => some (Bunch.mk a0 a1)
  | _ => none
theorem back_bunch {l : List (V Un)} {x : Bunch} (h : dec_bunch l = some x) : enc .bunch x = l := by
  unfold dec_bunch at h
  split at h
  · simp only [Option.bind_eq_some_iff, Option.some.injEq] at h
    obtain ⟨a0, h0, a1, h1, rfl⟩ := h
    rw [lst_of h0, lst_of h1]
    rfl
  · simp at h
def dec_wld : List (V Un) → Option (Wld)
  | [c0, c1] => (lst? .row c0).bind fun a0 => (lst? .data c1).bind fun a1 => some (Wld.mk a0 a1)
  | _ => none
theorem back_wld {l : List (V Un)} {x : Wld} (h : dec_wld l = some x) : enc .wld x = l := by
  unfold dec_wld at h
  split at h
  · simp only [Option.bind_eq_some_iff, Option.some.injEq] at h
    obtain ⟨a0, h0, a1, h1, rfl⟩ := h
    rw [lst_of h0, lst_of h1]
    rfl
  · simp at h
def dec_span : List (V Un) → Option (Span)
  | [c0, c1, c2, c3, c4, c5, c6, c7, c8] => (lst? .val c0).bind fun a0 => (bool? c1).bind fun a1 => (bool? c2).bind fun a2 => (lst? .val c3).bind fun a3 => (bool? c4).bind fun a4 => (bool? c5).bind fun a5 => (lst? .val c6).bind fun a6 => (int? c7).bind fun a7 => (lst? .term c8).bind fun a8 => some (Span.mk a0 (Bound.mk a1 a2 a3) (Bound.mk a4 a5 a6) a7 a8)
  | _ => none
theorem back_span {l : List (V Un)} {x : Span} (h : dec_span l = some x) : enc .span x = l := by
  unfold dec_span at h
  split at h
  · simp only [Option.bind_eq_some_iff, Option.some.injEq] at h
    obtain ⟨a0, h0, a1, h1, a2, h2, a3, h3, a4, h4, a5, h5, a6, h6, a7, h7, a8, h8, rfl⟩ := h
    rw [lst_of h0, bool_of h1, bool_of h2, lst_of h3, bool_of h4, bool_of h5, lst_of h6, int_of h7, lst_of h8]
    rfl
  · simp at h
def dec : (τ : Ty) → List (V Un) → Option (Den τ)
  | .int => dec_int
  | .str => dec_str
  | .row => dec_row
  | .ints => dec_ints
  | .pair => dec_pair
  | .u8 => dec_u8
  | .bol => dec_bol
  | .trms => dec_trms
  | .colss => dec_colss
  | .val => dec_val
  | .col => dec_col
  | .by_ => dec_by_
  | .bound => dec_bound
  | .often => dec_often
  | .colStat => dec_colStat
  | .data => dec_data
  | .acc => dec_acc
  | .stat => dec_stat
  | .column => dec_column
  | .term => dec_term
  | .agg => dec_agg
  | .rel => dec_rel
  | .plan => dec_plan
  | .sign => dec_sign
  | .bunch => dec_bunch
  | .wld => dec_wld
  | .span => dec_span
theorem enc_len : ∀ τ x, (enc τ x).length = sz τ := by intro τ x; cases τ <;> rfl
theorem enc_back : ∀ τ cs x, dec τ cs = some x → enc τ x = cs := by
  intro τ cs x h
  cases τ with
  | int => exact back_int h
  | str => exact back_str h
  | row => exact back_row h
  | ints => exact back_ints h
  | pair => exact back_pair h
  | u8 => exact back_u8 h
  | bol => exact back_bol h
  | trms => exact back_trms h
  | colss => exact back_colss h
  | val => exact back_val h
  | col => exact back_col h
  | by_ => exact back_by_ h
  | bound => exact back_bound h
  | often => exact back_often h
  | colStat => exact back_colStat h
  | data => exact back_data h
  | acc => exact back_acc h
  | stat => exact back_stat h
  | column => exact back_column h
  | term => exact back_term h
  | agg => exact back_agg h
  | rel => exact back_rel h
  | plan => exact back_plan h
  | sign => exact back_sign h
  | bunch => exact back_bunch h
  | wld => exact back_wld h
  | span => exact back_span h
def En : Enc Un := ⟨enc, dec, enc_len, enc_back⟩
def encC (τ : Ty) (x : Den τ) : List (C Un) := (enc τ x).map C.ofV
abbrev WI (n : Int) : Prop := -9223372036854775808 ≤ n ∧ n ≤ 9223372036854775807
abbrev WK (k : IntKind) (n : Int) : Prop := k.min ≤ n ∧ n ≤ k.max
abbrev WStr (s : ByteArray) : Prop := s.size ≤ 9223372036854775807
def WL (τ : Ty) (l : List (Den τ)) : Prop := VWf En (.dat (U := Un) τ l)
def WS (τ : Ty) (x : Den τ) : Prop := ∀ d ∈ enc τ x, VWf En d
theorem vwf_ci (n : Int) : VWf En (ci n) ↔ WI n := ⟨fun h => by cases h with | s _ h => exact of_decide_eq_true h, fun h => .s _ (decide_eq_true h)⟩
theorem vwf_cu8 (n : Int) : VWf En (cu8 n) ↔ WK .u8 n := ⟨fun h => by cases h with | s _ h => exact of_decide_eq_true h, fun h => .s _ (decide_eq_true h)⟩
theorem vwf_cb (b : Bool) : VWf En (cb b) ↔ True := ⟨fun _ => trivial, fun _ => .s _ rfl⟩
theorem vwf_cs (s : ByteArray) : VWf En (cs s) ↔ WStr s := ⟨fun h => by cases h with | s _ h => exact of_decide_eq_true h, fun h => .s _ (decide_eq_true h)⟩
theorem vwf_dat (τ : Ty) (l : List (Den τ)) : VWf En (.dat (U := Un) τ l) ↔ WL τ l := Iff.rfl
theorem WL_iff (τ : Ty) (l : List (Den τ)) : WL τ l ↔ l.length ≤ 9223372036854775807 ∧ ∀ x ∈ l, WS τ x := by
  refine ⟨fun h => ?_, fun h => .dat (U := Un) τ l h.1 fun i hi j d hd => h.2 _ (List.getElem_mem hi) _ (List.mem_of_getElem? hd)⟩
  cases h with
  | dat _ _ h1 h2 =>
    refine ⟨h1, fun x hx d hd => ?_⟩
    obtain ⟨i, hi, rfl⟩ := List.getElem_of_mem hx
    obtain ⟨j, hj⟩ := List.getElem?_of_mem hd
    exact h2 i hi j d hj
theorem WL.len {τ : Ty} {l : List (Den τ)} (h : WL τ l) : l.length ≤ 9223372036854775807 := ((WL_iff τ l).1 h).1
theorem WL.get {τ : Ty} {l : List (Den τ)} (h : WL τ l) {x : Den τ} (hx : x ∈ l) : WS τ x := ((WL_iff τ l).1 h).2 x hx
theorem WL.nil {τ : Ty} : WL τ [] := (WL_iff τ []).2 ⟨by simp, by simp⟩
theorem WL.sub {τ : Ty} {l r : List (Den τ)} (h : WL τ l) (hs : r.length ≤ l.length) (hm : ∀ x ∈ r, x ∈ l) : WL τ r := (WL_iff τ r).2 ⟨Nat.le_trans hs h.len, fun x hx => h.get (hm x hx)⟩
theorem WL.drop {τ : Ty} {l : List (Den τ)} (h : WL τ l) (n : Nat) : WL τ (l.drop n) := h.sub (by simp) fun _ hx => List.mem_of_mem_drop hx
theorem WL.take {τ : Ty} {l : List (Den τ)} (h : WL τ l) (n : Nat) : WL τ (l.take n) := h.sub (by simp; omega) fun _ hx => List.mem_of_mem_take hx
theorem WL.at {τ : Ty} {l : List (Den τ)} (h : WL τ l) {i : Nat} (hi : i < l.length) : WS τ (l.getD i (dflt τ)) := by rw [List.getD_eq_getElem?_getD, List.getElem?_eq_getElem hi]; exact h.get (List.getElem_mem hi)
theorem WS_row (x : List Val) : WS .row x ↔ (WL .val x) := by
  show (∀ d ∈ [.dat (U := Un) Ty.val x], VWf En d) ↔ _
  simp only [List.forall_mem_cons, List.not_mem_nil, false_implies, implies_true, vwf_ci, vwf_cu8, vwf_cb, vwf_cs, vwf_dat, and_true, true_and]
theorem WS_val (x : Val) : WS .val x ↔ (WI x.kind) ∧ (WI x.n) ∧ (WStr x.s) := by
  show (∀ d ∈ [ci x.kind, ci x.n, cs x.s], VWf En d) ↔ _
  simp only [List.forall_mem_cons, List.not_mem_nil, false_implies, implies_true, vwf_ci, vwf_cu8, vwf_cb, vwf_cs, vwf_dat, and_true, true_and]
end Go.Proofs.YtcmfdbjdbbpomaaDoor.B
namespace Go.Proofs.YtcmfdbjdbbpomaaDoor.B
open Go
def tab : List (TypeId × TI Un) := [(1, .fn),
  (2, .int .i64),
  (3, .int .i64),
  (4, .bool),
  (5, .int .u8),
  (6, .int .u8),
  (7, .st [(0, 1, false), (1, 1, false), (2, 1, false), (3, 1, false)] 4),
  (8, .st [(0, 1, false), (1, 1, false), (2, 1, false), (3, 1, false)] 4),
  (9, .str),
  (10, .str),
  (11, .str),
  (12, .int .u64),
  (13, .st [(0, 1, false), (1, 1, false)] 2),
  (14, .st [(0, 1, false), (1, 1, false)] 2),
  (15, .one),
  (16, .one),
  (17, .one),
  (18, .st [(0, 1, false)] 1),
  (19, .st [(0, 1, false)] 1),
  (21, .int .i32),
  (22, .sl 35 Ty.row 24),
  (23, .fn),
  (24, .sl 32 Ty.pair 16),
  (25, .fn),
  (26, .fn),
  (27, .fn),
  (28, .ar 2 1 false),
  (29, .sl 3 Ty.int 8),
  (30, .fn),
  (31, .ar 40 1 false),
  (32, .ar 2 1 false),
  (33, .fn),
  (34, .sl 39 Ty.val 32),
  (35, .sl 39 Ty.val 32),
  (36, .fn),
  (37, .fn),
  (38, .st [(0, 1, false), (1, 1, false), (2, 1, false)] 3),
  (39, .st [(0, 1, false), (1, 1, false), (2, 1, false)] 3),
  (40, .fn),
  (41, .fn),
  (42, .one),
  (43, .fn),
  (44, .fn),
  (45, .fn),
  (46, .fn),
  (47, .fn),
  (48, .fn),
  (49, .fn),
  (50, .fn),
  (51, .one),
  (52, .fn),
  (53, .fn),
  (54, .fn),
  (55, .fn),
  (56, .one),
  (57, .sl 5 Ty.u8 1),
  (58, .st [(0, 1, false), (1, 1, false)] 2),
  (59, .st [(0, 1, false), (1, 1, false)] 2),
  (60, .ar 3 1 false),
  (64, .fn),
  (65, .fn),
  (66, .fn),
  (67, .fn),
  (68, .fn),
  (69, .fn),
  (70, .fn),
  (71, .int .u64),
  (72, .fn),
  (73, .fn),
  (74, .fn),
  (75, .one),
  (76, .fn),
  (77, .fn),
  (78, .int .i64),
  (80, .fn),
  (81, .fn),
  (82, .fn),
  (84, .fn),
  (85, .fn),
  (86, .int .u32),
  (87, .fn),
  (88, .int .u64),
  (90, .fn),
  (91, .fn),
  (92, .fn),
  (93, .fn),
  (94, .fn),
  (95, .fn),
  (96, .fn),
  (97, .int .u64),
  (98, .fn),
  (99, .fn),
  (100, .fn),
  (101, .one),
  (102, .fn),
  (103, .ar 24 1 false),
  (104, .fn),
  (106, .fn),
  (107, .fn),
  (108, .fn),
  (109, .one),
  (111, .fn),
  (112, .fn),
  (113, .fn),
  (114, .ar 20 1 false),
  (115, .ar 65 1 false),
  (116, .fn),
  (117, .ar 32 1 false),
  (118, .ar 64 1 false),
  (119, .st [(0, 1, false), (1, 1, false), (2, 1, false), (3, 1, false)] 4),
  (120, .st [(0, 1, false), (1, 1, false), (2, 1, false), (3, 1, false)] 4),
  (121, .ar 0 1 false),
  (124, .fn),
  (125, .int .u8),
  (126, .int .u8),
  (127, .fn),
  (128, .int .i32),
  (129, .int .i32),
  (130, .st [(0, 1, false), (1, 1, false), (2, 1, false), (3, 1, false), (4, 1, false), (5, 1, false), (6, 1, false), (7, 1, false), (8, 1, false), (9, 1, false), (10, 1, false)] 11),
  (131, .st [(0, 1, false), (1, 1, false), (2, 1, false), (3, 1, false), (4, 1, false), (5, 1, false), (6, 1, false), (7, 1, false), (8, 1, false), (9, 1, false), (10, 1, false)] 11)]
def zeros : List (TypeId × List (C Un)) := [(1, [.s .nilFunc]),
  (2, [.s (.int .i64 0)]),
  (3, [.s (.int .i64 0)]),
  (4, [.s (.bool false)]),
  (5, [.s (.int .u8 0)]),
  (6, [.s (.int .u8 0)]),
  (7, [.s (.int .i64 0), .s (.int .i64 0), .s (.bool false), .s (.int .u8 0)]),
  (8, [.s (.int .i64 0), .s (.int .i64 0), .s (.bool false), .s (.int .u8 0)]),
  (9, [.s (.string ⟨#[]⟩)]),
  (10, [.s (.string ⟨#[]⟩)]),
  (11, [.s (.string ⟨#[]⟩)]),
  (12, [.s (.int .u64 0)]),
  (13, [.s (.string ⟨#[]⟩), .s (.int .u64 0)]),
  (14, [.s (.string ⟨#[]⟩), .s (.int .u64 0)]),
  (21, [.s (.int .i32 0)]),
  (22, [.sl (U := Un) Ty.row [] true]),
  (23, [.s .nilFunc]),
  (24, [.sl (U := Un) Ty.pair [] true]),
  (25, [.s .nilFunc]),
  (26, [.s .nilFunc]),
  (27, [.s .nilFunc]),
  (28, [.sl (U := Un) Ty.row [] true, .sl (U := Un) Ty.row [] true]),
  (29, [.sl (U := Un) Ty.int [] true]),
  (30, [.s .nilFunc]),
  (31, [.s (.int .i64 0), .s (.int .i64 0), .s (.int .i64 0), .s (.int .i64 0), .s (.int .i64 0), .s (.int .i64 0), .s (.int .i64 0), .s (.int .i64 0), .s (.int .i64 0), .s (.int .i64 0), .s (.int .i64 0), .s (.int .i64 0), .s (.int .i64 0), .s (.int .i64 0), .s (.int .i64 0), .s (.int .i64 0), .s (.int .i64 0), .s (.int .i64 0), .s (.int .i64 0), .s (.int .i64 0), .s (.int .i64 0), .s (.int .i64 0), .s (.int .i64 0), .s (.int .i64 0), .s (.int .i64 0), .s (.int .i64 0), .s (.int .i64 0), .s (.int .i64 0), .s (.int .i64 0), .s (.int .i64 0), .s (.int .i64 0), .s (.int .i64 0), .s (.int .i64 0), .s (.int .i64 0), .s (.int .i64 0), .s (.int .i64 0), .s (.int .i64 0), .s (.int .i64 0), .s (.int .i64 0), .s (.int .i64 0)]),
  (32, [.s (.int .i64 0), .s (.int .i64 0)]),
  (33, [.s .nilFunc]),
  (34, [.sl (U := Un) Ty.val [] true]),
  (35, [.sl (U := Un) Ty.val [] true]),
  (36, [.s .nilFunc]),
  (37, [.s .nilFunc]),
  (38, [.s (.int .i64 0), .s (.int .i64 0), .s (.string ⟨#[]⟩)]),
  (39, [.s (.int .i64 0), .s (.int .i64 0), .s (.string ⟨#[]⟩)]),
  (40, [.s .nilFunc]),
  (41, [.s .nilFunc]),
  (43, [.s .nilFunc]),
  (44, [.s .nilFunc]),
  (45, [.s .nilFunc]),
  (46, [.s .nilFunc]),
  (47, [.s .nilFunc]),
  (48, [.s .nilFunc]),
  (49, [.s .nilFunc]),
  (50, [.s .nilFunc]),
  (52, [.s .nilFunc]),
  (53, [.s .nilFunc]),
  (54, [.s .nilFunc]),
  (55, [.s .nilFunc]),
  (57, [.sl (U := Un) Ty.u8 [] true]),
  (60, [.s (.int .i64 0), .s (.int .i64 0), .s (.int .i64 0)]),
  (64, [.s .nilFunc]),
  (65, [.s .nilFunc]),
  (66, [.s .nilFunc]),
  (67, [.s .nilFunc]),
  (68, [.s .nilFunc]),
  (69, [.s .nilFunc]),
  (70, [.s .nilFunc]),
  (71, [.s (.int .u64 0)]),
  (72, [.s .nilFunc]),
  (73, [.s .nilFunc]),
  (74, [.s .nilFunc]),
  (76, [.s .nilFunc]),
  (77, [.s .nilFunc]),
  (78, [.s (.int .i64 0)]),
  (80, [.s .nilFunc]),
  (81, [.s .nilFunc]),
  (82, [.s .nilFunc]),
  (84, [.s .nilFunc]),
  (85, [.s .nilFunc]),
  (86, [.s (.int .u32 0)]),
  (87, [.s .nilFunc]),
  (88, [.s (.int .u64 0)]),
  (90, [.s .nilFunc]),
  (91, [.s .nilFunc]),
  (92, [.s .nilFunc]),
  (93, [.s .nilFunc]),
  (94, [.s .nilFunc]),
  (95, [.s .nilFunc]),
  (96, [.s .nilFunc]),
  (97, [.s (.int .u64 0)]),
  (98, [.s .nilFunc]),
  (99, [.s .nilFunc]),
  (100, [.s .nilFunc]),
  (102, [.s .nilFunc]),
  (103, [.s (.int .u8 0), .s (.int .u8 0), .s (.int .u8 0), .s (.int .u8 0), .s (.int .u8 0), .s (.int .u8 0), .s (.int .u8 0), .s (.int .u8 0), .s (.int .u8 0), .s (.int .u8 0), .s (.int .u8 0), .s (.int .u8 0), .s (.int .u8 0), .s (.int .u8 0), .s (.int .u8 0), .s (.int .u8 0), .s (.int .u8 0), .s (.int .u8 0), .s (.int .u8 0), .s (.int .u8 0), .s (.int .u8 0), .s (.int .u8 0), .s (.int .u8 0), .s (.int .u8 0)]),
  (104, [.s .nilFunc]),
  (106, [.s .nilFunc]),
  (107, [.s .nilFunc]),
  (108, [.s .nilFunc]),
  (111, [.s .nilFunc]),
  (112, [.s .nilFunc]),
  (113, [.s .nilFunc]),
  (114, [.s (.int .u64 0), .s (.int .u64 0), .s (.int .u64 0), .s (.int .u64 0), .s (.int .u64 0), .s (.int .u64 0), .s (.int .u64 0), .s (.int .u64 0), .s (.int .u64 0), .s (.int .u64 0), .s (.int .u64 0), .s (.int .u64 0), .s (.int .u64 0), .s (.int .u64 0), .s (.int .u64 0), .s (.int .u64 0), .s (.int .u64 0), .s (.int .u64 0), .s (.int .u64 0), .s (.int .u64 0)]),
  (116, [.s .nilFunc]),
  (117, [.s (.int .u8 0), .s (.int .u8 0), .s (.int .u8 0), .s (.int .u8 0), .s (.int .u8 0), .s (.int .u8 0), .s (.int .u8 0), .s (.int .u8 0), .s (.int .u8 0), .s (.int .u8 0), .s (.int .u8 0), .s (.int .u8 0), .s (.int .u8 0), .s (.int .u8 0), .s (.int .u8 0), .s (.int .u8 0), .s (.int .u8 0), .s (.int .u8 0), .s (.int .u8 0), .s (.int .u8 0), .s (.int .u8 0), .s (.int .u8 0), .s (.int .u8 0), .s (.int .u8 0), .s (.int .u8 0), .s (.int .u8 0), .s (.int .u8 0), .s (.int .u8 0), .s (.int .u8 0), .s (.int .u8 0), .s (.int .u8 0), .s (.int .u8 0)]),
  (118, [.s (.int .u8 0), .s (.int .u8 0), .s (.int .u8 0), .s (.int .u8 0), .s (.int .u8 0), .s (.int .u8 0), .s (.int .u8 0), .s (.int .u8 0), .s (.int .u8 0), .s (.int .u8 0), .s (.int .u8 0), .s (.int .u8 0), .s (.int .u8 0), .s (.int .u8 0), .s (.int .u8 0), .s (.int .u8 0), .s (.int .u8 0), .s (.int .u8 0), .s (.int .u8 0), .s (.int .u8 0), .s (.int .u8 0), .s (.int .u8 0), .s (.int .u8 0), .s (.int .u8 0), .s (.int .u8 0), .s (.int .u8 0), .s (.int .u8 0), .s (.int .u8 0), .s (.int .u8 0), .s (.int .u8 0), .s (.int .u8 0), .s (.int .u8 0), .s (.int .u8 0), .s (.int .u8 0), .s (.int .u8 0), .s (.int .u8 0), .s (.int .u8 0), .s (.int .u8 0), .s (.int .u8 0), .s (.int .u8 0), .s (.int .u8 0), .s (.int .u8 0), .s (.int .u8 0), .s (.int .u8 0), .s (.int .u8 0), .s (.int .u8 0), .s (.int .u8 0), .s (.int .u8 0), .s (.int .u8 0), .s (.int .u8 0), .s (.int .u8 0), .s (.int .u8 0), .s (.int .u8 0), .s (.int .u8 0), .s (.int .u8 0), .s (.int .u8 0), .s (.int .u8 0), .s (.int .u8 0), .s (.int .u8 0), .s (.int .u8 0), .s (.int .u8 0), .s (.int .u8 0), .s (.int .u8 0), .s (.int .u8 0)]),
  (124, [.s .nilFunc]),
  (125, [.s (.int .u8 0)]),
  (126, [.s (.int .u8 0)]),
  (127, [.s .nilFunc]),
  (128, [.s (.int .i32 0)]),
  (129, [.s (.int .i32 0)])]
def eqs : List (TypeId × List EK) := [(32, [.int .i64, .int .i64]), (39, [.int .i64, .int .i64, .str]), (60, [.int .i64, .int .i64, .int .i64])]
def mach (fns : FuncId → Option (FnC Un)) (fvs : FuncId → Option (FV Un)) (clo : FuncId → Option (List (List (DC Un)) → Option (FV Un))) (gns : FuncId → Option (List Bool × FnG Un)) (ups : FuncId → Option (FnU Un)) : Mc Un := ⟨En, tab, zeros, fns, fvs, clo, gns, eqs, ups⟩
theorem tabOK (fns : FuncId → Option (FnC Un)) (fvs : FuncId → Option (FV Un)) (clo : FuncId → Option (List (List (DC Un)) → Option (FV Un))) (gns : FuncId → Option (List Bool × FnG Un)) (ups : FuncId → Option (FnU Un)) : TabOK Tryd.prog (mach fns fvs clo gns ups) := tab_of (by kernel_rfl)
theorem mixed : Tryd.prog.follows .mixedOrders = true := by kernel_rfl
end Go.Proofs.YtcmfdbjdbbpomaaDoor.B
namespace Go.Proofs.YtcmfdbjdbbpomaaDoor.B
open Go Go.RowKit
variable {U : Uni} {P : Program} {M : Mc U}
def CWf (E : Enc U) : C U → Prop
  | .s x => oneC x = true
  | .sl τ xs _ => VWf E (.dat τ xs)
  | .el τ xs i _ => VWf E (.dat τ xs) ∧ i < xs.length
  | _ => True
def AWf (E : Enc U) : A U → Prop
  | .c x => CWf E x
  | .agg cs => ∀ c ∈ cs, CWf E c
  | .top => True
theorem CRel.wf {E : Enc U} {g : G} {ob : List (Option (Ob U))} {w : World} {v : Value} {c : C U} (h : CRel P E g ob w v c) : CWf E c := by
  cases c with
  | s x => exact h.2
  | sl τ xs f => exact h.1.wf
  | el τ xs i off => obtain ⟨h1, b, o, cap, _, h2⟩ := h; exact ⟨h2.wf, h1⟩
  | _ => trivial
theorem ARel.wf {E : Enc U} {g : G} {ob : List (Option (Ob U))} {w : World} {v : Value} {a : A U} (h : ARel P E g ob w v a) : AWf E a := by
  cases a with
  | c x => exact CRel.wf h
  | agg cs => obtain ⟨arr, _, h2⟩ := h; exact fun c hc => (h2.mem c hc).elim fun _ hh => hh.wf
  | top => trivial
theorem BoxRel.wf {E : Enc U} {g : G} {ob : List (Option (Ob U))} {w : World} {k : Nat} {fz : Bool} {cells : List (C U)} (h : BoxRel P E g ob w k fz cells) : ∀ c ∈ cells, CWf E c := by
  obtain ⟨vs, h1, _⟩ := h
  exact fun c hc => (h1.mem c hc).elim fun _ hh => hh.wf
theorem ObRel.wf {E : Enc U} {g : G} {w : World} {k : Nat} {o : Ob U} (h : ObRel E g w k o) : VWf E (.dat o.τ o.xs) := by
  refine .dat _ _ h.1.1.2 fun i hi j d hd => ?_
  obtain ⟨b, off, cv, _, hA⟩ := h.2 (by have := h.1.1.1; omega)
  exact (hA.rel i hi j d hd).wf
end Go.Proofs.YtcmfdbjdbbpomaaDoor.B
