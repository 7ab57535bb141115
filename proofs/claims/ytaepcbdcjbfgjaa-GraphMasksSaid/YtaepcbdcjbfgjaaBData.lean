/- The program's data, as plain types, and how its elements lie in cells. (Printed by wip/tools/gen_data.py.) -/
import Derived.Test.YtaepcbdcjbfgjaaBEntry
namespace Go.Proofs.Ytaepcbdcjbfgjaa.B
open Go

structure Val where
  kind : Int
  n : Int
  s : ByteArray
def zeroVal : Val := ⟨0, 0, ⟨#[]⟩⟩
structure Col where
  table : ByteArray
  name : ByteArray
  type : Int
def zeroCol : Col := ⟨⟨#[]⟩, ⟨#[]⟩, 0⟩
structure By where
  at_ : Int
  down : Bool
def zeroBy : By := ⟨0, false⟩
structure Bound where
  is : Bool
  open_ : Bool
  key : List Val
def zeroBound : Bound := ⟨false, false, []⟩
structure Often where
  v : Val
  n : Int
def zeroOften : Often := ⟨zeroVal, 0⟩
structure ColStat where
  nulls : Int
  distinct : Int
  ends : List Val
  common : List Often
def zeroColStat : ColStat := ⟨0, 0, [], []⟩
structure Data where
  table : ByteArray
  rows : List (List Val)
def zeroData : Data := ⟨⟨#[]⟩, []⟩
structure Acc where
  name : ByteArray
  distinct : Bool
  n : Int
  hi : Int
  lo : Int
  v : Val
  l : List Val
def zeroAcc : Acc := ⟨⟨#[]⟩, false, 0, 0, 0, zeroVal, []⟩
structure Stat where
  table : ByteArray
  rows : Int
  pages : Int
  cols : List ColStat
def zeroStat : Stat := ⟨⟨#[]⟩, 0, 0, []⟩
structure Column where
  c : ColStat
  nulls : Int
  others : Int
  all : Int
def zeroColumn : Column := ⟨zeroColStat, 0, 0, 0⟩
mutual
inductive Term
  | mk (op : Int) (v : Val) (depth : Int) (at_ : Int) (name : ByteArray) (kids : List Term) (sub : List Rel) (type : Int)
inductive Agg
  | mk (name : ByteArray) (distinct : Bool) (t : List Term)
inductive Rel
  | mk (op : Int) (table : ByteArray) (cols : List Col) (kids : List Rel) (terms : List Term) (aggs : List Agg) (keys : List By) (limit : Int) (skip : Int) (all : Bool) (rows : List (List Val))
end
def Term.op : Term → Int | .mk x _ _ _ _ _ _ _ => x
@[simp] theorem Term.op_mk (op : Int) (v : Val) (depth : Int) (at_ : Int) (name : ByteArray) (kids : List Term) (sub : List Rel) (type : Int) : (Term.mk op v depth at_ name kids sub type).op = op := rfl
def Term.v : Term → Val | .mk _ x _ _ _ _ _ _ => x
@[simp] theorem Term.v_mk (op : Int) (v : Val) (depth : Int) (at_ : Int) (name : ByteArray) (kids : List Term) (sub : List Rel) (type : Int) : (Term.mk op v depth at_ name kids sub type).v = v := rfl
def Term.depth : Term → Int | .mk _ _ x _ _ _ _ _ => x
@[simp] theorem Term.depth_mk (op : Int) (v : Val) (depth : Int) (at_ : Int) (name : ByteArray) (kids : List Term) (sub : List Rel) (type : Int) : (Term.mk op v depth at_ name kids sub type).depth = depth := rfl
def Term.at_ : Term → Int | .mk _ _ _ x _ _ _ _ => x
@[simp] theorem Term.at__mk (op : Int) (v : Val) (depth : Int) (at_ : Int) (name : ByteArray) (kids : List Term) (sub : List Rel) (type : Int) : (Term.mk op v depth at_ name kids sub type).at_ = at_ := rfl
def Term.name : Term → ByteArray | .mk _ _ _ _ x _ _ _ => x
@[simp] theorem Term.name_mk (op : Int) (v : Val) (depth : Int) (at_ : Int) (name : ByteArray) (kids : List Term) (sub : List Rel) (type : Int) : (Term.mk op v depth at_ name kids sub type).name = name := rfl
def Term.kids : Term → List Term | .mk _ _ _ _ _ x _ _ => x
@[simp] theorem Term.kids_mk (op : Int) (v : Val) (depth : Int) (at_ : Int) (name : ByteArray) (kids : List Term) (sub : List Rel) (type : Int) : (Term.mk op v depth at_ name kids sub type).kids = kids := rfl
def Term.sub : Term → List Rel | .mk _ _ _ _ _ _ x _ => x
@[simp] theorem Term.sub_mk (op : Int) (v : Val) (depth : Int) (at_ : Int) (name : ByteArray) (kids : List Term) (sub : List Rel) (type : Int) : (Term.mk op v depth at_ name kids sub type).sub = sub := rfl
def Term.type : Term → Int | .mk _ _ _ _ _ _ _ x => x
@[simp] theorem Term.type_mk (op : Int) (v : Val) (depth : Int) (at_ : Int) (name : ByteArray) (kids : List Term) (sub : List Rel) (type : Int) : (Term.mk op v depth at_ name kids sub type).type = type := rfl
def zeroTerm : Term := .mk 0 zeroVal 0 0 ⟨#[]⟩ [] [] 0
theorem Term.eta (x : Term) : Term.mk (Term.op x) (Term.v x) (Term.depth x) (Term.at_ x) (Term.name x) (Term.kids x) (Term.sub x) (Term.type x) = x := by cases x; rfl
def Agg.name : Agg → ByteArray | .mk x _ _ => x
@[simp] theorem Agg.name_mk (name : ByteArray) (distinct : Bool) (t : List Term) : (Agg.mk name distinct t).name = name := rfl
def Agg.distinct : Agg → Bool | .mk _ x _ => x
@[simp] theorem Agg.distinct_mk (name : ByteArray) (distinct : Bool) (t : List Term) : (Agg.mk name distinct t).distinct = distinct := rfl
def Agg.t : Agg → List Term | .mk _ _ x => x
@[simp] theorem Agg.t_mk (name : ByteArray) (distinct : Bool) (t : List Term) : (Agg.mk name distinct t).t = t := rfl
def zeroAgg : Agg := .mk ⟨#[]⟩ false []
theorem Agg.eta (x : Agg) : Agg.mk (Agg.name x) (Agg.distinct x) (Agg.t x) = x := by cases x; rfl
def Rel.op : Rel → Int | .mk x _ _ _ _ _ _ _ _ _ _ => x
@[simp] theorem Rel.op_mk (op : Int) (table : ByteArray) (cols : List Col) (kids : List Rel) (terms : List Term) (aggs : List Agg) (keys : List By) (limit : Int) (skip : Int) (all : Bool) (rows : List (List Val)) : (Rel.mk op table cols kids terms aggs keys limit skip all rows).op = op := rfl
def Rel.table : Rel → ByteArray | .mk _ x _ _ _ _ _ _ _ _ _ => x
@[simp] theorem Rel.table_mk (op : Int) (table : ByteArray) (cols : List Col) (kids : List Rel) (terms : List Term) (aggs : List Agg) (keys : List By) (limit : Int) (skip : Int) (all : Bool) (rows : List (List Val)) : (Rel.mk op table cols kids terms aggs keys limit skip all rows).table = table := rfl
def Rel.cols : Rel → List Col | .mk _ _ x _ _ _ _ _ _ _ _ => x
@[simp] theorem Rel.cols_mk (op : Int) (table : ByteArray) (cols : List Col) (kids : List Rel) (terms : List Term) (aggs : List Agg) (keys : List By) (limit : Int) (skip : Int) (all : Bool) (rows : List (List Val)) : (Rel.mk op table cols kids terms aggs keys limit skip all rows).cols = cols := rfl
def Rel.kids : Rel → List Rel | .mk _ _ _ x _ _ _ _ _ _ _ => x
@[simp] theorem Rel.kids_mk (op : Int) (table : ByteArray) (cols : List Col) (kids : List Rel) (terms : List Term) (aggs : List Agg) (keys : List By) (limit : Int) (skip : Int) (all : Bool) (rows : List (List Val)) : (Rel.mk op table cols kids terms aggs keys limit skip all rows).kids = kids := rfl
def Rel.terms : Rel → List Term | .mk _ _ _ _ x _ _ _ _ _ _ => x
@[simp] theorem Rel.terms_mk (op : Int) (table : ByteArray) (cols : List Col) (kids : List Rel) (terms : List Term) (aggs : List Agg) (keys : List By) (limit : Int) (skip : Int) (all : Bool) (rows : List (List Val)) : (Rel.mk op table cols kids terms aggs keys limit skip all rows).terms = terms := rfl
def Rel.aggs : Rel → List Agg | .mk _ _ _ _ _ x _ _ _ _ _ => x
@[simp] theorem Rel.aggs_mk (op : Int) (table : ByteArray) (cols : List Col) (kids : List Rel) (terms : List Term) (aggs : List Agg) (keys : List By) (limit : Int) (skip : Int) (all : Bool) (rows : List (List Val)) : (Rel.mk op table cols kids terms aggs keys limit skip all rows).aggs = aggs := rfl
def Rel.keys : Rel → List By | .mk _ _ _ _ _ _ x _ _ _ _ => x
@[simp] theorem Rel.keys_mk (op : Int) (table : ByteArray) (cols : List Col) (kids : List Rel) (terms : List Term) (aggs : List Agg) (keys : List By) (limit : Int) (skip : Int) (all : Bool) (rows : List (List Val)) : (Rel.mk op table cols kids terms aggs keys limit skip all rows).keys = keys := rfl
def Rel.limit : Rel → Int | .mk _ _ _ _ _ _ _ x _ _ _ => x
@[simp] theorem Rel.limit_mk (op : Int) (table : ByteArray) (cols : List Col) (kids : List Rel) (terms : List Term) (aggs : List Agg) (keys : List By) (limit : Int) (skip : Int) (all : Bool) (rows : List (List Val)) : (Rel.mk op table cols kids terms aggs keys limit skip all rows).limit = limit := rfl
def Rel.skip : Rel → Int | .mk _ _ _ _ _ _ _ _ x _ _ => x
@[simp] theorem Rel.skip_mk (op : Int) (table : ByteArray) (cols : List Col) (kids : List Rel) (terms : List Term) (aggs : List Agg) (keys : List By) (limit : Int) (skip : Int) (all : Bool) (rows : List (List Val)) : (Rel.mk op table cols kids terms aggs keys limit skip all rows).skip = skip := rfl
def Rel.all : Rel → Bool | .mk _ _ _ _ _ _ _ _ _ x _ => x
@[simp] theorem Rel.all_mk (op : Int) (table : ByteArray) (cols : List Col) (kids : List Rel) (terms : List Term) (aggs : List Agg) (keys : List By) (limit : Int) (skip : Int) (all : Bool) (rows : List (List Val)) : (Rel.mk op table cols kids terms aggs keys limit skip all rows).all = all := rfl
def Rel.rows : Rel → List (List Val) | .mk _ _ _ _ _ _ _ _ _ _ x => x
@[simp] theorem Rel.rows_mk (op : Int) (table : ByteArray) (cols : List Col) (kids : List Rel) (terms : List Term) (aggs : List Agg) (keys : List By) (limit : Int) (skip : Int) (all : Bool) (rows : List (List Val)) : (Rel.mk op table cols kids terms aggs keys limit skip all rows).rows = rows := rfl
def zeroRel : Rel := .mk 0 ⟨#[]⟩ [] [] [] [] [] 0 0 false []
theorem Rel.eta (x : Rel) : Rel.mk (Rel.op x) (Rel.table x) (Rel.cols x) (Rel.kids x) (Rel.terms x) (Rel.aggs x) (Rel.keys x) (Rel.limit x) (Rel.skip x) (Rel.all x) (Rel.rows x) = x := by cases x; rfl
mutual
inductive Plan
  | mk (op : Int) (table : ByteArray) (index : ByteArray) (cols : List Col) (kids : List Plan) (terms : List Term) (lkeys : List Term) (rkeys : List Term) (aggs : List Agg) (keys : List By) (out : List Int) (lo : Bound) (hi : Bound) (limit : Int) (skip : Int) (all : Bool) (rows : List (List Val)) (est : Int) (cost : Int)
end
def Plan.op : Plan → Int | .mk x _ _ _ _ _ _ _ _ _ _ _ _ _ _ _ _ _ _ => x
@[simp] theorem Plan.op_mk (op : Int) (table : ByteArray) (index : ByteArray) (cols : List Col) (kids : List Plan) (terms : List Term) (lkeys : List Term) (rkeys : List Term) (aggs : List Agg) (keys : List By) (out : List Int) (lo : Bound) (hi : Bound) (limit : Int) (skip : Int) (all : Bool) (rows : List (List Val)) (est : Int) (cost : Int) : (Plan.mk op table index cols kids terms lkeys rkeys aggs keys out lo hi limit skip all rows est cost).op = op := rfl
def Plan.table : Plan → ByteArray | .mk _ x _ _ _ _ _ _ _ _ _ _ _ _ _ _ _ _ _ => x
@[simp] theorem Plan.table_mk (op : Int) (table : ByteArray) (index : ByteArray) (cols : List Col) (kids : List Plan) (terms : List Term) (lkeys : List Term) (rkeys : List Term) (aggs : List Agg) (keys : List By) (out : List Int) (lo : Bound) (hi : Bound) (limit : Int) (skip : Int) (all : Bool) (rows : List (List Val)) (est : Int) (cost : Int) : (Plan.mk op table index cols kids terms lkeys rkeys aggs keys out lo hi limit skip all rows est cost).table = table := rfl
def Plan.index : Plan → ByteArray | .mk _ _ x _ _ _ _ _ _ _ _ _ _ _ _ _ _ _ _ => x
@[simp] theorem Plan.index_mk (op : Int) (table : ByteArray) (index : ByteArray) (cols : List Col) (kids : List Plan) (terms : List Term) (lkeys : List Term) (rkeys : List Term) (aggs : List Agg) (keys : List By) (out : List Int) (lo : Bound) (hi : Bound) (limit : Int) (skip : Int) (all : Bool) (rows : List (List Val)) (est : Int) (cost : Int) : (Plan.mk op table index cols kids terms lkeys rkeys aggs keys out lo hi limit skip all rows est cost).index = index := rfl
def Plan.cols : Plan → List Col | .mk _ _ _ x _ _ _ _ _ _ _ _ _ _ _ _ _ _ _ => x
@[simp] theorem Plan.cols_mk (op : Int) (table : ByteArray) (index : ByteArray) (cols : List Col) (kids : List Plan) (terms : List Term) (lkeys : List Term) (rkeys : List Term) (aggs : List Agg) (keys : List By) (out : List Int) (lo : Bound) (hi : Bound) (limit : Int) (skip : Int) (all : Bool) (rows : List (List Val)) (est : Int) (cost : Int) : (Plan.mk op table index cols kids terms lkeys rkeys aggs keys out lo hi limit skip all rows est cost).cols = cols := rfl
def Plan.kids : Plan → List Plan | .mk _ _ _ _ x _ _ _ _ _ _ _ _ _ _ _ _ _ _ => x
@[simp] theorem Plan.kids_mk (op : Int) (table : ByteArray) (index : ByteArray) (cols : List Col) (kids : List Plan) (terms : List Term) (lkeys : List Term) (rkeys : List Term) (aggs : List Agg) (keys : List By) (out : List Int) (lo : Bound) (hi : Bound) (limit : Int) (skip : Int) (all : Bool) (rows : List (List Val)) (est : Int) (cost : Int) : (Plan.mk op table index cols kids terms lkeys rkeys aggs keys out lo hi limit skip all rows est cost).kids = kids := rfl
def Plan.terms : Plan → List Term | .mk _ _ _ _ _ x _ _ _ _ _ _ _ _ _ _ _ _ _ => x
@[simp] theorem Plan.terms_mk (op : Int) (table : ByteArray) (index : ByteArray) (cols : List Col) (kids : List Plan) (terms : List Term) (lkeys : List Term) (rkeys : List Term) (aggs : List Agg) (keys : List By) (out : List Int) (lo : Bound) (hi : Bound) (limit : Int) (skip : Int) (all : Bool) (rows : List (List Val)) (est : Int) (cost : Int) : (Plan.mk op table index cols kids terms lkeys rkeys aggs keys out lo hi limit skip all rows est cost).terms = terms := rfl
def Plan.lkeys : Plan → List Term | .mk _ _ _ _ _ _ x _ _ _ _ _ _ _ _ _ _ _ _ => x
@[simp] theorem Plan.lkeys_mk (op : Int) (table : ByteArray) (index : ByteArray) (cols : List Col) (kids : List Plan) (terms : List Term) (lkeys : List Term) (rkeys : List Term) (aggs : List Agg) (keys : List By) (out : List Int) (lo : Bound) (hi : Bound) (limit : Int) (skip : Int) (all : Bool) (rows : List (List Val)) (est : Int) (cost : Int) : (Plan.mk op table index cols kids terms lkeys rkeys aggs keys out lo hi limit skip all rows est cost).lkeys = lkeys := rfl
def Plan.rkeys : Plan → List Term | .mk _ _ _ _ _ _ _ x _ _ _ _ _ _ _ _ _ _ _ => x
@[simp] theorem Plan.rkeys_mk (op : Int) (table : ByteArray) (index : ByteArray) (cols : List Col) (kids : List Plan) (terms : List Term) (lkeys : List Term) (rkeys : List Term) (aggs : List Agg) (keys : List By) (out : List Int) (lo : Bound) (hi : Bound) (limit : Int) (skip : Int) (all : Bool) (rows : List (List Val)) (est : Int) (cost : Int) : (Plan.mk op table index cols kids terms lkeys rkeys aggs keys out lo hi limit skip all rows est cost).rkeys = rkeys := rfl
def Plan.aggs : Plan → List Agg | .mk _ _ _ _ _ _ _ _ x _ _ _ _ _ _ _ _ _ _ => x
@[simp] theorem Plan.aggs_mk (op : Int) (table : ByteArray) (index : ByteArray) (cols : List Col) (kids : List Plan) (terms : List Term) (lkeys : List Term) (rkeys : List Term) (aggs : List Agg) (keys : List By) (out : List Int) (lo : Bound) (hi : Bound) (limit : Int) (skip : Int) (all : Bool) (rows : List (List Val)) (est : Int) (cost : Int) : (Plan.mk op table index cols kids terms lkeys rkeys aggs keys out lo hi limit skip all rows est cost).aggs = aggs := rfl
def Plan.keys : Plan → List By | .mk _ _ _ _ _ _ _ _ _ x _ _ _ _ _ _ _ _ _ => x
@[simp] theorem Plan.keys_mk (op : Int) (table : ByteArray) (index : ByteArray) (cols : List Col) (kids : List Plan) (terms : List Term) (lkeys : List Term) (rkeys : List Term) (aggs : List Agg) (keys : List By) (out : List Int) (lo : Bound) (hi : Bound) (limit : Int) (skip : Int) (all : Bool) (rows : List (List Val)) (est : Int) (cost : Int) : (Plan.mk op table index cols kids terms lkeys rkeys aggs keys out lo hi limit skip all rows est cost).keys = keys := rfl
def Plan.out : Plan → List Int | .mk _ _ _ _ _ _ _ _ _ _ x _ _ _ _ _ _ _ _ => x
@[simp] theorem Plan.out_mk (op : Int) (table : ByteArray) (index : ByteArray) (cols : List Col) (kids : List Plan) (terms : List Term) (lkeys : List Term) (rkeys : List Term) (aggs : List Agg) (keys : List By) (out : List Int) (lo : Bound) (hi : Bound) (limit : Int) (skip : Int) (all : Bool) (rows : List (List Val)) (est : Int) (cost : Int) : (Plan.mk op table index cols kids terms lkeys rkeys aggs keys out lo hi limit skip all rows est cost).out = out := rfl
def Plan.lo : Plan → Bound | .mk _ _ _ _ _ _ _ _ _ _ _ x _ _ _ _ _ _ _ => x
@[simp] theorem Plan.lo_mk (op : Int) (table : ByteArray) (index : ByteArray) (cols : List Col) (kids : List Plan) (terms : List Term) (lkeys : List Term) (rkeys : List Term) (aggs : List Agg) (keys : List By) (out : List Int) (lo : Bound) (hi : Bound) (limit : Int) (skip : Int) (all : Bool) (rows : List (List Val)) (est : Int) (cost : Int) : (Plan.mk op table index cols kids terms lkeys rkeys aggs keys out lo hi limit skip all rows est cost).lo = lo := rfl
def Plan.hi : Plan → Bound | .mk _ _ _ _ _ _ _ _ _ _ _ _ x _ _ _ _ _ _ => x
@[simp] theorem Plan.hi_mk (op : Int) (table : ByteArray) (index : ByteArray) (cols : List Col) (kids : List Plan) (terms : List Term) (lkeys : List Term) (rkeys : List Term) (aggs : List Agg) (keys : List By) (out : List Int) (lo : Bound) (hi : Bound) (limit : Int) (skip : Int) (all : Bool) (rows : List (List Val)) (est : Int) (cost : Int) : (Plan.mk op table index cols kids terms lkeys rkeys aggs keys out lo hi limit skip all rows est cost).hi = hi := rfl
def Plan.limit : Plan → Int | .mk _ _ _ _ _ _ _ _ _ _ _ _ _ x _ _ _ _ _ => x
@[simp] theorem Plan.limit_mk (op : Int) (table : ByteArray) (index : ByteArray) (cols : List Col) (kids : List Plan) (terms : List Term) (lkeys : List Term) (rkeys : List Term) (aggs : List Agg) (keys : List By) (out : List Int) (lo : Bound) (hi : Bound) (limit : Int) (skip : Int) (all : Bool) (rows : List (List Val)) (est : Int) (cost : Int) : (Plan.mk op table index cols kids terms lkeys rkeys aggs keys out lo hi limit skip all rows est cost).limit = limit := rfl
def Plan.skip : Plan → Int | .mk _ _ _ _ _ _ _ _ _ _ _ _ _ _ x _ _ _ _ => x
@[simp] theorem Plan.skip_mk (op : Int) (table : ByteArray) (index : ByteArray) (cols : List Col) (kids : List Plan) (terms : List Term) (lkeys : List Term) (rkeys : List Term) (aggs : List Agg) (keys : List By) (out : List Int) (lo : Bound) (hi : Bound) (limit : Int) (skip : Int) (all : Bool) (rows : List (List Val)) (est : Int) (cost : Int) : (Plan.mk op table index cols kids terms lkeys rkeys aggs keys out lo hi limit skip all rows est cost).skip = skip := rfl
def Plan.all : Plan → Bool | .mk _ _ _ _ _ _ _ _ _ _ _ _ _ _ _ x _ _ _ => x
@[simp] theorem Plan.all_mk (op : Int) (table : ByteArray) (index : ByteArray) (cols : List Col) (kids : List Plan) (terms : List Term) (lkeys : List Term) (rkeys : List Term) (aggs : List Agg) (keys : List By) (out : List Int) (lo : Bound) (hi : Bound) (limit : Int) (skip : Int) (all : Bool) (rows : List (List Val)) (est : Int) (cost : Int) : (Plan.mk op table index cols kids terms lkeys rkeys aggs keys out lo hi limit skip all rows est cost).all = all := rfl
def Plan.rows : Plan → List (List Val) | .mk _ _ _ _ _ _ _ _ _ _ _ _ _ _ _ _ x _ _ => x
@[simp] theorem Plan.rows_mk (op : Int) (table : ByteArray) (index : ByteArray) (cols : List Col) (kids : List Plan) (terms : List Term) (lkeys : List Term) (rkeys : List Term) (aggs : List Agg) (keys : List By) (out : List Int) (lo : Bound) (hi : Bound) (limit : Int) (skip : Int) (all : Bool) (rows : List (List Val)) (est : Int) (cost : Int) : (Plan.mk op table index cols kids terms lkeys rkeys aggs keys out lo hi limit skip all rows est cost).rows = rows := rfl
def Plan.est : Plan → Int | .mk _ _ _ _ _ _ _ _ _ _ _ _ _ _ _ _ _ x _ => x
@[simp] theorem Plan.est_mk (op : Int) (table : ByteArray) (index : ByteArray) (cols : List Col) (kids : List Plan) (terms : List Term) (lkeys : List Term) (rkeys : List Term) (aggs : List Agg) (keys : List By) (out : List Int) (lo : Bound) (hi : Bound) (limit : Int) (skip : Int) (all : Bool) (rows : List (List Val)) (est : Int) (cost : Int) : (Plan.mk op table index cols kids terms lkeys rkeys aggs keys out lo hi limit skip all rows est cost).est = est := rfl
def Plan.cost : Plan → Int | .mk _ _ _ _ _ _ _ _ _ _ _ _ _ _ _ _ _ _ x => x
@[simp] theorem Plan.cost_mk (op : Int) (table : ByteArray) (index : ByteArray) (cols : List Col) (kids : List Plan) (terms : List Term) (lkeys : List Term) (rkeys : List Term) (aggs : List Agg) (keys : List By) (out : List Int) (lo : Bound) (hi : Bound) (limit : Int) (skip : Int) (all : Bool) (rows : List (List Val)) (est : Int) (cost : Int) : (Plan.mk op table index cols kids terms lkeys rkeys aggs keys out lo hi limit skip all rows est cost).cost = cost := rfl
def zeroPlan : Plan := .mk 0 ⟨#[]⟩ ⟨#[]⟩ [] [] [] [] [] [] [] [] zeroBound zeroBound 0 0 false [] 0 0
theorem Plan.eta (x : Plan) : Plan.mk (Plan.op x) (Plan.table x) (Plan.index x) (Plan.cols x) (Plan.kids x) (Plan.terms x) (Plan.lkeys x) (Plan.rkeys x) (Plan.aggs x) (Plan.keys x) (Plan.out x) (Plan.lo x) (Plan.hi x) (Plan.limit x) (Plan.skip x) (Plan.all x) (Plan.rows x) (Plan.est x) (Plan.cost x) = x := by cases x; rfl
structure Span where
  front : List Val
  lo : Bound
  hi : Bound
  n : Int
  counts : List Term
def zeroSpan : Span := ⟨[], zeroBound, zeroBound, 0, []⟩

inductive Ty
  | int | str | row | ints | pair | val | col | by_ | bound | often | colStat | data | acc | stat | column | term | agg | rel | plan | span
  deriving DecidableEq
@[reducible] def Den : Ty → Type
  | .int => Int
  | .str => ByteArray
  | .row => List Val
  | .ints => List Int
  | .pair => Int × Int
  | .val => Val
  | .col => Col
  | .by_ => By
  | .bound => Bound
  | .often => Often
  | .colStat => ColStat
  | .data => Data
  | .acc => Acc
  | .stat => Stat
  | .column => Column
  | .term => Term
  | .agg => Agg
  | .rel => Rel
  | .plan => Plan
  | .span => Span
def dflt : (τ : Ty) → Den τ
  | .int => (0 : Int)
  | .str => (⟨#[]⟩ : ByteArray)
  | .row => ([] : List Val)
  | .ints => ([] : List Int)
  | .pair => ((0, 0) : Int × Int)
  | .val => (zeroVal : Val)
  | .col => (zeroCol : Col)
  | .by_ => (zeroBy : By)
  | .bound => (zeroBound : Bound)
  | .often => (zeroOften : Often)
  | .colStat => (zeroColStat : ColStat)
  | .data => (zeroData : Data)
  | .acc => (zeroAcc : Acc)
  | .stat => (zeroStat : Stat)
  | .column => (zeroColumn : Column)
  | .term => (zeroTerm : Term)
  | .agg => (zeroAgg : Agg)
  | .rel => (zeroRel : Rel)
  | .plan => (zeroPlan : Plan)
  | .span => (zeroSpan : Span)
def sz : Ty → Nat
  | .int => 1
  | .str => 1
  | .row => 1
  | .ints => 1
  | .pair => 2
  | .val => 3
  | .col => 3
  | .by_ => 2
  | .bound => 3
  | .often => 4
  | .colStat => 4
  | .data => 2
  | .acc => 9
  | .stat => 4
  | .column => 7
  | .term => 10
  | .agg => 3
  | .rel => 11
  | .plan => 23
  | .span => 9
@[reducible] def Un : Uni := ⟨Ty, inferInstance, Den, dflt, sz⟩
def ci (n : Int) : V Un := .s (.int .i64 n)
def cb (b : Bool) : V Un := .s (.bool b)
def cs (s : ByteArray) : V Un := .s (.string s)
def enc : (τ : Ty) → Den τ → List (V Un)
  | .int, (x : Int) => [ci x]
  | .str, (x : ByteArray) => [cs x]
  | .row, (x : List Val) => [.dat (U := Un) Ty.val x]
  | .ints, (x : List Int) => [.dat (U := Un) Ty.int x]
  | .pair, (x : Int × Int) => [ci x.1, ci x.2]
  | .val, (x : Val) => [ci x.kind, ci x.n, cs x.s]
  | .col, (x : Col) => [cs x.table, cs x.name, ci x.type]
  | .by_, (x : By) => [ci x.at_, cb x.down]
  | .bound, (x : Bound) => [cb x.is, cb x.open_, .dat (U := Un) Ty.val x.key]
  | .often, (x : Often) => [ci x.v.kind, ci x.v.n, cs x.v.s, ci x.n]
  | .colStat, (x : ColStat) => [ci x.nulls, ci x.distinct, .dat (U := Un) Ty.val x.ends, .dat (U := Un) Ty.often x.common]
  | .data, (x : Data) => [cs x.table, .dat (U := Un) Ty.row x.rows]
  | .acc, (x : Acc) => [cs x.name, cb x.distinct, ci x.n, ci x.hi, ci x.lo, ci x.v.kind, ci x.v.n, cs x.v.s, .dat (U := Un) Ty.val x.l]
  | .stat, (x : Stat) => [cs x.table, ci x.rows, ci x.pages, .dat (U := Un) Ty.colStat x.cols]
  | .column, (x : Column) => [ci x.c.nulls, ci x.c.distinct, .dat (U := Un) Ty.val x.c.ends, .dat (U := Un) Ty.often x.c.common, ci x.nulls, ci x.others, ci x.all]
  | .term, (x : Term) => [ci x.op, ci x.v.kind, ci x.v.n, cs x.v.s, ci x.depth, ci x.at_, cs x.name, .dat (U := Un) Ty.term x.kids, .dat (U := Un) Ty.rel x.sub, ci x.type]
  | .agg, (x : Agg) => [cs x.name, cb x.distinct, .dat (U := Un) Ty.term x.t]
  | .rel, (x : Rel) => [ci x.op, cs x.table, .dat (U := Un) Ty.col x.cols, .dat (U := Un) Ty.rel x.kids, .dat (U := Un) Ty.term x.terms, .dat (U := Un) Ty.agg x.aggs, .dat (U := Un) Ty.by_ x.keys, ci x.limit, ci x.skip, cb x.all, .dat (U := Un) Ty.row x.rows]
  | .plan, (x : Plan) => [ci x.op, cs x.table, cs x.index, .dat (U := Un) Ty.col x.cols, .dat (U := Un) Ty.plan x.kids, .dat (U := Un) Ty.term x.terms, .dat (U := Un) Ty.term x.lkeys, .dat (U := Un) Ty.term x.rkeys, .dat (U := Un) Ty.agg x.aggs, .dat (U := Un) Ty.by_ x.keys, .dat (U := Un) Ty.int x.out, cb x.lo.is, cb x.lo.open_, .dat (U := Un) Ty.val x.lo.key, cb x.hi.is, cb x.hi.open_, .dat (U := Un) Ty.val x.hi.key, ci x.limit, ci x.skip, cb x.all, .dat (U := Un) Ty.row x.rows, ci x.est, ci x.cost]
  | .span, (x : Span) => [.dat (U := Un) Ty.val x.front, cb x.lo.is, cb x.lo.open_, .dat (U := Un) Ty.val x.lo.key, cb x.hi.is, cb x.hi.open_, .dat (U := Un) Ty.val x.hi.key, ci x.n, .dat (U := Un) Ty.term x.counts]
def int? : V Un → Option Int | .s (.int .i64 n) => some n | _ => none
def bool? : V Un → Option Bool | .s (.bool b) => some b | _ => none
def str? : V Un → Option ByteArray | .s (.string s) => some s | _ => none
def lst? (τ : Ty) : V Un → Option (List (Den τ))
  | .dat τ' xs => match instDecidableEqTy τ' τ with | .isTrue h => some (h ▸ xs) | .isFalse _ => none
  | _ => none
theorem int_of {c : V Un} {n : Int} (h : int? c = some n) : c = ci n := by unfold int? at h; split at h <;> simp at h; subst h; rfl
theorem bool_of {c : V Un} {n : Bool} (h : bool? c = some n) : c = cb n := by unfold bool? at h; split at h <;> simp at h; subst h; rfl
theorem str_of {c : V Un} {n : ByteArray} (h : str? c = some n) : c = cs n := by unfold str? at h; split at h <;> simp at h; subst h; rfl
theorem lst_of {τ : Ty} {c : V Un} {n : List (Den τ)} (h : lst? τ c = some n) : c = .dat (U := Un) τ n := by
  cases c with
  | s x => simp [lst?] at h
  | dat τ' xs =>
    simp only [lst?] at h
    split at h
    · rename_i hh _; subst hh; simp at h; subst h; rfl
    · simp at h
def dec_int : List (V Un) → Option (Int)
  | [c0] => (int? c0).bind fun a0 => some a0
  | _ => none
theorem back_int {l : List (V Un)} {x : Int} (h : dec_int l = some x) : enc .int x = l := by
  unfold dec_int at h
  split at h
  · simp only [Option.bind_eq_some_iff, Option.some.injEq] at h
    obtain ⟨a0, h0, rfl⟩ := h
    rw [int_of h0]
    rfl
  · simp at h
def dec_str : List (V Un) → Option (ByteArray)
  | [c0] => (str? c0).bind fun a0 => some a0
  | _ => none
theorem back_str {l : List (V Un)} {x : ByteArray} (h : dec_str l = some x) : enc .str x = l := by
  unfold dec_str at h
  split at h
  · simp only [Option.bind_eq_some_iff, Option.some.injEq] at h
    obtain ⟨a0, h0, rfl⟩ := h
    rw [str_of h0]
    rfl
  · simp at h
def dec_row : List (V Un) → Option (List Val)
  | [c0] => (lst? .val c0).bind fun a0 => some a0
  | _ => none
theorem back_row {l : List (V Un)} {x : List Val} (h : dec_row l = some x) : enc .row x = l := by
  unfold dec_row at h
  split at h
  · simp only [Option.bind_eq_some_iff, Option.some.injEq] at h
    obtain ⟨a0, h0, rfl⟩ := h
    rw [lst_of h0]
    rfl
  · simp at h
def dec_ints : List (V Un) → Option (List Int)
  | [c0] => (lst? .int c0).bind fun a0 => some a0
  | _ => none
theorem back_ints {l : List (V Un)} {x : List Int} (h : dec_ints l = some x) : enc .ints x = l := by
  unfold dec_ints at h
  split at h
  · simp only [Option.bind_eq_some_iff, Option.some.injEq] at h
    obtain ⟨a0, h0, rfl⟩ := h
    rw [lst_of h0]
    rfl
  · simp at h
def dec_pair : List (V Un) → Option (Int × Int)
  | [c0, c1] => (int? c0).bind fun a0 => (int? c1).bind fun a1 => some (a0, a1)
  | _ => none
theorem back_pair {l : List (V Un)} {x : Int × Int} (h : dec_pair l = some x) : enc .pair x = l := by
  unfold dec_pair at h
  split at h
  · simp only [Option.bind_eq_some_iff, Option.some.injEq] at h
    obtain ⟨a0, h0, a1, h1, rfl⟩ := h
    rw [int_of h0, int_of h1]
    rfl
  · simp at h
def dec_val : List (V Un) → Option (Val)
  | [c0, c1, c2] => (int? c0).bind fun a0 => (int? c1).bind fun a1 => (str? c2).bind fun a2 => some (Val.mk a0 a1 a2)
  | _ => none
theorem back_val {l : List (V Un)} {x : Val} (h : dec_val l = some x) : enc .val x = l := by
  unfold dec_val at h
  split at h
  · simp only [Option.bind_eq_some_iff, Option.some.injEq] at h
    obtain ⟨a0, h0, a1, h1, a2, h2, rfl⟩ := h
    rw [int_of h0, int_of h1, str_of h2]
    rfl
  · simp at h
def dec_col : List (V Un) → Option (Col)
  | [c0, c1, c2] => (str? c0).bind fun a0 => (str? c1).bind fun a1 => (int? c2).bind fun a2 => some (Col.mk a0 a1 a2)
  | _ => none
theorem back_col {l : List (V Un)} {x : Col} (h : dec_col l = some x) : enc .col x = l := by
  unfold dec_col at h
  split at h
  · simp only [Option.bind_eq_some_iff, Option.some.injEq] at h
    obtain ⟨a0, h0, a1, h1, a2, h2, rfl⟩ := h
    rw [str_of h0, str_of h1, int_of h2]
    rfl
  · simp at h
def dec_by_ : List (V Un) → Option (By)
  | [c0, c1] => (int? c0).bind fun a0 => (bool? c1).bind fun a1 => some (By.mk a0 a1)
  | _ => none
theorem back_by_ {l : List (V Un)} {x : By} (h : dec_by_ l = some x) : enc .by_ x = l := by
  unfold dec_by_ at h
  split at h
  · simp only [Option.bind_eq_some_iff, Option.some.injEq] at h
    obtain ⟨a0, h0, a1, h1, rfl⟩ := h
    rw [int_of h0, bool_of h1]
    rfl
  · simp at h
def dec_bound : List (V Un) → Option (Bound)
  | [c0, c1, c2] => (bool? c0).bind fun a0 => (bool? c1).bind fun a1 => (lst? .val c2).bind fun a2 => some (Bound.mk a0 a1 a2)
  | _ => none
theorem back_bound {l : List (V Un)} {x : Bound} (h : dec_bound l = some x) : enc .bound x = l := by
  unfold dec_bound at h
  split at h
  · simp only [Option.bind_eq_some_iff, Option.some.injEq] at h
    obtain ⟨a0, h0, a1, h1, a2, h2, rfl⟩ := h
    rw [bool_of h0, bool_of h1, lst_of h2]
    rfl
  · simp at h
def dec_often : List (V Un) → Option (Often)
  | [c0, c1, c2, c3] => (int? c0).bind fun a0 => (int? c1).bind fun a1 => (str? c2).bind fun a2 => (int? c3).bind fun a3 => some (Often.mk (Val.mk a0 a1 a2) a3)
  | _ => none
theorem back_often {l : List (V Un)} {x : Often} (h : dec_often l = some x) : enc .often x = l := by
  unfold dec_often at h
  split at h
  · simp only [Option.bind_eq_some_iff, Option.some.injEq] at h
    obtain ⟨a0, h0, a1, h1, a2, h2, a3, h3, rfl⟩ := h
    rw [int_of h0, int_of h1, str_of h2, int_of h3]
    rfl
  · simp at h
def dec_colStat : List (V Un) → Option (ColStat)
  | [c0, c1, c2, c3] => (int? c0).bind fun a0 => (int? c1).bind fun a1 => (lst? .val c2).bind fun a2 => (lst? .often c3).bind fun a3 => some (ColStat.mk a0 a1 a2 a3)
  | _ => none
theorem back_colStat {l : List (V Un)} {x : ColStat} (h : dec_colStat l = some x) : enc .colStat x = l := by
  unfold dec_colStat at h
  split at h
  · simp only [Option.bind_eq_some_iff, Option.some.injEq] at h
    obtain ⟨a0, h0, a1, h1, a2, h2, a3, h3, rfl⟩ := h
    rw [int_of h0, int_of h1, lst_of h2, lst_of h3]
    rfl
  · simp at h
def dec_data : List (V Un) → Option (Data)
  | [c0, c1] => (str? c0).bind fun a0 => (lst? .row c1).bind fun a1 => some (Data.mk a0 a1)
  | _ => none
theorem back_data {l : List (V Un)} {x : Data} (h : dec_data l = some x) : enc .data x = l := by
  unfold dec_data at h
  split at h
  · simp only [Option.bind_eq_some_iff, Option.some.injEq] at h
    obtain ⟨a0, h0, a1, h1, rfl⟩ := h
    rw [str_of h0, lst_of h1]
    rfl
  · simp at h
def dec_acc : List (V Un) → Option (Acc)
  | [c0, c1, c2, c3, c4, c5, c6, c7, c8] => (str? c0).bind fun a0 => (bool? c1).bind fun a1 => (int? c2).bind fun a2 => (int? c3).bind fun a3 => (int? c4).bind fun a4 => (int? c5).bind fun a5 => (int? c6).bind fun a6 => (str? c7).bind fun a7 => (lst? .val c8).bind fun a8 => some (Acc.mk a0 a1 a2 a3 a4 (Val.mk a5 a6 a7) a8)
  | _ => none
theorem back_acc {l : List (V Un)} {x : Acc} (h : dec_acc l = some x) : enc .acc x = l := by
  unfold dec_acc at h
  split at h
  · simp only [Option.bind_eq_some_iff, Option.some.injEq] at h
    obtain ⟨a0, h0, a1, h1, a2, h2, a3, h3, a4, h4, a5, h5, a6, h6, a7, h7, a8, h8, rfl⟩ := h
    rw [str_of h0, bool_of h1, int_of h2, int_of h3, int_of h4, int_of h5, int_of h6, str_of h7, lst_of h8]
    rfl
  · simp at h
def dec_stat : List (V Un) → Option (Stat)
  | [c0, c1, c2, c3] => (str? c0).bind fun a0 => (int? c1).bind fun a1 => (int? c2).bind fun a2 => (lst? .colStat c3).bind fun a3 => some (Stat.mk a0 a1 a2 a3)
  | _ => none
theorem back_stat {l : List (V Un)} {x : Stat} (h : dec_stat l = some x) : enc .stat x = l := by
  unfold dec_stat at h
  split at h
  · simp only [Option.bind_eq_some_iff, Option.some.injEq] at h
    obtain ⟨a0, h0, a1, h1, a2, h2, a3, h3, rfl⟩ := h
    rw [str_of h0, int_of h1, int_of h2, lst_of h3]
    rfl
  · simp at h
def dec_column : List (V Un) → Option (Column)
  | [c0, c1, c2, c3, c4, c5, c6] => (int? c0).bind fun a0 => (int? c1).bind fun a1 => (lst? .val c2).bind fun a2 => (lst? .often c3).bind fun a3 => (int? c4).bind fun a4 => (int? c5).bind fun a5 => (int? c6).bind fun a6 => some (Column.mk (ColStat.mk a0 a1 a2 a3) a4 a5 a6)
  | _ => none
theorem back_column {l : List (V Un)} {x : Column} (h : dec_column l = some x) : enc .column x = l := by
  unfold dec_column at h
  split at h
  · simp only [Option.bind_eq_some_iff, Option.some.injEq] at h
    obtain ⟨a0, h0, a1, h1, a2, h2, a3, h3, a4, h4, a5, h5, a6, h6, rfl⟩ := h
    rw [int_of h0, int_of h1, lst_of h2, lst_of h3, int_of h4, int_of h5, int_of h6]
    rfl
  · simp at h
def dec_term : List (V Un) → Option (Term)
  | [c0, c1, c2, c3, c4, c5, c6, c7, c8, c9] => (int? c0).bind fun a0 => (int? c1).bind fun a1 => (int? c2).bind fun a2 => (str? c3).bind fun a3 => (int? c4).bind fun a4 => (int? c5).bind fun a5 => (str? c6).bind fun a6 => (lst? .term c7).bind fun a7 => (lst? .rel c8).bind fun a8 => (int? c9).bind fun a9 => some (Term.mk a0 (Val.mk a1 a2 a3) a4 a5 a6 a7 a8 a9)
  | _ => none
theorem back_term {l : List (V Un)} {x : Term} (h : dec_term l = some x) : enc .term x = l := by
  unfold dec_term at h
  split at h
  · simp only [Option.bind_eq_some_iff, Option.some.injEq] at h
    obtain ⟨a0, h0, a1, h1, a2, h2, a3, h3, a4, h4, a5, h5, a6, h6, a7, h7, a8, h8, a9, h9, rfl⟩ := h
    rw [int_of h0, int_of h1, int_of h2, str_of h3, int_of h4, int_of h5, str_of h6, lst_of h7, lst_of h8, int_of h9]
    rfl
  · simp at h
def dec_agg : List (V Un) → Option (Agg)
  | [c0, c1, c2] => (str? c0).bind fun a0 => (bool? c1).bind fun a1 => (lst? .term c2).bind fun a2 => some (Agg.mk a0 a1 a2)
  | _ => none
theorem back_agg {l : List (V Un)} {x : Agg} (h : dec_agg l = some x) : enc .agg x = l := by
  unfold dec_agg at h
  split at h
  · simp only [Option.bind_eq_some_iff, Option.some.injEq] at h
    obtain ⟨a0, h0, a1, h1, a2, h2, rfl⟩ := h
    rw [str_of h0, bool_of h1, lst_of h2]
    rfl
  · simp at h
def dec_rel : List (V Un) → Option (Rel)
  | [c0, c1, c2, c3, c4, c5, c6, c7, c8, c9, c10] => (int? c0).bind fun a0 => (str? c1).bind fun a1 => (lst? .col c2).bind fun a2 => (lst? .rel c3).bind fun a3 => (lst? .term c4).bind fun a4 => (lst? .agg c5).bind fun a5 => (lst? .by_ c6).bind fun a6 => (int? c7).bind fun a7 => (int? c8).bind fun a8 => (bool? c9).bind fun a9 => (lst? .row c10).bind fun a10 => some (Rel.mk a0 a1 a2 a3 a4 a5 a6 a7 a8 a9 a10)
  | _ => none
theorem back_rel {l : List (V Un)} {x : Rel} (h : dec_rel l = some x) : enc .rel x = l := by
  unfold dec_rel at h
  split at h
  · simp only [Option.bind_eq_some_iff, Option.some.injEq] at h
    obtain ⟨a0, h0, a1, h1, a2, h2, a3, h3, a4, h4, a5, h5, a6, h6, a7, h7, a8, h8, a9, h9, a10, h10, rfl⟩ := h
    rw [int_of h0, str_of h1, lst_of h2, lst_of h3, lst_of h4, lst_of h5, lst_of h6, int_of h7, int_of h8, bool_of h9, lst_of h10]
    rfl
  · simp at h
def dec_plan : List (V Un) → Option (Plan)
  | [c0, c1, c2, c3, c4, c5, c6, c7, c8, c9, c10, c11, c12, c13, c14, c15, c16, c17, c18, c19, c20, c21, c22] => (int? c0).bind fun a0 => (str? c1).bind fun a1 => (str? c2).bind fun a2 => (lst? .col c3).bind fun a3 => (lst? .plan c4).bind fun a4 => (lst? .term c5).bind fun a5 => (lst? .term c6).bind fun a6 => (lst? .term c7).bind fun a7 => (lst? .agg c8).bind fun a8 => (lst? .by_ c9).bind fun a9 => (lst? .int c10).bind fun a10 => (bool? c11).bind fun a11 => (bool? c12).bind fun a12 => (lst? .val c13).bind fun a13 => (bool? c14).bind fun a14 => (bool? c15).bind fun a15 => (lst? .val c16).bind fun a16 => (int? c17).bind fun a17 => (int? c18).bind fun a18 => (bool? c19).bind fun a19 => (lst? .row c20).bind fun a20 => (int? c21).bind fun a21 => (int? c22).bind fun a22 => some (Plan.mk a0 a1 a2 a3 a4 a5 a6 a7 a8 a9 a10 (Bound.mk a11 a12 a13) (Bound.mk a14 a15 a16) a17 a18 a19 a20 a21 a22)
  | _ => none
theorem back_plan {l : List (V Un)} {x : Plan} (h : dec_plan l = some x) : enc .plan x = l := by
  unfold dec_plan at h
  split at h
  · simp only [Option.bind_eq_some_iff, Option.some.injEq] at h
    obtain ⟨a0, h0, a1, h1, a2, h2, a3, h3, a4, h4, a5, h5, a6, h6, a7, h7, a8, h8, a9, h9, a10, h10, a11, h11, a12, h12, a13, h13, a14, h14, a15, h15, a16, h16, a17, h17, a18, h18, a19, h19, a20, h20, a21, h21, a22, h22, rfl⟩ := h
    rw [int_of h0, str_of h1, str_of h2, lst_of h3, lst_of h4, lst_of h5, lst_of h6, lst_of h7, lst_of h8, lst_of h9, lst_of h10, bool_of h11, bool_of h12, lst_of h13, bool_of h14, bool_of h15, lst_of h16, int_of h17, int_of h18, bool_of h19, lst_of h20, int_of h21, int_of h22]
    rfl
  · simp at h
def dec_span : List (V Un) → Option (Span)
  | [c0, c1, c2, c3, c4, c5, c6, c7, c8] => (lst? .val c0).bind fun a0 => (bool? c1).bind fun a1 => (bool? c2).bind fun a2 => (lst? .val c3).bind fun a3 => (bool? c4).bind fun a4 => (bool? c5).bind fun a5 => (lst? .val c6).bind fun a6 => (int? c7).bind fun a7 => (lst? .term c8).bind fun a8 => some (Span.mk a0 (Bound.mk a1 a2 a3) (Bound.mk a4 a5 a6) a7 a8)
  | _ => none
theorem back_span {l : List (V Un)} {x : Span} (h : dec_span l = some x) : enc .span x = l := by
  unfold dec_span at h
  split at h
  · simp only [Option.bind_eq_some_iff, Option.some.injEq] at h
    obtain ⟨a0, h0, a1, h1, a2, h2, a3, h3, a4, h4, a5, h5, a6, h6, a7, h7, a8, h8, rfl⟩ := h
    rw [lst_of h0, bool_of h1, bool_of h2, lst_of h3, bool_of h4, bool_of h5, lst_of h6, int_of h7, lst_of h8]
    rfl
  · simp at h
def dec : (τ : Ty) → List (V Un) → Option (Den τ)
  | .int => dec_int
  | .str => dec_str
  | .row => dec_row
  | .ints => dec_ints
  | .pair => dec_pair
  | .val => dec_val
  | .col => dec_col
  | .by_ => dec_by_
  | .bound => dec_bound
  | .often => dec_often
  | .colStat => dec_colStat
  | .data => dec_data
  | .acc => dec_acc
  | .stat => dec_stat
  | .column => dec_column
  | .term => dec_term
  | .agg => dec_agg
  | .rel => dec_rel
  | .plan => dec_plan
  | .span => dec_span
theorem enc_len : ∀ τ x, (enc τ x).length = sz τ := by intro τ x; cases τ <;> rfl
theorem enc_back : ∀ τ cs x, dec τ cs = some x → enc τ x = cs := by
  intro τ cs x h
  cases τ with
  | int => exact back_int h
  | str => exact back_str h
  | row => exact back_row h
  | ints => exact back_ints h
  | pair => exact back_pair h
  | val => exact back_val h
  | col => exact back_col h
  | by_ => exact back_by_ h
  | bound => exact back_bound h
  | often => exact back_often h
  | colStat => exact back_colStat h
  | data => exact back_data h
  | acc => exact back_acc h
  | stat => exact back_stat h
  | column => exact back_column h
  | term => exact back_term h
  | agg => exact back_agg h
  | rel => exact back_rel h
  | plan => exact back_plan h
  | span => exact back_span h
def En : Enc Un := ⟨enc, dec, enc_len, enc_back⟩
def encC (τ : Ty) (x : Den τ) : List (C Un) := (enc τ x).map C.ofV
/-! ### within bounds -/
abbrev WI (n : Int) : Prop := -9223372036854775808 ≤ n ∧ n ≤ 9223372036854775807
abbrev WK (k : IntKind) (n : Int) : Prop := k.min ≤ n ∧ n ≤ k.max
abbrev WStr (s : ByteArray) : Prop := s.size ≤ 9223372036854775807
def WL (τ : Ty) (l : List (Den τ)) : Prop := VWf En (.dat (U := Un) τ l)
def WS (τ : Ty) (x : Den τ) : Prop := ∀ d ∈ enc τ x, VWf En d
theorem vwf_ci (n : Int) : VWf En (ci n) ↔ WI n := ⟨fun h => by cases h with | s _ h => exact of_decide_eq_true h, fun h => .s _ (decide_eq_true h)⟩
theorem vwf_cb (b : Bool) : VWf En (cb b) ↔ True := ⟨fun _ => trivial, fun _ => .s _ rfl⟩
theorem vwf_cs (s : ByteArray) : VWf En (cs s) ↔ WStr s := ⟨fun h => by cases h with | s _ h => exact of_decide_eq_true h, fun h => .s _ (decide_eq_true h)⟩
theorem vwf_dat (τ : Ty) (l : List (Den τ)) : VWf En (.dat (U := Un) τ l) ↔ WL τ l := Iff.rfl
theorem WL_iff (τ : Ty) (l : List (Den τ)) : WL τ l ↔ l.length ≤ 9223372036854775807 ∧ ∀ x ∈ l, WS τ x := by
  refine ⟨fun h => ?_, fun h => .dat (U := Un) τ l h.1 fun i hi j d hd => h.2 _ (List.getElem_mem hi) _ (List.mem_of_getElem? hd)⟩
  cases h with
  | dat _ _ h1 h2 =>
    refine ⟨h1, fun x hx d hd => ?_⟩
    obtain ⟨i, hi, rfl⟩ := List.getElem_of_mem hx
    obtain ⟨j, hj⟩ := List.getElem?_of_mem hd
    exact h2 i hi j d hj
theorem WL.len {τ : Ty} {l : List (Den τ)} (h : WL τ l) : l.length ≤ 9223372036854775807 := ((WL_iff τ l).1 h).1
theorem WL.get {τ : Ty} {l : List (Den τ)} (h : WL τ l) {x : Den τ} (hx : x ∈ l) : WS τ x := ((WL_iff τ l).1 h).2 x hx
theorem WL.nil {τ : Ty} : WL τ [] := (WL_iff τ []).2 ⟨by simp, by simp⟩
theorem WL.sub {τ : Ty} {l r : List (Den τ)} (h : WL τ l) (hs : r.length ≤ l.length) (hm : ∀ x ∈ r, x ∈ l) : WL τ r := (WL_iff τ r).2 ⟨Nat.le_trans hs h.len, fun x hx => h.get (hm x hx)⟩
theorem WL.drop {τ : Ty} {l : List (Den τ)} (h : WL τ l) (n : Nat) : WL τ (l.drop n) := h.sub (by simp) fun _ hx => List.mem_of_mem_drop hx
theorem WL.take {τ : Ty} {l : List (Den τ)} (h : WL τ l) (n : Nat) : WL τ (l.take n) := h.sub (by simp; omega) fun _ hx => List.mem_of_mem_take hx
theorem WL.at {τ : Ty} {l : List (Den τ)} (h : WL τ l) {i : Nat} (hi : i < l.length) : WS τ (l.getD i (dflt τ)) := by rw [List.getD_eq_getElem?_getD, List.getElem?_eq_getElem hi]; exact h.get (List.getElem_mem hi)
theorem WS_int (x : Int) : WS .int x ↔ (WI x) := by
  show (∀ d ∈ [ci x], VWf En d) ↔ _
  simp only [List.forall_mem_cons, List.not_mem_nil, false_implies, implies_true, vwf_ci, vwf_cb, vwf_cs, vwf_dat, and_true, true_and]
theorem WS_str (x : ByteArray) : WS .str x ↔ (WStr x) := by
  show (∀ d ∈ [cs x], VWf En d) ↔ _
  simp only [List.forall_mem_cons, List.not_mem_nil, false_implies, implies_true, vwf_ci, vwf_cb, vwf_cs, vwf_dat, and_true, true_and]
theorem WS_row (x : List Val) : WS .row x ↔ (WL .val x) := by
  show (∀ d ∈ [.dat (U := Un) Ty.val x], VWf En d) ↔ _
  simp only [List.forall_mem_cons, List.not_mem_nil, false_implies, implies_true, vwf_ci, vwf_cb, vwf_cs, vwf_dat, and_true, true_and]
theorem WS_ints (x : List Int) : WS .ints x ↔ (WL .int x) := by
  show (∀ d ∈ [.dat (U := Un) Ty.int x], VWf En d) ↔ _
  simp only [List.forall_mem_cons, List.not_mem_nil, false_implies, implies_true, vwf_ci, vwf_cb, vwf_cs, vwf_dat, and_true, true_and]
theorem WS_pair (x : Int × Int) : WS .pair x ↔ (WI x.1) ∧ (WI x.2) := by
  show (∀ d ∈ [ci x.1, ci x.2], VWf En d) ↔ _
  simp only [List.forall_mem_cons, List.not_mem_nil, false_implies, implies_true, vwf_ci, vwf_cb, vwf_cs, vwf_dat, and_true, true_and]
theorem WS_val (x : Val) : WS .val x ↔ (WI x.kind) ∧ (WI x.n) ∧ (WStr x.s) := by
  show (∀ d ∈ [ci x.kind, ci x.n, cs x.s], VWf En d) ↔ _
  simp only [List.forall_mem_cons, List.not_mem_nil, false_implies, implies_true, vwf_ci, vwf_cb, vwf_cs, vwf_dat, and_true, true_and]
theorem WS_col (x : Col) : WS .col x ↔ (WStr x.table) ∧ (WStr x.name) ∧ (WI x.type) := by
  show (∀ d ∈ [cs x.table, cs x.name, ci x.type], VWf En d) ↔ _
  simp only [List.forall_mem_cons, List.not_mem_nil, false_implies, implies_true, vwf_ci, vwf_cb, vwf_cs, vwf_dat, and_true, true_and]
theorem WS_by_ (x : By) : WS .by_ x ↔ (WI x.at_) := by
  show (∀ d ∈ [ci x.at_, cb x.down], VWf En d) ↔ _
  simp only [List.forall_mem_cons, List.not_mem_nil, false_implies, implies_true, vwf_ci, vwf_cb, vwf_cs, vwf_dat, and_true, true_and]
theorem WS_bound (x : Bound) : WS .bound x ↔ (WL .val x.key) := by
  show (∀ d ∈ [cb x.is, cb x.open_, .dat (U := Un) Ty.val x.key], VWf En d) ↔ _
  simp only [List.forall_mem_cons, List.not_mem_nil, false_implies, implies_true, vwf_ci, vwf_cb, vwf_cs, vwf_dat, and_true, true_and]
theorem WS_often (x : Often) : WS .often x ↔ (WI x.v.kind) ∧ (WI x.v.n) ∧ (WStr x.v.s) ∧ (WI x.n) := by
  show (∀ d ∈ [ci x.v.kind, ci x.v.n, cs x.v.s, ci x.n], VWf En d) ↔ _
  simp only [List.forall_mem_cons, List.not_mem_nil, false_implies, implies_true, vwf_ci, vwf_cb, vwf_cs, vwf_dat, and_true, true_and]
theorem WS_colStat (x : ColStat) : WS .colStat x ↔ (WI x.nulls) ∧ (WI x.distinct) ∧ (WL .val x.ends) ∧ (WL .often x.common) := by
  show (∀ d ∈ [ci x.nulls, ci x.distinct, .dat (U := Un) Ty.val x.ends, .dat (U := Un) Ty.often x.common], VWf En d) ↔ _
  simp only [List.forall_mem_cons, List.not_mem_nil, false_implies, implies_true, vwf_ci, vwf_cb, vwf_cs, vwf_dat, and_true, true_and]
theorem WS_data (x : Data) : WS .data x ↔ (WStr x.table) ∧ (WL .row x.rows) := by
  show (∀ d ∈ [cs x.table, .dat (U := Un) Ty.row x.rows], VWf En d) ↔ _
  simp only [List.forall_mem_cons, List.not_mem_nil, false_implies, implies_true, vwf_ci, vwf_cb, vwf_cs, vwf_dat, and_true, true_and]
theorem WS_acc (x : Acc) : WS .acc x ↔ (WStr x.name) ∧ (WI x.n) ∧ (WI x.hi) ∧ (WI x.lo) ∧ (WI x.v.kind) ∧ (WI x.v.n) ∧ (WStr x.v.s) ∧ (WL .val x.l) := by
  show (∀ d ∈ [cs x.name, cb x.distinct, ci x.n, ci x.hi, ci x.lo, ci x.v.kind, ci x.v.n, cs x.v.s, .dat (U := Un) Ty.val x.l], VWf En d) ↔ _
  simp only [List.forall_mem_cons, List.not_mem_nil, false_implies, implies_true, vwf_ci, vwf_cb, vwf_cs, vwf_dat, and_true, true_and]
theorem WS_stat (x : Stat) : WS .stat x ↔ (WStr x.table) ∧ (WI x.rows) ∧ (WI x.pages) ∧ (WL .colStat x.cols) := by
  show (∀ d ∈ [cs x.table, ci x.rows, ci x.pages, .dat (U := Un) Ty.colStat x.cols], VWf En d) ↔ _
  simp only [List.forall_mem_cons, List.not_mem_nil, false_implies, implies_true, vwf_ci, vwf_cb, vwf_cs, vwf_dat, and_true, true_and]
theorem WS_column (x : Column) : WS .column x ↔ (WI x.c.nulls) ∧ (WI x.c.distinct) ∧ (WL .val x.c.ends) ∧ (WL .often x.c.common) ∧ (WI x.nulls) ∧ (WI x.others) ∧ (WI x.all) := by
  show (∀ d ∈ [ci x.c.nulls, ci x.c.distinct, .dat (U := Un) Ty.val x.c.ends, .dat (U := Un) Ty.often x.c.common, ci x.nulls, ci x.others, ci x.all], VWf En d) ↔ _
  simp only [List.forall_mem_cons, List.not_mem_nil, false_implies, implies_true, vwf_ci, vwf_cb, vwf_cs, vwf_dat, and_true, true_and]
theorem WS_term (x : Term) : WS .term x ↔ (WI x.op) ∧ (WI x.v.kind) ∧ (WI x.v.n) ∧ (WStr x.v.s) ∧ (WI x.depth) ∧ (WI x.at_) ∧ (WStr x.name) ∧ (WL .term x.kids) ∧ (WL .rel x.sub) ∧ (WI x.type) := by
  show (∀ d ∈ [ci x.op, ci x.v.kind, ci x.v.n, cs x.v.s, ci x.depth, ci x.at_, cs x.name, .dat (U := Un) Ty.term x.kids, .dat (U := Un) Ty.rel x.sub, ci x.type], VWf En d) ↔ _
  simp only [List.forall_mem_cons, List.not_mem_nil, false_implies, implies_true, vwf_ci, vwf_cb, vwf_cs, vwf_dat, and_true, true_and]
theorem WS_agg (x : Agg) : WS .agg x ↔ (WStr x.name) ∧ (WL .term x.t) := by
  show (∀ d ∈ [cs x.name, cb x.distinct, .dat (U := Un) Ty.term x.t], VWf En d) ↔ _
  simp only [List.forall_mem_cons, List.not_mem_nil, false_implies, implies_true, vwf_ci, vwf_cb, vwf_cs, vwf_dat, and_true, true_and]
theorem WS_rel (x : Rel) : WS .rel x ↔ (WI x.op) ∧ (WStr x.table) ∧ (WL .col x.cols) ∧ (WL .rel x.kids) ∧ (WL .term x.terms) ∧ (WL .agg x.aggs) ∧ (WL .by_ x.keys) ∧ (WI x.limit) ∧ (WI x.skip) ∧ (WL .row x.rows) := by
  show (∀ d ∈ [ci x.op, cs x.table, .dat (U := Un) Ty.col x.cols, .dat (U := Un) Ty.rel x.kids, .dat (U := Un) Ty.term x.terms, .dat (U := Un) Ty.agg x.aggs, .dat (U := Un) Ty.by_ x.keys, ci x.limit, ci x.skip, cb x.all, .dat (U := Un) Ty.row x.rows], VWf En d) ↔ _
  simp only [List.forall_mem_cons, List.not_mem_nil, false_implies, implies_true, vwf_ci, vwf_cb, vwf_cs, vwf_dat, and_true, true_and]
theorem WS_plan (x : Plan) : WS .plan x ↔ (WI x.op) ∧ (WStr x.table) ∧ (WStr x.index) ∧ (WL .col x.cols) ∧ (WL .plan x.kids) ∧ (WL .term x.terms) ∧ (WL .term x.lkeys) ∧ (WL .term x.rkeys) ∧ (WL .agg x.aggs) ∧ (WL .by_ x.keys) ∧ (WL .int x.out) ∧ (WL .val x.lo.key) ∧ (WL .val x.hi.key) ∧ (WI x.limit) ∧ (WI x.skip) ∧ (WL .row x.rows) ∧ (WI x.est) ∧ (WI x.cost) := by
  show (∀ d ∈ [ci x.op, cs x.table, cs x.index, .dat (U := Un) Ty.col x.cols, .dat (U := Un) Ty.plan x.kids, .dat (U := Un) Ty.term x.terms, .dat (U := Un) Ty.term x.lkeys, .dat (U := Un) Ty.term x.rkeys, .dat (U := Un) Ty.agg x.aggs, .dat (U := Un) Ty.by_ x.keys, .dat (U := Un) Ty.int x.out, cb x.lo.is, cb x.lo.open_, .dat (U := Un) Ty.val x.lo.key, cb x.hi.is, cb x.hi.open_, .dat (U := Un) Ty.val x.hi.key, ci x.limit, ci x.skip, cb x.all, .dat (U := Un) Ty.row x.rows, ci x.est, ci x.cost], VWf En d) ↔ _
  simp only [List.forall_mem_cons, List.not_mem_nil, false_implies, implies_true, vwf_ci, vwf_cb, vwf_cs, vwf_dat, and_true, true_and]
theorem WS_span (x : Span) : WS .span x ↔ (WL .val x.front) ∧ (WL .val x.lo.key) ∧ (WL .val x.hi.key) ∧ (WI x.n) ∧ (WL .term x.counts) := by
  show (∀ d ∈ [.dat (U := Un) Ty.val x.front, cb x.lo.is, cb x.lo.open_, .dat (U := Un) Ty.val x.lo.key, cb x.hi.is, cb x.hi.open_, .dat (U := Un) Ty.val x.hi.key, ci x.n, .dat (U := Un) Ty.term x.counts], VWf En d) ↔ _
  simp only [List.forall_mem_cons, List.not_mem_nil, false_implies, implies_true, vwf_ci, vwf_cb, vwf_cs, vwf_dat, and_true, true_and]
theorem WS.val_kind {x : Val} (h : WS .val x) : WI x.kind := ((WS_val x).1 h).1
theorem WS.val_n {x : Val} (h : WS .val x) : WI x.n := ((WS_val x).1 h).2.1
theorem WS.val_s {x : Val} (h : WS .val x) : WStr x.s := ((WS_val x).1 h).2.2
theorem WS.col_table {x : Col} (h : WS .col x) : WStr x.table := ((WS_col x).1 h).1
theorem WS.col_name {x : Col} (h : WS .col x) : WStr x.name := ((WS_col x).1 h).2.1
theorem WS.col_type {x : Col} (h : WS .col x) : WI x.type := ((WS_col x).1 h).2.2
theorem WS.by__at_ {x : By} (h : WS .by_ x) : WI x.at_ := ((WS_by_ x).1 h)
theorem WS.bound_key {x : Bound} (h : WS .bound x) : WL .val x.key := ((WS_bound x).1 h)
theorem WS.often_v {x : Often} (h : WS .often x) : WS .val x.v := (WS_val _).2 ⟨((WS_often x).1 h).1, ((WS_often x).1 h).2.1, ((WS_often x).1 h).2.2.1⟩
theorem WS.often_n {x : Often} (h : WS .often x) : WI x.n := ((WS_often x).1 h).2.2.2
theorem WS.colStat_nulls {x : ColStat} (h : WS .colStat x) : WI x.nulls := ((WS_colStat x).1 h).1
theorem WS.colStat_distinct {x : ColStat} (h : WS .colStat x) : WI x.distinct := ((WS_colStat x).1 h).2.1
theorem WS.colStat_ends {x : ColStat} (h : WS .colStat x) : WL .val x.ends := ((WS_colStat x).1 h).2.2.1
theorem WS.colStat_common {x : ColStat} (h : WS .colStat x) : WL .often x.common := ((WS_colStat x).1 h).2.2.2
theorem WS.data_table {x : Data} (h : WS .data x) : WStr x.table := ((WS_data x).1 h).1
theorem WS.data_rows {x : Data} (h : WS .data x) : WL .row x.rows := ((WS_data x).1 h).2
theorem WS.acc_name {x : Acc} (h : WS .acc x) : WStr x.name := ((WS_acc x).1 h).1
theorem WS.acc_n {x : Acc} (h : WS .acc x) : WI x.n := ((WS_acc x).1 h).2.1
theorem WS.acc_hi {x : Acc} (h : WS .acc x) : WI x.hi := ((WS_acc x).1 h).2.2.1
theorem WS.acc_lo {x : Acc} (h : WS .acc x) : WI x.lo := ((WS_acc x).1 h).2.2.2.1
theorem WS.acc_v {x : Acc} (h : WS .acc x) : WS .val x.v := (WS_val _).2 ⟨((WS_acc x).1 h).2.2.2.2.1, ((WS_acc x).1 h).2.2.2.2.2.1, ((WS_acc x).1 h).2.2.2.2.2.2.1⟩
theorem WS.acc_l {x : Acc} (h : WS .acc x) : WL .val x.l := ((WS_acc x).1 h).2.2.2.2.2.2.2
theorem WS.stat_table {x : Stat} (h : WS .stat x) : WStr x.table := ((WS_stat x).1 h).1
theorem WS.stat_rows {x : Stat} (h : WS .stat x) : WI x.rows := ((WS_stat x).1 h).2.1
theorem WS.stat_pages {x : Stat} (h : WS .stat x) : WI x.pages := ((WS_stat x).1 h).2.2.1
theorem WS.stat_cols {x : Stat} (h : WS .stat x) : WL .colStat x.cols := ((WS_stat x).1 h).2.2.2
theorem WS.column_c {x : Column} (h : WS .column x) : WS .colStat x.c := (WS_colStat _).2 ⟨((WS_column x).1 h).1, ((WS_column x).1 h).2.1, ((WS_column x).1 h).2.2.1, ((WS_column x).1 h).2.2.2.1⟩
theorem WS.column_nulls {x : Column} (h : WS .column x) : WI x.nulls := ((WS_column x).1 h).2.2.2.2.1
theorem WS.column_others {x : Column} (h : WS .column x) : WI x.others := ((WS_column x).1 h).2.2.2.2.2.1
theorem WS.column_all {x : Column} (h : WS .column x) : WI x.all := ((WS_column x).1 h).2.2.2.2.2.2
theorem WS.term_op {x : Term} (h : WS .term x) : WI x.op := ((WS_term x).1 h).1
theorem WS.term_v {x : Term} (h : WS .term x) : WS .val x.v := (WS_val _).2 ⟨((WS_term x).1 h).2.1, ((WS_term x).1 h).2.2.1, ((WS_term x).1 h).2.2.2.1⟩
theorem WS.term_depth {x : Term} (h : WS .term x) : WI x.depth := ((WS_term x).1 h).2.2.2.2.1
theorem WS.term_at_ {x : Term} (h : WS .term x) : WI x.at_ := ((WS_term x).1 h).2.2.2.2.2.1
theorem WS.term_name {x : Term} (h : WS .term x) : WStr x.name := ((WS_term x).1 h).2.2.2.2.2.2.1
theorem WS.term_kids {x : Term} (h : WS .term x) : WL .term x.kids := ((WS_term x).1 h).2.2.2.2.2.2.2.1
theorem WS.term_sub {x : Term} (h : WS .term x) : WL .rel x.sub := ((WS_term x).1 h).2.2.2.2.2.2.2.2.1
theorem WS.term_type {x : Term} (h : WS .term x) : WI x.type := ((WS_term x).1 h).2.2.2.2.2.2.2.2.2
theorem WS.agg_name {x : Agg} (h : WS .agg x) : WStr x.name := ((WS_agg x).1 h).1
theorem WS.agg_t {x : Agg} (h : WS .agg x) : WL .term x.t := ((WS_agg x).1 h).2
theorem WS.rel_op {x : Rel} (h : WS .rel x) : WI x.op := ((WS_rel x).1 h).1
theorem WS.rel_table {x : Rel} (h : WS .rel x) : WStr x.table := ((WS_rel x).1 h).2.1
theorem WS.rel_cols {x : Rel} (h : WS .rel x) : WL .col x.cols := ((WS_rel x).1 h).2.2.1
theorem WS.rel_kids {x : Rel} (h : WS .rel x) : WL .rel x.kids := ((WS_rel x).1 h).2.2.2.1
theorem WS.rel_terms {x : Rel} (h : WS .rel x) : WL .term x.terms := ((WS_rel x).1 h).2.2.2.2.1
theorem WS.rel_aggs {x : Rel} (h : WS .rel x) : WL .agg x.aggs := ((WS_rel x).1 h).2.2.2.2.2.1
theorem WS.rel_keys {x : Rel} (h : WS .rel x) : WL .by_ x.keys := ((WS_rel x).1 h).2.2.2.2.2.2.1
theorem WS.rel_limit {x : Rel} (h : WS .rel x) : WI x.limit := ((WS_rel x).1 h).2.2.2.2.2.2.2.1
theorem WS.rel_skip {x : Rel} (h : WS .rel x) : WI x.skip := ((WS_rel x).1 h).2.2.2.2.2.2.2.2.1
theorem WS.rel_rows {x : Rel} (h : WS .rel x) : WL .row x.rows := ((WS_rel x).1 h).2.2.2.2.2.2.2.2.2
theorem WS.plan_op {x : Plan} (h : WS .plan x) : WI x.op := ((WS_plan x).1 h).1
theorem WS.plan_table {x : Plan} (h : WS .plan x) : WStr x.table := ((WS_plan x).1 h).2.1
theorem WS.plan_index {x : Plan} (h : WS .plan x) : WStr x.index := ((WS_plan x).1 h).2.2.1
theorem WS.plan_cols {x : Plan} (h : WS .plan x) : WL .col x.cols := ((WS_plan x).1 h).2.2.2.1
theorem WS.plan_kids {x : Plan} (h : WS .plan x) : WL .plan x.kids := ((WS_plan x).1 h).2.2.2.2.1
theorem WS.plan_terms {x : Plan} (h : WS .plan x) : WL .term x.terms := ((WS_plan x).1 h).2.2.2.2.2.1
theorem WS.plan_lkeys {x : Plan} (h : WS .plan x) : WL .term x.lkeys := ((WS_plan x).1 h).2.2.2.2.2.2.1
theorem WS.plan_rkeys {x : Plan} (h : WS .plan x) : WL .term x.rkeys := ((WS_plan x).1 h).2.2.2.2.2.2.2.1
theorem WS.plan_aggs {x : Plan} (h : WS .plan x) : WL .agg x.aggs := ((WS_plan x).1 h).2.2.2.2.2.2.2.2.1
theorem WS.plan_keys {x : Plan} (h : WS .plan x) : WL .by_ x.keys := ((WS_plan x).1 h).2.2.2.2.2.2.2.2.2.1
theorem WS.plan_out {x : Plan} (h : WS .plan x) : WL .int x.out := ((WS_plan x).1 h).2.2.2.2.2.2.2.2.2.2.1
theorem WS.plan_lo {x : Plan} (h : WS .plan x) : WS .bound x.lo := (WS_bound _).2 ((WS_plan x).1 h).2.2.2.2.2.2.2.2.2.2.2.1
theorem WS.plan_hi {x : Plan} (h : WS .plan x) : WS .bound x.hi := (WS_bound _).2 ((WS_plan x).1 h).2.2.2.2.2.2.2.2.2.2.2.2.1
theorem WS.plan_limit {x : Plan} (h : WS .plan x) : WI x.limit := ((WS_plan x).1 h).2.2.2.2.2.2.2.2.2.2.2.2.2.1
theorem WS.plan_skip {x : Plan} (h : WS .plan x) : WI x.skip := ((WS_plan x).1 h).2.2.2.2.2.2.2.2.2.2.2.2.2.2.1
theorem WS.plan_rows {x : Plan} (h : WS .plan x) : WL .row x.rows := ((WS_plan x).1 h).2.2.2.2.2.2.2.2.2.2.2.2.2.2.2.1
theorem WS.plan_est {x : Plan} (h : WS .plan x) : WI x.est := ((WS_plan x).1 h).2.2.2.2.2.2.2.2.2.2.2.2.2.2.2.2.1
theorem WS.plan_cost {x : Plan} (h : WS .plan x) : WI x.cost := ((WS_plan x).1 h).2.2.2.2.2.2.2.2.2.2.2.2.2.2.2.2.2
theorem WS.span_front {x : Span} (h : WS .span x) : WL .val x.front := ((WS_span x).1 h).1
theorem WS.span_lo {x : Span} (h : WS .span x) : WS .bound x.lo := (WS_bound _).2 ((WS_span x).1 h).2.1
theorem WS.span_hi {x : Span} (h : WS .span x) : WS .bound x.hi := (WS_bound _).2 ((WS_span x).1 h).2.2.1
theorem WS.span_n {x : Span} (h : WS .span x) : WI x.n := ((WS_span x).1 h).2.2.2.1
theorem WS.span_counts {x : Span} (h : WS .span x) : WL .term x.counts := ((WS_span x).1 h).2.2.2.2
end Go.Proofs.Ytaepcbdcjbfgjaa.B
