/- Part 17 of the proof: Lscal2 Lscal3. -/
import Derived.Lib.ConvBytes
import Derived.Laws.IdiomStrings
import Derived.Test.YtjfpbchdcbhfgaaGreatNsrt16
namespace Go.Proofs.YtjfpbchdcbhfgaaGreat.B
open Go Go.RowKit
set_option maxRecDepth 1000000
def aggV (a:Val) : Value:=.agg #[.int .i64 a.kind,.int .i64 a.n,.string a.s]
theorem zh8 {w w1:World} {x y z:Obj} (h:Ext (((w.alloc x).alloc y).alloc z) w1) : w1.heap[w.heap.size+1+1]? = some z:=by
 have e:(((w.alloc x).alloc y).alloc z).heap=((w.heap.push x).push y).push z:=rfl
 have hs:((w.heap.push x).push y).size=w.heap.size+1+1:=by rw[Array.size_push,Array.size_push]
 refine (h.block (by rw[e,Array.size_push,hs];omega)).trans ?_
 rw[e,← hs]
 exact Array.getElem?_push_size
theorem zbi {w:World} {b:Nat} {x y z:Value} {t:TypeId} (h:w.heap[b]? = some (.cells #[x,y,z] t)) : w.cell? ⟨b,0,none⟩=some x∧w.cell? ⟨b,1,none⟩=some y∧w.cell? ⟨b,2,none⟩=some z∧∀ o,w.frozen? ⟨b,o,none⟩=false:=by
 refine⟨?_,?_,?_,fun o=>?_⟩
 ·unfold World.cell?;simp only[h];rfl
 ·unfold World.cell?;simp only[h];rfl
 ·unfold World.cell?;simp only[h];rfl
 ·unfold World.frozen?;simp only[h];simp
theorem z1m6 (op:Int) (a b:Val) (w:World) (hn:(cmpV a b).2=false) (hld:Laid w) (hc:∀ W,Laid W→Calls Tryz.prog 152 #[aggV a,aggV b] W fun e w'=>e=.returned (.tuple #[.int .i64 (cmpV a b).1,.bool false])∧Ext W w') :
  Calls Tryz.prog 164 #[.int .i64 op,aggV a,aggV b] w fun e w'=>e=.returned (aggV z7)∧Ext w w':=by
 unfold aggV at hc ⊢
 have mixed:Tryz.prog.follows .mixedOrders=true:=by kernel_rfl
 have hmm:=@run_makeMap Tryz.prog
 go_enter Tryz.func164,Tryz.ntmps164
 go_wp2_with (go_at_call 152;go_loud (refine (hc _ (hld.ext ((((Ext.refl w).alloc _).alloc _).alloc _))).mono ?_;rintro e w1 ⟨rfl,h1⟩;have hz:=zbi (zh8 h1);obtain⟨z0,z1,z2,q0⟩:=hz))
 refine bodyPost_ret (v:=.agg #[.int .i64 0,.int .i64 0,.string ⟨#[]⟩]) (by unfold results;go_simp) rfl ?_
 refine⟨rfl,?_⟩
 have hx:Ext w w1:=((((Ext.refl w).alloc _).alloc _).alloc _).trans h1
 exact ((hx.setCell (by show w.heap.size≤w.heap.size+1+1;omega) _).setCell (by show w.heap.size≤w.heap.size+1+1;omega) _).setCell (by show w.heap.size≤w.heap.size+1+1;omega) _
theorem zkv : ∀ (os:List Obj) (w:World),os.foldl World.alloc w={ w with heap:=w.heap++os.toArray }
 | [],w=>by simp
 | o::os,w=>by
  rw[List.foldl_cons,zkv os]
  unfold World.alloc
  simp
theorem z1cj (os:List Obj) (w:World) (m:Obj) : (os.foldl World.alloc (w.alloc m)).heap=w.heap.push m++os.toArray:=by
 rw[zkv];rfl
theorem z1kp (os:List Obj) (w:World) (m:Obj) : (os.foldl World.alloc (w.alloc m)).heap[w.heap.size]? = some m:=by
 rw[z1cj,Array.getElem?_append_left (by rw[Array.size_push];omega)]
 exact Array.getElem?_push_size
theorem z1zb (os:List Obj) (w:World) (m m':Obj) : { os.foldl World.alloc (w.alloc m) with heap:=(os.foldl World.alloc (w.alloc m)).heap.setIfInBounds w.heap.size m' }=os.foldl World.alloc (w.alloc m'):=by
 rw[zkv,zkv]
 unfold World.alloc
 simp only
 congr 1
 apply Array.ext'
 simp [Array.toList_setIfInBounds]
theorem updC {mt et:TypeId} (hm:Tryz.prog.underlying mt=some (.map 3 et)) (os:List Obj) (w:World) (es:Array MapEntry) (c:Nat) (k:Int) (v:Value) (hn:Instr.findNow (.int .i64) (.int .i64 k) es.toList 0=some none) :
  (Instr.mapUpdate mt (.map (some w.heap.size)) (.int .i64 k) v).run Tryz.prog (os.foldl World.alloc (w.alloc (.map es c)))=.ok () (os.foldl World.alloc (w.alloc (.map (es.push { key:=.int .i64 k,val:=v,born:=c }) (c+1)))):=by
 have hd:Tryz.prog.underlying 3=some (.int .i64):=by kernel_rfl
 have hb:=z1kp os w (.map es c)
 have hk:MapKept.IsKey (.int .i64) (.int .i64 k):=by simp [MapKept.IsKey]
 have hs:=z1zb os w (.map es c) (.map (es.push { key:=.int .i64 k,val:=v,born:=c }) (c+1))
 simp [Instr.mapUpdate,run_underlying hm,MapKept.run_getObj_map hb,MapKept.run_checkKey hd hk,MapKept.run_findKey hd hn,MapKept.run_setObj_map _ hb,Result.andThen]
 exact hs
theorem z148 {mt et:TypeId} (hm:Tryz.prog.underlying mt=some (.map 3 et)) (os:List Obj) (w:World) (es:Array MapEntry) (c:Nat) (k:Int) (i:Nat) (v:Value) (hn:Instr.findNow (.int .i64) (.int .i64 k) es.toList 0=some (some (i,v))) :
  (Instr.lookup mt (.map (some w.heap.size)) (.int .i64 k) false).run Tryz.prog (os.foldl World.alloc (w.alloc (.map es c)))=.ok v (os.foldl World.alloc (w.alloc (.map es c))):=by
 have hd:Tryz.prog.underlying 3=some (.int .i64):=by kernel_rfl
 have hb:=z1kp os w (.map es c)
 have hk:MapKept.IsKey (.int .i64) (.int .i64 k):=by simp [MapKept.IsKey]
 simp [Instr.lookup,run_underlying hm,MapKept.run_getObj_map hb,MapKept.run_checkKey hd hk,MapKept.run_findKey hd hn,Result.andThen]
def sgn (w:World) : List (Int×Nat×List Int):=[(11,w.heap.size+1,[0]),(12,w.heap.size+1+1,[-1,1]),(13,w.heap.size+1+1+1,[-1]),(14,w.heap.size+1+1+1+1,[-1,0]),(15,w.heap.size+1+1+1+1+1,[1]),(16,w.heap.size+1+1+1+1+1+1,[0,1])]
def ent (w:World) (n:Nat) : List MapEntry:=((sgn w).take n).zipIdx.map fun x=>⟨.int .i64 x.1.1,.slice (some ⟨x.1.2.1,0,none⟩) x.1.2.2.length x.1.2.2.length,x.2⟩
def rowO (l:List Int) : Obj:=.cells (l.map (Value.int .i64)).toArray 3
theorem zhr (os:List Obj) (w:World) (m:Obj) (q:Nat) (o:Obj) (h:os[q]? = some o) : (os.foldl World.alloc (w.alloc m)).heap[w.heap.size+1+q]? = some o:=by
 rw[z1cj,Array.getElem?_append_right (by rw[Array.size_push];omega),Array.size_push]
 rw[show w.heap.size+1+q - (w.heap.size+1)=q by omega,List.getElem?_toArray]
 exact h
theorem zhs {W:World} {blk:Nat} {zs:List Int} (h:W.heap[blk]? = some (rowO zs)) : ∀ j,j<zs.length→W.cell? ⟨blk,0+j,none⟩=some (.int .i64 (zs.getD j 0)):=by
 intro j hj
 unfold World.cell?
 simp only[h,rowO]
 simp [hj,List.getD_eq_getElem?_getD]
theorem zht (os:List Obj) (w:World) (m:Obj) : Ext w (os.foldl World.alloc (w.alloc m)):=by
 have : ∀ (os:List Obj) (u:World),Ext w u→Ext w (os.foldl World.alloc u):=by
  intro os
  induction os with
  | nil=>intro u h;exact h
  | cons o os ih=>intro u h;exact ih _ (h.alloc o)
 exact this os _ ((Ext.refl w).alloc m)
theorem z25b (c:Int) : (List.take 1 ([0] : List Int)).contains c=soB 11 c:=by
 simp only[List.take_succ_cons,List.take_zero,List.contains_cons,List.contains_nil,Bool.or_false]
 unfold soB
 rw[if_pos rfl,Bool.eq_iff_iff]
 simp only[Bool.or_eq_true,beq_iff_eq,decide_eq_true_eq]
set_option maxHeartbeats 2000000 in
theorem z1st (a b:Val) (w:World) (hld:Laid w) (hc:∀ W,Laid W→Calls Tryz.prog 152 #[aggV a,aggV b] W fun e w'=>e=.returned (.tuple #[.int .i64 (cmpV a b).1,.bool true])∧Ext W w')
  (hB:∀ W x,Laid W→Calls Tryz.prog 39 #[.bool x] W fun e w'=>e=.returned (.agg #[.int .i64 (z27 x).kind,.int .i64 (z27 x).n,.string (z27 x).s])∧Ext W w') :
  Calls Tryz.prog 164 #[.int .i64 11,aggV a,aggV b] w fun e w'=>e=.returned (aggV (z27 (soB 11 (cmpV a b).1)))∧Ext w w':=by
 unfold aggV at hc ⊢
 have mixed:Tryz.prog.follows .mixedOrders=true:=by kernel_rfl
 have hmm:=@run_makeMap Tryz.prog
 have hm:Tryz.prog.underlying 193=some (.map 3 42):=by kernel_rfl
 go_enter Tryz.func164,Tryz.ntmps164
 go_wp2_with (first
  | (go_at_call 152;refine (hc _ (hld.ext ((((Ext.refl w).alloc _).alloc _).alloc _))).mono ?_;rintro e w1 ⟨rfl,h1⟩;have hz:=zh8 h1;obtain⟨z0,z1,z2,q0⟩:=zbi hz;have hx:Ext w w1:=((((Ext.refl w).alloc _).alloc _).alloc _).trans h1;have u1:=updC hm [rowO [0]] w1 (ent w1 0).toArray 0 11 (.slice (some ⟨w1.heap.size+1,0,none⟩) 1 1) rfl;have u2:=updC hm [rowO [0],rowO [-1,1]] w1 (ent w1 1).toArray 1 12 (.slice (some ⟨w1.heap.size+1+1,0,none⟩) 2 2) rfl;have u3:=updC hm [rowO [0],rowO [-1,1],rowO [-1]] w1 (ent w1 2).toArray 2 13 (.slice (some ⟨w1.heap.size+1+1+1,0,none⟩) 1 1) rfl;have u4:=updC hm [rowO [0],rowO [-1,1],rowO [-1],rowO [-1,0]] w1 (ent w1 3).toArray 3 14 (.slice (some ⟨w1.heap.size+1+1+1+1,0,none⟩) 2 2) rfl;have u5:=updC hm [rowO [0],rowO [-1,1],rowO [-1],rowO [-1,0],rowO [1]] w1 (ent w1 4).toArray 4 15 (.slice (some ⟨w1.heap.size+1+1+1+1+1,0,none⟩) 1 1) rfl;have u6:=updC hm [rowO [0],rowO [-1,1],rowO [-1],rowO [-1,0],rowO [1],rowO [0,1]] w1 (ent w1 5).toArray 5 16 (.slice (some ⟨w1.heap.size+1+1+1+1+1+1,0,none⟩) 2 2) rfl;have lk:=z148 hm [rowO [0],rowO [-1,1],rowO [-1],rowO [-1,0],rowO [1],rowO [0,1]] w1 (ent w1 6).toArray 6 11 0 (.slice (some ⟨w1.heap.size+1,0,none⟩) 1 1) rfl;have hro:=zhs (zhr [rowO [0],rowO [-1,1],rowO [-1],rowO [-1,0],rowO [1],rowO [0,1]] w1 (.map (ent w1 6).toArray 6) 0 (rowO [0]) rfl);have hce:=zht [rowO [0],rowO [-1,1],rowO [-1],rowO [-1,0],rowO [1],rowO [0,1]] w1 (.map (ent w1 6).toArray 6);simp only[List.foldl_cons,List.foldl_nil,ent,sgn,rowO,List.take_zero,List.take_succ_cons,List.zipIdx_cons,List.zipIdx_nil,List.map_cons,List.map_nil,List.length_cons,List.length_nil,List.push_toArray,List.cons_append,List.nil_append,Nat.zero_add,Nat.reduceAdd] at u1 u2 u3 u4 u5 u6 lk hro hce)
  | (go_at_call 206;refine (Tryz.slices_Contains_int (w1.heap.size+1) 0 1 1 [0] (cmpV a b).1 _ (by decide) (by decide) (fun j hj=>by rw[Nat.zero_add];exact hro j hj)).mono ?_;rintro e w2 ⟨rfl,rfl⟩;simp only[z25b])
  | (go_at_call 39;refine (hB _ _ (hld.ext (hx.trans hce))).mono ?_;rintro e w3 ⟨rfl,h3⟩;have hlt:w.heap.size+1+1<w1.heap.size:=z6l (p:=⟨w.heap.size+1+1,0,none⟩) z0;have h4:=hce.trans h3;have hz3:=(h4.block hlt).trans hz;obtain⟨y0,y1,y2,p0⟩:=zbi hz3))
 refine bodyPost_ret (v:=.agg #[.int .i64 (z27 (soB 11 (cmpV a b).1)).kind,.int .i64 (z27 (soB 11 (cmpV a b).1)).n,.string (z27 (soB 11 (cmpV a b).1)).s]) (by unfold results;go_simp) rfl ?_
 refine⟨rfl,?_⟩
 have h5:=hx.trans h4
 exact ((h5.setCell (by show w.heap.size≤w.heap.size+1+1;omega) _).setCell (by show w.heap.size≤w.heap.size+1+1;omega) _).setCell (by show w.heap.size≤w.heap.size+1+1;omega) _
theorem z25c (c:Int) : (List.take 2 ([-1,1] : List Int)).contains c=soB 12 c:=by
 simp only[List.take_succ_cons,List.take_zero,List.contains_cons,List.contains_nil,Bool.or_false]
 unfold soB
 rw[if_neg (by decide),if_pos rfl,Bool.eq_iff_iff]
 simp only[Bool.or_eq_true,beq_iff_eq,decide_eq_true_eq]
set_option maxHeartbeats 2000000 in
theorem z1su (a b:Val) (w:World) (hld:Laid w) (hc:∀ W,Laid W→Calls Tryz.prog 152 #[aggV a,aggV b] W fun e w'=>e=.returned (.tuple #[.int .i64 (cmpV a b).1,.bool true])∧Ext W w')
  (hB:∀ W x,Laid W→Calls Tryz.prog 39 #[.bool x] W fun e w'=>e=.returned (.agg #[.int .i64 (z27 x).kind,.int .i64 (z27 x).n,.string (z27 x).s])∧Ext W w') :
  Calls Tryz.prog 164 #[.int .i64 12,aggV a,aggV b] w fun e w'=>e=.returned (aggV (z27 (soB 12 (cmpV a b).1)))∧Ext w w':=by
 unfold aggV at hc ⊢
 have mixed:Tryz.prog.follows .mixedOrders=true:=by kernel_rfl
 have hmm:=@run_makeMap Tryz.prog
 have hm:Tryz.prog.underlying 193=some (.map 3 42):=by kernel_rfl
 go_enter Tryz.func164,Tryz.ntmps164
 go_wp2_with (first
  | (go_at_call 152;refine (hc _ (hld.ext ((((Ext.refl w).alloc _).alloc _).alloc _))).mono ?_;rintro e w1 ⟨rfl,h1⟩;have hz:=zh8 h1;obtain⟨z0,z1,z2,q0⟩:=zbi hz;have hx:Ext w w1:=((((Ext.refl w).alloc _).alloc _).alloc _).trans h1;have u1:=updC hm [rowO [0]] w1 (ent w1 0).toArray 0 11 (.slice (some ⟨w1.heap.size+1,0,none⟩) 1 1) rfl;have u2:=updC hm [rowO [0],rowO [-1,1]] w1 (ent w1 1).toArray 1 12 (.slice (some ⟨w1.heap.size+1+1,0,none⟩) 2 2) rfl;have u3:=updC hm [rowO [0],rowO [-1,1],rowO [-1]] w1 (ent w1 2).toArray 2 13 (.slice (some ⟨w1.heap.size+1+1+1,0,none⟩) 1 1) rfl;have u4:=updC hm [rowO [0],rowO [-1,1],rowO [-1],rowO [-1,0]] w1 (ent w1 3).toArray 3 14 (.slice (some ⟨w1.heap.size+1+1+1+1,0,none⟩) 2 2) rfl;have u5:=updC hm [rowO [0],rowO [-1,1],rowO [-1],rowO [-1,0],rowO [1]] w1 (ent w1 4).toArray 4 15 (.slice (some ⟨w1.heap.size+1+1+1+1+1,0,none⟩) 1 1) rfl;have u6:=updC hm [rowO [0],rowO [-1,1],rowO [-1],rowO [-1,0],rowO [1],rowO [0,1]] w1 (ent w1 5).toArray 5 16 (.slice (some ⟨w1.heap.size+1+1+1+1+1+1,0,none⟩) 2 2) rfl;have lk:=z148 hm [rowO [0],rowO [-1,1],rowO [-1],rowO [-1,0],rowO [1],rowO [0,1]] w1 (ent w1 6).toArray 6 12 1 (.slice (some ⟨w1.heap.size+1+1,0,none⟩) 2 2) rfl;have hro:=zhs (zhr [rowO [0],rowO [-1,1],rowO [-1],rowO [-1,0],rowO [1],rowO [0,1]] w1 (.map (ent w1 6).toArray 6) 1 (rowO [-1,1]) rfl);have hce:=zht [rowO [0],rowO [-1,1],rowO [-1],rowO [-1,0],rowO [1],rowO [0,1]] w1 (.map (ent w1 6).toArray 6);simp only[List.foldl_cons,List.foldl_nil,ent,sgn,rowO,List.take_zero,List.take_succ_cons,List.zipIdx_cons,List.zipIdx_nil,List.map_cons,List.map_nil,List.length_cons,List.length_nil,List.push_toArray,List.cons_append,List.nil_append,Nat.zero_add,Nat.reduceAdd] at u1 u2 u3 u4 u5 u6 lk hro hce)
  | (go_at_call 206;refine (Tryz.slices_Contains_int (w1.heap.size+1+1) 0 2 2 [-1,1] (cmpV a b).1 _ (by decide) (by decide) (fun j hj=>by rw[Nat.zero_add];exact hro j hj)).mono ?_;rintro e w2 ⟨rfl,rfl⟩;simp only[z25c])
  | (go_at_call 39;refine (hB _ _ (hld.ext (hx.trans hce))).mono ?_;rintro e w3 ⟨rfl,h3⟩;have hlt:w.heap.size+1+1<w1.heap.size:=z6l (p:=⟨w.heap.size+1+1,0,none⟩) z0;have h4:=hce.trans h3;have hz3:=(h4.block hlt).trans hz;obtain⟨y0,y1,y2,p0⟩:=zbi hz3))
 refine bodyPost_ret (v:=.agg #[.int .i64 (z27 (soB 12 (cmpV a b).1)).kind,.int .i64 (z27 (soB 12 (cmpV a b).1)).n,.string (z27 (soB 12 (cmpV a b).1)).s]) (by unfold results;go_simp) rfl ?_
 refine⟨rfl,?_⟩
 have h5:=hx.trans h4
 exact ((h5.setCell (by show w.heap.size≤w.heap.size+1+1;omega) _).setCell (by show w.heap.size≤w.heap.size+1+1;omega) _).setCell (by show w.heap.size≤w.heap.size+1+1;omega) _
theorem z25d (c:Int) : (List.take 1 ([-1] : List Int)).contains c=soB 13 c:=by
 simp only[List.take_succ_cons,List.take_zero,List.contains_cons,List.contains_nil,Bool.or_false]
 unfold soB
 rw[if_neg (by decide),if_neg (by decide),if_pos rfl,Bool.eq_iff_iff]
 simp only[Bool.or_eq_true,beq_iff_eq,decide_eq_true_eq]
set_option maxHeartbeats 2000000 in
theorem z1sv (a b:Val) (w:World) (hld:Laid w) (hc:∀ W,Laid W→Calls Tryz.prog 152 #[aggV a,aggV b] W fun e w'=>e=.returned (.tuple #[.int .i64 (cmpV a b).1,.bool true])∧Ext W w')
  (hB:∀ W x,Laid W→Calls Tryz.prog 39 #[.bool x] W fun e w'=>e=.returned (.agg #[.int .i64 (z27 x).kind,.int .i64 (z27 x).n,.string (z27 x).s])∧Ext W w') :
  Calls Tryz.prog 164 #[.int .i64 13,aggV a,aggV b] w fun e w'=>e=.returned (aggV (z27 (soB 13 (cmpV a b).1)))∧Ext w w':=by
 unfold aggV at hc ⊢
 have mixed:Tryz.prog.follows .mixedOrders=true:=by kernel_rfl
 have hmm:=@run_makeMap Tryz.prog
 have hm:Tryz.prog.underlying 193=some (.map 3 42):=by kernel_rfl
 go_enter Tryz.func164,Tryz.ntmps164
 go_wp2_with (first
  | (go_at_call 152;refine (hc _ (hld.ext ((((Ext.refl w).alloc _).alloc _).alloc _))).mono ?_;rintro e w1 ⟨rfl,h1⟩;have hz:=zh8 h1;obtain⟨z0,z1,z2,q0⟩:=zbi hz;have hx:Ext w w1:=((((Ext.refl w).alloc _).alloc _).alloc _).trans h1;have u1:=updC hm [rowO [0]] w1 (ent w1 0).toArray 0 11 (.slice (some ⟨w1.heap.size+1,0,none⟩) 1 1) rfl;have u2:=updC hm [rowO [0],rowO [-1,1]] w1 (ent w1 1).toArray 1 12 (.slice (some ⟨w1.heap.size+1+1,0,none⟩) 2 2) rfl;have u3:=updC hm [rowO [0],rowO [-1,1],rowO [-1]] w1 (ent w1 2).toArray 2 13 (.slice (some ⟨w1.heap.size+1+1+1,0,none⟩) 1 1) rfl;have u4:=updC hm [rowO [0],rowO [-1,1],rowO [-1],rowO [-1,0]] w1 (ent w1 3).toArray 3 14 (.slice (some ⟨w1.heap.size+1+1+1+1,0,none⟩) 2 2) rfl;have u5:=updC hm [rowO [0],rowO [-1,1],rowO [-1],rowO [-1,0],rowO [1]] w1 (ent w1 4).toArray 4 15 (.slice (some ⟨w1.heap.size+1+1+1+1+1,0,none⟩) 1 1) rfl;have u6:=updC hm [rowO [0],rowO [-1,1],rowO [-1],rowO [-1,0],rowO [1],rowO [0,1]] w1 (ent w1 5).toArray 5 16 (.slice (some ⟨w1.heap.size+1+1+1+1+1+1,0,none⟩) 2 2) rfl;have lk:=z148 hm [rowO [0],rowO [-1,1],rowO [-1],rowO [-1,0],rowO [1],rowO [0,1]] w1 (ent w1 6).toArray 6 13 2 (.slice (some ⟨w1.heap.size+1+1+1,0,none⟩) 1 1) rfl;have hro:=zhs (zhr [rowO [0],rowO [-1,1],rowO [-1],rowO [-1,0],rowO [1],rowO [0,1]] w1 (.map (ent w1 6).toArray 6) 2 (rowO [-1]) rfl);have hce:=zht [rowO [0],rowO [-1,1],rowO [-1],rowO [-1,0],rowO [1],rowO [0,1]] w1 (.map (ent w1 6).toArray 6);simp only[List.foldl_cons,List.foldl_nil,ent,sgn,rowO,List.take_zero,List.take_succ_cons,List.zipIdx_cons,List.zipIdx_nil,List.map_cons,List.map_nil,List.length_cons,List.length_nil,List.push_toArray,List.cons_append,List.nil_append,Nat.zero_add,Nat.reduceAdd] at u1 u2 u3 u4 u5 u6 lk hro hce)
  | (go_at_call 206;refine (Tryz.slices_Contains_int (w1.heap.size+1+1+1) 0 1 1 [-1] (cmpV a b).1 _ (by decide) (by decide) (fun j hj=>by rw[Nat.zero_add];exact hro j hj)).mono ?_;rintro e w2 ⟨rfl,rfl⟩;simp only[z25d])
  | (go_at_call 39;refine (hB _ _ (hld.ext (hx.trans hce))).mono ?_;rintro e w3 ⟨rfl,h3⟩;have hlt:w.heap.size+1+1<w1.heap.size:=z6l (p:=⟨w.heap.size+1+1,0,none⟩) z0;have h4:=hce.trans h3;have hz3:=(h4.block hlt).trans hz;obtain⟨y0,y1,y2,p0⟩:=zbi hz3))
 refine bodyPost_ret (v:=.agg #[.int .i64 (z27 (soB 13 (cmpV a b).1)).kind,.int .i64 (z27 (soB 13 (cmpV a b).1)).n,.string (z27 (soB 13 (cmpV a b).1)).s]) (by unfold results;go_simp) rfl ?_
 refine⟨rfl,?_⟩
 have h5:=hx.trans h4
 exact ((h5.setCell (by show w.heap.size≤w.heap.size+1+1;omega) _).setCell (by show w.heap.size≤w.heap.size+1+1;omega) _).setCell (by show w.heap.size≤w.heap.size+1+1;omega) _
theorem z25e (c:Int) : (List.take 2 ([-1,0] : List Int)).contains c=soB 14 c:=by
 simp only[List.take_succ_cons,List.take_zero,List.contains_cons,List.contains_nil,Bool.or_false]
 unfold soB
 rw[if_neg (by decide),if_neg (by decide),if_neg (by decide),if_pos rfl,Bool.eq_iff_iff]
 simp only[Bool.or_eq_true,beq_iff_eq,decide_eq_true_eq]
set_option maxHeartbeats 2000000 in
theorem z1sw (a b:Val) (w:World) (hld:Laid w) (hc:∀ W,Laid W→Calls Tryz.prog 152 #[aggV a,aggV b] W fun e w'=>e=.returned (.tuple #[.int .i64 (cmpV a b).1,.bool true])∧Ext W w')
  (hB:∀ W x,Laid W→Calls Tryz.prog 39 #[.bool x] W fun e w'=>e=.returned (.agg #[.int .i64 (z27 x).kind,.int .i64 (z27 x).n,.string (z27 x).s])∧Ext W w') :
  Calls Tryz.prog 164 #[.int .i64 14,aggV a,aggV b] w fun e w'=>e=.returned (aggV (z27 (soB 14 (cmpV a b).1)))∧Ext w w':=by
 unfold aggV at hc ⊢
 have mixed:Tryz.prog.follows .mixedOrders=true:=by kernel_rfl
 have hmm:=@run_makeMap Tryz.prog
 have hm:Tryz.prog.underlying 193=some (.map 3 42):=by kernel_rfl
 go_enter Tryz.func164,Tryz.ntmps164
 go_wp2_with (first
  | (go_at_call 152;refine (hc _ (hld.ext ((((Ext.refl w).alloc _).alloc _).alloc _))).mono ?_;rintro e w1 ⟨rfl,h1⟩;have hz:=zh8 h1;obtain⟨z0,z1,z2,q0⟩:=zbi hz;have hx:Ext w w1:=((((Ext.refl w).alloc _).alloc _).alloc _).trans h1;have u1:=updC hm [rowO [0]] w1 (ent w1 0).toArray 0 11 (.slice (some ⟨w1.heap.size+1,0,none⟩) 1 1) rfl;have u2:=updC hm [rowO [0],rowO [-1,1]] w1 (ent w1 1).toArray 1 12 (.slice (some ⟨w1.heap.size+1+1,0,none⟩) 2 2) rfl;have u3:=updC hm [rowO [0],rowO [-1,1],rowO [-1]] w1 (ent w1 2).toArray 2 13 (.slice (some ⟨w1.heap.size+1+1+1,0,none⟩) 1 1) rfl;have u4:=updC hm [rowO [0],rowO [-1,1],rowO [-1],rowO [-1,0]] w1 (ent w1 3).toArray 3 14 (.slice (some ⟨w1.heap.size+1+1+1+1,0,none⟩) 2 2) rfl;have u5:=updC hm [rowO [0],rowO [-1,1],rowO [-1],rowO [-1,0],rowO [1]] w1 (ent w1 4).toArray 4 15 (.slice (some ⟨w1.heap.size+1+1+1+1+1,0,none⟩) 1 1) rfl;have u6:=updC hm [rowO [0],rowO [-1,1],rowO [-1],rowO [-1,0],rowO [1],rowO [0,1]] w1 (ent w1 5).toArray 5 16 (.slice (some ⟨w1.heap.size+1+1+1+1+1+1,0,none⟩) 2 2) rfl;have lk:=z148 hm [rowO [0],rowO [-1,1],rowO [-1],rowO [-1,0],rowO [1],rowO [0,1]] w1 (ent w1 6).toArray 6 14 3 (.slice (some ⟨w1.heap.size+1+1+1+1,0,none⟩) 2 2) rfl;have hro:=zhs (zhr [rowO [0],rowO [-1,1],rowO [-1],rowO [-1,0],rowO [1],rowO [0,1]] w1 (.map (ent w1 6).toArray 6) 3 (rowO [-1,0]) rfl);have hce:=zht [rowO [0],rowO [-1,1],rowO [-1],rowO [-1,0],rowO [1],rowO [0,1]] w1 (.map (ent w1 6).toArray 6);simp only[List.foldl_cons,List.foldl_nil,ent,sgn,rowO,List.take_zero,List.take_succ_cons,List.zipIdx_cons,List.zipIdx_nil,List.map_cons,List.map_nil,List.length_cons,List.length_nil,List.push_toArray,List.cons_append,List.nil_append,Nat.zero_add,Nat.reduceAdd] at u1 u2 u3 u4 u5 u6 lk hro hce)
  | (go_at_call 206;refine (Tryz.slices_Contains_int (w1.heap.size+1+1+1+1) 0 2 2 [-1,0] (cmpV a b).1 _ (by decide) (by decide) (fun j hj=>by rw[Nat.zero_add];exact hro j hj)).mono ?_;rintro e w2 ⟨rfl,rfl⟩;simp only[z25e])
  | (go_at_call 39;refine (hB _ _ (hld.ext (hx.trans hce))).mono ?_;rintro e w3 ⟨rfl,h3⟩;have hlt:w.heap.size+1+1<w1.heap.size:=z6l (p:=⟨w.heap.size+1+1,0,none⟩) z0;have h4:=hce.trans h3;have hz3:=(h4.block hlt).trans hz;obtain⟨y0,y1,y2,p0⟩:=zbi hz3))
 refine bodyPost_ret (v:=.agg #[.int .i64 (z27 (soB 14 (cmpV a b).1)).kind,.int .i64 (z27 (soB 14 (cmpV a b).1)).n,.string (z27 (soB 14 (cmpV a b).1)).s]) (by unfold results;go_simp) rfl ?_
 refine⟨rfl,?_⟩
 have h5:=hx.trans h4
 exact ((h5.setCell (by show w.heap.size≤w.heap.size+1+1;omega) _).setCell (by show w.heap.size≤w.heap.size+1+1;omega) _).setCell (by show w.heap.size≤w.heap.size+1+1;omega) _
theorem z25f (c:Int) : (List.take 1 ([1] : List Int)).contains c=soB 15 c:=by
 simp only[List.take_succ_cons,List.take_zero,List.contains_cons,List.contains_nil,Bool.or_false]
 unfold soB
 rw[if_neg (by decide),if_neg (by decide),if_neg (by decide),if_neg (by decide),if_pos rfl,Bool.eq_iff_iff]
 simp only[Bool.or_eq_true,beq_iff_eq,decide_eq_true_eq]
set_option maxHeartbeats 2000000 in
theorem z1sx (a b:Val) (w:World) (hld:Laid w) (hc:∀ W,Laid W→Calls Tryz.prog 152 #[aggV a,aggV b] W fun e w'=>e=.returned (.tuple #[.int .i64 (cmpV a b).1,.bool true])∧Ext W w')
  (hB:∀ W x,Laid W→Calls Tryz.prog 39 #[.bool x] W fun e w'=>e=.returned (.agg #[.int .i64 (z27 x).kind,.int .i64 (z27 x).n,.string (z27 x).s])∧Ext W w') :
  Calls Tryz.prog 164 #[.int .i64 15,aggV a,aggV b] w fun e w'=>e=.returned (aggV (z27 (soB 15 (cmpV a b).1)))∧Ext w w':=by
 unfold aggV at hc ⊢
 have mixed:Tryz.prog.follows .mixedOrders=true:=by kernel_rfl
 have hmm:=@run_makeMap Tryz.prog
 have hm:Tryz.prog.underlying 193=some (.map 3 42):=by kernel_rfl
 go_enter Tryz.func164,Tryz.ntmps164
 go_wp2_with (first
  | (go_at_call 152;refine (hc _ (hld.ext ((((Ext.refl w).alloc _).alloc _).alloc _))).mono ?_;rintro e w1 ⟨rfl,h1⟩;have hz:=zh8 h1;obtain⟨z0,z1,z2,q0⟩:=zbi hz;have hx:Ext w w1:=((((Ext.refl w).alloc _).alloc _).alloc _).trans h1;have u1:=updC hm [rowO [0]] w1 (ent w1 0).toArray 0 11 (.slice (some ⟨w1.heap.size+1,0,none⟩) 1 1) rfl;have u2:=updC hm [rowO [0],rowO [-1,1]] w1 (ent w1 1).toArray 1 12 (.slice (some ⟨w1.heap.size+1+1,0,none⟩) 2 2) rfl;have u3:=updC hm [rowO [0],rowO [-1,1],rowO [-1]] w1 (ent w1 2).toArray 2 13 (.slice (some ⟨w1.heap.size+1+1+1,0,none⟩) 1 1) rfl;have u4:=updC hm [rowO [0],rowO [-1,1],rowO [-1],rowO [-1,0]] w1 (ent w1 3).toArray 3 14 (.slice (some ⟨w1.heap.size+1+1+1+1,0,none⟩) 2 2) rfl;have u5:=updC hm [rowO [0],rowO [-1,1],rowO [-1],rowO [-1,0],rowO [1]] w1 (ent w1 4).toArray 4 15 (.slice (some ⟨w1.heap.size+1+1+1+1+1,0,none⟩) 1 1) rfl;have u6:=updC hm [rowO [0],rowO [-1,1],rowO [-1],rowO [-1,0],rowO [1],rowO [0,1]] w1 (ent w1 5).toArray 5 16 (.slice (some ⟨w1.heap.size+1+1+1+1+1+1,0,none⟩) 2 2) rfl;have lk:=z148 hm [rowO [0],rowO [-1,1],rowO [-1],rowO [-1,0],rowO [1],rowO [0,1]] w1 (ent w1 6).toArray 6 15 4 (.slice (some ⟨w1.heap.size+1+1+1+1+1,0,none⟩) 1 1) rfl;have hro:=zhs (zhr [rowO [0],rowO [-1,1],rowO [-1],rowO [-1,0],rowO [1],rowO [0,1]] w1 (.map (ent w1 6).toArray 6) 4 (rowO [1]) rfl);have hce:=zht [rowO [0],rowO [-1,1],rowO [-1],rowO [-1,0],rowO [1],rowO [0,1]] w1 (.map (ent w1 6).toArray 6);simp only[List.foldl_cons,List.foldl_nil,ent,sgn,rowO,List.take_zero,List.take_succ_cons,List.zipIdx_cons,List.zipIdx_nil,List.map_cons,List.map_nil,List.length_cons,List.length_nil,List.push_toArray,List.cons_append,List.nil_append,Nat.zero_add,Nat.reduceAdd] at u1 u2 u3 u4 u5 u6 lk hro hce)
  | (go_at_call 206;refine (Tryz.slices_Contains_int (w1.heap.size+1+1+1+1+1) 0 1 1 [1] (cmpV a b).1 _ (by decide) (by decide) (fun j hj=>by rw[Nat.zero_add];exact hro j hj)).mono ?_;rintro e w2 ⟨rfl,rfl⟩;simp only[z25f])
  | (go_at_call 39;refine (hB _ _ (hld.ext (hx.trans hce))).mono ?_;rintro e w3 ⟨rfl,h3⟩;have hlt:w.heap.size+1+1<w1.heap.size:=z6l (p:=⟨w.heap.size+1+1,0,none⟩) z0;have h4:=hce.trans h3;have hz3:=(h4.block hlt).trans hz;obtain⟨y0,y1,y2,p0⟩:=zbi hz3))
 refine bodyPost_ret (v:=.agg #[.int .i64 (z27 (soB 15 (cmpV a b).1)).kind,.int .i64 (z27 (soB 15 (cmpV a b).1)).n,.string (z27 (soB 15 (cmpV a b).1)).s]) (by unfold results;go_simp) rfl ?_
 refine⟨rfl,?_⟩
 have h5:=hx.trans h4
 exact ((h5.setCell (by show w.heap.size≤w.heap.size+1+1;omega) _).setCell (by show w.heap.size≤w.heap.size+1+1;omega) _).setCell (by show w.heap.size≤w.heap.size+1+1;omega) _
theorem z25g (c:Int) : (List.take 2 ([0,1] : List Int)).contains c=soB 16 c:=by
 simp only[List.take_succ_cons,List.take_zero,List.contains_cons,List.contains_nil,Bool.or_false]
 unfold soB
 rw[if_neg (by decide),if_neg (by decide),if_neg (by decide),if_neg (by decide),if_neg (by decide),Bool.eq_iff_iff]
 simp only[Bool.or_eq_true,beq_iff_eq,decide_eq_true_eq]
set_option maxHeartbeats 2000000 in
theorem z1sy (a b:Val) (w:World) (hld:Laid w) (hc:∀ W,Laid W→Calls Tryz.prog 152 #[aggV a,aggV b] W fun e w'=>e=.returned (.tuple #[.int .i64 (cmpV a b).1,.bool true])∧Ext W w')
  (hB:∀ W x,Laid W→Calls Tryz.prog 39 #[.bool x] W fun e w'=>e=.returned (.agg #[.int .i64 (z27 x).kind,.int .i64 (z27 x).n,.string (z27 x).s])∧Ext W w') :
  Calls Tryz.prog 164 #[.int .i64 16,aggV a,aggV b] w fun e w'=>e=.returned (aggV (z27 (soB 16 (cmpV a b).1)))∧Ext w w':=by
 unfold aggV at hc ⊢
 have mixed:Tryz.prog.follows .mixedOrders=true:=by kernel_rfl
 have hmm:=@run_makeMap Tryz.prog
 have hm:Tryz.prog.underlying 193=some (.map 3 42):=by kernel_rfl
 go_enter Tryz.func164,Tryz.ntmps164
 go_wp2_with (first
  | (go_at_call 152;refine (hc _ (hld.ext ((((Ext.refl w).alloc _).alloc _).alloc _))).mono ?_;rintro e w1 ⟨rfl,h1⟩;have hz:=zh8 h1;obtain⟨z0,z1,z2,q0⟩:=zbi hz;have hx:Ext w w1:=((((Ext.refl w).alloc _).alloc _).alloc _).trans h1;have u1:=updC hm [rowO [0]] w1 (ent w1 0).toArray 0 11 (.slice (some ⟨w1.heap.size+1,0,none⟩) 1 1) rfl;have u2:=updC hm [rowO [0],rowO [-1,1]] w1 (ent w1 1).toArray 1 12 (.slice (some ⟨w1.heap.size+1+1,0,none⟩) 2 2) rfl;have u3:=updC hm [rowO [0],rowO [-1,1],rowO [-1]] w1 (ent w1 2).toArray 2 13 (.slice (some ⟨w1.heap.size+1+1+1,0,none⟩) 1 1) rfl;have u4:=updC hm [rowO [0],rowO [-1,1],rowO [-1],rowO [-1,0]] w1 (ent w1 3).toArray 3 14 (.slice (some ⟨w1.heap.size+1+1+1+1,0,none⟩) 2 2) rfl;have u5:=updC hm [rowO [0],rowO [-1,1],rowO [-1],rowO [-1,0],rowO [1]] w1 (ent w1 4).toArray 4 15 (.slice (some ⟨w1.heap.size+1+1+1+1+1,0,none⟩) 1 1) rfl;have u6:=updC hm [rowO [0],rowO [-1,1],rowO [-1],rowO [-1,0],rowO [1],rowO [0,1]] w1 (ent w1 5).toArray 5 16 (.slice (some ⟨w1.heap.size+1+1+1+1+1+1,0,none⟩) 2 2) rfl;have lk:=z148 hm [rowO [0],rowO [-1,1],rowO [-1],rowO [-1,0],rowO [1],rowO [0,1]] w1 (ent w1 6).toArray 6 16 5 (.slice (some ⟨w1.heap.size+1+1+1+1+1+1,0,none⟩) 2 2) rfl;have hro:=zhs (zhr [rowO [0],rowO [-1,1],rowO [-1],rowO [-1,0],rowO [1],rowO [0,1]] w1 (.map (ent w1 6).toArray 6) 5 (rowO [0,1]) rfl);have hce:=zht [rowO [0],rowO [-1,1],rowO [-1],rowO [-1,0],rowO [1],rowO [0,1]] w1 (.map (ent w1 6).toArray 6);simp only[List.foldl_cons,List.foldl_nil,ent,sgn,rowO,List.take_zero,List.take_succ_cons,List.zipIdx_cons,List.zipIdx_nil,List.map_cons,List.map_nil,List.length_cons,List.length_nil,List.push_toArray,List.cons_append,List.nil_append,Nat.zero_add,Nat.reduceAdd] at u1 u2 u3 u4 u5 u6 lk hro hce)
  | (go_at_call 206;refine (Tryz.slices_Contains_int (w1.heap.size+1+1+1+1+1+1) 0 2 2 [0,1] (cmpV a b).1 _ (by decide) (by decide) (fun j hj=>by rw[Nat.zero_add];exact hro j hj)).mono ?_;rintro e w2 ⟨rfl,rfl⟩;simp only[z25g])
  | (go_at_call 39;refine (hB _ _ (hld.ext (hx.trans hce))).mono ?_;rintro e w3 ⟨rfl,h3⟩;have hlt:w.heap.size+1+1<w1.heap.size:=z6l (p:=⟨w.heap.size+1+1,0,none⟩) z0;have h4:=hce.trans h3;have hz3:=(h4.block hlt).trans hz;obtain⟨y0,y1,y2,p0⟩:=zbi hz3))
 refine bodyPost_ret (v:=.agg #[.int .i64 (z27 (soB 16 (cmpV a b).1)).kind,.int .i64 (z27 (soB 16 (cmpV a b).1)).n,.string (z27 (soB 16 (cmpV a b).1)).s]) (by unfold results;go_simp) rfl ?_
 refine⟨rfl,?_⟩
 have h5:=hx.trans h4
 exact ((h5.setCell (by show w.heap.size≤w.heap.size+1+1;omega) _).setCell (by show w.heap.size≤w.heap.size+1+1;omega) _).setCell (by show w.heap.size≤w.heap.size+1+1;omega) _
theorem z1pp {St:Nat→Nat→Prop} {w:World} {v:Value} {a:Val} (h:DRel Tryz.prog En St w v (.d (.agg (enc .val a)))) : v=aggV a∧WI a.kind∧WI a.n∧WStr a.s:=by
 obtain⟨arr,rfl,hall⟩:=h
 have e:arr=arr.toList.toArray:=Array.toArray_toList.symm
 rw[e]
 generalize arr.toList=l at hall
 match l,hall with
 | [x0,x1,x2],⟨h0,h1,h2,_⟩ =>
  have g0:VRel En St w x0 (.s (.int .i64 a.kind)):=h0
  have g1:VRel En St w x1 (.s (.int .i64 a.n)):=h1
  have g2:VRel En St w x2 (.s (.string a.s)):=h2
  cases g0 with
  | s _ k0=>cases g1 with
   | s _ k1=>cases g2 with
    | s _ k2=>exact⟨rfl,oneC_i64.1 k0,oneC_i64.1 k1,oneC_str.1 k2⟩
theorem z1ue {St:Nat→Nat→Prop} {w:World} {a:Val} (h1:WI a.kind) (h2:WI a.n) (h3:WStr a.s) : DRel Tryz.prog En St w (aggV a) (.d (.agg (enc .val a))) :=
 ⟨_,rfl,.s _ (oneC_i64.2 h1),.s _ (oneC_i64.2 h2),.s _ (oneC_str.2 h3),trivial⟩
theorem z1m7 {a b:Val} (ha:WI a.kind∧WI a.n∧WStr a.s) (hb:WI b.kind∧WI b.n∧WStr b.s) (W:World) (hlW:Laid W) : Calls Tryz.prog 152 #[aggV a,aggV b] W fun e w'=>e=.returned (.tuple #[.int .i64 (cmpV a b).1,.bool (cmpV a b).2])∧Ext W w':=by
 have hF:z5i [.d (.agg (enc .val a)),.d (.agg (enc .val b))]=some ([],z4o (z1u a b),z4p (z1u a b)):=by
  unfold z5i
  simp only[zfq]
  rfl
 have hc:=(zh5 _ _ _ _ hF (by simp)).1 W (fun _ _=>False) [aggV a,aggV b] (fun _ _ h=>h.elim) ⟨z1ue ha.1 ha.2.1 ha.2.2,z1ue hb.1 hb.2.1 hb.2.2,trivial⟩ hlW
 refine hc.mono ?_
 rintro e w' ⟨v,rfl,hx,g,_,_,_,hr,_⟩
 refine⟨?_,hx⟩
 rw[z18y] at hr
 obtain⟨arr,rfl,hall⟩:=hr
 have e:arr=arr.toList.toArray:=Array.toArray_toList.symm
 rw[e]
 generalize arr.toList=l at hall
 match l,hall with
 | [x0,x1],⟨h0,h1,_⟩ =>
  obtain⟨rfl,_⟩:=h0
  obtain⟨rfl,_⟩:=h1
  rfl
theorem zes (W:World) (x:Bool) (hlW:Laid W) : Calls Tryz.prog 39 #[.bool x] W fun e w'=>e=.returned (.agg #[.int .i64 (z27 x).kind,.int .i64 (z27 x).n,.string (z27 x).s])∧Ext W w':=by
 have hF:z7w [.d (.v (cb x))]=some ([],zp5 (z2z x),zp6 (z2z x)):=by
  unfold z7w
  simp only[z254]
  rfl
 have hc:=(zmm _ _ _ _ hF (by simp)).1 W (fun _ _=>False) [.bool x] (fun _ _ h=>h.elim) ⟨.s _ rfl,trivial⟩ hlW
 refine hc.mono ?_
 rintro e w' ⟨v,rfl,hx,g,_,_,_,hr,_⟩
 refine⟨?_,hx⟩
 rw[zqu] at hr
 obtain⟨arr,rfl,hall⟩:=hr
 have e:arr=arr.toList.toArray:=Array.toArray_toList.symm
 rw[e]
 generalize arr.toList=l at hall
 match l,hall with
 | [x0,x1,x2],⟨h0,h1,h2,_⟩ =>
  obtain⟨rfl,_⟩:=h0
  obtain⟨rfl,_⟩:=h1
  obtain⟨rfl,_⟩:=h2
  rfl
theorem z1wj (op:Int) (a b:Val) : WI (cmpO op a b).kind∧WI (cmpO op a b).n∧WStr (cmpO op a b).s:=by
 unfold cmpO z27 z7
 split
 ·refine⟨by simp only;omega,?_,by show (0:Nat)≤_;omega⟩
  simp only
  split<;>omega
 ·exact⟨by simp only;omega,by simp only;omega,by show (0:Nat)≤_;omega⟩
theorem zm1 : FnOK 164 z70:=by
 intro args ob rs os h hob
 unfold z70 at h
 split at h
 ·rename_i x0 x1 x2
  simp only[Option.bind_eq_some_iff,Option.some.injEq,Prod.mk.injEq] at h
  obtain⟨op,e0,a,e1,b,e2,rfl,rfl,rfl⟩:=h
  obtain rfl:=z1t e0
  obtain rfl:=z18 e1
  obtain rfl:=z18 e2
  refine⟨?_,zb Tryz.func164 (by kernel_rfl) (by kernel_rfl)⟩
  have hr:=hob _ (List.mem_singleton.2 rfl)
  intro w St vs hbd hvs hld
  match vs,hvs with
  | [v0,v1,v2],⟨h0,h1,h2,_⟩ =>
   obtain⟨rfl,-⟩:=zot h0
   obtain⟨rfl,ha⟩:=z1pp h1
   obtain⟨rfl,hb⟩:=z1pp h2
   have hc:=z1m7 ha hb
   have main:Calls Tryz.prog 164 #[.int .i64 op,aggV a,aggV b] w fun e w'=>e=.returned (aggV (cmpO op a b))∧Ext w w':=by
    unfold cmpO
    cases hk : (cmpV a b).2
    ·rw[if_neg (by decide)]
     rw[hk] at hc
     exact z1m6 op a b w hk hld hc
    ·rw[if_pos rfl]
     rw[hk] at hc
     have hcase:op=11∨op=12∨op=13∨op=14∨op=15∨op=16:=by omega
     rcases hcase with rfl | rfl | rfl | rfl | rfl | rfl
     ·exact z1st a b w hld hc zes
     ·exact z1su a b w hld hc zes
     ·exact z1sv a b w hld hc zes
     ·exact z1sw a b w hld hc zes
     ·exact z1sx a b w hld hc zes
     ·exact z1sy a b w hld hc zes
   refine main.mono ?_
   rintro e w' ⟨rfl,hx⟩
   obtain⟨k0,k1,k2⟩:=z1wj op a b
   let gg : G:={ β:=fun _=>0,lb:=fun _=>False,ω:=fun _ _=>none,tk:=fun _=>(none,0) }
   exact⟨_,rfl,hx,gg,fun _ h=>h,fun b o x _ h=>by simp [gg] at h,fun b o x h=>by simp [gg] at h,⟨_,rfl,⟨rfl,oneC_i64.2 k0⟩,⟨rfl,oneC_i64.2 k1⟩,⟨rfl,oneC_str.2 k2⟩,trivial⟩,fun k o h=>by simp at h⟩
 ·simp at h
end Go.Proofs.YtjfpbchdcbhfgaaGreat.B
namespace Go.Proofs.YtjfpbchdcbhfgaaGreat.B
open Go Go.RowKit
set_option maxRecDepth 1000000
def zp9 (s:ByteArray) (j:Nat) : UInt8:=s.data.toList.getD j 0
structure RowT (w:World) (s:ByteArray) (f b:Int) (k:Nat) (wr:World) : Prop where
 ext : Ext w wr
 cell : ∀ j,j<s.size→wr.cell? ⟨w.heap.size,j,none⟩=some (.int .u8 ((if j<k then zng f b (zp9 s j) else zp9 s j).toNat:Nat))
 fr : ∀ j,j<s.size→wr.frozen? ⟨w.heap.size,j,none⟩=false
theorem z1zc (w:World) (e:TypeId) (s:ByteArray) : Ext w (Lib.bytesWorld w e s):=by
 have h:Ext w ((w.drew.alloc (.cells (Lib.bytesCells w e s) e))):=((Ext.refl w).drew).alloc _
 have hs:=Lib.bytesWorld_size w e s
 refine⟨rfl,rfl,rfl,by omega,fun k hk=>Lib.bytesWorld_at_old w e s k hk⟩
theorem z1wk (w:World) (e:TypeId) (s:ByteArray) (f b:Int) : RowT w s f b 0 (Lib.bytesWorld w e s) where
 ext:=z1zc w e s
 cell j hj:=by
  rw[Lib.bytesWorld_cell w e s j hj,if_neg (by omega)]
  rfl
 fr j hj:=by
  unfold World.frozen?
  simp only[Lib.bytesWorld_at_new]
  have : s.size≤(Lib.bytesCells w e s).size:=by
   unfold Lib.bytesCells
   rw[Array.size_append,Array.size_map]
   exact Nat.le_add_right _ _
  simp only[Bool.and_eq_false_iff,decide_eq_false_iff_not]
  omega
theorem RowT.step {w wr:World} {s:ByteArray} {f b:Int} {k:Nat} (h:RowT w s f b k wr) (hk:k<s.size) (v:Value) (hv:v=.int .u8 ((zng f b (zp9 s k)).toNat:Nat)) : RowT w s f b (k+1) (wr.setCell ⟨w.heap.size,k,none⟩ v) where
 ext:=h.ext.setCell (Nat.le_refl _) _
 cell j hj:=by
  by_cases e : j=k
  ·subst e
   rw[World.cell?_setCell_same _ _ _ (h.cell j hj),if_pos (by omega),hv]
  ·rw[World.cell?_setCell_other _ _ _ _ (by simp only[ne_eq,Addr.mk.injEq,not_and];omega),h.cell j hj]
   by_cases hjk : j<k
   ·rw[if_pos hjk,if_pos (by omega)]
   ·rw[if_neg hjk,if_neg (by omega)]
 fr j hj:=by rw[World.frozen?_setCell];exact h.fr j hj
theorem RowT.stay {w wr:World} {s:ByteArray} {f b:Int} {k:Nat} (h:RowT w s f b k wr) (hv:zng f b (zp9 s k)=zp9 s k) : RowT w s f b (k+1) wr where
 ext:=h.ext
 cell j hj:=by
  rw[h.cell j hj]
  by_cases e : j=k
  ·subst e;rw[if_neg (by omega),if_pos (by omega),hv]
  ·by_cases hjk : j<k
   ·rw[if_pos hjk,if_pos (by omega)]
   ·rw[if_neg hjk,if_neg (by omega)]
 fr:=h.fr
theorem z1sz (s:ByteArray) (f b:Int) (w:World) (hs:s.size≤2000000) : Calls Tryz.prog 212 #[.string s,.int .u8 f,.int .i64 b] w fun e w'=>e=.returned (.string (ziy s f b))∧Ext w w':=by
 have h9:Tryz.prog.underlying 9=some .string:=by kernel_rfl
 have hB:Tryz.prog.underlying 201=some (.slice 5):=by kernel_rfl
 have h5:Tryz.prog.underlying 5=some (.int .u8):=by kernel_rfl
 have hconv:=Lib.run_convert_string_bytes (P:=Tryz.prog) w 9 201 5 s h9 hB h5
 have hst:=Lib.hid (z1wk w 5 s f b)
 generalize Lib.bytesWorld w 5 s=w1 at hconv hst
 generalize grownCap w s.size 0 5=cp at hconv
 go_enter Tryz.func212,Tryz.ntmps212
 go_wp2_with fail
 go_loopw [14] (fun i wr=>∃ k : Nat,k≤s.size∧i=.int .i64 k∧RowT w s f b k wr) (fun i _=>s.size - (intOf i).toNat)
 case atStart=>exact⟨0,by omega,rfl,hst.out⟩
 case round =>
  obtain⟨k,hk,rfl,hr⟩:=hrel
  by_cases hlt : k<s.size
  ·have e1:=hr.cell k hlt
   have e2:=hr.fr k hlt
   rw[if_neg (Nat.lt_irrefl _)] at e1
   have HR:=Lib.hid hr
   clear hr
   generalize hc : zp9 s k=c at e1
   go_wp2_with fail
   ·refine⟨⟨k+1,by omega,by simp,HR.out.step hlt _ ?_⟩,by simp [intOf];omega⟩
    rename_i h1 h2
    unfold zng
    rw[hc,if_pos ⟨h1,by rw[IntKind.wrap_u8];exact h2⟩,IntKind.wrap_u8]
    have e:IntKind.i64.wrap ((c.toNat:Int)+b)=wrap64 ((c.toNat:Int)+b):=by rw[IntKind.wrap_i64];unfold wrap64;rfl
    rw[e]
    generalize wrap64 ((c.toNat:Int)+b)=y
    congr 1
    have h3:(UInt8.ofNat (y % 256).toNat).toNat=(y % 256).toNat % 256:=UInt8.toNat_ofNat'
    rw[h3]
    omega
   ·refine⟨⟨k+1,by omega,by simp,HR.out.stay ?_⟩,by simp [intOf];omega⟩
    unfold zng
    rw[hc,if_neg]
    rintro ⟨_,h⟩
    rw[IntKind.wrap_u8] at h
    omega
   ·refine⟨⟨k+1,by omega,by simp,HR.out.stay ?_⟩,by simp [intOf];omega⟩
    unfold zng
    rw[hc,if_neg]
    rintro ⟨h,_⟩
    omega
  ·have hke:k=s.size:=by omega
   subst hke
   have hback:=run_convert_bytes_back (P:=Tryz.prog) wr 201 9 5 ⟨w.heap.size,0,none⟩ cp (s.toList.map (zng f b)) hB h5 h9 (fun j hj=>by
    rw[List.length_map,z38] at hj
    have:=hr.cell j hj
    rw[if_pos hj] at this
    have ea:(⟨w.heap.size,0,none⟩ : Addr).add j=⟨w.heap.size,j,none⟩:=by unfold Addr.add;split<;>simp_all
    rw[ea,this,List.getElem_map]
    congr 4
    unfold zp9
    rw[List.getD_eq_getElem?_getD,List.getElem?_eq_getElem (by rw[Array.length_toList];exact hj),Option.getD_some]
    simp only[ByteArray.toList_eq])
   rw[List.length_map,z38] at hback
   have hx:=hr.ext
   clear hr
   go_wp2_with fail
   go_ret
   exact⟨rfl,hx⟩
theorem z19e : FnOK 212 zdi:=by
 intro args ob rs os h hob
 unfold zdi at h
 split at h
 ·rename_i x0 x1 x2
  simp only[Option.bind_eq_some_iff,Option.some.injEq,Prod.mk.injEq] at h
  obtain⟨s,e0,f,e1,b,e2,rfl,rfl,rfl⟩:=h
  obtain rfl:=z57 e0
  obtain rfl:=z1t e1
  obtain rfl:=z1t e2
  refine⟨?_,zb Tryz.func212 (by kernel_rfl) (by kernel_rfl)⟩
  have hr:=hob _ (List.mem_singleton.2 rfl)
  intro w St vs hbd hvs hld
  match vs,hvs with
  | [v0,v1,v2],⟨h0,h1,h2,_⟩ =>
   obtain⟨rfl,hs⟩:=zos h0
   obtain⟨rfl,-⟩:=zot h1
   obtain⟨rfl,-⟩:=zot h2
   refine (z1sz s f b w hr).mono ?_
   rintro e w' ⟨rfl,hx⟩
   let gg : G:={ β:=fun _=>0,lb:=fun _=>False,ω:=fun _ _=>none,tk:=fun _=>(none,0) }
   exact⟨_,rfl,hx,gg,fun _ h=>h,fun b o x _ h=>by simp [gg] at h,fun b o x h=>by simp [gg] at h,⟨rfl,oneC_str.2 (by rw[zx9];exact hs)⟩,fun k o h=>by simp at h⟩
 ·simp at h
end Go.Proofs.YtjfpbchdcbhfgaaGreat.B
