/- Part 11 of the proof: Sconjspec Ssorted Lown Lclone Lput Shelf Lsort. -/
import Derived.Shelf.SlicesE.Clone
import Derived.Sort.Grow
import Derived.Shelf.Small.Bits
import Derived.Shelf.Small.Wraps
import Derived.Shelf.Strconv.Itoa0
import Derived.Shelf.Sort.Plain
import Derived.Shelf.GgClosure.StringsIndexFunc
import Derived.Ground.GgwProg
import Derived.Shelf.GgClosure.StringsIndexFuncTop
import Derived.Shelf.GgClosure.StringsRunes
import Derived.Shelf.Strings.FuncGrows
import Derived.Shelf.Slices.Turned
import Derived.Ground.Names2Prog
import Derived.Shelf.Slices.CompactI
import Derived.Shelf.Slices.SearchI
import Derived.Shelf.Slices.Cells
import Derived.Shelf.Slices.In.SortNone
import Derived.Test.YtolbngdhgcbmgaaGreatProg
import Derived.Test.YtolbngdhgcbmgaaGreatPonce10
namespace Go.Proofs.YtolbngdhgcbmgaaGreat.B
open Go Go.RowKit
set_option maxRecDepth 100000
noncomputable section
attribute [local irreducible] awp ctxK itersK iterK retQ retGQ awf ctxF loopF
mutual
def mapT (p:Term→Int→Term) (down:Int) : Term→Term
  | .mk op v depth at_ name kids sub type=>.mk op v depth (if op=2 then (p (.mk op v depth at_ name kids sub type) down).at_ else at_) name (mapTs p down kids) (mapRs p (down+1) sub) type
def mapTs (p:Term→Int→Term) (down:Int) : List Term→List Term
  | []=>[]
  | t::r=>mapT p down t::mapTs p down r
def mapA (p:Term→Int→Term) (down:Int) : Agg→Agg
  | .mk name distinct t=>.mk name distinct (mapTs p down t)
def mapAs (p:Term→Int→Term) (down:Int) : List Agg→List Agg
  | []=>[]
  | t::r=>mapA p down t::mapAs p down r
def mapR (p:Term→Int→Term) (down:Int) : Rel→Rel
  | .mk op table cols kids terms aggs keys limit skip all rows=>.mk op table cols (mapRs p down kids) (mapTs p down terms) (mapAs p down aggs) keys limit skip all rows
def mapRs (p:Term→Int→Term) (down:Int) : List Rel→List Rel
  | []=>[]
  | t::r=>mapR p down t::mapRs p down r
end
mutual
def inT (d:Int) : Term→List Int
  | .mk op _ depth at_ _ kids sub _=>(if op=2∧depth=d then [at_] else [])++inTs d kids++inRs (d+1) sub
def inTs (d:Int) : List Term→List Int
  | []=>[]
  | t::r=>inT d t++inTs d r
def inA (d:Int) : Agg→List Int
  | .mk _ _ t=>inTs d t
def inAs (d:Int) : List Agg→List Int
  | []=>[]
  | t::r=>inA d t++inAs d r
def inR (d:Int) : Rel→List Int
  | .mk _ _ _ kids terms aggs _ _ _ _ _=>inTs d terms++inAs d aggs++inRs d kids
def inRs (d:Int) : List Rel→List Int
  | []=>[]
  | t::r=>inR d t++inRs d r
end
theorem mapTs_map (p:Term→Int→Term) (down:Int) : ∀ l,mapTs p down l=l.map (mapT p down)
  | []=>rfl
  | t::r=>by simp only[mapTs,List.map_cons,mapTs_map p down r]
theorem mapAs_map (p:Term→Int→Term) (down:Int) : ∀ l,mapAs p down l=l.map (mapA p down)
  | []=>rfl
  | t::r=>by simp only[mapAs,List.map_cons,mapAs_map p down r]
theorem mapRs_map (p:Term→Int→Term) (down:Int) : ∀ l,mapRs p down l=l.map (mapR p down)
  | []=>rfl
  | t::r=>by simp only[mapRs,List.map_cons,mapRs_map p down r]
theorem mapT_eq (p:Term→Int→Term) (down:Int) (t:Term) : mapT p down t=.mk t.op t.v t.depth (if t.op=2 then (p t down).at_ else t.at_) t.name (mapTs p down t.kids) (mapRs p (down+1) t.sub) t.type:=by cases t;simp only[mapT];rfl
theorem mapA_eq (p:Term→Int→Term) (down:Int) (t:Agg) : mapA p down t=.mk t.name t.distinct (mapTs p down t.t):=by cases t;simp only[mapA];rfl
theorem mapR_eq (p:Term→Int→Term) (down:Int) (r:Rel) : mapR p down r=.mk r.op r.table r.cols (mapRs p down r.kids) (mapTs p down r.terms) (mapAs p down r.aggs) r.keys r.limit r.skip r.all r.rows:=by cases r;simp only[mapR];rfl
theorem inT_eq (d:Int) (t:Term) : inT d t=(if t.op=2∧t.depth=d then [t.at_] else [])++inTs d t.kids++inRs (d+1) t.sub:=by cases t;simp only[inT];rfl
theorem inA_eq (d:Int) (t:Agg) : inA d t=inTs d t.t:=by cases t;simp only[inA];rfl
theorem inR_eq (d:Int) (r:Rel) : inR d r=inTs d r.terms++inAs d r.aggs++inRs d r.kids:=by cases r;simp only[inR];rfl
mutual
theorem inT_len : ∀ (d:Int) (t:Term),(inT d t).length≤t.sz
  | d,.mk op v depth at_ name kids sub type=>by
    have h1:=inTs_len d kids
    have h2:=inRs_len (d+1) sub
    simp only[inT,Term.sz,List.length_append]
    split
    · simp only[List.length_singleton];omega
    · simp only[List.length_nil];omega
theorem inTs_len : ∀ (d:Int) (l:List Term),(inTs d l).length≤szTs l
  | _,[]=>by simp [inTs,szTs]
  | d,t::r=>by have:=inT_len d t;have:=inTs_len d r;simp only[inTs,szTs,List.length_append];omega
theorem inA_len : ∀ (d:Int) (t:Agg),(inA d t).length≤t.sz
  | d,.mk _ _ l=>by have:=inTs_len d l;simp only[inA,Agg.sz];omega
theorem inAs_len : ∀ (d:Int) (l:List Agg),(inAs d l).length≤szAs l
  | _,[]=>by simp [inAs,szAs]
  | d,t::r=>by have:=inA_len d t;have:=inAs_len d r;simp only[inAs,szAs,List.length_append];omega
theorem inR_len : ∀ (d:Int) (t:Rel),(inR d t).length≤t.sz
  | d,.mk _ _ _ kids terms aggs _ _ _ _ rows=>by have:=inRs_len d kids;have:=inTs_len d terms;have:=inAs_len d aggs;simp only[inR,Rel.sz,List.length_append];omega
theorem inRs_len : ∀ (d:Int) (l:List Rel),(inRs d l).length≤szRs l
  | _,[]=>by simp [inRs,szRs]
  | d,t::r=>by have:=inR_len d t;have:=inRs_len d r;simp only[inRs,szRs,List.length_append];omega
end
def setAt (t:Term) (n:Int) : Term:=.mk t.op t.v t.depth n t.name t.kids t.sub t.type
def KeepsAt (p:Term→Int→Term) : Prop:=∀ c d,p c d=setAt c (p c d).at_
theorem term_eta (t:Term) : Term.mk t.op t.v t.depth t.at_ t.name t.kids t.sub t.type=t:=by cases t;rfl
theorem agg_eta (t:Agg) : Agg.mk t.name t.distinct t.t=t:=by cases t;rfl
theorem rel_eta (r:Rel) : Rel.mk r.op r.table r.cols r.kids r.terms r.aggs r.keys r.limit r.skip r.all r.rows=r:=by cases r;rfl
theorem set_getD {α:Type} {l:List α} {i:Nat} {d:α} (h:i<l.length) : l.set i (l.getD i d)=l:=by
  rw[List.getD_eq_getElem?_getD,List.getElem?_eq_getElem h]
  exact List.set_getElem_self h
theorem drop_getD {α:Type} {l:List α} {i:Nat} {d:α} (h:i<l.length) : l.drop i=l.getD i d::l.drop (i+1):=by
  rw[List.getD_eq_getElem?_getD,List.getElem?_eq_getElem h]
  exact List.drop_eq_getElem_cons h
theorem inTs_fold (d:Int) : ∀ (l:List Term) (o:List Int),l.foldl (fun o x=>o++inT d x) o=o++inTs d l
  | [],o=>by simp [inTs]
  | x::l,o=>by rw[List.foldl_cons,inTs_fold d l];simp [inTs]
theorem inAs_fold (d:Int) : ∀ (l:List Agg) (o:List Int),l.foldl (fun o x=>o++inA d x) o=o++inAs d l
  | [],o=>by simp [inAs]
  | x::l,o=>by rw[List.foldl_cons,inAs_fold d l];simp [inAs]
theorem inRs_fold (d:Int) : ∀ (l:List Rel) (o:List Int),l.foldl (fun o x=>o++inR d x) o=o++inRs d l
  | [],o=>by simp [inRs]
  | x::l,o=>by rw[List.foldl_cons,inRs_fold d l];simp [inRs]
end
end Go.Proofs.YtolbngdhgcbmgaaGreat.B
namespace Go.Proofs.YtolbngdhgcbmgaaGreat.B
open Go Go.RowKit
set_option maxRecDepth 100000
noncomputable section
attribute [local irreducible] awp ctxK itersK iterK retQ retGQ awf ctxF loopF
def Rises (l:List Int) : Prop:=l.Pairwise fun a b=>a<b
theorem rises_uniq : ∀ {a b:List Int},Rises a→Rises b→(∀ x,x∈a↔x∈b)→a=b
  | [],[],_,_,_=>rfl
  | [],y::b,_,_,h=>absurd ((h y).2 List.mem_cons_self) (by simp)
  | x::a,[],_,_,h=>absurd ((h x).1 List.mem_cons_self) (by simp)
  | x::a,y::b,ha,hb,h=>by
    obtain⟨ha1,ha2⟩:=List.pairwise_cons.1 ha
    obtain⟨hb1,hb2⟩:=List.pairwise_cons.1 hb
    have hxy:x=y:=by
      rcases List.mem_cons.1 ((h x).1 List.mem_cons_self) with e | e
      · exact e
      · rcases List.mem_cons.1 ((h y).2 List.mem_cons_self) with e2 | e2
        · exact e2.symm
        · have h1:=hb1 x e
          have h2:=ha1 y e2
          exact absurd h1 (by omega)
    subst hxy
    congr 1
    refine rises_uniq ha2 hb2 fun z=>?_
    constructor
    · intro hz
      rcases List.mem_cons.1 ((h z).1 (List.mem_cons_of_mem _ hz)) with e | e
      · have:=ha1 z hz;exact absurd this (by omega)
      · exact e
    · intro hz
      rcases List.mem_cons.1 ((h z).2 (List.mem_cons_of_mem _ hz)) with e | e
      · have:=hb1 z hz;exact absurd this (by omega)
      · exact e
def insI (out:List Int) (x:Int) : List Int:=if x∈out then out else out.takeWhile (fun y=>decide (y<x))++x::out.dropWhile (fun y=>decide (y<x))
theorem insI_mem (out:List Int) (x y:Int) : y∈insI out x↔y∈out∨y=x:=by
  unfold insI
  split
  · rename_i h
    constructor
    · exact .inl
    · rintro (h1 | rfl)
      · exact h1
      · exact h
  · have e:=List.takeWhile_append_dropWhile (p:=fun y=>decide (y<x)) (l:=out)
    rw[List.mem_append,List.mem_cons]
    constructor
    · rintro (h1 | h1 | h1)
      · exact .inl (by rw[← e];exact List.mem_append_left _ h1)
      · exact .inr h1
      · exact .inl (by rw[← e];exact List.mem_append_right _ h1)
    · rintro (h1 | h1)
      · rw[← e,List.mem_append] at h1
        rcases h1 with h1 | h1
        · exact .inl h1
        · exact .inr (.inr h1)
      · exact .inr (.inl h1)
theorem takeW_all {p:Int→Bool} : ∀ (l:List Int),∀ u∈l.takeWhile p,p u=true
  | [],u,h=>by simp at h
  | y::l,u,h=>by
    rw[List.takeWhile_cons] at h
    split at h
    · rcases List.mem_cons.1 h with rfl | h
      · assumption
      · exact takeW_all l u h
    · simp at h
theorem insI_rises {out:List Int} (h:Rises out) (x:Int) : Rises (insI out x):=by
  unfold insI
  split
  · exact h
  · rename_i hx
    have e:=List.takeWhile_append_dropWhile (p:=fun y=>decide (y<x)) (l:=out)
    have h':=h
    rw[← e] at h'
    obtain⟨p1,p2,p3⟩:=List.pairwise_append.1 h'
    have hb:∀ u∈out.takeWhile (fun y=>decide (y<x)),u<x:=fun u hu=>by simpa using takeW_all out u hu
    have ha:∀ u∈out.dropWhile (fun y=>decide (y<x)),x<u:=by
      intro u hu
      cases hd : out.dropWhile (fun y=>decide (y<x)) with
      | nil=>rw[hd] at hu;simp at hu
      | cons y r =>
        have hy:¬ y<x:=by
          have:=List.head_dropWhile_not (p:=fun y=>decide (y<x)) (l:=out) (by rw[hd];simp)
          simp only[hd,List.head_cons,decide_eq_false_iff_not] at this
          exact this
        have hyx:y≠x:=fun e2=>hx (by rw[← e2,← e];refine List.mem_append_right _ ?_;rw[hd];exact List.mem_cons_self)
        rw[hd] at hu p2
        rcases List.mem_cons.1 hu with rfl | hu
        · omega
        · have:=(List.pairwise_cons.1 p2).1 u hu;omega
    refine List.pairwise_append.2 ⟨p1,List.pairwise_cons.2 ⟨ha,p2⟩,fun a haa b hbb=>?_⟩
    rcases List.mem_cons.1 hbb with rfl | hbb
    · exact hb a haa
    · have h1:=hb a haa;have h2:=ha b hbb;omega
def riseI (l:List Int) : List Int:=l.foldl insI []
theorem riseI_gen : ∀ (l out:List Int),Rises out→Rises (l.foldl insI out)∧∀ x,x∈l.foldl insI out↔x∈out∨x∈l
  | [],out,h=>⟨h,fun x=>by simp⟩
  | y::l,out,h=>by
    obtain⟨h1,h2⟩:=riseI_gen l (insI out y) (insI_rises h y)
    refine⟨h1,fun x=>?_⟩
    rw[List.foldl_cons,h2,insI_mem,List.mem_cons]
    constructor
    · rintro ((h3 | h3) | h3)
      · exact .inl h3
      · exact .inr (.inl h3)
      · exact .inr (.inr h3)
    · rintro (h3 | h3 | h3)
      · exact .inl (.inl h3)
      · exact .inl (.inr h3)
      · exact .inr h3
theorem riseI_rises (l:List Int) : Rises (riseI l):=(riseI_gen l [] List.Pairwise.nil).1
theorem riseI_mem (l:List Int) (x:Int) : x∈riseI l↔x∈l:=by unfold riseI;rw[(riseI_gen l [] List.Pairwise.nil).2];simp
theorem riseI_len (l:List Int) : (riseI l).length≤l.length:=by
  have : ∀ (l out:List Int),(l.foldl insI out).length≤out.length+l.length:=by
    intro l
    induction l with
    | nil=>intro out;simp
    | cons y l ih =>
      intro out
      have h1:=ih (insI out y)
      have h2:(insI out y).length≤out.length+1:=by
        unfold insI
        split
        · omega
        · have e:=congrArg List.length (List.takeWhile_append_dropWhile (p:=fun z=>decide (z<y)) (l:=out))
          rw[List.length_append] at e
          rw[List.length_append,List.length_cons];omega
      rw[List.foldl_cons,List.length_cons];omega
  have h3:=this l []
  unfold riseI
  simpa using h3
def snocI (acc:List Int) (x:Int) : List Int:=if acc.getLast? = some x then acc else acc++[x]
def compactI (l:List Int) : List Int:=l.foldl snocI []
def sortI (l:List Int) : List Int:=l.mergeSort fun x y=>decide (x≤y)
theorem sortI_mem (l:List Int) (x:Int) : x∈sortI l↔x∈l:=by unfold sortI;exact List.mem_mergeSort
theorem sortI_sorted (l:List Int) : (sortI l).Pairwise fun a b=>a≤b:=by
  have:=List.pairwise_mergeSort (le:=fun x y : Int=>decide (x≤y)) (fun a b c h1 h2=>by simp at h1 h2 ⊢;omega) (fun a b=>by simp;omega) l
  exact this.imp (fun h=>by simpa using h)
theorem compactI_gen : ∀ (l acc:List Int),(l.Pairwise fun a b=>a≤b)→Rises acc→(∀ a∈acc,∀ b∈l,a≤b)→Rises (l.foldl snocI acc)∧∀ x,x∈l.foldl snocI acc↔x∈acc∨x∈l
  | [],acc,_,h,_=>⟨h,fun x=>by simp⟩
  | y::l,acc,hl,h,hle=>by
    obtain⟨hl1,hl2⟩:=List.pairwise_cons.1 hl
    by_cases hy : acc.getLast? = some y
    · have hmem:y∈acc:=List.mem_of_getLast? hy
      have e:snocI acc y=acc:=by unfold snocI;rw[if_pos hy]
      obtain⟨h1,h2⟩:=compactI_gen l acc hl2 h (fun a ha b hb=>hle a ha b (List.mem_cons_of_mem _ hb))
      rw[List.foldl_cons,e]
      refine⟨h1,fun x=>?_⟩
      rw[h2,List.mem_cons]
      constructor
      · rintro (h3 | h3)
        · exact .inl h3
        · exact .inr (.inr h3)
      · rintro (h3 | rfl | h3)
        · exact .inl h3
        · exact .inl hmem
        · exact .inr h3
    · have e:snocI acc y=acc++[y]:=by unfold snocI;rw[if_neg hy]
      have hlt:∀ a∈acc,a<y:=by
        intro a ha
        have h1:=hle a ha y List.mem_cons_self
        rcases Int.lt_or_eq_of_le h1 with h2 | h2
        · exact h2
        · exfalso
          subst h2
          apply hy
          have hne:acc≠[]:=List.ne_nil_of_mem ha
          rw[List.getLast?_eq_some_getLast hne]
          congr 1
          have hlast:acc.getLast hne∈acc:=List.getLast_mem hne
          have h3:=hle _ hlast a List.mem_cons_self
          have h4:a≤acc.getLast hne:=by
            have hp:=h
            rw[← List.dropLast_concat_getLast hne] at hp ha
            rcases List.mem_append.1 ha with h5 | h5
            · have:=(List.pairwise_append.1 hp).2.2 a h5 _ List.mem_cons_self;omega
            · simp at h5;omega
          omega
      obtain⟨h1,h2⟩:=compactI_gen l (acc++[y]) hl2 (List.pairwise_append.2 ⟨h,List.pairwise_singleton _ _,fun a ha b hb=>by simp at hb;subst hb;exact hlt a ha⟩) (fun a ha b hb=>by
        rcases List.mem_append.1 ha with h3 | h3
        · exact hle a h3 b (List.mem_cons_of_mem _ hb)
        · simp at h3;subst h3;exact hl1 b hb)
      rw[List.foldl_cons,e]
      refine⟨h1,fun x=>?_⟩
      rw[h2,List.mem_append,List.mem_singleton,List.mem_cons]
      constructor
      · rintro ((h3 | h3) | h3)
        · exact .inl h3
        · exact .inr (.inl h3)
        · exact .inr (.inr h3)
      · rintro (h3 | h3 | h3)
        · exact .inl (.inl h3)
        · exact .inl (.inr h3)
        · exact .inr h3
theorem compact_sort (l:List Int) : compactI (sortI l)=riseI l:=by
  obtain⟨h1,h2⟩:=compactI_gen (sortI l) [] (sortI_sorted l) List.Pairwise.nil (by simp)
  refine rises_uniq h1 (riseI_rises l) fun x=>?_
  rw[riseI_mem]
  unfold compactI
  rw[h2,sortI_mem];simp
end
end Go.Proofs.YtolbngdhgcbmgaaGreat.B
namespace Go.Proofs.YtolbngdhgcbmgaaGreat.B
open Go Go.RowKit Go.Shelf
set_option maxRecDepth 1000000
def rowsOf (n z:Nat) (cv:Nat→Nat→Value) : List Value:=(List.range (n*z)).map fun q=>cv (q / z) (q % z)
theorem rowsOf_len (n z:Nat) (cv:Nat→Nat→Value) : (rowsOf n z cv).length=n*z:=by simp [rowsOf]
theorem rowsOf_get {n z:Nat} {cv:Nat→Nat→Value} (hz:0<z) {i j:Nat} (hi:i<n) (hj:j<z) : (rowsOf n z cv)[i*z+j]? = some (cv i j):=by
  have h:i*z+j<n*z:=by
    have : (i+1)*z≤n*z:=Nat.mul_le_mul_right _ hi
    rw[Nat.add_mul] at this;omega
  unfold rowsOf
  rw[List.getElem?_map,List.getElem?_range h]
  simp only[Option.map_some]
  rw[show (i*z+j) / z=i by rw[Nat.mul_comm,Nat.mul_add_div hz,Nat.div_eq_of_lt hj];omega,show (i*z+j) % z=j by rw[Nat.mul_comm,Nat.mul_add_mod,Nat.mod_eq_of_lt hj]]
theorem rowsOf_inv {n z:Nat} {cv:Nat→Nat→Value} {q:Nat} {u:Value} (h:(rowsOf n z cv)[q]? = some u) : ∃ i j,i<n∧j<z∧q=i*z+j∧u=cv i j:=by
  have hq:q<n*z:=by have:=(List.getElem?_eq_some_iff.1 h).1;rwa [rowsOf_len] at this
  have hz : 0 < z := by rcases Nat.eq_zero_or_pos z with e | e; · subst e; omega
                        · exact e
  refine⟨q / z,q % z,(Nat.div_lt_iff_lt_mul hz).2 hq,Nat.mod_lt _ hz,by rw[Nat.mul_comm];exact (Nat.div_add_mod q z).symm,?_⟩
  unfold rowsOf at h
  rw[List.getElem?_map,List.getElem?_range hq] at h
  simpa using h.symm
open Classical in
theorem ret_own {St:Nat→Nat→Prop} {w w':World} {v:Value} {e:TypeId} {τ:Ty} {xs:List (Den τ)} {news:List Value} (hext:Ext w w') (hbd:∀ b o,St b o→b<w.heap.size) (hlen:xs.length≤9223372036854775807)
    (hrow:w'.ownsRow w.heap.size e (sz τ) v xs.length news) (hrel:∀ i (hi:i<xs.length) j d,(enc τ xs[i])[j]? = some d→∃ u,news[i*sz τ+j]? = some u∧VRel En St w u d) :
    Ret Tryz.prog En St w w' v [.c (.ob 0 0)] [⟨0,τ,xs,some 0,true⟩]:=by
  refine⟨hext,?_⟩
  obtain⟨hnl,⟨rfl,hn0⟩ | ⟨gb,cap,cur,rfl,hge,hheap,hcap,hmax,hsz,htake⟩⟩:=hrow
  · have hx:xs=[]:=List.eq_nil_of_length_eq_zero hn0
    subst hx
    refine⟨⟨fun _=>0,fun _=>False,fun b o=>if St b o then some .st else none,fun _=>(none,0)⟩,fun _ h=>h,?_,?_,?_,?_⟩
    · intro b o x _ hx
      have hx':(if St b o then some Own.st else none)=some x:=hx
      split at hx'
      · rename_i hs;simp at hx';exact⟨hx'.symm,hs⟩
      · simp at hx'
    · intro b o x hx
      have hx':(if St b o then some Own.st else none)=some x:=hx
      split at hx'
      · rename_i hs;exact Nat.lt_of_lt_of_le (hbd b o hs) hext.le
      · simp at hx'
    · exact⟨rfl,_,rfl,Nat.le_refl _,fun _=>rfl⟩
    · intro k o ho
      cases k with
      | zero=>simp at ho;subst ho;exact⟨⟨⟨⟨Nat.le_refl _,by simp⟩,fun f hf=>by simp at hf;subst hf;exact Nat.le_refl _⟩,fun h=>absurd h (Nat.lt_irrefl 0)⟩,rfl⟩
      | succ k=>simp at ho
  · have hcell:∀ q,q<cap*sz τ→w'.cell? ⟨gb,q,none⟩=cur[q]? ∧ (∃ u,w'.cell? ⟨gb,q,none⟩=some u)∧stuck w' ⟨gb,q,none⟩=false:=by
      intro q hq
      have h1:w'.cell? ⟨gb,q,none⟩=cur[q]?:=by simp [World.cell?,hheap]
      refine⟨h1,⟨cur[q]'(by omega),by rw[h1];exact Array.getElem?_eq_getElem _⟩,?_⟩
      simp [stuck,World.shape?,World.frozen?,hheap]
    have hgb:gb<w'.heap.size:=(Array.getElem?_eq_some_iff.1 hheap).1
    let g : G:=⟨fun _=>0,fun _=>False,fun b o=>if b<w.heap.size then (if St b o then some .st else none) else if b=gb∧o<cap*sz τ then some (.obj 0) else none,fun _=>(some ⟨gb,0,none⟩,cap)⟩
    have hω:∀ o,o<cap*sz τ→g.ω gb o=some (.obj 0):=fun o ho=>by
      show (if gb<w.heap.size then _ else _)=_
      rw[if_neg (by omega),if_pos ⟨rfl,ho⟩]
    have hst:Keeps St w g.St w':=fun b o hs=>by
      refine⟨?_,hext.cell (p:=⟨b,o,none⟩) (hbd b o hs)⟩
      show (if b<w.heap.size then _ else _)=_
      rw[if_pos (hbd b o hs),if_pos hs]
    refine⟨g,fun _ h=>h,?_,?_,?_,?_⟩
    · intro b o x hb hx
      have hx':(if b<w.heap.size then (if St b o then some Own.st else none) else _)=some x:=hx
      rw[if_pos hb] at hx'
      split at hx'
      · rename_i hs;simp at hx';exact⟨hx'.symm,hs⟩
      · simp at hx'
    · intro b o x hx
      have hx':(if b<w.heap.size then (if St b o then some Own.st else none) else if b=gb∧o<cap*sz τ then some (Own.obj 0) else none)=some x:=hx
      split at hx'
      · rename_i hb;exact Nat.lt_of_lt_of_le hb hext.le
      · split at hx'
        · rename_i hh;rw[hh.1];exact hgb
        · simp at hx'
    · exact⟨rfl,_,rfl,Nat.le_refl _,fun _=>rfl⟩
    · intro k o ho
      cases k with
      | succ k=>simp at ho
      | zero =>
        simp at ho;subst ho
        refine⟨⟨⟨⟨hcap,hlen⟩,fun f hf=>by simp at hf;subst hf;exact Nat.zero_le _⟩,fun _=>⟨gb,0,fun i j=>cur.getD (i*sz τ+j) undef,rfl,⟨?_,?_,?_⟩⟩⟩,rfl⟩
        · intro i j hi hj
          have hlt:i*sz τ+j<cap*sz τ:=by
            have h1:(i+1)*sz τ≤cap*sz τ:=Nat.mul_le_mul_right _ (Nat.le_trans hi hcap)
            have hj':j<sz τ:=hj
            rw[Nat.add_mul] at h1;omega
          obtain⟨c1,_,c3⟩:=hcell _ hlt
          have e0:0+i*Un.sz τ+j=i*sz τ+j:=by show 0+i*sz τ+j=_;omega
          refine⟨?_,?_⟩
          · show w'.cell? ⟨gb,0+i*Un.sz τ+j,none⟩=_
            rw[e0,c1,Array.getD_eq_getD_getElem?,Array.getElem?_eq_getElem (by omega)];rfl
          · show Mode g w' 0 (some 0) i gb (0+i*Un.sz τ+j)
            rw[e0]
            exact⟨fun h=>absurd h (Nat.not_lt_zero _),fun _=>⟨hω _ hlt,c3⟩⟩
        · intro i hi j d hd
          obtain⟨u,hu,hr⟩:=hrel i hi j d hd
          have hj:j<sz τ:=by have h0:j<(enc τ (xs[i]'hi)).length:=(List.getElem?_eq_some_iff.1 hd).1;rwa [enc_len] at h0
          have hlt:i*sz τ+j<xs.length*sz τ:=by
            have h1:(i+1)*sz τ≤xs.length*sz τ:=Nat.mul_le_mul_right _ hi
            rw[Nat.add_mul] at h1;omega
          have hu2:cur.getD (i*sz τ+j) undef=u:=by
            rw[← htake,List.getElem?_take_of_lt hlt,Array.getElem?_toList] at hu
            rw[Array.getD_eq_getD_getElem?,hu];rfl
          show VRel En g.St w' (cur.getD (i*sz τ+j) undef) d
          rw[hu2];exact hr.mono hst
        · intro _ x hx hx'
          have hx2:x<cap*sz τ:=hx'
          obtain⟨_,c2,c3⟩:=hcell x hx2
          show g.ω gb (0+x)=_∧_
          rw[Nat.zero_add]
          exact⟨hω x hx2,c2,c3⟩
set_option maxHeartbeats 2000000 in
theorem clone_zero {P:Program} {ρ:Ren} (L:SlLaysE0.n41 P ρ) (i0:TypeInfo) (z:Value) (size bytes:Nat) (hi:P.info? (ρ.t 23)=some i0) (hz0:i0.zero=some z) (hz1:i0.size=size) (hz2:i0.bytes=bytes) (hzs:z.cells.size=size) (hsz:0<size)
    (z23:∀ w,(Go.sizeOf (ρ.t 23)).run P w=.ok size w) (a:Addr) (c:Nat) (w:World) :
    Calls P (ρ.f 41) #[.slice (some a) 0 c] w fun e w'=>∃ v',e=.returned v'∧w'.ownsRow w.heap.size (ρ.t 23) size v' 0 []∧Below w.heap.size w w':=by
  have mixed:=L.mixed;have t4:=L.t4;have a4:=L.a4;have z4:=L.z4;have v4:=L.v4;have t22:=L.t22;have a22:=L.a22;have z22:=L.z22;have v22:=L.v22
  have q22:∀ (w:World) (a:Option Addr) (n c n' c':Nat),(binOp .eql (ρ.t 22) (.slice a n c) (.slice none n' c')).run P w=.ok (.bool a.isNone) w:=fun w a n c n' c'=>Lib.run_eql_slice_nil w _ _ a n c n' c' L.t22
  have u22:∀ w,Sem.run P (underlying (ρ.t 22)) w=.ok (TypeDesc.slice (ρ.t 23)) w:=run_underlying t22
  obtain⟨_,_,FG⟩:=L.f41
  go_enter FG,SlBodyN.n41_ntmps ρ
  go_wp2_with (at_builtin;refine wpList_append_own _ rfl _ _ (ρ.t 22) rfl w.heap.size (ρ.t 23) i0 z size bytes t22 hi hz0 hz1 hz2 hzs hsz _ _ _ rfl (World.ownsRow_made w #[] 0 (Nat.le_refl _) (Nat.zero_le _) (by simp)) a 0 c [] rfl ?qc1 ?qc2 ?qc3 ?qc4 ?qc5 ?qc6 ?_)
  case qc1=>simp
  case qc2=>intro j u hj;simp at hj
  case qc3=>intro u hu;simp at hu
  case qc4=>unfold maxLen;omega
  case qc5=>omega
  case qc6=>simp
  intro v' w1 hown hgrow hnil
  go_wp2
  go_ret
  exact⟨v',rfl,by simpa using hown,((Below.refl _ w).alloc (Nat.le_refl _) _).grown hgrow (by simp) (by intro k hk;simp [Value.ownBlock] at hk;omega)⟩
theorem ext_of_below {w w':World} (h:Below w.heap.size w w') : Ext w w':=⟨h.os,h.tape,h.output,h.size,h.block⟩
def F_clone (τ:Ty) : FnC Un:=fun args=>match args with
  | [x0]=>(dL τ x0).bind fun s=>some ([s.length≤1000000000],[.c (.ob 0 0)],[⟨0,τ,s,some 0,true⟩])
  | _=>none
theorem ok_clone {ρ:Ren} (L:SlLaysE0.n41 Tryz.prog ρ) (τ:Ty) (i0:TypeInfo) (z:Value) (bytes:Nat) (hi:Tryz.prog.info? (ρ.t 23)=some i0) (hz0:i0.zero=some z) (hz1:i0.size=sz τ) (hz2:i0.bytes=bytes) (hzs:z.cells.size=sz τ) (hsz:0<sz τ)
    (hb:bytes≤100000) (z23:∀ w,(Go.sizeOf (ρ.t 23)).run Tryz.prog w=.ok (sz τ) w) (hB:HasBody Tryz.prog (ρ.f 41)) : FnOK (ρ.f 41) (F_clone τ):=by
  intro args ob rs os h hob
  unfold F_clone at h
  split at h
  · simp only[Option.bind_eq_some_iff,Option.some.injEq,Prod.mk.injEq] at h
    obtain⟨s,e0,rfl,rfl,rfl⟩:=h
    obtain rfl:=dL_eq e0
    have hlen:s.length≤1000000000:=hob _ (by simp)
    refine⟨fun w St vs hbd hvs=>?_,hB⟩
    match vs,hvs with
    | [v0],⟨h0,_⟩ =>
      have hV:VRel En St w v0 (.dat τ s):=h0
      rcases hV.inv with ⟨rfl,a,cap,rfl⟩ | ⟨b,o,cap,cv,rfl,hcap,hc,hr⟩
      · cases a with
        | none =>
          refine (AnyE.slices_Clone_nil L 0 cap w).mono ?_
          rintro e w' ⟨rfl,rfl⟩
          exact⟨_,rfl,ret_own (e:=ρ.t 23) (news:=[]) (Ext.refl _) hbd (by simp) ⟨by simp,.inl ⟨rfl,rfl⟩⟩ (fun i hi=>absurd hi (Nat.not_lt_zero _))⟩
        | some a =>
          refine (clone_zero L i0 z (sz τ) bytes hi hz0 hz1 hz2 hzs hsz z23 a cap w).mono ?_
          rintro e w' ⟨v',rfl,hown,hbel⟩
          exact⟨v',rfl,ret_own (ext_of_below hbel) hbd (by simp) hown (fun i hi=>absurd hi (Nat.not_lt_zero _))⟩
      · have hcell:∀ j u,(rowsOf s.length (sz τ) cv)[j]? = some u→w.cell? ⟨b,o+j,none⟩=some u∧∃ i q,i<s.length∧q<sz τ∧j=i*sz τ+q∧u=cv i q:=by
          intro j u hj
          obtain⟨i,q,hi,hq,rfl,rfl⟩:=rowsOf_inv hj
          refine⟨?_,i,q,hi,hq,rfl,rfl⟩
          have:=(hc i q hi hq).2
          rw[← Nat.add_assoc];exact this
        have hone:∀ u∈rowsOf s.length (sz τ) cv,u.oneCell'=true:=by
          intro u hu
          obtain⟨j,hj⟩:=List.getElem?_of_mem hu
          obtain⟨_,i,q,hi,hq,_,rfl⟩:=hcell j u hj
          have hq':q<(enc τ (s[i]'hi)).length:=by rw[enc_len];exact hq
          have:=hr i hi q _ (List.getElem?_eq_getElem hq')
          exact oneC_eq this.one
        refine (AnyE.slices_Clone L i0 z (sz τ) bytes hi hz0 hz1 hz2 hzs hsz z23 b o s.length cap (rowsOf s.length (sz τ) cv) w (rowsOf_len _ _ _) (by unfold maxLen;omega)
          (by have:s.length*bytes≤1000000000*100000:=Nat.mul_le_mul hlen hb
              omega) (fun j u hj=>(hcell j u hj).1) hone).mono ?_
        rintro e w' ⟨v',rfl,hown,_,hbel⟩
        refine⟨v',rfl,ret_own (ext_of_below hbel) hbd (by omega) hown fun i hi j d hd=>?_⟩
        have hj:j<sz τ:=by have h0:j<(enc τ (s[i]'hi)).length:=(List.getElem?_eq_some_iff.1 hd).1;rwa [enc_len] at h0
        exact⟨cv i j,rowsOf_get hsz hi hj,hr i hi j d hd⟩
  · simp at h
def mach0 : Mc Un:=mach (fun _=>none) (fun _=>none) (fun _=>none) (fun _=>none) (fun _=>none)
def isSlOf (t e:TypeId) (τ:Ty) : Bool:=match mach0.ti t with | .sl e' τ' b=>e' == e && decide (τ'=τ) && decide (b≤100000) | _=>false
theorem slOf {t e:TypeId} {τ:Ty} (h:isSlOf t e τ=true) : ∃ bytes i z,bytes≤100000∧0<bytes∧0<sz τ∧Tryz.prog.underlying t=some (.slice e)∧Tryz.prog.info? e=some i∧i.size=sz τ∧i.bytes=bytes∧i.zero=some z∧z.cells.size=sz τ:=by
  unfold isSlOf at h
  split at h
  · rename_i e' τ' b hti
    simp only[Bool.and_eq_true,beq_iff_eq,decide_eq_true_eq] at h
    obtain⟨⟨rfl,rfl⟩,hb⟩:=h
    have h:=((tabOK (fun _=>none) (fun _=>none) (fun _=>none) (fun _=>none) (fun _=>none)).ti t).2
    rw[show (mach (fun _=>none) (fun _=>none) (fun _=>none) (fun _=>none) (fun _=>none)).ti t=.sl e' τ' b from hti] at h
    obtain⟨h0,⟨h1,h1'⟩,i,z,h2,h3,h4,h5,h6⟩:=h
    exact⟨b,i,z,hb,h1',h1,h0,h2,h3,h4,h5,h6⟩
  · simp at h
theorem clone_inst {ρ:Ren} (L:SlLaysE0.n41 Tryz.prog ρ) {τ:Ty} (hti:isSlOf (ρ.t 22) (ρ.t 23) τ=true) (hB:HasBody Tryz.prog (ρ.f 41)) : FnOK (ρ.f 41) (F_clone τ):=by
  obtain⟨bytes,i,z,hb,h1',h1,h0,h2,h3,h4,h5,h6⟩:=slOf hti
  refine ok_clone L τ i z bytes h2 h5 h3 h4 h6 h1 hb (fun w=>?_) hB
  have:=Go.run_sizeOf w h2
  rw[this];simp only[Program.cellsOf,h2];exact congrArg (fun n=>Result.ok n w) h3
end Go.Proofs.YtolbngdhgcbmgaaGreat.B
namespace Go.Proofs.YtolbngdhgcbmgaaGreat.B
open Go Go.RowKit Go.Shelf
set_option maxRecDepth 1000000
def ren_clone_term : Ren:=⟨fun | 41=>98 | n=>n,fun | 4=>4 | 22=>24 | 23=>46 | n=>n,fun | n=>n⟩
theorem lays_clone_term : SlLaysE0.n41 Tryz.prog ren_clone_term:={
  mixed:=by kernel_rfl
  f41:=⟨Tryz.f98.name,by kernel_rfl,Tryz.func98.trans (congrArg some (by kernel_rfl))⟩
  t4:=Tryz.underlying4
  a4:=Tryz.isAgg4
  z4:=Tryz.sizeOf4
  v4:=Tryz.zeroValue4
  t22:=Tryz.underlying24
  a22:=Tryz.isAgg24
  z22:=Tryz.sizeOf24
  v22:=Tryz.zeroValue24 }
def F_clone_term : FnC Un:=F_clone .term
theorem ok_clone_term : FnOK 98 F_clone_term:=clone_inst lays_clone_term (by kernel_rfl) (hasBody_of Tryz.func98 (by kernel_rfl) (by kernel_rfl))
def ren_clone_rel : Ren:=⟨fun | 41=>97 | n=>n,fun | 4=>4 | 22=>23 | 23=>29 | n=>n,fun | n=>n⟩
theorem lays_clone_rel : SlLaysE0.n41 Tryz.prog ren_clone_rel:={
  mixed:=by kernel_rfl
  f41:=⟨Tryz.f97.name,by kernel_rfl,Tryz.func97.trans (congrArg some (by kernel_rfl))⟩
  t4:=Tryz.underlying4
  a4:=Tryz.isAgg4
  z4:=Tryz.sizeOf4
  v4:=Tryz.zeroValue4
  t22:=Tryz.underlying23
  a22:=Tryz.isAgg23
  z22:=Tryz.sizeOf23
  v22:=Tryz.zeroValue23 }
def F_clone_rel : FnC Un:=F_clone .rel
theorem ok_clone_rel : FnOK 97 F_clone_rel:=clone_inst lays_clone_rel (by kernel_rfl) (hasBody_of Tryz.func97 (by kernel_rfl) (by kernel_rfl))
def ren_clone_agg : Ren:=⟨fun | 41=>47 | n=>n,fun | 4=>4 | 22=>25 | 23=>74 | n=>n,fun | n=>n⟩
theorem lays_clone_agg : SlLaysE0.n41 Tryz.prog ren_clone_agg:={
  mixed:=by kernel_rfl
  f41:=⟨Tryz.f47.name,by kernel_rfl,Tryz.func47.trans (congrArg some (by kernel_rfl))⟩
  t4:=Tryz.underlying4
  a4:=Tryz.isAgg4
  z4:=Tryz.sizeOf4
  v4:=Tryz.zeroValue4
  t22:=Tryz.underlying25
  a22:=Tryz.isAgg25
  z22:=Tryz.sizeOf25
  v22:=Tryz.zeroValue25 }
def F_clone_agg : FnC Un:=F_clone .agg
theorem ok_clone_agg : FnOK 47 F_clone_agg:=clone_inst lays_clone_agg (by kernel_rfl) (hasBody_of Tryz.func47 (by kernel_rfl) (by kernel_rfl))
end Go.Proofs.YtolbngdhgcbmgaaGreat.B
namespace Go.Proofs.YtolbngdhgcbmgaaGreat.B
open Go Go.RowKit Go.Shelf Go.Sort
set_option maxRecDepth 1000000
set_option linter.unusedVariables false
structure PutR (w w':World) (b off:Nat) (us:List Value) : Prop where
  os : w'.os=w.os
  tape : w'.tape=w.tape
  output : w'.output=w.output
  size : w.heap.size≤w'.heap.size
  block : ∀ k,k<w.heap.size→k≠b→w'.heap[k]? = w.heap[k]?
  cell : ∀ (i:Nat) v,us[i]? = some v→w'.cell? ⟨b,off+i,none⟩=some v
  other : ∀ p : Addr,p.block<w.heap.size→(p.off<off∨off+us.length≤p.off∨p.block≠b)→w'.cell? p=w.cell? p
  frozen : ∀ p : Addr,p.block<w.heap.size→stuck w' p=stuck w p
theorem grow_block (w:World) (os:Array Obj) {k:Nat} (h:k<w.heap.size) : (grow w os).heap[k]? = w.heap[k]?:=by
  unfold grow;exact Array.getElem?_append_left h
theorem grow_cell (w:World) (os:Array Obj) {p:Addr} (h:p.block<w.heap.size) : (grow w os).cell? p=w.cell? p:=by
  unfold World.cell?;rw[grow_block w os h]
theorem stuck_mapBlock (w:World) (blk:Nat) (f:Array Value→Array Value) (hf:∀ c,(f c).size=c.size) (p:Addr) : stuck (mapBlock w blk f) p=stuck w p:=by
  have h1:∀ a,(mapBlock w blk f).frozen? a=w.frozen? a:=fun a=>frozen?_mapBlock w blk f a
  have h2:(mapBlock w blk f).shape? p.block=w.shape? p.block:=by
    simp only[mapBlock,World.shape?,Array.getElem?_modify]
    by_cases hk : blk=p.block
    · simp only[hk,if_true]
      cases w.heap[p.block]? with
      | none=>rfl
      | some o=>cases o<;>simp [onCells,hf]
    · simp [hk]
  unfold stuck
  rw[h1,h2]
  simp only[h1]
theorem putR_of {α:Type} [Inhabited α] {enc:α→Value} {w:World} {b off n:Nat} {os:Array Obj} {d0 d:Array α} (hb:b<w.heap.size) (hH:Holds enc w b off d0) (hs:d.size=d0.size) :
    PutR w (grow (putRow enc (Sort.ahead w n) b off d) os) b off (d.toList.map enc):=by
  have hsz:(putRow enc (Sort.ahead w n) b off d).heap.size=w.heap.size:=by rw[size_putRow];rfl
  refine⟨rfl,rfl,rfl,?_,fun k hk hne=>?_,fun i v hv=>?_,fun p hp ho=>?_,fun p hp=>?_⟩
  · rw[size_grow,hsz];omega
  · rw[grow_block _ _ (by rw[hsz];exact hk)]
    unfold putRow mapBlock Sort.ahead
    simp only[Array.getElem?_modify,if_neg (Ne.symm hne)]
  · rw[grow_cell _ _ (by rw[hsz];exact hb)]
    rw[List.getElem?_map] at hv
    have hi:i<d.size:=by
      rcases Nat.lt_or_ge i d.size with g | g
      · exact g
      · rw[List.getElem?_eq_none (by simpa using g)] at hv;simp at hv
    have hH':Holds enc (Sort.ahead w n) b off d0:=hH
    rw[cell?_putRow enc (Sort.ahead w n) b off d0 d hH' hs i hi]
    rw[List.getElem?_eq_getElem (by simpa using hi)] at hv
    rw[getElem!_pos d i hi]
    simpa using hv
  · rw[grow_cell _ _ (by rw[hsz];exact hp)]
    rw[cell?_putRow_other enc (Sort.ahead w n) b off d p (by simp only[List.length_map,Array.length_toList] at ho;omega)]
    rfl
  · rw[stuck_heap (grow_block _ _ (by rw[hsz];exact hp))]
    exact stuck_mapBlock (Sort.ahead w n) b _ (fun c=>by unfold putCells;simp) p
theorem FExt.put {fr:Fr} {w':World} {b off:Nat} {us:List Value} (hst:PutR fr.w0 w' b off us) (ho:∀ (i:Nat),i<us.length→fr.own b (off+i)) (hne:0<us.length) : FExt fr w':=by
  refine⟨hst.os,hst.tape,hst.output,hst.size,fun k hk hn=>?_,fun b' o hk hn=>?_,fun b' o hk hn=>hst.frozen _ hk⟩
  · by_cases e : k=b
    · subst e
      exact (hn _ (ho 0 hne)).elim
    · exact hst.block k hk e
  · refine hst.other _ hk ?_
    by_cases e : b'=b
    · subst e
      by_cases h1 : o<off
      · exact .inl h1
      · by_cases h2 : off+us.length≤o
        · exact .inr (.inl h2)
        · have h3:=ho (o - off) (by omega)
          rw[show off+(o - off)=o from by omega] at h3;exact (hn h3).elim
    · exact .inr (.inr e)
theorem ObRel.put {g:G} {w w':World} {k ver:Nat} {live:Bool} {τ:Ty} (h1:sz τ=1) {xs ys:List (Den τ)} {b off cap:Nat} {us:List Value} (htk:g.tk k=(some ⟨b,off,none⟩,cap)) (hb:b<w.heap.size) (hown:∀ b o x,g.ω b o=some x→b<w.heap.size)
    (hO:ObAt En g w k ⟨ver,τ,xs,some 0,live⟩ b off cap (fun i j=>(w.cell? ⟨b,off+i*sz τ+j,none⟩).getD undef))
    (hst:PutR w w' b off us) (hul:us.length=xs.length) (hyl:ys.length≤us.length) (hcap:xs.length≤cap) (hbig:xs.length≤9223372036854775807)
    (hrel:∀ i (hi:i<ys.length) d,(enc τ ys[i])[0]? = some d→∃ u,us[i]? = some u∧VRel En g.St w u d) :
    ObRel En g w' k ⟨ver,τ,ys,some 0,live⟩∧Keeps g.St w g.St w':=by
  have hmine:∀ i,i<us.length→g.ω b (off+i)=some (.obj k)∧stuck w ⟨b,off+i,none⟩=false:=by
    intro i hi
    have:=(hO.cell i 0 (by show i<xs.length;omega) (by show 0<sz τ;omega)).2
    have e:off+i*Un.sz τ+0=off+i:=by show off+i*sz τ+0=_;rw[h1];omega
    rw[e] at this
    exact this.2 (Nat.zero_le _)
  have hk:Keeps g.St w g.St w':=fun b' o hs=>⟨hs,hst.other ⟨b',o,none⟩ (hown _ _ _ hs) (by
    by_cases e : b'=b
    · subst e
      by_cases h2 : o<off
      · exact .inl h2
      · by_cases h3 : off+us.length≤o
        · exact .inr (.inl h3)
        · have:=(hmine (o - off) (by omega)).1
          rw[show off+(o - off)=o by omega] at this
          have hs':g.ω b' o=some .st:=hs
          rw[this] at hs';simp at hs'
    · exact .inr (.inr e))⟩
  refine⟨⟨⟨⟨by rw[htk];show ys.length≤cap;omega,by show ys.length≤_;omega⟩,fun f hf=>by simp at hf;subst hf;exact Nat.zero_le _⟩,fun _=>⟨b,off,fun i j=>us.getD i undef,by rw[htk],⟨?_,?_,?_⟩⟩⟩,hk⟩
  · intro i j hi hj
    have hi':i<ys.length:=hi
    have hj':j<sz τ:=hj
    obtain rfl : j=0:=by omega
    have e0:off+i*Un.sz τ+0=off+i:=by show off+i*sz τ+0=_;rw[h1];omega
    show w'.cell? ⟨b,off+i*Un.sz τ+0,none⟩=_∧Mode g w' k (some 0) i b (off+i*Un.sz τ+0)
    rw[e0]
    refine⟨?_,fun h=>absurd h (Nat.not_lt_zero _),fun _=>⟨(hmine i (by omega)).1,by rw[hst.frozen _ hb];exact (hmine i (by omega)).2⟩⟩
    rw[List.getD_eq_getElem?_getD,List.getElem?_eq_getElem (by omega)]
    exact hst.cell _ _ (List.getElem?_eq_getElem (by omega))
  · intro i hi j d hd
    have hj:j<sz τ:=by have h0:=(List.getElem?_eq_some_iff.1 hd).1;have:=enc_len τ (ys[i]'hi);exact this ▸ h0
    obtain rfl : j=0:=by omega
    obtain⟨u,h2,h3⟩:=hrel i hi d hd
    show VRel En g.St w' (us.getD i undef) d
    rw[List.getD_eq_getElem?_getD,h2]
    exact h3.mono hk
  · intro hl x hx hx'
    rw[htk] at hx'
    have hx1:ys.length*sz τ≤x:=hx
    have hx2:x<cap*sz τ:=hx'
    rw[h1] at hx1 hx2
    rcases Nat.lt_or_ge x us.length with g1 | g1
    · exact⟨(hmine x g1).1,⟨us[x],hst.cell _ _ (List.getElem?_eq_getElem g1)⟩,by rw[hst.frozen _ hb];exact (hmine x g1).2⟩
    · obtain⟨m1,⟨v,m2⟩,m3⟩:=hO.spare hl x (by show xs.length*sz τ≤x;rw[h1];omega) (by show x<cap*sz τ;rw[h1];omega)
      exact⟨m1,⟨v,by rw[hst.other ⟨b,off+x,none⟩ hb (.inr (.inl (by show off+us.length≤off+x;omega)))];exact m2⟩,by rw[hst.frozen _ hb];exact m3⟩
theorem ObRel.open1 {g:G} {w:World} {k ver:Nat} {live:Bool} {τ:Ty} {xs:List (Den τ)} (h:ObRel En g w k ⟨ver,τ,xs,some 0,live⟩) (hne:xs≠[]) :
    ∃ b off,g.tk k=(some ⟨b,off,none⟩,(g.tk k).2)∧xs.length≤(g.tk k).2∧ObAt En g w k ⟨ver,τ,xs,some 0,live⟩ b off (g.tk k).2 (fun i j=>(w.cell? ⟨b,off+i*sz τ+j,none⟩).getD undef):=by
  obtain⟨⟨⟨hcap,hmax⟩,_⟩,hrow⟩:=h
  have hpos:0<xs.length:=List.length_pos_iff.2 hne
  have hc:xs.length≤(g.tk k).2:=hcap
  obtain⟨b,off,cv,hbase,hA⟩:=hrow (by omega)
  have hcv:∀ i j,i<xs.length→j<sz τ→(w.cell? ⟨b,off+i*sz τ+j,none⟩).getD undef=cv i j:=fun i j hi hj=>by
    have:=(hA.cell i j hi hj).1
    have e:w.cell? ⟨b,off+i*sz τ+j,none⟩=some (cv i j):=this
    rw[e];rfl
  refine⟨b,off,by rw[← hbase],hc,⟨fun i j hi hj=>?_,fun i hi j d hd=>?_,hA.spare⟩⟩
  · have:=hA.cell i j hi hj
    rw[hcv i j hi hj];exact this
  · have hj:j<sz τ:=by have h0:=(List.getElem?_eq_some_iff.1 hd).1;have:=enc_len τ (xs[i]'hi);exact this ▸ h0
    rw[hcv i j hi hj];exact hA.rel i hi j d hd
theorem vrel_s {St:Nat→Nat→Prop} {w:World} {v x:Value} (h:VRel En St w v (.s x)) : v=x∧oneC x=true:=by cases h with | s _ h=>exact⟨rfl,h⟩
theorem ObAt.holds {g:G} {w:World} {k ver:Nat} {live:Bool} {xs:List Int} {b off cap:Nat} {cv:Nat→Nat→Value} (hA:ObAt En g w k ⟨ver,.int,xs,some 0,live⟩ b off cap cv) :
    Holds (Value.int .i64) w b off xs.toArray∧∀ x∈xs,oneC (.int .i64 x)=true:=by
  have key:∀ i (hi:i<xs.length),cv i 0=.int .i64 xs[i]∧oneC (.int .i64 xs[i])=true:=fun i hi=>by
    have:=hA.rel i hi 0 (.s (.int .i64 xs[i])) rfl
    exact vrel_s this
  refine⟨fun j hj=>?_,fun x hx=>?_⟩
  · have hj':j<xs.length:=by simpa using hj
    have hc:=hA.cell j 0 hj' (show (0:Nat)<1 from Nat.one_pos)
    have e:off+j*Un.sz .int+0=off+j:=by show off+j*1+0=_;omega
    rw[e] at hc
    refine⟨?_,stuck_no (hc.2.2 (Nat.zero_le _)).2⟩
    rw[hc.1,(key j hj').1,getElem!_pos _ j hj]
    simp
  · obtain⟨i,hi,rfl⟩:=List.getElem_of_mem hx
    exact (key i hi).2
end Go.Proofs.YtolbngdhgcbmgaaGreat.B
namespace Go.Proofs
open Go.Shelf
def Tryz.lays189_ren : Go.Shelf.Ren:=⟨fun | 189=>175 | 125=>183 | 257=>182 | 128=>194 | 129=>195 | 294=>185 | 295=>186 | 296=>187 | 297=>188 | 298=>189 | 299=>190 | 216=>191 | 300=>192 | 301=>193 | 328=>196 | 329=>197 | 330=>198 | 331=>199 | 332=>200 | 215=>201 | 343=>202 | n=>n,fun | 28=>30 | 3=>3 | 46=>160 | 0=>0 | 51=>170 | 53=>172 | 4=>4 | 183=>163 | 182=>162 | 131=>167 | 5=>5 | 9=>9 | 218=>173 | 222=>177 | 228=>179 | 229=>180 | n=>n,fun | n=>n⟩
theorem Tryz.lays189 : Go.Proofs.Lays.n189 Tryz.prog Tryz.lays189_ren:={
  mixed:=by kernel_rfl
  f125:=Tryz.func183.trans (congrArg some (by kernel_rfl))
  f128:=Tryz.func194.trans (congrArg some (by kernel_rfl))
  f129:=Tryz.func195.trans (congrArg some (by kernel_rfl))
  f189:=Tryz.func175.trans (congrArg some (by kernel_rfl))
  f215:=Tryz.func201.trans (congrArg some (by kernel_rfl))
  f216:=Tryz.func191.trans (congrArg some (by kernel_rfl))
  f257:=Tryz.func182.trans (congrArg some (by kernel_rfl))
  f294:=Tryz.func185.trans (congrArg some (by kernel_rfl))
  f295:=Tryz.func186.trans (congrArg some (by kernel_rfl))
  f296:=Tryz.func187.trans (congrArg some (by kernel_rfl))
  f297:=Tryz.func188.trans (congrArg some (by kernel_rfl))
  f298:=Tryz.func189.trans (congrArg some (by kernel_rfl))
  f299:=Tryz.func190.trans (congrArg some (by kernel_rfl))
  f300:=Tryz.func192.trans (congrArg some (by kernel_rfl))
  f301:=Tryz.func193.trans (congrArg some (by kernel_rfl))
  f328:=Tryz.func196.trans (congrArg some (by kernel_rfl))
  f329:=Tryz.func197.trans (congrArg some (by kernel_rfl))
  f330:=Tryz.func198.trans (congrArg some (by kernel_rfl))
  f331:=Tryz.func199.trans (congrArg some (by kernel_rfl))
  f332:=Tryz.func200.trans (congrArg some (by kernel_rfl))
  f343:=Tryz.func202.trans (congrArg some (by kernel_rfl))
  t0:=Tryz.underlying0
  a0:=Tryz.isAgg0
  z0:=Tryz.sizeOf0
  v0:=Tryz.zeroValue0
  t3:=Tryz.underlying3
  a3:=Tryz.isAgg3
  z3:=Tryz.sizeOf3
  v3:=Tryz.zeroValue3
  t4:=Tryz.underlying4
  a4:=Tryz.isAgg4
  z4:=Tryz.sizeOf4
  v4:=Tryz.zeroValue4
  t5:=Tryz.underlying5
  a5:=Tryz.isAgg5
  z5:=Tryz.sizeOf5
  v5:=Tryz.zeroValue5
  t9:=Tryz.underlying9
  a9:=Tryz.isAgg9
  z9:=Tryz.sizeOf9
  v9:=Tryz.zeroValue9
  t28:=Tryz.underlying30
  a28:=Tryz.isAgg30
  z28:=Tryz.sizeOf30
  v28:=Tryz.zeroValue30
  t46:=Tryz.underlying160
  a46:=Tryz.isAgg160
  z46:=Tryz.sizeOf160
  v46:=Tryz.zeroValue160
  t51:=Tryz.underlying170
  a51:=Tryz.isAgg170
  z51:=Tryz.sizeOf170
  v51:=Tryz.zeroValue170
  t53:=Tryz.underlying172
  a53:=Tryz.isAgg172
  z53:=Tryz.sizeOf172
  v53:=Tryz.zeroValue172
  t131:=Tryz.underlying167
  a131:=Tryz.isAgg167
  z131:=Tryz.sizeOf167
  v131:=Tryz.zeroValue167
  t182:=Tryz.underlying162
  a182:=Tryz.isAgg162
  z182:=Tryz.sizeOf162
  v182:=Tryz.zeroValue162
  t183:=Tryz.underlying163
  a183:=Tryz.isAgg163
  z183:=Tryz.sizeOf163
  v183:=Tryz.zeroValue163
  t218:=Tryz.underlying173
  a218:=Tryz.isAgg173
  z218:=Tryz.sizeOf173
  v218:=Tryz.zeroValue173
  t222:=Tryz.underlying177
  a222:=Tryz.isAgg177
  z222:=Tryz.sizeOf177
  v222:=Tryz.zeroValue177
  t228:=Tryz.underlying179
  a228:=Tryz.isAgg179
  z228:=Tryz.sizeOf179
  v228:=Tryz.zeroValue179
  t229:=Tryz.underlying180
  a229:=Tryz.isAgg180
  z229:=Tryz.sizeOf180
  v229:=Tryz.zeroValue180 }
open Go.Sort Go.RowKit in
theorem Tryz.slices_Sort_int (blk off cap:Nat) (zs:List Int) (w:World) (hH:Holds (Value.int .i64) w blk off zs.toArray) (hblk:blk<w.heap.size) (hsz:zs.length<4611686018427387904) :
    Calls Tryz.prog 175 #[.slice (some ⟨blk,off,none⟩) zs.length cap] w fun e w' =>
      e=.returned (.tuple #[])∧∃ n os,w'=grow (putRow (Value.int .i64) (Sort.ahead w n) blk off (zs.mergeSort fun x y=>decide (x≤y)).toArray) os:=Any.slices_Sort_int Tryz.lays189 blk off cap zs w hH hblk hsz
def Tryz.laysNm220_ren : Go.Shelf.Ren:=⟨fun | 20=>176 | n=>n,fun | 22=>30 | 3=>3 | 4=>4 | 0=>0 | n=>n,fun | n=>n⟩
theorem Tryz.laysNm220 : Go.Proofs.Lays2.n20 Tryz.prog Tryz.laysNm220_ren:={
  mixed:=by kernel_rfl
  f20:=Tryz.func176.trans (congrArg some (by kernel_rfl))
  t0:=Tryz.underlying0
  a0:=Tryz.isAgg0
  z0:=Tryz.sizeOf0
  v0:=Tryz.zeroValue0
  t3:=Tryz.underlying3
  a3:=Tryz.isAgg3
  z3:=Tryz.sizeOf3
  v3:=Tryz.zeroValue3
  t4:=Tryz.underlying4
  a4:=Tryz.isAgg4
  z4:=Tryz.sizeOf4
  v4:=Tryz.zeroValue4
  t22:=Tryz.underlying30
  a22:=Tryz.isAgg30
  z22:=Tryz.sizeOf30
  v22:=Tryz.zeroValue30
  i3:=by kernel_rfl }
open Go.RowKit Go.Lib Go.Sort in
theorem Tryz.slices_Compact_int (blk off cap:Nat) (zs:List Int) (w:World) (hH:Holds (Value.int .i64) w blk off zs.toArray) (hsz:zs.length≤9223372036854775807) (hcap:zs.length≤cap) :
    Calls Tryz.prog 176 #[.slice (some ⟨blk,off,none⟩) zs.length cap] w fun e w'=>e=.returned (.slice (some ⟨blk,off,none⟩) (Lib.compact zs).length cap)∧∃ q,w'=putRow (Value.int .i64) (Sort.ahead w q) blk off (Lib.compact zs++List.replicate (zs.length - (Lib.compact zs).length) 0).toArray:=Any.slices_Compact_int Tryz.laysNm220 blk off cap zs w hH hsz hcap
open Go.RowKit Go.Lib Go.Sort in
theorem Tryz.slices_Compact_int_empty (a:Option Addr) (cap:Nat) (w:World) :
    Calls Tryz.prog 176 #[.slice a 0 cap] w fun e w'=>e=.returned (.slice a 0 cap)∧w'=w:=Any.slices_Compact_int_empty Tryz.laysNm220 a cap w
open Go.RowKit Go.Sort in
theorem Tryz.slices_Sort_int_none (p:Option Addr) (cap:Nat) (w:World) :
    Calls Tryz.prog 175 #[.slice p 0 cap] w fun e w'=>e=.returned (.tuple #[])∧w'=w:=Any.slices_Sort_int_none Tryz.lays189 p cap w
end Go.Proofs
namespace Go.Proofs.YtolbngdhgcbmgaaGreat.B
open Go Go.RowKit Go.Shelf Go.Sort
set_option maxRecDepth 1000000
set_option linter.unusedVariables false
theorem lib_compact (zs:List Int) : Go.Lib.compact zs=compactI zs:=by
  have key:∀ m,m≤zs.length→Go.Lib.compactUpTo zs.toArray m=(zs.take m).foldl snocI []∧(∀ (h:0<m),((zs.take m).foldl snocI []).getLast? = zs[m - 1]?):=by
    intro m
    induction m with
    | zero=>intro _;exact⟨by simp [Go.Lib.compactUpTo],fun h=>absurd h (Nat.lt_irrefl 0)⟩
    | succ m ih =>
      intro hm
      obtain⟨h1,h2⟩:=ih (by omega)
      have hlt:m<zs.length:=by omega
      have hx:zs.toArray[m]! = zs[m]:=by rw[getElem!_pos zs.toArray m (by simpa using hlt)];simp
      have ht:zs.take (m+1)=zs.take m++[zs[m]]:=by rw[List.take_add_one,List.getElem?_eq_getElem hlt];rfl
      have hsn:∀ (acc:List Int) (x:Int),snocI acc x=if acc.getLast? = some x then acc else acc++[x]:=fun _ _=>rfl
      rw[Go.Lib.compactUpTo_succ,h1,ht,List.foldl_append,List.foldl_cons,List.foldl_nil,hx]
      have hg:zs[m+1 - 1]? = some zs[m]:=by rw[Nat.add_sub_cancel];exact List.getElem?_eq_getElem hlt
      by_cases h0 : m=0
      · subst h0
        have hk:Go.Lib.keeps zs.toArray 0=true:=Go.Lib.keeps_lt_one _ 0 (by omega)
        rw[hk]
        simp [snocI,hg]
      · have hpos:0<m:=by omega
        have hl:=h2 hpos
        have hlt1:m - 1<zs.length:=by omega
        have hx1:zs.toArray[m - 1]! = zs[m - 1]:=by rw[getElem!_pos zs.toArray (m - 1) (by simpa using hlt1)];simp
        rw[List.getElem?_eq_getElem hlt1] at hl
        by_cases he : zs[m]=zs[m - 1]
        · have hk:Go.Lib.keeps zs.toArray m=false:=Go.Lib.keeps_neg hpos (by rw[hx,hx1];exact he)
          have hs:snocI ((zs.take m).foldl snocI []) zs[m]=(zs.take m).foldl snocI []:=by rw[hsn,if_pos (by rw[hl,he])]
          rw[hk,hs]
          exact⟨by simp,fun _=>by rw[hl,hg,he]⟩
        · have hk:Go.Lib.keeps zs.toArray m=true:=Go.Lib.keeps_pos (by rw[hx,hx1];exact he)
          have hs:snocI ((zs.take m).foldl snocI []) zs[m]=(zs.take m).foldl snocI []++[zs[m]]:=by
            rw[hsn,if_neg (fun e=>he (by rw[hl] at e;exact (Option.some.inj e).symm))]
          rw[hk,hs]
          exact⟨by simp,fun _=>by rw[hg];simp⟩
  have:=(key zs.length (Nat.le_refl _)).1
  unfold Go.Lib.compact compactI
  rw[this,List.take_length]
def U_sort_int : FnU Un:=fun τ xs args=>match τ,xs,args with
  | .int,xs,[]=>some ([xs.length≤1000000000],sortI xs)
  | _,_,_=>none
theorem okU_sort_int : UpOK 175 U_sort_int:=by
  intro τ xs ds ob ys h hob
  unfold U_sort_int at h
  split at h
  · rename_i xs
    simp only[Option.some.injEq,Prod.mk.injEq] at h
    obtain⟨rfl,rfl⟩:=h
    have hlen:xs.length≤1000000000:=hob _ (List.mem_singleton.2 rfl)
    refine⟨fun w g k ver live vs hO hown hvs=>?_,hasBody_of Tryz.func175 (by kernel_rfl) (by kernel_rfl)⟩
    match vs,hvs with
    | [],_ =>
      have hsl:(sortI xs).length=xs.length:=by unfold sortI;exact List.length_mergeSort _
      by_cases hne : xs=[]
      · subst hne
        refine (Tryz.slices_Sort_int_none (g.tk k).1 (g.tk k).2 w).mono ?_
        rintro e w' ⟨rfl,rfl⟩
        refine⟨rfl,hsl,⟨rfl,rfl,rfl,Nat.le_refl _,fun _ _ _=>rfl,fun _ _ _ _=>rfl,fun _ _ _ _=>rfl⟩,?_⟩
        have e:sortI []=[]:=by simp [sortI]
        rw[e];exact hO
      · obtain⟨b,off,htk,hcap,hA⟩:=hO.open1 hne
        obtain⟨hH,h1⟩:=hA.holds
        have hpos:0<xs.length:=List.length_pos_iff.2 hne
        have hb:b<w.heap.size:=by
          have:=(hA.cell 0 0 hpos (show (0:Nat)<1 from Nat.one_pos)).1
          exact lt_of_cell this
        have h0:(g.tk k).1=some ⟨b,off,none⟩:=by rw[htk]
        rw[h0]
        refine (Tryz.slices_Sort_int b off (g.tk k).2 xs w hH hb (by omega)).mono ?_
        rintro e w' ⟨rfl,n,os,rfl⟩
        have hp:=putR_of (n:=n) (os:=os) hb hH (d:=(sortI xs).toArray) (by simpa using hsl)
        have hus:(sortI xs).toArray.toList.map (Value.int .i64)=(sortI xs).map (Value.int .i64):=by simp
        rw[hus] at hp
        have hul:((sortI xs).map (Value.int .i64)).length=xs.length:=by rw[List.length_map,hsl]
        obtain⟨r1,_⟩:=ObRel.put (w':=_) (ys:=sortI xs) (τ:=.int) rfl htk hb hown hA hp hul (by rw[hul,hsl];exact Nat.le_refl _) hcap (by omega) (fun i hi d hd=>by
          have hd':some (V.s (.int .i64 (sortI xs)[i]))=some d:=hd
          cases hd'
          refine⟨.int .i64 (sortI xs)[i],by rw[List.getElem?_map,List.getElem?_eq_getElem hi];rfl,.s _ (h1 _ ((sortI_mem xs _).1 (List.getElem_mem hi)))⟩)
        refine⟨rfl,hsl,?_,r1⟩
        refine FExt.put (fr:=⟨w,fun b i=>g.ω b i=some (.obj k),g.St,0,g.β⟩) hp (fun i hi=>?_) (by rw[hul];exact hpos)
        rw[hul] at hi
        have:=(hA.cell i 0 hi (show (0:Nat)<1 from Nat.one_pos)).2
        have e:off+i*Un.sz .int+0=off+i:=by show off+i*1+0=_;omega
        rw[e] at this
        exact (this.2 (Nat.zero_le _)).1
  · simp at h
def G_compact_int : List Bool×FnG Un:=([true],fun args bxs os=>match args,bxs,os with
  | [.c (.ob 0 0)],[],[o]=>(oM .int o).bind fun xs=>some ([],[.c (.ob 0 0)],[],[⟨0,.int,compactI xs,some 0,true⟩])
  | _,_,_=>none)
theorem compactI_len (l:List Int) : (compactI l).length≤l.length:=by
  have : ∀ (l acc:List Int),(l.foldl snocI acc).length≤acc.length+l.length:=by
    intro l
    induction l with
    | nil=>intro acc;simp
    | cons y l ih =>
      intro acc
      have h1:=ih (snocI acc y)
      have h2:(snocI acc y).length≤acc.length+1:=by unfold snocI;split<;>simp
      rw[List.foldl_cons,List.length_cons];omega
  have h3:=this l []
  unfold compactI
  simpa using h3
theorem compactI_sub (l:List Int) : ∀ x∈compactI l,x∈l:=by
  have : ∀ (l acc:List Int),∀ x∈l.foldl snocI acc,x∈acc∨x∈l:=by
    intro l
    induction l with
    | nil=>intro acc x hx;exact .inl hx
    | cons y l ih =>
      intro acc x hx
      rcases ih (snocI acc y) x hx with h | h
      · unfold snocI at h
        split at h
        · exact .inl h
        · rcases List.mem_append.1 h with h | h
          · exact .inl h
          · rw[List.mem_singleton] at h;exact .inr (by rw[h];exact List.mem_cons_self)
      · exact .inr (List.mem_cons_of_mem _ h)
  intro x hx
  rcases this l [] x hx with h | h
  · simp at h
  · exact h
theorem okG_compact_int : GnOK 176 G_compact_int:=by
  intro args bxs obs ob rs bxs' obs' h hob
  unfold G_compact_int at h
  dsimp only at h
  split at h
  · rename_i o
    simp only[Option.bind_eq_some_iff,Option.some.injEq,Prod.mk.injEq] at h
    obtain⟨xs,e0,rfl,rfl,rfl,rfl⟩:=h
    obtain rfl:=oM_eq e0
    refine⟨?_,hasBody_of Tryz.func176 (by kernel_rfl) (by kernel_rfl)⟩
    intro w g vals hp hvals
    match vals,hvals with
    | [v0],⟨h0,_⟩ =>
      obtain⟨_,o',ho',_,hv⟩:=h0
      simp at ho';subst ho'
      have hv:v0=.slice (g.tk 0).1 xs.length (g.tk 0).2:=hv rfl
      subst hv
      obtain⟨hO,_⟩:=hp.obs 0 _ rfl
      have hlb:∀ k,¬ g.lb k:=fun k hk=>by have:=hp.lbs k hk;simp at this
      by_cases hne : xs=[]
      · subst hne
        refine (Tryz.slices_Compact_int_empty (g.tk 0).1 (g.tk 0).2 w).mono ?_
        rintro e w' ⟨rfl,rfl⟩
        refine⟨_,rfl,g,⟨rfl,rfl,rfl,Nat.le_refl _,fun _ _ _=>rfl,fun _ _ _ _=>rfl,fun _ _ _ _=>rfl⟩,hp,fun _ _=>rfl,fun b o x _ hx=>?_,?_⟩
        · cases x with
          | st=>exact .inr ⟨rfl,hx⟩
          | box k=>exact .inl ⟨_,by simp,hx⟩
          | obj k=>exact .inl ⟨_,by simp,hx⟩
        · exact⟨rfl,_,rfl,Nat.le_refl _,fun _=>rfl⟩
      · obtain⟨b,off,htk,hcap,hA⟩:=hO.open1 hne
        obtain⟨hH,h1⟩:=hA.holds
        have hmax:xs.length≤9223372036854775807:=hO.1.1.2
        have hpos:0<xs.length:=List.length_pos_iff.2 hne
        have hb:b<w.heap.size:=lt_of_cell (hA.cell 0 0 hpos (show (0:Nat)<1 from Nat.one_pos)).1
        have h0:(g.tk 0).1=some ⟨b,off,none⟩:=by rw[htk]
        rw[h0]
        refine (Tryz.slices_Compact_int b off (g.tk 0).2 xs w hH hmax hcap).mono ?_
        rintro e w' ⟨rfl,q,rfl⟩
        rw[lib_compact]
        have hcl:=compactI_len xs
        have hp2:=putR_of (n:=q) (os:=#[]) hb hH (d:=(compactI xs++List.replicate (xs.length - (compactI xs).length) 0).toArray) (by simp;omega)
        rw[grow_empty] at hp2
        obtain⟨us,hus⟩ : ∃ us,us=(compactI xs++List.replicate (xs.length - (compactI xs).length) 0).toArray.toList.map (Value.int .i64):=⟨_,rfl⟩
        rw[← hus] at hp2
        have hul:us.length=xs.length:=by rw[hus];simp;omega
        have hget:∀ i (hi:i<(compactI xs).length),us[i]? = some (.int .i64 (compactI xs)[i]):=fun i hi=>by
          rw[hus]
          rw[List.getElem?_map,show ∀ l : List Int,l.toArray.toList=l from fun _=>rfl,List.getElem?_append_left hi,List.getElem?_eq_getElem hi];rfl
        obtain⟨r1,r2⟩:=ObRel.put (w':=_) (ys:=compactI xs) (τ:=.int) rfl htk hb hp.own hA hp2 hul (by omega) hcap hmax (fun i hi d hd=>by
          have hd':some (V.s (.int .i64 (compactI xs)[i]))=some d:=hd
          cases hd'
          exact⟨_,hget i hi,.s _ (h1 _ (compactI_sub xs _ (List.getElem_mem hi)))⟩)
        refine⟨_,rfl,g,?_,⟨fun k fz cells hk'=>by simp at hk',hp.lbs,fun k o ho=>?_,fun b' o x hx=>Nat.lt_of_lt_of_le (hp.own b' o x hx) hp2.size⟩,fun _ _=>rfl,fun b' o x _ hx=>?_,?_⟩
        · refine FExt.put (fr:=⟨w,g.mine,g.St,0,g.β⟩) hp2 (fun i hi=>?_) (by omega)
          rw[hul] at hi
          have:=(hA.cell i 0 hi (show (0:Nat)<1 from Nat.one_pos)).2
          have e:off+i*Un.sz .int+0=off+i:=by show off+i*1+0=_;omega
          rw[e] at this
          exact⟨_,by simp,(this.2 (Nat.zero_le _)).1⟩
        · cases k with
          | zero=>simp at ho;subst ho;exact⟨r1,rfl⟩
          | succ k=>simp at ho
        · cases x with
          | st=>exact .inr ⟨rfl,hx⟩
          | box k=>exact .inl ⟨_,by simp,hx⟩
          | obj k=>exact .inl ⟨_,by simp,hx⟩
        · exact⟨rfl,_,rfl,Nat.le_refl _,fun _=>by rw[htk]⟩
  · simp at h
end Go.Proofs.YtolbngdhgcbmgaaGreat.B
