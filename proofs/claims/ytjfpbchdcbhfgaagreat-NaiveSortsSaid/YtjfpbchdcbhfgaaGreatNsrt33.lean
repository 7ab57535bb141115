/- Part 33 of the proof: Slaw20a. -/
import Derived.Test.YtjfpbchdcbhfgaaGreatNsrt32
namespace Go.Proofs.YtjfpbchdcbhfgaaGreat.B
open Go Go.RowKit
set_option maxRecDepth 100000
noncomputable section
attribute [local irreducible] awp ctxK z12 z1o retQ z2i awf ctxF zt
def ztr : Mc Un:=mach (tbl [(32,z52),(14,zdd)]) (tbl []) (tbl []) (tbl []) (tbl [])
def z185 (r:Bool) : List (A Un):=[.c (.s (.bool r))]
def z186 (_r:Bool) : List (Ob Un):=[]
def zlh (r:Bool) : RF Un:=(z185 r,z186 r)
def z187 : Nat→NS:=fun l=>(look l []).getD ⟨[],[],[],[],[],true⟩
def zq2 : Option (RF Un):=awf ztr z187 (z8 Tryz.f12) (zg Tryz.f12.ntmps 0 []) (retF ztr Tryz.f12.results.toList [.d])
theorem z1rx : zq2=obO (okRl { env:=[],db:=[{ table:=(ByteArray.mk #[116]),rows:=[[(zh (1:Int))],[(zh (2:Int))],[z7]] }] } (Rel.mk (3:Int) (ByteArray.mk #[]) [{ table:=(ByteArray.mk #[]),name:=(ByteArray.mk #[97]),type:=(2:Int) }] [(Rel.mk (1:Int) (ByteArray.mk #[116]) [{ table:=(ByteArray.mk #[]),name:=(ByteArray.mk #[97]),type:=(2:Int) }] [] [] [] [] (0:Int) (0:Int) false [])] [(Term.mk (13:Int) z7 (0:Int) (0:Int) (ByteArray.mk #[]) [(Term.mk (2:Int) z7 (0:Int) (0:Int) (ByteArray.mk #[]) [] [] (2:Int)),(Term.mk (1:Int) (zh (2:Int)) (0:Int) (0:Int) (ByteArray.mk #[]) [] [] (2:Int))] [] (1:Int))] [] [] (0:Int) (0:Int) false [])) (cndO ((↑(z44 (Rel.mk (3:Int) (ByteArray.mk #[]) [{ table:=(ByteArray.mk #[]),name:=(ByteArray.mk #[97]),type:=(2:Int) }] [(Rel.mk (1:Int) (ByteArray.mk #[116]) [{ table:=(ByteArray.mk #[]),name:=(ByteArray.mk #[97]),type:=(2:Int) }] [] [] [] [] (0:Int) (0:Int) false [])] [(Term.mk (13:Int) z7 (0:Int) (0:Int) (ByteArray.mk #[]) [(Term.mk (2:Int) z7 (0:Int) (0:Int) (ByteArray.mk #[]) [] [] (2:Int)),(Term.mk (1:Int) (zh (2:Int)) (0:Int) (0:Int) (ByteArray.mk #[]) [] [] (2:Int))] [] (1:Int))] [] [] (0:Int) (0:Int) false []) [{ table:=(ByteArray.mk #[116]),rows:=[[(zh (1:Int))],[(zh (2:Int))],[z7]] }]).length:Int) == (1:Int)) (obO ((0:Int)≤(0:Int)∧(0:Int)<(↑(z44 (Rel.mk (3:Int) (ByteArray.mk #[]) [{ table:=(ByteArray.mk #[]),name:=(ByteArray.mk #[97]),type:=(2:Int) }] [(Rel.mk (1:Int) (ByteArray.mk #[116]) [{ table:=(ByteArray.mk #[]),name:=(ByteArray.mk #[97]),type:=(2:Int) }] [] [] [] [] (0:Int) (0:Int) false [])] [(Term.mk (13:Int) z7 (0:Int) (0:Int) (ByteArray.mk #[]) [(Term.mk (2:Int) z7 (0:Int) (0:Int) (ByteArray.mk #[]) [] [] (2:Int)),(Term.mk (1:Int) (zh (2:Int)) (0:Int) (0:Int) (ByteArray.mk #[]) [] [] (2:Int))] [] (1:Int))] [] [] (0:Int) (0:Int) false []) [{ table:=(ByteArray.mk #[116]),rows:=[[(zh (1:Int))],[(zh (2:Int))],[z7]] }]).length:Int)) (cndO ((↑(List.length ((z44 (Rel.mk (3:Int) (ByteArray.mk #[]) [{ table:=(ByteArray.mk #[]),name:=(ByteArray.mk #[97]),type:=(2:Int) }] [(Rel.mk (1:Int) (ByteArray.mk #[116]) [{ table:=(ByteArray.mk #[]),name:=(ByteArray.mk #[97]),type:=(2:Int) }] [] [] [] [] (0:Int) (0:Int) false [])] [(Term.mk (13:Int) z7 (0:Int) (0:Int) (ByteArray.mk #[]) [(Term.mk (2:Int) z7 (0:Int) (0:Int) (ByteArray.mk #[]) [] [] (2:Int)),(Term.mk (1:Int) (zh (2:Int)) (0:Int) (0:Int) (ByteArray.mk #[]) [] [] (2:Int))] [] (1:Int))] [] [] (0:Int) (0:Int) false []) [{ table:=(ByteArray.mk #[116]),rows:=[[(zh (1:Int))],[(zh (2:Int))],[z7]] }]).getD 0 [])):Int) == (1:Int)) (obO ((0:Int)≤(0:Int)∧(0:Int)<(↑(z44 (Rel.mk (3:Int) (ByteArray.mk #[]) [{ table:=(ByteArray.mk #[]),name:=(ByteArray.mk #[97]),type:=(2:Int) }] [(Rel.mk (1:Int) (ByteArray.mk #[116]) [{ table:=(ByteArray.mk #[]),name:=(ByteArray.mk #[97]),type:=(2:Int) }] [] [] [] [] (0:Int) (0:Int) false [])] [(Term.mk (13:Int) z7 (0:Int) (0:Int) (ByteArray.mk #[]) [(Term.mk (2:Int) z7 (0:Int) (0:Int) (ByteArray.mk #[]) [] [] (2:Int)),(Term.mk (1:Int) (zh (2:Int)) (0:Int) (0:Int) (ByteArray.mk #[]) [] [] (2:Int))] [] (1:Int))] [] [] (0:Int) (0:Int) false []) [{ table:=(ByteArray.mk #[116]),rows:=[[(zh (1:Int))],[(zh (2:Int))],[z7]] }]).length:Int)) (obO ((0:Int)≤(0:Int)∧(0:Int)<(↑(List.length ((z44 (Rel.mk (3:Int) (ByteArray.mk #[]) [{ table:=(ByteArray.mk #[]),name:=(ByteArray.mk #[97]),type:=(2:Int) }] [(Rel.mk (1:Int) (ByteArray.mk #[116]) [{ table:=(ByteArray.mk #[]),name:=(ByteArray.mk #[97]),type:=(2:Int) }] [] [] [] [] (0:Int) (0:Int) false [])] [(Term.mk (13:Int) z7 (0:Int) (0:Int) (ByteArray.mk #[]) [(Term.mk (2:Int) z7 (0:Int) (0:Int) (ByteArray.mk #[]) [] [] (2:Int)),(Term.mk (1:Int) (zh (2:Int)) (0:Int) (0:Int) (ByteArray.mk #[]) [] [] (2:Int))] [] (1:Int))] [] [] (0:Int) (0:Int) false []) [{ table:=(ByteArray.mk #[116]),rows:=[[(zh (1:Int))],[(zh (2:Int))],[z7]] }]).getD 0 [])):Int)) (some (zlh (andB [EK.int IntKind.i64,EK.str] ((List.getD ((z44 (Rel.mk (3:Int) (ByteArray.mk #[]) [{ table:=(ByteArray.mk #[]),name:=(ByteArray.mk #[97]),type:=(2:Int) }] [(Rel.mk (1:Int) (ByteArray.mk #[116]) [{ table:=(ByteArray.mk #[]),name:=(ByteArray.mk #[97]),type:=(2:Int) }] [] [] [] [] (0:Int) (0:Int) false [])] [(Term.mk (13:Int) z7 (0:Int) (0:Int) (ByteArray.mk #[]) [(Term.mk (2:Int) z7 (0:Int) (0:Int) (ByteArray.mk #[]) [] [] (2:Int)),(Term.mk (1:Int) (zh (2:Int)) (0:Int) (0:Int) (ByteArray.mk #[]) [] [] (2:Int))] [] (1:Int))] [] [] (0:Int) (0:Int) false []) [{ table:=(ByteArray.mk #[116]),rows:=[[(zh (1:Int))],[(zh (2:Int))],[z7]] }]).getD 0 []) 0 z7).kind == (zh (1:Int)).kind) (andB [EK.str] ((List.getD ((z44 (Rel.mk (3:Int) (ByteArray.mk #[]) [{ table:=(ByteArray.mk #[]),name:=(ByteArray.mk #[97]),type:=(2:Int) }] [(Rel.mk (1:Int) (ByteArray.mk #[116]) [{ table:=(ByteArray.mk #[]),name:=(ByteArray.mk #[97]),type:=(2:Int) }] [] [] [] [] (0:Int) (0:Int) false [])] [(Term.mk (13:Int) z7 (0:Int) (0:Int) (ByteArray.mk #[]) [(Term.mk (2:Int) z7 (0:Int) (0:Int) (ByteArray.mk #[]) [] [] (2:Int)),(Term.mk (1:Int) (zh (2:Int)) (0:Int) (0:Int) (ByteArray.mk #[]) [] [] (2:Int))] [] (1:Int))] [] [] (0:Int) (0:Int) false []) [{ table:=(ByteArray.mk #[116]),rows:=[[(zh (1:Int))],[(zh (2:Int))],[z7]] }]).getD 0 []) 0 z7).n == (zh (1:Int)).n) (andB [] ((List.getD ((z44 (Rel.mk (3:Int) (ByteArray.mk #[]) [{ table:=(ByteArray.mk #[]),name:=(ByteArray.mk #[97]),type:=(2:Int) }] [(Rel.mk (1:Int) (ByteArray.mk #[116]) [{ table:=(ByteArray.mk #[]),name:=(ByteArray.mk #[97]),type:=(2:Int) }] [] [] [] [] (0:Int) (0:Int) false [])] [(Term.mk (13:Int) z7 (0:Int) (0:Int) (ByteArray.mk #[]) [(Term.mk (2:Int) z7 (0:Int) (0:Int) (ByteArray.mk #[]) [] [] (2:Int)),(Term.mk (1:Int) (zh (2:Int)) (0:Int) (0:Int) (ByteArray.mk #[]) [] [] (2:Int))] [] (1:Int))] [] [] (0:Int) (0:Int) false []) [{ table:=(ByteArray.mk #[116]),rows:=[[(zh (1:Int))],[(zh (2:Int))],[z7]] }]).getD 0 []) 0 z7).s.toList == (zh (1:Int)).s.toList) true))))))) (some (zlh (false))))) (some (zlh (false)))):=by kernel_rfl
def colA : Term:=.mk 2 z7 0 0 ⟨#[]⟩ [] [] 2
def cA : Term:=.mk 1 (zh 2) 0 0 ⟨#[]⟩ [] [] 2
def lessA : Term:=.mk 13 z7 0 0 ⟨#[]⟩ [colA,cA] [] 1
def tabA : Rel:=.mk 1 ⟨#[116]⟩ [⟨⟨#[]⟩,⟨#[97]⟩,2⟩] [] [] [] [] 0 0 false []
def relA : Rel:=.mk 3 ⟨#[]⟩ [⟨⟨#[]⟩,⟨#[97]⟩,2⟩] [tabA] [lessA] [] [] 0 0 false []
def dbA : List Data:=[⟨⟨#[116]⟩,[[zh 1],[zh 2],[z7]]⟩]
theorem z242 {x:Val} (h:z43 x) : nT colA (zp ⟨[],dbA⟩ [x])=some x:=by
 rw[z1nl,if_pos (.inr rfl),zxo ⟨by decide,(z1gw colA).2 ⟨Nat.zero_le _,trivial⟩,fun r hr v hv=>by
  rw[List.mem_singleton.1 hr] at hv
  rw[List.mem_singleton.1 hv];exact h⟩]
 unfold z3d
 rw[z19m,if_neg (by decide),if_pos (show colA.op=2 from rfl)]
 rfl
theorem z25m {x:Val} (h:z43 x) : nT cA (zp ⟨[],dbA⟩ [x])=some (zh 2):=by
 rw[z1nl,if_pos (.inl rfl),zxo ⟨by decide,(z1gw cA).2 ⟨Nat.zero_le _,trivial⟩,fun r hr v hv=>by
  rw[List.mem_singleton.1 hr] at hv
  rw[List.mem_singleton.1 hv];exact h⟩]
 unfold z3d
 rw[z19m,if_pos (show cA.op=1 from rfl)]
 rfl
theorem z1ai {x:Val} (h:z43 x) : nT lessA (zp ⟨[],dbA⟩ [x])=some (z1x 13 ⟨#[]⟩ [x,zh 2]):=by
 have hk:nTs lessA.kids (zp ⟨[],dbA⟩ [x])=some [x,zh 2]:=by
  show nTs [colA,cA] _=_
  simp only[nTs,z242 h,z25m h,Option.bind_some]
 rw[z1nl,if_neg (by decide),if_neg (by decide),if_neg (by decide),if_neg (by decide),if_pos (by decide),hk,Option.bind_some,zxo ⟨by show 2≤2000000;decide,fun y hy=>by
  rcases List.mem_cons.1 hy with rfl | hy
  ·exact h
  ·rw[List.mem_singleton.1 hy];exact Nat.zero_le _⟩]
 rfl
theorem z243 : z1x 13 ⟨#[]⟩ [zh 1,zh 2]=z2z true:=by kernel_rfl
theorem z244 : z1x 13 ⟨#[]⟩ [zh 2,zh 2]=z2z false:=by kernel_rfl
theorem z245 : z1x 13 ⟨#[]⟩ [z7,zh 2]=z7:=by kernel_rfl
theorem soA1 : nSo [lessA] (zp ⟨[],dbA⟩ [zh 1])=some true:=by
 simp only[nSo,z1ai (zrf 1),z243,Option.bind_some]
 rw[if_pos (by kernel_rfl)]
theorem soA2 : nSo [lessA] (zp ⟨[],dbA⟩ [zh 2])=some false:=by
 simp only[nSo,z1ai (zrf 2),z244,Option.bind_some]
 rw[if_neg (by rw[show z3e (z2z false)=0 by kernel_rfl];decide)]
theorem soA3 : nSo [lessA] (zp ⟨[],dbA⟩ [z7])=some false:=by
 simp only[nSo,z1ai z7k,z245,Option.bind_some]
 rw[if_neg (by rw[show z3e z7=1 by kernel_rfl];decide)]
theorem z246 : nR tabA ⟨[],dbA⟩=some [[zh 1],[zh 2],[z7]]:=by
 rw[zxp,if_pos (show tabA.op=1 from rfl),zxo ⟨by decide,fun d hd=>by rw[List.mem_singleton.1 hd];decide⟩]
 have e:z8s ⟨[],dbA⟩ tabA.table=[[zh 1],[zh 2],[z7]]:=by
  unfold z8s
  simp [dbA,tabA,Rel.table_mk]
 rw[e]
 rfl
theorem z1uo : nR relA ⟨[],dbA⟩=some [[zh 1]]:=by
 have hk:nKid relA.kids 0 ⟨[],dbA⟩=some [[zh 1],[zh 2],[z7]]:=by
  rw[zoc,if_pos (by decide)]
  exact z246
 rw[zxp,if_neg (by decide),if_neg (by decide),if_pos (show relA.op=3 from rfl)]
 unfold filO
 rw[if_pos (by decide)]
 show ((nKid relA.kids 0 ⟨[],dbA⟩).bind fun l=>zf2 (fun x=>nSo [lessA] (zp ⟨[],dbA⟩ x)) l).bind capQ=_
 rw[hk,Option.bind_some]
 simp only[zf2,soA1,soA2,soA3,Option.bind_some]
 rfl
def z5l : Bool:=true
theorem z1if : zq2=some (zlh z5l):=by
 have h:z44 relA dbA=[[zh 1]]:=z9h z1uo
 have e:=z1rx
 rw[show zq2=_ from e,z6 ⟨_,z1uo⟩]
 simp only[za]
 have h2:z44 (Rel.mk (3:Int) (ByteArray.mk #[]) [{ table:=(ByteArray.mk #[]),name:=(ByteArray.mk #[97]),type:=(2:Int) }] [(Rel.mk (1:Int) (ByteArray.mk #[116]) [{ table:=(ByteArray.mk #[]),name:=(ByteArray.mk #[97]),type:=(2:Int) }] [] [] [] [] (0:Int) (0:Int) false [])] [(Term.mk (13:Int) z7 (0:Int) (0:Int) (ByteArray.mk #[]) [(Term.mk (2:Int) z7 (0:Int) (0:Int) (ByteArray.mk #[]) [] [] (2:Int)),(Term.mk (1:Int) (zh (2:Int)) (0:Int) (0:Int) (ByteArray.mk #[]) [] [] (2:Int))] [] (1:Int))] [] [] (0:Int) (0:Int) false []) [{ table:=(ByteArray.mk #[116]),rows:=[[(zh (1:Int))],[(zh (2:Int))],[z7]] }]=[[zh 1]]:=h
 rw[h2]
 simp [obO,andB,z5l]
def zli : FnC Un:=fun args=>match args with
 | []=>some ([],z185 (z5l),z186 (z5l))
 | _=>none
theorem z1ry : FnOK 12 zli:=by
 intro args ob rs os h hob
 unfold zli at h
 split at h
 ·simp only[Option.bind_eq_some_iff,Option.some.injEq,Prod.mk.injEq] at h
  obtain⟨rfl,rfl,rfl⟩:=h
  exact⟨zd (M:=ztr) rfl (zf (l1:=[(32,z52),(14,zdd)]) (l2:=[]) (l3:=[]) (l4:=[]) (l5:=[]) ⟨zdx,z13i,trivial⟩ trivial trivial trivial trivial) Tryz.func12 (by kernel_rfl) z187 0 [.d] (fun hwf=>(z1if)),zb Tryz.func12 (by kernel_rfl) (by kernel_rfl)⟩
 ·simp at h
def z2w : Mc Un:=mach (tbl [(12,zli),(33,zsd),(14,zdd),(27,zs7),(13,znt)]) (tbl []) (tbl []) (tbl []) (tbl [])
def zq3 (r:Bool) : List (A Un):=[.c (.s (.bool r))]
def zq4 (_r:Bool) : List (Ob Un):=[]
def z1n (r:Bool) : RF Un:=(zq3 r,zq4 r)
def z2h : Nat→NS:=fun l=>(look l [(5,{ ts:=bl 174 483,bs:=bl 174 32,nm:=[],cs:=true }),(11,{ ts:=bl 174 739,bs:=bl 174 32,nm:=[],cs:=true }),(20,{ ts:=bl 174 7201,bs:=bl 174 1056,nm:=[(.sl 11,696),(.cell 10 2,697),(.cell 10 3,698)],cs:=true })]).getD ⟨[],[],[],[],[],true⟩
def z10 (l:List (List Val)) (keys:List By) (v0:Int):=z44 (Rel.mk (12:Int) (ByteArray.mk #[]) (List.replicate v0.toNat z47) [Rel.mk (2:Int) (ByteArray.mk #[]) (List.replicate v0.toNat z47) [] [] [] [] (0:Int) (0:Int) false l] [] [] keys (0:Int) (0:Int) false []) []
def zfn (l:List (List Val)) (keys:List By) (two0:Int) (two1:Int) (v0:Int):=z44 (Rel.mk (13:Int) (ByteArray.mk #[]) (List.replicate v0.toNat z47) [Rel.mk (12:Int) (ByteArray.mk #[]) (List.replicate v0.toNat z47) [Rel.mk (2:Int) (ByteArray.mk #[]) (List.replicate v0.toNat z47) [] [] [] [] (0:Int) (0:Int) false l] [] [] keys (0:Int) (0:Int) false []] [] [] [] (List.foldl (fun a b=>if a<b then b else a) (List.foldl (fun a b=>if b<a then b else a) two0 [(1000000000000000:Int)]) [(-1:Int)]) (List.foldl (fun a b=>if a<b then b else a) (List.foldl (fun a b=>if b<a then b else a) two1 [(1000000000000000:Int)]) [(0:Int)]) false []) []
def zn4 (l:List (List Val)) (keys:List By) (two0:Int) (two1:Int) (v0:Int):=zhc (zfn l keys two0 two1 v0) (List.drop (List.foldl (fun a b=>if b<a then b else a) (List.foldl (fun a b=>if a<b then b else a) (List.foldl (fun a b=>if b<a then b else a) two1 [(1000000000000000:Int)]) [(0:Int)]) [(↑(z10 l keys v0).length:Int)]).toNat (List.take (↑(z10 l keys v0).length:Int).toNat (z10 l keys v0)))
def z4k (l:List (List Val)) (keys:List By) (two0:Int) (two1:Int) (v0:Int) (v1:Int) : S Un:=(st 174 174 699 0 [(0,al .row l),(1,al .by_ keys),(5,ax 5),(6,ab false),(7,ai v0),(8,ai v1)] [(5,some (false,[C.s (Value.int IntKind.i64 two0),C.s (Value.int IntKind.i64 two1)]))] [])
def zbz (l:List (List Val)) (keys:List By) (two0:Int) (two1:Int) (v0:Int) (v1:Int) (v2:Bool) : S Un:=(st 174 174 699 0 [(0,al .row l),(1,al .by_ keys),(5,ax 5),(6,ab v2),(7,ai v0),(8,ai v1)] [(5,some (false,[C.s (Value.int IntKind.i64 two0),C.s (Value.int IntKind.i64 two1)]))] [])
def z33 (l:List (List Val)) (keys:List By) (two0:Int) (two1:Int) (v0:Int) (v3:Int) : S Un:=(st 174 174 699 0 [(0,al .row l),(1,al .by_ keys),(5,ax 5),(6,ab false),(7,ai v0),(9,ai v3)] [(5,some (false,[C.s (Value.int IntKind.i64 two0),C.s (Value.int IntKind.i64 two1)]))] [])
def zb9 (l:List (List Val)) (keys:List By) (two0:Int) (two1:Int) (v0:Int) (v3:Int) (v4:Bool) : S Un:=(st 174 174 699 0 [(0,al .row l),(1,al .by_ keys),(5,ax 5),(6,ab v4),(7,ai v0),(9,ai v3)] [(5,some (false,[C.s (Value.int IntKind.i64 two0),C.s (Value.int IntKind.i64 two1)]))] [])
def z46 (l:List (List Val)) (keys:List By) (two0:Int) (two1:Int) (v0:Int) (v5:Int) (v6:List (List Val)) : S Un:=(st 174 174 699 0 [(0,al .row l),(5,ax 5),(10,ax 10),(11,ao 696),(12,ai v5)] [(5,some (false,[C.s (Value.int IntKind.i64 two0),C.s (Value.int IntKind.i64 two1)])),(10,some (false,[C.s (Value.int IntKind.i64 (12:Int)),C.s (Value.string (ByteArray.mk #[])),C.ob (697:Nat) (0:Nat),C.ob (698:Nat) (0:Nat),C.sl Ty.term [] true,C.sl Ty.agg [] true,C.sl Ty.by_ keys false,C.s (Value.int IntKind.i64 (0:Int)),C.s (Value.int IntKind.i64 (0:Int)),C.s (Value.bool false),C.sl Ty.row [] true]))] [(696,some ⟨(0:Nat),Ty.row,v6,some (0:Nat),true⟩),(697,some ⟨(0:Nat),Ty.col,List.replicate v0.toNat z47,some (0:Nat),true⟩),(698,some ⟨(0:Nat),Ty.rel,[(Rel.mk (2:Int) (ByteArray.mk #[]) (List.replicate v0.toNat z47) [] [] [] [] (0:Int) (0:Int) false l)],some (0:Nat),true⟩)])
noncomputable def zn5 : Code:=sub (z8 Tryz.f8) [1,1,1,0,1,2,2]
def z8j : S Un→Option (EX Un):=zt (z2h 5) (fun s Q=>awf z2w z2h zn5 s Q)
noncomputable def zma : Code:=sub (z8 Tryz.f8) [1,1,1,1,0,1,2,2]
def z6d : S Un→Option (EX Un):=zt (z2h 11) (fun s Q=>awf z2w z2h zma s Q)
noncomputable def zmb : Code:=sub (z8 Tryz.f8) [1,1,1,1,1,1,1,1,0,1,2,2]
def zaz : S Un→Option (EX Un):=zt (z2h 20) (fun s Q=>awf z2w z2h zmb s Q)
def z8k : Exit→S Un→Option (RF Un):=ctxF z2w z2h (z8 Tryz.f8) [1,1,1,0,1,2] (retF z2w Tryz.f8.results.toList [.d])
def z6e : Exit→S Un→Option (RF Un):=ctxF z2w z2h (z8 Tryz.f8) [1,1,1,1,0,1,2] (retF z2w Tryz.f8.results.toList [.d])
def zef : Exit→S Un→Option (RF Un):=ctxF z2w z2h (z8 Tryz.f8) [1,1,1,1,1,1,1,1,0,1,2] (retF z2w Tryz.f8.results.toList [.d])
def zn6 (l:List (List Val)) (keys:List By) (two0:Int) (two1:Int) : Option (RF Un):=awf z2w z2h (z8 Tryz.f8) (zg Tryz.f8.ntmps 3 [.d (.v (.dat (U:=Un) Ty.row l)),.d (.v (.dat (U:=Un) Ty.by_ keys)),.d (.agg [.s (.int .i64 two0),.s (.int .i64 two1)])]) (retF z2w Tryz.f8.results.toList [.d])
theorem z157 (l:List (List Val)) (keys:List By) (two0:Int) (two1:Int) : zn6 l keys two0 two1=cndO (decide ((↑l.length:Int) > (12:Int))) (some (z1n (z5l))) (cndO (decide ((↑keys.length:Int) > (4:Int))) (some (z1n (z5l))) ((z8j (z4k l keys two0 two1 (0:Int) (0:Int))).bind (zx z8k))):=by kernel_rfl
def zbd (l:List (List Val)) (keys:List By) (two0:Int) (two1:Int) (v0:Int) (v1:Int) : Option (EX Un):=obO (0≤v1∧v1<(↑l.length:Int)) (cndO (decide ((↑(List.length (l.getD v1.toNat [])):Int) > (6:Int))) (some (.ret,(zbz l keys two0 two1 v0 v1 z5l))) (obO (0≤v1∧v1<(↑l.length:Int)) (z8j (z4k l keys two0 two1 (↑(List.length (l.getD v1.toNat [])):Int) (IntKind.i64.wrap (v1+1))))))
theorem zn7 (l:List (List Val)) (keys:List By) (two0:Int) (two1:Int) (v0:Int) (v1:Int) : z8j (z4k l keys two0 two1 v0 v1)=cndO (decide (v1<(↑l.length:Int))) (cndO (decide (v1 > 0)) (obO (0≤v1∧v1<(↑l.length:Int)) (cndO ((↑(List.length (l.getD v1.toNat [])):Int) != v0) (some (.ret,(zbz l keys two0 two1 v0 v1 z5l))) (zbd l keys two0 two1 v0 v1))) (zbd l keys two0 two1 v0 v1)) (some (.exit 0,(z4k l keys two0 two1 v0 v1))):=(z11 (z2h 5) zn5 _).trans (by kernel_rfl)
theorem zi6 (l:List (List Val)) (keys:List By) (two0:Int) (two1:Int) (v0:Int) (v1:Int) (v2:Bool) : z8k .ret (zbz l keys two0 two1 v0 v1 v2)=some (z1n (v2)):=by kernel_rfl
theorem zy2 (l:List (List Val)) (keys:List By) (two0:Int) (two1:Int) (v0:Int) (v1:Int) : z8k (.exit 0) (z4k l keys two0 two1 v0 v1)=(z6d (z33 l keys two0 two1 v0 (0:Int))).bind (zx z6e):=by kernel_rfl
theorem zmc (l:List (List Val)) (keys:List By) (two0:Int) (two1:Int) (v0:Int) (v3:Int) : z6d (z33 l keys two0 two1 v0 v3)=cndO (decide (v3<(↑keys.length:Int))) (obO (0≤v3∧v3<(↑keys.length:Int)) (cndO (decide ((keys.getD v3.toNat z6n).at_<0)) (some (.ret,(zb9 l keys two0 two1 v0 v3 z5l))) (obO (0≤v3∧v3<(↑keys.length:Int)) (cndO (decide ((keys.getD v3.toNat z6n).at_≥v0)) (some (.ret,(zb9 l keys two0 two1 v0 v3 z5l))) (z6d (z33 l keys two0 two1 v0 (IntKind.i64.wrap (v3+1)))))))) (some (.exit 2,(z33 l keys two0 two1 v0 v3))):=(z11 (z2h 11) zma _).trans (by kernel_rfl)
theorem zgb (l:List (List Val)) (keys:List By) (two0:Int) (two1:Int) (v0:Int) (v3:Int) (v4:Bool) : z6e .ret (zb9 l keys two0 two1 v0 v3 v4)=some (z1n (v4)):=by kernel_rfl
theorem zw5 (l:List (List Val)) (keys:List By) (two0:Int) (two1:Int) (v0:Int) (v3:Int) : z6e (.exit 2) (z33 l keys two0 two1 v0 v3)=obO (0≤v0∧v0≤v0∧v0.toNat*(40:Nat)≤zw) (obO (0≤v0∧v0≤v0∧v0.toNat*(40:Nat)≤zw) (obO (z29 [] (Rel.mk (12:Int) (ByteArray.mk #[]) (List.replicate v0.toNat z47) [(Rel.mk (2:Int) (ByteArray.mk #[]) (List.replicate v0.toNat z47) [] [] [] [] (0:Int) (0:Int) false l)] [] [] keys (0:Int) (0:Int) false []).ht) (cndO (!z8a (Rel.mk (12:Int) (ByteArray.mk #[]) (List.replicate v0.toNat z47) [(Rel.mk (2:Int) (ByteArray.mk #[]) (List.replicate v0.toNat z47) [] [] [] [] (0:Int) (0:Int) false l)] [] [] keys (0:Int) (0:Int) false []) []) (some (z1n (z5l))) ((zaz (z46 l keys two0 two1 v0 (IntKind.i64.wrap ((↑l.length:Int) - (1:Int))) ([]))).bind (zx zef))))):=by kernel_rfl
theorem zmd (l:List (List Val)) (keys:List By) (two0:Int) (two1:Int) (v0:Int) (v5:Int) (v6:List (List Val)) : zaz (z46 l keys two0 two1 v0 v5 v6)=cndO (decide (v5≥0)) (obO (0≤v5∧v5<(↑l.length:Int)) (obO ((v6.length+[l.getD v5.toNat []].length)*(24:Nat)≤zw) (zaz (z46 l keys two0 two1 v0 (IntKind.i64.wrap (v5 - 1)) (v6++[l.getD v5.toNat []]))))) (some (.exit 4,(z46 l keys two0 two1 v0 v5 v6))):=(z11 (z2h 20) zmb _).trans (by kernel_rfl)
def zfo (l:List (List Val)) (keys:List By) (two0:Int) (two1:Int) (v0:Int) : Option (RF Un):=cndO (z5l) (obO (0≤List.foldl (fun a b=>if b<a then b else a) (List.foldl (fun a b=>if a<b then b else a) (List.foldl (fun a b=>if b<a then b else a) two1 [(1000000000000000:Int)]) [(0:Int)]) [(↑(z10 l keys v0).length:Int)]∧List.foldl (fun a b=>if b<a then b else a) (List.foldl (fun a b=>if a<b then b else a) (List.foldl (fun a b=>if b<a then b else a) two1 [(1000000000000000:Int)]) [(0:Int)]) [(↑(z10 l keys v0).length:Int)]≤(↑(z10 l keys v0).length:Int)∧(↑(z10 l keys v0).length:Int)≤(↑(z10 l keys v0).length:Int)) (some (z1n (zn4 l keys two0 two1 v0)))) (some (z1n (false)))
theorem zw6 (l:List (List Val)) (keys:List By) (two0:Int) (two1:Int) (v0:Int) (v5:Int) (v6:List (List Val)) : zef (.exit 4) (z46 l keys two0 two1 v0 v5 v6)=obO (okRl z145 (Rel.mk (12:Int) (ByteArray.mk #[]) (List.replicate v0.toNat z47) [(Rel.mk (2:Int) (ByteArray.mk #[]) (List.replicate v0.toNat z47) [] [] [] [] (0:Int) (0:Int) false l)] [] [] keys (0:Int) (0:Int) false [])) (cndO (!zod (z10 l keys v0) l) (some (z1n (false))) (obO (okRl z145 (Rel.mk (12:Int) (ByteArray.mk #[]) (List.replicate v0.toNat z47) [(Rel.mk (2:Int) (ByteArray.mk #[]) (List.replicate v0.toNat z47) [] [] [] [] (0:Int) (0:Int) false v6)] [] [] keys (0:Int) (0:Int) false [])) (cndO (!zhc (z10 l keys v0) (z44 (Rel.mk (12:Int) (ByteArray.mk #[]) (List.replicate v0.toNat z47) [(Rel.mk (2:Int) (ByteArray.mk #[]) (List.replicate v0.toNat z47) [] [] [] [] (0:Int) (0:Int) false v6)] [] [] keys (0:Int) (0:Int) false []) [])) (some (z1n (false))) (obO (okRl z145 (Rel.mk (13:Int) (ByteArray.mk #[]) (List.replicate v0.toNat z47) [(Rel.mk (12:Int) (ByteArray.mk #[]) (List.replicate v0.toNat z47) [(Rel.mk (2:Int) (ByteArray.mk #[]) (List.replicate v0.toNat z47) [] [] [] [] (0:Int) (0:Int) false l)] [] [] keys (0:Int) (0:Int) false [])] [] [] [] (List.foldl (fun a b=>if a<b then b else a) (List.foldl (fun a b=>if b<a then b else a) two0 [(1000000000000000:Int)]) [(-1:Int)]) (List.foldl (fun a b=>if a<b then b else a) (List.foldl (fun a b=>if b<a then b else a) two1 [(1000000000000000:Int)]) [(0:Int)]) false [])) (cndO (decide (List.foldl (fun a b=>if b<a then b else a) two0 [(1000000000000000:Int)]≥0)) (cndO (decide (List.foldl (fun a b=>if b<a then b else a) two0 [(1000000000000000:Int)]<IntKind.i64.wrap ((↑(z10 l keys v0).length:Int) - List.foldl (fun a b=>if b<a then b else a) (List.foldl (fun a b=>if a<b then b else a) (List.foldl (fun a b=>if b<a then b else a) two1 [(1000000000000000:Int)]) [(0:Int)]) [(↑(z10 l keys v0).length:Int)]))) (cndO (z5l) (obO (0≤List.foldl (fun a b=>if b<a then b else a) (List.foldl (fun a b=>if a<b then b else a) (List.foldl (fun a b=>if b<a then b else a) two1 [(1000000000000000:Int)]) [(0:Int)]) [(↑(z10 l keys v0).length:Int)]∧List.foldl (fun a b=>if b<a then b else a) (List.foldl (fun a b=>if a<b then b else a) (List.foldl (fun a b=>if b<a then b else a) two1 [(1000000000000000:Int)]) [(0:Int)]) [(↑(z10 l keys v0).length:Int)]≤IntKind.i64.wrap (List.foldl (fun a b=>if b<a then b else a) (List.foldl (fun a b=>if a<b then b else a) (List.foldl (fun a b=>if b<a then b else a) two1 [(1000000000000000:Int)]) [(0:Int)]) [(↑(z10 l keys v0).length:Int)]+List.foldl (fun a b=>if b<a then b else a) two0 [(1000000000000000:Int)])∧IntKind.i64.wrap (List.foldl (fun a b=>if b<a then b else a) (List.foldl (fun a b=>if a<b then b else a) (List.foldl (fun a b=>if b<a then b else a) two1 [(1000000000000000:Int)]) [(0:Int)]) [(↑(z10 l keys v0).length:Int)]+List.foldl (fun a b=>if b<a then b else a) two0 [(1000000000000000:Int)])≤(↑(z10 l keys v0).length:Int)) (some (z1n (zhc (zfn l keys two0 two1 v0) (List.drop (List.foldl (fun a b=>if b<a then b else a) (List.foldl (fun a b=>if a<b then b else a) (List.foldl (fun a b=>if b<a then b else a) two1 [(1000000000000000:Int)]) [(0:Int)]) [(↑(z10 l keys v0).length:Int)]).toNat (List.take (IntKind.i64.wrap (List.foldl (fun a b=>if b<a then b else a) (List.foldl (fun a b=>if a<b then b else a) (List.foldl (fun a b=>if b<a then b else a) two1 [(1000000000000000:Int)]) [(0:Int)]) [(↑(z10 l keys v0).length:Int)]+List.foldl (fun a b=>if b<a then b else a) two0 [(1000000000000000:Int)])).toNat (z10 l keys v0))))))) (some (z1n (false)))) (zfo l keys two0 two1 v0)) (zfo l keys two0 two1 v0)))))):=by kernel_rfl
theorem z1ig : z5l=true:=rfl
theorem z1rz {a b:List (List Val)} (keys:List By) (h:a.Perm b) : z2b a keys=z2b b keys:=by
 have hp:=zpj keys
 refine List.Perm.eq_of_pairwise (fun x y _ _ h1 h2=>?_) (zc5 hp a) (zc5 hp b) ((znm hp a).trans (h.trans (znm hp b).symm))
 have g1:¬ ord1 y x keys<0:=by simpa [leP] using h1
 have g2:¬ ord1 x y keys<0:=by simpa [leP] using h2
 have:=zrm x y keys
 exact z12o (keys:=keys) (by omega)
theorem z1up (cols:List Col) (l:Rows) (w:Wld) (h:l.length≤100000000) : nR (.mk 2 ⟨#[]⟩ cols [] [] [] [] 0 0 false l) w=some l:=by
 rw[zxp,if_neg (by simp only[Rel.op_mk];decide),if_pos (by rfl),Option.bind_some]
 show capQ l=some l
 unfold capQ
 rw[if_pos h]
theorem z1uq (cols:List Col) (k:Rel) (keys:List By) (l:Rows) (w:Wld) (hk:nR k w=some l) : nR (.mk 12 ⟨#[]⟩ cols [k] [] [] keys 0 0 false []) w=some (z2b l keys):=by
 have hl:=z1qu hk
 rw[zxp]
 rw[if_neg (by simp only[Rel.op_mk];decide),if_neg (by simp only[Rel.op_mk];decide),if_neg (by simp only[Rel.op_mk];decide),if_neg (by simp only[Rel.op_mk];decide),if_neg (by simp only[Rel.op_mk];decide),if_neg (by simp only[Rel.op_mk];decide),if_neg (by simp only[Rel.op_mk];decide),if_neg (by simp only[Rel.op_mk];decide),if_pos (by rfl)]
 rw[zoc,if_pos (by simp)]
 show ((nR k w).bind _).bind capQ=_
 rw[hk,Option.bind_some,Option.bind_some]
 unfold capQ
 rw[if_pos (by
  have : (z2b l keys).length=l.length:=z6b (zpj keys) l
  show (z2b l keys).length≤_
  omega)]
 rfl
theorem z22m (cols:List Col) (k:Rel) (limit skip:Int) (l:Rows) (w:Wld) (hk:nR k w=some l) : nR (.mk 13 ⟨#[]⟩ cols [k] [] [] [] limit skip false []) w=some (z2v l limit skip):=by
 have hl:=z1qu hk
 rw[zxp]
 rw[if_neg (by simp only[Rel.op_mk];decide),if_neg (by simp only[Rel.op_mk];decide),if_neg (by simp only[Rel.op_mk];decide),if_neg (by simp only[Rel.op_mk];decide),if_neg (by simp only[Rel.op_mk];decide),if_neg (by simp only[Rel.op_mk];decide),if_neg (by simp only[Rel.op_mk];decide),if_neg (by simp only[Rel.op_mk];decide),if_neg (by simp only[Rel.op_mk];decide),if_pos (by rfl)]
 rw[zoc,if_pos (by simp)]
 show ((nR k w).bind _).bind capQ=_
 rw[hk,Option.bind_some,Option.bind_some]
 unfold capQ
 rw[if_pos (by
  show (z2v l limit skip).length≤_
  unfold z2v
  split
  ·rw[List.length_take,List.length_drop];omega
  ·rw[List.length_drop];omega)]
 rfl
def zkf (_l:List (List Val)) (_keys:List By) (_two0 _two1:Int) : Bool:=true
theorem z20d (l:List (List Val)) (keys:List By) (two0 two1:Int) (h12:l.length≤12) (w:Int) (q:Int) :
  zef (.exit 4) (z46 l keys two0 two1 w q l.reverse)=some (z1n true):=by
 obtain⟨cols,hc⟩ : ∃ cols : List Col,cols=List.replicate w.toNat z47:=⟨_,rfl⟩
 have s1:nR (.mk 12 ⟨#[]⟩ cols [.mk 2 ⟨#[]⟩ cols [] [] [] [] 0 0 false l] [] [] keys 0 0 false []) ⟨[],[]⟩=some (z2b l keys):=z1uq _ _ _ _ _ (z1up _ _ _ (by omega))
 have s2:nR (.mk 12 ⟨#[]⟩ cols [.mk 2 ⟨#[]⟩ cols [] [] [] [] 0 0 false l.reverse] [] [] keys 0 0 false []) ⟨[],[]⟩=some (z2b l.reverse keys):=z1uq _ _ _ _ _ (z1up _ _ _ (by rw[List.length_reverse];omega))
 have hrev:z2b l.reverse keys=z2b l keys:=z1rz keys (List.reverse_perm l)
 obtain⟨S,hS⟩ : ∃ S,S=z2b l keys:=⟨_,rfl⟩
 have hSl:S.length≤12:=by rw[hS];have : (z2b l keys).length=l.length:=z6b (zpj keys) l;omega
 have hSp:S.Perm l:=by rw[hS];exact znm (zpj keys) l
 rw[hrev] at s2
 rw[← hS] at s1 s2
 have c1:z10 l keys w=S:=by rw[← z9h s1,hc];rfl
 have e2:z44 (.mk 12 ⟨#[]⟩ cols [.mk 2 ⟨#[]⟩ cols [] [] [] [] 0 0 false l.reverse] [] [] keys 0 0 false []) []=S:=z9h s2
 obtain⟨li,hli⟩ : ∃ li,li=List.foldl (fun a b=>if b<a then b else a) two0 [(1000000000000000:Int)]:=⟨_,rfl⟩
 obtain⟨sk,hsk⟩ : ∃ sk,sk=List.foldl (fun a b=>if a<b then b else a) (List.foldl (fun a b=>if b<a then b else a) two1 [(1000000000000000:Int)]) [(0:Int)]:=⟨_,rfl⟩
 obtain⟨l1,hl1⟩ : ∃ l1,l1=List.foldl (fun a b=>if a<b then b else a) li [(-1:Int)]:=⟨_,rfl⟩
 obtain⟨fr,hfr⟩ : ∃ fr,fr=List.foldl (fun a b=>if b<a then b else a) sk [(S.length:Int)]:=⟨_,rfl⟩
 have hli2:li≤1000000000000000:=by rw[hli];simp only[List.foldl_cons,List.foldl_nil];split<;>omega
 have hl12:l1=max li (-1):=by rw[hl1];simp only[List.foldl_cons,List.foldl_nil];split<;>omega
 have hsk2:0≤sk∧sk≤1000000000000000:=by rw[hsk];simp only[List.foldl_cons,List.foldl_nil];(repeat' split)<;>omega
 have hfr2:fr=min sk S.length:=by rw[hfr];simp only[List.foldl_cons,List.foldl_nil];split<;>omega
 have s3:nR (.mk 13 ⟨#[]⟩ cols [.mk 12 ⟨#[]⟩ cols [.mk 2 ⟨#[]⟩ cols [] [] [] [] 0 0 false l] [] [] keys 0 0 false []] [] [] [] l1 sk false []) ⟨[],[]⟩=some (z2v S l1 sk):=z22m _ _ _ _ _ _ s1
 have c2:zfn l keys two0 two1 w=z2v S l1 sk:=by rw[← z9h s3,hl1,hli,hsk,hc];rfl
 rw[zw6]
 unfold zfo zn4
 rw[c1,c2,← hc,← hli,← hsk,← hl1,← hfr,e2]
 rw[z6 ⟨_,s1⟩,z6 ⟨_,s2⟩,z6 ⟨_,s3⟩]
 simp only[za,z1ig,if_true]
 rw[if_neg (by rw[z22j hSp];decide),if_neg (by rw[show zhc S S=true from deq_iff.2 rfl];decide)]
 have hL:z2v S l1 sk=if 0≤l1∧l1<((S.length - fr.toNat:Nat):Int) then (S.drop fr.toNat).take l1.toNat else S.drop fr.toNat:=by
  unfold z2v
  rw[← hfr2,List.length_drop]
 have hw1:IntKind.i64.wrap ((S.length:Int) - fr)=(S.length:Int) - fr:=z2n (by omega)
 rw[hw1]
 by_cases d0 : li≥0
 ·rw[if_pos (by simpa using d0)]
  have hl3:l1=li:=by omega
  by_cases d1 : li<(S.length:Int) - fr
  ·have hw2:IntKind.i64.wrap (fr+li)=fr+li:=z2n (by omega)
   rw[if_pos (by simpa using d1),hw2,z6 (by omega),hL,if_pos (by omega),hl3]
   congr 2
   refine deq_iff.2 ?_
   rw[List.drop_take]
   congr 1
   omega
  ·rw[if_neg (by simpa using d1),z6 (by omega),hL,if_neg (by omega),Int.toNat_natCast,List.take_length]
   congr 2
   exact deq_iff.2 rfl
 ·rw[if_neg (by simpa using d0),z6 (by omega),hL,if_neg (by omega),Int.toNat_natCast,List.take_length]
  congr 2
  exact deq_iff.2 rfl
theorem z1fp (l:List (List Val)) (keys:List By) (two0 two1:Int) (w:Int) (h12:l.length≤12) : ∀ (n:Nat) (o:Rows),n≤l.length→o.length+n≤12→zaz (z46 l keys two0 two1 w ((n:Int) - 1) o)=some (.exit 4,z46 l keys two0 two1 w (-1) (o++(l.take n).reverse))
 | 0,o,_,_=>by
  rw[zmd]
  simp only[za]
  rw[if_neg (by simp)]
  simp
 | n+1,o,hn,ho=>by
  have e0:(((n+1:Nat):Int) - 1)=(n:Int):=by omega
  have hx:l.getD n []=l[n]:=by rw[List.getD_eq_getElem?_getD,List.getElem?_eq_getElem (by omega)];rfl
  rw[e0,zmd]
  simp only[za,Int.toNat_natCast]
  rw[if_pos (by simp),z6 (by omega),z6 (by unfold zw;rw[List.length_singleton];omega),z2n (show (-9223372036854775808:Int)≤(n:Int) - 1∧(n:Int) - 1≤9223372036854775807 by omega)]
  rw[z1fp l keys two0 two1 w h12 n (o++[l.getD n []]) (by omega) (by rw[List.length_append,List.length_singleton];omega)]
  have e:(l.take (n+1)).reverse=l[n]::(l.take n).reverse:=by
   rw[List.take_add_one,List.getElem?_eq_getElem (by omega),List.reverse_append];rfl
  rw[hx,e,List.append_assoc];rfl
theorem z20e (l:List (List Val)) (keys:List By) (two0 two1:Int) (h12:l.length≤12) (w:Int) (hw:0≤w∧w≤6) (q:Int) : z6e (.exit 2) (z33 l keys two0 two1 w q)=some (z1n true):=by
 have hr:w.toNat*40≤zw:=by unfold zw;omega
 rw[zw5,z6 ⟨hw.1,Int.le_refl _,hr⟩,z6 ⟨hw.1,Int.le_refl _,hr⟩,z6 (by unfold z29;simp [Rel.ht,htRs,htTs,htAs]),za]
 split
 ·rfl
 ·have e:IntKind.i64.wrap ((l.length:Int) - 1)=(l.length:Int) - 1:=z2n (by omega)
  rw[e]
  refine (zn (z1fp l keys two0 two1 w h12 l.length [] (Nat.le_refl _) (by simpa using h12))).trans ?_
  rw[List.take_length,List.nil_append]
  exact z20d l keys two0 two1 h12 w _
theorem z1xe (l:List (List Val)) (keys:List By) (two0 two1:Int) (h12:l.length≤12) (h4:keys.length≤4) (w:Int) (hw:0≤w∧w≤6) : (z6d (z33 l keys two0 two1 w 0)).bind (zx z6e)=some (z1n true):=by
 have key:∀ (r:List By) (i:Nat),keys.drop i=r→i≤keys.length→(z6d (z33 l keys two0 two1 w (i:Int))).bind (zx z6e)=some (z1n true):=by
  intro r
  induction r with
  | nil =>
   intro i hr hi
   have : keys.length≤i:=by rw[← List.drop_eq_nil_iff];exact hr
   have e:z6d (z33 l keys two0 two1 w (i:Int))=some (.exit 2,z33 l keys two0 two1 w (i:Int)):=by rw[zmc,za,if_neg (by simp;omega)]
   rw[zn e]
   exact z20e l keys two0 two1 h12 w hw _
  | cons x r ih =>
   intro i hr hi
   obtain⟨a1,a2,a3,hm⟩:=z31 hr
   have hx:keys.getD i z6n=x:=a2 z6n
   have hl:=zmc l keys two0 two1 w (i:Int)
   simp only[za,Int.toNat_natCast,hx,z4v a1 (show keys.length≤9223372036854775807 by omega)] at hl
   rw[if_pos (by simp;omega),z6 (by omega),z6 (by omega)] at hl
   split at hl
   ·rw[zn hl,zgb];rfl
   ·split at hl
    ·rw[zn hl,zgb];rfl
    ·rw[hl];exact ih (i+1) a3 (by omega)
 exact key keys 0 rfl (Nat.zero_le _)
theorem z102 (l:List (List Val)) (keys:List By) (two0 two1:Int) (_hl:WL .row l) (_hkeys:WL .by_ keys) : zn6 l keys two0 two1=some (z1n (zkf l keys two0 two1)):=by
 rw[z157]
 simp only[za]
 split
 ·rfl
 rename_i h12
 split
 ·rfl
 rename_i h4
 have h12':l.length≤12:=by simp at h12;omega
 have h4':keys.length≤4:=by simp at h4;omega
 have key:∀ (r:Rows) (i:Nat) (w:Int),l.drop i=r→i≤l.length→0≤w∧w≤6→(z8j (z4k l keys two0 two1 w (i:Int))).bind (zx z8k)=some (z1n true):=by
  intro r
  induction r with
  | nil =>
   intro i w hr hi hw
   have : l.length≤i:=by rw[← List.drop_eq_nil_iff];exact hr
   have e:z8j (z4k l keys two0 two1 w (i:Int))=some (.exit 0,z4k l keys two0 two1 w (i:Int)):=by rw[zn7,za,if_neg (by simp;omega)]
   rw[zn e,zy2]
   exact z1xe l keys two0 two1 h12' h4' w hw
  | cons x r ih =>
   intro i w hr hi hw
   obtain⟨a1,a2,a3,hm⟩:=z31 hr
   have hx:l.getD i []=x:=a2 []
   have ht:(zbd l keys two0 two1 w (i:Int)).bind (zx z8k)=some (z1n true):=by
    unfold zbd
    simp only[za,Int.toNat_natCast,hx,z4v a1 (show l.length≤9223372036854775807 by omega)]
    rw[z6 (by omega),z6 (by omega)]
    split
    ·exact zi6 _ _ _ _ _ _ _
    ·rename_i h6
     exact ih (i+1) (x.length:Int) a3 (by omega) ⟨by omega,by simp at h6;omega⟩
   rw[zn7]
   simp only[za,Int.toNat_natCast,hx]
   rw[if_pos (by simp;omega),z6 (by omega)]
   split
   ·split
    ·exact zi6 _ _ _ _ _ _ _
    ·exact ht
   ·exact ht
 exact key l 0 0 rfl (Nat.zero_le _) (by omega)
def zhf : FnC Un:=fun args=>match args with
 | [x0,x1,.d (.agg [.s (.int .i64 two0),.s (.int .i64 two1)])]=>(dL .row x0).bind fun l=>(dL .by_ x1).bind fun keys=>some ([],zq3 (zkf l keys two0 two1),zq4 (zkf l keys two0 two1))
 | _=>none
theorem z158 : FnOK 8 zhf:=by
 intro args ob rs os h hob
 unfold zhf at h
 split at h
 ·rename_i x0 x1 two0 two1
  simp only[Option.bind_eq_some_iff,Option.some.injEq,Prod.mk.injEq] at h
  obtain⟨l,e0,keys,e1,rfl,rfl,rfl⟩:=h
  obtain rfl:=z1i e0
  obtain rfl:=z1i e1
  exact⟨zd (M:=z2w) rfl (zf (l1:=[(12,zli),(33,zsd),(14,zdd),(27,zs7),(13,znt)]) (l2:=[]) (l3:=[]) (l4:=[]) (l5:=[]) ⟨z1ry,z1xd,z13i,z1x5,z1tf,trivial⟩ trivial trivial trivial trivial) Tryz.func8 (by kernel_rfl) z2h 3 [.d] (fun hwf=>(z102 l keys two0 two1 (ze hwf (a:=.d (.v (.dat (U:=Un) Ty.row l))) (List.mem_of_getElem? (i:=0) rfl)) (ze hwf (a:=.d (.v (.dat (U:=Un) Ty.by_ keys))) (List.mem_of_getElem? (i:=1) rfl)))),zb Tryz.func8 (by kernel_rfl) (by kernel_rfl)⟩
 ·simp at h
end
end Go.Proofs.YtjfpbchdcbhfgaaGreat.B
