/- tabellionlaw20.NaiveJoins returns true, for arguments of bulk at most 1048576, and leaves all memory as it was. -/
import Derived.SizedLaws
import Derived.JoinedCond
import Derived.Test.YtjfpbchdcbhfgaaGreatNjo19
import Derived.Test.YtjfpbchdcbhfgaaGreatRows
namespace Go.Proofs.YtjfpbchdcbhfgaaGreat.naiveJoinsUpto
open Go.ChangeShapes Go.WideShapes Go.ChangeAt Go.RowKit
open Go Go.Proofs.YtjfpbchdcbhfgaaGreat.B
set_option linter.unusedVariables false

theorem own:ownKnob Tryz.prog.godebug=none:=by kernel_rfl

set_option maxRecDepth 100000 in
theorem lifted(os:Os)(started:os.Started)(H:Type)(enc:TypeId×Value→H)(F:Stop.Interp):
  ReturnsInHanded {} Tryz.checked os 5 .any ((Rows.OpenSpec.upto Rows.naiveJoinsSpec).pre6 enc Tryz.prog Tryz.f5 Rows.naiveJoinsUptoRow.domain false) (((Rows.OpenSpec.upto Rows.naiveJoinsSpec).at F).post enc Tryz.prog Tryz.f5 false true false false):=by
 refine returnsInHanded_of_cond (C:=Tryz.checked) (s:=Rows.OpenSpec.upto Rows.naiveJoinsSpec) (k:=Rows.uptoSmall) rfl own started (by kernel_rfl) Tryz.func5
  (OpenSpec.witness (enc:=enc) (C:=Tryz.checked) (s:=Rows.OpenSpec.upto Rows.naiveJoinsSpec) (k:=Rows.uptoSmall) rfl false ⟨#[],#[.agg #[.int .i64 0, .string ⟨#[]⟩, .slice none 0 0, .slice none 0 0, .slice none 0 0, .slice none 0 0, .slice none 0 0, .int .i64 0, .int .i64 0, .bool false, .slice none 0 0, .int .i64 0, .string ⟨#[]⟩, .slice none 0 0, .slice none 0 0, .slice none 0 0, .slice none 0 0, .slice none 0 0, .int .i64 0, .int .i64 0, .bool false, .slice none 0 0], .agg #[.int .i64 0, .int .i64 0, .int .i64 0, .string ⟨#[]⟩, .int .i64 0, .int .i64 0, .string ⟨#[]⟩, .slice none 0 0, .slice none 0 0, .int .i64 0], .slice none 0 0],[]⟩ 12 (by kernel_rfl) (by kernel_rfl) (by kernel_rfl)
   (x:=([.agg [.agg [.lit (.int .i64 0), .lit (.string []), .nil, .nil, .nil, .nil, .nil, .lit (.int .i64 0), .lit (.int .i64 0), .lit (.bool false), .nil], .agg [.lit (.int .i64 0), .lit (.string []), .nil, .nil, .nil, .nil, .nil, .lit (.int .i64 0), .lit (.int .i64 0), .lit (.bool false), .nil]], .agg [.lit (.int .i64 0), .agg [.lit (.int .i64 0), .lit (.int .i64 0), .lit (.string [])], .lit (.int .i64 0), .lit (.int .i64 0), .lit (.string []), .nil, .nil, .lit (.int .i64 0)], .nil],[],[])) (by kernel_rfl) rfl (by kernel_rfl)) ?_
 intro W base args ds gs before hval0 hW hcnd hk _
 have hval:∀(j:Nat) t v,Tryz.f5.params[j]?=some t→args[j]?=some v→Value.okWide Tryz.prog W .any base t v:=hval0
 have hW2:=hW
 obtain⟨p,q,hA0,hV,rfl,hfz,hnd⟩:=hW
 have hA:DataW.TrodAll enc Tryz.prog W 0 (fun _=>true) true Tryz.f5.params.toList args.toList ds p:=hA0
 rw[Tryz.params5]at hA hval
 obtain⟨v0,vs0,d0,ds0,p0,q0,hargs,rfl,rfl,h0,r0⟩:=trodAll_cons hA
 obtain⟨v1,vs1,d1,ds1,p1,q1,rfl,rfl,rfl,h1,r1⟩:=trodAll_cons r0
 obtain⟨v2,vs2,d2,ds2,p2,q2,rfl,rfl,rfl,h2,r2⟩:=trodAll_cons r1
 obtain⟨rfl,rfl,rfl⟩:=trodAll_nil r2
 obtain rfl:args=#[v0,v1,v2]:=by cases args;simp_all
 obtain⟨rfl,rfl⟩:=trodVars_none hV
 obtain⟨a,b,w0,nb0,nb1,b0,b3,hn⟩:=z2m6 (t:=51) (e:=29) (by kernel_rfl) (by kernel_rfl) (hval 0 51 v0 rfl rfl) h0
 obtain⟨a1,w1, -,b1⟩:=z2o8 .term (z2p9 (t:=39) (by kernel_rfl)).choose_spec (by kernel_rfl) (hval 1 39 v1 rfl rfl) h1
 obtain⟨a2,w2, -,b2⟩:=z2o7 (z2p8 (t:=30) (τ:= .data) (by kernel_rfl)) (hval 2 30 v2 rfl rfl) h2
 have hsum:Rows.uptoBulkAll ([d0,d1,d2]++[])≤1048576:=of_decide_eq_true hk
 simp only[y13,Rows.uptoBulkAll]at hsum
 clear hA0 hval0
 simp only[y13]at hW2
 have hc:=z2j5 z1ew (args:=[.d (.agg (B.enc Ty.rel a++B.enc Ty.rel b)), .d (.agg (B.enc Ty.term a1)), .d (.v (.dat (U:=Un) Ty.data a2))]) (by
  have ea:dec .rel ((B.enc Ty.rel a++B.enc Ty.rel b).take 11)=some a:=by cases a;rfl
  have eb:dec .rel ((B.enc Ty.rel a++B.enc Ty.rel b).drop 11)=some b:=by cases a;cases b;rfl
  show((dec .rel ((B.enc Ty.rel a++B.enc Ty.rel b).take 11)).bind fun p=>(dec .rel ((B.enc Ty.rel a++B.enc Ty.rel b).drop 11)).bind fun q=>(dS .term (.d (.agg (B.enc Ty.term a1)))).bind fun t=>(dL .data (.d (.v (.dat (U:=Un) Ty.data a2)))).bind fun db=>some ([p.sz+q.sz+t.sz≤1900000,clR p≤2000000,clR q≤2000000,clT t≤2000000,txR p,txR q,txT t,DbG db],zv8 (zdl p q t db),zv9 (zdl p q t db)))=_
  rw[ea,yh,eb,yh,z2q2,yh,z1ml,yh]
  rfl) (by
  intro p hp
  simp only[yg,y2k,or_false]at hp
  have e0:=bkR a _ b0
  have e3:=bkR b _ b3
  have e1:=bkT a1 _ b1
  obtain⟨f0,g0⟩:=z2f0 a _ b0 (by omega)
  obtain⟨f3,g3⟩:=z2f0 b _ b3 (by omega)
  obtain⟨f1,g1⟩:=bkTx a1 _ b1 (by omega)
  have g2:=z2p4 b2 (by omega)
  rcases hp with rfl|rfl|rfl|rfl|rfl|rfl|rfl|rfl
  ·omega
  ·omega
  ·omega
  ·omega
  ·exact f0
  ·exact f3
  ·exact f1
  ·exact g2) (w:=W) (vs:=[v0,v1,v2]) ⟨w0,w1,w2,trivial⟩
 refine hc.mono fun e W3 ⟨he,hg⟩=> ?_
 subst he
 exact⟨_,rfl,z2kf (by kernel_rfl) (by kernel_rfl) (tb:=4) (by kernel_rfl) Tryz.underlying4 rfl (fun l hl=>match l,hl with|[_,_,_],_=>⟨rfl,rfl,rfl⟩) hW2 hg⟩

theorem over:Rows.naiveJoinsUptoRow.holds Tryz.pinned (Rows.OpenSpec.upto Rows.naiveJoinsSpec):=
 OpenClaim.holds_of_cond 5 Tryz.f5 rfl rfl rfl rfl rfl rfl rfl ⟨rfl,rfl,rfl,rfl,rfl⟩ rfl rfl rfl rfl rfl (by kernel_rfl) Tryz.func5 (by kernel_rfl)
  (of_decide_eq_true (by kernel_rfl)) (by unfold Func.isWrapper;first|(rw[if_pos (by decide+kernel)];kernel_rfl)|(rw[if_neg (by decide+kernel)];exact⟨rfl,rfl⟩))
  (fun os started H enc _ F=>lifted os started H enc F)

/-- The statement. -/
theorem proved:Rows.NaiveJoinsUptoSaid:=
 over
#print axioms proved
end Go.Proofs.YtjfpbchdcbhfgaaGreat.naiveJoinsUpto
