/- tabellionlaw20.NaiveSays returns true, for arguments of bulk at most 1048576, and leaves all memory as it was. -/
import Derived.SizedLaws
import Derived.JoinedCond
import Derived.Test.YtjfpbchdcbhfgaaGreatNsy22
import Derived.Test.YtjfpbchdcbhfgaaGreatRows
namespace Go.Proofs.YtjfpbchdcbhfgaaGreat.naiveSaysUpto
open Go.ChangeShapes Go.WideShapes Go.ChangeAt Go.RowKit
open Go Go.Proofs.YtjfpbchdcbhfgaaGreat.B
set_option linter.unusedVariables false

theorem own:ownKnob Tryz.prog.godebug=none:=by kernel_rfl

set_option maxRecDepth 100000 in
theorem lifted(os:Os)(started:os.Started)(H:Type)(enc:TypeId×Value→H)(F:Stop.Interp):
 ReturnsInHanded {} Tryz.checked os 3 .any ((Rows.OpenSpec.upto Rows.naiveSaysSpec).pre6 enc Tryz.prog Tryz.f3 Rows.naiveSaysUptoRow.domain false) (((Rows.OpenSpec.upto Rows.naiveSaysSpec).at F).post enc Tryz.prog Tryz.f3 false true false false):=by
 refine returnsInHanded_of_cond (C:=Tryz.checked) (s:=Rows.OpenSpec.upto Rows.naiveSaysSpec) (k:=Rows.uptoSmall) rfl own started (by kernel_rfl) Tryz.func3
  (OpenSpec.witness (enc:=enc) (C:=Tryz.checked) (s:=Rows.OpenSpec.upto Rows.naiveSaysSpec) (k:=Rows.uptoSmall) rfl false ⟨#[],#[.agg #[.int .i64 0, .string ⟨#[]⟩, .slice none 0 0, .slice none 0 0, .slice none 0 0, .slice none 0 0, .slice none 0 0, .int .i64 0, .int .i64 0, .bool false, .slice none 0 0], .slice none 0 0],[]⟩ 12 (by kernel_rfl) (by kernel_rfl) (by kernel_rfl)
   (x:=([.agg [.lit (.int .i64 0), .lit (.string []), .nil, .nil, .nil, .nil, .nil, .lit (.int .i64 0), .lit (.int .i64 0), .lit (.bool false), .nil], .nil],[],[])) (by kernel_rfl) rfl (by kernel_rfl)) ?_
 intro W base args ds gs before hval0 hW hcnd hk _
 have hval:∀(j:Nat) t v,Tryz.f3.params[j]?=some t→args[j]?=some v→Value.okWide Tryz.prog W .any base t v:=hval0
 have hW2:=hW
 obtain⟨p,q,hA0,hV,rfl,hfz,hnd⟩:=hW
 have hA:DataW.TrodAll enc Tryz.prog W 0 (fun _=>true) true Tryz.f3.params.toList args.toList ds p:=hA0
 rw[Tryz.params3]at hA hval
 obtain⟨v0,vs0,d0,ds0,p0,q0,hargs,rfl,rfl,h0,r0⟩:=trodAll_cons hA
 obtain⟨v1,vs1,d1,ds1,p1,q1,rfl,rfl,rfl,h1,r1⟩:=trodAll_cons r0
 obtain⟨rfl,rfl,rfl⟩:=trodAll_nil r1
 obtain rfl:args=#[v0,v1]:=by cases args;simp_all
 obtain⟨rfl,rfl⟩:=trodVars_none hV
 obtain⟨a0,w0, -,b0⟩:=auT .rel (auV (t:=29)<|by kernel_rfl).choose_spec (by kernel_rfl) (hval 0 29 v0 rfl rfl) h0
 obtain⟨a1,w1, -,b1⟩:=auS (auU (t:=30) (τ:= .data)<|by kernel_rfl) (hval 1 30 v1 rfl rfl) h1
 have hsum:Rows.uptoBulkAll ([d0,d1]++[])≤1048576:=of_decide_eq_true hk
 simp only[de,Rows.uptoBulkAll]at hsum
 clear hA0 hval0
 simp only[de]at hW2
 have hc:=auX aAM (args:=[.d (.agg (B.enc Ty.rel a0)), .d (.v (.dat (U:=Un) Ty.data a1))]) (by
  unfold Rw
  simp only[zK,auW]
  rfl) (by
  intro p hp
  simp only[yh,pH,or_false]at hp
  have e0:=bkR a0 _ b0
  obtain⟨f0,g0⟩:=abt a0 _ b0<|by omega
  have g1:=at6 b1<|by omega
  rcases hp with rfl|rfl|rfl|rfl
  ·omega
  ·omega
  ·exact f0
  ·exact g1) (w:=W) (vs:=[v0,v1]) ⟨w0,w1,trivial⟩
 refine hc.mono fun e W3 ⟨he,hg⟩=> ?_
 subst he
 exact⟨_,rfl,aiM (by kernel_rfl) (by kernel_rfl) (tb:=4) (by kernel_rfl) Tryz.underlying4 rfl (fun l hl=>match l,hl with|[_,_],_=>⟨rfl,rfl,rfl⟩) hW2 hg⟩

theorem over:Rows.naiveSaysUptoRow.holds Tryz.pinned (Rows.OpenSpec.upto Rows.naiveSaysSpec):=
 OpenClaim.holds_of_cond 3 Tryz.f3 rfl rfl rfl rfl rfl rfl rfl ⟨rfl,rfl,rfl,rfl,rfl⟩ rfl rfl rfl rfl rfl (by kernel_rfl) Tryz.func3 (by kernel_rfl)
  (of_decide_eq_true<|by kernel_rfl) (by unfold Func.isWrapper;first|(rw[if_pos<|by decide+kernel];kernel_rfl)|(rw[if_neg<|by decide+kernel];exact⟨rfl,rfl⟩))
  (fun os started H enc _ F=>lifted os started H enc F)

/-- The statement. -/
theorem proved:Rows.NaiveSaysUptoSaid:=
 over
#print axioms proved
end Go.Proofs.YtjfpbchdcbhfgaaGreat.naiveSaysUpto
