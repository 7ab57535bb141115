/- Part 16 of the proof: Lbulkn BLaw Lgrow Sconcv Ldelete Lnlim Lbun Snaivb. -/
import Derived.Shelf.Spec.SlicesGrow
import Derived.Shelf.SlicesE.Delete
import Derived.Test.YtjfpbchdcbhfgaaGreatNgr15
set_option linter.unusedVariables false
set_option linter.unusedSimpArgs false
namespace Go.Proofs.YtjfpbchdcbhfgaaGreat
namespace B
open Go Go.RowKit
set_option linter.unusedVariables false
theorem BK.str_inv{s:ByteArray}{n:Nat}(h:BK (cs s) n):s.size≤n:=by
 cases h with
 |s _ _ h=>exact h s rfl
theorem z2km{v:Val}{n:Nat}(h:BKS (enc .val v) n)(hn:n≤2000000):z17 v:=by
 obtain⟨_,_,_,h,q2⟩:=h.cons_inv;obtain⟨_,_,_,h,q3⟩:=h.cons_inv;obtain⟨_,_,k0,_,q4⟩:=h.cons_inv;have e0:v.s.size≤_:=k0.str_inv;show v.s.size≤_;omega
theorem z2h5:∀(l:List Val)(n:Nat),BKL .val l n→n≤2000000→∀v∈l,z17 v
 |[],_,_,_=>by simp
 |x::r,n,h,hn=>by
  obtain⟨_,_,h1,h2,_⟩:=h.cons_inv;intro v hv;rcases yf.1 hv with rfl|hv
  ·exact z2km h1 (by omega)
  ·exact z2h5 r _ h2 (by omega) v hv
theorem z222:∀(l:List (List Val))(n:Nat),BKL .row l n→n≤2000000→z5p l∧l.length≤n
 |[],_,_,_=>⟨fun x hx=>absurd hx (by simp),ya _⟩
 |x::r,n,h,hn=>by
  obtain⟨_,_,h1,h2,_⟩:=h.cons_inv;obtain⟨_,_,k0,_,_⟩:=h1.cons_inv;obtain⟨g1,g2⟩:=z222 r _ h2 (by omega);refine⟨fun y hy=>?_,by rw[yt];omega⟩;rcases yf.1 hy with rfl|hy
  ·exact z2h5 _ _ k0.dat_inv (by omega)
  ·exact g1 y hy
mutual
theorem bkTx:∀(t:Term)(n:Nat),BKS (enc .term t) n→n≤2000000→txT t∧clT t≤n
 | .mk op v depth at_ name kids sub type,n,h,hn=>by
  obtain⟨_,_,_,h,q1⟩:=h.cons_inv;obtain⟨_,_,_,h,q2⟩:=h.cons_inv;obtain⟨_,_,_,h,q3⟩:=h.cons_inv;obtain⟨_,_,k0,h,q4⟩:=h.cons_inv;obtain⟨_,_,_,h,q5⟩:=h.cons_inv;obtain⟨_,_,_,h,q6⟩:=h.cons_inv;obtain⟨_,_,_,h,q7⟩:=h.cons_inv;obtain⟨_,_,k1,h,q8⟩:=h.cons_inv;obtain⟨_,_,k2,h,q9⟩:=h.cons_inv;have e0:v.s.size≤_:=k0.str_inv;have e1:=z1xf kids _ k1.dat_inv (by omega);have e2:=z223 sub _ k2.dat_inv (by omega);simp only[txT,clT];exact⟨⟨by show v.s.size≤_;omega,e1.1,e2.1⟩,by omega⟩
theorem z1xf:∀(l:List Term)(n:Nat),BKL .term l n→n≤2000000→txTs l∧clTs l≤n
 |[],_,_,_=>⟨trivial,ya _⟩
 |t::r,n,h,hn=>by
  obtain⟨_,_,h1,h2,_⟩:=h.cons_inv;have e1:=bkTx t _ h1 (by omega);have e2:=z1xf r _ h2 (by omega);simp only[clTs];exact⟨⟨e1.1,e2.1⟩,by omega⟩
theorem z2kn:∀(a:Agg)(n:Nat),BKS (enc .agg a) n→n≤2000000→txA a∧clA a≤n
 | .mk name d t,n,h,hn=>by
  obtain⟨_,_,_,h,q1⟩:=h.cons_inv;obtain⟨_,_,_,h,q2⟩:=h.cons_inv;obtain⟨_,_,k1,h,q3⟩:=h.cons_inv;have e1:=z1xf t _ k1.dat_inv (by omega);simp only[clA];exact⟨e1.1,by omega⟩
theorem z2ds:∀(l:List Agg)(n:Nat),BKL .agg l n→n≤2000000→txAs l∧clAs l≤n
 |[],_,_,_=>⟨trivial,ya _⟩
 |t::r,n,h,hn=>by
  obtain⟨_,_,h1,h2,_⟩:=h.cons_inv;have e1:=z2kn t _ h1 (by omega);have e2:=z2ds r _ h2 (by omega);simp only[clAs];exact⟨⟨e1.1,e2.1⟩,by omega⟩
theorem z2h6:∀(r:Rel)(n:Nat),BKS (enc .rel r) n→n≤2000000→txR r∧clR r≤n
 | .mk op table cols kids terms aggs keys limit skip all rows,n,h,hn=>by
  obtain⟨_,_,_,h,q1⟩:=h.cons_inv;obtain⟨_,_,_,h,q2⟩:=h.cons_inv;obtain⟨_,_,k0,h,q3⟩:=h.cons_inv;obtain⟨_,_,k1,h,q4⟩:=h.cons_inv;obtain⟨_,_,k2,h,q5⟩:=h.cons_inv;obtain⟨_,_,k3,h,q6⟩:=h.cons_inv;obtain⟨_,_,_,h,q7⟩:=h.cons_inv;obtain⟨_,_,_,h,q8⟩:=h.cons_inv;obtain⟨_,_,_,h,q9⟩:=h.cons_inv;obtain⟨_,_,_,h,q10⟩:=h.cons_inv;obtain⟨_,_,k4,h,q11⟩:=h.cons_inv;have e0:(cols:List Col).length≤_:=(BK.dat_inv k0).len;have e1:=z223 kids _ k1.dat_inv (by omega);have e2:=z1xf terms _ k2.dat_inv (by omega);have e3:=z2ds aggs _ k3.dat_inv (by omega);have e4:=z222 rows _ k4.dat_inv (by omega);simp only[txR,clR];exact⟨⟨e1.1,e2.1,e3.1,e4.1⟩,by omega⟩
theorem z223:∀(l:List Rel)(n:Nat),BKL .rel l n→n≤2000000→txRs l∧clRs l≤n
 |[],_,_,_=>⟨trivial,ya _⟩
 |t::r,n,h,hn=>by
  obtain⟨_,_,h1,h2,_⟩:=h.cons_inv;have e1:=z2h6 t _ h1 (by omega);have e2:=z223 r _ h2 (by omega);simp only[clRs];exact⟨⟨e1.1,e2.1⟩,by omega⟩
end
theorem bkDb:∀(db:List Data)(n:Nat),BKL .data db n→n≤2000000→db.length+zcm db≤n∧(∀d∈db,z5p d.rows)∧∀d∈db,d.rows.length≤2000000
 |[],_,_,_=>⟨ya _,by simp,by simp⟩
 |d::r,n,h,hn=>by
  obtain⟨_,_,h1,h2,_⟩:=h.cons_inv;obtain⟨_,_,_,h1,q1⟩:=h1.cons_inv;obtain⟨_,_,k0,h1,q2⟩:=h1.cons_inv;have e0:z5p d.rows∧d.rows.length≤_:=z222 d.rows _ k0.dat_inv (by omega);obtain⟨g1,g2,g3⟩:=bkDb r _ h2 (by omega);refine⟨by rw[yt];simp only[zcm];omega,fun x hx=>?_,fun x hx=>?_⟩
  ·rcases yf.1 hx with rfl|hx
   ·exact e0.1
   ·exact g2 x hx
  ·rcases yf.1 hx with rfl|hx
   ·have:=e0.2;omega
   ·exact g3 x hx
theorem z2jr{db:List Data}{n:Nat}(h:BKL .data db n)(hn:n≤2000000):DbG db:=by
 obtain⟨h1,h2,h3⟩:=bkDb db n h hn;exact⟨⟨by omega,fun d hd=>by have:=h3 d hd;omega⟩,by omega,h2⟩
end B
namespace B
open Go Go.RowKit Go.ChangeShapes
set_option maxRecDepth 1000000
theorem z2ic{vs:List (V Un)}(h:vs.map flOf=(fls .int).map some):∃x,dec .int vs=some x:=by
 have h0:vs.map flOf=([.int]:List Fl).map some:=h;obtain⟨a0,r0,rfl,h1⟩:=z27 h0;obtain rfl:=z3d h1;exact⟨_,rfl⟩
theorem z2id{vs:List (V Un)}(h:vs.map flOf=(fls .str).map some):∃x,dec .str vs=some x:=by
 have h0:vs.map flOf=([.str]:List Fl).map some:=h;obtain⟨a0,r0,rfl,h1⟩:=z9y h0;obtain rfl:=z3d h1;exact⟨_,rfl⟩
theorem z2ie{vs:List (V Un)}(h:vs.map flOf=(fls .row).map some):∃x,dec .row vs=some x:=by
 have h0:vs.map flOf=([.sl .val]:List Fl).map some:=h;obtain⟨a0,r0,rfl,h1⟩:=z2i h0;obtain rfl:=z3d h1;exact⟨_,rfl⟩
theorem z2gb{vs:List (V Un)}(h:vs.map flOf=(fls .ints).map some):∃x,dec .ints vs=some x:=by
 have h0:vs.map flOf=([.sl .int]:List Fl).map some:=h;obtain⟨a0,r0,rfl,h1⟩:=z2i h0;obtain rfl:=z3d h1;exact⟨_,rfl⟩
theorem z2gc{vs:List (V Un)}(h:vs.map flOf=(fls .trms).map some):∃x,dec .trms vs=some x:=by
 have h0:vs.map flOf=([.sl .term]:List Fl).map some:=h;obtain⟨a0,r0,rfl,h1⟩:=z2i h0;obtain rfl:=z3d h1;exact⟨_,rfl⟩
theorem z2dt{vs:List (V Un)}(h:vs.map flOf=(fls .colss).map some):∃x,dec .colss vs=some x:=by
 have h0:vs.map flOf=([.sl .col]:List Fl).map some:=h;obtain⟨a0,r0,rfl,h1⟩:=z2i h0;obtain rfl:=z3d h1;exact⟨_,rfl⟩
theorem z2du{vs:List (V Un)}(h:vs.map flOf=(fls .rowss).map some):∃x,dec .rowss vs=some x:=by
 have h0:vs.map flOf=([.sl .row]:List Fl).map some:=h;obtain⟨a0,r0,rfl,h1⟩:=z2i h0;obtain rfl:=z3d h1;exact⟨_,rfl⟩
theorem z2gd{vs:List (V Un)}(h:vs.map flOf=(fls .pair).map some):∃x,dec .pair vs=some x:=by
 have h0:vs.map flOf=([.int,.int]:List Fl).map some:=h;obtain⟨a0,r0,rfl,h1⟩:=z27 h0;obtain⟨a1,r1,rfl,h2⟩:=z27 h1;obtain rfl:=z3d h2;exact⟨_,rfl⟩
theorem z2if{vs:List (V Un)}(h:vs.map flOf=(fls .val).map some):∃x,dec .val vs=some x:=by
 have h0:vs.map flOf=([.int,.int,.str]:List Fl).map some:=h;obtain⟨a0,r0,rfl,h1⟩:=z27 h0;obtain⟨a1,r1,rfl,h2⟩:=z27 h1;obtain⟨a2,r2,rfl,h3⟩:=z9y h2;obtain rfl:=z3d h3;exact⟨_,rfl⟩
theorem z2ig{vs:List (V Un)}(h:vs.map flOf=(fls .col).map some):∃x,dec .col vs=some x:=by
 have h0:vs.map flOf=([.str,.str,.int]:List Fl).map some:=h;obtain⟨a0,r0,rfl,h1⟩:=z9y h0;obtain⟨a1,r1,rfl,h2⟩:=z9y h1;obtain⟨a2,r2,rfl,h3⟩:=z27 h2;obtain rfl:=z3d h3;exact⟨_,rfl⟩
theorem z2ih{vs:List (V Un)}(h:vs.map flOf=(fls .by_).map some):∃x,dec .by_ vs=some x:=by
 have h0:vs.map flOf=([.int,.bool]:List Fl).map some:=h;obtain⟨a0,r0,rfl,h1⟩:=z27 h0;obtain⟨a1,r1,rfl,h2⟩:=z6t h1;obtain rfl:=z3d h2;exact⟨_,rfl⟩
theorem z2dv{vs:List (V Un)}(h:vs.map flOf=(fls .bound).map some):∃x,dec .bound vs=some x:=by
 have h0:vs.map flOf=([.bool,.bool,.sl .val]:List Fl).map some:=h;obtain⟨a0,r0,rfl,h1⟩:=z6t h0;obtain⟨a1,r1,rfl,h2⟩:=z6t h1;obtain⟨a2,r2,rfl,h3⟩:=z2i h2;obtain rfl:=z3d h3;exact⟨_,rfl⟩
theorem z2dw{vs:List (V Un)}(h:vs.map flOf=(fls .often).map some):∃x,dec .often vs=some x:=by
 have h0:vs.map flOf=([.int,.int,.str,.int]:List Fl).map some:=h;obtain⟨a0,r0,rfl,h1⟩:=z27 h0;obtain⟨a1,r1,rfl,h2⟩:=z27 h1;obtain⟨a2,r2,rfl,h3⟩:=z9y h2;obtain⟨a3,r3,rfl,h4⟩:=z27 h3;obtain rfl:=z3d h4;exact⟨_,rfl⟩
theorem z25f{vs:List (V Un)}(h:vs.map flOf=(fls .colStat).map some):∃x,dec .colStat vs=some x:=by
 have h0:vs.map flOf=([.int,.int,.sl .val,.sl .often]:List Fl).map some:=h;obtain⟨a0,r0,rfl,h1⟩:=z27 h0;obtain⟨a1,r1,rfl,h2⟩:=z27 h1;obtain⟨a2,r2,rfl,h3⟩:=z2i h2;obtain⟨a3,r3,rfl,h4⟩:=z2i h3;obtain rfl:=z3d h4;exact⟨_,rfl⟩
theorem z2ge{vs:List (V Un)}(h:vs.map flOf=(fls .data).map some):∃x,dec .data vs=some x:=by
 have h0:vs.map flOf=([.str,.sl .row]:List Fl).map some:=h;obtain⟨a0,r0,rfl,h1⟩:=z9y h0;obtain⟨a1,r1,rfl,h2⟩:=z2i h1;obtain rfl:=z3d h2;exact⟨_,rfl⟩
theorem z2ii{vs:List (V Un)}(h:vs.map flOf=(fls .acc).map some):∃x,dec .acc vs=some x:=by
 have h0:vs.map flOf=([.str,.bool,.int,.int,.int,.int,.int,.str,.sl .val]:List Fl).map some:=h;obtain⟨a0,r0,rfl,h1⟩:=z9y h0;obtain⟨a1,r1,rfl,h2⟩:=z6t h1;obtain⟨a2,r2,rfl,h3⟩:=z27 h2;obtain⟨a3,r3,rfl,h4⟩:=z27 h3;obtain⟨a4,r4,rfl,h5⟩:=z27 h4;obtain⟨a5,r5,rfl,h6⟩:=z27 h5;obtain⟨a6,r6,rfl,h7⟩:=z27 h6;obtain⟨a7,r7,rfl,h8⟩:=z9y h7;obtain⟨a8,r8,rfl,h9⟩:=z2i h8;obtain rfl:=z3d h9;exact⟨_,rfl⟩
theorem z2gf{vs:List (V Un)}(h:vs.map flOf=(fls .stat).map some):∃x,dec .stat vs=some x:=by
 have h0:vs.map flOf=([.str,.int,.int,.sl .colStat]:List Fl).map some:=h;obtain⟨a0,r0,rfl,h1⟩:=z9y h0;obtain⟨a1,r1,rfl,h2⟩:=z27 h1;obtain⟨a2,r2,rfl,h3⟩:=z27 h2;obtain⟨a3,r3,rfl,h4⟩:=z2i h3;obtain rfl:=z3d h4;exact⟨_,rfl⟩
theorem z2a0{vs:List (V Un)}(h:vs.map flOf=(fls .column).map some):∃x,dec .column vs=some x:=by
 have h0:vs.map flOf=([.int,.int,.sl .val,.sl .often,.int,.int,.int]:List Fl).map some:=h;obtain⟨a0,r0,rfl,h1⟩:=z27 h0;obtain⟨a1,r1,rfl,h2⟩:=z27 h1;obtain⟨a2,r2,rfl,h3⟩:=z2i h2;obtain⟨a3,r3,rfl,h4⟩:=z2i h3;obtain⟨a4,r4,rfl,h5⟩:=z27 h4;obtain⟨a5,r5,rfl,h6⟩:=z27 h5;obtain⟨a6,r6,rfl,h7⟩:=z27 h6;obtain rfl:=z3d h7;exact⟨_,rfl⟩
theorem z2gg{vs:List (V Un)}(h:vs.map flOf=(fls .term).map some):∃x,dec .term vs=some x:=by
 have h0:vs.map flOf=([.int,.int,.int,.str,.int,.int,.str,.sl .term,.sl .rel,.int]:List Fl).map some:=h;obtain⟨a0,r0,rfl,h1⟩:=z27 h0;obtain⟨a1,r1,rfl,h2⟩:=z27 h1;obtain⟨a2,r2,rfl,h3⟩:=z27 h2;obtain⟨a3,r3,rfl,h4⟩:=z9y h3;obtain⟨a4,r4,rfl,h5⟩:=z27 h4;obtain⟨a5,r5,rfl,h6⟩:=z27 h5;obtain⟨a6,r6,rfl,h7⟩:=z9y h6;obtain⟨a7,r7,rfl,h8⟩:=z2i h7;obtain⟨a8,r8,rfl,h9⟩:=z2i h8;obtain⟨a9,r9,rfl,h10⟩:=z27 h9;obtain rfl:=z3d h10;exact⟨_,rfl⟩
theorem z2ij{vs:List (V Un)}(h:vs.map flOf=(fls .agg).map some):∃x,dec .agg vs=some x:=by
 have h0:vs.map flOf=([.str,.bool,.sl .term]:List Fl).map some:=h;obtain⟨a0,r0,rfl,h1⟩:=z9y h0;obtain⟨a1,r1,rfl,h2⟩:=z6t h1;obtain⟨a2,r2,rfl,h3⟩:=z2i h2;obtain rfl:=z3d h3;exact⟨_,rfl⟩
theorem z2ik{vs:List (V Un)}(h:vs.map flOf=(fls .rel).map some):∃x,dec .rel vs=some x:=by
 have h0:vs.map flOf=([.int,.str,.sl .col,.sl .rel,.sl .term,.sl .agg,.sl .by_,.int,.int,.bool,.sl .row]:List Fl).map some:=h;obtain⟨a0,r0,rfl,h1⟩:=z27 h0;obtain⟨a1,r1,rfl,h2⟩:=z9y h1;obtain⟨a2,r2,rfl,h3⟩:=z2i h2;obtain⟨a3,r3,rfl,h4⟩:=z2i h3;obtain⟨a4,r4,rfl,h5⟩:=z2i h4;obtain⟨a5,r5,rfl,h6⟩:=z2i h5;obtain⟨a6,r6,rfl,h7⟩:=z2i h6;obtain⟨a7,r7,rfl,h8⟩:=z27 h7;obtain⟨a8,r8,rfl,h9⟩:=z27 h8;obtain⟨a9,r9,rfl,h10⟩:=z6t h9;obtain⟨a10,r10,rfl,h11⟩:=z2i h10;obtain rfl:=z3d h11;exact⟨_,rfl⟩
theorem z2gh{vs:List (V Un)}(h:vs.map flOf=(fls .plan).map some):∃x,dec .plan vs=some x:=by
 have h0:vs.map flOf=([.int,.str,.str,.sl .col,.sl .plan,.sl .term,.sl .term,.sl .term,.sl .agg,.sl .by_,.sl .int,.bool,.bool,.sl .val,.bool,.bool,.sl .val,.int,.int,.bool,.sl .row,.int,.int]:List Fl).map some:=h;obtain⟨a0,r0,rfl,h1⟩:=z27 h0;obtain⟨a1,r1,rfl,h2⟩:=z9y h1;obtain⟨a2,r2,rfl,h3⟩:=z9y h2;obtain⟨a3,r3,rfl,h4⟩:=z2i h3;obtain⟨a4,r4,rfl,h5⟩:=z2i h4;obtain⟨a5,r5,rfl,h6⟩:=z2i h5;obtain⟨a6,r6,rfl,h7⟩:=z2i h6;obtain⟨a7,r7,rfl,h8⟩:=z2i h7;obtain⟨a8,r8,rfl,h9⟩:=z2i h8;obtain⟨a9,r9,rfl,h10⟩:=z2i h9;obtain⟨a10,r10,rfl,h11⟩:=z2i h10;obtain⟨a11,r11,rfl,h12⟩:=z6t h11;obtain⟨a12,r12,rfl,h13⟩:=z6t h12;obtain⟨a13,r13,rfl,h14⟩:=z2i h13;obtain⟨a14,r14,rfl,h15⟩:=z6t h14;obtain⟨a15,r15,rfl,h16⟩:=z6t h15;obtain⟨a16,r16,rfl,h17⟩:=z2i h16;obtain⟨a17,r17,rfl,h18⟩:=z27 h17;obtain⟨a18,r18,rfl,h19⟩:=z27 h18;obtain⟨a19,r19,rfl,h20⟩:=z6t h19;obtain⟨a20,r20,rfl,h21⟩:=z2i h20;obtain⟨a21,r21,rfl,h22⟩:=z27 h21;obtain⟨a22,r22,rfl,h23⟩:=z27 h22;obtain rfl:=z3d h23;exact⟨_,rfl⟩
theorem z2gi{vs:List (V Un)}(h:vs.map flOf=(fls .span).map some):∃x,dec .span vs=some x:=by
 have h0:vs.map flOf=([.sl .val,.bool,.bool,.sl .val,.bool,.bool,.sl .val,.int,.sl .term]:List Fl).map some:=h;obtain⟨a0,r0,rfl,h1⟩:=z2i h0;obtain⟨a1,r1,rfl,h2⟩:=z6t h1;obtain⟨a2,r2,rfl,h3⟩:=z6t h2;obtain⟨a3,r3,rfl,h4⟩:=z2i h3;obtain⟨a4,r4,rfl,h5⟩:=z6t h4;obtain⟨a5,r5,rfl,h6⟩:=z6t h5;obtain⟨a6,r6,rfl,h7⟩:=z2i h6;obtain⟨a7,r7,rfl,h8⟩:=z27 h7;obtain⟨a8,r8,rfl,h9⟩:=z2i h8;obtain rfl:=z3d h9;exact⟨_,rfl⟩
theorem z2js{vs:List (V Un)}(h:vs.map flOf=(fls .u8).map some):∃x,dec .u8 vs=some x:=by
 have h0:vs.map flOf=([.num .u8]:List Fl).map some:=h;obtain⟨a0,r0,rfl,h1⟩:=z2b4 h0;obtain rfl:=z3d h1;exact⟨_,rfl⟩
theorem z2il{vs:List (V Un)}(h:vs.map flOf=(fls .bol).map some):∃x,dec .bol vs=some x:=by
 have h0:vs.map flOf=([.bool]:List Fl).map some:=h;obtain⟨a0,r0,rfl,h1⟩:=z6t h0;obtain rfl:=z3d h1;exact⟨_,rfl⟩
theorem z2gj{vs:List (V Un)}(h:vs.map flOf=(fls .sign).map some):∃x,dec .sign vs=some x:=by
 have h0:vs.map flOf=([.int,.num .u8]:List Fl).map some:=h;obtain⟨a0,r0,rfl,h1⟩:=z27 h0;obtain⟨a1,r1,rfl,h2⟩:=z2b4 h1;obtain rfl:=z3d h2;exact⟨_,rfl⟩
theorem z2dx{vs:List (V Un)}(h:vs.map flOf=(fls .bunch).map some):∃x,dec .bunch vs=some x:=by
 have h0:vs.map flOf=([.sl .val,.sl .row]:List Fl).map some:=h;obtain⟨a0,r0,rfl,h1⟩:=z2i h0;obtain⟨a1,r1,rfl,h2⟩:=z2i h1;obtain rfl:=z3d h2;exact⟨_,rfl⟩
theorem z2im{vs:List (V Un)}(h:vs.map flOf=(fls .wld).map some):∃x,dec .wld vs=some x:=by
 have h0:vs.map flOf=([.sl .row,.sl .data]:List Fl).map some:=h;obtain⟨a0,r0,rfl,h1⟩:=z2i h0;obtain⟨a1,r1,rfl,h2⟩:=z2i h1;obtain rfl:=z3d h2;exact⟨_,rfl⟩
theorem z224:z2b6:=by
 intro τ vs h;cases τ with
 |int=>exact z2ic h
 |str=>exact z2id h
 |row=>exact z2ie h
 |ints=>exact z2gb h
 |trms=>exact z2gc h
 |colss=>exact z2dt h
 |rowss=>exact z2du h
 |pair=>exact z2gd h
 |u8=>exact z2js h
 |bol=>exact z2il h
 |val=>exact z2if h
 |col=>exact z2ig h
 |by_=>exact z2ih h
 |bound=>exact z2dv h
 |often=>exact z2dw h
 |colStat=>exact z25f h
 |data=>exact z2ge h
 |acc=>exact z2ii h
 |stat=>exact z2gf h
 |column=>exact z2a0 h
 |term=>exact z2gg h
 |agg=>exact z2ij h
 |rel=>exact z2ik h
 |plan=>exact z2gh h
 |sign=>exact z2gj h
 |bunch=>exact z2dx h
 |wld=>exact z2im h
 |span=>exact z2gi h
theorem z2jt:∀(τ:Ty)(x:Den τ),(B.enc τ x).map flOf=(fls τ).map some:=by intro τ x;cases τ<;>rfl
theorem z1ao{x y:Val}(h:B.enc .val x=B.enc .val y):x=y:=by
 cases x;cases y;simp only[B.enc,y1j,V.s.injEq,V.dat.injEq,Value.int.injEq,Value.bool.injEq,Value.string.injEq,heq_eq_eq,true_and,and_true,ci,cb,cs]at h;grind
theorem z2in{x y:Col}(h:B.enc .col x=B.enc .col y):x=y:=by
 cases x;cases y;simp only[B.enc,y1j,V.s.injEq,V.dat.injEq,Value.int.injEq,Value.bool.injEq,Value.string.injEq,heq_eq_eq,true_and,and_true,ci,cb,cs]at h;grind
theorem z2io{x y:By}(h:B.enc .by_ x=B.enc .by_ y):x=y:=by
 cases x;cases y;simp only[B.enc,y1j,V.s.injEq,V.dat.injEq,Value.int.injEq,Value.bool.injEq,Value.string.injEq,heq_eq_eq,true_and,and_true,ci,cb,cs]at h;grind
theorem zq6{x y:Bound}(h:B.enc .bound x=B.enc .bound y):x=y:=by
 cases x;cases y;simp only[B.enc,y1j,V.s.injEq,V.dat.injEq,Value.int.injEq,Value.bool.injEq,Value.string.injEq,heq_eq_eq,true_and,and_true,ci,cb,cs]at h;grind
theorem z2dy{x y:Often}(h:B.enc .often x=B.enc .often y):x=y:=by
 cases x;cases y;simp only[B.enc,y1j,V.s.injEq,V.dat.injEq,Value.int.injEq,Value.bool.injEq,Value.string.injEq,heq_eq_eq,true_and,and_true,ci,cb,cs]at h;simp;obtain⟨e0,e1,e2,e3⟩:=h;exact⟨z1ao (by simp_all[B.enc,ci,cb,cs]),e3⟩
theorem z1eh{x y:ColStat}(h:B.enc .colStat x=B.enc .colStat y):x=y:=by
 cases x;cases y;simp only[B.enc,y1j,V.s.injEq,V.dat.injEq,Value.int.injEq,Value.bool.injEq,Value.string.injEq,heq_eq_eq,true_and,and_true,ci,cb,cs]at h;grind
theorem z2gk{x y:Data}(h:B.enc .data x=B.enc .data y):x=y:=by
 cases x;cases y;simp only[B.enc,y1j,V.s.injEq,V.dat.injEq,Value.int.injEq,Value.bool.injEq,Value.string.injEq,heq_eq_eq,true_and,and_true,ci,cb,cs]at h;grind
theorem z2ip{x y:Acc}(h:B.enc .acc x=B.enc .acc y):x=y:=by
 cases x;cases y;simp only[B.enc,y1j,V.s.injEq,V.dat.injEq,Value.int.injEq,Value.bool.injEq,Value.string.injEq,heq_eq_eq,true_and,and_true,ci,cb,cs]at h;simp;obtain⟨e0,e1,e2,e3,e4,e5,e6,e7,e8⟩:=h;exact⟨e0,e1,e2,e3,e4,z1ao (by simp_all[B.enc,ci,cb,cs]),e8⟩
theorem z2gl{x y:Stat}(h:B.enc .stat x=B.enc .stat y):x=y:=by
 cases x;cases y;simp only[B.enc,y1j,V.s.injEq,V.dat.injEq,Value.int.injEq,Value.bool.injEq,Value.string.injEq,heq_eq_eq,true_and,and_true,ci,cb,cs]at h;grind
theorem z2a1{x y:Column}(h:B.enc .column x=B.enc .column y):x=y:=by
 cases x;cases y;simp only[B.enc,y1j,V.s.injEq,V.dat.injEq,Value.int.injEq,Value.bool.injEq,Value.string.injEq,heq_eq_eq,true_and,and_true,ci,cb,cs]at h;simp;obtain⟨e0,e1,e2,e3,e4,e5,e6⟩:=h;exact⟨z1eh (by simp_all[B.enc,ci,cb,cs]),e4,e5,e6⟩
theorem z2gm{x y:Term}(h:B.enc .term x=B.enc .term y):x=y:=by
 cases x;cases y;simp only[B.enc,Term.op_mk,Term.v_mk,Term.depth_mk,Term.at__mk,Term.name_mk,Term.kids_mk,Term.sub_mk,Term.type_mk,y1j,V.s.injEq,V.dat.injEq,Value.int.injEq,Value.bool.injEq,Value.string.injEq,heq_eq_eq,true_and,and_true,ci,cb,cs]at h;simp;obtain⟨e0,e1,e2,e3,e4,e5,e6,e7,e8,e9⟩:=h;exact⟨e0,z1ao (by simp_all[B.enc,ci,cb,cs]),e4,e5,e6,e7,e8,e9⟩
theorem z2iq{x y:Agg}(h:B.enc .agg x=B.enc .agg y):x=y:=by
 cases x;cases y;simp only[B.enc,Agg.name_mk,Agg.distinct_mk,Agg.t_mk,y1j,V.s.injEq,V.dat.injEq,Value.int.injEq,Value.bool.injEq,Value.string.injEq,heq_eq_eq,true_and,and_true,ci,cb,cs]at h;grind
theorem z2ir{x y:Rel}(h:B.enc .rel x=B.enc .rel y):x=y:=by
 cases x;cases y;simp only[B.enc,Rel.op_mk,Rel.table_mk,Rel.cols_mk,Rel.kids_mk,Rel.terms_mk,Rel.aggs_mk,Rel.keys_mk,Rel.limit_mk,Rel.skip_mk,Rel.all_mk,Rel.rows_mk,y1j,V.s.injEq,V.dat.injEq,Value.int.injEq,Value.bool.injEq,Value.string.injEq,heq_eq_eq,true_and,and_true,ci,cb,cs]at h;grind
theorem z2gn{x y:Plan}(h:B.enc .plan x=B.enc .plan y):x=y:=by
 cases x;cases y;simp only[B.enc,Plan.op_mk,Plan.table_mk,Plan.index_mk,Plan.cols_mk,Plan.kids_mk,Plan.terms_mk,Plan.lkeys_mk,Plan.rkeys_mk,Plan.aggs_mk,Plan.keys_mk,Plan.out_mk,Plan.lo_mk,Plan.hi_mk,Plan.limit_mk,Plan.skip_mk,Plan.all_mk,Plan.rows_mk,Plan.est_mk,Plan.cost_mk,y1j,V.s.injEq,V.dat.injEq,Value.int.injEq,Value.bool.injEq,Value.string.injEq,heq_eq_eq,true_and,and_true,ci,cb,cs]at h;simp;obtain⟨e0,e1,e2,e3,e4,e5,e6,e7,e8,e9,e10,e11,e12,e13,e14,e15,e16,e17,e18,e19,e20,e21,e22⟩:=h;exact⟨e0,e1,e2,e3,e4,e5,e6,e7,e8,e9,e10,zq6 (by simp_all[B.enc,ci,cb,cs]),zq6 (by simp_all[B.enc,ci,cb,cs]),e17,e18,e19,e20,e21,e22⟩
theorem z2go{x y:Span}(h:B.enc .span x=B.enc .span y):x=y:=by
 cases x;cases y;simp only[B.enc,y1j,V.s.injEq,V.dat.injEq,Value.int.injEq,Value.bool.injEq,Value.string.injEq,heq_eq_eq,true_and,and_true,ci,cb,cs]at h;simp;obtain⟨e0,e1,e2,e3,e4,e5,e6,e7,e8⟩:=h;exact⟨e0,zq6 (by simp_all[B.enc,ci,cb,cs]),zq6 (by simp_all[B.enc,ci,cb,cs]),e7,e8⟩
theorem z2gp{x y:Sign}(h:B.enc .sign x=B.enc .sign y):x=y:=by
 cases x;cases y;simp only[B.enc,y1j,V.s.injEq,V.dat.injEq,Value.int.injEq,Value.bool.injEq,Value.string.injEq,heq_eq_eq,true_and,and_true,ci,cu8,cb,cs]at h;grind
theorem z2dz{x y:Bunch}(h:B.enc .bunch x=B.enc .bunch y):x=y:=by
 cases x;cases y;simp only[B.enc,y1j,V.s.injEq,V.dat.injEq,Value.int.injEq,Value.bool.injEq,Value.string.injEq,heq_eq_eq,true_and,and_true,ci,cu8,cb,cs]at h;grind
theorem z2is{x y:Wld}(h:B.enc .wld x=B.enc .wld y):x=y:=by
 cases x;cases y;simp only[B.enc,y1j,V.s.injEq,V.dat.injEq,Value.int.injEq,Value.bool.injEq,Value.string.injEq,heq_eq_eq,true_and,and_true,ci,cu8,cb,cs]at h;grind
theorem z2it:∀{τ:Ty}{x y:Den τ},B.enc τ x=B.enc τ y→x=y:=by
 intro τ x y h;cases τ with
 |int=>simp_all[B.enc,ci,cs]
 |str=>simp_all[B.enc,ci,cs]
 |row=>simp_all[B.enc,ci,cs]
 |ints=>simp_all[B.enc,ci,cs]
 |trms=>simp_all[B.enc,ci,cs]
 |colss=>simp_all[B.enc,ci,cs]
 |rowss=>simp_all[B.enc,ci,cs]
 |pair=>grind[B.enc,ci]
 |u8=>simp_all[B.enc,cu8]
 |bol=>simp_all[B.enc,cb]
 |val=>exact z1ao h
 |col=>exact z2in h
 |by_=>exact z2io h
 |bound=>exact zq6 h
 |often=>exact z2dy h
 |colStat=>exact z1eh h
 |data=>exact z2gk h
 |acc=>exact z2ip h
 |stat=>exact z2gl h
 |column=>exact z2a1 h
 |term=>exact z2gm h
 |agg=>exact z2iq h
 |rel=>exact z2ir h
 |plan=>exact z2gn h
 |sign=>exact z2gp h
 |bunch=>exact z2dz h
 |wld=>exact z2is h
 |span=>exact z2go h
theorem z2ju:∀τ,0<sz τ:=by intro τ;cases τ<;>decide
def byt:Ty→Nat
 | .int=>8
 | .str=>16
 | .row=>24
 | .ints=>24
 | .trms=>24
 | .colss=>24
 | .rowss=>24
 | .pair=>16
 | .u8=>1
 | .bol=>1
 | .sign=>16
 | .bunch=>48
 | .wld=>48
 | .val=>32
 | .col=>40
 | .by_=>16
 | .bound=>32
 | .often=>40
 | .colStat=>64
 | .data=>40
 | .acc=>104
 | .stat=>56
 | .column=>88
 | .term=>128
 | .agg=>48
 | .rel=>192
 | .plan=>360
 | .span=>120
def tl:Option (TI Un)→TI Un
 |some (.sl _ .pair _)=>.oth
 |some x=>x
 |none=>.oth
theorem z2h7{x:TI Un}{e:TypeId}{τ:Ty}{b:Nat}(h:tl (some x)=.sl e τ b):x=.sl e τ b∧τ≠.pair:=by
 cases x with
 |sl e' τ' b'=>
  cases τ'<;>simp[tl]at h<;>(obtain⟨rfl,rfl,rfl⟩:=h;exact⟨rfl,by simp⟩)
 |_=>simp[tl]at h
def tiL(t:TypeId):TI Un:=tl (look t tab)
noncomputable def lay1:TI Un→Bool
 | .sl _ .pair _=>true
 | .sl e τ b=>lay Tryz.prog tiL 8 e==some (fls τ)&&Tryz.prog.cellsOf e==sz τ&&Tryz.prog.bytesOf e==byt τ&&b==byt τ
 |_=>true
theorem z26q{e:TypeId}{τ:Ty}{b:Nat}(h:lay1 (.sl e τ b)=true)(hp:τ≠.pair)   :(lay Tryz.prog tiL 8 e=some (fls τ)∧Tryz.prog.cellsOf e=sz τ)∧Tryz.prog.bytesOf e=byt τ:=by
 cases τ<;>first|exact absurd rfl hp|(simp only[lay1,yp,beq_iff_eq]at h;exact h.1)
noncomputable def layB:Bool:=tab.all fun x=>lay1 x.2
theorem z1uq:layB=true:=by rfl
theorem z2a2{t e:TypeId}{τ:Ty}{b:Nat}(h:tiL t=.sl e τ b):(lay Tryz.prog tiL 8 e=some (fls τ)∧Tryz.prog.cellsOf e=sz τ)∧Tryz.prog.underlying t=some (.slice e):=by
 have hb:=z1uq;unfold layB at hb;rw[y19]at hb;unfold tiL at h;cases hl:look t tab with
 |none=>simp_all[tl]
 |some x=>
  rw[hl]at h;have hm:=hb _ (zj2 hl);obtain⟨rfl,hp⟩:=z2h7 h;have ht:=(z1x4 (fun _=>none) (fun _=>none) (fun _=>none) (fun _=>none) (fun _=>none)).ti t;have hti:(mach (fun _=>none) (fun _=>none) (fun _=>none) (fun _=>none) (fun _=>none)).ti t=.sl e τ b:=by
   simp_all[Mc.ti,mach]
  rw[hti]at ht;exact⟨(z26q hm hp).1,ht.2.1⟩
theorem z2ko{t e:TypeId}{τ:Ty}{b:Nat}(h:tiL t=.sl e τ b):Tryz.prog.bytesOf e=byt τ:=by
 have hb:=z1uq;unfold layB at hb;rw[y19]at hb;unfold tiL at h;cases hl:look t tab with
 |none=>simp_all[tl]
 |some x=>
  rw[hl]at h;have hm:=hb _ (zj2 hl);obtain⟨rfl,hp⟩:=z2h7 h;exact(z26q hm hp).2
section
variable {H:Type} {enc':TypeId×Value→H} {w:World} {spare:Nat→Bool} {held:Bool} {base:Nat} {r:Reach} {b0:Nat}
theorem z1ur{t:TypeId}{cs:List Value}{d:DataW H}{ps:List MemPlace}{k:Nat}{fl:List Fl}(h:∃n,DataW.trod enc' Tryz.prog w 0 spare held n t cs=some (d,ps))(hl:lay Tryz.prog tiL k t=some fl):
  ∃vs,All2 (VRel En (StA w) w) cs vs∧vs.map flOf=fl.map some∧((∀q∈d.weights Tryz.prog t,q≤reachBytes)→∀v∈vs,VB byt v)∧BKS vs (Rows.uptoBulk d- 1):=by
 obtain⟨n,h⟩:=h;exact z2b8 (fun t e τ b ht=>z2ko ht) (fun t e τ b ht=>⟨8,(z2a2 ht).1.1⟩) z224 z2ju (fun t e τ b ht=>(z2a2 ht).1.2) n t cs _ k fl h hl
theorem z2iu{t e:TypeId}{τ:Ty}{b:Nat}(ht:tiL t=.sl e τ b){v:Value}{d:DataW H}{ps:List MemPlace}(hval:Value.okWide Tryz.prog w r b0 t v)(hd:DataW.Trod enc' Tryz.prog w 0 spare held t v d ps):
  ∃l:List (Den τ),DRel Tryz.prog En (StA w) w v (.d (.v (.dat (U:=Un) τ l)))∧((∀q∈d.weights Tryz.prog t,q≤reachBytes)→VB byt (.dat (U:=Un) τ l))∧BKL τ l (Rows.uptoBulk d- 1):=by
 have hu:=(z2a2 ht).2;obtain⟨a,len,cap,rfl⟩:=Go.WideShapes.okWide_slice hu hval;obtain⟨vs,h1,h2,h4,h5⟩:=z1ur (k:=1) (fl:=[.sl τ]) hd (by simp_all[lay,if_true]);obtain⟨l,rs,rfl,h3⟩:=z2i h2;refine⟨l,h1.1,fun hq=>h4 hq _ yy,?_⟩;cases h5 with
 |cons _ _ a c _ g1 g2 hn=>
  cases g1 with
  |dat _ _ _ g3=>exact g3.mono (by omega)
theorem z2iv{t:TypeId}(τ:Ty){fs:Array Field}(hu:Tryz.prog.underlying t=some (.struct fs))(hl:lay Tryz.prog tiL 8 t=some (fls τ)){v:Value}{d:DataW H}{ps:List MemPlace}(hval:Value.okWide Tryz.prog w r b0 t v)(hd:DataW.Trod enc' Tryz.prog w 0 spare held t v d ps):
  ∃x:Den τ,DRel Tryz.prog En (StA w) w v (.d (.agg (B.enc τ x)))∧((∀q∈d.weights Tryz.prog t,q≤reachBytes)→∀c∈B.enc τ x,VB byt c)∧BKS (B.enc τ x) (Rows.uptoBulk d- 1):=by
 obtain⟨cs,rfl,_⟩:=Go.WideShapes.okWide_struct hu hval;obtain⟨vs,h1,h2,h4,h5⟩:=z1ur hd hl;obtain⟨x,hx⟩:=z224 τ vs h2;refine⟨x,?_⟩;rw[zsz τ vs x hx];exact⟨⟨cs,rfl,h1⟩,h4,h5⟩
theorem z2iw{t:TypeId}(hu:Tryz.prog.underlying t=some (.int .i64)){v:Value}{d:DataW H}{ps:List MemPlace}(hval:Value.okWide Tryz.prog w r b0 t v)(hd:DataW.Trod enc' Tryz.prog w 0 spare held t v d ps):
  ∃n:Int,DRel Tryz.prog En (StA w) w v (.d (.v (.s (.int .i64 n)))):=by
 obtain⟨n,rfl,-,-,hw⟩:=open_int hu hval hd;exact⟨n,.s _ (by simp_all[Lit.wf,oneC])⟩
end
def isSl(τ:Ty):TI Un→Bool
 | .sl _ τ' _=>decide (τ'=τ)
 |_=>false
theorem z2jv{t:TypeId}{τ:Ty}(h:isSl τ (tiL t)=true):tiL t=.sl (match tiL t with| .sl e _ _=>e|_=>0) τ (match tiL t with| .sl _ _ b=>b|_=>0):=by
 cases hx:tiL t with
 |sl e τ' b=>
  rw[hx]at h;have:τ'=τ:=of_decide_eq_true h;grind
 |_=>rw[hx]at h;simp[isSl]at h
def isSt:Option TypeDesc→Bool
 |some (.struct _)=>true
 |_=>false
theorem z2jw{t:TypeId}(h:isSt (Tryz.prog.underlying t)=true):∃fs,Tryz.prog.underlying t=some (.struct fs):=by
 unfold isSt at h;grind
theorem z2kp(τ:Ty)(x:Den τ):dS τ (.d (.agg (B.enc τ x)))=some x:=by
 obtain⟨y,hy⟩:=z224 τ (B.enc τ x) (z2jt τ x);show dec τ (B.enc τ x)=some x;rw[hy];exact congrArg some (z2it (zsz τ _ y hy))
theorem z2e0{f:FuncId}{F:FnC Un}(hok:FnOK f F){args:List (D Un)}{ob:List Prop}(hF:F args=some (ob,[.c (.s (.bool true))],[]))(hob:∀p∈ob,p){w:World}{vs:List Value}(hrel:All2 (DRel Tryz.prog En (StA w) w) vs args)(hld:Laid w:=by exact Laid.none _):
  Calls Tryz.prog f vs.toArray w fun e w'=>e=.returned (.bool true)∧Ext w w':=by
 refine((hok args ob _ [] hF hob).1 w (StA w) vs (fun b o h=>h) hrel hld).mono ?_;rintro e w' ⟨v,rfl,hx,g,-,-,-,hr,-⟩;exact⟨by rw[show v=.bool true from hr.1],hx⟩
end B
namespace B
open Go Go.RowKit Go.Shelf
set_option maxRecDepth 1000000
set_option linter.unusedVariables false
theorem z1ei{g:G}{w w':World}{v:Value}{rs:List (A Un)}{os:List (Ob Un)}{bxs:List (Bool×List (C Un))}{obs:List (Ob Un)}(hp:Part Tryz.prog En g w bxs obs)(h:Ret Tryz.prog En g.St w w' v rs os)(hlb:∀k,¬g.lb k):RetG Tryz.prog En g w w' v rs [] os:=by
 obtain⟨hx,g',hl,ho,hw,hr,hobs⟩:=h;have hnl:∀b o,LB b=true→¬g.mine b o:=fun b o hb ⟨y,hy,e⟩=>hy (hp.nlb b o y hb e);refine⟨g',⟨hx.os,hx.tape,hx.output,hx.le,fun k hk _=>hx.block hk,fun b o hb _=>hx.cell (p:=⟨b,o,none⟩) hb,fun b o hb _=>hx.stuck (p:=⟨b,o,none⟩) hb,hp.laid.ext hx,fun b hb=>hp.laid.lt b hb,hnl⟩,⟨fun k fz cells hk=>by simp at hk,fun k hk=>absurd hk (hl k),fun k o hk=>hobs k o hk,hw,hp.laid.ext hx,fun b o x hb e=>(ho b o x (hp.laid.lt b hb) e).1⟩,fun k hk=>absurd hk (hlb k),fun b o x hb hx=>.inr (ho b o x hb hx),hr⟩
theorem z2e1{St:Nat→Nat→Prop}{w:World}{τ:Ty}(a:Option Addr)(hbd:∀b o,St b o→b<w.heap.size):Ret Tryz.prog En St w w (.slice a 0 0) [.c (.ob 0 0)] [⟨0,τ,[],some 0,true⟩]:=by
 classical
 refine⟨Ext.refl _,⟨fun _=>0,fun _=>False,fun b o=>if St b o then some .st else none,fun _=>(a,0)⟩,fun _ h=>h,?_,?_,?_,?_⟩
 ·intro b o x _ hx;have hx':(if St b o then some Own.st else none)=some x:=hx;split at hx'
  ·rename_i hs;simp at hx';exact⟨hx'.symm,hs⟩
  ·simp at hx'
 ·intro b o x hx;have hx':(if St b o then some Own.st else none)=some x:=hx;split at hx'
  ·rename_i hs;exact hbd b o hs
  ·simp at hx'
 ·exact⟨rfl,_,rfl,y6 _,fun _=>rfl⟩
 ·intro k o ho;cases k with
  |zero=>simp at ho;subst ho;exact⟨⟨⟨⟨y6 _,by simp⟩,fun f hf=>by simp at hf;subst hf;exact y6 _⟩,fun h=>absurd h (y4d 0)⟩,rfl⟩
  |succ k=>simp at ho
def z1nq(τ:Ty):List Bool×FnG Un:=([true,false],fun args bxs os=>match args,bxs,os with
 |[.c (.sl τ' [] true),.c (.s (.int .i64 n))],[],[]=>match Un.deq τ' τ with
  | .isTrue _=>some ([0≤n∧n≤1000000000],[.c (.ob 0 0)],[],[⟨0,τ,[],some 0,true⟩])
  | .isFalse _=>none
 |_,_,_=>none)
theorem z225{ρ:Ren}(L:Lays8.n4 Tryz.prog ρ){τ:Ty}(hti:z1mq (ρ.t 22) (ρ.t 25) τ=true)(hB:z32 Tryz.prog (ρ.f 4)):GnOK (ρ.f 4) (z1nq τ):=by
 obtain⟨bytes,i0,z,hb,h1',h1,h0,h2,h3,h4,h5,h6⟩:=slOf hti;intro args bxs obs ob rs bxs' obs' h hob;unfold z1nq at h;dsimp only at h;split at h
 ·rename_i τ' n;split at h
  ·rename_i he _;subst he;simp only[y8,ym]at h;obtain⟨rfl,rfl,rfl,rfl⟩:=h;have hn:=hob _ (yi.2 rfl);refine⟨?_,hB⟩;intro w g vals hp hvals
   match vals,hvals with
   |[v0,v1],⟨a0,a1,_⟩=>
    obtain⟨hV,hfull⟩:=a0;obtain⟨a,k,rfl⟩:=hfull rfl;obtain⟨hv1,_⟩:=a1;subst hv1;have hk:k=0:=by
     rcases hV.inv with⟨_,a',c',e⟩|⟨b,o,cap,cv,e,_⟩
     ·simp only[Value.slice.injEq]at e;exact e.2.1
     ·simp only[Value.slice.injEq]at e;exact e.2.1
    subst hk;have hlb:∀k,¬g.lb k:=fun k hk=>by have:=hp.lbs k hk;simp at this
    have hbd:∀b o,g.St b o→b<w.heap.size:=fun b o hs=>hp.own b o _ hs;obtain⟨m,rfl⟩:∃m:Nat,n=(m:Int):=⟨n.toNat,by omega⟩;by_cases hz:m=0
    ·subst hz;refine(Any8.slices_Grow_room L a 0 0 0 w (y6 _) (by omega) (by omega) (y6 _)).mono ?_;rintro e w' ⟨rfl,rfl⟩;exact⟨_,rfl,z1ei hp (z2e1 a hbd) hlb⟩
    ·refine(Any8.slices_Grow_grow L i0 z h2 h5 (by omega) a 0 0 m [] w (y6 _) (by omega) (by
      have:(0+m)*i0.bytes≤1000000000*100000:=y26 (by omega) (by omega)
      omega) (by omega) (by simp) (fun _=>rfl) (fun _ _ j v hj=>by simp at hj)).mono ?_
     rintro e w' ⟨rfl,rfl⟩;obtain⟨cur,hcur⟩:∃cur:Array Value,cur=([]:List Value).toArray++Builtin.zeroCells z.cells (0+m- 0)++Builtin.zeroCells z.cells (grownCap w (0+m) 0 (ρ.t 25)- (0+m)):=⟨_,rfl⟩;rw[←hcur];have hext:Ext w (w.drew.alloc (.cells cur (ρ.t 25))):=(Ext.refl w).drew.alloc _;have hge:=grownCap_ge w (0+m) 0 (ρ.t 25);have hsz:cur.size=grownCap w (0+m) 0 (ρ.t 25)*sz τ':=by
      rw[hcur];simp only[Array.size_append,List.size_toArray,y1w,size_zeroCells,h6];rw[y15,←y1k];congr 1;omega
     have hhp:(w.drew.alloc (.cells cur (ρ.t 25))).heap[w.heap.size]?=some (.cells cur (ρ.t 25) (0,0)):=by
      have:∀(h:Array Obj)(o:Obj),(h.push o)[h.size]?=some o:=fun h o=>by simp
      exact this w.heap _
     exact⟨_,rfl,z1ei hp (z1ai (e:=ρ.t 25) (news:=[]) hext hbd (by simp) ⟨by simp,.inr ⟨w.heap.size,grownCap w (0+m) 0 (ρ.t 25),cur,rfl,y6 _,hhp,ya _,grownCap_le_maxLen w (0+m) 0 _ (by unfold maxLen;omega),hsz,by simp⟩⟩ (fun i hi=>absurd hi (y18 _))) hlb⟩
  ·simp at h
 ·simp at h
def z226:Ren:=⟨fun|4=>182|n=>n,fun|0=>0|3=>3|4=>4|9=>9|20=>20|22=>57|25=>37|n=>n,fun|n=>n⟩
theorem z1wo:Lays8.n4 Tryz.prog z226:={
  mixed:=by kernel_rfl
  f4:=⟨Tryz.f182.name,by kernel_rfl,Tryz.func182.trans (congrArg some (by kernel_rfl))⟩
  t0:=Tryz.underlying0
  a0:=Tryz.isAgg0
  z0:=Tryz.sizeOf0
  v0:=Tryz.zeroValue0
  t3:=Tryz.underlying3
  a3:=Tryz.isAgg3
  z3:=Tryz.sizeOf3
  v3:=Tryz.zeroValue3
  t4:=Tryz.underlying4
  a4:=Tryz.isAgg4
  z4:=Tryz.sizeOf4
  v4:=Tryz.zeroValue4
  t9:=Tryz.underlying9
  a9:=Tryz.isAgg9
  z9:=Tryz.sizeOf9
  v9:=Tryz.zeroValue9
  t20:=Tryz.underlying20
  a20:=Tryz.isAgg20
  z20:=Tryz.sizeOf20
  v20:=Tryz.zeroValue20
  t22:=Tryz.underlying57
  a22:=Tryz.isAgg57
  z22:=Tryz.sizeOf57
  v22:=Tryz.zeroValue57}
def z1nr:List Bool×FnG Un:=z1nq .val
theorem z227:GnOK 182 z1nr:=z225 z1wo (by kernel_rfl) (zj Tryz.func182 (by kernel_rfl) (by kernel_rfl))
def z228:Ren:=⟨fun|4=>190|n=>n,fun|0=>0|3=>3|4=>4|9=>9|20=>20|22=>27|25=>57|n=>n,fun|n=>n⟩
theorem z1wp:Lays8.n4 Tryz.prog z228:={
  mixed:=by kernel_rfl
  f4:=⟨Tryz.f190.name,by kernel_rfl,Tryz.func190.trans (congrArg some (by kernel_rfl))⟩
  t0:=Tryz.underlying0
  a0:=Tryz.isAgg0
  z0:=Tryz.sizeOf0
  v0:=Tryz.zeroValue0
  t3:=Tryz.underlying3
  a3:=Tryz.isAgg3
  z3:=Tryz.sizeOf3
  v3:=Tryz.zeroValue3
  t4:=Tryz.underlying4
  a4:=Tryz.isAgg4
  z4:=Tryz.sizeOf4
  v4:=Tryz.zeroValue4
  t9:=Tryz.underlying9
  a9:=Tryz.isAgg9
  z9:=Tryz.sizeOf9
  v9:=Tryz.zeroValue9
  t20:=Tryz.underlying20
  a20:=Tryz.isAgg20
  z20:=Tryz.sizeOf20
  v20:=Tryz.zeroValue20
  t22:=Tryz.underlying27
  a22:=Tryz.isAgg27
  z22:=Tryz.sizeOf27
  v22:=Tryz.zeroValue27}
def z1ns:List Bool×FnG Un:=z1nq .row
theorem z229:GnOK 190 z1ns:=z225 z1wp (by kernel_rfl) (zj Tryz.func190 (by kernel_rfl) (by kernel_rfl))
end B
namespace B
open Go Go.RowKit
set_option maxRecDepth 100000
noncomputable section
attribute [local irreducible] awp ctxK zx z1f retQ z1l awf ctxF z1k
theorem zy5{α:Type}:∀(ls:List (List α))(s:List α),ls.foldl (fun s x=>s++x) s=s++ls.flatten
 |[],s=>by simp
 |x::ls,s=>by rw[yu,zy5 ls,y2q,y12]
def zcu:Mc Un:=mcF_ [] [] [] [(182,z1nr)] []
def zun(r:List Val):RF Un:=([.c (.ob 0 0)],[⟨0,Ty.val,r,some 0,true⟩])
def zfs:Nat→NS:=nsF_ [(3,{ts:=bl 36 3593,bs:=bl 36 0,nm:=[],cs:=true}),(11,{ts:=bl 36 234881088,bs:=bl 36 0,nm:=[(.sl 6,144)],cs:=true})] true
def zaw(ls:List (List Val))(v0:Int)(v1:Int):S Un:=(st 36 36 145 0 [(0,al .row ls),(3,ai v0),(9,al .row ls),(10,ai (↑ls.length:Int)),(11,ai v1)] [] [])
def z9s(ls:List (List Val))(v2:Int)(v3:List Val):S Un:=(st 36 36 145 0 [(6,ao 144),(25,al .row ls),(26,ai (↑ls.length:Int)),(27,ai v2)] [] [(144,some ⟨(0:Nat),Ty.val,v3,some (0:Nat),true⟩)])
def ziw:S Un→Option (EX Un):=lpF_ zcu zfs Tryz.f138 [1,1,0,1,2,2] 3
def zgu:S Un→Option (EX Un):=lpF_ zcu zfs Tryz.f138 [1,1,1,1,0,1,2,2] 11
def z14j:Exit→S Un→Option (RF Un):=cxF_ zcu zfs Tryz.f138 [1,1,0,1,2] [.m]
def z10d:Exit→S Un→Option (RF Un):=cxF_ zcu zfs Tryz.f138 [1,1,1,1,0,1,2] [.m]
def z14k(ls:List (List Val)):Option (RF Un):=fnF_ zcu zfs Tryz.f138 1 [.m] [.d (.v (.dat (U:=Un) Ty.row ls))]
theorem z1wq(ls:List (List Val)):z14k ls=(ziw (zaw ls (0:Int) (0:Int))).bind (ze z14j):=by kernel_rfl
theorem z14l(ls:List (List Val))(v0:Int)(v1:Int):ziw (zaw ls v0 v1)=cndO (decide (v1<(↑ls.length:Int))) (obO (0≤v1∧v1<(↑ls.length:Int)) (cndO (decide (IntKind.i64.wrap (v0+(↑(List.length (ls.getD v1.toNat [])):Int))<0)) (none) (ziw (zaw ls (IntKind.i64.wrap (v0+(↑(List.length (ls.getD v1.toNat [])):Int))) (IntKind.i64.wrap (v1+1)))))) (some (.exit 0,(zaw ls v0 v1))):=lpQ_ (by kernel_rfl)
theorem z1hl(ls:List (List Val))(v0:Int)(v1:Int):z14j (.exit 0) (zaw ls v0 v1)=obO (0≤v0∧v0≤1000000000) ((zgu (z9s ls (0:Int) ([]))).bind (ze z10d)):=by kernel_rfl
theorem z10e(ls:List (List Val))(v2:Int)(v3:List Val):zgu (z9s ls v2 v3)=cndO (decide (v2<(↑ls.length:Int))) (obO (0≤v2∧v2<(↑ls.length:Int)) (obO ((v3.length+List.length (ls.getD v2.toNat []))*(32:Nat)≤zi) (zgu (z9s ls (IntKind.i64.wrap (v2+1)) (v3++ls.getD v2.toNat []))))) (some (.exit 2,(z9s ls v2 v3))):=lpQ_ (by kernel_rfl)
theorem z1bg(ls:List (List Val))(v2:Int)(v3:List Val):z10d (.exit 2) (z9s ls v2 v3)=some (zun (v3)):=by kernel_rfl
def z8v(ls:List (List Val)):List Val:=ls.flatten
theorem z1nt(ls:List (List Val))(hl:WL .row ls)(h:ls.flatten.length≤1000000000):z14k ls=some (zun (z8v ls)):=by
 obtain⟨n,hn⟩:∃n,n=ls.flatten.length:=⟨_,rfl⟩
 obtain⟨lp,h0⟩:=z1p (e:=.exit 0) (L:=ziw) (st:=fun(s:Int) i=>zaw ls s i) (l:=ls) (d:=[]) (g:=fun s x=>s+(x.length:Int)) (fun i s=>0≤s∧s+((ls.drop i).flatten.length:Int)=(n:Int)) hl.len
  (fun s i x hi hx hI=>by
   have hd:=zjl (d:=[]) (l:=ls) (i:=i) (by omega);rw[hx]at hd;obtain⟨i1,i2⟩:0≤s∧s+((ls.drop i).flatten.length:Int)=(n:Int):=hI;rw[hd,y2q,yb]at i2;refine⟨⟨by omega,by omega⟩,?_⟩;rw[z14l];simp only[z8,hi,decide_true,if_true,and_true,y5,hx]
   rw[z1u (by omega:(-9223372036854775808:Int)≤s+(x.length:Int)∧s+(x.length:Int)≤9223372036854775807),z6 (by omega),if_neg (by grind)])
  (fun s _=>by rw[z14l];simp[z8]) 0 ⟨y29 _,by grind⟩
 obtain⟨lq,_⟩:=z1p (e:=.exit 2) (L:=zgu) (st:=fun(s:List Val) i=>z9s ls i s) (l:=ls) (d:=[]) (g:=fun s x=>s++x) (fun i s=>s.length+(ls.drop i).flatten.length=n) hl.len
  (fun s i x hi hx hI=>by
   have hd:=zjl (d:=[]) (l:=ls) (i:=i) (by omega);rw[z10e];simp only[z8,hi,decide_true,if_true,and_true,y5,hx]
   grind[z6,zi])
  (fun s _=>by rw[z10e];simp[z8]) [] (by grind)
 rw[zy5,yz]at lq;rw[z1wq];refine(zg lp).trans ?_;rw[z1hl,z6 (by omega)];refine(zg lq).trans ?_;rw[z1bg];rfl
def z199:FnC Un:=fnF1 (dL .row) fun ls=>([ls.flatten.length≤1000000000],zun (z8v ls))
theorem z1wr:FnOK 138 z199:=fnK1 z11 (M:=zcu) rfl trivial trivial trivial ⟨z227,trivial⟩ trivial Tryz.func138 fun ls=>GiF.r fun w o=>z1nt ls (wfA_ w 0) (obA_ o 0)
def zcv:Mc Un:=mcF_ [] [] [] [(190,z1ns)] []
def zax(ls:List (List (List Val)))(v0:Int)(v1:Int):S Un:=(st 36 36 145 0 [(0,al .rowss ls),(3,ai v0),(9,al .rowss ls),(10,ai (↑ls.length:Int)),(11,ai v1)] [] [])
def z9t(ls:List (List (List Val)))(v2:Int)(v3:List (List Val)):S Un:=(st 36 36 145 0 [(6,ao 144),(25,al .rowss ls),(26,ai (↑ls.length:Int)),(27,ai v2)] [] [(144,some ⟨(0:Nat),Ty.row,v3,some (0:Nat),true⟩)])
def zix:S Un→Option (EX Un):=lpF_ zcv zfs Tryz.f143 [1,1,0,1,2,2] 3
def zgv:S Un→Option (EX Un):=lpF_ zcv zfs Tryz.f143 [1,1,1,1,0,1,2,2] 11
def z14m:Exit→S Un→Option (RF Un):=cxF_ zcv zfs Tryz.f143 [1,1,0,1,2] [.m]
def z10f:Exit→S Un→Option (RF Un):=cxF_ zcv zfs Tryz.f143 [1,1,1,1,0,1,2] [.m]
def z14n(ls:List (List (List Val))):Option (RF Un):=fnF_ zcv zfs Tryz.f143 1 [.m] [.d (.v (.dat (U:=Un) Ty.rowss ls))]
theorem z1ws(ls:List (List (List Val))):z14n ls=(zix (zax ls (0:Int) (0:Int))).bind (ze z14m):=by kernel_rfl
theorem z14o(ls:List (List (List Val)))(v0:Int)(v1:Int):zix (zax ls v0 v1)=cndO (decide (v1<(↑ls.length:Int))) (obO (0≤v1∧v1<(↑ls.length:Int)) (cndO (decide (IntKind.i64.wrap (v0+(↑(List.length (ls.getD v1.toNat [])):Int))<0)) (none) (zix (zax ls (IntKind.i64.wrap (v0+(↑(List.length (ls.getD v1.toNat [])):Int))) (IntKind.i64.wrap (v1+1)))))) (some (.exit 0,(zax ls v0 v1))):=lpQ_ (by kernel_rfl)
theorem z1hm(ls:List (List (List Val)))(v0:Int)(v1:Int):z14m (.exit 0) (zax ls v0 v1)=obO (0≤v0∧v0≤1000000000) ((zgv (z9t ls (0:Int) ([]))).bind (ze z10f)):=by kernel_rfl
theorem z10g(ls:List (List (List Val)))(v2:Int)(v3:List (List Val)):zgv (z9t ls v2 v3)=cndO (decide (v2<(↑ls.length:Int))) (obO (0≤v2∧v2<(↑ls.length:Int)) (obO ((v3.length+List.length (ls.getD v2.toNat []))*(24:Nat)≤zi) (zgv (z9t ls (IntKind.i64.wrap (v2+1)) (v3++ls.getD v2.toNat []))))) (some (.exit 2,(z9t ls v2 v3))):=lpQ_ (by kernel_rfl)
theorem z1bh(ls:List (List (List Val)))(v2:Int)(v3:List (List Val)):z10f (.exit 2) (z9t ls v2 v3)=some (zug (v3)):=by kernel_rfl
def zgw(ls:List (List (List Val))):List (List Val):=ls.flatten
theorem z1nu(ls:List (List (List Val)))(hl:WL .rowss ls)(h:ls.flatten.length≤1000000000):z14n ls=some (zug (zgw ls)):=by
 obtain⟨n,hn⟩:∃n,n=ls.flatten.length:=⟨_,rfl⟩
 obtain⟨lp,h0⟩:=z1p (e:=.exit 0) (L:=zix) (st:=fun(s:Int) i=>zax ls s i) (l:=ls) (d:=[]) (g:=fun s x=>s+(x.length:Int)) (fun i s=>0≤s∧s+((ls.drop i).flatten.length:Int)=(n:Int)) hl.len
  (fun s i x hi hx hI=>by
   have hd:=zjl (d:=[]) (l:=ls) (i:=i) (by omega);rw[hx]at hd;obtain⟨i1,i2⟩:0≤s∧s+((ls.drop i).flatten.length:Int)=(n:Int):=hI;rw[hd,y2q,yb]at i2;refine⟨⟨by omega,by omega⟩,?_⟩;rw[z14o];simp only[z8,hi,decide_true,if_true,and_true,y5,hx]
   rw[z1u (by omega:(-9223372036854775808:Int)≤s+(x.length:Int)∧s+(x.length:Int)≤9223372036854775807),z6 (by omega),if_neg (by grind)])
  (fun s _=>by rw[z14o];simp[z8]) 0 ⟨y29 _,by grind⟩
 obtain⟨lq,_⟩:=z1p (e:=.exit 2) (L:=zgv) (st:=fun(s:List (List Val)) i=>z9t ls i s) (l:=ls) (d:=[]) (g:=fun s x=>s++x) (fun i s=>s.length+(ls.drop i).flatten.length=n) hl.len
  (fun s i x hi hx hI=>by
   have hd:=zjl (d:=[]) (l:=ls) (i:=i) (by omega);rw[z10g];simp only[z8,hi,decide_true,if_true,and_true,y5,hx]
   grind[z6,zi])
  (fun s _=>by rw[z10g];simp[z8]) [] (by grind)
 rw[zy5,yz]at lq;rw[z1ws];refine(zg lp).trans ?_;rw[z1hm,z6 (by omega)];refine(zg lq).trans ?_;rw[z1bh];rfl
def z19a:FnC Un:=fnF1 (dL .rowss) fun ls=>([ls.flatten.length≤1000000000],zug (zgw ls))
theorem z1wt:FnOK 143 z19a:=fnK1 z11 (M:=zcv) rfl trivial trivial trivial ⟨z229,trivial⟩ trivial Tryz.func143 fun ls=>GiF.r fun w o=>z1nu ls (wfA_ w 0) (obA_ o 0)
end
end B
namespace B
open Go Go.RowKit Go.Shelf Go.Sort Go.Lib
set_option maxRecDepth 1000000
set_option linter.unusedVariables false
abbrev OV:Type:={v:Value//v.oneCell'=true}
instance:Inhabited OV:=⟨⟨.slice none 0 0,rfl⟩⟩
theorem ObAt.rowsHold{g:G}{w:World}{k ver:Nat}{live:Bool}{xs:List (List Val)}{b off cap:Nat}{cv:Nat→Nat→Value}(hA:ObAt En g w k ⟨ver,.row,xs,some 0,live⟩ b off cap cv):
  ∃cl:List OV,cl.length=xs.length∧Holds (fun a:OV=>a.1) w b off cl.toArray∧All2 (fun(a:OV) x=>VRel En g.St w a.1 (.dat (U:=Un) Ty.val x)) cl xs:=by
 have hcl:∀i(hi:i<xs.length),w.cell? ⟨b,off+i,none⟩=some (cv i 0)∧w.frozen? ⟨b,off+i,none⟩=false∧VRel En g.St w (cv i 0) (.dat (U:=Un) Ty.val xs[i]):=fun i hi=>by
  have hc:=hA.cell i 0 hi (show(0:Nat)<1 from Nat.one_pos);have hr:=hA.rel i hi 0 (.dat (U:=Un) Ty.val xs[i]) rfl;have e:off+i*Un.sz Ty.row+0=off+i:=by show off+i*1+0=off+i;omega
  rw[e]at hc;exact⟨hc.1,zmm (hc.2.2 (ya _)).2,hr⟩
 have h1:∀q:Fin xs.length,(cv q.1 0).oneCell'=true:=fun q=>by
  obtain⟨a,n,c,e⟩:=z2i8 (hcl q.1 q.2).2.2;rw[e];rfl
 refine⟨(List.finRange xs.length).map fun q=>⟨cv q.1 0,h1 q⟩,by simp,fun j hj=>?_,All2.of_get (by simp) fun i a x ha hx=>?_⟩
 ·have hj':j<xs.length:=by simpa using hj
  rw[getElem!_pos _ j hj];have:=hcl j hj';simp only[List.getElem_toArray,y3b,y4x];exact⟨this.1,this.2.1⟩
 ·have hi:i<xs.length:=(yl.1 hx).1;rw[y13,y9 (by simpa using hi)]at ha;simp only[y1x,y8,y4x]at ha;subst ha;rw[y9 hi]at hx;obtain rfl:=yk hx;exact(hcl i hi).2.2
set_option maxHeartbeats 4000000 in
theorem z2a3{ρ:Ren}(L:SlLaysE.n45 Tryz.prog ρ)(v23:∀w,(zeroValue (ρ.t 23)).run Tryz.prog w=.ok (.slice none 0 0) w)(i0:TypeInfo)(hi0:Tryz.prog.info? (ρ.t 23)=some i0)(hz1:i0.size=1)(blk off cap i j:Nat)(d:Array OV)(w:World)(hH:Holds (fun a:OV=>a.1) w blk off d)(hcap:d.size≤cap)(hlt:i<j)(hj:j≤d.size):
  Calls Tryz.prog (ρ.f 45) #[.slice (some ⟨blk,off,none⟩) d.size cap,.int .i64 i,.int .i64 j] w fun e w'=>e=.returned (.slice (some ⟨blk,off,none⟩) (d.size- (j- i)) cap)∧∃q,w'=putRow (fun a:OV=>a.1) (Sort.ahead w q) blk off (d.toList.take i++d.toList.drop j++List.replicate (j- i) default).toArray:=by
 have mixed:=L.mixed;have t0:=L.t0;have a0:=L.a0;have z0:=L.z0;have v0:=L.v0;have t3:=L.t3;have a3:=L.a3;have z3:=L.z3;have v3:=L.v3;have t4:=L.t4;have a4:=L.a4;have z4:=L.z4;have v4:=L.v4;have t22:=L.t22;have a22:=L.a22;have z22:=L.z22;have v22:=L.v22;have a23:=L.a23;have z23:=L.z23;obtain⟨ec,hec⟩:∃ec:OV→Value,ec=fun a:OV=>a.1:=⟨_,rfl⟩;have h1:OneCell ec:=by rw[hec];exact fun a=>a.2
 have hdf:ec default=.slice none 0 0:=by rw[hec];rfl
 rw[←hec]at hH ⊢;rw[←hdf]at v23;obtain⟨news,hnews⟩:∃news,news=(d.toList.drop j).map ec:=⟨_,rfl⟩;have hlen:news.length=d.size- j:=by rw[hnews];simp
 have hget:∀t,t<d.size- j→news[t]?=some (ec d[j+t]!):=by
  intro t ht;rw[hnews,y13,y24,y27,getElem!_pos d (j+t) (by omega),y2h (by omega)];rfl
 obtain⟨A,hA,hsrc⟩:∃A:Addr,(if cap=j then some (⟨blk,off,none⟩:Addr)else some ⟨blk,off+j,none⟩)=some A∧Hid (∀t u,news[t]?=some u→w.drew.cell? (A.add t)=some u):=by
  by_cases h:cap=j
  ·refine⟨⟨blk,off,none⟩,by simp[h],fun t u hu=>?_⟩;have h0:news.length=0:=by rw[hlen];omega
   rw[List.length_eq_zero_iff.1 h0]at hu;simp at hu
  ·refine⟨⟨blk,off+j,none⟩,by simp[h],fun t u hu=>?_⟩;have ht:t<d.size- j:=by
    have:=(yl.1 hu).1;rwa[hlen]at this
   rw[hget t ht]at hu;rw[Addr.add_lit,show off+j+t=off+(j+t) by omega];exact(hH (j+t) (by omega)).1.trans hu
 have s1:Hid (news.length=(d.size- j)*1):=by rw[y4h];exact hlen
 have s2:Hid (∀u∈news,u.oneCell'=true):=by
  intro u hu;rw[hnews]at hu;obtain⟨x,_,rfl⟩:=y2b.1 hu;exact h1 x
 have s3:Hid (∀t,t<news.length→(w.drew.cell? ⟨blk,off+i*1+t,none⟩).isSome=true∧w.drew.frozen? ⟨blk,off+i*1+t,none⟩=false):=by
  intro t ht;rw[hlen]at ht;rw[y4h,y1d];exact⟨by show(w.cell? _).isSome=true;rw[(hH (i+t) (by omega)).1];rfl,(hH (i+t) (by omega)).2⟩
 obtain⟨W1,hW1⟩:∃W1,W1=w.drew.setCells blk (off+i*1) news:=⟨_,rfl⟩;have hW1':W1=putRow ec (Sort.ahead w 1) blk off (Go.Lib.lay d i (d.toList.drop j)):=by
  rw[hW1,hnews,y4h,←putRow_setCells ec (Sort.ahead w 1) blk off _ d i (by simp;omega),putRow_self ec (Sort.ahead w 1) blk off d (holds_ahead ec w 1 blk off d hH)];rfl
 have hH1:Holds ec W1 blk off (Go.Lib.lay d i (d.toList.drop j)):=by rw[hW1'];exact holds_putRow ec _ blk off d _ (holds_ahead ec w 1 blk off d hH) (lay_size _ _ _)
 have hcl:∀ty,(Builtin.clear_ #[ρ.t 22] ty #[.slice (some ⟨blk,off+(i+(d.size- j)),none⟩) (d.size- (i+(d.size- j))) (cap- (i+(d.size- j)))]).run Tryz.prog W1=.ok (.tuple #[]) (W1.setCells blk (off+(i+(d.size- j))) (List.replicate (d.size- (i+(d.size- j))) (ec default))):=
  fun ty=>Lib.run_clear_slice W1 _ _ ty _ t22 v23 (h1.cells default) (h1 default) blk (off+(i+(d.size- j))) _ _ (by omega) (fun t ht=>by rw[show off+(i+(d.size- j))+t=off+(i+(d.size- j)+t) by omega,(hH1 _ (by rw[lay_size];omega)).1];rfl) (fun t ht=>by rw[show off+(i+(d.size- j))+t=off+(i+(d.size- j)+t) by omega];exact(hH1 _ (by rw[lay_size];omega)).2)
 have X:Aside (W1=putRow ec (Sort.ahead w 1) blk off (Go.Lib.lay d i (d.toList.drop j))):=hW1';have hW:Hid (W1=w.drew.setCells blk (off+i*1) news):=hW1;have hic:i≤cap:=by omega
 have hjc:j≤cap:=by omega
 clear hW1 hW1' hH1 hH hget hnews hlen hec hdf;obtain⟨_,_,FG⟩:=L.f45
 go_enter FG,SlBodyN.n45_ntmps ρ
 go_wp2_with fail
 go_region_law_o (refine step_append_room rfl (.tmp 22) (.tmp 25) (ρ.t 22) rfl (ρ.t 23) i0 1 t22 hi0 hz1 blk off i cap (by simp[Act.eval,Act.put]) A (d.size- j) (cap- j) news (by simp[Act.eval,Act.put]) s1.out hsrc.out s2.out (by omega) s3.out ?_;rw[←hW.out])
 go_wp2
 go_ret;refine⟨by rw[show d.size- (j- i)=i+(d.size- j) by omega];rfl,1,?_⟩;rw[←delete_arr d i j default (by omega) hj,←putRow_setCells ec _ blk off _ _ (i+(d.size- j)) (by rw[lay_size];simp;omega),←X.out,List.map_replicate,show d.size- (i+(d.size- j))=j- i by omega]
def z1nv:Ren:=⟨fun|45=>144|n=>n,fun|0=>0|3=>3|4=>4|22=>27|23=>57|n=>n,fun|n=>n⟩
theorem z1hn:SlLaysE.n45 Tryz.prog z1nv:={
  mixed:=by kernel_rfl
  f45:=⟨Tryz.f144.name,by kernel_rfl,Tryz.func144.trans (congrArg some (by kernel_rfl))⟩
  t0:=Tryz.underlying0
  a0:=Tryz.isAgg0
  z0:=Tryz.sizeOf0
  v0:=Tryz.zeroValue0
  t3:=Tryz.underlying3
  a3:=Tryz.isAgg3
  z3:=Tryz.sizeOf3
  v3:=Tryz.zeroValue3
  t4:=Tryz.underlying4
  a4:=Tryz.isAgg4
  z4:=Tryz.sizeOf4
  v4:=Tryz.zeroValue4
  t22:=Tryz.underlying27
  a22:=Tryz.isAgg27
  z22:=Tryz.sizeOf27
  v22:=Tryz.zeroValue27
  a23:=Tryz.isAgg57
  z23:=Tryz.sizeOf57}
def zr3:List Bool×FnG Un:=([true],fun args bxs os=>match args,bxs,os with
 |[.c (.ob 0 0),x1,x2],[],[o]=>(oM .row o).bind fun xs=>(aI .i64 x1).bind fun i=>(aI .i64 x2).bind fun j=>some ([0≤i∧i<j∧j≤(xs.length:Int)],[.c (.ob 0 0)],[],[⟨0,.row,xs.take i.toNat++xs.drop j.toNat,some 0,true⟩])
 |_,_,_=>none)
theorem z1nw:GnOK 144 zr3:=by
 intro args bxs obs ob rs bxs' obs' h hob;unfold zr3 at h;dsimp only at h;split at h
 ·rename_i x1 x2 o;simp only[y7,y8,ym]at h;obtain⟨xs,e0,i,e1,j,e2,rfl,rfl,rfl,rfl⟩:=h;obtain rfl:=z1x5 e0;obtain rfl:=z1ix e1;obtain rfl:=z1ix e2;obtain⟨hi0,hij,hj⟩:=hob _ (yi.2 rfl);refine⟨?_,zj Tryz.func144 (by kernel_rfl) (by kernel_rfl)⟩;obtain⟨i,rfl⟩:∃k:Nat,i=k:=⟨i.toNat,(y3t hi0).symm⟩;obtain⟨j,rfl⟩:∃k:Nat,j=k:=⟨j.toNat,(y3t (by omega)).symm⟩;rw[y5,y5];intro w g vals hp hvals
  match vals,hvals with
  |[v0,v1,v2],⟨h0,h1,h2,_⟩=>
   obtain⟨_,o',ho',_,hv⟩:=h0;simp at ho';subst ho';have hv:v0=.slice (g.tk 0).1 xs.length (g.tk 0).2:=hv rfl;subst hv;obtain rfl:v1=.int .i64 i:=h1.1;obtain rfl:v2=.int .i64 j:=h2.1;obtain⟨hO,_⟩:=hp.obs 0 _ rfl;have hpos:0<xs.length:=by omega
   have hne:xs≠[]:=y2n.1 hpos;obtain⟨b,off,htk,hcap,hA⟩:=hO.open1 hne;have hmax:xs.length≤9223372036854775807:=hO.1.1.2;have hb:b<w.heap.size:=z6e (hA.cell 0 0 hpos (show(0:Nat)<1 from Nat.one_pos)).1;have h0:(g.tk 0).1=some ⟨b,off,none⟩:=by rw[htk]
   have hmine:∀x,x<(g.tk 0).2→g.ω b (off+x)=some (.obj 0):=fun x hx=>by
    rcases yj x xs.length with g1|g1
    ·have hc:=(hA.cell x 0 g1 (show(0:Nat)<1 from Nat.one_pos)).2.2 (ya _);have e:off+x*Un.sz Ty.row+0=off+x:=by show off+x*1+0=off+x;omega
     rw[e]at hc;exact hc.1
    ·exact(hA.spare rfl x (by show xs.length*1≤x;omega) (by show x<_*1;omega)).1
   obtain⟨cl,hcl,hH,hR⟩:=hA.rowsHold;obtain⟨bytes,i0,z,_,_,_,_,hi2,hi3,_⟩:=slOf (t:=27) (e:=57) (τ:=.row) (by kernel_rfl);rw[h0];have hsz:cl.toArray.size=xs.length:=by simp[hcl]
   rw[←hsz];refine(z2a3 z1hn Tryz.zeroValue57 i0 hi2 hi3 b off (g.tk 0).2 i j cl.toArray w hH (by omega) (by omega) (by omega)).mono ?_;rintro e w' ⟨rfl,q,rfl⟩;obtain⟨us,hus⟩:∃us:List OV,us=cl.take i++cl.drop j++List.replicate (j- i) default:=⟨_,rfl⟩;have hul:us.length=xs.length:=by rw[hus];simp[hcl];omega
   have hp2:=z26m (n:=q) (os:=#[]) hb hH (d:=us.toArray) (by simp[hul,hcl]);rw[grow_empty]at hp2;have e1:(cl.toArray.toList.take i++cl.toArray.toList.drop j++List.replicate (j- i) default).toArray=us.toArray:=by rw[hus]
   rw[e1];generalize putRow (fun a:OV=>a.1) (Sort.ahead w q) b off us.toArray=w' at hp2 ⊢;have hyl:(xs.take i++xs.drop j).length=xs.length- (j- i):=by simp only[yb,yw,yx];omega
   have hRy:All2 (fun(a:OV) x=>VRel En g.St w a.1 (.dat (U:=Un) Ty.val x)) (cl.take i++cl.drop j) (xs.take i++xs.drop j):=All2.append (All2.take i hR) (All2.drop j hR);have e2:(us.toArray.toList.map fun a:OV=>a.1)=us.map fun a:OV=>a.1:=by simp
   rw[e2]at hp2;have hul2:(us.map fun a:OV=>a.1).length=xs.length:=by rw[yq,hul]
   obtain⟨r1,r2⟩:=ObRel.put (w':=w') (ys:=xs.take i++xs.drop j) (τ:=.row) rfl htk hb hp.own hA hp2 hul2 (by omega) hcap hmax (fun t ht d hd=>by
    have hd':some (V.dat (U:=Un) Ty.val (xs.take i++xs.drop j)[t])=some d:=hd;cases hd';obtain⟨a,ha,hr⟩:=All2.get (l:=cl.take i++cl.drop j) t hRy (y9 ht);refine⟨a.1,?_,hr⟩
    rw[y13,hus,y1b (yl.1 ha).1,ha];rfl)
   have hnl:∀b o,LB b=true→¬g.mine b o:=fun b o hb ⟨y,hy,e⟩=>hy (hp.nlb b o y hb e);have hfx:FExt ⟨w,g.mine,g.St,0,g.β⟩ w':=FExt.put (fr:=⟨w,g.mine,g.St,0,g.β⟩) hp2 (fun t ht=>⟨_,by simp,hmine t (by omega)⟩) (by omega) hp.laid hnl;refine⟨_,rfl,g,hfx,⟨fun k fz cells hk'=>by simp at hk',hp.lbs,fun k o ho=>?_,fun b' o x hx=>yn (hp.own b' o x hx) hp2.size,hfx.laid,hp.nlb⟩,fun _ _=>rfl,fun b' o x _ hx=>?_,?_⟩
   ·cases k with
    |zero=>simp at ho;subst ho;exact⟨r1,rfl⟩
    |succ k=>simp at ho
   ·cases x with
    |st=>exact .inr ⟨rfl,hx⟩
    |box k=>exact .inl ⟨_,by simp,hx⟩
    |obj k=>exact .inl ⟨_,by simp,hx⟩
   ·refine⟨rfl,_,rfl,y6 _,fun _=>?_⟩;show Value.slice _ _ _=Value.slice (g.tk 0).1 (xs.take i++xs.drop j).length (g.tk 0).2;rw[h0,hyl,hsz]
 ·simp at h
end B
namespace B
open Go Go.RowKit Go.Shelf
set_option maxRecDepth 1000000
set_option linter.unusedVariables false
noncomputable section
set_option maxHeartbeats 4000000 in
theorem z22a(b off n c k:Nat)(limit skip:Int)(w:World)(hnc:n≤c)(hn:n≤100000000)(hk:k=(min skip n).toNat)(hl:WI limit)(hs:WI skip):
  Calls Tryz.prog 94 #[.slice (some ⟨b,off,none⟩) n c,.int .i64 limit,.int .i64 skip] w fun e w'=>e=.returned (.slice (some ⟨b,if c=k then off else off+k,none⟩) (if 0≤limit∧limit<((n- k:Nat):Int)then limit.toNat else n- k) (c- k))∧w'=w:=by
 have mixed:Tryz.prog.follows .mixedOrders=true:=by kernel_rfl
 have hkn:k≤n:=by omega
 have hmx:(max 0 (min skip (n:Int))).toNat=k:=by omega
 clear hk
 go_enter Tryz.func94,Tryz.ntmps94
 go_wp2
 all_goals(go_ret;exact⟨rfl,rfl⟩)
set_option maxHeartbeats 4000000 in
theorem z25g(a:Option Addr)(limit skip:Int)(w:World)(hl:WI limit)(hs:WI skip):
  Calls Tryz.prog 94 #[.slice a 0 0,.int .i64 limit,.int .i64 skip] w fun e w'=>e=.returned (.slice a 0 0)∧w'=w:=by
 have mixed:Tryz.prog.follows .mixedOrders=true:=by kernel_rfl
 have hmx:(max 0 (min skip (0:Int))).toNat=0:=by omega
 have hmy:max 0 (min skip (0:Int))=0:=by omega
 cases a with
 |none=>
  go_enter Tryz.func94,Tryz.ntmps94
  go_wp2
  all_goals(go_ret;exact⟨rfl,rfl⟩)
 |some p=>
  go_enter Tryz.func94,Tryz.ntmps94
  go_wp2
  all_goals(go_ret;exact⟨rfl,rfl⟩)
theorem z19b(xs:Rows)(limit skip:Int):z3h xs limit skip=(xs.drop (min skip xs.length).toNat).take (if 0≤limit∧limit<((xs.length- (min skip xs.length).toNat:Nat):Int)then limit.toNat else xs.length- (min skip xs.length).toNat):=by
 unfold z3h;rw[yx];split
 ·rfl
 ·rw[y32 (by rw[yx];exact y6 _)]
theorem ObRel.part{g:G}{w:World}{xs:Rows}{b off c k m:Nat}(htk:g.tk 0=(some ⟨b,off,none⟩,c))(hO:ObRel En g w 0 ⟨0,.row,xs,some 0,true⟩)(hk:k≤xs.length)(hm:m≤xs.length- k):
  ObRel En {g with tk:=fun q=>if q=0 then(some ⟨b,if c=k then off else off+k,none⟩,c- k)else g.tk q} w 0 ⟨0,.row,(xs.drop k).take m,some 0,true⟩:=by
 obtain⟨⟨⟨hcap,hmax⟩,_⟩,hrow⟩:=hO;have hcap':xs.length≤c:=by rw[htk]at hcap;exact hcap
 have hmax':xs.length≤9223372036854775807:=hmax;have hlen:((xs.drop k).take m).length=m:=by rw[yw,yx];omega
 refine⟨⟨⟨by show((xs.drop k).take m).length≤c- k;omega,by show((xs.drop k).take m).length≤_;omega⟩,fun f hf=>by simp at hf;subst hf;exact ya _⟩,fun hc=>?_⟩;have hc':0<c- k:=hc;obtain⟨b',off',cv,hbase,hA⟩:=hrow (by rw[htk];show 0<c;omega);rw[htk]at hbase hA;have hbase':some (⟨b,off,none⟩:Addr)=some ⟨b',off',none⟩:=hbase;simp only[y8,Addr.mk.injEq,and_true]at hbase';obtain⟨rfl,rfl⟩:=hbase';refine⟨b,off+k,fun i j=>cv (k+i) j,by show(some (⟨b,if c=k then off else off+k,none⟩:Addr))=_;rw[if_neg (by omega)],⟨fun i j hi hj=>?_,fun i hi j d hd=>?_,fun hl x hx hx'=>?_⟩⟩
 ·have hi':i<((xs.drop k).take m).length:=hi;have:=hA.cell (k+i) j (show k+i<xs.length by omega) hj;have e:off+k+i*Un.sz Ty.row+j=off+(k+i)*Un.sz Ty.row+j:=by show off+k+i*1+j=off+(k+i)*1+j;omega
  show w.cell? ⟨b,off+k+i*Un.sz Ty.row+j,none⟩=_∧_;rw[e];exact⟨this.1,fun h=>absurd h (y18 _),fun _=>this.2.2 (ya _)⟩
 ·have hi':i<((xs.drop k).take m).length:=hi;refine hA.rel (k+i) (show k+i<xs.length by omega) j d ?_;have e:(xs[k+i]'(by omega))=((xs.drop k).take m)[i]'hi':=by simp
  rw[show((⟨0,Ty.row,xs,some 0,true⟩:Ob Un).xs[k+i]'(show k+i<xs.length by omega))=((xs.drop k).take m)[i]'hi' from e];exact hd
 ·have hx1:((xs.drop k).take m).length*1≤x:=hx;have hx2:x<(c- k)*1:=hx';have e:off+k+x=off+(k+x):=by omega
  rw[e];rcases yj (k+x) xs.length with g1|g1
  ·have hc:=hA.cell (k+x) 0 g1 (show(0:Nat)<1 from Nat.one_pos);have e:off+(k+x)*Un.sz Ty.row+0=off+(k+x):=by show off+(k+x)*1+0=_;omega
   rw[e]at hc;exact⟨(hc.2.2 (ya _)).1,⟨_,hc.1⟩,(hc.2.2 (ya _)).2⟩
  ·exact hA.spare rfl (k+x) (show xs.length*1≤k+x by omega) (show k+x<c*1 by omega)
def zma:List Bool×FnG Un:=([true],fun args bxs os=>match args,bxs,os with
 |[.c (.ob 0 0),x1,x2],[],[o]=>(oM .row o).bind fun xs=>(aI .i64 x1).bind fun i=>(aI .i64 x2).bind fun j=>some ([xs.length≤100000000],[.c (.ob 0 0)],[],[⟨0,.row,z3h xs i j,some 0,true⟩])
 |_,_,_=>none)
theorem z1bi:GnOK 94 zma:=by
 intro args bxs obs ob rs bxs' obs' h hob;unfold zma at h;dsimp only at h;split at h
 ·rename_i x1 x2 o;simp only[y7,y8,ym]at h;obtain⟨xs,e0,limit,e1,skip,e2,rfl,rfl,rfl,rfl⟩:=h;obtain rfl:=z1x5 e0;obtain rfl:=z1ix e1;obtain rfl:=z1ix e2;have hlen:xs.length≤100000000:=hob _ (yi.2 rfl);refine⟨?_,zj Tryz.func94 (by kernel_rfl) (by kernel_rfl)⟩;intro w g vals hp hvals
  match vals,hvals with
  |[v0,v1,v2],⟨h0,h1,h2,_⟩=>
   obtain⟨_,o',ho',_,hv⟩:=h0;simp at ho';subst ho';have hv:v0=.slice (g.tk 0).1 xs.length (g.tk 0).2:=hv rfl;subst hv;have w1:WI limit:=by have:=h1.2;unfold oneC at this;exact of_decide_eq_true this
   have w2:WI skip:=by have:=h2.2;unfold oneC at this;exact of_decide_eq_true this
   obtain rfl:v1=.int .i64 limit:=h1.1;obtain rfl:v2=.int .i64 skip:=h2.1;obtain⟨hO,_⟩:=hp.obs 0 _ rfl;have hcap:xs.length≤(g.tk 0).2:=hO.1.1.1;have hnl:∀b o,LB b=true→¬g.mine b o:=fun b o hb ⟨y,hy,e⟩=>hy (hp.nlb b o y hb e);have hfx:FExt ⟨w,g.mine,g.St,0,g.β⟩ w:=⟨rfl,rfl,rfl,y6 _,fun _ _ _=>rfl,fun _ _ _ _=>rfl,fun _ _ _ _=>rfl,hp.laid,fun b hb=>hp.laid.lt b hb,hnl⟩;by_cases hc:(g.tk 0).2=0
   ·have hx:xs=[]:=y10 (by omega);subst hx;have hn:z3h [] limit skip=[]:=by rw[z19b];simp
    rw[hn,hc];refine(z25g (g.tk 0).1 limit skip w w1 w2).mono ?_;rintro e w' ⟨rfl,rfl⟩;refine⟨_,rfl,g,hfx,hp,fun _ _=>rfl,fun b o x _ hx=>?_,?_⟩
    ·cases x with
     |st=>exact .inr ⟨rfl,hx⟩
     |box k=>exact .inl ⟨_,by simp,hx⟩
     |obj k=>exact .inl ⟨_,by simp,hx⟩
    ·exact⟨rfl,_,rfl,y6 _,fun _=>by rw[hc];rfl⟩
   ·obtain⟨b,off,cv,hbase,_⟩:=hO.2 (by omega);obtain⟨c,hcc⟩:∃c,c=(g.tk 0).2:=⟨_,rfl⟩;have htk:g.tk 0=(some ⟨b,off,none⟩,c):=by rw[hcc,←hbase]
    rw[←hcc]at hc hcap;rw[htk];obtain⟨k,hk⟩:∃k,k=(min skip xs.length).toNat:=⟨_,rfl⟩;obtain⟨m,hm⟩:∃m,m=(if 0≤limit∧limit<((xs.length- k:Nat):Int)then limit.toNat else xs.length- k):=⟨_,rfl⟩;have hkn:k≤xs.length:=by omega
    have hmn:m≤xs.length- k:=by rw[hm];split<;>omega
    have hnl2:z3h xs limit skip=(xs.drop k).take m:=by rw[z19b,hm,hk]
    have hln:((xs.drop k).take m).length=m:=by rw[yw,yx];omega
    rw[hnl2];have hO2:=ObRel.part htk hO hkn hmn;refine(z22a b off xs.length c k limit skip w hcap hlen hk w1 w2).mono ?_;rintro e w' ⟨rfl,rfl⟩;rw[←hm];obtain⟨g',hg'⟩:∃g':G,g'={g with tk:=fun q=>if q=0 then(some ⟨b,if c=k then off else off+k,none⟩,c- k)else g.tk q}:=⟨_,rfl⟩;rw[←hg']at hO2;have hω:g'.ω=g.ω:=by rw[hg']
    have hlb:g'.lb=g.lb:=by rw[hg']
    have hβ:g'.β=g.β:=by rw[hg']
    have ht0:g'.tk 0=(some ⟨b,if c=k then off else off+k,none⟩,c- k):=by rw[hg'];rfl
    refine⟨_,rfl,g',hfx,⟨fun k fz cells hk'=>by simp at hk',fun q hq=>hp.lbs q (by rw[←hlb];exact hq),fun q o ho=>?_,fun b' o x hx=>hp.own b' o x (by rw[←hω];exact hx),hp.laid,fun b' o x hl hx=>hp.nlb b' o x hl (by rw[←hω];exact hx)⟩,fun q _=>by rw[hβ],fun b' o x _ hx=>?_,?_⟩
    ·cases q with
     |zero=>simp at ho;subst ho;exact⟨hO2,rfl⟩
     |succ q=>simp at ho
    ·rw[hω]at hx;cases x with
     |st=>exact .inr ⟨rfl,hx⟩
     |box k=>exact .inl ⟨_,by simp,hx⟩
     |obj k=>exact .inl ⟨_,by simp,hx⟩
    ·refine⟨rfl,_,rfl,y6 _,fun _=>?_⟩;show Value.slice _ _ _=Value.slice (g'.tk 0).1 ((xs.drop k).take m).length (g'.tk 0).2;rw[ht0,hln]
 ·simp at h
end
end B
namespace B
open Go Go.RowKit
set_option linter.unusedVariables false
set_option maxRecDepth 100000
theorem z2ix{α:Type}{l:List α}{a:Nat}{d:α}(h:a<l.length):l[a]?=some (l.getD a d):=by rw[yd,y9 h];rfl
def StB(St:Nat→Nat→Prop)(w W:World)(v:Value)(cs:List Value)(b o:Nat):Prop:=
 (b<w.heap.size∧St b o)∨(w.heap.size≤b∧b<W.heap.size∧v.ownBlock≠some b∧∀j u,cs[j*2+1]?=some u→u.ownBlock≠some b)
def lenZ(z:List Value):Nat×List Value:=(z.length,z)
structure BN(St:Nat→Nat→Prop)(w W:World)(v:Value)(cs:List Value)(bs:List Bunch)(zs:List (List Value)):Prop where
 ext:Ext w W
 len:zs.length=bs.length
 nest:Nest W w.heap.size 160 57 2 1 1 v cs (zs.map lenZ)
 key:∀j,j<bs.length→∃u,cs[j*2]?=some u∧VRel En (StB St w W v cs) W u (.dat (U:=Un) Ty.val (bs.getD j zh).key)
 row:∀j,j<bs.length→All2 (fun u x=>VRel En (StB St w W v cs) W u (.dat (U:=Un) Ty.val x)) (zs.getD j []) (bs.getD j zh).rows
section
variable {St:Nat→Nat→Prop} {w W W':World} {v:Value} {cs:List Value} {bs:List Bunch} {zs:List (List Value)}
theorem BN.start(hbd:∀b o,St b o→b<w.heap.size)(h:Ext w W):BN St w W (.slice none 0 0) [] [] []:=
 ⟨h,rfl,Nest.nil _ _ _ _ _ _ _,fun j hj=>absurd hj (y18 _),fun j hj=>absurd hj (y18 _)⟩
theorem BN.low(h:BN St w W v cs bs zs):∀g,v.ownBlock=some g→w.heap.size≤g∧g<W.heap.size:=fun g hg=>h.nest.outer.lt g hg
theorem BN.inner(h:BN St w W v cs bs zs){j:Nat}{u:Value}(hu:cs[j*2+1]?=some u):(∀g,u.ownBlock=some g→w.heap.size≤g∧g<W.heap.size)∧(u.ownBlock=none∨u.ownBlock≠v.ownBlock):=by
 have hl:(zs.map lenZ).length=zs.length:=by simp
 have hcl:cs.length=zs.length*2:=by have:=h.nest.outer.1;rw[hl]at this;exact this
 have hj:j<zs.length:=by have:=(yl.1 hu).1;omega
 obtain⟨x,h1,h2,h3⟩:=h.nest.inner j (zs[j]).length zs[j] (by rw[y13,y9 hj];rfl);rw[hu]at h1;obtain rfl:=yk h1;exact⟨fun g hg=>h2.lt g hg,h3⟩
theorem StB.lt(hx:Ext w W){b o:Nat}(h:StB St w W v cs b o):b<W.heap.size:=by
 rcases h with⟨h1,_⟩|⟨_,h1,_⟩
 ·exact yn h1 hx.le
 ·exact h1
theorem StB.keep(h:Ext w W)(hx:Ext W W'):Keeps (StB St w W v cs) W (StB St w W' v cs) W':=fun b o hs=>by
 refine⟨?_,hx.cell (p:=⟨b,o,none⟩) (StB.lt h hs)⟩;rcases hs with hs|⟨h1,h2,h3⟩
 ·exact .inl hs
 ·exact .inr ⟨h1,yn h2 hx.le,h3⟩
theorem BN.step(h:BN St w W v cs bs zs)(hx:Ext W W'):BN St w W' v cs bs zs:=by
 have hk:Keeps (StB St w W v cs) W (StB St w W' v cs) W':=fun b o hs=>by
  refine⟨?_,hx.cell (p:=⟨b,o,none⟩) (StB.lt h.ext hs)⟩;rcases hs with hs|⟨h1,h2,h3⟩
  ·exact .inl hs
  ·exact .inr ⟨h1,yn h2 hx.le,h3⟩
 refine⟨h.ext.trans hx,h.len,h.nest.kept (zuj hx) (fun b hb=>by simp at hb),fun j hj=>?_,fun j hj=>(h.row j hj).imp fun _ _ hv=>hv.mono hk⟩;obtain⟨u,h1,h2⟩:=h.key j hj;exact⟨u,h1,h2.mono hk⟩
theorem BN.push(h:BN St w W v cs bs zs){kv:Value}{key:List Val}{g cap:Nat}(hk:VRel En (StB St w W v cs) W kv (.dat (U:=Un) Ty.val key))
  (ho:W'.ownsRow w.heap.size 160 2 (.slice (some ⟨g,0,none⟩) (bs.length+1) cap) (bs.length+1) (cs++[kv,.slice none 0 0]))(hg:W.grownBy W' v.ownBlock)(hat:v.ownBlock=some g∨W.heap.size≤g):
  BN St w W' (.slice (some ⟨g,0,none⟩) (bs.length+1) cap) (cs++[kv,.slice none 0 0]) (bs++[⟨key,[]⟩]) (zs++[[]]):=by
 have hcl:cs.length=bs.length*2:=by have:=h.nest.outer.1;rw[yq,h.len]at this;exact this
 have hy:(zs.map lenZ).length=bs.length:=by rw[yq,h.len]
 have hK:Keeps (StB St w W v cs) W (StB St w W' (.slice (some ⟨g,0,none⟩) (bs.length+1) cap) (cs++[kv,.slice none 0 0])) W':=fun b o hs=>by
  rcases hs with⟨h1,h2⟩|⟨h1,h2,h3,h4⟩
  ·refine⟨.inl ⟨h1,h2⟩,World.cell?_of_block (hg.block b (yn h1 h.ext.le) fun e=>?_)⟩;have:=(h.low b e.symm).1;omega
  ·refine⟨.inr ⟨h1,yn h2 hg.size,fun e=>?_,fun j u hu=>?_⟩,World.cell?_of_block (hg.block b h2 fun e=>h3 e.symm)⟩
   ·have e2:g=b:=by simpa[Value.ownBlock]using e
    subst e2;rcases hat with e3|e3
    ·exact h3 e3
    ·omega
   ·rcases yj (j*2+1) cs.length with hl|hl
    ·rw[y1b hl]at hu;exact h4 j u hu
    ·rw[y1h hl]at hu;have h5:=(yl.1 hu).1;simp only[yt,y1w]at h5;have e6:j*2+1- cs.length=1:=by omega
     rw[e6]at hu;simp only[y4p,y34,y8]at hu;subst hu;simp[Value.ownBlock]
 refine⟨z1uf h.ext hg (fun b hb=>(h.low b hb).1),by simp[h.len],?_,fun j hj=>?_,fun j hj=>?_⟩
 ·have:=h.nest.push (w':=W') (v':=.slice (some ⟨g,0,none⟩) (bs.length+1) cap) [kv,.slice none 0 0] rfl rfl (World.ownsRow_nil _ _ _ _) (fun b hb=>by simp[Value.ownBlock]at hb) (by rw[hy];exact ho) hg (hat.elim (fun e=>.inl (by rw[e];rfl)) fun e=>.inr ⟨g,rfl,e⟩);rw[y3d];exact this
 ·rcases yj j bs.length with hl|hl
  ·obtain⟨u,h1,h2⟩:=h.key j hl;refine⟨u,by rw[y1b (by omega)];exact h1,?_⟩;rw[yd,y1b hl,←yd];exact h2.mono hK
  ·have hj':j=bs.length:=by rw[yb,yg]at hj;omega
   subst hj';refine⟨kv,by rw[y1h (by omega),hcl,y3f];rfl,?_⟩;rw[yd,y1h (y6 _),y3f];exact hk.mono hK
 ·rcases yj j bs.length with hl|hl
  ·rw[yd,y1b (by rw[h.len];exact hl),←yd,yd (l:=bs++_),y1b hl,←yd];exact(h.row j hl).imp fun _ _ hv=>hv.mono hK
  ·have hj':j=bs.length:=by rw[yb,yg]at hj;omega
   subst hj';rw[yd,y1h (by rw[h.len];exact y6 _),h.len,y3f,yd (l:=bs++_),y1h (y6 _),y3f];trivial
theorem BN.at(h:BN St w W v cs bs zs){i:Nat}(hi:i<bs.length):∃g cap u,v=.slice (some ⟨g,0,none⟩) bs.length cap∧bs.length≤cap∧w.heap.size≤g∧g<W.heap.size∧cs[i*2+1]?=some u∧W.cell? ⟨g,i*2+1,none⟩=some u∧W.frozen? ⟨g,i*2+1,none⟩=false∧
  W.ownsRow w.heap.size 57 1 u (zs.getD i []).length (zs.getD i [])∧(u.ownBlock=none∨u.ownBlock≠some g):=by
 have hiz:i<zs.length:=by rw[h.len];exact hi
 have hy:(zs.map lenZ)[i]?=some ((zs.getD i []).length,zs.getD i []):=by
  rw[y13,y9 hiz,yd,y9 hiz];rfl
 obtain⟨g,cap,u,h1,h2,h3,h4,h5,h6,h7⟩:=h.nest.get (by omega) (by omega) hy;rw[yq,h.len]at h1;have hc:bs.length≤cap:=by
  have ho:=h.nest.outer;rw[yq,h.len,h1]at ho;obtain⟨_,⟨e,_⟩|⟨g2,cap2,cur,e,_,_,hcc,_⟩⟩:=ho
  ·simp at e
  ·simp only[Value.slice.injEq]at e;omega
 exact⟨g,cap,u,h1,hc,h2,z6e h4,h3,h4,h5,h6,by rw[h1]at h7;exact h7⟩
theorem BN.app(h:BN St w W v cs bs zs){i:Nat}(hi:i<bs.length){g cap:Nat}{u u' xv:Value}{x:List Val}{W5:World}(hv:v=.slice (some ⟨g,0,none⟩) bs.length cap)(hu:cs[i*2+1]?=some u)
  (ho:W5.ownsRow w.heap.size 57 1 u' ((zs.getD i []).length+1) (zs.getD i []++[xv]))(hg:W.grownBy W5 u.ownBlock)(hb:u'.ownBlock=u.ownBlock∨u'.ownBlock=some W.heap.size)(hx:VRel En (StB St w W v cs) W xv (.dat (U:=Un) Ty.val x)):
  BN St w (W5.setCell ⟨g,i*2+1,none⟩ u') v (cs.set (i*2+1) u') (bs.set i ⟨(bs.getD i zh).key,(bs.getD i zh).rows++[x]⟩) (zs.set i (zs.getD i []++[xv])):=by
 have hiz:i<zs.length:=by rw[h.len];exact hi
 have hy:(zs.map lenZ)[i]?=some ((zs.getD i []).length,zs.getD i []):=by
  rw[y13,y9 hiz,yd,y9 hiz];rfl
 obtain⟨iu1,iu2⟩:=h.inner hu;have hvb:v.ownBlock=some g:=by rw[hv];rfl
 have hgl:=h.low g hvb;have hcl:cs.length=bs.length*2:=by have:=h.nest.outer.1;rw[yq,h.len]at this;exact this
 have hcell:∀b o,b<W.heap.size→u.ownBlock≠some b→b≠g→(W5.setCell ⟨g,i*2+1,none⟩ u').cell? ⟨b,o,none⟩=W.cell? ⟨b,o,none⟩:=fun b o h1 h2 h3=>by
  refine(World.cell?_setCell_other (w:=W5) (a:=⟨g,i*2+1,none⟩) (b:=⟨b,o,none⟩) (v:=u') (fun e=>h3 (congrArg Addr.block e).symm)).trans ?_;exact World.cell?_of_block (hg.block b h1 fun e=>h2 e.symm)
 have hsz:(W5.setCell ⟨g,i*2+1,none⟩ u').heap.size=W5.heap.size:=by simp
 have hK:Keeps (StB St w W v cs) W (StB St w (W5.setCell ⟨g,i*2+1,none⟩ u') v (cs.set (i*2+1) u')) (W5.setCell ⟨g,i*2+1,none⟩ u'):=fun b o hs=>by
  rcases hs with⟨h1,h2⟩|⟨h1,h2,h3,h4⟩
  ·refine⟨.inl ⟨h1,h2⟩,hcell b o (yn h1 h.ext.le) (fun e=>?_) (fun e=>by omega)⟩;have:=(iu1 b e).1;omega
  ·refine⟨.inr ⟨h1,by rw[hsz];exact yn h2 hg.size,h3,fun j y hy=>?_⟩,hcell b o h2 (h4 i u hu) (fun e=>h3 (by rw[hvb,e]))⟩;rw[y23]at hy;split at hy
   ·split at hy
    ·obtain rfl:=yk hy;rcases hb with e|e
     ·rw[e];exact h4 i u hu
     ·rw[e];intro e2;have:=yk e2;omega
    ·simp at hy
   ·exact h4 j y hy
 have hlen:(bs.set i ⟨(bs.getD i zh).key,(bs.getD i zh).rows++[x]⟩).length=bs.length:=y1p;refine⟨(z1uf h.ext hg (fun b hb=>(iu1 b hb).1)).setCell hgl.1 _,by rw[y1p,hlen,h.len],?_,fun j hj=>?_,fun j hj=>?_⟩
 ·have:=h.nest.app (by omega) (by omega) hy (by rw[yq,h.len];exact hv) hu ho hg hb;rw[List.map_set];have e:lenZ (zs.getD i []++[xv])=((zs.getD i []).length+1,zs.getD i []++[xv]):=by simp[lenZ]
  rw[e];exact this
 ·rw[hlen]at hj;obtain⟨y,h1,h2⟩:=h.key j hj;refine⟨y,by rw[y23,if_neg (by omega)];exact h1,?_⟩;have e:((bs.set i ⟨(bs.getD i zh).key,(bs.getD i zh).rows++[x]⟩).getD j zh).key=(bs.getD j zh).key:=by
   rw[yd,y23];by_cases e:i=j
   ·subst e;rw[if_pos rfl,if_pos hi];rfl
   ·rw[if_neg e,←yd]
  rw[e];exact h2.mono hK
 ·rw[hlen]at hj;by_cases e:i=j
  ·subst e;have e1:(zs.set i (zs.getD i []++[xv])).getD i []=zs.getD i []++[xv]:=by rw[yd,y23,if_pos rfl,if_pos hiz];rfl
   have e2:(bs.set i ⟨(bs.getD i zh).key,(bs.getD i zh).rows++[x]⟩).getD i zh=⟨(bs.getD i zh).key,(bs.getD i zh).rows++[x]⟩:=by rw[yd,y23,if_pos rfl,if_pos hi];rfl
   rw[e1,e2];exact All2.append ((h.row i hj).imp fun _ _ hv=>hv.mono hK) ⟨hx.mono hK,trivial⟩
  ·have e1:(zs.set i (zs.getD i []++[xv])).getD j []=zs.getD j []:=by rw[yd,y23,if_neg e,←yd]
   have e2:(bs.set i ⟨(bs.getD i zh).key,(bs.getD i zh).rows++[x]⟩).getD j zh=bs.getD j zh:=by rw[yd,y23,if_neg e,←yd]
   rw[e1,e2];exact(h.row j hj).imp fun _ _ hv=>hv.mono hK
theorem BN.vrel(h:BN St w W v cs bs zs)(hbl:bs.length≤9223372036854775807)(hrl:∀j,j<bs.length→(bs.getD j zh).rows.length≤9223372036854775807):VRel En (StN St w W .nilFunc) W v (.dat (U:=Un) Ty.bunch bs):=by
 have hS:∀b o,StB St w W v cs b o→StN St w W .nilFunc b o:=fun b o hs=>by
  rcases hs with hs|⟨h1,h2,_⟩
  ·exact .inl hs
  ·exact .inr ⟨h1,h2,by simp[Value.ownBlock]⟩
 have hK:Keeps (StB St w W v cs) W (StN St w W .nilFunc) W:=fun b o hs=>⟨hS b o hs,rfl⟩;by_cases h0:bs=[]
 ·subst h0;obtain⟨_,⟨e,_⟩|⟨g,cap,cur,e,_⟩⟩:=h.nest.outer
  ·rw[e];exact .nil _ _ _
  ·rw[e,yq,h.len];exact .nil _ _ _
 ·have hpos:0<bs.length:=y2n.2 h0;obtain⟨g,cap,u0,hv,hcap,hge,hgl,_⟩:=h.at hpos;have hcl:cs.length=bs.length*2:=by have:=h.nest.outer.1;rw[yq,h.len]at this;exact this
  have ho:=h.nest.outer;rw[yq,h.len,hv]at ho;rw[hv];refine VRel.dat (U:=Un) Ty.bunch bs g 0 cap (fun i j=>cs.getD (i*2+j) undef) ⟨hcap,hbl⟩ (fun i j hi hj=>?_) (fun i hi j d hd=>?_)
  ·have hj':j<2:=hj;have hlt:i*2+j<bs.length*2:=by omega
   have e:0+i*Un.sz Ty.bunch+j=i*2+j:=by show 0+i*2+j=_;omega
   rw[e];refine⟨.inr ⟨hge,hgl,by simp[Value.ownBlock]⟩,?_⟩;rw[ho.cellAt _ hlt,yd,y9 (by omega)];rfl
  ·have hb:bs.getD i zh=bs[i]:=by rw[yd,y9 hi];rfl
   have hd':([.dat (U:=Un) Ty.val (bs[i]'hi).key,.dat (U:=Un) Ty.row (bs[i]'hi).rows]:List (V Un))[j]?=some d:=hd;cases j with
   |zero=>
    simp at hd';subst hd';obtain⟨u,h1,h2⟩:=h.key i hi;show VRel En _ W (cs.getD (i*2+0) undef) _;rw[y1q,yd,h1];rw[hb]at h2;exact h2.mono hK
   |succ j=>
    cases j with
    |succ j=>simp at hd'
    |zero=>
     simp at hd';subst hd';obtain⟨g',cap',u,hv',_,_,_,h1,_,_,h4,h5⟩:=h.at hi;show VRel En _ W (cs.getD (i*2+1) undef) _;rw[yd,h1];show VRel En _ W u _;have hr:=h.row i hi;have hzl:=hr.length;have hrl':=hrl i hi;rw[hb]at hr hzl hrl';rcases hrr:(bs[i]'hi).rows with _|⟨x0,r0⟩
     ·rw[hrr,y1w]at hzl;obtain⟨_,⟨e,_⟩|⟨g2,cap2,cur2,e,_⟩⟩:=h4
      ·rw[e];exact .nil _ _ _
      ·rw[e,hzl];exact .nil _ _ _
     ·rw[←hrr];have h4':=h4;obtain⟨hzc,⟨_,e⟩|⟨g2,cap2,cur2,e,hg2,_,hc2,_⟩⟩:=h4
      ·rw[hzl,hrr]at e;simp at e
      ·have hlt2:=(h4'.lt g2 (by rw[e];rfl)).2;rw[e]at h4' ⊢;rw[hzl]at h4' hc2 ⊢;refine VRel.dat (U:=Un) Ty.row (bs[i]'hi).rows g2 0 cap2 (fun a b=>(zs.getD i []).getD a undef) ⟨hc2,hrl'⟩ (fun a b ha hb=>?_) (fun a ha b d hd=>?_)
       ·have hb0:b=0:=by have:b<1:=hb;omega
        subst hb0;have e:0+a*Un.sz Ty.row+0=a:=by show 0+a*1+0=a;omega
        rw[e];refine⟨.inr ⟨hg2,hlt2,by simp[Value.ownBlock]⟩,?_⟩;rw[h4'.cellAt a (by omega)];exact z2ix (by omega)
       ·have hd':([.dat (U:=Un) Ty.val ((bs[i]'hi).rows[a]'ha)]:List (V Un))[b]?=some d:=hd;cases b with
        |succ b=>simp at hd'
        |zero=>
         simp at hd';subst hd';obtain⟨y,hy,hyr⟩:=All2.get a hr (y9 ha);show VRel En _ W ((zs.getD i []).getD a undef) _;rw[yd,hy];exact hyr.mono hK
end
end B
namespace B
open Go Go.RowKit
set_option maxRecDepth 100000
noncomputable section
attribute [local irreducible] awp ctxK zx z1f retQ z1l awf ctxF z1k
def z1b(o:Bunch→Prop)(p:Bunch→Bool):FV Un:=fun args=>match args with
 |[x0]=>(dS .bunch (.d x0)).bind fun a0=>some ([o a0],[.v (cb (p a0))])
 |_=>none
def z3q(φ:FV Un):Bunch→Prop:=fun a0=>match φ [.agg (enc Ty.bunch a0)]with
 |some ([q],_)=>q
 |_=>False
def z57(φ:FV Un):Bunch→Bool:=fun a0=>match φ [.agg (enc Ty.bunch a0)]with
 |some (_,[.v (.s (.bool b))])=>b
 |_=>false
theorem zq7(o:Bunch→Prop)(p:Bunch→Bool):z57 (z1b o p)=p:=by
 funext a0;unfold z57 z1b;simp only[zyn,yh]<;>rfl
theorem zfu(o:Bunch→Prop)(p:Bunch→Bool):z3q (z1b o p)=o:=by
 funext a0;unfold z3q z1b;simp only[zyn,yh]<;>rfl
def z5g(s:List Bunch)(f_o:Bunch→Prop)(f:Bunch→Bool)(v0:Int):S Un:=(st 19 19 76 0 [(0,al .bunch s),(1,AV.one (A.c (C.fv (z1b f_o f)))),(4,ai (0:Int)),(7,ai (↑s.length:Int)),(8,ai v0)] [] [])
def zmb(s:List Bunch)(f_o:Bunch→Prop)(f:Bunch→Bool)(v0:Int)(v1:Int):S Un:=(st 19 19 76 0 [(0,al .bunch s),(1,AV.one (A.c (C.fv (z1b f_o f)))),(4,ai v1),(7,ai (↑s.length:Int)),(8,ai v0)] [] [])
def z9e:S Un→Option (EX Un):=lpF_ z1bz zos Tryz.f183 [1,0,1,2,2] 2
def zp1:Exit→S Un→Option (RF Un):=cxF_ z1bz zos Tryz.f183 [1,0,1,2] [.d]
def z1ej(s:List Bunch)(f_o:Bunch→Prop)(f:Bunch→Bool):Option (RF Un):=fnF_ z1bz zos Tryz.f183 0 [.d] [.d (.v (.dat (U:=Un) Ty.bunch s)),.fn (z1b f_o f)]
theorem z25h(s:List Bunch)(f_o:Bunch→Prop)(f:Bunch→Bool):z1ej s f_o f=(z9e (z5g s f_o f (0:Int))).bind (ze zp1):=by kernel_rfl
theorem zy6(s:List Bunch)(f_o:Bunch→Prop)(f:Bunch→Bool)(v0:Int):z9e (z5g s f_o f v0)=cndO (decide (v0<(↑s.length:Int))) (obO (0≤v0∧v0<(↑s.length:Int)) (obO (f_o (s.getD v0.toNat zh)) (cndO (f (s.getD v0.toNat zh)) (some (.ret,(zmb s f_o f v0 v0))) (z9e (z5g s f_o f (IntKind.i64.wrap (v0+1))))))) (some (.exit 0,(z5g s f_o f v0))):=lpQ_ (by kernel_rfl)
theorem z1nz(s:List Bunch)(f_o:Bunch→Prop)(f:Bunch→Bool)(v0:Int)(v1:Int):zp1 .ret (zmb s f_o f v0 v1)=some (z17t (v1)):=by kernel_rfl
theorem z1rh(s:List Bunch)(f_o:Bunch→Prop)(f:Bunch→Bool)(v0:Int):zp1 (.exit 0) (z5g s f_o f v0)=some (z17t ((-1:Int))):=by kernel_rfl
def z1ho(o:Bunch→Prop)(s:List Bunch):Prop:=∀x∈s,o x
def zup(s:List Bunch)(_o:Bunch→Prop)(f:Bunch→Bool):Int:=match s.findIdx? f with|some i=>(i:Int)|none=>-1
theorem z1wu(s:List Bunch)(o:Bunch→Prop)(f:Bunch→Bool)(hs:WL .bunch s)(ho:z1ho o s):z1ej s o f=some (z17t (zup s o f)):=by
 have key:∀(r:List Bunch)(i:Nat),s.drop i=r→i≤s.length→(z9e (z5g s o f i)).bind (ze zp1)=some (z17t (match r.findIdx? f with|some k=>((i+k:Nat):Int)|none=>-1)):=by
  intro r
  induction r with
  |nil=>
   intro i hr hi;have:s.length≤i:=by rw[←y1n];exact hr
   have e:z9e (z5g s o f i)=some (.exit 0,z5g s o f i):=by rw[zy6,z8,if_neg (by simp;omega)]
   rw[zg e,z1rh];rfl
  |cons x r ih=>
   intro i hr hi;obtain⟨a1,a2,a3,hm⟩:=z55 hr;have hx:s.getD i zh=x:=a2 zh;by_cases hf:f x=true
   ·have e:z9e (z5g s o f i)=some (.ret,zmb s o f i i):=by
     rw[zy6,z8,if_pos (by simp;omega),z6 (by omega),y5,hx,z6 (ho x hm),z8,if_pos hf]
    rw[zg e,z1nz];simp[y2k,hf]
   ·have e:z9e (z5g s o f i)=z9e (z5g s o f ((i+1:Nat):Int)):=by
     rw[zy6,z8,if_pos (by simp;omega),z6 (by omega),y5,hx,z6 (ho x hm),z8,if_neg hf,z3s a1 hs.len]
    rw[e,ih (i+1) a3 (by omega)];congr 2;simp only[y2k,hf];cases r.findIdx? f with
    |none=>rfl
    |some k=>simp;omega
 rw[z25h];have:=key s 0 rfl (ya _);refine Eq.trans this ?_;unfold zup;cases s.findIdx? f<;>simp
def zsf:FnC Un:=fun args=>match args with
 |[x0,x1]=>(dL .bunch x0).bind fun s=>(dF x1).bind fun f=>some ([f=(z1b (z3q f) (z57 f)),z1ho (z3q f) s],zac (zup s (z3q f) (z57 f)),zad (zup s (z3q f) (z57 f)))
 |_=>none
theorem z25i:FnOK 183 zsf:=by
 intro args ob rs os h hob;unfold zsf at h;split at h
 ·simp only[y7,y8,ym]at h;obtain⟨s,e0,f,e1,rfl,rfl,rfl⟩:=h;obtain rfl:=z11 e0;obtain rfl:=znm e1;have hfv0:=hob _ (ye (i:=0) rfl);generalize z57 f=pp0 at*;generalize z3q f=qq0 at*;subst hfv0;exact⟨z2f (M:=z1bz) rfl (z4o (l1:=[]) (l2:=[]) (l3:=[]) (l4:=[]) (l5:=[]) trivial trivial trivial trivial trivial) Tryz.func183 (by kernel_rfl) zos 0 [.d] (fun hwf=>(z1wu s qq0 pp0 (z42 hwf (a:=.d (.v (.dat (U:=Un) Ty.bunch s))) (ye (i:=0) rfl)) (hob _ (ye (i:=1) rfl)))),zj Tryz.func183 (by kernel_rfl) (by kernel_rfl)⟩
 ·simp at h
def z26r(b:Bunch)(q:List Val):Option (RF Un):=fnF_ z2d6 z23b Tryz.f184 0 [.d] [.d (.agg (enc Ty.bunch b)),.box [.v (.dat (U:=Un) Ty.val q)]]
theorem z2iy(b:Bunch)(q:List Val):z26r b q=some (z8z (z2n b.key q==0)):=by kernel_rfl
def bun1(b:Bunch)(q:List Val):Bool:=z2n b.key q==0
theorem z2e5(b:Bunch)(q:List Val)(_hb:WS .bunch b)(_hq:WL .val q)(_h:True):z26r b q=some (z8z (bun1 b q)):=by
 rw[z2iy];rfl
def z1o0:List (List (DC Un))→Option (FV Un):=fun dl=>match dl with
 |[b0]=>(bL .val b0).bind fun q=>some (z1b (fun b=>True) (fun b=>bun1 b q))
 |_=>none
theorem z2gr:ClOK 184 z1o0:=by
 refine⟨zj Tryz.func184 (by kernel_rfl) (by kernel_rfl),fun dl φ args ob rs hF hφ hob=>?_⟩;unfold z1o0 at hF;split at hF
 ·simp only[y7,y8]at hF;obtain⟨q,g0,hE⟩:=hF;subst hE;obtain rfl:=z27h g0;unfold z1b at hφ;split at hφ
  ·simp only[y7,y8,ym]at hφ;obtain⟨b,e0,rfl,rfl⟩:=hφ;simp only[yr,y1m,y16,yz];rw[zr e0];exact Contract.data (z2f (M:=z2d6) rfl (z4o (l1:=[(149,z77)]) (l2:=[]) (l3:=[]) (l4:=[]) (l5:=[]) ⟨zlq,trivial⟩ trivial trivial trivial trivial) Tryz.func184 (by kernel_rfl) z23b 0 [.d] (fun hwf=>(z2e5 b q (z42 hwf (a:=.d (.agg (enc Ty.bunch b))) (ye (i:=0) rfl)) (z42 hwf (a:=.box [.v (.dat (U:=Un) Ty.val q)]) (ye (i:=1) rfl)) (hob _ (ye (i:=0) rfl)))))
  ·simp at hφ
 ·simp at hF
end
end B
end Go.Proofs.YtjfpbchdcbhfgaaGreat
