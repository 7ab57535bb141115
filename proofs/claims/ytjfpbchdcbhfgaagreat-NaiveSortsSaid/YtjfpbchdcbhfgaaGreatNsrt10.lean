/- Part 10 of the proof: BTabs BEntryG BLib LawBase. -/
import Derived.Test.YtjfpbchdcbhfgaaGreatProg
import Derived.KernelRfl
import Derived.JoinedCond
import Derived.Test.YtjfpbchdcbhfgaaGreatNsrt9
namespace Go.Proofs.YtjfpbchdcbhfgaaGreat.B
open Go
def tab : List (TypeId×TI Un):=[(1,.fn),
 (2,.int .i64),
 (3,.int .i64),
 (4,.bool),
 (5,.int .u8),
 (6,.int .u8),
 (7,.st [(0,1,false),(1,1,false),(2,1,false),(3,1,false)] 4),
 (8,.st [(0,1,false),(1,1,false),(2,1,false),(3,1,false)] 4),
 (9,.str),
 (10,.str),
 (11,.str),
 (12,.int .u64),
 (13,.st [(0,1,false),(1,1,false)] 2),
 (14,.st [(0,1,false),(1,1,false)] 2),
 (15,.one),
 (16,.one),
 (17,.one),
 (18,.st [(0,1,false)] 1),
 (19,.st [(0,1,false)] 1),
 (21,.int .i32),
 (22,.sl 62 Ty.col 40),
 (23,.sl 29 Ty.rel 192),
 (24,.sl 39 Ty.term 128),
 (25,.sl 64 Ty.agg 48),
 (26,.sl 69 Ty.by_ 16),
 (27,.sl 57 Ty.row 24),
 (28,.st [(0,1,false),(1,1,false),(2,1,false),(3,1,false),(4,1,false),(5,1,false),(6,1,false),(7,1,false),(8,1,false),(9,1,false),(10,1,false)] 11),
 (29,.st [(0,1,false),(1,1,false),(2,1,false),(3,1,false),(4,1,false),(5,1,false),(6,1,false),(7,1,false),(8,1,false),(9,1,false),(10,1,false)] 11),
 (30,.sl 80 Ty.data 40),
 (31,.fn),
 (32,.fn),
 (33,.fn),
 (34,.fn),
 (35,.fn),
 (36,.st [(0,1,false),(1,1,false),(2,1,false)] 3),
 (37,.st [(0,1,false),(1,1,false),(2,1,false)] 3),
 (38,.st [(0,1,false),(1,3,true),(4,1,false),(5,1,false),(6,1,false),(7,1,false),(8,1,false),(9,1,false)] 10),
 (39,.st [(0,1,false),(1,3,true),(4,1,false),(5,1,false),(6,1,false),(7,1,false),(8,1,false),(9,1,false)] 10),
 (40,.fn),
 (41,.fn),
 (42,.sl 3 Ty.int 8),
 (43,.fn),
 (44,.fn),
 (45,.fn),
 (46,.fn),
 (47,.fn),
 (48,.sl 42 Ty.ints 24),
 (49,.fn),
 (50,.fn),
 (51,.ar 2 11 true),
 (53,.fn),
 (55,.fn),
 (56,.sl 37 Ty.val 32),
 (57,.sl 37 Ty.val 32),
 (58,.fn),
 (59,.fn),
 (60,.fn),
 (61,.st [(0,1,false),(1,1,false),(2,1,false)] 3),
 (62,.st [(0,1,false),(1,1,false),(2,1,false)] 3),
 (63,.st [(0,1,false),(1,1,false),(2,1,false)] 3),
 (64,.st [(0,1,false),(1,1,false),(2,1,false)] 3),
 (65,.fn),
 (66,.fn),
 (67,.ar 2 1 false),
 (68,.st [(0,1,false),(1,1,false)] 2),
 (69,.st [(0,1,false),(1,1,false)] 2),
 (70,.fn),
 (71,.fn),
 (72,.fn),
 (73,.fn),
 (74,.fn),
 (75,.fn),
 (76,.fn),
 (77,.fn),
 (78,.fn),
 (79,.st [(0,1,false),(1,1,false)] 2),
 (80,.st [(0,1,false),(1,1,false)] 2),
 (81,.fn),
 (82,.fn),
 (83,.fn),
 (84,.st [(0,1,false),(1,1,false)] 2),
 (85,.st [(0,1,false),(1,1,false)] 2),
 (86,.fn),
 (87,.fn),
 (88,.fn),
 (89,.fn),
 (90,.fn),
 (91,.fn),
 (92,.fn),
 (93,.fn),
 (94,.fn),
 (95,.fn),
 (97,.fn),
 (98,.int .i64),
 (100,.fn),
 (102,.fn),
 (103,.fn),
 (104,.fn),
 (105,.fn),
 (106,.fn),
 (107,.fn),
 (108,.fn),
 (109,.fn),
 (110,.fn),
 (111,.fn),
 (112,.fn),
 (113,.fn),
 (114,.fn),
 (115,.fn),
 (116,.fn),
 (118,.fn),
 (119,.fn),
 (120,.fn),
 (121,.fn),
 (122,.fn),
 (123,.fn),
 (124,.fn),
 (125,.fn),
 (126,.fn),
 (127,.fn),
 (128,.fn),
 (129,.fn),
 (130,.fn),
 (131,.fn),
 (132,.fn),
 (133,.fn),
 (134,.fn),
 (135,.fn),
 (136,.fn),
 (137,.fn),
 (138,.fn),
 (139,.fn),
 (140,.fn),
 (141,.fn),
 (142,.fn),
 (143,.fn),
 (144,.fn),
 (145,.fn),
 (146,.fn),
 (147,.fn),
 (148,.fn),
 (149,.fn),
 (150,.fn),
 (151,.fn),
 (152,.fn),
 (153,.fn),
 (154,.fn),
 (155,.fn),
 (156,.fn),
 (157,.sl 160 Ty.bunch 48),
 (158,.fn),
 (159,.st [(0,1,false),(1,1,false)] 2),
 (160,.st [(0,1,false),(1,1,false)] 2),
 (161,.fn),
 (162,.fn),
 (163,.fn),
 (164,.fn),
 (165,.fn),
 (166,.fn),
 (167,.fn),
 (168,.fn),
 (169,.fn),
 (170,.fn),
 (171,.fn),
 (172,.fn),
 (173,.fn),
 (174,.fn),
 (175,.fn),
 (176,.fn),
 (177,.fn),
 (178,.fn),
 (179,.fn),
 (180,.st [(0,1,false),(1,1,false),(2,1,false),(3,1,false),(4,1,false),(5,3,true),(8,1,false)] 9),
 (181,.st [(0,1,false),(1,1,false),(2,1,false),(3,1,false),(4,1,false),(5,3,true),(8,1,false)] 9),
 (182,.fn),
 (183,.fn),
 (184,.fn),
 (185,.fn),
 (186,.sl 27 Ty.rowss 24),
 (187,.fn),
 (188,.fn),
 (189,.fn),
 (190,.fn),
 (191,.fn),
 (192,.one),
 (193,.one),
 (194,.sl 197 Ty.sign 16),
 (195,.fn),
 (196,.st [(0,1,false),(1,1,false)] 2),
 (197,.st [(0,1,false),(1,1,false)] 2),
 (198,.fn),
 (199,.fn),
 (200,.fn),
 (201,.sl 5 Ty.u8 1),
 (202,.fn),
 (203,.sl 4 Ty.bol 1),
 (204,.fn),
 (205,.fn),
 (206,.fn),
 (207,.fn),
 (208,.fn),
 (209,.fn),
 (210,.fn),
 (211,.fn),
 (212,.fn),
 (213,.fn),
 (214,.fn),
 (215,.fn),
 (216,.fn),
 (217,.int .u64),
 (218,.fn),
 (219,.fn),
 (220,.fn),
 (221,.fn),
 (222,.fn),
 (223,.fn),
 (224,.fn),
 (225,.st [(0,1,false),(1,1,false),(2,1,false),(3,1,false)] 4),
 (226,.st [(0,1,false),(1,1,false),(2,1,false),(3,1,false)] 4),
 (227,.ar 0 1 false),
 (230,.fn),
 (231,.int .u32),
 (232,.int .u8),
 (233,.int .u8),
 (234,.fn),
 (235,.one),
 (236,.int .i32),
 (237,.int .i32),
 (238,.st [(0,1,false),(1,1,false),(2,1,false),(3,1,false),(4,1,false),(5,1,false),(6,1,false),(7,1,false),(8,1,false),(9,1,false),(10,1,false)] 11),
 (239,.st [(0,1,false),(1,1,false),(2,1,false),(3,1,false),(4,1,false),(5,1,false),(6,1,false),(7,1,false),(8,1,false),(9,1,false),(10,1,false)] 11)]
def zeros : List (TypeId×List (C Un)):=[(1,[.s .nilFunc]),
 (2,[.s (.int .i64 0)]),
 (3,[.s (.int .i64 0)]),
 (4,[.s (.bool false)]),
 (5,[.s (.int .u8 0)]),
 (6,[.s (.int .u8 0)]),
 (7,[.s (.int .i64 0),.s (.int .i64 0),.s (.bool false),.s (.int .u8 0)]),
 (8,[.s (.int .i64 0),.s (.int .i64 0),.s (.bool false),.s (.int .u8 0)]),
 (9,[.s (.string ⟨#[]⟩)]),
 (10,[.s (.string ⟨#[]⟩)]),
 (11,[.s (.string ⟨#[]⟩)]),
 (12,[.s (.int .u64 0)]),
 (13,[.s (.string ⟨#[]⟩),.s (.int .u64 0)]),
 (14,[.s (.string ⟨#[]⟩),.s (.int .u64 0)]),
 (21,[.s (.int .i32 0)]),
 (22,[.sl (U:=Un) Ty.col [] true]),
 (23,[.sl (U:=Un) Ty.rel [] true]),
 (24,[.sl (U:=Un) Ty.term [] true]),
 (25,[.sl (U:=Un) Ty.agg [] true]),
 (26,[.sl (U:=Un) Ty.by_ [] true]),
 (27,[.sl (U:=Un) Ty.row [] true]),
 (28,[.s (.int .i64 0),.s (.string ⟨#[]⟩),.sl (U:=Un) Ty.col [] true,.sl (U:=Un) Ty.rel [] true,.sl (U:=Un) Ty.term [] true,.sl (U:=Un) Ty.agg [] true,.sl (U:=Un) Ty.by_ [] true,.s (.int .i64 0),.s (.int .i64 0),.s (.bool false),.sl (U:=Un) Ty.row [] true]),
 (29,[.s (.int .i64 0),.s (.string ⟨#[]⟩),.sl (U:=Un) Ty.col [] true,.sl (U:=Un) Ty.rel [] true,.sl (U:=Un) Ty.term [] true,.sl (U:=Un) Ty.agg [] true,.sl (U:=Un) Ty.by_ [] true,.s (.int .i64 0),.s (.int .i64 0),.s (.bool false),.sl (U:=Un) Ty.row [] true]),
 (30,[.sl (U:=Un) Ty.data [] true]),
 (31,[.s .nilFunc]),
 (32,[.s .nilFunc]),
 (33,[.s .nilFunc]),
 (34,[.s .nilFunc]),
 (35,[.s .nilFunc]),
 (36,[.s (.int .i64 0),.s (.int .i64 0),.s (.string ⟨#[]⟩)]),
 (37,[.s (.int .i64 0),.s (.int .i64 0),.s (.string ⟨#[]⟩)]),
 (38,[.s (.int .i64 0),.s (.int .i64 0),.s (.int .i64 0),.s (.string ⟨#[]⟩),.s (.int .i64 0),.s (.int .i64 0),.s (.string ⟨#[]⟩),.sl (U:=Un) Ty.term [] true,.sl (U:=Un) Ty.rel [] true,.s (.int .i64 0)]),
 (39,[.s (.int .i64 0),.s (.int .i64 0),.s (.int .i64 0),.s (.string ⟨#[]⟩),.s (.int .i64 0),.s (.int .i64 0),.s (.string ⟨#[]⟩),.sl (U:=Un) Ty.term [] true,.sl (U:=Un) Ty.rel [] true,.s (.int .i64 0)]),
 (40,[.s .nilFunc]),
 (41,[.s .nilFunc]),
 (42,[.sl (U:=Un) Ty.int [] true]),
 (43,[.s .nilFunc]),
 (44,[.s .nilFunc]),
 (45,[.s .nilFunc]),
 (46,[.s .nilFunc]),
 (47,[.s .nilFunc]),
 (48,[.sl (U:=Un) Ty.ints [] true]),
 (49,[.s .nilFunc]),
 (50,[.s .nilFunc]),
 (51,[.s (.int .i64 0),.s (.string ⟨#[]⟩),.sl (U:=Un) Ty.col [] true,.sl (U:=Un) Ty.rel [] true,.sl (U:=Un) Ty.term [] true,.sl (U:=Un) Ty.agg [] true,.sl (U:=Un) Ty.by_ [] true,.s (.int .i64 0),.s (.int .i64 0),.s (.bool false),.sl (U:=Un) Ty.row [] true,.s (.int .i64 0),.s (.string ⟨#[]⟩),.sl (U:=Un) Ty.col [] true,.sl (U:=Un) Ty.rel [] true,.sl (U:=Un) Ty.term [] true,.sl (U:=Un) Ty.agg [] true,.sl (U:=Un) Ty.by_ [] true,.s (.int .i64 0),.s (.int .i64 0),.s (.bool false),.sl (U:=Un) Ty.row [] true]),
 (53,[.s .nilFunc]),
 (55,[.s .nilFunc]),
 (56,[.sl (U:=Un) Ty.val [] true]),
 (57,[.sl (U:=Un) Ty.val [] true]),
 (58,[.s .nilFunc]),
 (59,[.s .nilFunc]),
 (60,[.s .nilFunc]),
 (61,[.s (.string ⟨#[]⟩),.s (.string ⟨#[]⟩),.s (.int .i64 0)]),
 (62,[.s (.string ⟨#[]⟩),.s (.string ⟨#[]⟩),.s (.int .i64 0)]),
 (63,[.s (.string ⟨#[]⟩),.s (.bool false),.sl (U:=Un) Ty.term [] true]),
 (64,[.s (.string ⟨#[]⟩),.s (.bool false),.sl (U:=Un) Ty.term [] true]),
 (65,[.s .nilFunc]),
 (66,[.s .nilFunc]),
 (67,[.s (.int .i64 0),.s (.int .i64 0)]),
 (68,[.s (.int .i64 0),.s (.bool false)]),
 (69,[.s (.int .i64 0),.s (.bool false)]),
 (70,[.s .nilFunc]),
 (71,[.s .nilFunc]),
 (72,[.s .nilFunc]),
 (73,[.s .nilFunc]),
 (74,[.s .nilFunc]),
 (75,[.s .nilFunc]),
 (76,[.s .nilFunc]),
 (77,[.s .nilFunc]),
 (78,[.s .nilFunc]),
 (79,[.s (.string ⟨#[]⟩),.sl (U:=Un) Ty.row [] true]),
 (80,[.s (.string ⟨#[]⟩),.sl (U:=Un) Ty.row [] true]),
 (81,[.s .nilFunc]),
 (82,[.s .nilFunc]),
 (83,[.s .nilFunc]),
 (84,[.sl (U:=Un) Ty.row [] true,.sl (U:=Un) Ty.data [] true]),
 (85,[.sl (U:=Un) Ty.row [] true,.sl (U:=Un) Ty.data [] true]),
 (86,[.s .nilFunc]),
 (87,[.s .nilFunc]),
 (88,[.s .nilFunc]),
 (89,[.s .nilFunc]),
 (90,[.s .nilFunc]),
 (91,[.s .nilFunc]),
 (92,[.s .nilFunc]),
 (93,[.s .nilFunc]),
 (94,[.s .nilFunc]),
 (95,[.s .nilFunc]),
 (97,[.s .nilFunc]),
 (98,[.s (.int .i64 0)]),
 (100,[.s .nilFunc]),
 (102,[.s .nilFunc]),
 (103,[.s .nilFunc]),
 (104,[.s .nilFunc]),
 (105,[.s .nilFunc]),
 (106,[.s .nilFunc]),
 (107,[.s .nilFunc]),
 (108,[.s .nilFunc]),
 (109,[.s .nilFunc]),
 (110,[.s .nilFunc]),
 (111,[.s .nilFunc]),
 (112,[.s .nilFunc]),
 (113,[.s .nilFunc]),
 (114,[.s .nilFunc]),
 (115,[.s .nilFunc]),
 (116,[.s .nilFunc]),
 (118,[.s .nilFunc]),
 (119,[.s .nilFunc]),
 (120,[.s .nilFunc]),
 (121,[.s .nilFunc]),
 (122,[.s .nilFunc]),
 (123,[.s .nilFunc]),
 (124,[.s .nilFunc]),
 (125,[.s .nilFunc]),
 (126,[.s .nilFunc]),
 (127,[.s .nilFunc]),
 (128,[.s .nilFunc]),
 (129,[.s .nilFunc]),
 (130,[.s .nilFunc]),
 (131,[.s .nilFunc]),
 (132,[.s .nilFunc]),
 (133,[.s .nilFunc]),
 (134,[.s .nilFunc]),
 (135,[.s .nilFunc]),
 (136,[.s .nilFunc]),
 (137,[.s .nilFunc]),
 (138,[.s .nilFunc]),
 (139,[.s .nilFunc]),
 (140,[.s .nilFunc]),
 (141,[.s .nilFunc]),
 (142,[.s .nilFunc]),
 (143,[.s .nilFunc]),
 (144,[.s .nilFunc]),
 (145,[.s .nilFunc]),
 (146,[.s .nilFunc]),
 (147,[.s .nilFunc]),
 (148,[.s .nilFunc]),
 (149,[.s .nilFunc]),
 (150,[.s .nilFunc]),
 (151,[.s .nilFunc]),
 (152,[.s .nilFunc]),
 (153,[.s .nilFunc]),
 (154,[.s .nilFunc]),
 (155,[.s .nilFunc]),
 (156,[.s .nilFunc]),
 (157,[.sl (U:=Un) Ty.bunch [] true]),
 (158,[.s .nilFunc]),
 (159,[.sl (U:=Un) Ty.val [] true,.sl (U:=Un) Ty.row [] true]),
 (160,[.sl (U:=Un) Ty.val [] true,.sl (U:=Un) Ty.row [] true]),
 (161,[.s .nilFunc]),
 (162,[.s .nilFunc]),
 (163,[.s .nilFunc]),
 (164,[.s .nilFunc]),
 (165,[.s .nilFunc]),
 (166,[.s .nilFunc]),
 (167,[.s .nilFunc]),
 (168,[.s .nilFunc]),
 (169,[.s .nilFunc]),
 (170,[.s .nilFunc]),
 (171,[.s .nilFunc]),
 (172,[.s .nilFunc]),
 (173,[.s .nilFunc]),
 (174,[.s .nilFunc]),
 (175,[.s .nilFunc]),
 (176,[.s .nilFunc]),
 (177,[.s .nilFunc]),
 (178,[.s .nilFunc]),
 (179,[.s .nilFunc]),
 (180,[.s (.string ⟨#[]⟩),.s (.bool false),.s (.int .i64 0),.s (.int .i64 0),.s (.int .i64 0),.s (.int .i64 0),.s (.int .i64 0),.s (.string ⟨#[]⟩),.sl (U:=Un) Ty.val [] true]),
 (181,[.s (.string ⟨#[]⟩),.s (.bool false),.s (.int .i64 0),.s (.int .i64 0),.s (.int .i64 0),.s (.int .i64 0),.s (.int .i64 0),.s (.string ⟨#[]⟩),.sl (U:=Un) Ty.val [] true]),
 (182,[.s .nilFunc]),
 (183,[.s .nilFunc]),
 (184,[.s .nilFunc]),
 (185,[.s .nilFunc]),
 (186,[.sl (U:=Un) Ty.rowss [] true]),
 (187,[.s .nilFunc]),
 (188,[.s .nilFunc]),
 (189,[.s .nilFunc]),
 (190,[.s .nilFunc]),
 (191,[.s .nilFunc]),
 (194,[.sl (U:=Un) Ty.sign [] true]),
 (195,[.s .nilFunc]),
 (196,[.s (.int .i64 0),.s (.int .u8 0)]),
 (197,[.s (.int .i64 0),.s (.int .u8 0)]),
 (198,[.s .nilFunc]),
 (199,[.s .nilFunc]),
 (200,[.s .nilFunc]),
 (201,[.sl (U:=Un) Ty.u8 [] true]),
 (202,[.s .nilFunc]),
 (203,[.sl (U:=Un) Ty.bol [] true]),
 (204,[.s .nilFunc]),
 (205,[.s .nilFunc]),
 (206,[.s .nilFunc]),
 (207,[.s .nilFunc]),
 (208,[.s .nilFunc]),
 (209,[.s .nilFunc]),
 (210,[.s .nilFunc]),
 (211,[.s .nilFunc]),
 (212,[.s .nilFunc]),
 (213,[.s .nilFunc]),
 (214,[.s .nilFunc]),
 (215,[.s .nilFunc]),
 (216,[.s .nilFunc]),
 (217,[.s (.int .u64 0)]),
 (218,[.s .nilFunc]),
 (219,[.s .nilFunc]),
 (220,[.s .nilFunc]),
 (221,[.s .nilFunc]),
 (222,[.s .nilFunc]),
 (223,[.s .nilFunc]),
 (224,[.s .nilFunc]),
 (230,[.s .nilFunc]),
 (231,[.s (.int .u32 0)]),
 (232,[.s (.int .u8 0)]),
 (233,[.s (.int .u8 0)]),
 (234,[.s .nilFunc]),
 (236,[.s (.int .i32 0)]),
 (237,[.s (.int .i32 0)])]
def eqs : List (TypeId×List EK):=[(37,[.int .i64,.int .i64,.str]),(62,[.str,.str,.int .i64]),(67,[.int .i64,.int .i64]),(69,[.int .i64,.bool]),(197,[.int .i64,.int .u8])]
def mach (fns:FuncId→Option (FnC Un)) (fvs:FuncId→Option (FV Un)) (clo:FuncId→Option (List (List (DC Un))→Option (FV Un))) (gns:FuncId→Option (List Bool×FnG Un)) (ups:FuncId→Option (FnU Un)) : Mc Un:=⟨En,tab,zeros,fns,fvs,clo,gns,eqs,ups⟩
theorem z1nc (fns:FuncId→Option (FnC Un)) (fvs:FuncId→Option (FV Un)) (clo:FuncId→Option (List (List (DC Un))→Option (FV Un))) (gns:FuncId→Option (List Bool×FnG Un)) (ups:FuncId→Option (FnU Un)) : TabOK Tryz.prog (mach fns fvs clo gns ups):=z247 (by kernel_rfl)
theorem mixed : Tryz.prog.follows .mixedOrders=true:=by kernel_rfl
end Go.Proofs.YtjfpbchdcbhfgaaGreat.B
namespace Go.Proofs.YtjfpbchdcbhfgaaGreat.B
open Go Go.RowKit
variable {U:Uni} {P:Program} {M:Mc U}
theorem z1vd {E:Enc U} {n x:Nat} {w:World} {g:G} {vs:List Value} {args:List (A U)} {bs:List (Bool×List (C U))} {os:List (Ob U)} (hp:Part P E g w bs os) (hvs:All2 (ARel P E g (os.map some) w) vs args) :
  Sim P E ⟨w,g.mine,g.St,bs.length,g.β⟩ g (z1ak n x args bs os) { tmps:=vs.toArray++Array.replicate (n - vs.toArray.size) undef,defers:=[] } w:=by
 generalize hm : 4*(bs.length+n)+x - os.length=m
 have hg:GLe g (os.map some) w g (os.map some++List.replicate m none) w:=by
  refine⟨Keeps.refl _ _,fun _ hl=>⟨hl,rfl⟩,fun k o hk=>⟨o,?_,Nat.le_refl _,fun _=>⟨rfl,rfl,rfl⟩⟩⟩
  rw[List.getElem?_append_left (List.getElem?_eq_some_iff.1 hk).1];exact hk
 have hlen:=hvs.length
 refine { ext:=⟨rfl,rfl,rfl,Nat.le_refl _,fun _ _ _=>rfl,fun _ _ _ _=>rfl,fun _ _ _ _=>rfl,hp.laid,fun b hl=>hp.laid.lt b hl,fun b o hl hm=>by obtain⟨y,h1,h2⟩:=hm;exact h1 (hp.nlb b o y hl h2)⟩,tms:=?_,bxs:=?_,lbs:=?_,obs:=?_,own:=?_,dfr:=rfl,fix:=fun _ _ _=>rfl,bas:=Nat.le_refl _ }
 ·show All2 _ (vs.toArray++Array.replicate (n - vs.toArray.size) undef).toList (args.map AV.one++List.replicate (n - args.length) (.one .top))
  have e:(vs.toArray++Array.replicate (n - vs.toArray.size) undef).toList=vs++List.replicate (n - vs.length) undef:=by simp
  rw[e,hlen]
  refine All2.append (All2.map_right AV.one (fun _ _ hh=>?_) hvs) ?_
  ·show ARel P E g (os.map some++List.replicate (4*(bs.length+n)+x - os.length) none) w _ _
   rw[hm];exact ARel.mono hg hh
  ·generalize n - args.length=q
   induction q with
   | zero=>trivial
   | succ q ih=>exact⟨trivial,ih⟩
 ·intro k fz cells hk
  have hk':(bs.map some++List.replicate n (none:Option (Bool×List (C U))))[k]? = some (some (fz,cells)):=hk
  rcases Nat.lt_or_ge k bs.length with hlt | hge
  ·rw[List.getElem?_append_left (by simpa using hlt),List.getElem?_map,List.getElem?_eq_getElem hlt] at hk'
   simp at hk'
   obtain⟨hl,hb⟩:=hp.bxs k fz cells (by rw[List.getElem?_eq_getElem hlt,hk'])
   refine⟨hl,?_⟩
   show BoxRel P E g (os.map some++List.replicate (4*(bs.length+n)+x - os.length) none) w k fz cells
   rw[hm]
   exact hb.keep hl hg (fun b i hx=>⟨hx,rfl,rfl⟩)
  ·rw[List.getElem?_append_right (by simpa using hge),List.getElem?_replicate] at hk'
   split at hk'<;>simp at hk'
 ·intro k hl
  have hlt:=hp.lbs k hl
  refine⟨bs[k],?_⟩
  show (bs.map some++List.replicate n (none:Option (Bool×List (C U))))[k]? = _
  rw[List.getElem?_append_left (by simpa using hlt),List.getElem?_map,List.getElem?_eq_getElem hlt];rfl
 ·intro k o hk
  have hk':(os.map some++List.replicate (4*(bs.length+n)+x - os.length) (none:Option (Ob U)))[k]? = some (some o):=hk
  rcases Nat.lt_or_ge k os.length with hlt | hge
  ·rw[List.getElem?_append_left (by simpa using hlt),List.getElem?_map,List.getElem?_eq_getElem hlt] at hk'
   simp at hk'
   exact (hp.obs k o (by rw[List.getElem?_eq_getElem hlt,hk'])).1
  ·rw[List.getElem?_append_right (by simpa using hge),List.getElem?_replicate] at hk'
   split at hk'<;>simp at hk'
 ·intro b o y hy
  refine⟨hp.own b o y hy,?_⟩
  cases y with
  | st=>exact .inr (.inr ⟨rfl,hy⟩)
  | box k=>exact .inr (.inl ⟨_,by simp,hy⟩)
  | obj k=>exact .inr (.inl ⟨_,by simp,hy⟩)
theorem z1u8 {R:Value→A U→Prop} {R':Value→C U→Prop} (hR:∀ v x,R v (.c x)→R' v x) : ∀ {us:List Value} {l:List (A U)} {cs:List (C U)},unC l=some cs→All2 R us l→All2 R' us cs
 | [],[],cs,h,_=>by simp [unC] at h;subst h;trivial
 | u::us,x::l,cs,h,hh=>by
  cases x with
  | c c =>
   simp only[unC] at h
   split at h
   ·rename_i r hr;simp at h;subst h;exact⟨hR _ _ hh.1,z1u8 hR hr hh.2⟩
   ·simp at h
  | _=>simp [unC] at h
theorem z1jc {R:Value→A U→Prop} {R':Value→C U→Prop} (hR:∀ v x,R v (.c x)→R' v x) {vs:List Value} : ∀ {bs:List (Bool×List (C U))} {vss:List (List Value)} {rs:List (A U)} {bs':List (Bool×List (C U))} {rs':List (A U)},
  ztt bs rs=some (bs',rs')→vss.length=bs.length→(∀ (i:Nat) us b,vss[i]? = some us→bs[i]? = some b→us.length=b.2.length)→All2 R (vss.flatten++vs) rs →
  All2 R vs rs'∧bs'.length=bs.length∧∀ (i:Nat) b',bs'[i]? = some b'→∃ b us,bs[i]? = some b∧vss[i]? = some us∧b'.1=b.1∧All2 R' us b'.2
 | [],vss,rs,bs',rs',h,hl,_,hh=>by
  simp [ztt] at h;obtain⟨rfl,rfl⟩:=h
  have : vss=[]:=List.eq_nil_of_length_eq_zero (by simpa using hl)
  subst this
  exact⟨by simpa using hh,rfl,fun i b' hb=>by simp at hb⟩
 | b::bs,[],rs,bs',rs',h,hl,_,hh=>by simp at hl
 | b::bs,us::vss,rs,bs',rs',h,hl,hlen,hh=>by
  simp only[ztt] at h
  split at h
  ·rename_i cs bs2 r h1 h2
   simp at h;obtain⟨rfl,rfl⟩:=h
   have hul:us.length=b.2.length:=hlen 0 us b rfl rfl
   have ht:=All2.take b.2.length hh
   have hd:=All2.drop b.2.length hh
   rw[← hul] at ht hd
   simp only[List.flatten_cons,List.append_assoc,List.take_left,List.drop_left] at ht hd
   rw[hul] at ht hd
   obtain⟨i1,i2,i3⟩:=z1jc hR h2 (by simpa using hl) (fun i u c hu hc=>hlen (i+1) u c (by simpa using hu) (by simpa using hc)) hd
   refine⟨i1,by simp [i2],fun i b' hb=>?_⟩
   cases i with
   | zero=>simp at hb;subst hb;exact⟨b,us,rfl,rfl,rfl,z1u8 hR h1 ht⟩
   | succ i =>
    obtain⟨c,u,j1,j2,j3⟩:=i3 i b' (by simpa using hb)
    exact⟨c,u,by simpa using j1,by simpa using j2,j3⟩
  ·simp at h
theorem z1bb {E:Enc U} {fr:Fr} {g:G} {s:S U} {a:Act} {w:World} (h:Sim P E fr g s a w) : ∀ {ks:List Nat} {bs:List (Bool×List (C U))},s.boxesAt ks=some bs→∃ vss : List (List Value),vss.length=bs.length ∧
  (∀ {vs:List Value} {al:List (A U)},All2 (ARel P E g s.ob w) vs al→All2 (ARel P E g s.ob w) (vss.flatten++vs) (z1aj bs++al)) ∧
  ∀ (i k:Nat) us b,ks[i]? = some k→vss[i]? = some us→bs[i]? = some b→us.length=b.2.length∧∀ (j:Nat) v,us[j]? = some v→w.cell? ⟨g.β k,j,none⟩=some v∧(b.1=false→stuck w ⟨g.β k,j,none⟩=false)
 | [],bs,hb=>by
  simp [S.boxesAt] at hb;subst hb
  exact⟨[],rfl,fun hh=>hh,fun i k us b hk=>by simp at hk⟩
 | k::ks,bs,hb=>by
  simp only[S.boxesAt] at hb
  split at hb
  ·rename_i b0 r h1 h2
   simp at hb;subst hb
   obtain⟨vss,i1,i2,i3⟩:=z1bb h h2
   obtain⟨_,us,hus,hcell⟩:=h.bxs k b0.1 b0.2 h1
   refine⟨us::vss,by simp [i1],fun {vs al} hh=>?_,fun i q u b hq hu hb=>?_⟩
   ·simp only[List.flatten_cons,z1aj,List.append_assoc]
    exact All2.append (All2.map_right A.c (fun _ _ hx=>hx) hus) (i2 hh)
   ·cases i with
    | zero =>
     simp at hq hu hb;subst hq hu hb
     exact⟨hus.length,fun j v hv=>⟨(hcell j v hv).1,fun hf=>((hcell j v hv).2.1 hf).1⟩⟩
    | succ i=>exact i3 i q u b (by simpa using hq) (by simpa using hu) (by simpa using hb)
  ·simp at hb
def CWf (E:Enc U) : C U→Prop
 | .s x=>oneC x=true
 | .sl τ xs _=>VWf E (.dat τ xs)
 | .el τ xs i _=>VWf E (.dat τ xs)∧i<xs.length
 | _=>True
def AWf (E:Enc U) : A U→Prop
 | .c x=>CWf E x
 | .agg cs=>∀ c∈cs,CWf E c
 | .top=>True
theorem CRel.wf {E:Enc U} {g:G} {ob:List (Option (Ob U))} {w:World} {v:Value} {c:C U} (h:CRel P E g ob w v c) : CWf E c:=by
 cases c with
 | s x=>exact h.2
 | sl τ xs f=>exact h.1.wf
 | el τ xs i off=>obtain⟨h1,b,o,cap,_,h2⟩:=h;exact⟨h2.wf,h1⟩
 | _=>trivial
theorem ARel.wf {E:Enc U} {g:G} {ob:List (Option (Ob U))} {w:World} {v:Value} {a:A U} (h:ARel P E g ob w v a) : AWf E a:=by
 cases a with
 | c x=>exact CRel.wf h
 | agg cs=>obtain⟨arr,_,h2⟩:=h;exact fun c hc=>(h2.mem c hc).elim fun _ hh=>hh.wf
 | top=>trivial
theorem BoxRel.wf {E:Enc U} {g:G} {ob:List (Option (Ob U))} {w:World} {k:Nat} {fz:Bool} {cells:List (C U)} (h:BoxRel P E g ob w k fz cells) : ∀ c∈cells,CWf E c:=by
 obtain⟨vs,h1,_⟩:=h
 exact fun c hc=>(h1.mem c hc).elim fun _ hh=>hh.wf
theorem ObRel.wf {E:Enc U} {g:G} {w:World} {k:Nat} {o:Ob U} (h:ObRel E g w k o) : VWf E (.dat o.τ o.xs):=by
 refine .dat _ _ h.1.1.2 fun i hi j d hd=>?_
 obtain⟨b,off,cv,_,hA⟩:=h.2 (by have:=h.1.1.1;omega)
 exact (hA.rel i hi j d hd).wf
theorem z1oi (hT:TabOK P M) (hF:FnsOK P M) (hm:P.follows .mixedOrders=true) {f:FuncId} {fn:Func} {body:Code} (hf:P.funcs[f]? = some fn) (hb:fn.body=some body) (N:Nat→NS) (x:Nat) (fm:List Kind) {args rs:List (A U)} {bs bs':List (Bool×List (C U))} {os os':List (Ob U)}
  (h0:(∀ a∈args,AWf M.E a)→(∀ b∈bs,∀ c∈b.2,CWf M.E c)→(∀ o∈os,VWf M.E (.dat o.τ o.xs)∧o.frozen≤o.xs.length)→awp M N body (z1ak fn.ntmps x args bs os) (z2i M bs.length fn.results.toList fm fun r b o=>r=rs∧b=bs'∧o=os')) : GContract P M.E f args bs os rs bs' os':=by
 intro w g0 vs0 hp0 hvs0
 have hs0:=z1vd (n:=fn.ntmps) (x:=x) hp0 hvs0
 have h:=h0 (fun a ha=>(hvs0.mem a ha).elim fun _ hh=>hh.wf)
  (fun b hb=>by obtain⟨i,hi⟩:=List.getElem?_of_mem hb;exact (hp0.bxs i b.1 b.2 hi).2.wf)
  (fun o ho=>by
   obtain⟨i,hi⟩:=List.getElem?_of_mem ho
   have hr:=(hp0.obs i o hi).1
   refine⟨hr.wf,?_⟩
   unfold Ob.frozen;split
   ·exact Nat.le_refl _
   ·rename_i f hf;exact hr.1.2 f hf)
 refine calls_of_wp hf hb ?_
 refine zc2 hT hF hm N body (Q:=z2i M bs.length fn.results.toList fm fun r b o=>r=rs∧b=bs'∧o=os') ?_ hs0 h
 have fin:∀ s g a w',z140 M bs.length fn.results.toList fm (fun r b o=>r=rs∧b=bs'∧o=os') s→Sim P M.E ⟨w,g0.mine,g0.St,bs.length,g0.β⟩ g s a w'→a.defers=[]∧∃ v,(results fn a.tmps).run P w'=.ok v w'∧∃ v',Ending.returned v=.returned v'∧RetG P M.E g0 w w' v' rs bs' os':=by
  intro s g a w' hq hs'
  unfold z140 at hq
  split at hq
  ·rename_i al bsS hal hbsS
   split at hq
   ·rename_i rsA osA hout
    split at hq
    ·rename_i bsR rsR hsplit
     obtain⟨rfl,rfl,rfl⟩:=hq
     obtain⟨v,hv,hvr⟩:=zy5 hT hs' hal
     refine⟨hs'.dfr,v,hv,v,rfl,?_⟩
     obtain⟨vs,hall,hback⟩:=z1u6 hvr
     obtain⟨vss,hvl,happ,hcells⟩:=z1bb hs' hbsS
     obtain⟨hbl,hbat⟩:=zi7 hbsS
     obtain⟨hlr,gr,c1,c2,c3,c4,c5,c6,c7,c8⟩:=z1od hs' bs.length (happ hall) hout
     have hlenS:bsS.length=bs.length:=by rw[hbl];simp
     have hrange:∀ i,i<bs.length→(List.range bs.length)[i]? = some i:=fun i hi=>by simp [hi]
     obtain⟨d1,d2,d3⟩:=z1jc (R':=CRel P M.E gr (osA.map some) w') (fun _ _ hx=>hx) hsplit hvl (fun i us b hu hb=>by
      have hi:i<bs.length:=by rw[← hlenS];exact (List.getElem?_eq_some_iff.1 hb).1
      exact (hcells i i us b (hrange i hi) hu hb).1) c7
     refine⟨gr,(by rw[d2,hlenS];exact hs'.ext),⟨fun k fz cells hk=>?_,fun k hk=>?_,c8,fun b o y hy=>(c4 b o y hy).1,hs'.ext.laid,fun b o y hl hy=>?_⟩,fun k hk=>?_,fun b o y hb hy=>?_,hback ?_ d1⟩
     ·have hkl:k<bs.length:=by rw[← hlenS,← d2];exact (List.getElem?_eq_some_iff.1 hk).1
      obtain⟨b,us,e1,e2,e3,e4⟩:=d3 k (fz,cells) hk
      obtain⟨bx,f1,f2⟩:=hbat k k (hrange k hkl)
      rw[e1] at f2;simp at f2;subst f2
      obtain⟨hul,hcell⟩:=hcells k k us b (hrange k hkl) e2 e1
      have hgl:=(hs'.bxs k b.1 b.2 f1).1
      dsimp only at e3
      subst e3
      refine⟨(c1 k).2 ⟨hkl,hgl⟩,us,e4,fun i u hu=>?_⟩
      have hi:i<b.2.length:=by rw[← hul];exact (List.getElem?_eq_some_iff.1 hu).1
      obtain⟨q1,q2⟩:=c5 k b.1 b.2 i hkl f1 hi
      rw[c2 k hgl]
      exact⟨(hcell i u hu).1,fun hf=>⟨(hcell i u hu).2 hf,q1 hf⟩,q2⟩
     ·rw[d2,hlenS];exact ((c1 k).1 hk).1
     ·rcases (c4 b o y hy).2 with hh | ⟨z,hz,hh⟩ | hh
      ·have : w.heap.size≤b:=hh
       exact absurd (hp0.laid.lt b hl) (by omega)
      ·exact (hz (hp0.nlb b o z hl hh)).elim
      ·exact hh.1
     ·have hkl:=hp0.lbs k hk
      obtain⟨bx,f1,_⟩:=hbat k k (hrange k hkl)
      have hgl:=(hs'.bxs k bx.1 bx.2 f1).1
      rw[c2 k hgl];exact hs'.fix k hkl hgl
     ·rcases (c4 b o y hy).2 with hh | hh | hh
      ·have : w.heap.size≤b:=hh
       omega
      ·exact .inl hh
      ·exact .inr hh
     ·have hll:(vss.flatten++vs).length=rsA.length:=c7.length
      have:=hall.length
      have:=d1.length
      omega
    ·exact hq.elim
   ·exact hq.elim
  ·exact hq.elim
 intro e s g a w' hq hs'
 cases e with
 | normal=>exact fin s g a w' hq hs'
 | ret=>exact fin s g a w' hq hs'
 | _=>exact hq.elim
end Go.Proofs.YtjfpbchdcbhfgaaGreat.B
namespace Go.Proofs.YtjfpbchdcbhfgaaGreat.B
open Go Go.RowKit
def FnOK (f:FuncId) (F:FnC Un) : Prop:=∀ args ob rs os,F args=some (ob,rs,os)→(∀ p∈ob,p)→Contract Tryz.prog En f args rs os∧z3q Tryz.prog f
def FvOK (f:FuncId) (φ:FV Un) : Prop:=z3q Tryz.prog f∧∀ args ob rs,φ args=some (ob,rs)→(∀ p∈ob,p)→zdu Tryz.prog En f (args.map .d) ob rs
def ClOK (f:FuncId) (F:List (List (DC Un))→Option (FV Un)) : Prop:=z3q Tryz.prog f∧∀ dl φ args ob rs,F dl=some φ→φ args=some (ob,rs)→(∀ p∈ob,p)→zdu Tryz.prog En f (args.map .d++dl.map .box) ob rs
def GnOK (f:FuncId) (F:List Bool×FnG Un) : Prop:=∀ args bxs obs ob rs bxs' obs',F.2 args bxs obs=some (ob,rs,bxs',obs')→(∀ p∈ob,p)→GContract Tryz.prog En f args bxs obs rs bxs' obs'∧z3q Tryz.prog f
def UpOK (f:FuncId) (F:FnU Un) : Prop:=∀ τ xs ds ob ys,F τ xs ds=some (ob,ys)→(∀ p∈ob,p)→z1ih Tryz.prog En f τ xs ds ys∧z3q Tryz.prog f
def AllL {α:Type} (R:Nat→α→Prop) : List (Nat×α)→Prop
 | []=>True
 | p::r=>R p.1 p.2∧AllL R r
def tbl {α:Type} (l:List (Nat×α)) (f:Nat) : Option α:=look f l
theorem AllL.look {α:Type} {R:Nat→α→Prop} {f:Nat} {x:α} : ∀ {l:List (Nat×α)},AllL R l→tbl l f=some x→R f x
 | [],_,h=>by simp [tbl,B.look] at h
 | (k,y)::r,hl,h=>by
  simp only[tbl,B.look] at h
  split at h
  ·rename_i hb
   have:=Nat.eq_of_beq_eq_true hb
   simp at h;subst this;subst h;exact hl.1
  ·exact AllL.look hl.2 h
theorem zf {l1:List (Nat×FnC Un)} {l2:List (Nat×FV Un)} {l3:List (Nat×(List (List (DC Un))→Option (FV Un)))} {l4:List (Nat×(List Bool×FnG Un))} {l5:List (Nat×FnU Un)}
  (h1:AllL FnOK l1) (h2:AllL FvOK l2) (h3:AllL ClOK l3) (h4:AllL GnOK l4) (h5:AllL UpOK l5) : FnsOK Tryz.prog (mach (tbl l1) (tbl l2) (tbl l3) (tbl l4) (tbl l5)) where
 ups:=fun f F τ xs ds ob ys hf hF hob=>h5.look hf τ xs ds ob ys hF hob
 gns:=fun f ms F args bxs obs ob rs bxs' obs' hf hF hob=>h4.look hf args bxs obs ob rs bxs' obs' hF hob
 fns:=fun f F args ob rs os hf hF hob=>h1.look hf args ob rs os hF hob
 fvb:=fun f φ hf=>(h2.look hf).1
 fvs:=fun f φ args ob rs hf hF hob=>(h2.look hf).2 args ob rs hF hob
 clb:=fun f F hf=>(h3.look hf).1
 clo:=fun f F dl φ args ob rs hf hF hφ hob=>(h3.look hf).2 dl φ args ob rs hF hφ hob
theorem zb {f : FuncId} {fn : Func} (hf : Tryz.prog.funcs[f]? = some fn) (hb : fn.body = some (z8 fn)) (hn : (fn.name == "runtime.NumGoroutine") = false) : z3q Tryz.prog f := ⟨fn, _, hf, hb, hn⟩
structure Runs (p:Prop) : Prop where
 out : p
theorem z2t {M:Mc Un} {fns:FuncId→Option (FnC Un)} {fvs:FuncId→Option (FV Un)} {clo:FuncId→Option (List (List (DC Un))→Option (FV Un))} {gns:FuncId→Option (List Bool×FnG Un)} {ups:FuncId→Option (FnU Un)} (hM:M=mach fns fvs clo gns ups) (hF:FnsOK Tryz.prog (mach fns fvs clo gns ups))
  {f:FuncId} {fn:Func} (hf:Tryz.prog.funcs[f]? = some fn) (hb:fn.body=some (z8 fn)) (N:Nat→NS) (x:Nat) (fm:List Kind) {args:List (D Un)} {rs:List (A Un)} {os:List (Ob Un)}
  (h:(∀ a∈args,DWf En a)→Runs (awp M N (z8 fn) (zg fn.ntmps x args) (retQ M fn.results.toList fm fun rs' os'=>rs'=rs∧os'=os))) : Contract Tryz.prog En f args rs os:=by
 subst hM
 exact z1sb (M:=mach fns fvs clo gns ups) (z1nc fns fvs clo gns ups) hF mixed hf hb N x fm fun ha=>(h ha).out
def dI (k:IntKind) : D Un→Option Int
 | .d (.v (.s (.int k' n)))=>match decEq k' k with | .isTrue _=>some n | .isFalse _=>none
 | _=>none
def dB : D Un→Option Bool
 | .d (.v (.s (.bool b)))=>some b
 | _=>none
def dStr : D Un→Option ByteArray
 | .d (.v (.s (.string b)))=>some b
 | _=>none
def dL (τ:Ty) : D Un→Option (List (Den τ))
 | .d (.v (.dat τ' xs))=>match instDecidableEqTy τ' τ with | .isTrue h=>some (h ▸ xs) | .isFalse _=>none
 | _=>none
def dS (τ:Ty) : D Un→Option (Den τ)
 | .d (.agg vs)=>dec τ vs
 | _=>none
def dF : D Un→Option (FV Un)
 | .fn φ=>some φ
 | _=>none
def zo (o:Val→Prop) (p:Val→Bool) : FV Un:=fun args=>match args with
 | [x0]=>(dS .val (.d x0)).bind fun a0=>some ([o a0],[.v (cb (p a0))])
 | _=>none
def z16 (φ:FV Un) : Val→Prop:=fun a0=>match φ [.agg (enc Ty.val a0)] with
 | some ([q],_)=>q
 | _=>False
def z1p (φ:FV Un) : Val→Bool:=fun a0=>match φ [.agg (enc Ty.val a0)] with
 | some (_,[.v (.s (.bool b))])=>b
 | _=>false
def z1c (p:Val→Val→Int) : FV Un:=fun args=>match args with
 | [x0,x1]=>(dS .val (.d x0)).bind fun a0=>(dS .val (.d x1)).bind fun a1=>some ([],[.v (.s (.int .i64 (p a0 a1)))])
 | _=>none
def zj (φ:FV Un) : Val→Val→Int:=fun a0 a1=>match φ [.agg (enc Ty.val a0),.agg (enc Ty.val a1)] with
 | some (_,[.v (.s (.int _ b))])=>b
 | _=>0
def zu (o:(List Val)→(List Val)→Prop) (p:(List Val)→(List Val)→Int) : FV Un:=fun args=>match args with
 | [x0,x1]=>(dL .val (.d x0)).bind fun a0=>(dL .val (.d x1)).bind fun a1=>some ([o a0 a1],[.v (.s (.int .i64 (p a0 a1)))])
 | _=>none
def z2l (φ:FV Un) : (List Val)→(List Val)→Prop:=fun a0 a1=>match φ [.v (.dat (U:=Un) Ty.val a0),.v (.dat (U:=Un) Ty.val a1)] with
 | some ([q],_)=>q
 | _=>False
def z1r (φ:FV Un) : (List Val)→(List Val)→Int:=fun a0 a1=>match φ [.v (.dat (U:=Un) Ty.val a0),.v (.dat (U:=Un) Ty.val a1)] with
 | some (_,[.v (.s (.int _ b))])=>b
 | _=>0
def z1d (p:Int→Int→Int) : FV Un:=fun args=>match args with
 | [x0,x1]=>(dI .i64 (.d x0)).bind fun a0=>(dI .i64 (.d x1)).bind fun a1=>some ([],[.v (.s (.int .i64 (p a0 a1)))])
 | _=>none
def zy (φ:FV Un) : Int→Int→Int:=fun a0 a1=>match φ [.v (.s (.int .i64 a0)),.v (.s (.int .i64 a1))] with
 | some (_,[.v (.s (.int _ b))])=>b
 | _=>0
def z26 (o:(List Val)→Prop) (p:(List Val)→Bool) : FV Un:=fun args=>match args with
 | [x0]=>(dL .val (.d x0)).bind fun a0=>some ([o a0],[.v (cb (p a0))])
 | _=>none
def z51 (φ:FV Un) : (List Val)→Prop:=fun a0=>match φ [.v (.dat (U:=Un) Ty.val a0)] with
 | some ([q],_)=>q
 | _=>False
def z72 (φ:FV Un) : (List Val)→Bool:=fun a0=>match φ [.v (.dat (U:=Un) Ty.val a0)] with
 | some (_,[.v (.s (.bool b))])=>b
 | _=>false
theorem z1t {k:IntKind} {a:D Un} {n:Int} (h:dI k a=some n) : a=.d (.v (.s (.int k n))):=by
 unfold dI at h;split at h
 ·split at h
  ·rename_i hh _;subst hh;simp at h;subst h;rfl
  ·simp at h
 ·simp at h
theorem z1nd {a:D Un} {n:Bool} (h:dB a=some n) : a=.d (.v (cb n)):=by
 unfold dB at h;split at h
 ·simp at h;subst h;rfl
 ·simp at h
theorem z57 {a:D Un} {n:ByteArray} (h:dStr a=some n) : a=.d (.v (cs n)):=by
 unfold dStr at h;split at h
 ·simp at h;subst h;rfl
 ·simp at h
theorem z1i {τ:Ty} {a:D Un} {l:List (Den τ)} (h:dL τ a=some l) : a=.d (.v (.dat (U:=Un) τ l)):=by
 unfold dL at h;split at h
 ·split at h
  ·rename_i hh _;subst hh;simp at h;subst h;rfl
  ·simp at h
 ·simp at h
theorem z18 {τ:Ty} {a:D Un} {x:Den τ} (h:dS τ a=some x) : a=.d (.agg (enc τ x)):=by
 unfold dS at h;split at h
 ·rw[z18r _ _ _ h]
 ·simp at h
theorem zki {a:D Un} {φ:FV Un} (h:dF a=some φ) : a=.fn φ:=by
 unfold dF at h;split at h
 ·simp at h;subst h;rfl
 ·simp at h
theorem z1bc (k:IntKind) (n:Int) : dI k (.d (.v (.s (.int k n))))=some n:=by
 unfold dI;dsimp only;split
 ·rfl
 ·rename_i h _;exact absurd rfl h
theorem z254 (b:Bool) : dB (.d (.v (cb b)))=some b:=rfl
theorem znb (τ:Ty) (l:List (Den τ)) : dL τ (.d (.v (.dat (U:=Un) τ l)))=some l:=by
 unfold dL;dsimp only;split
 ·rfl
 ·rename_i h _;exact absurd rfl h
theorem z231 : ∀ (τ:Ty) (x:Den τ),dec τ (enc τ x)=some x:=by
 intro τ x
 cases τ<;>first | rfl | (cases x;rfl)
theorem zfq (τ:Ty) (x:Den τ) : dS τ (.d (.agg (enc τ x)))=some x:=z231 τ x
theorem zdw (p:Val→Val→Int) : zj (z1c p)=p:=by
 funext a0 a1
 unfold zj z1c
 simp only[zfq,Option.bind_some]<;>rfl
theorem z6o (p:Int→Int→Int) : zy (z1d p)=p:=by
 funext a0 a1
 unfold zy z1d
 simp only[z1bc,Option.bind_some]<;>rfl
theorem zh2 (o:Val→Prop) (p:Val→Bool) : z1p (zo o p)=p:=by
 funext a0
 unfold z1p zo
 simp only[zfq,Option.bind_some]<;>rfl
theorem zh3 (o:Val→Prop) (p:Val→Bool) : z16 (zo o p)=o:=by
 funext a0
 unfold z16 zo
 simp only[zfq,Option.bind_some]<;>rfl
theorem zmg (o:(List Val)→(List Val)→Prop) (p:(List Val)→(List Val)→Int) : z1r (zu o p)=p:=by
 funext a0 a1
 unfold z1r zu
 simp only[znb,Option.bind_some]<;>rfl
theorem zmh (o:(List Val)→(List Val)→Prop) (p:(List Val)→(List Val)→Int) : z2l (zu o p)=o:=by
 funext a0 a1
 unfold z2l zu
 simp only[znb,Option.bind_some]<;>rfl
theorem z18s (o:(List Val)→Prop) (p:(List Val)→Bool) : z72 (z26 o p)=p:=by
 funext a0
 unfold z72 z26
 simp only[znb,Option.bind_some]<;>rfl
theorem z18t (o:(List Val)→Prop) (p:(List Val)→Bool) : z51 (z26 o p)=o:=by
 funext a0
 unfold z51 z26
 simp only[znb,Option.bind_some]<;>rfl
class WArg (a:D Un) (P:outParam Prop) : Prop where
 of : DWf En a→P
instance {k:IntKind} {n:Int} : WArg (.d (.v (.s (.int k n)))) (WK k n):=⟨fun h=>by cases h with | s _ h=>exact of_decide_eq_true h⟩
instance {s:ByteArray} : WArg (.d (.v (cs s))) (WStr s):=⟨fun h=>(z10s s).1 h⟩
instance {τ:Ty} {l:List (Den τ)} : WArg (.d (.v (.dat (U:=Un) τ l))) (WL τ l):=⟨fun h=>h⟩
instance {τ:Ty} {x:Den τ} : WArg (.d (.agg (enc τ x))) (WS τ x):=⟨fun h=>h⟩
theorem ze {args:List (D Un)} (h:∀ a∈args,DWf En a) {a:D Un} {P:Prop} [w : WArg a P] (ha:a∈args) : P:=w.of (h a ha)
noncomputable instance : DecidableEq (FV Un):=fun _ _=>Classical.propDecidable _
def bI (k:IntKind) : List (DC Un)→Option Int
 | [.v (.s (.int k' n))]=>match decEq k' k with | .isTrue _=>some n | .isFalse _=>none
 | _=>none
def bL (τ:Ty) : List (DC Un)→Option (List (Den τ))
 | [.v (.dat τ' xs)]=>match instDecidableEqTy τ' τ with | .isTrue h=>some (h ▸ xs) | .isFalse _=>none
 | _=>none
theorem z255 {k:IntKind} {a:List (DC Un)} {n:Int} (h:bI k a=some n) : a=[.v (.s (.int k n))]:=by
 unfold bI at h;split at h
 ·split at h
  ·rename_i hh _;subst hh;simp at h;subst h;rfl
  ·simp at h
 ·simp at h
theorem z1ve {τ:Ty} {a:List (DC Un)} {l:List (Den τ)} (h:bL τ a=some l) : a=[.v (.dat (U:=Un) τ l)]:=by
 unfold bL at h;split at h
 ·split at h
  ·rename_i hh _;subst hh;simp at h;subst h;rfl
  ·simp at h
 ·simp at h
instance {k:IntKind} {n:Int} : WArg (.box [.v (.s (.int k n))]) (WK k n):=⟨fun h=>by cases h _ (by simp:DC.v (.s (.int k n))∈_) with | s _ h=>exact of_decide_eq_true h⟩
instance {s:ByteArray} : WArg (.box [.v (cs s)]) (WStr s):=⟨fun h=>(z10s s).1 (h _ (by simp:DC.v (cs s)∈_))⟩
instance {τ:Ty} {l:List (Den τ)} : WArg (.box [.v (.dat (U:=Un) τ l)]) (WL τ l):=⟨fun h=>h _ (by simp:DC.v (V.dat (U:=Un) τ l)∈_)⟩
instance {τ:Ty} {x:Den τ} : WArg (.box ((enc τ x).map .v)) (WS τ x):=⟨fun h d hd=>h _ (List.mem_map_of_mem hd : DC.v d∈_)⟩
def aI (k:IntKind) : A Un→Option Int
 | .c (.s (.int k' n))=>match decEq k' k with | .isTrue _=>some n | .isFalse _=>none
 | _=>none
def aL (τ:Ty) : A Un→Option (List (Den τ))
 | .c (.sl τ' xs false)=>match instDecidableEqTy τ' τ with | .isTrue h=>some (h ▸ xs) | .isFalse _=>none
 | _=>none
def oL (τ:Ty) (o:Ob Un) : Option (List (Den τ)) :=
 match Nat.beq o.ver 0,o.live with
 | true,true=>match instDecidableEqTy o.τ τ with | .isTrue h=>some (h ▸ o.xs) | .isFalse _=>none
 | _,_=>none
def oM (τ:Ty) (o:Ob Un) : Option (List (Den τ)) :=
 match o.fr with
 | some 0=>oL τ o
 | _=>none
theorem z1bd {k:IntKind} {a:A Un} {n:Int} (h:aI k a=some n) : a=.c (.s (.int k n)):=by
 unfold aI at h;split at h
 ·split at h
  ·rename_i hh _;subst hh;simp at h;subst h;rfl
  ·simp at h
 ·simp at h
theorem z22q {τ:Ty} {a:A Un} {l:List (Den τ)} (h:aL τ a=some l) : a=.c (.sl (U:=Un) τ l false):=by
 unfold aL at h;split at h
 ·split at h
  ·rename_i hh _;subst hh;simp at h;subst h;rfl
  ·simp at h
 ·simp at h
theorem z256 {τ:Ty} {o:Ob Un} {l:List (Den τ)} (h:oL τ o=some l) : o=⟨0,τ,l,o.fr,true⟩:=by
 obtain⟨ver,τ',xs,fr,live⟩:=o
 cases hv : Nat.beq ver 0 with
 | false=>simp [oL,hv] at h
 | true =>
  cases live with
  | false=>simp [oL,hv] at h
  | true =>
   simp only[oL,hv] at h
   have:=Nat.eq_of_beq_eq_true hv
   subst this
   split at h
   ·rename_i hh _;subst hh;simp at h;subst h;rfl
   ·simp at h
theorem z1ne {τ:Ty} {o:Ob Un} {l:List (Den τ)} (h:oM τ o=some l) : o=⟨0,τ,l,some 0,true⟩:=by
 unfold oM at h
 split at h
 ·rename_i hf
  have:=z256 h
  rw[hf] at this;exact this
 ·simp at h
class WArgA (a:A Un) (P:outParam Prop) : Prop where
 of : AWf En a→P
instance {k:IntKind} {n:Int} : WArgA (.c (.s (.int k n))) (WK k n):=⟨fun h=>of_decide_eq_true h⟩
instance {s:ByteArray} : WArgA (.c (.s (.string s))) (WStr s):=⟨fun h=>of_decide_eq_true h⟩
instance {τ:Ty} {l:List (Den τ)} {f:Bool} : WArgA (.c (.sl (U:=Un) τ l f)) (WL τ l):=⟨fun h=>h⟩
instance {τ:Ty} {x:Den τ} : WArgA (.agg (encC τ x)) (WS τ x):=⟨fun h d hd=>by
 have:=h (C.ofV d) (List.mem_map_of_mem hd)
 cases d with
 | s y=>exact .s _ this
 | dat τ' xs=>exact this⟩
theorem z24d {args:List (A Un)} (h:∀ a∈args,AWf En a) {a:A Un} {P:Prop} [w : WArgA a P] (ha:a∈args) : P:=w.of (h a ha)
def frz (fr:Option Nat) (n:Nat) : Nat:=match fr with | none=>n | some j=>j
theorem z257 {os:List (Ob Un)} (h:∀ o∈os,VWf En (.dat o.τ o.xs)∧o.frozen≤o.xs.length) {τ:Ty} {l:List (Den τ)} {fr:Option Nat} (ho:(⟨0,τ,l,fr,true⟩ : Ob Un)∈os) : WL τ l:=(h _ ho).1
theorem z1sd {M:Mc Un} {fns:FuncId→Option (FnC Un)} {fvs:FuncId→Option (FV Un)} {clo:FuncId→Option (List (List (DC Un))→Option (FV Un))} {gns:FuncId→Option (List Bool×FnG Un)} {ups:FuncId→Option (FnU Un)} (hM:M=mach fns fvs clo gns ups) {nb:Nat} {bs:List (Bool×List (C Un))} (hn:nb=bs.length) (hF:FnsOK Tryz.prog (mach fns fvs clo gns ups))
  {f:FuncId} {fn:Func} (hf:Tryz.prog.funcs[f]? = some fn) (hb:fn.body=some (z8 fn)) (N:Nat→NS) (x:Nat) (fm:List Kind) {args rs:List (A Un)} {bs':List (Bool×List (C Un))} {os os':List (Ob Un)}
  (h:(∀ a∈args,AWf En a)→(∀ b∈bs,∀ c∈b.2,CWf En c)→(∀ o∈os,VWf En (.dat o.τ o.xs)∧o.frozen≤o.xs.length)→Runs (awp M N (z8 fn) (z1ak fn.ntmps x args bs os) (z2i M nb fn.results.toList fm fun r b o=>r=rs∧b=bs'∧o=os'))) : GContract Tryz.prog En f args bs os rs bs' os':=by
 subst hM;subst hn
 exact z1oi (M:=mach fns fvs clo gns ups) (z1nc fns fvs clo gns ups) hF mixed hf hb N x fm fun h1 h2 h3=>(h h1 h2 h3).out
theorem All2.weak {g:G} {ob:List (Option (Ob Un))} {w:World} : ∀ {vs:List Value} {cs:List (C Un)},All2 (CRel Tryz.prog En g ob w) vs cs→All2 (CRel Tryz.prog En g ob w) vs (cs.map C.weak)
 | [],[],_=>trivial
 | v::vs,c::cs,h=>⟨by
   have h0:=h.1
   cases c with
   | sl τ xs f=>exact⟨h0.1,fun hf=>by simp at hf⟩
   | _=>exact h0,All2.weak h.2⟩
theorem GContract.weak {f:FuncId} {args rs:List (A Un)} {bs bs':List (Bool×List (C Un))} {os os':List (Ob Un)} (h:GContract Tryz.prog En f args (bs.map fun b=>(b.1,b.2.map C.weak)) os rs bs' os') : GContract Tryz.prog En f args bs os rs bs' os':=by
 intro w g vs hp hvs
 refine h w g vs ⟨fun k fz cells hk=>?_,fun k hk=>by simpa using hp.lbs k hk,hp.obs,hp.own,hp.laid,hp.nlb⟩ hvs
 rw[List.getElem?_map] at hk
 cases hb : bs[k]? with
 | none=>rw[hb] at hk;simp at hk
 | some b =>
  rw[hb] at hk;simp at hk;obtain⟨rfl,rfl⟩:=hk
  obtain⟨h1,us,h2,h3⟩:=hp.bxs k b.1 b.2 hb
  exact⟨h1,us,h2.weak,h3⟩
theorem z4u {U:Uni} {n:NS} {body:S U→(Exit→S U→Prop)→Prop} {Q:Exit→S U→Prop} {s:S U} (k:Nat) (h:z1o n body Q k s) : z12 n body Q s:=⟨k,h⟩
theorem znc {U:Uni} {n:NS} {body:S U→(Exit→S U→Prop)→Prop} {Q:Exit→S U→Prop} {s:S U} (h:z12 n body Q s) : ∃ k,z1o n body Q k s:=h
theorem mpr {a b:Prop} (h:a=b) (x:b) : a:=h ▸ x
theorem z15 {α:Type} {c:Prop} [Decidable c] {x y:Option α} {r:α} (h:(if c then x else y)=some r) : (c∧x=some r)∨(¬ c∧y=some r):=by
 split at h
 ·exact .inl ⟨by assumption,h⟩
 ·exact .inr ⟨by assumption,h⟩
theorem z8z {α:Type} {c:Prop} [Decidable c] {x:Option α} {r:α} (h:(if c then x else none)=some r) : c∧x=some r:=by
 split at h
 ·exact⟨by assumption,h⟩
 ·simp at h
theorem bind_some {α β:Type} {x:Option α} {f:α→Option β} {r:β} (h:(x >>= f)=some r) : ∃ o,x=some o∧f o=some r:=by
 cases x with
 | none=>simp at h
 | some o=>exact⟨o,rfl,h⟩
theorem zk {b:Bool} (h:¬ b=true) : b=false:=by cases b<;>simp_all
theorem z1j {b:Bool} {X Y:Prop} (h:b=true) (x:X) : cnd b X Y:=by subst h;exact x
theorem zr {b:Bool} {X Y:Prop} (h:b=false) (y:Y) : cnd b X Y:=by subst h;exact y
theorem z2n {n:Int} (h:-9223372036854775808≤n∧n≤9223372036854775807) : IntKind.i64.wrap n=n:=IntWalk.i64_in n h
theorem zqd {i n:Nat} (h:i<n) (hn:n≤9223372036854775807) : IntKind.i64.wrap ((i:Int)+1)=((i+1:Nat):Int):=by
 rw[z2n (by omega)];omega
theorem drop_nil {α:Type} {l:List α} {i:Nat} (h:l.drop i=[]) : l.length≤i:=List.drop_eq_nil_iff.1 h
theorem z31 {α:Type} {l r:List α} {x:α} {i:Nat} (h:l.drop i=x::r) : i<l.length∧(∀ d,l.getD i d=x)∧l.drop (i+1)=r∧x∈l:=by
 have hi:i<l.length:=by
  rcases Nat.lt_or_ge i l.length with h1 | h1
  ·exact h1
  ·rw[List.drop_of_length_le h1] at h;simp at h
 rw[List.drop_eq_getElem_cons hi] at h
 simp only[List.cons.injEq] at h
 obtain⟨rfl,rfl⟩:=h
 exact⟨hi,fun d=>by rw[List.getD_eq_getElem?_getD,List.getElem?_eq_getElem hi];rfl,rfl,List.getElem_mem hi⟩
theorem zh4 {α:Type} {l r:List α} {i:Nat} (h:l.drop i=r) : r.length=l.length - i:=by rw[← h];simp
def z9o {V R:Type} (step:V→Option (V ⊕ R)) : Nat→V→Option R
 | 0,_=>none
 | n+1,v=>match step v with
  | none=>none
  | some (.inl v')=>z9o step n v'
  | some (.inr r)=>some r
open Classical in
noncomputable def zca {V R:Type} (step:V→Option (V ⊕ R)) (v:V) : Option R :=
 if h : ∃ n r,z9o step n v=some r then some (Classical.choose (Classical.choose_spec h)) else none
theorem zwt {V R:Type} {step:V→Option (V ⊕ R)} : ∀ {n:Nat} {v:V} {r:R},z9o step n v=some r→∀ m,n≤m→z9o step m v=some r
 | 0,v,r,h,_,_=>by simp [z9o] at h
 | n+1,v,r,h,m,hm=>by
  obtain⟨m',rfl⟩ : ∃ m',m=m'+1:=⟨m - 1,by omega⟩
  simp only[z9o] at h ⊢
  cases hs : step v with
  | none=>rw[hs] at h;simp at h
  | some o =>
   rw[hs] at h
   cases o with
   | inl v'=>exact zwt (n:=n) h m' (by omega)
   | inr r'=>exact h
theorem loopO_iff {V R:Type} {step:V→Option (V ⊕ R)} {v:V} {r:R} : zca step v=some r↔∃ n,z9o step n v=some r:=by
 constructor
 ·intro h
  unfold zca at h
  split at h
  ·rename_i hh
   have:=Classical.choose_spec (Classical.choose_spec hh)
   simp only[Option.some.injEq] at h
   rw[h] at this
   exact⟨_,this⟩
  ·simp at h
 ·rintro ⟨n,hn⟩
  have hh:∃ n r,z9o step n v=some r:=⟨n,r,hn⟩
  unfold zca
  rw[dif_pos hh]
  have h1:=Classical.choose_spec (Classical.choose_spec hh)
  have h2:=zwt h1 (max (Classical.choose hh) n) (Nat.le_max_left _ _)
  have h3:=zwt hn (max (Classical.choose hh) n) (Nat.le_max_right _ _)
  rw[h2] at h3
  exact h3
def zkj {V R:Type} (f:V→Option R) : Option (V ⊕ R)→Option R
 | none=>none
 | some (.inl v)=>f v
 | some (.inr r)=>some r
@[simp] theorem z1vf {V R:Type} (f:V→Option R) : zkj f (none:Option (V ⊕ R))=none:=rfl
@[simp] theorem zlv {V R:Type} (f:V→Option R) (v:V) : zkj f (some (.inl v) : Option (V ⊕ R))=f v:=rfl
@[simp] theorem zhi {V R:Type} (f:V→Option R) (r:R) : zkj f (some (.inr r) : Option (V ⊕ R))=some r:=rfl
theorem zon {V R:Type} (step:V→Option (V ⊕ R)) (v:V) : zca step v=zkj (zca step) (step v):=by
 have key:∀ r,zca step v=some r↔zkj (zca step) (step v)=some r:=by
  intro r
  rw[loopO_iff]
  cases hs : step v with
  | none =>
   refine⟨fun ⟨n,hn⟩=>?_,fun h=>by simp at h⟩
   cases n with
   | zero=>simp [z9o] at hn
   | succ n=>simp [z9o,hs] at hn
  | some o =>
   cases o with
   | inl v' =>
    rw[zlv,loopO_iff]
    refine⟨fun ⟨n,hn⟩=>?_,fun ⟨n,hn⟩=>⟨n+1,by simp only[z9o,hs];exact hn⟩⟩
    cases n with
    | zero=>simp [z9o] at hn
    | succ n=>exact⟨n,by simpa only [z9o,hs] using hn⟩
   | inr r' =>
    rw[zhi]
    refine⟨fun ⟨n,hn⟩=>?_,fun h=>⟨1,by simp only[z9o,hs];exact h⟩⟩
    cases n with
    | zero=>simp [z9o] at hn
    | succ n=>simpa only [z9o,hs] using hn
 cases h : zca step v with
 | some r=>exact ((key r).1 h).symm
 | none =>
  cases h2 : zkj (zca step) (step v) with
  | none=>rfl
  | some r=>rw[(key r).2 h2] at h;simp at h
theorem zoo {V R:Type} {step:V→Option (V ⊕ R)} {I:V→Prop} {J:R→Prop} (hstep:∀ v o,step v=some o→(match o with | .inl v'=>I v' | .inr r=>J r)→I v) {v:V} {r:R} (h:zca step v=some r) (hJ:J r) : I v:=by
 obtain⟨n,hn⟩:=loopO_iff.1 h
 clear h
 induction n generalizing v with
 | zero=>simp [z9o] at hn
 | succ n ih =>
  simp only[z9o] at hn
  cases hs : step v with
  | none=>rw[hs] at hn;simp at hn
  | some o =>
   rw[hs] at hn
   cases o with
   | inl v'=>exact hstep v _ hs (ih hn)
   | inr r'=>simp at hn;subst hn;exact hstep v _ hs hJ
end Go.Proofs.YtjfpbchdcbhfgaaGreat.B
namespace Go.Proofs.YtjfpbchdcbhfgaaGreat
open Go.RowKit Go.ChangeShapes
theorem z1se {H:Type} {enc:TypeId×Value→H} {P:Program} (hl:laidOutB P=true) {W W':World} (hb:Ext W W') :
  ∀ {ts:List TypeId} {vs:List Value} {ds:List (DataW H)} {ps:List MemPlace},(∀ t∈ts,P.readableRec t=true∧t<P.types.size) →
   DataW.TrodAll enc P W 0 (fun _=>true) true ts vs ds ps→(∀ x∈ps,x.block<W.heap.size) →
   DataW.TrodAll enc P W' 0 (fun b=>decide (b<W.heap.size)) true ts vs ds ps:=by
 intro ts
 induction ts with
 | nil =>
  intro vs ds ps _ h _
  cases vs<;>cases ds<;>first | exact h | exact h.elim
 | cons t ts ih =>
  intro vs ds ps hr h hlt
  cases vs with
  | nil=>cases ds<;>exact h.elim
  | cons v vs =>
   cases ds with
   | nil=>exact h.elim
   | cons d ds =>
    obtain⟨p,q,hd,hrest,rfl⟩:=h
    have h0:=hr t (by simp)
    refine⟨p,q,Below.trod hl h0.1 h0.2 hd hb (fun x hx=>hlt x (by simp [hx])),ih (fun t ht=>hr t (by simp [ht])) hrest (fun x hx=>hlt x (by simp [hx])),rfl⟩
theorem z1gb {H:Type} {enc:TypeId×Value→H} {P:Program} {W:World} {b:Nat} {sp:Nat→Bool} {hd:Bool} :
  ∀ {ts:List TypeId} {vs:List Value} {ds:List (DataW H)} {ps:List MemPlace},DataW.TrodAll enc P W b sp hd ts vs ds ps→ds.length=ts.length∧vs.length=ts.length:=by
 intro ts
 induction ts with
 | nil=>intro vs ds ps h;cases vs<;>cases ds<;>first | exact h.elim | simp
 | cons t ts ih =>
  intro vs ds ps h
  cases vs with
  | nil=>cases ds<;>exact h.elim
  | cons v vs =>
   cases ds with
   | nil=>exact h.elim
   | cons d ds=>obtain⟨p,q,_,hrest,_⟩:=h;have:=ih hrest;simp [this]
theorem z216 {H:Type} {enc:TypeId×Value→H} {P:Program} {f:Func} {s:ChangeSpec} {tb:TypeId} {W W':World} {args:Array Value} {ds gs:List (DataW H)} {before:List MemPlace}
  (hl:laidOutB P=true) (hr:f.params.toList.all (fun t=>P.readableRec t && decide (t<P.types.size))=true)
  (hres:f.resultTypes=#[tb]) (hub:P.underlying tb=some .bool) (hvars:s.vars=[])
  (hspec:∀ l : List (DataW H),l.length=f.params.toList.length→(s.fn H l).results=[.lit (.bool true)]∧(s.fn H l).args=l∧(s.fn H l).vars=[])
  (hW:DataW.Whole enc P f.params.toList s.vars false W args.toList ds gs before) (hb:Ext W W') :
  s.post enc P f false true false false W args (.bool true) W':=by
 have hW0:=hW
 obtain⟨p,q,hA,hV,rfl,hfz,hnd⟩:=hW
 rw[hvars] at hV
 have hgs:gs=[]∧q=[]:=by
  cases gs with
  | nil=>exact⟨rfl,hV⟩
  | cons g gs=>exact hV.elim
 obtain⟨rfl,rfl⟩:=hgs
 have hlen:=(z1gb hA).1
 obtain⟨e1,e2,e3⟩:=hspec (ds++[]) (by simpa using hlen)
 have hr':∀ t∈f.params.toList,P.readableRec t=true∧t<P.types.size:=by
  intro t ht
  have:=List.all_eq_true.1 hr t ht
  simpa using this
 refine⟨ds,[],p++[],[],p,[],hW0,?_,?_,?_,Below.frame hb _,fun h=>by cases h⟩
 ·rw[e1,hres];exact trodAll_cons_mk (shut_bool hub _) trodAll_mk0
 ·rw[e2,List.append_nil];exact z1se hl hb hr' hA (fun x hx=>by simpa using hW0.lt x (by simpa using hx))
 ·rw[hvars,e3];rfl
end Go.Proofs.YtjfpbchdcbhfgaaGreat
