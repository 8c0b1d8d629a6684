import Derived.Test.YtbpbkmngbhgpfaaGreatB7
import Derived.Test.YtbpbkmngbhgpfaaGreatRows
import Derived.JoinedOf
namespace Go.Proofs.YtbpbkmngbhgpfaaGreat
open Go Go.Vc Go.RowKit
theorem giveA_ok{s:zan}{id:Int}(hf:okF (pu s))(hl:(pu s).length≤1000)(hh:okHs (ho s))(hA:∀a∈s.2.2.2.2.1,a.2.2.2.1.length≤20)(hAl:s.2.2.2.2.1.length≤20):
  (pu (giveA s id).1).length≤2000∧okHs (ho (giveA s id).1)∧(giveA s id).2.1.length≤1000∧∀r∈(giveA s id).2.1,r.2.2.1.length≤1000:=by
 unfold giveA
 split
 ·rename_i h
  have hu:(unitsM id s.2.2.2.2.1).length≤1000:=Nat.le_trans (zvq hA hAl) (by omega)
  obtain⟨_,_,_,g4,g5,g6,_⟩:=ycy h.1 h.2 hf hl hh hu
  have G:=ypa (unitsM id s.2.2.2.2.1) [] (ygl h.1 hf ⟨(of_decide_eq_true h.2).2,hh.1⟩)
  exact⟨g4,g5,g6,fun r hr=>by have:=(G.ret r hr).2.2.1; omega⟩
 ·exact⟨Nat.zero_le _,⟨(fun x hx=>by cases hx),Nat.zero_le _⟩,Nat.zero_le _,(fun r hr=>by cases hr)⟩
theorem rest_gives{s:zan}{id:Int}{u:AUnit'}{r:zaq}(h1:s.2.2.2.1.length≤9223372036854775807)(h2:s.2.2.2.2.1.length≤9223372036854775807)(h3:∀a∈s.2.2.2.2.1,a.2.2.2.1.length≤9223372036854775807)(h4:(pu s).length≤9223372036854775807)(h5:(ho s).length≤9223372036854775807)(h6:∀h∈ho s,h.2.1.length≤9223372036854775807)
  (h7:okF (pu s)) (h8:∀h∈ho s,∀x∈h.2.1,I64 x.2.2.1) (h9:I64 r.2.1) (h10:r.2.2.1.length≤9223372036854775807) (h11:∀x∈r.2.2.1,I64 x.2.2.1):zhl s id u r=some true:=by
 obtain⟨as_,ac,e0,hac,hacl,hacn,hasl,has⟩:=r_few31x h1 h2 h3 h4 h5 h6
 show zeg stdW s id u r=_
 unfold zeg
 have e0':zto (s.1,(s.2.1,(s.2.2.1,(s.2.2.2.1,(s.2.2.2.2.1,(s.2.2.2.2.2.1,(s.2.2.2.2.2.2.1,(s.2.2.2.2.2.2.2.1,(s.2.2.2.2.2.2.2.2.1,(s.2.2.2.2.2.2.2.2.2.1,(s.2.2.2.2.2.2.2.2.2.2.1,(s.2.2.2.2.2.2.2.2.2.2.2.1,()))))))))))))=_:=e0
 rw[zaa e0',zaa (r_few18 h10)]
 have hp0f:okF ((pu s).take 20):=h7.take 20
 have hp0l:((pu s).take 20).length≤20:=by rw[List.length_take]; omega
 have hh0:okHs (few26 (ho s)):=by
  refine⟨fun h hm=>?_,by unfold few26; rw[List.length_map,List.length_take]; omega⟩
  obtain⟨g,hg,rfl⟩:=List.mem_map.1 hm
  refine⟨by show (g.2.1.take 20).length≤20; rw[List.length_take]; omega,fun x hx=>h8 g (List.mem_of_mem_take hg) x (List.mem_of_mem_take hx)⟩
 have hrl:okT (r.2.2.1.take 20):=⟨by rw[List.length_take]; omega,fun x hx=>h11 x (List.mem_of_mem_take hx)⟩
 generalize (pu s).take 20=p0 at*
 generalize few26 (ho s)=h0 at*
 generalize r.2.2.1.take 20=rl at*
 have hS:∀S:zan,S=(0,([],([],(as_,(ac,([],([],([],([],([],(p0,(h0,()))))))))))))→(pu S=p0∧ho S=h0∧S.2.2.2.2.1=ac):=fun S h=>by subst h; exact⟨rfl,rfl,rfl⟩
 generalize hSe:((0,([],([],(as_,(ac,([],([],([],([],([],(p0,(h0,())))))))))))):zan)=S at*
 obtain⟨sp,sh,sa⟩:=hS S rfl
 have e3:zfy S id=some (giveA S id):=r_give1 (by rw[sp]; exact hp0f) (by rw[sp]; omega) (by rw[sh]; exact hh0) (by rw[sa]; exact hac) (by rw[sa]; exact hacl)
 have e4:zow S id=some (giveA S id):=r_give32 (by rw[sp]; exact hp0f) (by rw[sp]; omega) (by rw[sh]; exact hh0) (by rw[sa]; exact hac) (by rw[sa]; exact hacl)
 obtain⟨g1,g2,g3,g4⟩:=giveA_ok (s:=S) (id:=id) (by rw[sp]; exact hp0f) (by rw[sp]; omega) (by rw[sh]; exact hh0) (by rw[sa]; exact hac) (by rw[sa]; exact hacl)
 have e7:zff S u=some (backR (pu S) (ho S) u):=yqj (by rw[sp]; omega) (by rw[sh]; exact hh0)
 have e8:zcg S u=some (backR (pu S) (ho S) u):=r_of32 (by rw[sp]; omega) (by rw[sh]; exact hh0)
 have hbl:(backR (pu S) (ho S) u).2.2.1.length≤1000000:=by
  have:okT (lotsH (ho S) u):=yqt (by rw[sh]; exact hh0.1) u
  show (lotsH (ho S) u).length≤_
  have:=this.1
  omega
 have e5:zfe as_ (r.1,(r.2.1,(rl,())))=some (worthR as_ (r.1,(r.2.1,(rl,())))):=r_rworth has (by omega) hrl h9
 have e6:zkn as_ (r.1,(r.2.1,(rl,())))=some (worthR as_ (r.1,(r.2.1,(rl,())))):=r_worth32 has (by omega) hrl h9
 have e9:zbv (giveA S id).1 (giveA S id).1=some true:=r_same31 (by omega) g2
 have e10:zar (giveA S id).2.1 (giveA S id).2.1=some true:=yqi (by omega) (fun r hr=>by have:=g4 r hr; omega)
 generalize backR (pu S) (ho S) u=B at*
 generalize giveA S id=A at*
 generalize worthR as_ (r.1,(r.2.1,(rl,())))=X at*
 have e11:zar [B] [B]=some true:=yqi (by simp) (fun r hr=>by simp only[List.mem_singleton]at hr; subst hr; exact hbl)
 subst hSe
 show stdW.call (zfy _ id) _=_
 refine(zaa e3 _).trans ?_
 refine(zaa e4 _).trans ?_
 refine(zaa e5 _).trans ?_
 refine(zaa e6 _).trans ?_
 have c1:(A.2.2.1==A.2.2.1)=true:=by simp
 have c2:(X.1==X.1)=true:=by simp
 have c3:(X.2.1==X.2.1)=true:=by simp
 repeat' (first|exact ylk|refine zmh ?_ ?_|refine(zaa e7 _).trans ?_|refine(zaa e8 _).trans ?_|refine(zaa e9 _).trans ?_|refine(zaa e10 _).trans ?_|refine(zaa e11 _).trans ?_|refine(zaa ylk _).trans ?_|exact rfl|refine(cnd_y rfl _ _).trans ?_|refine(cnd_y c1 _ _).trans ?_|refine(cnd_y c2 _ _).trans ?_|refine(cnd_y c3 _ _).trans ?_)
theorem gives_true(x0:DT.den tAState)(x1:DT.den (.int .i64))(x2:DT.den tAUnit)(x3:DT.den tAReturn)(o0:DT.okD tAState x0)(_:DT.okD (.int .i64) x1)(_:DT.okD tAUnit x2)(o3:DT.okD tAReturn x3):
  zhl x0 x1 x2 x3=some true:=by
 obtain⟨_,_,_,o3',o4,_,_,_,_,_,o10,o11,_⟩:=o0
 obtain⟨_,r1,r2,_⟩:=o3
 have hm:maxLen=9223372036854775807:=zay
 refine rest_gives (by have:=o3'.2; rw[hm]at this; exact this) (by have:=o4.2; rw[hm]at this; exact this) (fun a ha=>by have:=(o4.1 a ha).2.2.2.1.2; rw[hm]at this; exact this)
  (by have:=o10.2; rw[hm]at this; exact this) (by have:=o11.2; rw[hm]at this; exact this) (fun a ha=>by have:=(o11.1 a ha).2.1.2; rw[hm]at this; exact this) ?_ ?_ (wf_i64 r1) (by have:=r2.2; rw[hm]at this; exact this) (fun x hx=>wf_i64 (r2.1 x hx).2.2.1)
 ·exact fun x hx=>wf_i64 (o10.1 x hx).2.1
 ·exact fun h hh x hx=>wf_i64 ((o11.1 h hh).2.1.1 x hx).2.2.1
end Go.Proofs.YtbpbkmngbhgpfaaGreat

namespace Go.Proofs.YtbpbkmngbhgpfaaGreat
open Go Go.Vc Go.RowKit Go.ChangeShapes Go.WideShapes Go.ChangeAt Go.Joins
theorem own:ownKnob Tryz.prog.godebug=none:=by kernel_rfl
theorem yjb:laidOutB Tryz.prog=true:=by kernel_rfl
theorem zkg{H:Type}{enc:TypeId×Value→H}{w:World}{spare:Nat→Bool}{held:Bool}{t:TypeId}{v:Value}{d:DataW H}{p:List MemPlace}(h:DataW.Trod enc Tryz.prog w 0 spare held t v d p):∀x∈p,x.block<w.heap.size:=by
 obtain⟨m,hm⟩:=h; exact DataW.trod_lt m _ _ _ hm
end Go.Proofs.YtbpbkmngbhgpfaaGreat

namespace Go.Vc
open Go
def closT(T:List (List Nat)):Nat→List Nat→List Nat→List Nat
 |0,_,seen=>seen.reverse
 |_,[],seen=>seen.reverse
 |n+1,f::todo,seen=>if seen.contains f then closT T n todo seen else closT T n ((T[f]?).getD []++todo) (f::seen)
theorem lead_eq{P:Program}{T:List (List Nat)}(hT:P.funcs.toList.map P.leadsTo=T)(f:Nat):(P.funcs[f]?).elim [] P.leadsTo=(T[f]?).getD []:=by
 subst hT
 rw[List.getElem?_map,Array.getElem?_toList]
 cases P.funcs[f]?<;>rfl
theorem zma{P:Program}{T:List (List Nat)}(hT:P.funcs.toList.map P.leadsTo=T):∀n todo seen,P.closureVia n todo seen=closT T n todo seen
 |0,_,_=>by simp only[Program.closureVia,closT]
 |n+1,[],_=>by simp only[Program.closureVia,closT]
 |n+1,f::todo,seen=>by
  simp only[Program.closureVia,closT]
  rw[zma hT n,zma hT n,lead_eq hT f]
theorem ygx{P:Program}{T:List (List Nat)}(hT:P.funcs.toList.map P.leadsTo=T)(f:Nat):P.closure f=closT T (1+(T.map fun l=>l.length+1).sum) [f] []:=by
 unfold Program.closure
 rw[zma hT]
 subst hT
 rw[List.map_map]; rfl
end Go.Vc

namespace Go.Proofs.YtbpbkmngbhgpfaaGreat
open Go Go.Vc
def leadsT:List (List Nat):=[[],[],[1],[7,8,9,10,11,12,13,14,15,16,16,17],[7,9,17,18,20,19,18,21,22,23,19,22,21,24,25,25,27,27,26,17],[28,29,30,32,31,32,33,34,32,35,36,37,38,40,39,38],[41,43,44,42,45],[46,47,48,49,50],[],[51,52,53,54,13,55],[56,57,24,14,58,59],[60,61],[62,20,20,19,63,64],[65,66],[27,25],[67,68],[26],[9,11],[20,19],[70,69,71,72,69,72,69],[73,73,70],[74],[23,19],[20,19],[],[],[],[],[75,49],[],[34,76,77,78,79],[35,37,40,63,80,81,63,81,64,64,58],[],[82,67],[83,51],[84,56],[77],[85,85],[30,65,65,87,86],[63,20,21],[20,20,88,20,20,74,88],[89,75,75,49,50,46],[],[90,91,92,93,94,95,95,96,97],[98,99,100,99,100,100,99,100,99,100,99,99,100,99,100,99,100,101,101,99,100,99,100,100],[102,43,103,104,102,43,42],[],[105],[106],[],[8],[107],[108,107],[110,111,109],[],[112,113],[114],[115,114],[56,116,20,19,63,64,64],[114],[117,118,61],[119,121,120],[115,20,122,123,63,124,19,63,64],[125],[],[],[126],[],[26],[],[],[],[],[],[81,19],[127],[128],[128,129,129,131,130,132],[83,133,134,134],[135,51,112],[84,136,137,137],[69],[86],[138,107],[139,114],[],[],[140],[70,69],[],[],[141],[91,91,141,91,91,91,141,91,141,91,91,141],[91,91,91,91,142,143],[91,91,142,91,141,91,91,142,91,141,91],[91,142,91,91,141],[91,142,141,91,142,91,91,141],[144,145],[],[98],[146],[99,100,100],[],[147,148,149,150,151,152,152,154,153,158,157,161,162,43,163],[164,165,166,167,168,169,170,82,82,67,68],[171,122],[172,173],[],[174,175],[176],[177],[],[51,178,179,180,61],[108,181],[],[182,183],[114],[108,184],[185,186],[],[132],[187,188],[],[20,20,88],[123,20,88,189],[73,19],[],[],[129,129,190,191],[],[192,119,192,193,193,194,196,195,197],[119,119,192,192,193,196,196,195],[119],[198,135],[83,87,199,200,201,202,203],[119,119,204,120],[139,205,20,81,206],[84,208,207,114],[],[],[],[144,210,209],[91],[91],[],[],[98],[145],[211],[213,212,215,214,218,217],[220,219,223,222],[225,224,227,226],[230,229],[211,232],[155,156],[148,148],[211],[211,232],[155,160,159],[211,232],[148,148,156],[232],[233,234,235,236,237,238,238,239],[],[],[240],[],[241],[],[],[],[],[],[],[],[243,243,242],[],[244],[245],[246,247],[],[52,248],[],[],[],[249],[131,132],[194,194],[197],[69,73,74],[250],[],[196,251,251],[],[],[251,251],[],[],[138],[252,198,253,61],[107],[140],[],[254,255],[187,187,119,187,188],[],[63,64],[139,205,20,19,206],[],[],[],[256,257,258,259],[211,232],[148,156,148,148],[211,232],[148,156,156,156,156,216],[211,232],[211,232],[148,156,156],[211,232],[148,148,148,148,221],[211,232],[211,232],[155,155,211],[211,232],[148,155,148,156,156],[211,232],[148,155,155,228,156,148,148,148],[148,156],[211,232],[155,228,231],[211,232],[],[54],[260,128,185,261],[262,262,263],[262,264,265,266],[262,262,264,266,265],[262,264,83],[267,267,184,51,52],[268],[],[],[269,269],[],[],[271,270],[107,107],[126,107,126],[],[],[],[272],[],[],[273],[],[259,259],[],[],[],[274,275],[],[107],[276],[],[],[262],[],[],[277,278,279,280,281,282,283,284,270,270],[285,286],[],[287,287,287],[288],[289],[290,291],[],[292,292],[293,294],[295,295,295,296],[],[],[],[],[],[],[],[298,297],[],[300,299],[301],[],[271],[],[296],[302,302,302],[],[],[],[],[],[],[],[],[],[],[],[],[],[],[],[],[],[],[],[],[],[],[],[]]
set_option maxRecDepth 1000000 in
theorem yqz:Tryz.prog.funcs.toList.map Tryz.prog.leadsTo=leadsT:=by kernel_rfl
end Go.Proofs.YtbpbkmngbhgpfaaGreat
