import Derived.Test.YthghpahghjppjaaGreatB3
namespace Go.Proofs.YthghpahghjppjaaGreat
open Go Go.Vc Go.RowKit sH uj uk ul um uo
open Go.IntKind (i64 u64)
set_option maxRecDepth 100000
set_option synthInstance.maxSize 100000
set_option synthInstance.maxHeartbeats 0
set_option maxHeartbeats 8000000
section
@[reducible] def bu:DT:=(.pair (.int .i64) (.pair (.int .i64) .unit))
abbrev ar:=Int×Int×Unit
abbrev bC:=ar×(List ar)×Unit
abbrev bh:=Int×Int×Int×Unit
abbrev gK:=bh
abbrev bH:=Int×Int×Int×Int×(List Int)×Unit
abbrev az:=Int×Int×Int×(List Int)×Unit
abbrev bA:=ar×ar×Bool×Unit
abbrev aU:=ar×Int×Unit
@[reducible] def jY:DT:=(.pair (.int .i64) (.pair (.int .i64) (.pair (.int .i64) (.pair bu (.pair bu (.pair (.int .i64) (.pair (.int .i64) (.pair (.int .i64) (.pair (.int .i64) (.pair (.int .i64) (.pair (.int .i64) (.pair (.slc (.int .i64)) .unit))))))))))))
abbrev cr:=Int×Int×Int×ar×ar×Int×Int×Int×Int×Int×Int×(List Int)×Unit
abbrev aW:=Int×Int×Int×Int×Unit
abbrev bR:=Int×ar×Int×Int×Int×Unit
abbrev cj:=Int×ar×ar×ar×Int×Int×Int×Int×Unit
abbrev bj:=ar×(List bh)×Unit
abbrev aV:=Int×(List aW)×(List bH)×(List bh)×(List az)×(List bA)×(List bR)×(List cj)×(List bC)×(List bC)×(List aU)×(List bj)×Unit
abbrev fH:=ar×ar×Int×Unit
abbrev fI:=ar×Int×(List bh)×Unit
abbrev XG:=Int×(List Int)×(List fH)×(List fI)×Unit
abbrev lL:=Bool×(List Int)×Unit
abbrev tm:=(List bC)×(List aU)×Unit
abbrev bW:=Int×Int×Unit
abbrev N8:=Int×Int×Unit
abbrev AP:=(List bh)×(List bH)×(List bC)×(List aU)×(List bj)×Unit
abbrev aK:=Int×(List aW)×(List bH)×(List bh)×(List az)×(List bA)×(List bR)×(List cj)×(List bC)×(List bC)×(List aU)×(List bj)×Int×Int×Int×Int×Int×Int×Int×Int×Int×Int×Int×Int×Int×(List Int)×Int×(List Int)×(List fH)×(List fI)×Unit
abbrev S0:=Int×List aW×List bH×List bh×List az×List bA×List bR×List cj×List bC×List bC×List aU×List bj×Int×Int×Int×Int×Int×Int×Int×Int×Int×Int×Int×Int×Int×List (Int)×Int×List (Int)×List fH×List fI×Unit
abbrev S1:=Int×Int×List aW×List bH×List bh×List az×List bA×List bR×List cj×List bC×List bC×List aU×List bj×Int×Int×Int×Int×Int×Int×Int×Int×Int×Int×Int×Int×Int×List (Int)×Int×List (Int)×List fH×List fI×Unit
abbrev S2:=Int×Int×List aW×List bH×List bh×List az×List bA×List bR×List cj×List bC×List bC×List aU×List bj×Unit
abbrev S3:=Int×Int×List aW×List bH×List bh×List az×List bA×List bR×List cj×List bC×List bC×List aU×List bj×Int×List fH×Unit
abbrev S4:=Int×Int×List aW×List bH×List bh×List az×List bA×List bR×List cj×List bC×List bC×List aU×List bj×Int×Int×Int×Int×Int×Int×Int×Int×Int×Int×Int×Int×Int×List (Int)×Int×List (Int)×List fH×List fI×List bj×Unit
abbrev S6:=Int×List ar×Unit
abbrev S8:=Int×Int×List aW×List bH×List bh×List az×List bA×List bR×List cj×List bC×List bC×List aU×List bj×List bh×Unit
abbrev S9:=Int×Bool×List (Int)×Unit
abbrev S10:=Int×List (Int)×Unit
abbrev ZG:=Int×Int×Unit
abbrev S12:=Bool×List (Int)×Unit
abbrev S14:=Int×Int×Int×Unit
abbrev S15:=Int×Int×List (Int)×Unit
abbrev S16:=Bool×List (Int)×(ByteArray×Int×Unit)×Unit
abbrev S17:=Int×Int×Int×Int×Unit
abbrev S18:=Bool×List bj×Unit
abbrev S19:=Int×List ar×List (Int)×Unit
abbrev S20:=Int×List aU×Unit
abbrev S21:=Int×Int×Int×Int×Int×Unit
abbrev S22:=Int×List az×Unit
abbrev S23:=List (Int)×Unit
abbrev S24:=Int×List bH×Unit
abbrev S25:=Int×List bC×Unit
abbrev Sq0:=Int×Int×List aW×List bH×List bh×List az×List bA×List bR×List cj×List bC×List bC×List aU×List bj×Int×List fH×Unit
abbrev Sq1:=Int×List aW×List bH×List bh×List az×List bA×List bR×List cj×List bC×List bC×List aU×List bj×Int×List fH×Unit
variable(W:Wd)
def EN(c:cr):Option cr:=W.aH (λ(j:Int×Int×Int×Int×Int×Int×Int×Int×Int×Int×Int×Int×Int×List (Int)×Unit)=>some (U3 j ((j.2.2.2.1,j.2.2.2.2.1,()),(j.2.2.2.2.2.1,j.2.2.2.2.2.2.1,()),j.2.2.2.2.2.2.2))) λr=>W.af (decide (40<(c.2.2.2.2.2.2.2.2.2.2.2.1.length:Int))) (W.gW 40 c.2.2.2.2.2.2.2.2.2.2.2.1.length λy=>(r (U3 c (c.2.2.2.1.1,c.2.2.2.1.2.1,c.2.2.2.2.1.1,c.2.2.2.2.1.2.1,U6 c.2.2.2.2.2 (c.2.2.2.2.2.2.2.2.2.2.2.1.take y,()))))) (r (U3 c (c.2.2.2.1.1,c.2.2.2.1.2.1,c.2.2.2.2.1.1,c.2.2.2.2.1.2.1,c.2.2.2.2.2)))
abbrev J_:=EN aj
def Ib(W:Wd):Option (Unit×(Bool×(List Int)×Unit)):=some ((),true,[],())
abbrev ajL:=Ib aj
def sM(W:Wd)(j:Bool)(w1:List Int):Option (Bool×(Bool×(List Int)×Unit)):=some (j,j,w1,())
abbrev GH:=sM aj
def uK(n:Int):Option Int:=W.iV 1 (W.iV 63 (some (Go.bits Go.BinOp.xor u64 (u64.wrap (i64.wrap (n*(2 ^ (min (Int.toNat 1) i64.bits))))) (u64.wrap (Int.fdiv n (2 ^ (min (Int.toNat 63) i64.bits)))))))
abbrev aaO:=uK aj
def wO(y:Bool)(w1:List Int)(u:Int):Option (Unit×(Bool×(List Int)×Unit)):=W.aZ (λ(j:S9) r=>W.af (decide (128<=j.1)) (W.bg (j.2.2.1.length+((Go.bits Go.BinOp.or Go.IntKind.u8 (IntKind.u8.wrap j.1) 128)::[]).length) 1 (W.iV 7 (r (Int.fdiv j.1 (2 ^ (min (Int.toNat 7) u64.bits)),j.2.1,j.2.2.1++((Go.bits Go.BinOp.or Go.IntKind.u8 (IntKind.u8.wrap j.1) 128)::[]),())))) (W.bg (j.2.2.1.length+((IntKind.u8.wrap j.1)::[]).length) 1 (some ((),j.2.1,j.2.2.1++((IntKind.u8.wrap j.1)::[]),())))) (u,y,w1,())
abbrev P3:=wO aj
def dK(F:Bool)(w1 l:List Int):Option (Unit×(Bool×(List Int)×Unit)):=W.aH (λ(y:S12)=>some ((),y)) λr=>W.ae (sM W F w1) λv3=>W.af v3.1 (W.aZ (λ(z4:S9) j=>W.af (decide (z4.1<(l.length:Int))) (W.aI l z4.1 λC=>W.ae (uK W C) λH=>W.ae (wO W z4.2.1 z4.2.2.1 H) λG=>(j (i64.wrap (z4.1+1),G.2))) (r z4.2)) (0,v3.2)) (r v3.2)
abbrev yl:=dK aj
def qF(op:Int):Option ByteArray:=W.aH (λ(z1:Bool×Unit)=>W.af z1.1 (some (ByteArray.mk (Array.mk (77::(81::[]))))) (W.af (op==2) (some (ByteArray.mk (Array.mk (73::(81::(80::(78::[]))))))) (W.af (op==3) (some (ByteArray.mk (Array.mk (65::(80::(81::[])))))) (W.af (op==4) (some (ByteArray.mk (Array.mk (85::(77::(68::[])))))) (W.aH (λ(z2:Bool×Unit)=>W.af z2.1 (some (ByteArray.mk (Array.mk (85::[])))) (W.aH (λ(z3:Bool×Unit)=>W.af z3.1 (some (ByteArray.mk (Array.mk (85::(79::(73::(81::(80::[])))))))) (W.aH (λ(z4:Bool×Unit)=>W.af z4.1 (some (ByteArray.mk (Array.mk (68::[])))) (W.af (op==12) (some (ByteArray.mk (Array.mk (85::(73::(78::[])))))) (W.af (op==13) (some (ByteArray.mk (Array.mk (68::(79::(81::[])))))) (W.af (op==14) (some (ByteArray.mk (Array.mk (73::(80::[]))))) (W.af (op==15) (some (ByteArray.mk (Array.mk (65::(80::[]))))) (W.aH (λ(z5:Bool×Unit)=>W.af z5.1 (some (ByteArray.mk (Array.mk (85::(65::(84::(81::[]))))))) (W.aH (λ(z6:Bool×Unit)=>W.af z6.1 (some (ByteArray.mk (Array.mk (85::(79::[]))))) (W.aH (λ(z7:Bool×Unit)=>W.af z7.1 (some (ByteArray.mk (Array.mk (77::[])))) (some (ByteArray.mk (Array.mk [])))) λX=>W.aH (λ(z9:Bool×Unit)=>W.af z9.1 (X z9) (W.aH (λ(K:Bool×Unit)=>W.af K.1 (X K) (X (op==31,()))) λk11=>(k11 (op==25,())))) λk12=>(k12 (op==23,())))) λV=>W.aH (λ(J:Bool×Unit)=>W.af J.1 (V J) (V (op==20,()))) λk15=>(k15 (op==19,())))) λR=>W.aH (λ(z17:Bool×Unit)=>W.af z17.1 (R z17) (R (op==18,()))) λk18=>(k18 (op==17,())))))))) λC=>W.aH (λ(z20:Bool×Unit)=>W.af z20.1 (C z20) (W.aH (λ(z21:Bool×Unit)=>W.af z21.1 (C z21) (C (op==11,()))) λk22=>(k22 (op==10,())))) λk23=>(k23 (op==9,())))) λy=>W.aH (λ(z25:Bool×Unit)=>W.af z25.1 (y z25) (W.aH (λ(z26:Bool×Unit)=>W.af z26.1 (y z26) (y (op==24,()))) λk27=>(k27 (op==8,())))) λk28=>(k28 (op==7,())))) λj=>W.aH (λ(H:Bool×Unit)=>W.af H.1 (j H) (W.aH (λ(z31:Bool×Unit)=>W.af z31.1 (j z31) (W.aH (λ(z32:Bool×Unit)=>W.af z32.1 (j z32) (W.aH (λ(z33:Bool×Unit)=>W.af z33.1 (j z33) (W.aH (λ(G:Bool×Unit)=>W.af G.1 (j G) (j (op==29,()))) λk35=>(k35 (op==28,())))) λk36=>(k36 (op==27,())))) λk37=>(k37 (op==26,())))) λk38=>(k38 (op==22,())))) λk39=>(k39 (op==5,()))))))) λr=>W.aH (λ(z41:Bool×Unit)=>W.af z41.1 (r z41) (W.aH (λ(F:Bool×Unit)=>W.af F.1 (r F) (r (op==21,()))) λk43=>(k43 (op==6,())))) λY=>(Y (op==1,()))
abbrev ac9:=qF aj
def zq(j:Bool)(w1:List Int)(u:ar):Option (Unit×(Bool×(List Int)×Unit)):=W.ae (dK W j w1 (u.1::(u.2.1::[]))) λv1=>some ((),v1.2)
abbrev ajJ:=zq aj
def wh(j:Bool)(w1:List Int)(c:cr)(name:Int):Option (Unit×(Bool×(List Int)×Unit)):=W.af (name==77) (W.ae (dK W j w1 (c.2.2.1::[])) λv1=>some ((),v1.2)) (W.af (name==85) (W.ae (zq W j w1 c.2.2.2.1) λv2=>some ((),v2.2)) (W.af (name==79) (W.ae (zq W j w1 c.2.2.2.2.1) λv3=>some ((),v3.2)) (W.af (name==73) (W.ae (dK W j w1 (c.2.2.2.2.2.1::[])) λv4=>some ((),v4.2)) (W.af (name==65) (W.ae (dK W j w1 (c.2.2.2.2.2.2.1::[])) λv5=>some ((),v5.2)) (W.af (name==84) (W.ae (dK W j w1 (c.2.2.2.2.2.2.2.1::[])) λv6=>some ((),v6.2)) (W.af (name==68) (W.ae (dK W j w1 (c.2.2.2.2.2.2.2.2.1::[])) λy=>some ((),y.2)) (W.af (name==81) (W.ae (dK W j w1 (c.2.2.2.2.2.2.2.2.2.1::[])) λr=>some ((),r.2)) (W.af (name==80) (W.ae (dK W j w1 (c.2.2.2.2.2.2.2.2.2.2.1::[])) λv9=>some ((),v9.2)) (W.af (name==78) (W.ae (dK W j w1 ((c.2.2.2.2.2.2.2.2.2.2.2.1.length:Int)::[])) λv10=>W.ae (dK W v10.2.1 v10.2.2.1 c.2.2.2.2.2.2.2.2.2.2.2.1) λv11=>some ((),v11.2)) (some ((),j,w1,())))))))))))
abbrev ahn:=wh aj
def ir(s:List Int):Option (List Int):=W.qq (List.isEmpty s) λg1=>W.af (cY false g1) (some []) (W.bg ((0:Nat)+s.length) 1 (some ([]++s)))
abbrev FK:=ir aj
def kE(j:Bool)(w1:List Int):Option ((List Int)×(Bool×(List Int)×Unit)):=W.ae (sM W j w1) λv1=>W.af (!v1.1) (some ([],v1.2)) (W.ae (ir W v1.2.2.1) λv2=>some (v2,v1.2))
abbrev N7:=kE aj
def uc(c:cr):Option (List Int):=W.gA (W.ae (Ib W) λv1=>W.ae (dK W v1.2.1 v1.2.2.1 (c.1::(c.2.1::[]))) λv2=>W.ae (qF W c.1) λv3=>W.aZ (λ(z4:S16) y=>W.yW z4.2.2.1.1 z4.2.2.1.2.1 (λK J=>W.ae (wh W z4.1 z4.2.1 c K) λv9=>(y (v9.2.1,v9.2.2.1,(z4.2.2.1.1,J,()),()))) (W.ae (kE W z4.1 z4.2.1) λv6=>some v6.1)) (v2.2.1,v2.2.2.1,(v3,0,()),())) (W.ae (Ib W) λv10=>W.ae (dK W v10.2.1 v10.2.2.1 (c.1::(c.2.1::[]))) λv11=>W.ae (qF W c.1) λv12=>W.aZ (λ(j:S16) r=>W.yW j.2.2.1.1 j.2.2.1.2.1 (λH G=>W.ae (wh W j.1 j.2.1 c H) λC=>(r (C.2.1,C.2.2.1,(j.2.2.1.1,G,()),()))) (W.ae (kE W j.1 j.2.1) λF=>some F.1)) (v11.2.1,v11.2.2.1,(v12,0,()),()))
abbrev ZV:=uc aj
def Au(b:List Int):Option (Unit×(Bool×(List Int)×Int×Unit)):=W.ae (ir W b) λv1=>some ((),true,v1,0,())
abbrev ai7:=Au aj
def va(r:Bool)(y:List Int)(j:Int):Option (Bool×(Bool×(List Int)×Int×Unit)):=W.af r (some (j==0,r,y,j,())) (some (false,r,y,j,()))
abbrev N6:=va aj
def nE(W:Wd)(j:Bool)(y:List Int)(r e:Int):Option (Unit×(Bool×(List Int)×Int×Unit)):=some ((),j,[],e,())
abbrev Dv:=nE aj
def oz(R:Bool)(K:List Int)(J:Int):Option ((Int×Bool×Unit)×(Bool×(List Int)×Int×Unit)):=W.aZ (λ(j:Int×Int×Bool×List (Int)×Int×Unit) r=>W.af ((j.2.2.2.1.length:Int)==0) (W.ae (nE W j.2.2.1 j.2.2.2.1 j.2.2.2.2.1 4) λv3=>some ((0,false,()),v3.2)) (W.aI j.2.2.2.1 0 λy=>W.gW 1 j.2.2.2.1.length λF=>W.aH (λ(G:Bool×Unit)=>W.af G.1 (W.ae (nE W j.2.2.1 ((j.2.2.2.1.take j.2.2.2.1.length).drop F) j.2.2.2.2.1 3) λH=>some ((0,false,()),H.2)) (W.iV j.2.1 (W.af (decide (y<128)) (some ((Go.bits Go.BinOp.or u64 j.1 (u64.wrap ((u64.wrap (Go.bits Go.BinOp.and Go.IntKind.u8 y 127))*(2 ^ (min (j.2.1.toNat) u64.bits)))),true,()),j.2.2.1,(j.2.2.2.1.take j.2.2.2.1.length).drop F,j.2.2.2.2)) (r (Go.bits Go.BinOp.or u64 j.1 (u64.wrap ((u64.wrap (Go.bits Go.BinOp.and Go.IntKind.u8 y 127))*(2 ^ (min (j.2.1.toNat) u64.bits)))),i64.wrap (j.2.1+7),j.2.2.1,(j.2.2.2.1.take j.2.2.2.1.length).drop F,j.2.2.2.2))))) λC=>W.af (decide (63<j.2.1)) (C (true,())) (W.af (j.2.1==63) (W.af (decide (1<y)) (C (true,())) (W.af (y==0) (C (decide (0<j.2.1),())) (C (false,())))) (W.af (y==0) (C (decide (0<j.2.1),())) (C (false,())))))) (0,0,R,K,J,())
abbrev As:=oz aj
def qP(u:Int):Option Int:=W.iV 1 (some (Go.bits Go.BinOp.xor i64 (i64.wrap (Int.fdiv u (2 ^ (min (Int.toNat 1) u64.bits)))) (i64.wrap (0-(i64.wrap (Go.bits Go.BinOp.and u64 u 1))))))
abbrev UC:=qP aj
def iq(C:Bool)(y:List Int)(r lo hi:Int):Option (Int×(Bool×(List Int)×Int×Unit)):=W.ae (va W C y r) λv1=>W.af (!v1.1) (some (0,v1.2)) (W.ae (oz W v1.2.1 v1.2.2.1 v1.2.2.2.1) λv2=>W.ae (qP W v2.1.1) λv3=>W.af (!v2.1.2.1) (some (0,v2.2)) (W.aH (λ(z4:Bool×Unit)=>W.af z4.1 (W.ae (nE W v2.2.1 v2.2.2.1 v2.2.2.2.1 7) λv5=>some (0,v5.2)) (some (v3,v2.2))) λj=>W.af (decide (v3<lo)) (j (true,())) (j (decide (hi<v3),()))))
abbrev P2:=iq aj
def jV(C:Bool)(y:List Int)(r j:Int):Option (Int×(Bool×(List Int)×Int×Unit)):=W.ae (iq W C y r 0 j) λv1=>some v1
abbrev ahj:=jV aj
def wg(y:Bool)(r:List Int)(j:Int):Option (ar×(Bool×(List Int)×Int×Unit)):=W.ae (jV W y r j 16) λv1=>W.ae (jV W v1.2.1 v1.2.2.1 v1.2.2.2.1 16) λv2=>some ((v1.1,v2.1,()),v2.2)
abbrev ahk:=wg aj
def rv(r:Bool)(y:List Int)(j:Int):Option (Int×(Bool×(List Int)×Int×Unit)):=W.af (!r) (some (1,r,y,j,())) (some (j,r,y,j,()))
abbrev Fe:=rv aj
def ua(J:Bool)(H:List Int)(G y:Int):Option ((List Int)×(Bool×(List Int)×Int×Unit)):=W.aH (λ(C:Bool×List (Int)×Int×List (Int)×Unit)=>some (C.2.2.2.1,U3 C ())) λF=>W.ae (jV W J H G y) λv3=>W.aZ (λ(z4:Int×Bool×List (Int)×Int×List (Int)×Unit) j=>W.af (decide (0<z4.1)) (W.ae (rv W z4.2.1 z4.2.2.1 z4.2.2.2.1) λv6=>W.af (v6.1==0) (W.ae (iq W v6.2.1 v6.2.2.1 v6.2.2.2.1 (-9223372036854775808) 9223372036854775807) λr=>W.bg (z4.2.2.2.2.1.length+(r.1::[]).length) 8 (j (i64.wrap (z4.1-1),U3 r.2 (z4.2.2.2.2.1++(r.1::[]),())))) (F (U3 v6.2 z4.2.2.2.2))) (F z4.2)) (U4 v3 ([],()))
abbrev ZS:=ua aj
def CT(H:Bool)(G:List Int)(F c0 c1 c2 c3 Y X V R K J C y r:Int)(j:List Int)(name:Int):Option (Unit×(Bool×(List Int)×Int×Int×Int×Int×Int×Int×Int×Int×Int×Int×Int×Int×Int×Int×(List Int)×Unit)):=W.af (name==77) (W.ae (jV W H G F 8) λv1=>some ((),U3 v1.2 (c0,c1,v1.1,c3,Y,X,V,R,K,J,C,y,r,j,()))) (W.af (name==85) (W.ae (wg W H G F) λv2=>some ((),U3 v2.2 (c0,c1,c2,v2.1.1,v2.1.2.1,X,V,R,K,J,C,y,r,j,()))) (W.af (name==79) (W.ae (wg W H G F) λv3=>some ((),U3 v3.2 (c0,c1,c2,c3,Y,v3.1.1,v3.1.2.1,R,K,J,C,y,r,j,()))) (W.af (name==73) (W.ae (jV W H G F 8) λv4=>some ((),U3 v4.2 (c0,c1,c2,c3,Y,X,V,v4.1,K,J,C,y,r,j,()))) (W.af (name==65) (W.ae (jV W H G F 4) λv5=>some ((),U3 v5.2 (c0,c1,c2,c3,Y,X,V,R,v5.1,J,C,y,r,j,()))) (W.af (name==84) (W.ae (jV W H G F 255) λv6=>some ((),U3 v6.2 (c0,c1,c2,c3,Y,X,V,R,K,v6.1,C,y,r,j,()))) (W.af (name==68) (W.ae (jV W H G F 1048576) λv7=>some ((),U3 v7.2 (c0,c1,c2,c3,Y,X,V,R,K,J,v7.1,y,r,j,()))) (W.af (name==81) (W.ae (iq W H G F (-9223372036854775808) 9223372036854775807) λv8=>some ((),U3 v8.2 (c0,c1,c2,c3,Y,X,V,R,K,J,C,v8.1,r,j,()))) (W.af (name==80) (W.ae (iq W H G F (-9223372036854775808) 9223372036854775807) λv9=>some ((),U3 v9.2 (c0,c1,c2,c3,Y,X,V,R,K,J,C,y,v9.1,j,()))) (W.af (name==78) (W.ae (ua W H G F 32) λv10=>some ((),U3 v10.2 (c0,c1,c2,c3,Y,X,V,R,K,J,C,y,r,v10.1,()))) (some ((),H,G,F,c0,c1,c2,c3,Y,X,V,R,K,J,C,y,r,j,())))))))))))
abbrev ajC:=CT aj
def oO(y:Bool)(r:List Int)(j:Int):Option (Int×(Bool×(List Int)×Int×Unit)):=W.ae (rv W y r j) λv1=>W.af (v1.1 != 0) (some v1) (W.af (decide (0<(v1.2.2.1.length:Int))) (some (5,v1.2)) (some (0,v1.2)))
abbrev P4:=oO aj
def CU(b:List Int):Option (cr×Int×Unit):=W.ae (Au W b) λv1=>W.ae (iq W v1.2.1 v1.2.2.1 v1.2.2.2.1 1 31) λv2=>W.ae (jV W v2.2.1 v2.2.2.1 v2.2.2.2.1 8) λv3=>W.ae (qF W v2.1) λv4=>W.aZ (λ(z5:Bool×List (Int)×Int×Int×Int×Int×Int×Int×Int×Int×Int×Int×Int×Int×Int×Int×List (Int)×(ByteArray×Int×Unit)×Unit) j=>W.yW z5.2.2.2.2.2.2.2.2.2.2.2.2.2.2.2.2.2.1.1 z5.2.2.2.2.2.2.2.2.2.2.2.2.2.2.2.2.2.1.2.1 (λC y=>W.ae (CT W z5.1 z5.2.1 z5.2.2.1 z5.2.2.2.1 z5.2.2.2.2.1 z5.2.2.2.2.2.1 z5.2.2.2.2.2.2.1 z5.2.2.2.2.2.2.2.1 z5.2.2.2.2.2.2.2.2.1 z5.2.2.2.2.2.2.2.2.2.1 z5.2.2.2.2.2.2.2.2.2.2.1 z5.2.2.2.2.2.2.2.2.2.2.2.1 z5.2.2.2.2.2.2.2.2.2.2.2.2.1 z5.2.2.2.2.2.2.2.2.2.2.2.2.2.1 z5.2.2.2.2.2.2.2.2.2.2.2.2.2.2.1 z5.2.2.2.2.2.2.2.2.2.2.2.2.2.2.2.1 z5.2.2.2.2.2.2.2.2.2.2.2.2.2.2.2.2.1 C) λv10=>(j (U17 v10.2 ((z5.2.2.2.2.2.2.2.2.2.2.2.2.2.2.2.2.2.1.1,y,()),())))) (W.ae (oO W z5.1 z5.2.1 z5.2.2.1) λr=>W.af (r.1 != 0) (some ((0,0,0,(0,0,()),(0,0,()),0,0,0,0,0,0,[],()),3,())) (some (U3 z5.2.2.2 ((z5.2.2.2.2.2.2.1,z5.2.2.2.2.2.2.2.1,()),(z5.2.2.2.2.2.2.2.2.1,z5.2.2.2.2.2.2.2.2.2.1,()),U7 z5.2.2.2.2.2.2.2.2.2.2 ()),0,())))) (U3 v3.2 (v2.1,v3.1,0,0,0,0,0,0,0,0,0,0,0,[],(v4,0,()),()))
abbrev ajF:=CU aj
def iU(s1 s2:List Int):Option Bool:=W.af ((s1.length:Int) != (s2.length:Int)) (some false) (W.aZ (λ(r:Int×Unit) j=>W.af (decide (r.1<(s1.length:Int))) (W.aI s1 r.1 λC=>W.aI s2 r.1 λy=>W.af (C != y) (some false) (j (i64.wrap (r.1+1),()))) (some true)) (0,()))
abbrev CV:=iU aj
def CW(a b:cr):Option Bool:=W.ae (iU W a.2.2.2.2.2.2.2.2.2.2.2.1 b.2.2.2.2.2.2.2.2.2.2.2.1) λv1=>W.af v1 (W.af (a.1==b.1) (W.af (a.2.1==b.2.1) (W.af (a.2.2.1==b.2.2.1) (W.af (cY false ((a.2.2.2.1.1==b.2.2.2.1.1)&&(a.2.2.2.1.2.1==b.2.2.2.1.2.1))) (W.af (cY false ((a.2.2.2.2.1.1==b.2.2.2.2.1.1)&&(a.2.2.2.2.1.2.1==b.2.2.2.2.1.2.1))) (W.af (a.2.2.2.2.2.1==b.2.2.2.2.2.1) (W.af (a.2.2.2.2.2.2.1==b.2.2.2.2.2.2.1) (W.af (a.2.2.2.2.2.2.2.1==b.2.2.2.2.2.2.2.1) (W.af (a.2.2.2.2.2.2.2.2.1==b.2.2.2.2.2.2.2.2.1) (W.af (a.2.2.2.2.2.2.2.2.2.1==b.2.2.2.2.2.2.2.2.2.1) (some (a.2.2.2.2.2.2.2.2.2.2.1==b.2.2.2.2.2.2.2.2.2.2.1)) (some false)) (some false)) (some false)) (some false)) (some false)) (some false)) (some false)) (some false)) (some false)) (some false)) (some false)
abbrev ajO:=CW aj
def zL(c:cr):Option Int:=W.ae (uc W c) λv1=>W.ae (CU W v1) λv2=>W.aH (λ(z3:Bool×Unit)=>W.af z3.1 (some 3) (some 0)) λj=>W.af (v2.2.1 != 0) (j (true,())) (W.ae (CW W v2.1 c) λv5=>(j (!v5,())))
abbrev ahq:=zL aj
def EO(W:Wd)(j:Int)(m:aW):Option (Bool×(Int×Unit)):=some (m.1==j,j,())
abbrev OG:=EO aj
def cW(y:Int)(s:List aW):Option (Int×(Int×Unit)):=W.aZ (λ(r:ZG) j=>W.af (decide (r.1<(s.length:Int))) (W.aI s r.1 λC=>W.ae (EO W r.2.1 C) λv4=>W.af v4.1 (some (r.1,v4.2)) (j (i64.wrap (r.1+1),v4.2))) (some (-1,r.2))) (0,y,())
abbrev ik:=cW aj
def pk(l:List aW)(id:Int):Option Int:=W.ae (cW W id l) λv1=>some v1.1
abbrev Vr:=pk aj
def im(l:List aW)(id:Int):Option (aW×Bool×Unit):=W.ae (pk W l id) λv1=>W.af (decide (v1<0)) (some ((0,0,0,0,()),false,())) (W.aI l v1 λj=>some (j,true,()))
abbrev Bs:=im aj
def jH(m:aW):Option Int:=W.af (m.2.2.1 != 0) (some 15) (some 0)
abbrev qD:=jH aj
def mf(d:aK):Option (Int×aK):=W.af (d.2.2.2.2.2.2.2.2.2.2.2.2.2.1==0) (some (0,d)) (W.two (W.ae (im W d.2.1 d.2.2.2.2.2.2.2.2.2.2.2.2.2.1) λv1=>W.af (!v1.2.1) (some (14,d)) (W.ae (jH W v1.1) λv2=>some (v2,d))))
abbrev Mj:=mf aj
def yc(l:List az)(id:Int):Option (Int×Bool×Unit):=W.aZ (λ(r:Int×Unit) j=>W.af (decide (r.1<(l.length:Int))) (W.aI l r.1 λy=>W.af (decide (id<=y.1)) (some (r.1,y.1==id,())) (j (i64.wrap (r.1+1),()))) (some ((l.length:Int),false,()))) (0,())
abbrev I0:=yc aj
def jh(s:List Int):Option (List Int):=W.qq (List.isEmpty s) λg1=>W.af (cY false g1) (some []) (W.bg ((0:Nat)+s.length) 8 (some ([]++s)))
abbrev Iv:=jh aj
def mS(a:az):Option az:=W.ae (jh W a.2.2.2.1) λv1=>some (U3 a (v1,()))
abbrev KL:=mS aj
def l7(l:List az)(id:Int):Option (az×Bool×Unit):=W.ae (yc W l id) λv1=>W.af (!v1.2.1) (some ((0,0,0,[],()),false,())) (W.aI l v1.1 λj=>W.ae (mS W j) λv3=>some (v3,true,()))
abbrev M3:=l7 aj
def kX(d:aK)(id:Int):Option (Bool×aK):=W.ae (l7 W d.2.2.2.2.1 id) λv1=>W.af v1.2.1 (some (v1.1.2.1==d.2.2.2.2.2.2.2.2.2.2.2.2.2.1,d)) (some (false,d))
abbrev JO:=kX aj
def ji(a:az):Option (List ar):=W.af (a.2.2.1==1) (some ((a.1,0,())::[])) (W.aZ (λ(r:S6) j=>W.af (decide (r.1<(a.2.2.2.1.length:Int))) (W.aI a.2.2.2.1 r.1 λy=>W.bg (r.2.1.length+((a.1,y,())::[]).length) 16 (j (i64.wrap (r.1+1),r.2.1++((a.1,y,())::[]),()))) (some r.2.1)) (0,[],()))
abbrev wL:=ji aj
def j7(s:List ar)(C:ar):Option Int:=W.aZ (λ(r:Int×Unit) j=>W.af (decide (r.1<(s.length:Int))) (W.aI s r.1 λy=>W.af (cY false ((C.1==y.1)&&(C.2.1==y.2.1))) (some r.1) (j (i64.wrap (r.1+1),()))) (some (-1))) (0,())
abbrev xr:=j7 aj
def cN(s:List ar)(j:ar):Option Bool:=W.ae (j7 W s j) λv1=>some (decide (0<=v1))
abbrev mW:=cN aj
def q7(a:az)(u:ar):Option Bool:=W.ae (ji W a) λv1=>W.ae (cN W v1 u) λv2=>some v2
abbrev ajt:=q7 aj
def qU(l:List az)(u:ar):Option Int:=W.aZ (λ(r:Int×Unit) j=>W.af (decide (r.1<(l.length:Int))) (W.aI l r.1 λy=>W.ae (q7 W y u) λv4=>W.af v4 (some y.2.1) (j (i64.wrap (r.1+1),()))) (some 0)) (0,())
abbrev aej:=qU aj
def gD(d:aK)(u:ar):Option (Bool×aK):=W.ae (qU W d.2.2.2.2.1 u) λv1=>some (v1==d.2.2.2.2.2.2.2.2.2.2.2.2.2.1,d)
abbrev P6:=gD aj
def JT(W:Wd)(j:Int)(g:cj):Option (Bool×(Int×Unit)):=some (g.1==j,j,())
abbrev aiR:=JT aj
def eI(y:Int)(s:List cj):Option (Int×(Int×Unit)):=W.aZ (λ(r:ZG) j=>W.af (decide (r.1<(s.length:Int))) (W.aI s r.1 λC=>W.ae (JT W r.2.1 C) λv4=>W.af v4.1 (some (r.1,v4.2)) (j (i64.wrap (r.1+1),v4.2))) (some (-1,r.2))) (0,y,())
abbrev o7:=eI aj
def DH(l:List cj)(id:Int):Option Int:=W.ae (eI W id l) λv1=>some v1.1
abbrev ark:=DH aj
def s5(l:List cj)(id:Int):Option (cj×Bool×Unit):=W.ae (DH W l id) λv1=>W.af (decide (v1<0)) (some ((0,(0,0,()),(0,0,()),(0,0,()),0,0,0,0,()),false,())) (W.aI l v1 λj=>some (j,true,()))
abbrev WL:=s5 aj
def kG(d:aK):Option (cj×aK):=W.two (W.ae (s5 W d.2.2.2.2.2.2.2.1 d.2.2.2.2.2.2.2.2.2.2.2.2.2.2.2.2.2.2.2.2.2.2.1) λv1=>some (v1.1,d))
abbrev Ol:=kG aj
def GW(W:Wd)(j:Int)(g:bR):Option (Bool×(Int×Unit)):=some (g.1==j,j,())
abbrev aem:=GW aj
def dV(y:Int)(s:List bR):Option (Int×(Int×Unit)):=W.aZ (λ(r:ZG) j=>W.af (decide (r.1<(s.length:Int))) (W.aI s r.1 λC=>W.ae (GW W r.2.1 C) λv4=>W.af v4.1 (some (r.1,v4.2)) (j (i64.wrap (r.1+1),v4.2))) (some (-1,r.2))) (0,y,())
abbrev n2:=dV aj
def wN(l:List bR)(id:Int):Option Int:=W.ae (dV W id l) λv1=>some v1.1
abbrev anV:=wN aj
def tz(l:List bR)(id:Int):Option (bR×Bool×Unit):=W.ae (wN W l id) λv1=>W.af (decide (v1<0)) (some ((0,(0,0,()),0,0,0,()),false,())) (W.aI l v1 λj=>some (j,true,()))
abbrev aen:=tz aj
def ni(d:aK):Option (bR×aK):=W.two (W.ae (tz W d.2.2.2.2.2.2.1 d.2.2.2.2.2.2.2.2.2.2.2.2.2.2.2.2.2.2.2.2.2.2.1) λv1=>some (v1.1,d))
abbrev On:=ni aj
def rp(d:aK):Option (Bool×aK):=W.aH (λ(z1:Unit)=>W.ae (kG W d) λv2=>W.ae (gD W v2.2 v2.1.2.2.1) λv3=>some v3) λR=>W.aH (λ(z5:S0)=>W.ae (gD W z5 (z5.2.2.2.2.2.2.2.2.2.2.2.2.2.2.2.1,z5.2.2.2.2.2.2.2.2.2.2.2.2.2.2.2.2.1,())) λv6=>some v6) λr=>W.aH (λ(z8:Unit)=>W.ae (kX W d d.2.2.2.2.2.2.2.2.2.2.2.2.2.2.2.1) λv9=>some v9) λC=>W.aH (λ(Y:Unit)=>W.af (d.2.2.2.2.2.2.2.2.2.2.2.2.1==7) (W.ae (gD W d (d.2.2.2.2.2.2.2.2.2.2.2.2.2.2.2.2.2.1,d.2.2.2.2.2.2.2.2.2.2.2.2.2.2.2.2.2.2.1,())) λv12=>W.af v12.1 (some (true,v12.2)) (r v12.2)) (W.aH (λ(X:Unit)=>W.aH (λ(V:Unit)=>W.af (d.2.2.2.2.2.2.2.2.2.2.2.2.1==11) (W.ae (kG W d) λF=>W.ae (gD W F.2 F.1.2.1) λK=>some K) (W.af (d.2.2.2.2.2.2.2.2.2.2.2.2.1==13) (W.ae (ni W d) λv17=>W.ae (gD W v17.2 v17.1.2.1) λJ=>some J) (W.af (d.2.2.2.2.2.2.2.2.2.2.2.2.1==20) (W.ae (gD W d (d.2.2.2.2.2.2.2.2.2.2.2.2.2.2.2.2.2.1,d.2.2.2.2.2.2.2.2.2.2.2.2.2.2.2.2.2.2.1,())) λH=>some H) (W.af (d.2.2.2.2.2.2.2.2.2.2.2.2.1==31) (some (d.2.2.2.2.2.2.2.2.2.2.2.2.2.2.1==d.2.2.2.2.2.2.2.2.2.2.2.2.2.1,d)) (some (false,d)))))) λG=>W.af (d.2.2.2.2.2.2.2.2.2.2.2.2.1==9) (W.af (d.2.2.2.2.2.2.2.2.2.2.2.2.1==9) (R ()) (G ())) (W.af (d.2.2.2.2.2.2.2.2.2.2.2.2.1==10) (R ()) (G ()))) λj=>W.af (d.2.2.2.2.2.2.2.2.2.2.2.2.1==8) (W.af (d.2.2.2.2.2.2.2.2.2.2.2.2.1==8) (r d) (j ())) (W.af (d.2.2.2.2.2.2.2.2.2.2.2.2.1==12) (W.af (d.2.2.2.2.2.2.2.2.2.2.2.2.1==12) (r d) (j ())) (W.af (d.2.2.2.2.2.2.2.2.2.2.2.2.1==17) (W.af (d.2.2.2.2.2.2.2.2.2.2.2.2.1==17) (r d) (j ())) (W.af (d.2.2.2.2.2.2.2.2.2.2.2.2.1==18) (W.af (d.2.2.2.2.2.2.2.2.2.2.2.2.1==18) (r d) (j ())) (W.af (d.2.2.2.2.2.2.2.2.2.2.2.2.1==19) (W.af (d.2.2.2.2.2.2.2.2.2.2.2.2.1==19) (r d) (j ())) (W.af (d.2.2.2.2.2.2.2.2.2.2.2.2.1==26) (W.af (d.2.2.2.2.2.2.2.2.2.2.2.2.1==26) (r d) (j ())) (W.af (d.2.2.2.2.2.2.2.2.2.2.2.2.1==27) (r d) (j ()))))))))) λy=>W.af (d.2.2.2.2.2.2.2.2.2.2.2.2.1==5) (W.af (d.2.2.2.2.2.2.2.2.2.2.2.2.1==5) (C ()) (y ())) (W.af (d.2.2.2.2.2.2.2.2.2.2.2.2.1==28) (W.af (d.2.2.2.2.2.2.2.2.2.2.2.2.1==28) (C ()) (y ())) (W.af (d.2.2.2.2.2.2.2.2.2.2.2.2.1==29) (C ()) (y ())))
abbrev P8:=rp aj
def kY(d:aK):Option (Int×aK):=W.aH (λ(j:Bool×Int×List aW×List bH×List bh×List az×List bA×List bR×List cj×List bC×List bC×List aU×List bj×Int×Int×Int×Int×Int×Int×Int×Int×Int×Int×Int×Int×Int×List (Int)×Int×List (Int)×List fH×List fI×Unit)=>W.af j.1 (some (0,j.2)) (some (14,j.2))) λr=>W.af (d.2.2.2.2.2.2.2.2.2.2.2.2.2.1==0) (r (true,d)) (W.ae (rp W d) λv3=>(r v3))
abbrev JP:=kY aj
def sC(m:aW):Option Int:=W.aH (λ(r:Bool×Unit)=>W.af r.1 (some 2) (some 0)) λj=>W.af (decide (m.1<1)) (j (true,())) (W.af (decide (8<m.1)) (j (true,())) (W.af (decide (m.2.1<0)) (j (true,())) (W.af (decide (4611686018427387904<m.2.1)) (j (true,())) (W.af (decide (m.2.2.1<0)) (j (true,())) (W.af (decide (3<m.2.2.1)) (j (true,())) (W.af (decide (m.2.2.2.1<0)) (j (true,())) (j (decide (2097152<m.2.2.2.1),()))))))))
abbrev Yt:=sC aj
def dY(s:List aW):Option (List aW):=W.qq (List.isEmpty s) λg1=>W.af (cY false g1) (some []) (W.bg ((0:Nat)+s.length) 32 (some ([]++s)))
abbrev tS:=dY aj
def xV(l:List aW)(m:aW):Option ((List aW)×Int×Unit):=W.ae (sC W m) λv1=>W.af (v1 != 0) (some ([],v1,())) (W.ae (pk W l m.1) λv2=>W.af (decide (0<=v2)) (some ([],12,())) (W.two (W.ae (dY W l) λv3=>W.bg (v3.length+(m::[]).length) 32 (W.aH (λ(z4:List aW×Unit)=>some (z4.1,0,())) λF=>W.aZ (λ(j:Int×List aW×Unit) r=>W.af (decide (0<j.1)) (W.aI j.2.1 (i64.wrap (j.1-1)) λY=>W.ct j.2.1 ((i64.wrap (j.1-1)).toNat) λG=>W.af (decide (m.1<G.1)) (W.aI j.2.1 j.1 λX=>W.aI j.2.1 (i64.wrap (j.1-1)) λV=>W.ct j.2.1 (j.1.toNat) λy=>W.ct j.2.1 ((i64.wrap (j.1-1)).toNat) λC=>W.aI j.2.1 (i64.wrap (j.1-1)) λR=>W.ct j.2.1 ((i64.wrap (j.1-1)).toNat) λK=>W.aI (List.set j.2.1 ((i64.wrap (j.1-1)).toNat) y) j.1 λJ=>W.ct (List.set j.2.1 ((i64.wrap (j.1-1)).toNat) y) (j.1.toNat) λH=>(r (i64.wrap (j.1-1),List.set (List.set j.2.1 ((i64.wrap (j.1-1)).toNat) y) (j.1.toNat) C,()))) (F j.2)) (F j.2)) (i64.wrap (((v3++(m::[])).length:Int)-1),v3++(m::[]),())))))
abbrev TB:=xV aj
def pz(p:Int):Option Bool:=W.af (decide (0<=p)) (some (decide (p<=2147483647))) (some false)
abbrev aaG:=pz aj
def Du(m:Int):Option Bool:=W.af (decide (m<(-2147483647))) (some true) (some (decide (2147483647<m)))
abbrev amL:=Du aj
def iu(s:List Int):Option (Int×Unit):=W.aZ (λ(r:Int×Unit) j=>W.af (decide (r.1<(s.length:Int))) (W.aI s r.1 λy=>W.ae (Du W y) λv4=>W.af v4 (some r) (j (i64.wrap (r.1+1),()))) (some (-1,()))) (0,())
abbrev rV:=iu aj
def dU(s:List Int):Option (Bool×Unit):=W.ae (iu W s) λv1=>some (decide (0<=v1.1),())
abbrev qA:=dU aj
def tD(i:bH):Option Int:=W.aH (λ(y:Bool×Unit)=>W.aH (λ(z2:Bool×Unit)=>W.af z2.1 (some 2) (some 0)) λj=>W.af (!y.1) (j (true,())) (W.ae (pz W i.2.2.1) λv4=>W.af (!v4) (j (true,())) (W.ae (pz W i.2.2.2.1) λv5=>W.af (!v5) (j (true,())) (W.af (decide (8<(i.2.2.2.2.1.length:Int))) (j (true,())) (W.ae (dU W i.2.2.2.2.1) λv6=>(j v6)))))) λr=>W.af (decide (1<=i.1)) (W.af (decide (i.1<=8)) (W.af (decide (1<=i.2.1)) (r (decide (i.2.1<=65536),())) (r (false,()))) (r (false,()))) (r (false,()))
abbrev adG:=tD aj
def JD(W:Wd)(j:Int)(i:bH):Option (Bool×(Int×Unit)):=some (i.1==j,j,())
def fV(y:Int)(s:List bH):Option (Int×(Int×Unit)):=W.aZ (λ(r:ZG) j=>W.af (decide (r.1<(s.length:Int))) (W.aI s r.1 λC=>W.ae (JD W r.2.1 C) λv4=>W.af v4.1 (some (r.1,v4.2)) (j (i64.wrap (r.1+1),v4.2))) (some (-1,r.2))) (0,y,())
abbrev o6:=fV aj
def GX(l:List bH)(id:Int):Option Int:=W.ae (fV W id l) λv1=>some v1.1
abbrev aq2:=GX aj
def GY(W:Wd)(j F C y:Int)(r:List Int)(G:bH):Option (Bool×(Int×Int×Int×Int×(List Int)×Unit)):=some (decide (j<G.1),j,F,C,y,r,())
abbrev aek:=GY aj
def eG(H G F C:Int)(y:List Int)(s:List bH):Option (Int×(Int×Int×Int×Int×(List Int)×Unit)):=W.aZ (λ(j:Int×Int×Int×Int×Int×List (Int)×Unit) r=>W.af (decide (j.1<(s.length:Int))) (W.aI s j.1 λJ=>W.ae (GY W j.2.1 j.2.2.1 j.2.2.2.1 j.2.2.2.2.1 j.2.2.2.2.2.1 J) λv4=>W.af v4.1 (some (j.1,v4.2)) (r (i64.wrap (j.1+1),v4.2))) (some (-1,j.2))) (0,H,G,F,C,y,())
abbrev oS:=eG aj
def iX(s:List Int):Option (List Int):=W.qq (List.isEmpty s) λg1=>W.af (cY false g1) (some []) (W.bg ((0:Nat)+s.length) 8 (some ([]++s)))
abbrev Dw:=iX aj
def DX(i:bH):Option bH:=W.ae (iX W i.2.2.2.2.1) λv1=>some (U4 i (v1,()))
abbrev aaP:=DX aj
def vb(l:List bH):Option (List bH):=W.aZ (λ(r:S24) j=>W.af (decide (r.1<(l.length:Int))) (W.aI l r.1 λy=>W.ae (DX W y) λv4=>W.bg (r.2.1.length+(v4::[]).length) 56 (j (i64.wrap (r.1+1),r.2.1++(v4::[]),()))) (some r.2.1)) (0,[],())
abbrev Ph:=vb aj
def DG(l:List bH)(i:bH):Option ((List bH)×Int×Unit):=W.ae (tD W i) λv1=>W.af (v1 != 0) (some ([],v1,())) (W.ae (GX W l i.1) λv2=>W.af (decide (0<=v2)) (some ([],12,())) (W.ae (eG W i.1 i.2.1 i.2.2.1 i.2.2.2.1 i.2.2.2.2.1 l) λv3=>W.aH (λ(z4:Int×Unit)=>W.ae (vb W l) λv5=>W.ae (DX W v3.2) λv6=>W.ae (Ez v5 z4.1 (v6::[])) λr=>some (r.1,0,())) λj=>W.af (decide (v3.1<0)) (j ((l.length:Int),())) (j (v3.1,()))))
abbrev ab0:=DG aj
def sx(p:Int):Option Bool:=W.af (decide (0<=p)) (some (decide (p<=2147483647))) (some false)
abbrev K0:=sx aj
def pv(a:bh):Option Int:=W.aH (λ(r:Bool×Unit)=>W.af r.1 (some 2) (some 0)) λj=>W.af (decide (a.1<1)) (j (true,())) (W.af (decide (4<a.1)) (j (true,())) (W.ae (sx W a.2.1) λv3=>W.af (!v3) (j (true,())) (W.af (decide (a.2.2.1<0)) (j (true,())) (j (decide (10000<a.2.2.1),())))))
abbrev OH:=pv aj
def pe(l:List bh)(id:Int):Option (bh×Bool×Unit):=W.aZ (λ(r:Int×Unit) j=>W.af (decide (r.1<(l.length:Int))) (W.aI l r.1 λy=>W.af (y.1==id) (some (y,true,())) (j (i64.wrap (r.1+1),()))) (some ((0,0,0,()),false,()))) (0,())
abbrev I8:=pe aj
def wP(W:Wd)(j:Int):Option Bool:=some (j != j)
abbrev WE:=wP aj
def py(j y:Int):Option Int:=W.ae (wP W j) λv1=>W.ae (wP W y) λv2=>W.af v1 (W.af v2 (some 0) (some (-1))) (W.af v2 (some 1) (W.af (decide (j<y)) (some (-1)) (W.af (decide (y<j)) (some 1) (some 0))))
abbrev Pg:=py aj
def tx(a:bh)(id:Int):Option Int:=W.ae (py W a.1 id) λv1=>some v1
abbrev JI:=tx aj
def c8(y:List bh)(target:Int):Option ((Int×Bool×Unit)×Unit):=W.aZ (λ(j:ZG) r=>W.af (decide (j.1<j.2.1)) (W.iV 1 (W.aI y (i64.wrap (Int.fdiv (u64.wrap (i64.wrap (j.1+j.2.1))) (2 ^ (min (Int.toNat 1) u64.bits)))) λF=>W.ae (tx W F target) λv4=>W.af (decide (v4<0)) (r (i64.wrap ((i64.wrap (Int.fdiv (u64.wrap (i64.wrap (j.1+j.2.1))) (2 ^ (min (Int.toNat 1) u64.bits))))+1),j.2)) (r (j.1,i64.wrap (Int.fdiv (u64.wrap (i64.wrap (j.1+j.2.1))) (2 ^ (min (Int.toNat 1) u64.bits))),())))) (W.af (decide (j.1<(y.length:Int))) (W.aI y j.1 λC=>W.ae (tx W C target) λv6=>some ((j.1,v6==0,()),())) (some ((j.1,false,()),())))) (0,(y.length:Int),())
abbrev ko:=c8 aj
def eH(s:List bh):Option (List bh):=W.qq (List.isEmpty s) λg1=>W.af (cY false g1) (some []) (W.bg ((0:Nat)+s.length) 24 (some ([]++s)))
abbrev vH:=eH aj
def AI(l:List bh)(a:bh):Option ((List bh)×Int×Unit):=W.ae (pv W a) λv1=>W.af (v1 != 0) (some ([],v1,())) (W.ae (pe W l a.1) λv2=>W.af v2.2.1 (some ([],12,())) (W.ae (c8 W l a.1) λv3=>W.two (W.ae (eH W l) λv4=>W.ae (Gq v4 v3.1.1 (a::[])) λv5=>some (v5.1,0,()))))
abbrev WJ:=AI aj
def fE(d:aK):Option ((aW×Int×Unit)×aK):=W.two (W.ae (im W d.2.1 d.2.2.2.2.2.2.2.2.2.2.2.2.2.2.1) λv1=>W.af (!v1.2.1) (some (((0,0,0,0,()),11,()),d)) (some ((v1.1,0,()),d)))
abbrev BP:=fE aj
def sY(kind:Int):Option Int:=W.af (kind==1) (some 0) (W.af (kind==4) (some 1) (some 16))
abbrev Wl:=sY aj
def qN(a:az):Option Int:=W.aH (λ(H:Bool×Unit)=>W.aH (λ(z2:Bool×Unit)=>W.af z2.1 (some 2) (W.aZ (λ(z3:ZG) r=>W.af (decide (z3.2.1<(a.2.2.2.1.length:Int))) (W.aI a.2.2.2.1 z3.2.1 λC=>W.aH (λ(G:Bool×Unit)=>W.af G.1 (some 2) (r (C,i64.wrap (z3.2.1+1),()))) λF=>W.af (decide (C<=z3.1)) (F (true,())) (F (decide (16<C),()))) (some 0)) (0,0,()))) λy=>W.af (!H.1) (y (true,())) (W.af (decide (a.2.2.1<1)) (y (true,())) (W.af (decide (4<a.2.2.1)) (y (true,())) (W.ae (sY W a.2.2.1) λv9=>(y (decide (v9<(a.2.2.2.1.length:Int)),())))))) λj=>W.af (decide (1<=a.1)) (W.af (decide (a.1<=16)) (W.af (decide (1<=a.2.1)) (j (decide (a.2.1<=8),())) (j (false,()))) (j (false,()))) (j (false,()))
abbrev ad9:=qN aj
def rm(l:List az):Option (List az):=W.aZ (λ(r:S22) j=>W.af (decide (r.1<(l.length:Int))) (W.aI l r.1 λy=>W.ae (mS W y) λv4=>W.bg (r.2.1.length+(v4::[]).length) 48 (j (i64.wrap (r.1+1),r.2.1++(v4::[]),()))) (some r.2.1)) (0,[],())
abbrev abw:=rm aj
def DE(l:List az)(a:az):Option ((List az)×Int×Unit):=W.ae (qN W a) λv1=>W.af (v1 != 0) (some ([],v1,())) (W.ae (yc W l a.1) λv2=>W.af v2.2.1 (some ([],12,())) (W.ae (rm W l) λv3=>W.ae (mS W a) λv4=>W.ae (Cp v3 v2.1 (v4::[])) λv5=>some (v5.1,0,())))
abbrev anN:=DE aj
def jx(d:aK):Option (Int×aK):=W.af (d.2.2.2.2.2.2.2.2.2.2.2.2.2.2.2.2.1 != 0) (some (2,d)) (W.ae (fE W d) λv1=>W.aH (λ(z2:Int×Unit)=>W.aH (λ(z3:S1)=>some z3) λr=>W.af (z2.1==0) (W.ae (DE W v1.2.2.2.2.2.1 (v1.2.2.2.2.2.2.2.2.2.2.2.2.2.2.2.2.1,v1.2.2.2.2.2.2.2.2.2.2.2.2.2.2.2.1,v1.2.2.2.2.2.2.2.2.2.2.2.2.2.2.2.2.2.2.2.2.2.2.2.1,[],())) λv5=>(r (v5.2.1,U4 v1.2 (v5.1,v1.2.2.2.2.2.2)))) (r (z2.1,v1.2))) λj=>W.af (v1.1.2.1==0) (W.ae (jH W v1.1.1) λy=>(j (y,()))) (j v1.1.2))
abbrev vV:=jx aj
def DL(j y:Int):Option Bool:=W.ae (wP W j) λv1=>W.af v1 (W.ae (wP W y) λv2=>W.af (!v2) (some true) (some (decide (j<y)))) (some (decide (j<y)))
abbrev ab9:=DL aj
def xm(W:Wd)(j:Int):Option Bool:=some (j != j)
abbrev Mh:=xm aj
def jn(y:List Int)(target:Int):Option (Int×Bool×Unit):=W.aZ (λ(j:ZG) r=>W.af (decide (j.1<j.2.1)) (W.iV 1 (W.aI y (i64.wrap (Int.fdiv (u64.wrap (i64.wrap (j.1+j.2.1))) (2 ^ (min (Int.toNat 1) u64.bits)))) λG=>W.ae (DL W G target) λv4=>W.af v4 (r (i64.wrap ((i64.wrap (Int.fdiv (u64.wrap (i64.wrap (j.1+j.2.1))) (2 ^ (min (Int.toNat 1) u64.bits))))+1),j.2)) (r (j.1,i64.wrap (Int.fdiv (u64.wrap (i64.wrap (j.1+j.2.1))) (2 ^ (min (Int.toNat 1) u64.bits))),())))) (W.af (decide (j.1<(y.length:Int))) (W.aI y j.1 λF=>W.af (F==target) (some (j.1,true,())) (W.aI y j.1 λC=>W.ae (xm W C) λJ=>W.af J (W.ae (xm W target) λH=>some (j.1,H,())) (some (j.1,false,())))) (some (j.1,false,())))) (0,(y.length:Int),())
abbrev AM:=jn aj
def AN(a:az)(j:Int):Option (az×Int×Unit):=W.ae (qN W a) λv1=>W.af (v1 != 0) (some ((0,0,0,[],()),v1,())) (W.ae (jn W a.2.2.2.1 j) λv2=>W.af (a.2.2.1==1) (some ((0,0,0,[],()),17,())) (W.aH (λ(z3:Bool×Unit)=>W.af z3.1 (some ((0,0,0,[],()),2,())) (W.af v2.2.1 (some ((0,0,0,[],()),12,())) (W.ae (sY W a.2.2.1) λv4=>W.af (decide (v4<=(a.2.2.2.1.length:Int))) (some ((0,0,0,[],()),10,())) (W.ae (jh W a.2.2.2.1) λv5=>W.ae (ND v5 v2.1 (j::[])) λv6=>some (U3 a v6,0,()))))) λr=>W.af (decide (j<1)) (r (true,())) (r (decide (16<j),()))))
abbrev WN:=AN aj
def DF(l:List az)(a:az):Option ((List az)×Int×Unit):=W.ae (qN W a) λv1=>W.af (v1 != 0) (some ([],v1,())) (W.ae (yc W l a.1) λv2=>W.af (!v2.2.1) (some ([],11,())) (W.ae (rm W l) λv3=>W.ae (mS W a) λv4=>W.aI v3 v2.1 λr=>W.ct v3 (v2.1.toNat) λj=>some (List.set v3 (v2.1.toNat) v4,0,())))
abbrev anO:=DF aj
def oW(d:aK):Option (Int×aK):=W.two (W.ae (l7 W d.2.2.2.2.1 d.2.2.2.2.2.2.2.2.2.2.2.2.2.2.2.1) λv1=>W.af (!v1.2.1) (some (11,d)) (W.two (W.ae (im W d.2.1 v1.1.2.1) λv2=>W.ae (jH W v2.1) λv3=>W.af (v3 != 0) (some (v3,d)) (W.two (W.ae (AN W v1.1 d.2.2.2.2.2.2.2.2.2.2.2.2.2.2.2.2.1) λv4=>W.aH (λ(z5:S1)=>some z5) λr=>W.af (v4.2.1==0) (W.ae (DF W d.2.2.2.2.1 v4.1) λj=>(r (j.2.1,U4 d (j.1,d.2.2.2.2.2)))) (r (v4.2.1,d)))))))
abbrev Fw:=oW aj
def tw(l:List aW)(m:aW):Option ((List aW)×Int×Unit):=W.ae (sC W m) λv1=>W.af (v1 != 0) (some ([],v1,())) (W.ae (pk W l m.1) λv2=>W.af (decide (v2<0)) (some ([],11,())) (W.ae (dY W l) λv3=>W.aI v3 v2 λr=>W.ct v3 (v2.toNat) λj=>some (List.set v3 (v2.toNat) m,0,())))
abbrev TC:=tw aj
def np(d:aK):Option (Int×aK):=W.aH (λ(y:S1)=>some y) λr=>W.af (d.2.2.2.2.2.2.2.2.2.2.2.2.1==1) (W.ae (xV W d.2.1 (d.2.2.2.2.2.2.2.2.2.2.2.2.2.2.1,d.2.2.2.2.2.2.2.2.2.2.2.2.2.2.2.2.2.2.2.2.2.2.2.1,0,0,())) λv3=>(r (v3.2.1,d.1,v3.1,d.2.2))) (W.af (d.2.2.2.2.2.2.2.2.2.2.2.2.1==2) (W.ae (DG W d.2.2.1 (d.2.2.2.2.2.2.2.2.2.2.2.2.2.2.2.2.2.2.2.1,d.2.2.2.2.2.2.2.2.2.2.2.2.2.2.2.2.2.2.2.2.2.2.2.1,d.2.2.2.2.2.2.2.2.2.2.2.2.2.2.2.2.2.2.2.2.2.2.2.2.1,d.2.2.2.2.2.2.2.2.2.2.2.2.2.2.2.2.2.2.2.2.2.2.2.2.1,d.2.2.2.2.2.2.2.2.2.2.2.2.2.2.2.2.2.2.2.2.2.2.2.2.2.1,())) λv4=>(r (v4.2.1,d.1,d.2.1,v4.1,d.2.2.2))) (W.af (d.2.2.2.2.2.2.2.2.2.2.2.2.1==3) (W.ae (AI W d.2.2.2.1 (d.2.2.2.2.2.2.2.2.2.2.2.2.2.2.2.2.2.2.2.2.1,d.2.2.2.2.2.2.2.2.2.2.2.2.2.2.2.2.2.2.2.2.2.2.2.2.1,d.2.2.2.2.2.2.2.2.2.2.2.2.2.2.2.2.2.2.2.2.2.2.2.1,())) λv5=>(r (v5.2.1,U3 d (v5.1,d.2.2.2.2)))) (W.af (d.2.2.2.2.2.2.2.2.2.2.2.2.1==4) (W.ae (jx W d) λv6=>(r v6)) (W.af (d.2.2.2.2.2.2.2.2.2.2.2.2.1==5) (W.ae (oW W d) λC=>(r C)) (W.af (d.2.2.2.2.2.2.2.2.2.2.2.2.1==6) (W.ae (fE W d) λj=>W.af (j.1.2.1 != 0) (some (j.1.2.1,j.2)) (W.ae (tw W j.2.2.1 (j.1.1.1,j.2.2.2.2.2.2.2.2.2.2.2.2.2.2.2.2.2.2.2.2.2.2.2.2.1,j.1.1.2.2)) λv9=>(r (v9.2.1,j.2.1,v9.1,j.2.2.2)))) (r (0,d)))))))
abbrev Ou:=np aj
def jw(d:aK)(u:ar):Option (Int×aK):=W.ae (qU W d.2.2.2.2.1 u) λv1=>W.af (v1==0) (some (11,d)) (some (0,d))
abbrev CF:=jw aj
def iJ(d:aK)(u:ar):Option (aW×aK):=W.gA (W.ae (qU W d.2.2.2.2.1 u) λv1=>W.two (W.ae (im W d.2.1 v1) λv2=>some (v2.1,d))) (W.ae (qU W d.2.2.2.2.1 u) λv4=>W.ae (im W d.2.1 v4) λv5=>some (v5.1,d))
abbrev DQ:=iJ aj
def fT(d:aK)(l:List ar):Option (Int×aK):=W.aZ (λ(r:S1) j=>W.af (decide (r.1<(l.length:Int))) (W.aI l r.1 λy=>W.ae (jw W r.2 y) λv4=>W.af (v4.1 != 0) (some v4) (W.ae (iJ W v4.2 y) λv5=>W.ae (jH W v5.1) λv6=>W.af (v6 != 0) (some (v6,v5.2)) (j (i64.wrap (r.1+1),v5.2)))) (some (0,r.2))) (0,d)
abbrev sJ:=fT aj
def px(l:List bH)(id:Int):Option (bH×Bool×Unit):=W.ae (GX W l id) λv1=>W.af (decide (v1<0)) (some ((0,0,0,0,[],()),false,())) (W.aI l v1 λj=>W.ae (DX W j) λv3=>some (v3,true,()))
abbrev Vs:=px aj
def jj(d:aK)(id:Int):Option ((bH×Int×Unit)×aK):=W.ae (px W d.2.2.1 id) λv1=>W.af (!v1.2.1) (some (((0,0,0,0,[],()),11,()),d)) (some ((v1.1,0,()),d))
abbrev P7:=jj aj
def Ic(l:List ar):Option Bool:=W.aZ (λ(r:ZG) j=>W.af (decide (r.2.1<(l.length:Int))) (W.aI l r.2.1 λy=>W.aH (λ(z4:Bool×Unit)=>W.af z4.1 (some false) (j (y.1,i64.wrap (r.2.1+1),()))) λC=>W.af (decide (y.1<=r.1)) (C (true,())) (W.af (decide (8<y.1)) (C (true,())) (C (y.2.1==0,())))) (some true)) (0,0,())
abbrev auM:=Ic aj
def mc(a b:ar):Option Bool:=W.af (a.1 != b.1) (some (decide (a.1<b.1))) (some (decide (a.2.1<b.2.1)))
abbrev Ob:=mc aj
def pY(l:List bC):Option Bool:=W.aZ (λ(r:Int×Unit) j=>W.af (decide (r.1<(l.length:Int))) (W.aI l r.1 λC=>W.aH (λ(z4:Bool×Unit)=>W.af z4.1 (some false) (j (i64.wrap (r.1+1),()))) λy=>W.af ((C.2.1.length:Int)==0) (W.two (y (true,()))) (W.ae (Ic W C.2.1) λv6=>W.af (!v6) (W.two (y (true,()))) (W.af (decide (0<r.1)) (W.aI l (i64.wrap (r.1-1)) λF=>W.two (W.ae (mc W F.1 C.1) λG=>(y (!G,())))) (W.two (y (false,())))))) (some true)) (0,())
abbrev W7:=pY aj
def qe(l:List aU):Option Bool:=W.aZ (λ(r:Int×Unit) j=>W.af (decide (r.1<(l.length:Int))) (W.aI l r.1 λC=>W.aH (λ(z4:Bool×Unit)=>W.af z4.1 (some false) (j (i64.wrap (r.1+1),()))) λy=>W.af (C.2.1==0) (y (true,())) (W.af (decide (0<r.1)) (W.aI l (i64.wrap (r.1-1)) λF=>W.ae (mc W F.1 C.1) λG=>(y (!G,()))) (y (false,())))) (some true)) (0,())
abbrev KN:=qe aj
def GF(d:tm):Option Bool:=W.ae (pY W d.1) λv1=>W.af v1 (W.ae (qe W d.2.1) λv2=>some v2) (some false)
abbrev aqx:=GF aj
def xM(i:bH)(i6 eT:Int):Option Bool:=W.ae (tD W i) λv1=>W.af (v1==0) (W.af (decide (0<=eT)) (W.af (decide (eT<=2147483647)) (W.af (i6 != 0) (W.af (decide ((-1099511627776)<=i6)) (some (decide (i6<=1099511627776))) (some false)) (some false)) (some false)) (some false)) (some false)
abbrev Te:=xM aj
def oR(n:Int):Option bW:=W.iV 63 (some (Int.fdiv n (2 ^ (min (Int.toNat 63) i64.bits)),u64.wrap n,()))
abbrev afi:=oR aj
def eV(W:Wd)(w:bW):Option Bool:=some (decide (w.1<0))
abbrev pM:=eV aj
def ig(w:bW):Option N8:=W.ae (eV W w) λv1=>W.af (!v1) (some (u64.wrap w.1,w.2)) (W.ae (Gs 0 w.2.1 0) λv2=>W.ae (Gs 0 (u64.wrap w.1) v2.2.1) λv3=>some (v3.1,v2.1,()))
abbrev zM:=ig aj
def j3(j y:Int):Option (Int×Int×Unit):=W.iV 32 (W.iV 32 (W.iV 32 (W.iV 32 (W.iV 32 (some (u64.wrap ((u64.wrap ((u64.wrap ((Int.fdiv j (2 ^ (min (Int.toNat 32) u64.bits)))*(Int.fdiv y (2 ^ (min (Int.toNat 32) u64.bits)))))+(Int.fdiv (u64.wrap ((u64.wrap ((Int.fdiv j (2 ^ (min (Int.toNat 32) u64.bits)))*(Go.bits Go.BinOp.and u64 y 4294967295)))+(Int.fdiv (u64.wrap ((Go.bits Go.BinOp.and u64 j 4294967295)*(Go.bits Go.BinOp.and u64 y 4294967295))) (2 ^ (min (Int.toNat 32) u64.bits))))) (2 ^ (min (Int.toNat 32) u64.bits)))))+(Int.fdiv (u64.wrap ((Go.bits Go.BinOp.and u64 (u64.wrap ((u64.wrap ((Int.fdiv j (2 ^ (min (Int.toNat 32) u64.bits)))*(Go.bits Go.BinOp.and u64 y 4294967295)))+(Int.fdiv (u64.wrap ((Go.bits Go.BinOp.and u64 j 4294967295)*(Go.bits Go.BinOp.and u64 y 4294967295))) (2 ^ (min (Int.toNat 32) u64.bits))))) 4294967295)+(u64.wrap ((Go.bits Go.BinOp.and u64 j 4294967295)*(Int.fdiv y (2 ^ (min (Int.toNat 32) u64.bits))))))) (2 ^ (min (Int.toNat 32) u64.bits)))),u64.wrap (j*y),()))))))
abbrev yz:=j3 aj
def gN(s:N8)(minus:Bool):Option (bW×Bool×Unit):=W.af (!minus) (some ((i64.wrap s.1,s.2),decide (s.1<9223372036854775808),())) (W.ae (Gs 0 s.2.1 0) λv1=>W.ae (Gs 0 s.1 v1.2.1) λv2=>W.af (decide (s.1<9223372036854775808)) (some ((i64.wrap v2.1,v1.1,()),true,())) (W.af (s.1==9223372036854775808) (some ((i64.wrap v2.1,v1.1,()),s.2.1==0,())) (some ((i64.wrap v2.1,v1.1,()),false,()))))
abbrev jg:=gN aj
def oP(a b:Int):Option bW:=W.ae (oR W a) λv1=>W.ae (oR W b) λv2=>W.ae (ig W v1) λv3=>W.ae (ig W v2) λv4=>W.ae (j3 W v3.2.1 v4.2.1) λv5=>W.gA (W.ae (eV W v1) λv6=>W.gA (W.ae (eV W v2) λC=>W.two (W.ae (gN W v5 (cY true (v6==C))) λy=>some y.1)) (W.ae (eV W v2) λv10=>W.ae (gN W v5 (cY true (v6==v10))) λv11=>some v11.1)) (W.ae (eV W v1) λv12=>W.ae (eV W v2) λr=>W.ae (gN W v5 (cY true (v12==r))) λj=>some j.1)
abbrev C0:=oP aj
def pA(w:bW)(ok:Bool):Option (bW×Int×Unit):=W.af (!ok) (some ((0,0,()),7,())) (some (w,0,()))
abbrev abp:=pA aj
def tp(w:bW)(n:Int):Option (bW×Int×Unit):=W.ae (ig W w) λv1=>W.ae (oR W n) λv2=>W.ae (ig W v2) λv3=>W.ae (j3 W v1.1 v3.2.1) λv4=>W.ae (j3 W v1.2.1 v3.2.1) λv5=>W.ae (IM v4.2.1 v5.1 0) λv6=>W.ae (eV W w) λr=>W.ae (gN W (v6.1,v5.2) (cY true (r==(decide (n<0))))) λj=>W.af j.2.1 (W.af (v4.1==0) (W.ae (pA W j.1 (v6.2.1==0)) λv9=>some v9) (W.ae (pA W j.1 false) λv10=>some v10)) (W.ae (pA W j.1 false) λv11=>some v11)
abbrev adJ:=tp aj
def qd(w:bW):Option (Int×Int×Unit):=W.ae (oR W (i64.wrap w.2.1)) λv1=>W.af (cY true ((v1.1==w.1)&&(v1.2.1==w.2.1))) (some (0,7,())) (some (i64.wrap w.2.1,0,()))
abbrev L3:=qd aj
def EP(i:bH)(i6 from_ j:Int):Option (Int×Int×Unit):=W.aH (λ(y:Bool×Unit)=>W.af y.1 (some (0,2,())) (W.ae (oP W (i64.wrap (j-from_)) i.2.1) λv2=>W.ae (tp W v2 i6) λv3=>W.af (v3.2.1 != 0) (some (0,v3.2)) (W.ae (qd W v3.1) λv4=>some v4))) λr=>W.ae (tD W i) λv6=>W.af (v6 != 0) (r (true,())) (W.ae (pz W from_) λF=>W.af (!F) (r (true,())) (W.ae (pz W j) λC=>(r (!C,()))))
abbrev ai1:=EP aj
def wG(l:List ar):Option Bool:=W.ae (Ic W l) λv1=>some (!v1)
abbrev amH:=wG aj
def jJ(t0 t1 t2:Int)(w:bW):Option (Unit×(Int×Int×Int×Unit)):=W.ae (IM t2 w.2.1 0) λv1=>W.ae (IM (u64.wrap t1) (u64.wrap w.1) v1.2.1) λv2=>W.iV 63 (some ((),i64.wrap (t0+(i64.wrap ((Int.fdiv w.1 (2 ^ (min (Int.toNat 63) i64.bits)))+(i64.wrap v2.2.1)))),i64.wrap v2.1,v1.1,()))
abbrev AD:=jJ aj
def lR(t0 t1 t2:Int):Option ((bW×Int×Unit)×(Int×Int×Int×Unit)):=W.iV 63 (W.ae (pA W (t1,t2,()) (t0==(Int.fdiv t1 (2 ^ (min (Int.toNat 63) i64.bits))))) λv1=>some (v1,t0,t1,t2,()))
abbrev P5:=lR aj
def Dz(a b:bW):Option (bW×Int×Unit):=W.ae (jJ W 0 0 0 a) λv1=>W.ae (jJ W v1.2.1 v1.2.2.1 v1.2.2.2.1 (Go.bits Go.BinOp.xor i64 (if true=true then(-1)else(if true=true then((2 ^ (i64.bits-1))-1)else((2 ^ i64.bits)-1))) b.1,Go.bits Go.BinOp.xor u64 (if false=true then(-1)else(if false=true then((2 ^ (u64.bits-1))-1)else((2 ^ u64.bits)-1))) b.2.1,())) λv2=>W.ae (oR W 1) λv3=>W.ae (jJ W v2.2.1 v2.2.2.1 v2.2.2.2.1 v3) λv4=>W.ae (lR W v4.2.1 v4.2.2.1 v4.2.2.2.1) λv5=>some v5.1
abbrev anp:=Dz aj
def pd(w:bW)(e:Int):Option (Int×Int×Unit):=W.af (e != 0) (some (0,e,())) (W.ae (qd W w) λv1=>some v1)
abbrev I6:=pd aj
def xU(a b:Int):Option (Int×Int×Unit):=W.ae (oR W a) λv1=>W.ae (oR W b) λv2=>W.ae (Dz W v1 v2) λv3=>W.ae (pd W v3.1 v3.2.1) λv4=>some v4
abbrev Yu:=xU aj
def sd(l:List ar):Option ((List ar)×Int×Unit):=W.ae (wG W l) λv1=>W.af v1 (some ([],3,())) (W.aZ (λ(z2:S6) j=>W.af (decide (z2.1<(l.length:Int))) (W.aI l z2.1 λr=>W.ae (xU W 0 r.2.1) λv5=>W.af (v5.2.1 != 0) (some ([],v5.2)) (W.bg (z2.2.1.length+((r.1,v5.1,())::[]).length) 16 (j (i64.wrap (z2.1+1),z2.2.1++((r.1,v5.1,())::[]),())))) (some (z2.2.1,0,()))) (0,[],()))
abbrev Xe:=sd aj
def fo(s:List ar):Option (List ar):=W.qq (List.isEmpty s) λg1=>W.af (cY false g1) (some []) (W.bg ((0:Nat)+s.length) 16 (some ([]++s)))
abbrev qu:=fo aj
def vd(l:List bC)(u:ar):Option (List ar):=W.aZ (λ(r:Int×Unit) j=>W.af (decide (r.1<(l.length:Int))) (W.aI l r.1 λy=>W.af (cY false ((y.1.1==u.1)&&(y.1.2.1==u.2.1))) (W.ae (fo W y.2.1) λv4=>some v4) (j (i64.wrap (r.1+1),()))) (some [])) (0,())
abbrev KO:=vd aj
def gw(s:List (List ar)):Option (Int×Unit):=W.aZ (λ(r:Int×Unit) j=>W.af (decide (r.1<(s.length:Int))) (W.aI s r.1 λy=>W.ae (wG W y) λv4=>W.af v4 (some r) (j (i64.wrap (r.1+1),()))) (some (-1,()))) (0,())
abbrev qh:=gw aj
def dp(s:List (List ar)):Option (Bool×Unit):=W.ae (gw W s) λv1=>some (decide (0<=v1.1),())
abbrev o5:=dp aj
def Mr(l:List ar)(inst:Int):Option Int:=W.aZ (λ(r:Int×Unit) j=>W.af (decide (r.1<(l.length:Int))) (W.aI l r.1 λy=>W.af (y.1==inst) (some y.2.1) (j (i64.wrap (r.1+1),()))) (some 0)) (0,())
abbrev agx:=Mr aj
def wQ(l:List bW):Option (bW×Int×Unit):=W.aZ (λ(j:S17) r=>W.af (decide (j.1<(l.length:Int))) (W.aI l j.1 λy=>W.ae (jJ W j.2.1 j.2.2.1 j.2.2.2.1 y) λv4=>(r (i64.wrap (j.1+1),v4.2))) (W.ae (lR W j.2.1 j.2.2.1 j.2.2.2.1) λv5=>some v5.1)) (0,0,0,0,())
abbrev zN:=wQ aj
def jv(l:List Int):Option (Int×Int×Unit):=W.iV (l.length:Int) (W.bg ((l.length:Int).toNat) 16 (W.aZ (λ(r:S6) j=>W.af (decide (r.1<(l.length:Int))) (W.aI l r.1 λy=>W.ae (oR W y) λv4=>W.bg (r.2.1.length+(v4::[]).length) 16 (j (i64.wrap (r.1+1),r.2.1++(v4::[]),()))) (W.ae (wQ W r.2.1) λv5=>W.ae (pd W v5.1 v5.2.1) λv6=>some v6)) (0,[],())))
abbrev Hr:=jv aj
def Ar(l:List (List ar)):Option ((List ar)×Int×Unit):=W.ae (dp W l) λv1=>W.af v1.1 (some ([],3,())) (W.aZ (λ(z2:S6) y=>W.af (decide (z2.1<=8)) (W.aH (λ(z4:List ar×Unit)=>(y (i64.wrap (z2.1+1),z4))) λC=>W.aZ (λ(j:S19) r=>W.af (decide (j.1<(l.length:Int))) (W.aI l j.1 λF=>W.ae (Mr W F z2.1) λv9=>W.bg (j.2.2.1.length+(v9::[]).length) 8 (r (i64.wrap (j.1+1),j.2.1,j.2.2.1++(v9::[]),()))) (W.ae (jv W j.2.2.1) λv10=>W.af (v10.2.1 != 0) (some ([],v10.2)) (W.af (v10.1 != 0) (W.bg (j.2.1.length+((z2.1,v10.1,())::[]).length) 16 (C (j.2.1++((z2.1,v10.1,())::[]),()))) (C (j.2.1,()))))) (0,z2.2.1,[],())) (some (z2.2.1,0,()))) (1,[],()))
abbrev agv:=Ar aj
def GZ(l:List bC)(u:ar):Option (Int×Bool×Unit):=W.aZ (λ(r:Int×Unit) j=>W.af (decide (r.1<(l.length:Int))) (W.aI l r.1 λy=>W.ae (mc W y.1 u) λv4=>W.af (!v4) (some (r.1,cY false ((y.1.1==u.1)&&(y.1.2.1==u.2.1)),())) (j (i64.wrap (r.1+1),()))) (some ((l.length:Int),false,()))) (0,())
abbrev adF:=GZ aj
def zc(l:List bC):Option (List bC):=W.aZ (λ(r:S25) j=>W.af (decide (r.1<(l.length:Int))) (W.aI l r.1 λy=>W.ae (fo W y.2.1) λv4=>W.bg (r.2.1.length+((y.1,v4,())::[]).length) 40 (j (i64.wrap (r.1+1),r.2.1++((y.1,v4,())::[]),()))) (some r.2.1)) (0,[],())
abbrev aaD:=zc aj
def nf(l:List bC)(u:ar)(j:List ar):Option ((List bC)×Int×Unit):=W.ae (pY W l) λv1=>W.af (!v1) (some ([],3,())) (W.ae (vd W l u) λv2=>W.ae (Ar W (v2::(j::[]))) λv3=>W.af (v3.2.1 != 0) (some ([],v3.2)) (W.ae (GZ W l u) λv4=>W.ae (zc W l) λv5=>W.aH (λ(y:List ar×List bC×Unit)=>W.aH (λ(F:List bC×Unit)=>some (F.1,0,())) λC=>W.af (decide (0<(y.1.length:Int))) (W.ae (HG y.2.1 v4.1 ((u,y.1,())::[])) λv9=>(C v9)) (C y.2)) λr=>W.af v4.2.1 (W.ae (HF v5 v4.1 (i64.wrap (v4.1+1))) λv11=>(r (v3.1,v11))) (r (v3.1,v5,()))))
abbrev wc:=nf aj
def qO(l:List bC)(from_ r:ar)(j:List ar):Option ((List bC)×Int×Unit):=W.ae (pY W l) λv1=>W.af (!v1) (some ([],3,())) (W.ae (sd W j) λv2=>W.af (v2.2.1 != 0) (some ([],v2.2)) (W.ae (nf W l from_ v2.1) λv3=>W.af (v3.2.1 != 0) (some ([],v3.2)) (W.ae (nf W v3.1 r j) λv4=>some v4)))
abbrev HX:=qO aj
def fK(j:List (List aU)):Option (List aU):=W.aZ (λ(C:ZG) y=>W.af (decide (C.2.1<(j.length:Int))) (W.aI j C.2.1 λG=>W.af (decide ((i64.wrap (C.1+(G.length:Int)))<0)) (none) (y (i64.wrap (C.1+(G.length:Int)),i64.wrap (C.2.1+1),()))) (W.ae (OX [] C.1) λv4=>W.aZ (λ(z5:S20) r=>W.af (decide (z5.1<(j.length:Int))) (W.aI j z5.1 λF=>W.bg (z5.2.1.length+F.length) 24 (r (i64.wrap (z5.1+1),z5.2.1++F,()))) (some z5.2.1)) (0,v4))) (0,0,())
abbrev oQ:=fK aj
def zd(l:List aU):Option (List ar):=W.aZ (λ(C:S6) r=>W.af (decide (C.1<(l.length:Int))) (W.aI l C.1 λJ=>(r (i64.wrap (C.1+1),Go.Vc.PV C.2.1 J.1,()))) (W.aZ (λ(z4:(List ar×List ar×Unit)×List ar×Unit) j=>W.aH (λ(y:Bool×(List ar×List ar×Unit)×List ar×Unit)=>W.af y.1 (W.aI y.2.1.2.1 ((y.2.1.2.1.length:Int)-1) λG=>W.bg (y.2.2.1.length+(G::[]).length) 16 (j (y.2.1,y.2.2.1++(G::[]),()))) (W.ae (Ag y.2.2.1) λK=>some K)) λH=>W.Ly (Go.Vc.O5 z4.1.1 z4.1.2.1) (λF=>(H (true,(z4.1.1,z4.1.2.1++(F::[]),()),z4.2))) (H (false,z4))) ((C.2.1,[],()),[],()))) (0,[],())
abbrev abr:=zd aj
def AS(l:List aU)(u:ar):Option (List Int):=W.aZ (λ(r:S10) j=>W.af (decide (r.1<(l.length:Int))) (W.aH (λ(z3:S23)=>(j (i64.wrap (r.1+1),z3))) λC=>W.aI l r.1 λy=>W.af (cY false ((y.1.1==u.1)&&(y.1.2.1==u.2.1))) (W.bg (r.2.1.length+(y.2.1::[]).length) 8 (C (r.2.1++(y.2.1::[]),()))) (C r.2)) (some r.2.1)) (0,[],())
abbrev UD:=AS aj
def qQ(l r:List aU):Option ((List aU)×Int×Unit):=W.ae (qe W l) λv1=>W.af (!v1) (some ([],3,())) (W.ae (fK W (l::(r::[]))) λv2=>W.ae (zd W v2) λv3=>W.aZ (λ(z4:Int×List aU×List ar×List aU×Unit) j=>W.af (decide (z4.1<(v3.length:Int))) (W.aH (λ(F:List aU×List ar×List aU×Unit)=>(j (i64.wrap (z4.1+1),F))) λC=>W.aI z4.2.2.1 z4.1 λG=>W.ct z4.2.2.1 (z4.1.toNat) λy=>W.ae (AS W z4.2.1 y) λv10=>W.ae (jv W v10) λv11=>W.af (v11.2.1 != 0) (some ([],v11.2)) (W.af (v11.1 != 0) (W.bg (z4.2.2.2.1.length+((y,v11.1,())::[]).length) 24 (C (z4.2.1,z4.2.2.1,z4.2.2.2.1++((y,v11.1,())::[]),()))) (C z4.2))) (some (z4.2.2.2.1,0,()))) (0,v2,v3,[],()))
abbrev zB:=qQ aj
def lJ(l:List aU)(from_ r:ar)(j:Int):Option ((List aU)×Int×Unit):=W.ae (xU W 0 j) λv1=>W.aH (λ(z2:Bool×Unit)=>W.af z2.1 (some ([],v1.2)) (W.ae (qQ W l ((from_,v1.1,())::((r,j,())::[]))) λv3=>some v3)) λy=>W.af (v1.2.1 != 0) (W.ae (qe W l) λv5=>(y (v5,()))) (y (false,()))
abbrev qE:=lJ aj
def GG(d:tm)(i:bH)(from_ j:ar)(i6 eT:Int):Option (tm×Int×Unit):=W.ae (GF W d) λv1=>W.af (!v1) (some (([],[],()),3,())) (W.ae (xM W i i6 eT) λv2=>W.af (!v2) (some (([],[],()),2,())) (W.af (cY false ((from_.1==j.1)&&(from_.2.1==j.2.1))) (some (([],[],()),24,())) (W.ae (EP W i i6 eT i.2.2.1) λv3=>W.af (v3.2.1 != 0) (some (([],[],()),v3.2)) (W.ae (qO W d.1 from_ j ((i.1,i6,())::[])) λv4=>W.af (v4.2.1 != 0) (some (([],[],()),v4.2)) (W.ae (lJ W d.2.1 from_ j v3.1) λv5=>W.af (v5.2.1 != 0) (some (([],[],()),v5.2)) (some ((v4.1,v5.1,()),0,())))))))
abbrev agz:=GG aj
def oU(d:aK)(from_ j r:ar)(eT:Int):Option (Int×aK):=W.ae (jj W d r.1) λv1=>W.af (v1.1.2.1 != 0) (some (v1.1.2.1,v1.2)) (W.two (W.ae (GG W (v1.2.2.2.2.2.2.2.2.2.1,v1.2.2.2.2.2.2.2.2.2.2.2.1,()) v1.1.1 from_ j r.2.1 eT) λv2=>W.aH (λ(z3:S0)=>some (v2.2.1,z3)) λy=>W.af (v2.2.1==0) (y (U8 v1.2 (v2.1.1,v1.2.2.2.2.2.2.2.2.2.2.1,v2.1.2.1,v1.2.2.2.2.2.2.2.2.2.2.2.2))) (y v1.2)))
abbrev IS:=oU aj
def vZ(W:Wd)(j:Int)(a:az):Option (Bool×(Int×Unit)):=some (a.2.1 != j,j,())
abbrev ahd:=vZ aj
def e7(y:Int)(s:List az):Option (Int×(Int×Unit)):=W.aZ (λ(r:ZG) j=>W.af (decide (r.1<(s.length:Int))) (W.aI s r.1 λC=>W.ae (vZ W r.2.1 C) λv4=>W.af v4.1 (some (r.1,v4.2)) (j (i64.wrap (r.1+1),v4.2))) (some (-1,r.2))) (0,y,())
abbrev ij:=e7 aj
def cU(r:Int)(s:List az):Option ((List az)×(Int×Unit)):=W.ae (e7 W r s) λv1=>W.af (v1.1==(-1)) (some (s,v1.2)) (W.aZ (λ(z2:Int×Int×Int×List az×Unit) y=>W.af (decide (z2.2.1<(z2.2.2.2.1.length:Int))) (W.aH (λ(z4:Int×Int×List az×Unit)=>(y (z4.1,i64.wrap (z2.2.1+1),z4.2))) λJ=>W.aI z2.2.2.2.1 z2.2.1 λV=>W.ct z2.2.2.2.1 (z2.2.1.toNat) λH=>W.ae (vZ W z2.2.2.1 H) λC=>W.af (!C.1) (W.aI z2.2.2.2.1 z2.1 λR=>W.ct z2.2.2.2.1 (z2.1.toNat) λK=>(J (i64.wrap (z2.1+1),C.2.1,List.set z2.2.2.2.1 (z2.1.toNat) H,()))) (J (z2.1,C.2.1,z2.2.2.2))) (W.gW z2.1 z2.2.2.2.1.length λG=>W.gW (G:Int) z2.2.2.2.1.length λj=>W.gW z2.1 ((z2.2.2.2.1.take j)++(List.replicate (z2.2.2.2.1.length-j) (0,0,0,[],()))).length λF=>some (((z2.2.2.2.1.take j)++(List.replicate (z2.2.2.2.1.length-j) (0,0,0,[],()))).take F,z2.2.2.1,()))) (v1.1,i64.wrap (v1.1+1),v1.2.1,s,()))
abbrev l5:=cU aj
def tV(l:List az)(j:Int):Option (List az):=W.ae (rm W l) λv1=>W.ae (cU W j v1) λv2=>some v2.1
abbrev W6:=tV aj
def xO(s:aV)(id:Int):Option (List ar):=W.ae (tV W s.2.2.2.2.1 id) λv1=>W.aZ (λ(z2:Int×List az×List ar×Unit) j=>W.af (decide (z2.1<(v1.length:Int))) (W.aI z2.2.1 z2.1 λy=>W.ct z2.2.1 (z2.1.toNat) λr=>W.ae (ji W r) λv6=>W.bg (z2.2.2.1.length+v6.length) 16 (j (i64.wrap (z2.1+1),z2.2.1,z2.2.2.1++v6,()))) (some z2.2.2.1)) (0,v1,[],())
abbrev adN:=xO aj
def ui(a:Int):Option (Int×Int×Unit):=W.af (decide (a<0)) (W.ae (xU W 0 a) λv1=>some v1) (some (a,0,()))
abbrev K2:=ui aj
def Aw(l:List ar):Option (Int×Int×Unit):=W.ae (wG W l) λv1=>W.af v1 (some (0,3,())) (W.aZ (λ(z2:S10) j=>W.af (decide (z2.1<(l.length:Int))) (W.aI l z2.1 λr=>W.ae (ui W r.2.1) λv5=>W.af (v5.2.1 != 0) (some (0,v5.2)) (W.bg (z2.2.1.length+(v5.1::[]).length) 8 (j (i64.wrap (z2.1+1),z2.2.1++(v5.1::[]),())))) (W.ae (jv W z2.2.1) λv6=>some v6)) (0,[],()))
abbrev aiB:=Aw aj
def wH(l:List bC)(j:List ar):Option (Int×Int×Unit):=W.ae (pY W l) λv1=>W.af (!v1) (some (0,3,())) (W.aZ (λ(z2:S10) r=>W.af (decide (z2.1<(j.length:Int))) (W.aI j z2.1 λy=>W.ae (vd W l y) λv5=>W.ae (Aw W v5) λv6=>W.af (v6.2.1 != 0) (some (0,v6.2)) (W.bg (z2.2.1.length+(v6.1::[]).length) 8 (r (i64.wrap (z2.1+1),z2.2.1++(v6.1::[]),())))) (W.ae (jv W z2.2.1) λC=>some C)) (0,[],()))
abbrev N':=wH aj
def sZ(s:aV)(id:Int):Option (Int×Int×Unit):=W.ae (xO W s id) λv1=>W.ae (wH W s.2.2.2.2.2.2.2.2.1 v1) λv2=>some v2
abbrev Ws:=sZ aj
def mT(d:aK)(l:List ar):Option (Int×aK):=W.aZ (λ(r:S1) j=>W.af (decide (r.1<(l.length:Int))) (W.aI l r.1 λy=>W.ae (iJ W r.2 y) λv4=>W.ae (sZ W (xc v4.2 ()) v4.1.1) λv5=>W.af (v5.2.1 != 0) (some (v5.2.1,v4.2)) (W.af (decide (v4.1.2.1<v5.1)) (some (16,v4.2)) (j (i64.wrap (r.1+1),v4.2)))) (some (0,r.2))) (0,d)
abbrev GQ:=mT aj
def oV(d:aK):Option (Int×aK):=W.ae (fT W d ((d.2.2.2.2.2.2.2.2.2.2.2.2.2.2.2.1,d.2.2.2.2.2.2.2.2.2.2.2.2.2.2.2.2.1,())::((d.2.2.2.2.2.2.2.2.2.2.2.2.2.2.2.2.2.1,d.2.2.2.2.2.2.2.2.2.2.2.2.2.2.2.2.2.2.1,())::[]))) λv1=>W.af (v1.1 != 0) (some v1) (W.ae (jj W v1.2 v1.2.2.2.2.2.2.2.2.2.2.2.2.2.2.2.2.2.2.2.2.1) λv2=>W.af (v2.1.2.1 != 0) (some (v2.1.2.1,v2.2)) (W.af (decide (v2.2.2.2.2.2.2.2.2.2.2.2.2.2.2.2.2.2.2.2.2.2.2.2.2.1<1)) (some (2,v2.2)) (W.ae (oU W v2.2 (v2.2.2.2.2.2.2.2.2.2.2.2.2.2.2.2.2.2.2.1,v2.2.2.2.2.2.2.2.2.2.2.2.2.2.2.2.2.2.2.2.1,()) (v2.2.2.2.2.2.2.2.2.2.2.2.2.2.2.2.2.1,v2.2.2.2.2.2.2.2.2.2.2.2.2.2.2.2.2.2.1,()) (v2.2.2.2.2.2.2.2.2.2.2.2.2.2.2.2.2.2.2.2.2.1,v2.2.2.2.2.2.2.2.2.2.2.2.2.2.2.2.2.2.2.2.2.2.2.2.2.1,()) v2.2.2.2.2.2.2.2.2.2.2.2.2.2.2.2.2.2.2.2.2.2.2.2.2.2.1) λv3=>W.af (v3.1 != 0) (some v3) (W.ae (mT W v3.2 ((v3.2.2.2.2.2.2.2.2.2.2.2.2.2.2.2.2.1,v3.2.2.2.2.2.2.2.2.2.2.2.2.2.2.2.2.2.1,())::((v3.2.2.2.2.2.2.2.2.2.2.2.2.2.2.2.2.2.2.1,v3.2.2.2.2.2.2.2.2.2.2.2.2.2.2.2.2.2.2.2.1,())::[]))) λv4=>some v4))))
abbrev P9:=oV aj
def DI(l:List cj)(g:cj)(day:Int):Option ((List cj)×Int×Int×Unit):=W.af (cY false ((g.2.1.1==g.2.2.1.1)&&(g.2.1.2.1==g.2.2.1.2.1))) (some ([],0,24,())) (W.aH (λ(y:Bool×Unit)=>W.af y.1 (some ([],0,2,())) (W.af (decide (64<=(l.length:Int))) (some ([],0,25,())) (W.aH (λ(z2:Int×Unit)=>W.af (((l.length:Int)==(l.length:Int))&&((l.length:Int)==(l.length:Int))) (W.bg (l.length+((z2.1,U5 g.2 (i64.wrap (day+8),1,()))::[]).length) 88 (some (l++((z2.1,U5 g.2 (i64.wrap (day+8),1,()))::[]),z2.1,0,()))) (none)) λr=>W.af (decide (0<(l.length:Int))) (W.aI l (i64.wrap ((l.length:Int)-1)) λC=>(r (i64.wrap (1+C.1),()))) (r (1,()))))) λj=>W.af (g.2.2.2.1.2.1==0) (j (true,())) (W.af (decide (day<0)) (j (true,())) (j (decide (1048576<day),()))))
abbrev anT:=DI aj
def lT(d:aK)(g:cj):Option (Int×aK):=W.ae (DI W d.2.2.2.2.2.2.2.1 g d.1) λv1=>W.aH (λ(z2:S0)=>some (v1.2.2.1,z2)) λj=>W.af (v1.2.2.1==0) (j (U7 d (v1.1,U19 d.2.2.2.2.2.2.2.2 (v1.2.1::[],d.2.2.2.2.2.2.2.2.2.2.2.2.2.2.2.2.2.2.2.2.2.2.2.2.2.2.2.2)))) (j d)
abbrev yC:=lT aj
def mg(d:aK):Option (Int×aK):=W.ae (fT W d ((d.2.2.2.2.2.2.2.2.2.2.2.2.2.2.2.1,d.2.2.2.2.2.2.2.2.2.2.2.2.2.2.2.2.1,())::((d.2.2.2.2.2.2.2.2.2.2.2.2.2.2.2.2.2.1,d.2.2.2.2.2.2.2.2.2.2.2.2.2.2.2.2.2.2.1,())::[]))) λv1=>W.af (v1.1 != 0) (some v1) (W.ae (jj W v1.2 v1.2.2.2.2.2.2.2.2.2.2.2.2.2.2.2.2.2.2.2.2.1) λv2=>W.af (v2.1.2.1 != 0) (some (v2.1.2.1,v2.2)) (W.aH (λ(z3:Bool×Unit)=>W.af z3.1 (some (2,v2.2)) (W.ae (lT W v2.2 (0,(v2.2.2.2.2.2.2.2.2.2.2.2.2.2.2.2.2.1,v2.2.2.2.2.2.2.2.2.2.2.2.2.2.2.2.2.2.1,()),(v2.2.2.2.2.2.2.2.2.2.2.2.2.2.2.2.2.2.2.1,v2.2.2.2.2.2.2.2.2.2.2.2.2.2.2.2.2.2.2.2.1,()),(v2.2.2.2.2.2.2.2.2.2.2.2.2.2.2.2.2.2.2.2.2.1,v2.2.2.2.2.2.2.2.2.2.2.2.2.2.2.2.2.2.2.2.2.2.2.2.2.1,()),v2.2.2.2.2.2.2.2.2.2.2.2.2.2.2.2.2.2.2.2.2.2.2.2.2.2.1,0,0,0,())) λv4=>some v4)) λj=>W.af (decide (v2.2.2.2.2.2.2.2.2.2.2.2.2.2.2.2.2.2.2.2.2.2.2.2.2.1<(-1099511627776))) (j (true,())) (W.af (decide (1099511627776<v2.2.2.2.2.2.2.2.2.2.2.2.2.2.2.2.2.2.2.2.2.2.2.2.2.1)) (j (true,())) (W.af (decide (v2.2.2.2.2.2.2.2.2.2.2.2.2.2.2.2.2.2.2.2.2.2.2.2.2.2.1<0)) (j (true,())) (j (decide (2147483647<v2.2.2.2.2.2.2.2.2.2.2.2.2.2.2.2.2.2.2.2.2.2.2.2.2.2.1),()))))))
abbrev Ml:=mg aj
def fS(s:List cj):Option (List cj):=W.qq (List.isEmpty s) λg1=>W.af (cY false g1) (some []) (W.bg ((0:Nat)+s.length) 88 (some ([]++s)))
abbrev xW:=fS aj
def wM(l:List cj)(id state:Int):Option ((List cj)×Int×Unit):=W.ae (DH W l id) λv1=>W.af (decide (v1<0)) (some ([],11,())) (W.aH (λ(z2:Bool×Unit)=>W.af z2.1 (some ([],2,())) (W.aI l v1 λy=>W.af (y.2.2.2.2.2.2.2.1 != 1) (some ([],13,())) (W.ae (fS W l) λv4=>W.aI v4 v1 λC=>W.ct v4 (v1.toNat) λr=>some (List.set v4 (v1.toNat) (U7 r (state,())),0,())))) λj=>W.af (decide (state<2)) (j (true,())) (j (decide (5<state),())))
abbrev aiS:=wM aj
def mh(d:aK):Option (Int×aK):=W.two (W.ae (s5 W d.2.2.2.2.2.2.2.1 d.2.2.2.2.2.2.2.2.2.2.2.2.2.2.2.2.2.2.2.2.2.2.1) λv1=>W.af (!v1.2.1) (some (11,d)) (W.ae (fT W d (v1.1.2.1::(v1.1.2.2.1::[]))) λv2=>W.af (v2.1 != 0) (some v2) (W.ae (wM W v2.2.2.2.2.2.2.2.2.1 v1.1.1 2) λv3=>W.af (v3.2.1 != 0) (some (v3.2.1,v2.2)) (W.ae (oU W (U7 v2.2 (v3.1,v2.2.2.2.2.2.2.2.2.2)) v1.1.2.1 v1.1.2.2.1 v1.1.2.2.2.1 v1.1.2.2.2.2.1) λv4=>W.af (v4.1 != 0) (some v4) (W.ae (mT W v4.2 (v1.1.2.1::(v1.1.2.2.1::[]))) λv5=>some v5)))))
abbrev Mm:=mh aj
def n3(i6:Int):Option Bool:=W.af (decide ((-1099511627776)<=i6)) (some (decide (i6<=1099511627776))) (some false)
abbrev YH:=n3 aj
def eJ(s:List bR):Option (List bR):=W.qq (List.isEmpty s) λg1=>W.af (cY false g1) (some []) (W.bg ((0:Nat)+s.length) 48 (some ([]++s)))
abbrev og:=eJ aj
def tA(l:List bR)(i i6:Int):Option (List bR):=W.ae (eJ W l) λv1=>W.aI v1 i λr=>W.ct v1 (i.toNat) λj=>some (List.set v1 (i.toNat) (U4 j (i6,())))
abbrev aeo:=tA aj
def xX(l:List bR)(id i6:Int):Option ((List bR)×Int×Unit):=W.ae (wN W l id) λv1=>W.af (decide (v1<0)) (some ([],11,())) (W.aI l v1 λr=>W.ae (jv W (r.2.2.2.2.1::(i6::[]))) λv3=>W.aH (λ(z4:Bool×Unit)=>W.af z4.1 (some ([],7,())) (W.ae (tA W l v1 v3.1) λv5=>some (v5,0,()))) λj=>W.af (v3.2.1 != 0) (j (true,())) (W.ae (n3 W v3.1) λy=>(j (!y,()))))
abbrev aep:=xX aj
def kN(d:aK)(id state:Int):Option (Int×aK):=W.ae (wM W d.2.2.2.2.2.2.2.1 id state) λv1=>W.af (v1.2.1 != 0) (some (v1.2.1,d)) (W.ae (s5 W v1.1 id) λv2=>W.af (v2.1.2.2.2.2.2.1==0) (some (0,U7 d (v1.1,d.2.2.2.2.2.2.2.2))) (W.ae (xX W d.2.2.2.2.2.2.1 v2.1.2.2.2.2.2.1 v2.1.2.2.2.1.2.1) λv3=>W.aH (λ(z4:Int×List aW×List bH×List bh×List az×List bA×List bR×List bC×List bC×List aU×List bj×Int×Int×Int×Int×Int×Int×Int×Int×Int×Int×Int×Int×Int×List (Int)×Int×List (Int)×List fH×List fI×List cj×Unit)=>some (v3.2.1,U7 z4 (z4.2.2.2.2.2.2.2.2.2.2.2.2.2.2.2.2.2.2.2.2.2.2.2.2.2.2.2.2.2.1,U22 z4.2.2.2.2.2.2.2 ()))) λj=>W.af (v3.2.1==0) (j (U6 d (v3.1,U22 d.2.2.2.2.2.2.2.2 (v1.1,())))) (j (U7 d (U22 d.2.2.2.2.2.2.2.2 (v1.1,()))))))
abbrev GR:=kN aj
def ze(l:List Int):Option (List ar):=W.aZ (λ(r:S6) j=>W.af (decide ((i64.wrap (r.1+1))<(l.length:Int))) (W.aI l r.1 λC=>W.aI l (i64.wrap (r.1+1)) λy=>W.bg (r.2.1.length+((C,y,())::[]).length) 16 (j (i64.wrap (r.1+2),r.2.1++((C,y,())::[]),()))) (W.pV 2 (W.af ((Int.tmod (l.length:Int) 2) != 0) (some []) (some r.2.1)))) (0,[],())
abbrev abA:=ze aj
def uY(f:ar):Option Bool:=W.af (decide (f.2.1<0)) (some true) (W.af (decide (2147483647<f.2.1)) (some true) (W.af (f.1==0) (some true) (W.ae (n3 W f.1) λv1=>some (!v1))))
abbrev abB:=uY aj
def ek(s:List ar):Option (Int×Unit):=W.aZ (λ(r:Int×Unit) j=>W.af (decide (r.1<(s.length:Int))) (W.aI s r.1 λy=>W.ae (uY W y) λv4=>W.af v4 (some r) (j (i64.wrap (r.1+1),()))) (some (-1,()))) (0,())
abbrev ou:=ek aj
def c7(s:List ar):Option (Bool×Unit):=W.ae (ek W s) λv1=>some (decide (0<=v1.1),())
abbrev mP:=c7 aj
def G0(l:List ar):Option (Int×bW×Int×Unit):=W.aH (λ(F:Bool×Unit)=>W.af F.1 (some (0,(0,0,()),2,())) (W.aZ (λ(z2:Int×Int×List ar×Unit) j=>W.af (decide (z2.2.1<(l.length:Int))) (W.aI l z2.2.1 λr=>W.aI l 0 λG=>W.af (cY true ((decide (r.1<0))==(decide (G.1<0)))) (some (0,(0,0,()),2,())) (W.ae (ui W r.1) λv6=>W.ae (oP W v6.1 r.2.1) λC=>W.bg (z2.2.2.1.length+(C::[]).length) 16 (j (i64.wrap (z2.1+v6.1),i64.wrap (z2.2.1+1),z2.2.2.1++(C::[]),())))) (W.af (decide (1099511627776<z2.1)) (some (0,(0,0,()),25,())) (W.ae (wQ W z2.2.2.1) λH=>some (z2.1,H.1,0,())))) (0,0,[],()))) λy=>W.af (decide ((l.length:Int)<1)) (y (true,())) (W.af (decide (16<(l.length:Int))) (y (true,())) (W.ae (c7 W l) λv10=>(y v10)))
abbrev aes:=G0 aj
def q8(r:Int):Option Int:=W.aH (λ(j:ZG)=>W.aH (λ(z2:ZG)=>W.aH (λ(z3:ZG)=>W.KV (ByteArray.mk (Array.mk (0::(1::(2::(2::(3::(3::(3::(3::(4::(4::(4::(4::(4::(4::(4::(4::(5::(5::(5::(5::(5::(5::(5::(5::(5::(5::(5::(5::(5::(5::(5::(5::(6::(6::(6::(6::(6::(6::(6::(6::(6::(6::(6::(6::(6::(6::(6::(6::(6::(6::(6::(6::(6::(6::(6::(6::(6::(6::(6::(6::(6::(6::(6::(6::(7::(7::(7::(7::(7::(7::(7::(7::(7::(7::(7::(7::(7::(7::(7::(7::(7::(7::(7::(7::(7::(7::(7::(7::(7::(7::(7::(7::(7::(7::(7::(7::(7::(7::(7::(7::(7::(7::(7::(7::(7::(7::(7::(7::(7::(7::(7::(7::(7::(7::(7::(7::(7::(7::(7::(7::(7::(7::(7::(7::(7::(7::(7::(7::(8::(8::(8::(8::(8::(8::(8::(8::(8::(8::(8::(8::(8::(8::(8::(8::(8::(8::(8::(8::(8::(8::(8::(8::(8::(8::(8::(8::(8::(8::(8::(8::(8::(8::(8::(8::(8::(8::(8::(8::(8::(8::(8::(8::(8::(8::(8::(8::(8::(8::(8::(8::(8::(8::(8::(8::(8::(8::(8::(8::(8::(8::(8::(8::(8::(8::(8::(8::(8::(8::(8::(8::(8::(8::(8::(8::(8::(8::(8::(8::(8::(8::(8::(8::(8::(8::(8::(8::(8::(8::(8::(8::(8::(8::(8::(8::(8::(8::(8::(8::(8::(8::(8::(8::(8::(8::(8::(8::(8::(8::(8::(8::(8::(8::(8::(8::(8::(8::(8::(8::(8::(8::(8::(8::(8::(8::(8::(8::[])))))))))))))))))))))))))))))))))))))))))))))))))))))))))))))))))))))))))))))))))))))))))))))))))))))))))))))))))))))))))))))))))))))))))))))))))))))))))))))))))))))))))))))))))))))))))))))))))))))))))))))))))))))))))))))))))))))))))))))))))))))))))))))))))) (IntKind.u8.wrap z3.1) λG=>some (i64.wrap (z3.2.1+(i64.wrap G)))) λF=>W.af (decide (256<=z2.1)) (W.iV 8 (F (Int.fdiv z2.1 (2 ^ (min (Int.toNat 8) u64.bits)),i64.wrap (z2.2.1+8),()))) (F z2)) λC=>W.af (decide (65536<=j.1)) (W.iV 16 (C (Int.fdiv j.1 (2 ^ (min (Int.toNat 16) u64.bits)),i64.wrap (j.2.1+16),()))) (C j)) λy=>W.af (decide (4294967296<=r)) (W.iV 32 (y (Int.fdiv r (2 ^ (min (Int.toNat 32) u64.bits)),32,()))) (y (r,0,()))
abbrev PG:=q8 aj
def iC(j:Int):Option Int:=W.ae (q8 W j) λv1=>some (i64.wrap (64-v1))
abbrev Ch:=iC aj
def jW(hi lo y:Int):Option (Int×Int×Unit):=W.af (y==0) (none) (W.af (decide (y<=hi)) (none) (W.af (hi==0) (W.pV y (W.pV y (some (u64.wrap (Int.tdiv lo y),Int.tmod lo y,())))) (W.ae (iC W y) λv1=>W.iV (u64.wrap v1) (W.iV 32 (W.iV (u64.wrap v1) (W.iV (u64.wrap (64-(u64.wrap v1))) (W.iV (u64.wrap v1) (W.iV 32 (W.pV (Int.fdiv (u64.wrap (y*(2 ^ (min ((u64.wrap v1).toNat) u64.bits)))) (2 ^ (min (Int.toNat 32) u64.bits))) (W.aH (λ(z2:Int×Unit)=>W.pV (Int.fdiv (u64.wrap (y*(2 ^ (min ((u64.wrap v1).toNat) u64.bits)))) (2 ^ (min (Int.toNat 32) u64.bits))) (W.aH (λ(z3:Int×Unit)=>W.iV (u64.wrap v1) (some (u64.wrap ((u64.wrap (z2.1*4294967296))+z3.1),Int.fdiv (u64.wrap ((u64.wrap ((u64.wrap ((u64.wrap ((u64.wrap ((u64.wrap ((Go.bits Go.BinOp.or u64 (u64.wrap (hi*(2 ^ (min ((u64.wrap v1).toNat) u64.bits)))) (Int.fdiv lo (2 ^ (min ((u64.wrap (64-(u64.wrap v1))).toNat) u64.bits))))*4294967296))+(Int.fdiv (u64.wrap (lo*(2 ^ (min ((u64.wrap v1).toNat) u64.bits)))) (2 ^ (min (Int.toNat 32) u64.bits)))))-(u64.wrap (z2.1*(u64.wrap (y*(2 ^ (min ((u64.wrap v1).toNat) u64.bits))))))))*4294967296))+(Go.bits Go.BinOp.and u64 (u64.wrap (lo*(2 ^ (min ((u64.wrap v1).toNat) u64.bits)))) 4294967295)))-(u64.wrap (z3.1*(u64.wrap (y*(2 ^ (min ((u64.wrap v1).toNat) u64.bits)))))))) (2 ^ (min ((u64.wrap v1).toNat) u64.bits)),()))) λJ=>W.aZ (λ(z5:ZG) C=>W.aH (λ(K:Unit)=>W.af (decide (4294967296<=(u64.wrap (z5.1+(Int.fdiv (u64.wrap (y*(2 ^ (min ((u64.wrap v1).toNat) u64.bits)))) (2 ^ (min (Int.toNat 32) u64.bits))))))) (J (u64.wrap (z5.2.1-1),())) (C (u64.wrap (z5.1+(Int.fdiv (u64.wrap (y*(2 ^ (min ((u64.wrap v1).toNat) u64.bits)))) (2 ^ (min (Int.toNat 32) u64.bits)))),u64.wrap (z5.2.1-1),()))) λH=>W.af (decide (4294967296<=z5.2.1)) (H ()) (W.af (decide ((u64.wrap ((u64.wrap (4294967296*z5.1))+(Go.bits Go.BinOp.and u64 (u64.wrap (lo*(2 ^ (min ((u64.wrap v1).toNat) u64.bits)))) 4294967295)))<(u64.wrap (z5.2.1*(Go.bits Go.BinOp.and u64 (u64.wrap (y*(2 ^ (min ((u64.wrap v1).toNat) u64.bits)))) 4294967295))))) (H ()) (J z5.2))) (u64.wrap ((u64.wrap ((u64.wrap ((u64.wrap ((Go.bits Go.BinOp.or u64 (u64.wrap (hi*(2 ^ (min ((u64.wrap v1).toNat) u64.bits)))) (Int.fdiv lo (2 ^ (min ((u64.wrap (64-(u64.wrap v1))).toNat) u64.bits))))*4294967296))+(Int.fdiv (u64.wrap (lo*(2 ^ (min ((u64.wrap v1).toNat) u64.bits)))) (2 ^ (min (Int.toNat 32) u64.bits)))))-(u64.wrap (z2.1*(u64.wrap (y*(2 ^ (min ((u64.wrap v1).toNat) u64.bits))))))))-(u64.wrap ((u64.wrap (Int.tdiv (u64.wrap ((u64.wrap ((u64.wrap ((Go.bits Go.BinOp.or u64 (u64.wrap (hi*(2 ^ (min ((u64.wrap v1).toNat) u64.bits)))) (Int.fdiv lo (2 ^ (min ((u64.wrap (64-(u64.wrap v1))).toNat) u64.bits))))*4294967296))+(Int.fdiv (u64.wrap (lo*(2 ^ (min ((u64.wrap v1).toNat) u64.bits)))) (2 ^ (min (Int.toNat 32) u64.bits)))))-(u64.wrap (z2.1*(u64.wrap (y*(2 ^ (min ((u64.wrap v1).toNat) u64.bits)))))))) (Int.fdiv (u64.wrap (y*(2 ^ (min ((u64.wrap v1).toNat) u64.bits)))) (2 ^ (min (Int.toNat 32) u64.bits)))))*(Int.fdiv (u64.wrap (y*(2 ^ (min ((u64.wrap v1).toNat) u64.bits)))) (2 ^ (min (Int.toNat 32) u64.bits)))))),u64.wrap (Int.tdiv (u64.wrap ((u64.wrap ((u64.wrap ((Go.bits Go.BinOp.or u64 (u64.wrap (hi*(2 ^ (min ((u64.wrap v1).toNat) u64.bits)))) (Int.fdiv lo (2 ^ (min ((u64.wrap (64-(u64.wrap v1))).toNat) u64.bits))))*4294967296))+(Int.fdiv (u64.wrap (lo*(2 ^ (min ((u64.wrap v1).toNat) u64.bits)))) (2 ^ (min (Int.toNat 32) u64.bits)))))-(u64.wrap (z2.1*(u64.wrap (y*(2 ^ (min ((u64.wrap v1).toNat) u64.bits)))))))) (Int.fdiv (u64.wrap (y*(2 ^ (min ((u64.wrap v1).toNat) u64.bits)))) (2 ^ (min (Int.toNat 32) u64.bits)))),()))) λG=>W.aZ (λ(j:ZG) r=>W.aH (λ(z12:Unit)=>W.af (decide (4294967296<=(u64.wrap (j.2.1+(Int.fdiv (u64.wrap (y*(2 ^ (min ((u64.wrap v1).toNat) u64.bits)))) (2 ^ (min (Int.toNat 32) u64.bits))))))) (G (u64.wrap (j.1-1),())) (r (u64.wrap (j.1-1),u64.wrap (j.2.1+(Int.fdiv (u64.wrap (y*(2 ^ (min ((u64.wrap v1).toNat) u64.bits)))) (2 ^ (min (Int.toNat 32) u64.bits)))),()))) λF=>W.af (decide (4294967296<=j.1)) (F ()) (W.af (decide ((u64.wrap ((u64.wrap (4294967296*j.2.1))+(Int.fdiv (u64.wrap (lo*(2 ^ (min ((u64.wrap v1).toNat) u64.bits)))) (2 ^ (min (Int.toNat 32) u64.bits)))))<(u64.wrap (j.1*(Go.bits Go.BinOp.and u64 (u64.wrap (y*(2 ^ (min ((u64.wrap v1).toNat) u64.bits)))) 4294967295))))) (F ()) (G (j.1,())))) (u64.wrap (Int.tdiv (Go.bits Go.BinOp.or u64 (u64.wrap (hi*(2 ^ (min ((u64.wrap v1).toNat) u64.bits)))) (Int.fdiv lo (2 ^ (min ((u64.wrap (64-(u64.wrap v1))).toNat) u64.bits)))) (Int.fdiv (u64.wrap (y*(2 ^ (min ((u64.wrap v1).toNat) u64.bits)))) (2 ^ (min (Int.toNat 32) u64.bits)))),u64.wrap ((Go.bits Go.BinOp.or u64 (u64.wrap (hi*(2 ^ (min ((u64.wrap v1).toNat) u64.bits)))) (Int.fdiv lo (2 ^ (min ((u64.wrap (64-(u64.wrap v1))).toNat) u64.bits))))-(u64.wrap ((u64.wrap (Int.tdiv (Go.bits Go.BinOp.or u64 (u64.wrap (hi*(2 ^ (min ((u64.wrap v1).toNat) u64.bits)))) (Int.fdiv lo (2 ^ (min ((u64.wrap (64-(u64.wrap v1))).toNat) u64.bits)))) (Int.fdiv (u64.wrap (y*(2 ^ (min ((u64.wrap v1).toNat) u64.bits)))) (2 ^ (min (Int.toNat 32) u64.bits)))))*(Int.fdiv (u64.wrap (y*(2 ^ (min ((u64.wrap v1).toNat) u64.bits)))) (2 ^ (min (Int.toNat 32) u64.bits)))))),())))))))))))
abbrev pK:=jW aj
def q9(w:bW)(d:Int):Option (bW×Int×Int×Unit):=W.af (d==0) (some ((0,0,()),0,8,())) (W.af (decide (d<0)) (some ((0,0,()),0,2,())) (W.ae (ig W w) λv1=>W.pV (u64.wrap d) (W.pV (u64.wrap d) (W.ae (jW W (Int.tmod v1.1 (u64.wrap d)) v1.2.1 (u64.wrap d)) λv2=>W.aH (λ(z3:S14)=>W.gA (W.ae (eV W w) λv4=>W.two (W.ae (gN W z3.2 v4) λv5=>some (v5.1,i64.wrap z3.1,0,()))) (W.ae (eV W w) λG=>W.ae (gN W z3.2 G) λF=>some (F.1,i64.wrap z3.1,0,()))) λC=>W.aH (λ(r:Bool×Unit)=>W.af r.1 (W.ae (IM v2.1 1 0) λv11=>(C (u64.wrap ((u64.wrap d)-v2.2.1),u64.wrap ((u64.wrap (Int.tdiv v1.1 (u64.wrap d)))+v11.2.1),v11.1,()))) (C (v2.2.1,u64.wrap (Int.tdiv v1.1 (u64.wrap d)),v2.1,()))) λj=>W.ae (eV W w) λy=>W.af y (j (decide (0<v2.2.1),())) (j (false,()))))))
abbrev Z0:=q9 aj
def oT(l:List ar):Option (Int×Int×Int×Int×Unit):=W.ae (G0 W l) λv1=>W.af (v1.2.2.1 != 0) (some (0,0,0,v1.2.2)) (W.ae (q9 W v1.2.1 v1.1) λv2=>W.ae (qd W v2.1) λv3=>W.aH (λ(z4:Int×Unit)=>some (z4.1,v3.1,v2.2.1,0,())) λj=>W.aI l 0 λr=>W.af (decide (r.1<0)) (j (i64.wrap (0-v1.1),())) (j (v1.1,())))
abbrev UG:=oT aj
def ve(l:List Int):Option (Int×Int×Unit):=W.aZ (λ(r:ZG) j=>W.af (decide (r.2.1<(l.length:Int))) (W.aI l r.2.1 λy=>W.ae (oP W r.1 y) λv4=>W.ae (qd W v4) λv5=>W.af (v5.2.1 != 0) (some (0,v5.2)) (j (v5.1,i64.wrap (r.2.1+1),()))) (some (r.1,0,()))) (1,0,())
abbrev Z5:=ve aj
def yb(mult:Int)(l:List ar):Option (Int×Int×Unit):=W.ae (oT W l) λv1=>W.aH (λ(z2:Int×Unit)=>W.ae (ve W (z2.1::(mult::[]))) λv3=>some v3) λr=>W.af (v1.2.2.2.1 != 0) (some (0,v1.2.2.2)) (W.aH (λ(z5:Bool×Unit)=>W.af z5.1 (some (0,2,())) (W.af (decide (v1.1<0)) (r (i64.wrap (0-v1.2.2.1),())) (r (v1.2.2.1,())))) λj=>W.af (decide (mult<1)) (j (true,())) (j (decide (65536<mult),())))
abbrev aet:=yb aj
def xY(l:List bR)(g:bR):Option ((List bR)×Int×Int×Unit):=W.aH (λ(y:Bool×Unit)=>W.af y.1 (some ([],0,2,())) (W.af (decide (64<=(l.length:Int))) (some ([],0,25,())) (W.aH (λ(z2:Int×Int×Int×Int×Int×Int×Unit)=>W.two (W.ae (eJ W l) λv3=>W.bg (v3.length+((z2.1,(z2.2.1,z2.2.2.1,()),z2.2.2.2)::[]).length) 48 (some (v3++((z2.1,(z2.2.1,z2.2.2.1,()),z2.2.2.2)::[]),z2.1,0,())))) λr=>W.af (decide (0<(l.length:Int))) (W.aI l (i64.wrap ((l.length:Int)-1)) λC=>(r (i64.wrap (C.1+1),g.2.1.1,g.2.1.2.1,g.2.2))) (r (1,g.2.1.1,g.2.1.2.1,g.2.2))))) λj=>W.af (g.2.2.2.2.1==0) (j (true,())) (W.ae (n3 W g.2.2.2.2.1) λF=>(j (!F,())))
abbrev TH:=xY aj
def mj(W:Wd):Option ar:=some (0,1,())
abbrev xf:=mj aj
def nk(d:aK):Option (Int×aK):=W.ae (fT W d ((d.2.2.2.2.2.2.2.2.2.2.2.2.2.2.2.1,d.2.2.2.2.2.2.2.2.2.2.2.2.2.2.2.2.1,())::[])) λv1=>W.af (v1.1 != 0) (some v1) (W.ae (jj W v1.2 v1.2.2.2.2.2.2.2.2.2.2.2.2.2.2.2.2.2.2.2.2.1) λv2=>W.af (v2.1.2.1 != 0) (some (v2.1.2.1,v2.2)) (W.ae (ze W v2.2.2.2.2.2.2.2.2.2.2.2.2.2.2.2.2.2.2.2.2.2.2.2.2.2.2.1) λv3=>W.ae (oT W v3) λv4=>W.af (v4.2.2.2.1 != 0) (some (v4.2.2.2.1,v2.2)) (W.ae (yb W v2.1.1.2.1 v3) λv5=>W.af (v5.2.1 != 0) (some (v5.2.1,v2.2)) (W.ae (xY W v2.2.2.2.2.2.2.2.1 (0,(v2.2.2.2.2.2.2.2.2.2.2.2.2.2.2.2.2.1,v2.2.2.2.2.2.2.2.2.2.2.2.2.2.2.2.2.2.1,()),v2.2.2.2.2.2.2.2.2.2.2.2.2.2.2.2.2.2.2.2.2.1,v4.2.1,v4.1,())) λv6=>W.af (v6.2.2.1 != 0) (some (v6.2.2.1,v2.2)) (W.ae (mj W) λr=>W.ae (lJ W v2.2.2.2.2.2.2.2.2.2.2.2.1 r (v2.2.2.2.2.2.2.2.2.2.2.2.2.2.2.2.2.1,v2.2.2.2.2.2.2.2.2.2.2.2.2.2.2.2.2.2.1,()) v5.1) λj=>W.af (j.2.1 != 0) (some (j.2.1,v2.2)) (some (0,U6 v2.2 (v6.1,U3 v2.2.2.2.2.2.2.2.2 (j.1,U16 v2.2.2.2.2.2.2.2.2.2.2.2.2 (v6.2.1::(v4.2.1::(v5.1::[])),v2.2.2.2.2.2.2.2.2.2.2.2.2.2.2.2.2.2.2.2.2.2.2.2.2.2.2.2.2.2))))))))))
abbrev Oq:=nk aj
def uT(l:List bR)(id i6:Int):Option ((List bR)×Int×Unit):=W.ae (wN W l id) λv1=>W.af (decide (v1<0)) (some ([],11,())) (W.aI l v1 λj=>W.aH (λ(z3:Bool×Unit)=>W.af z3.1 (some ([],2,())) (W.aH (λ(z4:Bool×Unit)=>W.af z4.1 (some ([],23,())) (W.ae (tA W l v1 (i64.wrap (j.2.2.2.2.1-i6))) λv5=>some (v5,0,()))) λr=>W.af (decide (0<i6)) (W.af (decide (j.2.2.2.2.1<i6)) (r (true,())) (W.af (decide (i6<0)) (r (decide (i6<j.2.2.2.2.1),())) (r (false,())))) (W.af (decide (i6<0)) (r (decide (i6<j.2.2.2.2.1),())) (r (false,()))))) λy=>W.af (i6==0) (y (true,())) (W.af (j.2.2.2.2.1 != 0) (y (cY true ((decide (i6<0))==(decide (j.2.2.2.2.1<0))),())) (y (false,()))))
abbrev Pk:=uT aj
def nj(d:aK):Option (Int×aK):=W.two (W.ae (tz W d.2.2.2.2.2.2.1 d.2.2.2.2.2.2.2.2.2.2.2.2.2.2.2.2.2.2.2.2.2.2.1) λv1=>W.af (!v1.2.1) (some (11,d)) (W.ae (fT W d (v1.1.2.1::((d.2.2.2.2.2.2.2.2.2.2.2.2.2.2.2.2.2.1,d.2.2.2.2.2.2.2.2.2.2.2.2.2.2.2.2.2.2.1,())::[]))) λv2=>W.af (v2.1 != 0) (some v2) (W.ae (uT W v2.2.2.2.2.2.2.2.1 v1.1.1 v2.2.2.2.2.2.2.2.2.2.2.2.2.2.2.2.2.2.2.2.2.2.2.2.2.1) λv3=>W.af (v3.2.1 != 0) (some (v3.2.1,v2.2)) (W.ae (lT W (U6 v2.2 (v3.1,v2.2.2.2.2.2.2.2.2)) (0,v1.1.2.1,(v2.2.2.2.2.2.2.2.2.2.2.2.2.2.2.2.2.2.2.1,v2.2.2.2.2.2.2.2.2.2.2.2.2.2.2.2.2.2.2.2.1,()),(v1.1.2.2.1,v2.2.2.2.2.2.2.2.2.2.2.2.2.2.2.2.2.2.2.2.2.2.2.2.2.1,()),v1.1.2.2.2.1,v1.1.1,0,0,())) λv4=>some v4))))
abbrev Oo:=nj aj
def nl(d:aK):Option (Int×aK):=W.af (d.2.2.2.2.2.2.2.2.2.2.2.2.1==7) (W.ae (oV W d) λv1=>some v1) (W.af (d.2.2.2.2.2.2.2.2.2.2.2.2.1==8) (W.ae (mg W d) λv2=>some v2) (W.af (d.2.2.2.2.2.2.2.2.2.2.2.2.1==9) (W.ae (mh W d) λv3=>some v3) (W.af (d.2.2.2.2.2.2.2.2.2.2.2.2.1==10) (W.ae (kN W d d.2.2.2.2.2.2.2.2.2.2.2.2.2.2.2.2.2.2.2.2.2.2.1 3) λv4=>some v4) (W.af (d.2.2.2.2.2.2.2.2.2.2.2.2.1==11) (W.ae (kN W d d.2.2.2.2.2.2.2.2.2.2.2.2.2.2.2.2.2.2.2.2.2.2.1 4) λv5=>some v5) (W.af (d.2.2.2.2.2.2.2.2.2.2.2.2.1==12) (W.ae (nk W d) λv6=>some v6) (W.ae (nj W d) λj=>some j))))))
abbrev Ot:=nl aj
def AJ(l:List bH)(id eT:Int):Option ((List bH)×Int×Unit):=W.ae (GX W l id) λv1=>W.af (decide (v1<0)) (some ([],11,())) (W.ae (pz W eT) λv2=>W.af (!v2) (some ([],2,())) (W.ae (vb W l) λv3=>W.aI v3 v1 λr=>W.ct v3 (v1.toNat) λj=>some (List.set v3 (v1.toNat) (U3 j (eT,j.2.2.2.2)),0,())))
abbrev aiQ:=AJ aj
def sy(l:List bh)(id eT:Int):Option ((List bh)×Int×Unit):=W.ae (pe W l id) λv1=>W.af (!v1.2.1) (some ([],11,())) (W.ae (sx W eT) λv2=>W.af (!v2) (some ([],2,())) (W.ae (eH W l) λv3=>W.aH (λ(z4:List bh×Unit)=>some (z4.1,0,())) λC=>W.aZ (λ(j:Int×List bh×Unit) r=>W.af (decide (j.1<(v3.length:Int))) (W.aI j.2.1 j.1 λH=>W.ct j.2.1 (j.1.toNat) λF=>W.af (F.1==id) (W.aI j.2.1 j.1 λG=>W.ct j.2.1 (j.1.toNat) λy=>(C (List.set j.2.1 (j.1.toNat) (y.1,eT,y.2.2),()))) (r (i64.wrap (j.1+1),j.2))) (C j.2)) (0,v3,())))
abbrev YG:=sy aj
def Dx(t:List bH)(j:ar):Option (bW×Int×Unit):=W.ae (px W t j.1) λv1=>W.af (!v1.2.1) (some ((0,0,()),11,())) (W.ae (oP W (i64.wrap (v1.1.2.2.2.1-v1.1.2.2.1)) v1.1.2.1) λv2=>W.ae (tp W v2 j.2.1) λv3=>some v3)
abbrev amX:=Dx aj
def Av(t:List bH)(j:List ar):Option (Int×Int×Unit):=W.ae (Ic W j) λv1=>W.af (!v1) (some (0,3,())) (W.aZ (λ(z2:S6) r=>W.af (decide (z2.1<(j.length:Int))) (W.aI j z2.1 λy=>W.ae (Dx W t y) λv5=>W.af (v5.2.1 != 0) (some (0,v5.2)) (W.bg (z2.2.1.length+(v5.1::[]).length) 16 (r (i64.wrap (z2.1+1),z2.2.1++(v5.1::[]),())))) (W.ae (wQ W z2.2.1) λv6=>W.af (v6.2.1 != 0) (some (0,v6.2)) (W.ae (qd W v6.1) λC=>some C))) (0,[],()))
abbrev ai8:=Av aj
def xN(t:List bH)(l:List bC):Option ((List aU)×Int×Unit):=W.ae (pY W l) λv1=>W.af (!v1) (some ([],3,())) (W.aZ (λ(z2:S20) j=>W.af (decide (z2.1<(l.length:Int))) (W.aH (λ(z4:List aU×Unit)=>(j (i64.wrap (z2.1+1),z4))) λC=>W.aI l z2.1 λy=>W.ae (Av W t y.2.1) λr=>W.af (r.2.1 != 0) (some ([],r.2)) (W.af (r.1 != 0) (W.bg (z2.2.1.length+((y.1,r.1,())::[]).length) 24 (C (z2.2.1++((y.1,r.1,())::[]),()))) (C z2.2))) (some (z2.2.1,0,()))) (0,[],()))
abbrev adK:=xN aj
def uM(t:List bH)(l:List bC)(p:List aU):Option ((List aU)×Int×Unit):=W.ae (qe W p) λv1=>W.af (!v1) (some ([],3,())) (W.ae (xN W t l) λv2=>W.af (v2.2.1 != 0) (some ([],v2.2)) (W.ae (qQ W p v2.1) λv3=>some v3))
abbrev GK:=uM aj
def uS(l:List bH):Option (List bH):=W.ae (vb W l) λv1=>W.aZ (λ(z2:S24) j=>W.af (decide (z2.1<(v1.length:Int))) (W.aI z2.2.1 z2.1 λF=>W.ct z2.2.1 (z2.1.toNat) λy=>W.aI z2.2.1 z2.1 λC=>W.ct z2.2.1 (z2.1.toNat) λr=>(j (i64.wrap (z2.1+1),List.set z2.2.1 (z2.1.toNat) (r.1,r.2.1,y.2.2.2.1,r.2.2.2),()))) (some z2.2.1)) (0,v1,())
abbrev Pj:=uS aj
def Ms(W:Wd)(j:Int)(g:cj):Option (Bool×(Int×Unit)):=some (decide (g.2.2.2.2.2.2.1<j),j,())
def mB(y:Int)(l:List cj):Option ((List Int)×(Int×Unit)):=W.aZ (λ(r:S15) j=>W.af (decide (r.1<(l.length:Int))) (W.aH (λ(z3:S10)=>(j (i64.wrap (r.1+1),z3))) λJ=>W.aI l r.1 λF=>W.aH (λ(C:Bool×Int×List (Int)×Unit)=>W.af C.1 (W.bg (C.2.2.1.length+(F.1::[]).length) 8 (J (C.2.1,C.2.2.1++(F.1::[]),()))) (J C.2)) λH=>W.af (F.2.2.2.2.2.2.2.1==1) (W.ae (Ms W r.2.1 F) λG=>(H (G.1,G.2.1,r.2.2))) (H (false,r.2))) (some (r.2.2.1,r.2.1,()))) (0,y,[],())
abbrev GN:=mB aj
def AK(l:List cj)(day:Int):Option (List Int):=W.ae (mB W day l) λv1=>some v1.1
abbrev WM:=AK aj
def ry(d:aK)(ids:List Int)(state:Int):Option (Int×aK):=W.aZ (λ(r:S1) j=>W.af (decide (r.1<(ids.length:Int))) (W.aI ids r.1 λy=>W.ae (kN W r.2 y state) λv4=>W.af (v4.1 != 0) (some v4) (j (i64.wrap (r.1+1),v4.2))) (some (0,r.2))) (0,d)
abbrev sI:=ry aj
def pX(d:aK):Option (Int×aK):=W.af (decide (1048576<=d.1)) (some (25,d)) (W.aZ (λ(j:Int×Int×List aW×List bH×List bh×List az×List bA×List bR×List cj×List bC×List bC×List aU×List bj×Int×Int×Int×Int×Int×Int×Int×Int×Int×Int×Int×Int×Int×List (Int)×Int×List (Int)×List fH×List fI×List (List bC)×Unit) r=>W.af (decide (j.1<((d.2.2.2.2.2.2.2.2.1::(d.2.2.2.2.2.2.2.2.2.1::[])).length:Int))) (W.aI j.2.2.2.2.2.2.2.2.2.2.2.2.2.2.2.2.2.2.2.2.2.2.2.2.2.2.2.2.2.2.2.1 j.1 λG=>W.ct j.2.2.2.2.2.2.2.2.2.2.2.2.2.2.2.2.2.2.2.2.2.2.2.2.2.2.2.2.2.2.2.1 (j.1.toNat) λy=>W.ae (uM W j.2.2.2.1 y j.2.2.2.2.2.2.2.2.2.2.2.1) λv5=>W.af (v5.2.1 != 0) (some (v5.2.1,xh j.2 ())) (r (i64.wrap (j.1+1),U10 j.2 (v5.1,j.2.2.2.2.2.2.2.2.2.2.2.2)))) (W.ae (uS W j.2.2.2.1) λv6=>W.ae (AK W j.2.2.2.2.2.2.2.2.1 (i64.wrap (j.2.1+1))) λF=>W.ae (ry W (i64.wrap (j.2.1+1),j.2.2.1,v6,U24 j.2.2.2.2 ((i64.wrap (j.2.1+1))::[],j.2.2.2.2.2.2.2.2.2.2.2.2.2.2.2.2.2.2.2.2.2.2.2.2.2.2.2.2.2.1,j.2.2.2.2.2.2.2.2.2.2.2.2.2.2.2.2.2.2.2.2.2.2.2.2.2.2.2.2.2.2.1,())) F 5) λC=>some C)) (0,xh d (d.2.2.2.2.2.2.2.2.1::(d.2.2.2.2.2.2.2.2.2.1::[]),())))
abbrev Gf:=pX aj
def AT(W:Wd):Option ar:=some (0,0,())
abbrev VD:=AT aj
def j5(d:aK):Option (Int×aK):=W.aH (λ(r:Bool×Unit)=>W.af r.1 (some (2,d)) (some (0,d))) λj=>W.af (decide (d.2.2.2.2.2.2.2.2.2.2.2.2.2.2.2.2.2.2.2.2.2.2.2.1<1)) (j (true,())) (W.af (d.2.2.2.2.2.2.2.2.2.2.2.2.2.2.2.2.2.2.2.2.1==0) (j (d.2.2.2.2.2.2.2.2.2.2.2.2.2.2.2.2.2.2.2.2.2.1 != 0,())) (j (false,())))
abbrev Mn:=j5 aj
def lV(d:aK)(n:Int):Option (Int×aK):=W.ae (qQ W d.2.2.2.2.2.2.2.2.2.2.1 (((d.2.2.2.2.2.2.2.2.2.2.2.2.2.2.2.1,d.2.2.2.2.2.2.2.2.2.2.2.2.2.2.2.2.1,()),n,())::[])) λv1=>W.aH (λ(z2:S0)=>some (v1.2.1,z2)) λj=>W.af (v1.2.1==0) (j (U10 d (v1.1,d.2.2.2.2.2.2.2.2.2.2.2))) (j d)
abbrev P':=lV aj
def gx(W:Wd)(d:aK):Option (bh×aK):=some ((d.2.2.2.2.2.2.2.2.2.2.2.2.2.2.2.2.2.2.2.2.1,d.2.2.2.2.2.2.2.2.2.2.2.2.2.2.2.2.2.2.2.2.2.1,d.2.2.2.2.2.2.2.2.2.2.2.2.2.2.2.2.2.2.2.2.2.2.2.1,()),d)
def cX(s:List bh):Option (List bh):=W.qq (List.isEmpty s) λg1=>W.af (cY false g1) (some []) (W.bg ((0:Nat)+s.length) 24 (some ([]++s)))
abbrev lv:=cX aj
def ml(l:List bj)(u:ar):Option (List bh):=W.aZ (λ(r:Int×Unit) j=>W.af (decide (r.1<(l.length:Int))) (W.aI l r.1 λy=>W.af (cY false ((y.1.1==u.1)&&(y.1.2.1==u.2.1))) (W.ae (cX W y.2.1) λv4=>some v4) (j (i64.wrap (r.1+1),()))) (some [])) (0,())
abbrev Hv:=ml aj
def tv(j:bh):Option Bool:=W.af (decide (1<=j.1)) (W.af (decide (j.1<=4)) (W.af (decide (0<=j.2.1)) (W.af (decide (j.2.1<=255)) (some (decide (0<j.2.2.1))) (some false)) (some false)) (some false)) (some false)
abbrev aei:=tv aj
def Q0(fe:List Int):Option Int:=W.aZ (λ(r:Int×Unit) j=>W.af (decide (r.1<(fe.length:Int))) (W.aI fe r.1 λy=>W.af (y != 0) (some y) (j (i64.wrap (r.1+1),()))) (some 0)) (0,())
abbrev anC:=Q0 aj
def qR(a b:bh):Option Int:=W.ae (py W a.1 b.1) λv1=>W.ae (py W a.2.1 b.2.1) λv2=>W.ae (Q0 W (v1::(v2::[]))) λv3=>some v3
abbrev Ja:=qR aj
def AU(l:List bh):Option Bool:=W.aZ (λ(r:Int×Unit) j=>W.af (decide (r.1<(l.length:Int))) (W.aI l r.1 λC=>W.aH (λ(z4:Bool×Unit)=>W.af z4.1 (some false) (j (i64.wrap (r.1+1),()))) λy=>W.ae (tv W C) λv6=>W.af (!v6) (W.two (y (true,()))) (W.af (decide (0<r.1)) (W.aI l (i64.wrap (r.1-1)) λF=>W.two (W.ae (qR W F C) λG=>(y (decide (0<=G),())))) (W.two (y (false,()))))) (some (decide ((l.length:Int)<=16)))) (0,())
abbrev agJ:=AU aj
def qb(l:List bh)(j:bh):Option Int:=W.ae (AU W l) λv1=>W.af (!v1) (some 3) (W.ae (tv W j) λv2=>W.af (!v2) (some 2) (some 0))
abbrev Xq:=qb aj
def cD(y:List bh)(target:bh):Option ((Int×Bool×Unit)×Unit):=W.aZ (λ(j:ZG) r=>W.af (decide (j.1<j.2.1)) (W.iV 1 (W.aI y (i64.wrap (Int.fdiv (u64.wrap (i64.wrap (j.1+j.2.1))) (2 ^ (min (Int.toNat 1) u64.bits)))) λF=>W.ae (qR W F target) λv4=>W.af (decide (v4<0)) (r (i64.wrap ((i64.wrap (Int.fdiv (u64.wrap (i64.wrap (j.1+j.2.1))) (2 ^ (min (Int.toNat 1) u64.bits))))+1),j.2)) (r (j.1,i64.wrap (Int.fdiv (u64.wrap (i64.wrap (j.1+j.2.1))) (2 ^ (min (Int.toNat 1) u64.bits))),())))) (W.af (decide (j.1<(y.length:Int))) (W.aI y j.1 λC=>W.ae (qR W C target) λv6=>some ((j.1,v6==0,()),())) (some ((j.1,false,()),())))) (0,(y.length:Int),())
abbrev kg:=cD aj
def C2(l:List bh)(j:bh):Option ((List bh)×Int×Unit):=W.ae (qb W l j) λv1=>W.af (v1 != 0) (some ([],v1,())) (W.ae (cD W l j) λv2=>W.af (!v2.1.2.1) (W.af (decide (16<=(l.length:Int))) (some ([],25,())) (W.two (W.ae (cX W l) λv3=>W.ae (Nj v3 v2.1.1 (j::[])) λv4=>some (v4.1,0,())))) (W.aI l v2.1.1 λC=>W.ae (jv W (C.2.2.1::(j.2.2.1::[]))) λy=>W.af (y.2.1 != 0) (some ([],y.2)) (W.ae (cX W l) λv9=>W.aI v9 v2.1.1 λF=>W.ct v9 (v2.1.1.toNat) λr=>some (List.set v9 (v2.1.1.toNat) (r.1,r.2.1,y.1,()),0,()))))
abbrev akd:=C2 aj
def yd(l:List bj):Option Bool:=W.aZ (λ(r:Int×Unit) j=>W.af (decide (r.1<(l.length:Int))) (W.aI l r.1 λC=>W.aH (λ(z4:Bool×Unit)=>W.af z4.1 (some false) (j (i64.wrap (r.1+1),()))) λy=>W.af ((C.2.1.length:Int)==0) (W.two (y (true,()))) (W.ae (AU W C.2.1) λv6=>W.af (!v6) (W.two (y (true,()))) (W.af (decide (0<r.1)) (W.aI l (i64.wrap (r.1-1)) λF=>W.two (W.ae (mc W F.1 C.1) λG=>(y (!G,())))) (W.two (y (false,())))))) (some true)) (0,())
abbrev Qu:=yd aj
def zy(l:List bj)(u:ar)(all:List bh):Option (List bj):=W.two (W.ae (cX W all) λv1=>W.aZ (λ(z2:Bool×Int×Int×Int×List bh×List bj×Unit) r=>W.af (decide (z2.2.1<(l.length:Int))) (W.aH (λ(z4:S18)=>(r (z4.1,i64.wrap (z2.2.1+1),U3 z2.2.2 z4.2))) λJ=>W.aI l z2.2.1 λC=>W.aH (λ(y:S18)=>W.af (cY true ((C.1.1==u.1)&&(C.1.2.1==u.2.1))) (W.ae (cX W C.2.1) λK=>W.bg (y.2.1.length+((C.1,K,())::[]).length) 40 (J (y.1,y.2.1++((C.1,K,())::[]),()))) (W.af (!y.1) (W.bg (y.2.1.length+(((z2.2.2.1,z2.2.2.2.1,()),z2.2.2.2.2.1,())::[]).length) 40 (J (true,y.2.1++(((z2.2.2.1,z2.2.2.2.1,()),z2.2.2.2.2.1,())::[]),()))) (J y))) λR=>W.aH (λ(j:S18)=>W.af j.1 (W.bg (j.2.1.length+(((z2.2.2.1,z2.2.2.2.1,()),z2.2.2.2.2.1,())::[]).length) 40 (R (true,j.2.1++(((z2.2.2.1,z2.2.2.2.1,()),z2.2.2.2.2.1,())::[]),()))) (R (z2.1,j.2))) λG=>W.af (!z2.1) (W.ae (mc W u C.1) λv12=>(G (v12,z2.2.2.2.2.2))) (G (false,z2.2.2.2.2.2))) (W.aH (λ(H:List bj×Unit)=>some H.1) λF=>W.af (!z2.1) (W.bg (z2.2.2.2.2.2.1.length+(((z2.2.2.1,z2.2.2.2.1,()),z2.2.2.2.2.1,())::[]).length) 40 (F (z2.2.2.2.2.2.1++(((z2.2.2.1,z2.2.2.2.1,()),z2.2.2.2.2.1,())::[]),()))) (F z2.2.2.2.2.2))) ((all.length:Int)==0,0,u.1,u.2.1,v1,[],()))
abbrev abd:=zy aj
def lq(l:List bj)(u:ar)(now:List bh)(e:Int):Option ((List bj)×Int×Unit):=W.ae (yd W l) λv1=>W.af (!v1) (some ([],3,())) (W.af (e != 0) (some ([],e,())) (W.ae (zy W l u now) λv2=>some (v2,0,())))
abbrev F7:=lq aj
def qc(l:List bj)(u:ar)(j:bh):Option ((List bj)×Int×Unit):=W.ae (ml W l u) λv1=>W.ae (C2 W v1 j) λv2=>W.ae (lq W l u v2.1 v2.2.1) λv3=>some v3
abbrev Z':=qc aj
def kZ(d:aK):Option (Int×aK):=W.aH (λ(V:S0)=>W.ae (j5 W V) λv2=>W.af (v2.1 != 0) (some v2) (W.af (v2.2.2.2.2.2.2.2.2.2.2.2.2.2.2.2.2.2.2.2.2.2.1==0) (W.ae (lV W v2.2 v2.2.2.2.2.2.2.2.2.2.2.2.2.2.2.2.2.2.2.2.2.2.2.2.2.1) λv3=>some v3) (W.aH (λ(z4:Bool×Unit)=>W.af (!z4.1) (some (11,v2.2)) (W.aH (λ(z5:S4)=>W.aH (λ(R:S0)=>some (z5.1,R)) λK=>W.af (z5.1==0) (K (U11 z5.2 (z5.2.2.2.2.2.2.2.2.2.2.2.2.2.2.2.2.2.2.2.2.2.2.2.2.2.2.2.2.2.2.2.1,U18 z5.2.2.2.2.2.2.2.2.2.2.2.2.2 ()))) (K (xh z5.2 ()))) λG=>W.gA (W.gA (W.ae (gx W v2.2) λv9=>W.ae (qc W v2.2.2.2.2.2.2.2.2.2.2.2.2.1 (v2.2.2.2.2.2.2.2.2.2.2.2.2.2.2.2.2.1,v2.2.2.2.2.2.2.2.2.2.2.2.2.2.2.2.2.2.1,()) v9.1) λv10=>(G (v10.2.1,xh v9.2 (v10.1,())))) (W.ae (gx W v2.2) λv11=>W.ae (qc W v2.2.2.2.2.2.2.2.2.2.2.2.2.1 (v11.2.2.2.2.2.2.2.2.2.2.2.2.2.2.2.2.1,v11.2.2.2.2.2.2.2.2.2.2.2.2.2.2.2.2.2.1,()) v11.1) λv12=>(G (v12.2.1,xh v11.2 (v12.1,()))))) (W.gA (W.gA (W.ae (gx W v2.2) λF=>W.ae (qc W v2.2.2.2.2.2.2.2.2.2.2.2.2.1 (v2.2.2.2.2.2.2.2.2.2.2.2.2.2.2.2.2.1,v2.2.2.2.2.2.2.2.2.2.2.2.2.2.2.2.2.2.1,()) F.1) λC=>(G (C.2.1,xh F.2 (C.1,())))) (W.ae (gx W v2.2) λj=>W.ae (qc W j.2.2.2.2.2.2.2.2.2.2.2.2.1 (v2.2.2.2.2.2.2.2.2.2.2.2.2.2.2.2.2.1,v2.2.2.2.2.2.2.2.2.2.2.2.2.2.2.2.2.2.1,()) j.1) λy=>(G (y.2.1,xh j.2 (y.1,()))))) (W.ae (gx W v2.2) λv17=>W.two (W.ae (qc W v17.2.2.2.2.2.2.2.2.2.2.2.2.1 (v17.2.2.2.2.2.2.2.2.2.2.2.2.2.2.2.2.1,v17.2.2.2.2.2.2.2.2.2.2.2.2.2.2.2.2.2.1,()) v17.1) λr=>(G (r.2.1,xh v17.2 (r.1,())))))))) λJ=>W.two (W.ae (pe W v2.2.2.2.2.1 v2.2.2.2.2.2.2.2.2.2.2.2.2.2.2.2.2.2.2.2.2.2.1) λv21=>(J v21.2))))) λH=>W.ae (AT W) λv24=>W.af (cY true ((d.2.2.2.2.2.2.2.2.2.2.2.2.2.2.2.1==v24.1)&&(d.2.2.2.2.2.2.2.2.2.2.2.2.2.2.2.2.1==v24.2.1))) (W.ae (fT W d ((d.2.2.2.2.2.2.2.2.2.2.2.2.2.2.2.1,d.2.2.2.2.2.2.2.2.2.2.2.2.2.2.2.2.1,())::[])) λv25=>W.af (v25.1 != 0) (some v25) (H v25.2)) (H d)
abbrev JQ:=kZ aj
def kO(l:List aU)(u:ar):Option Int:=W.aZ (λ(r:Int×Unit) j=>W.af (decide (r.1<(l.length:Int))) (W.aI l r.1 λy=>W.af (cY false ((y.1.1==u.1)&&(y.1.2.1==u.2.1))) (some y.2.1) (j (i64.wrap (r.1+1),()))) (some 0)) (0,())
abbrev oG:=kO aj
def zO(l:List bh)(j:bh):Option ((List bh)×Int×Unit):=W.ae (qb W l j) λv1=>W.af (v1 != 0) (some ([],v1,())) (W.ae (cD W l j) λv2=>W.aH (λ(z3:Bool×Unit)=>W.af z3.1 (some ([],23,())) (W.ae (cX W l) λv4=>W.aI v4 v2.1.1 λV=>W.ct v4 (v2.1.1.toNat) λF=>W.aI v4 v2.1.1 λR=>W.ct v4 (v2.1.1.toNat) λr=>W.aH (λ(z9:List bh×Unit)=>some (z9.1,0,())) λC=>W.aI (List.set v4 (v2.1.1.toNat) (r.1,r.2.1,i64.wrap (F.2.2.1-j.2.2.1),())) v2.1.1 λK=>W.ct (List.set v4 (v2.1.1.toNat) (r.1,r.2.1,i64.wrap (F.2.2.1-j.2.2.1),())) (v2.1.1.toNat) λH=>W.af (H.2.2.1==0) (W.ae (Hu (List.set v4 (v2.1.1.toNat) (r.1,r.2.1,i64.wrap (F.2.2.1-j.2.2.1),())) v2.1.1 (i64.wrap (v2.1.1+1))) λJ=>(C J)) (C (List.set v4 (v2.1.1.toNat) (r.1,r.2.1,i64.wrap (F.2.2.1-j.2.2.1),()),())))) λy=>W.af (!v2.1.2.1) (y (true,())) (W.aI l v2.1.1 λG=>(y (decide (G.2.2.1<j.2.2.1),()))))
abbrev ahx:=zO aj
def nX(l:List bj)(u:ar)(j:bh):Option ((List bj)×Int×Unit):=W.ae (ml W l u) λv1=>W.ae (zO W v1 j) λv2=>W.ae (lq W l u v2.1 v2.2.1) λv3=>some v3
abbrev VB:=nX aj
def nq(d:aK):Option (Int×aK):=W.af (d.2.2.2.2.2.2.2.2.2.2.2.2.2.2.2.2.2.2.2.2.1==0) (W.ae (kO W d.2.2.2.2.2.2.2.2.2.2.1 (d.2.2.2.2.2.2.2.2.2.2.2.2.2.2.2.1,d.2.2.2.2.2.2.2.2.2.2.2.2.2.2.2.2.1,())) λv1=>W.af (decide (v1<d.2.2.2.2.2.2.2.2.2.2.2.2.2.2.2.2.2.2.2.2.2.2.2.1)) (some (23,d)) (W.ae (lV W d (i64.wrap (0-d.2.2.2.2.2.2.2.2.2.2.2.2.2.2.2.2.2.2.2.2.2.2.2.1))) λv2=>some v2)) (W.aH (λ(z3:S4)=>W.aH (λ(z4:S0)=>some (z3.1,z4)) λJ=>W.af (z3.1==0) (J (U11 z3.2 (z3.2.2.2.2.2.2.2.2.2.2.2.2.2.2.2.2.2.2.2.2.2.2.2.2.2.2.2.2.2.2.2.1,U18 z3.2.2.2.2.2.2.2.2.2.2.2.2.2 ()))) (J (xh z3.2 ()))) λF=>W.gA (W.gA (W.ae (gx W d) λH=>W.ae (nX W d.2.2.2.2.2.2.2.2.2.2.2.1 (d.2.2.2.2.2.2.2.2.2.2.2.2.2.2.2.1,d.2.2.2.2.2.2.2.2.2.2.2.2.2.2.2.2.1,()) H.1) λG=>(F (G.2.1,xh H.2 (G.1,())))) (W.ae (gx W d) λv9=>W.ae (nX W d.2.2.2.2.2.2.2.2.2.2.2.1 (v9.2.2.2.2.2.2.2.2.2.2.2.2.2.2.2.2.1,v9.2.2.2.2.2.2.2.2.2.2.2.2.2.2.2.2.2.1,()) v9.1) λv10=>(F (v10.2.1,xh v9.2 (v10.1,()))))) (W.gA (W.gA (W.ae (gx W d) λv11=>W.ae (nX W d.2.2.2.2.2.2.2.2.2.2.2.1 (d.2.2.2.2.2.2.2.2.2.2.2.2.2.2.2.1,d.2.2.2.2.2.2.2.2.2.2.2.2.2.2.2.2.1,()) v11.1) λv12=>(F (v12.2.1,xh v11.2 (v12.1,())))) (W.ae (gx W d) λr=>W.ae (nX W r.2.2.2.2.2.2.2.2.2.2.2.2.1 (d.2.2.2.2.2.2.2.2.2.2.2.2.2.2.2.1,d.2.2.2.2.2.2.2.2.2.2.2.2.2.2.2.2.1,()) r.1) λC=>(F (C.2.1,xh r.2 (C.1,()))))) (W.ae (gx W d) λj=>W.two (W.ae (nX W j.2.2.2.2.2.2.2.2.2.2.2.2.1 (j.2.2.2.2.2.2.2.2.2.2.2.2.2.2.2.2.1,j.2.2.2.2.2.2.2.2.2.2.2.2.2.2.2.2.2.1,()) j.1) λy=>(F (y.2.1,xh j.2 (y.1,())))))))
abbrev Ov:=nq aj
def BS(W:Wd)(a:az):Option ar:=some (a.1,0,())
abbrev TR:=BS aj
def AQ(a:az)(u:ar):Option (ar×Bool×Unit):=W.ae (q7 W a u) λv1=>W.af (!v1) (some ((0,0,()),false,())) (W.af (a.2.2.1==2) (W.ae (BS W a) λv2=>some (v2,true,())) (some (u,true,())))
abbrev ajc:=AQ aj
def lW(W:Wd)(d:aK):Option (AP×aK):=some ((d.2.2.2.1,d.2.2.1,d.2.2.2.2.2.2.2.2.1,d.2.2.2.2.2.2.2.2.2.2.1,d.2.2.2.2.2.2.2.2.2.2.2.1,()),d)
def nh(s:AP):Option Bool:=W.ae (pY W s.2.2.1) λv1=>W.af v1 (W.ae (qe W s.2.2.2.1) λv2=>W.af v2 (W.ae (yd W s.2.2.2.2.1) λv3=>some v3) (some false)) (some false)
abbrev Oj:=nh aj
def qT(a:az):Option (List ar):=W.af (a.2.2.1==2) (W.ae (BS W a) λv1=>some (v1::[])) (W.ae (ji W a) λv2=>some v2)
abbrev aeu:=qT aj
def tB(a:az)(u:ar):Option (List ar):=W.ae (qT W a) λv1=>W.ae (cN W v1 u) λv2=>W.af (!v2) (some []) (W.af (a.2.2.1==2) (W.ae (ji W a) λv3=>some v3) (some (u::[])))
abbrev TS:=tB aj
def DO(l:List bC)(j:List ar):Option ((List ar)×Int×Unit):=W.ae (pY W l) λv1=>W.af (!v1) (some ([],3,())) (W.aZ (λ(z2:Int×List (List ar)×Unit) r=>W.af (decide (z2.1<(j.length:Int))) (W.aI j z2.1 λy=>W.ae (vd W l y) λv5=>W.bg (z2.2.1.length+(v5::[]).length) 24 (r (i64.wrap (z2.1+1),z2.2.1++(v5::[]),()))) (W.ae (Ar W z2.2.1) λv6=>some v6)) (0,[],()))
abbrev aog:=DO aj
def BN(i:bH)(i6 j:Int):Option bW:=W.aH (λ(y:Bool×Unit)=>W.af y.1 (some (0,0,())) (W.aI i.2.2.2.2.1 j λC=>W.ae (ve W (C::(i.2.1::[]))) λv3=>W.ae (oP W v3.1 i6) λv4=>some v4)) λr=>W.ae (tD W i) λv6=>W.af (v6 != 0) (r (true,())) (W.af (decide (j<0)) (r (true,())) (r (decide ((i.2.2.2.2.1.length:Int)<=j),())))
abbrev TM:=BN aj
def DM(w:bW):Option (bW×Int×Unit):=W.ae (ig W w) λv1=>W.ae (eV W w) λv2=>W.ae (gN W v1 (!v2)) λv3=>W.ae (pA W v3.1 v3.2.1) λv4=>some v4
abbrev aob:=DM aj
def AO(t:List bH)(j:List ar)(y:Int):Option (bW×Int×Unit):=W.ae (Ic W j) λv1=>W.af (!v1) (some ((0,0,()),3,())) (W.aZ (λ(z2:S6) r=>W.af (decide (z2.1<(j.length:Int))) (W.aI j z2.1 λC=>W.ae (px W t C.1) λv5=>W.af (!v5.2.1) (some ((0,0,()),11,())) (W.ae (BN W v5.1 C.2.1 y) λv6=>W.bg (z2.2.1.length+(v6::[]).length) 16 (r (i64.wrap (z2.1+1),z2.2.1++(v6::[]),())))) (W.ae (wQ W z2.2.1) λG=>W.ae (DM W G.1) λF=>some (F.1,0,()))) (0,[],()))
abbrev WR:=AO aj
def zg(t:List bH)(y:List ar):Option ((List bW)×Int×Unit):=W.aZ (λ(r:S6) j=>W.af (decide (r.1<8)) (W.ae (AO W t y r.1) λv3=>W.af (v3.2.1 != 0) (some ([],v3.2)) (W.bg (r.2.1.length+(v3.1::[]).length) 16 (j (i64.wrap (r.1+1),r.2.1++(v3.1::[]),())))) (some (r.2.1,0,()))) (0,[],())
abbrev abE:=zg aj
def BU(W:Wd)(j:Int):Option Bool:=some (j != j)
abbrev TN:=BU aj
def sz(j y:Int):Option Int:=W.ae (BU W j) λv1=>W.ae (BU W y) λv2=>W.af v1 (W.af v2 (some 0) (some (-1))) (W.af v2 (some 1) (W.af (decide (j<y)) (some (-1)) (W.af (decide (y<j)) (some 1) (some 0))))
abbrev YK:=sz aj
def BV(W:Wd)(j:Int):Option Bool:=some (j != j)
abbrev TO:=BV aj
def sA(j y:Int):Option Int:=W.ae (BV W j) λv1=>W.ae (BV W y) λv2=>W.af v1 (W.af v2 (some 0) (some (-1))) (W.af v2 (some 1) (W.af (decide (j<y)) (some (-1)) (W.af (decide (y<j)) (some 1) (some 0))))
abbrev YL:=sA aj
def DN(a b:bW):Option Int:=W.ae (sz W a.1 b.1) λv1=>W.ae (sA W a.2.1 b.2.1) λv2=>W.ae (Q0 W (v1::(v2::[]))) λv3=>some v3
abbrev abF:=DN aj
def BO(l:List bW):Option (bW×Int×Unit):=W.aZ (λ(j:S17) r=>W.af (decide (j.2.1<(l.length:Int))) (W.aH (λ(z3:S14)=>(r (z3.1,i64.wrap (j.2.1+1),z3.2))) λC=>W.aI l j.2.1 λy=>W.ae (DN W y j.2.2) λv6=>W.af (decide (0<v6)) (C (j.2.1,y)) (C (j.1,j.2.2))) (some (j.2.2,j.1,()))) (-1,0,0,0,())
abbrev TP:=BO aj
def uZ(t:List bH)(j:List ar):Option (Int×Int×Unit):=W.ae (zg W t j) λv1=>W.af (v1.2.1 != 0) (some (0,v1.2)) (W.ae (BO W v1.1) λv2=>W.ae (qd W v2.1) λv3=>some v3)
abbrev Pm:=uZ aj
def DP(t:List bH)(l:List bC)(a:az)(u:ar):Option (Int×Int×Unit):=W.ae (pY W l) λv1=>W.af (!v1) (some (0,3,())) (W.ae (qT W a) λv2=>W.ae (cN W v2 u) λv3=>W.af (!v3) (some (0,11,())) (W.ae (tB W a u) λv4=>W.ae (DO W l v4) λv5=>W.af (v5.2.1 != 0) (some (0,v5.2)) (W.ae (uZ W t v5.1) λv6=>some v6)))
abbrev agR:=DP aj
def po(a:bh)(i6:Int):Option (Int×Int×Unit):=W.ae (pv W a) λv1=>W.af (v1 != 0) (some (0,v1,())) (W.ae (ve W (i6::(a.2.1::[]))) λv2=>some v2)
abbrev F5:=po aj
def qG(a n d:Int):Option (Int×Int×Int×Unit):=W.ae (oP W a n) λv1=>W.ae (q9 W v1 d) λv2=>W.ae (pd W v2.1 v2.2.2.1) λv3=>W.af (v3.2.1 != 0) (some (0,0,v3.2)) (some (v3.1,v2.2.1,0,()))
abbrev Hp:=qG aj
def u5(a:bh)(i6:Int):Option (Int×Int×Unit):=W.ae (po W a i6) λv1=>W.aH (λ(z2:Bool×Unit)=>W.af z2.1 (some (0,2,())) (W.af (v1.2.1 != 0) (some (0,v1.2)) (W.ae (qG W v1.1 (i64.wrap (10000-a.2.2.1)) 10000) λv3=>some (v3.1,v3.2.2)))) λj=>W.ae (pv W a) λv5=>W.af (v5==0) (j (decide (i6<0),())) (j (false,()))
abbrev abH:=u5 aj
def iH(r l:List bh):Option (((List Int)×Int×Unit)×Unit):=W.ae (AU W l) λv1=>W.af (!v1) (some (([],3,()),())) (W.aZ (λ(z2:S10) j=>W.af (decide (z2.1<(l.length:Int))) (W.aI l z2.1 λy=>W.ae (pe W r y.1) λv5=>W.af (!v5.2.1) (some (([],11,()),())) (W.ae (u5 W v5.1 y.2.2.1) λv6=>W.af (v6.2.1 != 0) (some (([],v6.2),())) (W.bg (z2.2.1.length+(v6.1::[]).length) 8 (j (i64.wrap (z2.1+1),z2.2.1++(v6.1::[]),()))))) (some ((z2.2.1,0,()),()))) (0,[],()))
abbrev CD:=iH aj
def u6(j l:List bh)(cash:Int):Option (Int×Int×Unit):=W.ae (iH W j l) λv1=>W.af (v1.1.2.1 != 0) (some (0,v1.1.2)) (W.bg (v1.1.1.length+(cash::[]).length) 8 (W.ae (jv W (v1.1.1++(cash::[]))) λv2=>some v2))
abbrev abI:=u6 aj
def lK(s:AP)(a:az)(u:ar):Option (Int×Int×Unit):=W.ae (nh W s) λv1=>W.af (!v1) (some (0,3,())) (W.ae (DP W s.2.1 s.2.2.1 a u) λv2=>W.af (v2.2.1 != 0) (some (0,v2.2)) (W.ae (tB W a u) λv3=>W.aZ (λ(z4:Int×List (Int)×List ar×Unit) j=>W.af (decide (z4.1<(v3.length:Int))) (W.aI z4.2.2.1 z4.1 λC=>W.ct z4.2.2.1 (z4.1.toNat) λr=>W.ae (ml W s.2.2.2.2.1 r) λy=>W.ae (kO W s.2.2.2.1 r) λv9=>W.ae (u6 W s.1 y v9) λv10=>W.af (v10.2.1 != 0) (some (0,v10.2)) (W.bg (z4.2.1.length+(v10.1::[]).length) 8 (j (i64.wrap (z4.1+1),z4.2.1++(v10.1::[]),z4.2.2)))) (W.ae (jv W z4.2.1) λv11=>some v11)) (0,(i64.wrap (0-v2.1))::[],v3,())))
abbrev En:=lK aj
def ku(d:aK):Option (Int×aK):=W.ae (fT W d ((d.2.2.2.2.2.2.2.2.2.2.2.2.2.2.2.1,d.2.2.2.2.2.2.2.2.2.2.2.2.2.2.2.2.1,())::[])) λv1=>W.af (v1.1 != 0) (some v1) (W.ae (j5 W v1.2) λv2=>W.af (v2.1 != 0) (some v2) (W.ae (nq W v2.2) λv3=>W.af (v3.1 != 0) (some v3) (W.two (W.ae (l7 W v3.2.2.2.2.2.1 v3.2.2.2.2.2.2.2.2.2.2.2.2.2.2.2.2.1) λv4=>W.two (W.ae (AQ W v4.1 (v3.2.2.2.2.2.2.2.2.2.2.2.2.2.2.2.2.1,v3.2.2.2.2.2.2.2.2.2.2.2.2.2.2.2.2.2.1,())) λv5=>W.ae (lW W v3.2) λv6=>W.ae (lK W v6.1 v4.1 v5.1) λy=>W.aH (λ(F:Int×Unit)=>some (F.1,v6.2)) λC=>W.aH (λ(r:Bool×Unit)=>W.af r.1 (C (22,())) (C y.2)) λj=>W.af (y.2.1==0) (j (decide (y.1<0),())) (j (false,())))))))
abbrev Io:=ku aj
def vf(d:aK):Option (Int×aK):=W.aH (λ(r:S1)=>some r) λj=>W.af (d.2.2.2.2.2.2.2.2.2.2.2.2.1==14) (W.ae (AJ W d.2.2.1 d.2.2.2.2.2.2.2.2.2.2.2.2.2.2.2.2.2.2.2.1 d.2.2.2.2.2.2.2.2.2.2.2.2.2.2.2.2.2.2.2.2.2.2.2.2.1) λv3=>(j (v3.2.1,d.1,d.2.1,v3.1,d.2.2.2))) (W.af (d.2.2.2.2.2.2.2.2.2.2.2.2.1==15) (W.ae (sy W d.2.2.2.1 d.2.2.2.2.2.2.2.2.2.2.2.2.2.2.2.2.2.2.2.2.1 d.2.2.2.2.2.2.2.2.2.2.2.2.2.2.2.2.2.2.2.2.2.2.2.2.1) λv4=>(j (v4.2.1,U3 d (v4.1,d.2.2.2.2)))) (W.af (d.2.2.2.2.2.2.2.2.2.2.2.2.1==16) (W.ae (pX W d) λv5=>(j v5)) (W.af (d.2.2.2.2.2.2.2.2.2.2.2.2.1==17) (W.ae (kZ W d) λv6=>(j v6)) (W.af (d.2.2.2.2.2.2.2.2.2.2.2.2.1==18) (W.ae (ku W d) λy=>(j y)) (j (0,d))))))
abbrev Nt:=vf aj
def j6(d:aK)(u:ar):Option (Int×aK):=W.ae (jw W d u) λv1=>W.af (v1.1 != 0) (some v1) (W.two (W.ae (l7 W v1.2.2.2.2.2.1 u.1) λv2=>W.af (v2.1.2.2.1==1) (some (17,v1.2)) (some (0,v1.2))))
abbrev Mo:=j6 aj
def Ie(l:List bA):Option Bool:=W.aZ (λ(r:Int×Unit) j=>W.af (decide (r.1<(l.length:Int))) (W.aI l r.1 λy=>W.aH (λ(z4:Bool×Unit)=>W.af z4.1 (some false) (j (i64.wrap (r.1+1),()))) λC=>W.af (cY false ((y.1.1==y.2.1.1)&&(y.1.2.1==y.2.1.2.1))) (C (true,())) (W.af (decide (0<r.1)) (W.aI l (i64.wrap (r.1-1)) λF=>W.ae (mc W F.1 y.1) λG=>(C (!G,()))) (C (false,())))) (some true)) (0,())
abbrev amG:=Ie aj
def dX(s:List bA):Option (List bA):=W.qq (List.isEmpty s) λg1=>W.af (cY false g1) (some []) (W.bg ((0:Nat)+s.length) 40 (some ([]++s)))
abbrev tQ:=dX aj
def xo(W:Wd)(r j:Int)(c:bA):Option (Bool×(Int×Int×Unit)):=some (cY false ((c.1.1==r)&&(c.1.2.1==j)),r,j,())
abbrev L9:=xo aj
def eW(C y:Int)(s:List bA):Option (Int×(Int×Int×Unit)):=W.aZ (λ(r:S14) j=>W.af (decide (r.1<(s.length:Int))) (W.aI s r.1 λF=>W.ae (xo W r.2.1 r.2.2.1 F) λv4=>W.af v4.1 (some (r.1,v4.2)) (j (i64.wrap (r.1+1),v4.2))) (some (-1,r.2))) (0,C,y,())
abbrev eZ:=eW aj
def cS(y r:Int)(s:List bA):Option ((List bA)×(Int×Int×Unit)):=W.ae (eW W y r s) λv1=>W.af (v1.1==(-1)) (some (s,v1.2)) (W.aZ (λ(z2:Int×Int×Int×Int×List bA×Unit) C=>W.af (decide (z2.2.1<(z2.2.2.2.2.1.length:Int))) (W.aH (λ(z4:Int×Int×Int×List bA×Unit)=>(C (z4.1,i64.wrap (z2.2.1+1),z4.2))) λK=>W.aI z2.2.2.2.2.1 z2.2.1 λX=>W.ct z2.2.2.2.2.1 (z2.2.1.toNat) λJ=>W.ae (xo W z2.2.2.1 z2.2.2.2.1 J) λF=>W.af (!F.1) (W.aI z2.2.2.2.2.1 z2.1 λV=>W.ct z2.2.2.2.2.1 (z2.1.toNat) λR=>(K (i64.wrap (z2.1+1),F.2.1,F.2.2.1,List.set z2.2.2.2.2.1 (z2.1.toNat) J,()))) (K (z2.1,F.2.1,F.2.2.1,z2.2.2.2.2))) (W.gW z2.1 z2.2.2.2.2.1.length λH=>W.gW (H:Int) z2.2.2.2.2.1.length λj=>W.gW z2.1 ((z2.2.2.2.2.1.take j)++(List.replicate (z2.2.2.2.2.1.length-j) ((0,0,()),(0,0,()),false,()))).length λG=>some (((z2.2.2.2.2.1.take j)++(List.replicate (z2.2.2.2.2.1.length-j) ((0,0,()),(0,0,()),false,()))).take G,z2.2.2.1,z2.2.2.2.1,()))) (v1.1,i64.wrap (v1.1+1),v1.2.1,v1.2.2.1,s,()))
abbrev lQ:=cS aj
def tt(l:List bA)(from_:ar):Option (List bA):=W.ae (dX W l) λv1=>W.ae (cS W from_.1 from_.2.1 v1) λv2=>some v2.1
abbrev EK:=tt aj
def AV(r j:Int)(c:bA):Option (Bool×(Int×Int×Unit)):=W.ae (mc W (r,j,()) c.1) λv1=>some (v1,r,j,())
abbrev UF:=AV aj
def dz(C y:Int)(s:List bA):Option (Int×(Int×Int×Unit)):=W.aZ (λ(r:S14) j=>W.af (decide (r.1<(s.length:Int))) (W.aI s r.1 λF=>W.ae (AV W r.2.1 r.2.2.1 F) λv4=>W.af v4.1 (some (r.1,v4.2)) (j (i64.wrap (r.1+1),v4.2))) (some (-1,r.2))) (0,C,y,())
abbrev lS:=dz aj
def uW(l:List bA)(from_ j:ar):Option ((List bA)×Int×Unit):=W.ae (Ie W l) λv1=>W.af (!v1) (some ([],3,())) (W.af (cY false ((from_.1==j.1)&&(from_.2.1==j.2.1))) (some ([],24,())) (W.ae (tt W l from_) λv2=>W.ae (dz W from_.1 from_.2.1 v2) λv3=>W.aH (λ(z4:Int×List bA×Unit)=>W.ae (EA z4.2.1 z4.1 ((v3.2,j,false,())::[])) λv5=>some (v5.1,0,())) λr=>W.af (decide (v3.1<0)) (r ((v2.length:Int),v2,())) (r (v3.1,v2,()))))
abbrev ab7:=uW aj
def nr(d:aK):Option (Int×aK):=W.ae (j6 W d (d.2.2.2.2.2.2.2.2.2.2.2.2.2.2.2.1,d.2.2.2.2.2.2.2.2.2.2.2.2.2.2.2.2.1,())) λv1=>W.af (v1.1 != 0) (some v1) (W.ae (iJ W v1.2 (v1.2.2.2.2.2.2.2.2.2.2.2.2.2.2.2.2.1,v1.2.2.2.2.2.2.2.2.2.2.2.2.2.2.2.2.2.1,())) λv2=>W.af (decide (1<v2.1.2.2.1)) (some (13,v2.2)) (W.ae (j6 W v2.2 (v2.2.2.2.2.2.2.2.2.2.2.2.2.2.2.2.2.2.2.1,v2.2.2.2.2.2.2.2.2.2.2.2.2.2.2.2.2.2.2.2.1,())) λv3=>W.af (v3.1 != 0) (some v3) (W.ae (uW W v3.2.2.2.2.2.2.1 (v3.2.2.2.2.2.2.2.2.2.2.2.2.2.2.2.2.1,v3.2.2.2.2.2.2.2.2.2.2.2.2.2.2.2.2.2.1,()) (v3.2.2.2.2.2.2.2.2.2.2.2.2.2.2.2.2.2.2.1,v3.2.2.2.2.2.2.2.2.2.2.2.2.2.2.2.2.2.2.2.1,())) λv4=>W.aH (λ(z5:S0)=>some (v4.2.1,z5)) λj=>W.af (v4.2.1==0) (j (U5 v3.2 (v4.1,v3.2.2.2.2.2.2.2))) (j v3.2))))
abbrev Ox:=nr aj
def G1(W:Wd)(r j:Int)(c:bA):Option (Bool×(Int×Int×Unit)):=some (cY false ((c.1.1==r)&&(c.1.2.1==j)),r,j,())
abbrev To:=G1 aj
def cZ(C y:Int)(s:List bA):Option (Int×(Int×Int×Unit)):=W.aZ (λ(r:S14) j=>W.af (decide (r.1<(s.length:Int))) (W.aI s r.1 λF=>W.ae (G1 W r.2.1 r.2.2.1 F) λv4=>W.af v4.1 (some (r.1,v4.2)) (j (i64.wrap (r.1+1),v4.2))) (some (-1,r.2))) (0,C,y,())
abbrev iG:=cZ aj
def tq(l:List bA)(from_:ar):Option Int:=W.ae (cZ W from_.1 from_.2.1 l) λv1=>some v1.1
abbrev aaW:=tq aj
def uX(l:List bA)(from_ j:ar):Option ((List bA)×Int×Unit):=W.ae (tq W l from_) λv1=>W.ae (Ie W l) λv2=>W.af (!v2) (some ([],3,())) (W.af (decide (v1<0)) (some ([],19,())) (W.aI l v1 λy=>W.af (cY true ((y.2.1.1==j.1)&&(y.2.1.2.1==j.2.1))) (some ([],11,())) (W.ae (dX W l) λv4=>W.aI v4 v1 λC=>W.ct v4 (v1.toNat) λr=>some (List.set v4 (v1.toNat) (r.1,r.2.1,true,()),0,()))))
abbrev ab8:=uX aj
def la(d:aK):Option (Int×aK):=W.ae (fT W d ((d.2.2.2.2.2.2.2.2.2.2.2.2.2.2.2.2.2.1,d.2.2.2.2.2.2.2.2.2.2.2.2.2.2.2.2.2.2.1,())::[])) λv1=>W.af (v1.1 != 0) (some v1) (W.ae (uX W v1.2.2.2.2.2.2.1 (v1.2.2.2.2.2.2.2.2.2.2.2.2.2.2.2.2.1,v1.2.2.2.2.2.2.2.2.2.2.2.2.2.2.2.2.2.1,()) (v1.2.2.2.2.2.2.2.2.2.2.2.2.2.2.2.2.2.2.1,v1.2.2.2.2.2.2.2.2.2.2.2.2.2.2.2.2.2.2.2.1,())) λv2=>W.aH (λ(z3:S0)=>some (v2.2.1,z3)) λj=>W.af (v2.2.1==0) (j (U5 v1.2 (v2.1,v1.2.2.2.2.2.2.2))) (j v1.2))
abbrev JR:=la aj
def qS(m:aW)(day from_:Int):Option (aW×Int×Unit):=W.aH (λ(r:Bool×Unit)=>W.af r.1 (some ((0,0,0,0,()),2,())) (W.af (m.2.2.1 != from_) (some ((0,0,0,0,()),13,())) (some ((m.1,m.2.1,i64.wrap (m.2.2.1+1),m.2.2.2),0,())))) λj=>W.ae (sC W m) λv3=>W.af (v3 != 0) (j (true,())) (W.af (decide (day<0)) (j (true,())) (j (decide (1048576<day),())))
abbrev aeq:=qS aj
def xZ(m:aW)(day days:Int):Option (aW×Int×Unit):=W.aH (λ(y:Bool×Unit)=>W.af y.1 (some ((0,0,0,0,()),2,())) (W.ae (qS W m day 0) λv2=>W.aH (λ(z3:S17)=>some (z3,v2.2)) λr=>W.af (v2.2.1==0) (r (U3 v2.1 (i64.wrap (day+days),()))) (r v2.1))) λj=>W.af (decide (days<0)) (j (true,())) (j (decide (16<days),()))
abbrev RS:=xZ aj
def j4(d:aK)(m:aW):Option (Int×aK):=W.ae (tw W d.2.1 m) λv1=>W.aH (λ(z2:S0)=>some (v1.2.1,z2)) λj=>W.af (v1.2.1==0) (j (d.1,v1.1,d.2.2)) (j d)
abbrev Fh:=j4 aj
def AL(r j:Int)(g:cj):Option (Bool×(Int×Int×Unit)):=W.af (cY false ((g.2.1.1==r)&&(g.2.1.2.1==j))) (some (true,r,j,())) (some (cY false ((g.2.2.1.1==r)&&(g.2.2.1.2.1==j)),r,j,()))
abbrev aiT:=AL aj
def oA(C y:Int)(l:List cj):Option ((List Int)×(Int×Int×Unit)):=W.aZ (λ(j:Int×Int×Int×List (Int)×Unit) r=>W.af (decide (j.1<(l.length:Int))) (W.aH (λ(z3:S15)=>(r (i64.wrap (j.1+1),z3))) λJ=>W.aI l j.1 λG=>W.aH (λ(F:Bool×Int×Int×List (Int)×Unit)=>W.af F.1 (W.bg (F.2.2.2.1.length+(G.1::[]).length) 8 (J (F.2.1,F.2.2.1,F.2.2.2.1++(G.1::[]),()))) (J F.2)) λH=>W.af (G.2.2.2.2.2.2.2.1==1) (W.ae (AL W j.2.1 j.2.2.1 G) λK=>(H (U3 K j.2.2.2))) (H (false,j.2))) (some (j.2.2.2.1,j.2.1,j.2.2.1,()))) (0,C,y,[],())
abbrev JJ:=oA aj
def GO(l:List cj)(u:ar):Option (List Int):=W.ae (oA W u.1 u.2.1 l) λv1=>some v1.1
abbrev afw:=GO aj
def rk(s:aV)(u:ar):Option (az×Int×Unit):=W.ae (l7 W s.2.2.2.2.1 u.1) λv1=>W.aH (λ(z2:Bool×Unit)=>W.af z2.1 (some ((0,0,0,[],()),11,())) (W.af (v1.1.2.2.1==1) (some ((0,0,0,[],()),17,())) (some (v1.1,0,())))) λj=>W.af (!v1.2.1) (j (true,())) (W.ae (q7 W v1.1 u) λv4=>(j (!v4,())))
abbrev aaZ:=rk aj
def BL(m:aW)(day:Int):Option Int:=W.aH (λ(r:Bool×Unit)=>W.af r.1 (some 0) (some (if(i64.wrap ((i64.wrap (m.2.2.2.1-day))+1))>1 then(i64.wrap ((i64.wrap (m.2.2.2.1-day))+1))else 1))) λj=>W.af (m.2.2.1 != 1) (j (true,())) (j (decide (m.2.2.2.1<day),()))
abbrev adR:=BL aj
def xQ(m:aW)(day:Int):Option Int:=W.ae (BL W m day) λv1=>W.af (v1==0) (some 18) (some 0)
abbrev adQ:=xQ aj
def uQ(s:aV)(from_:ar):Option Int:=W.ae (rk W s from_) λv1=>W.af (v1.2.1 != 0) (some v1.2.1) (W.ae (im W s.2.1 v1.1.2.1) λv2=>W.af (!v2.2.1) (some 18) (W.ae (xQ W v2.1 s.1) λv3=>some v3))
abbrev aba:=uQ aj
def xP(l:List bA)(from_:ar):Option (bA×Bool×Unit):=W.ae (tq W l from_) λv1=>W.af (decide (v1<0)) (some (((0,0,()),(0,0,()),false,()),false,())) (W.aI l v1 λj=>some (j,true,()))
abbrev adP:=xP aj
def uN(l:List bA)(from_:ar):Option (ar×Int×Unit):=W.ae (xP W l from_) λv1=>W.af (!v1.2.1) (some ((0,0,()),19,())) (W.af (!v1.1.2.2.1) (some ((0,0,()),20,())) (some (v1.1.2.1,0,())))
abbrev Pd:=uN aj
def xR(s:aV)(u:ar):Option Bool:=W.ae (vd W s.2.2.2.2.2.2.2.2.1 u) λv1=>W.af ((v1.length:Int)==0) (W.ae (kO W s.2.2.2.2.2.2.2.2.2.2.1 u) λv2=>W.af (v2==0) (W.ae (ml W s.2.2.2.2.2.2.2.2.2.2.2.1 u) λv3=>some ((v3.length:Int)==0)) (some false)) (some false)
abbrev Tp:=xR aj
def Ay(a:Int)(l:List Int):Option Int:=W.aZ (λ(r:ZG) j=>W.af (decide (r.2.1<(l.length:Int))) (W.aI l r.2.1 λy=>(j ((if y<r.1 then y else r.1),i64.wrap (r.2.1+1),()))) (some r.1)) (a,0,())
abbrev Wt:=Ay aj
def uO(m:aW)(used more:Int):Option Int:=W.ae (Ay W used (more::[])) λv1=>W.af (decide (v1<0)) (some 2) (W.ae (jv W (used::(more::[]))) λv2=>W.aH (λ(z3:Bool×Unit)=>W.af z3.1 (some 16) (some 0)) λj=>W.af (v2.2.1 != 0) (j (true,())) (j (decide (m.2.1<v2.1),())))
abbrev aaX:=uO aj
def xS(s:aV)(from_ j:ar):Option Int:=W.ae (rk W s j) λv1=>W.af (v1.2.1 != 0) (some v1.2.1) (W.ae (im W s.2.1 v1.1.2.1) λv2=>W.aH (λ(z3:Bool×Unit)=>W.af z3.1 (some 15) (W.ae (xR W s j) λv4=>W.af (!v4) (some 21) (W.ae (wH W s.2.2.2.2.2.2.2.2.1 (from_::[])) λv5=>W.af (v5.2.1 != 0) (some v5.2.1) (W.ae (sZ W s v2.1.1) λv6=>W.af (v6.2.1 != 0) (some v6.2.1) (W.ae (uO W v2.1 v6.1 v5.1) λy=>some y))))) λr=>W.af (!v2.2.1) (r (true,())) (W.ae (jH W v2.1) λv9=>(r (v9 != 0,()))))
abbrev adU:=xS aj
def Dy(s:aV)(from_:ar):Option (ar×Int×Unit):=W.ae (uQ W s from_) λv1=>W.af (v1 != 0) (some ((0,0,()),v1,())) (W.ae (uN W s.2.2.2.2.2.1 from_) λv2=>W.af (v2.2.1 != 0) (some ((0,0,()),v2.2)) (W.ae (xS W s from_ v2.1) λv3=>W.af (v3 != 0) (some ((0,0,()),v3,())) (some (v2.1,0,()))))
abbrev ang:=Dy aj
def AA(l:List bj)(from_ j:ar):Option ((List bj)×Int×Unit):=W.ae (yd W l) λv1=>W.af (!v1) (some ([],3,())) (W.af (cY false ((from_.1==j.1)&&(from_.2.1==j.2.1))) (some ([],24,())) (W.ae (ml W l j) λv2=>W.af (decide (0<(v2.length:Int))) (some ([],21,())) (W.ae (ml W l from_) λv3=>W.ae (zy W l from_ []) λv4=>W.ae (zy W v4 j v3) λv5=>some (v5,0,()))))
abbrev Oa:=AA aj
def wI(s:aV)(from_:ar):Option (aV×ar×Int×Unit):=W.ae (Dy W s from_) λv1=>W.af (v1.2.1 != 0) (some ((0,[],[],[],[],[],[],[],[],[],[],[],()),(0,0,()),v1.2)) (W.ae (vd W s.2.2.2.2.2.2.2.2.1 from_) λv2=>W.ae (Ar W (v2::[])) λv3=>W.aH (λ(z4:S2)=>W.aH (λ(z5:S2)=>W.aH (λ(j:S2)=>W.af (j.1 != 0) (some ((0,[],[],[],[],[],[],[],[],[],[],[],()),(0,0,()),j.1,())) (W.ae (tt W j.2.2.2.2.2.2.1 from_) λG=>some (U5 j.2 (G,j.2.2.2.2.2.2.2),v1.1,0,()))) λF=>W.af (z5.1==0) (W.ae (AA W z5.2.2.2.2.2.2.2.2.2.2.2.2.1 from_ v1.1) λv9=>(F (v9.2.1,U11 z5.2 (v9.1,())))) (F z5)) λC=>W.af (z4.1==0) (W.two (W.ae (kO W z4.2.2.2.2.2.2.2.2.2.2.2.1 from_) λv11=>W.ae (lJ W z4.2.2.2.2.2.2.2.2.2.2.2.1 from_ v1.1 v11) λv12=>(C (v12.2.1,U10 z4.2 (v12.1,z4.2.2.2.2.2.2.2.2.2.2.2.2))))) (C z4)) λy=>W.af (v3.2.1==0) (W.ae (qO W s.2.2.2.2.2.2.2.2.1 from_ v1.1 v3.1) λr=>(y (r.2.1,U8 s (r.1,s.2.2.2.2.2.2.2.2.2)))) (y (v3.2.1,s)))
abbrev aiE:=wI aj
def wR(d:aK):Option (Int×aK):=W.gA (W.ae (wI W (xc d ()) (d.2.2.2.2.2.2.2.2.2.2.2.2.2.2.2.1,d.2.2.2.2.2.2.2.2.2.2.2.2.2.2.2.2.1,())) λv1=>W.two (W.aH (λ(z2:S0)=>some (v1.2.2.1,z2)) λr=>W.af (v1.2.2.1==0) (W.two (r (xc v1.1 (U15 d.2.2.2.2.2.2.2.2.2.2.2.2 (v1.2.1.1::(v1.2.1.2.1::[]),d.2.2.2.2.2.2.2.2.2.2.2.2.2.2.2.2.2.2.2.2.2.2.2.2.2.2.2.2))))) (r d))) (W.two (W.two (W.ae (wI W (xc d ()) (d.2.2.2.2.2.2.2.2.2.2.2.2.2.2.2.1,d.2.2.2.2.2.2.2.2.2.2.2.2.2.2.2.2.1,())) λv6=>W.aH (λ(y:S0)=>some (v6.2.2.1,y)) λj=>W.af (v6.2.2.1==0) (W.two (j (xc v6.1 (U15 d.2.2.2.2.2.2.2.2.2.2.2.2 (v6.2.1.1::(v6.2.1.2.1::[]),d.2.2.2.2.2.2.2.2.2.2.2.2.2.2.2.2.2.2.2.2.2.2.2.2.2.2.2.2))))) (j d))))
abbrev Qe:=wR aj
def ya(m:aW)(day:Int):Option (aW×Int×Unit):=W.ae (qS W m day 1) λv1=>W.af (v1.2.1 != 0) (some ((0,0,0,0,()),v1.2)) (W.af (decide (day<=m.2.2.2.1)) (some ((0,0,0,0,()),18,())) (some (v1.1,0,())))
abbrev TK:=ya aj
def s9(s:aV):Option Bool:=W.ae (pY W s.2.2.2.2.2.2.2.2.1) λv1=>W.af v1 (W.ae (pY W s.2.2.2.2.2.2.2.2.2.1) λv2=>some v2) (some false)
abbrev ac1:=s9 aj
def tY(r j:Int)(a:az):Option (Bool×(Int×Int×Unit)):=W.ae (q7 W a (r,j,())) λv1=>some (v1,r,j,())
abbrev ZJ:=tY aj
def dx(C y:Int)(s:List az):Option (Int×(Int×Int×Unit)):=W.aZ (λ(r:S14) j=>W.af (decide (r.1<(s.length:Int))) (W.aI s r.1 λF=>W.ae (tY W r.2.1 r.2.2.1 F) λv4=>W.af v4.1 (some (r.1,v4.2)) (j (i64.wrap (r.1+1),v4.2))) (some (-1,r.2))) (0,C,y,())
abbrev lP:=dx aj
def cK(r j:Int)(s:List az):Option (Bool×(Int×Int×Unit)):=W.ae (dx W r j s) λv1=>some (decide (0<=v1.1),v1.2)
abbrev kK:=cK aj
def wb(s:aV)(id:Int)(u:ar):Option Bool:=W.ae (tV W s.2.2.2.2.1 id) λv1=>W.ae (cK W u.1 u.2.1 v1) λv2=>some v2.1
abbrev Vp:=wb aj
def xu(s:aV)(id:Int):Option (aV×Int×Unit):=W.ae (s9 W s) λv1=>W.af (!v1) (some ((0,[],[],[],[],[],[],[],[],[],[],[],()),3,())) (W.aZ (λ(z2:Int×Int×List aW×List bH×List bh×List az×List bA×List bR×List cj×List bC×List bC×List aU×List bj×List bC×Unit) j=>W.af (decide (z2.1<(s.2.2.2.2.2.2.2.2.1.length:Int))) (W.aH (λ(z4:Int×List aW×List bH×List bh×List az×List bA×List bR×List cj×List bC×List bC×List aU×List bj×List bC×Unit)=>(j (i64.wrap (z2.1+1),z4))) λC=>W.aI s.2.2.2.2.2.2.2.2.1 z2.1 λr=>W.ae (wb W (xc z2.2 ()) id r.1) λF=>W.af (!F) (W.bg (z2.2.2.2.2.2.2.2.2.2.2.2.2.2.1.length+(r::[]).length) 40 (C (xc z2.2 (z2.2.2.2.2.2.2.2.2.2.2.2.2.2.1++(r::[]),())))) (W.ae (nf W z2.2.2.2.2.2.2.2.2.2.2.1 r.1 r.2.1) λy=>W.af (y.2.1 != 0) (some ((0,[],[],[],[],[],[],[],[],[],[],[],()),y.2)) (C (U9 z2.2 (y.1,z2.2.2.2.2.2.2.2.2.2.2.2))))) (some (U8 z2.2 (z2.2.2.2.2.2.2.2.2.2.2.2.2.2.1,U3 z2.2.2.2.2.2.2.2.2.2.2 ()),0,()))) (0,xc s ([],())))
abbrev IY:=xu aj
def jS(d:aK):Option (Int×aK):=W.ae (fE W d) λv1=>W.aH (λ(z2:S21)=>W.aH (λ(z3:S1)=>W.af (z3.1 != 0) (some z3) (W.two (W.ae (xu W (xc z3.2 ()) z2.2.1) λv4=>W.aH (λ(z5:S0)=>some (v4.2.1,z5)) λC=>W.af (v4.2.1==0) (C (xc v4.1 z3.2.2.2.2.2.2.2.2.2.2.2.2.2)) (C z3.2)))) λy=>W.af (z2.1==0) (W.ae (j4 W v1.2 z2.2) λv11=>(y v11)) (y (z2.1,v1.2))) λr=>W.af (v1.1.2.1==0) (W.ae (ya W v1.1.1 v1.2.1) λj=>(r (j.2.1,j.1))) (r (v1.1.2.1,v1.1.1))
abbrev GS:=jS aj
def CR(all i6:Int):Option Bool:=W.af (decide (0<i6)) (W.af (decide (i6<=all)) (some true) (W.af (decide (i6<0)) (some (decide (all<=i6))) (some false))) (W.af (decide (i6<0)) (some (decide (all<=i6))) (some false))
abbrev ajy:=CR aj
def xv(s:aV)(u:ar):Option Int:=W.ae (l7 W s.2.2.2.2.1 u.1) λv1=>W.aH (λ(z2:Bool×Unit)=>W.af z2.1 (some 11) (W.af (v1.1.2.2.1 != 1) (some 17) (W.ae (im W s.2.1 v1.1.2.1) λv3=>W.af (!v3.2.1) (some 15) (W.ae (jH W v3.1) λv4=>some v4)))) λj=>W.af (!v1.2.1) (j (true,())) (W.ae (q7 W v1.1 u) λv6=>(j (!v6,())))
abbrev ac3:=xv aj
def xw(s:aV)(u j:ar)(id i6 eT:Int):Option Int:=W.ae (px W s.2.2.1 id) λv1=>W.aH (λ(z2:Bool×Unit)=>W.af z2.1 (some 3) (W.af (!v1.2.1) (some 11) (W.aH (λ(z3:Bool×Unit)=>W.af z3.1 (some 2) (W.ae (vd W s.2.2.2.2.2.2.2.2.2.1 u) λv4=>W.ae (Mr W v4 id) λv5=>W.ae (CR W v5 i6) λv6=>W.af (!v6) (some 23) (W.ae (xv W s j) λC=>some C))) λr=>W.af (i6==0) (r (true,())) (W.af (decide (eT<0)) (r (true,())) (r (decide (2147483647<eT),())))))) λy=>W.ae (s9 W s) λv10=>W.af (!v10) (y (true,())) (W.ae (qe W s.2.2.2.2.2.2.2.2.2.2.1) λv11=>(y (!v11,())))
abbrev ac4:=xw aj
def zH(s:aV)(u j:ar)(id i6 eT:Int):Option (aV×Int×Unit):=W.ae (xw W s u j id i6 eT) λv1=>W.af (v1 != 0) (some ((0,[],[],[],[],[],[],[],[],[],[],[],()),v1,())) (W.ae (px W s.2.2.1 id) λv2=>W.ae (EP W v2.1 i6 eT v2.1.2.2.1) λv3=>W.af (v3.2.1 != 0) (some ((0,[],[],[],[],[],[],[],[],[],[],[],()),v3.2)) (W.ae (sd W ((id,i6,())::[])) λv4=>W.aH (λ(z5:Int×Int×List aW×List bH×List bh×List az×List bA×List bR×List cj×List bC×List bC×List aU×List bj×List ar×Unit)=>W.aH (λ(r:S2)=>W.aH (λ(G:S2)=>W.af (G.1 != 0) (some ((0,[],[],[],[],[],[],[],[],[],[],[],()),G.1,())) (some (G.2,0,()))) λH=>W.af (r.1==0) (W.ae (lJ W r.2.2.2.2.2.2.2.2.2.2.2.1 u j v3.1) λv9=>(H (v9.2.1,U10 r.2 (v9.1,r.2.2.2.2.2.2.2.2.2.2.2.2)))) (H r)) λF=>W.af (z5.1==0) (W.ae (nf W z5.2.2.2.2.2.2.2.2.2.1 j z5.2.2.2.2.2.2.2.2.2.2.2.2.2.1) λv11=>(F (v11.2.1,U8 z5.2 (v11.1,U3 z5.2.2.2.2.2.2.2.2.2.2 ())))) (F (U13 z5 ()))) λC=>W.af (v4.2.1==0) (W.ae (nf W s.2.2.2.2.2.2.2.2.2.1 u v4.1) λy=>(C (y.2.1,U9 s (y.1,s.2.2.2.2.2.2.2.2.2.2.1,s.2.2.2.2.2.2.2.2.2.2.2.1,(id,i6,())::[],())))) (C (v4.2.1,xc s ((id,i6,())::[],())))))
abbrev ahh:=zH aj
def jX(d:aK):Option (Int×aK):=W.ae (jw W d (d.2.2.2.2.2.2.2.2.2.2.2.2.2.2.2.1,d.2.2.2.2.2.2.2.2.2.2.2.2.2.2.2.2.1,())) λv1=>W.af (v1.1 != 0) (some v1) (W.ae (iJ W v1.2 (v1.2.2.2.2.2.2.2.2.2.2.2.2.2.2.2.2.1,v1.2.2.2.2.2.2.2.2.2.2.2.2.2.2.2.2.2.1,())) λv2=>W.af (v2.1.2.2.1 != 2) (some (13,v2.2)) (W.two (W.ae (zH W (xc v2.2 ()) (v2.2.2.2.2.2.2.2.2.2.2.2.2.2.2.2.2.1,v2.2.2.2.2.2.2.2.2.2.2.2.2.2.2.2.2.2.1,()) (v2.2.2.2.2.2.2.2.2.2.2.2.2.2.2.2.2.2.2.1,v2.2.2.2.2.2.2.2.2.2.2.2.2.2.2.2.2.2.2.2.1,()) v2.2.2.2.2.2.2.2.2.2.2.2.2.2.2.2.2.2.2.2.2.1 v2.2.2.2.2.2.2.2.2.2.2.2.2.2.2.2.2.2.2.2.2.2.2.2.2.1 v2.2.2.2.2.2.2.2.2.2.2.2.2.2.2.2.2.2.2.2.2.2.2.2.2.2.1) λv3=>W.af (v3.2.1 != 0) (some (v3.2.1,v2.2)) (W.ae (mT W (xc v3.1 v2.2.2.2.2.2.2.2.2.2.2.2.2.2) ((v2.2.2.2.2.2.2.2.2.2.2.2.2.2.2.2.2.2.2.1,v2.2.2.2.2.2.2.2.2.2.2.2.2.2.2.2.2.2.2.2.1,())::[])) λv4=>some v4))))
abbrev Fj:=jX aj
def uU(m:aW)(day:Int):Option (aW×Int×Unit):=W.ae (qS W m day 2) λv1=>some v1
abbrev OR:=uU aj
def zF(s:aV)(id:Int):Option (List bC):=W.aZ (λ(r:S25) j=>W.af (decide (r.1<(s.2.2.2.2.2.2.2.2.2.1.length:Int))) (W.aH (λ(z3:List bC×Unit)=>(j (i64.wrap (r.1+1),z3))) λC=>W.aI s.2.2.2.2.2.2.2.2.2.1 r.1 λy=>W.ae (wb W s id y.1) λv6=>W.af v6 (W.bg (r.2.1.length+(y::[]).length) 40 (C (r.2.1++(y::[]),()))) (C r.2)) (some r.2.1)) (0,[],())
abbrev M2:=zF aj
def G3(l:List az):Option ((List ar)×(List ar)×Unit):=W.aZ (λ(j:Int×List ar×List ar×Unit) r=>W.af (decide (j.1<(l.length:Int))) (W.aH (λ(z3:List ar×List ar×Unit)=>(r (i64.wrap (j.1+1),z3))) λF=>W.aI l j.1 λy=>W.ae (ji W y) λv6=>W.bg (j.2.1.length+v6.length) 16 (W.af (y.2.2.1==1) (W.ae (ji W y) λC=>W.bg (j.2.2.1.length+C.length) 16 (F (j.2.1++v6,j.2.2.1++C,()))) (F (j.2.1++v6,j.2.2)))) (some j.2)) (0,[],[],())
abbrev ae2:=G3 aj
def qH(s:aV)(u:ar):Option (Int×Int×Unit):=W.ae (kO W s.2.2.2.2.2.2.2.2.2.2.1 u) λv1=>W.ae (ui W (if v1<0 then v1 else 0)) λv2=>some v2
abbrev Vx:=qH aj
def K5(a n d:Int):Option (Int×Int×Unit):=W.ae (oP W a n) λv1=>W.ae (q9 W v1 d) λv2=>W.aH (λ(z3:S14)=>W.ae (pd W z3.2 z3.1) λv4=>some v4) λy=>W.aH (λ(C:Bool×Unit)=>W.af C.1 (W.two (W.ae (oR W 1) λF=>W.ae (wQ W (v2.1::(F::[]))) λr=>(y (r.2.1,r.1)))) (y (v2.2.2.1,v2.1))) λj=>W.af (v2.2.2.1==0) (j (decide (0<v2.2.1),())) (j (false,()))
abbrev atm:=K5 aj
def xz(a:bh)(j:Int):Option (Int×Int×Unit):=W.ae (pv W a) λv1=>W.af (v1 != 0) (some (0,v1,())) (W.af (decide (j<=0)) (some (0,0,())) (W.ae (K5 W j 1 a.2.1) λv2=>some v2))
abbrev acF:=xz aj
def zP(l:List bj)(from_ j:ar)(r:bh)(tag:Int):Option ((List bj)×Int×Unit):=W.ae (yd W l) λv1=>W.af (!v1) (some ([],3,())) (W.af (cY false ((from_.1==j.1)&&(from_.2.1==j.2.1))) (some ([],24,())) (W.ae (nX W l from_ r) λv2=>W.af (v2.2.1 != 0) (some ([],v2.2)) (W.ae (qc W v2.1 j (r.1,tag,r.2.2)) λv3=>some v3)))
abbrev VC:=zP aj
def zQ(s:aV)(u:ar)(j:bh)(missing:Int):Option (aV×Int×Unit):=W.ae (pe W s.2.2.2.1 j.1) λv1=>W.af (!v1.2.1) (some ((0,[],[],[],[],[],[],[],[],[],[],[],()),11,())) (W.af (v1.1.2.1==0) (some (s,0,())) (W.ae (xz W v1.1 missing) λv2=>W.af (v2.2.1 != 0) (some ((0,[],[],[],[],[],[],[],[],[],[],[],()),v2.2)) (W.ae (po W v1.1 (if j.2.2.1<v2.1 then j.2.2.1 else v2.1)) λv3=>W.aH (λ(z4:S2)=>W.aH (λ(z5:S2)=>W.af (z5.1 != 0) (some ((0,[],[],[],[],[],[],[],[],[],[],[],()),z5.1,())) (some (z5.2,0,()))) λF=>W.af (z4.1==0) (W.two (W.ae (mj W) λG=>W.ae (lJ W z4.2.2.2.2.2.2.2.2.2.2.2.1 G u v3.1) λC=>(F (C.2.1,U10 z4.2 (C.1,z4.2.2.2.2.2.2.2.2.2.2.2.2))))) (F z4)) λy=>W.af (v3.2.1==0) (W.two (W.ae (mj W) λv12=>W.ae (zP W s.2.2.2.2.2.2.2.2.2.2.2.1 u v12 (j.1,j.2.1,(if j.2.2.1<v2.1 then j.2.2.1 else v2.1),()) 0) λr=>(y (r.2.1,U11 s (r.1,()))))) (y (v3.2.1,s)))))
abbrev VE:=zQ aj
def wk(s:aV)(u:ar)(cash:Int):Option (aV×Int×Unit):=W.aH (λ(J:Bool×Unit)=>W.af J.1 (some ((0,[],[],[],[],[],[],[],[],[],[],[],()),3,())) (W.ae (mj W) λv2=>W.af (cY false ((u.1==v2.1)&&(u.2.1==v2.2.1))) (some ((0,[],[],[],[],[],[],[],[],[],[],[],()),2,())) (W.ae (ml W s.2.2.2.2.2.2.2.2.2.2.2.1 u) λv3=>W.aZ (λ(z4:S8) j=>W.af (decide (z4.1<(v3.length:Int))) (W.aI z4.2.2.2.2.2.2.2.2.2.2.2.2.2.1 z4.1 λV=>W.ct z4.2.2.2.2.2.2.2.2.2.2.2.2.2.1 (z4.1.toNat) λK=>W.ae (kO W z4.2.2.2.2.2.2.2.2.2.2.2.1 u) λR=>W.ae (xU W cash R) λv9=>W.aH (λ(r:S8)=>W.af (r.1 != 0) (some ((0,[],[],[],[],[],[],[],[],[],[],[],()),r.1,())) (j (i64.wrap (z4.1+1),r.2))) λG=>W.aH (λ(z12:Bool×List bh×Unit)=>W.af z12.1 (W.ae (zQ W (xc z4.2 ()) u K v9.1) λy=>(G (y.2.1,xc y.1 z12.2))) (G (v9.2.1,xc z4.2 z12.2))) λF=>W.af (v9.2.1==0) (F (decide (0<v9.1),z4.2.2.2.2.2.2.2.2.2.2.2.2.2)) (F (false,z4.2.2.2.2.2.2.2.2.2.2.2.2.2))) (some (xc z4.2 (),0,()))) (0,xc s (v3,()))))) λC=>W.ae (qe W s.2.2.2.2.2.2.2.2.2.2.1) λH=>W.af (!H) (C (true,())) (W.ae (yd W s.2.2.2.2.2.2.2.2.2.2.2.1) λv17=>(C (!v17,())))
abbrev VF:=wk aj
def C4(s:aV)(u:ar):Option (aV×(List fH)×Int×Unit):=W.ae (qH W s u) λv1=>W.af (v1.2.1 != 0) (some ((0,[],[],[],[],[],[],[],[],[],[],[],()),[],v1.2)) (W.ae (wk W s u 0) λv2=>W.af (v2.2.1 != 0) (some ((0,[],[],[],[],[],[],[],[],[],[],[],()),[],v2.2)) (W.ae (qH W v2.1 u) λv3=>W.af (v1.1==v3.1) (some (v2.1,[],0,())) (W.two (some (v2.1,(u,u,i64.wrap (v1.1-v3.1),())::[],0,())))))
abbrev f_:=C4 aj
def qV(r0:Int)(r1:List aW)(X:List bH)(V:List bh)(R:List az)(K:List bA)(J:List bR)(H:List cj)(G F:List bC)(C:List aU)(y:List bj)(r:List fH)(Y:Int)(s:aV)(j:List fH)(e:Int):Option (Unit×(Int×(List aW)×(List bH)×(List bh)×(List az)×(List bA)×(List bR)×(List cj)×(List bC)×(List bC)×(List aU)×(List bj)×(List fH)×Int×Unit)):=W.af (e==0) (W.bg (r.length+j.length) 40 (some ((),xc s (r++j,e,())))) (some ((),r0,r1,X,V,R,K,J,H,G,F,C,y,r,e,()))
abbrev UJ:=qV aj
def CG(r0:Int)(r1:List aW)(r2:List bH)(r3:List bh)(r4:List az)(r5:List bA)(Y:List bR)(X:List cj)(V R:List bC)(H:List aU)(G:List bj)(F:List fH)(C:Int)(l:List ar):Option (Unit×(Int×(List aW)×(List bH)×(List bh)×(List az)×(List bA)×(List bR)×(List cj)×(List bC)×(List bC)×(List aU)×(List bj)×(List fH)×Int×Unit)):=W.aZ (λ(j:Sq0) r=>W.af (decide (j.1<(l.length:Int))) (W.aH (λ(z3:Sq1)=>(r (i64.wrap (j.1+1),z3))) λJ=>W.aI l j.1 λK=>W.af (j.2.2.2.2.2.2.2.2.2.2.2.2.2.1==0) (W.ae (C4 W (xc j.2 ()) K) λv6=>W.ae (qV W j.2.1 j.2.2.1 j.2.2.2.1 j.2.2.2.2.1 j.2.2.2.2.2.1 j.2.2.2.2.2.2.1 j.2.2.2.2.2.2.2.1 j.2.2.2.2.2.2.2.2.1 j.2.2.2.2.2.2.2.2.2.1 j.2.2.2.2.2.2.2.2.2.2.1 j.2.2.2.2.2.2.2.2.2.2.2.1 j.2.2.2.2.2.2.2.2.2.2.2.2.1 j.2.2.2.2.2.2.2.2.2.2.2.2.2.2.1 j.2.2.2.2.2.2.2.2.2.2.2.2.2.1 v6.1 v6.2.1 v6.2.2.1) λy=>(J (xc y.2 (y.2.2.2.2.2.2.2.2.2.2.2.2.2.2.1,y.2.2.2.2.2.2.2.2.2.2.2.2.2.1,())))) (J j.2)) (some ((),xc j.2 (j.2.2.2.2.2.2.2.2.2.2.2.2.2.2.1,j.2.2.2.2.2.2.2.2.2.2.2.2.2.1,())))) (0,r0,r1,r2,r3,r4,r5,Y,X,V,R,H,G,C,F,())
abbrev YR:=CG aj
def nz(s:aV)(l:List ar):Option (((List Int)×Int×Int×Unit)×Unit):=W.aZ (λ(r:S10) j=>W.af (decide (r.1<(l.length:Int))) (W.aI l r.1 λy=>W.ae (qH W s y) λv4=>W.af (v4.2.1 != 0) (some (([],0,v4.2),())) (W.bg (r.2.1.length+(v4.1::[]).length) 8 (j (i64.wrap (r.1+1),r.2.1++(v4.1::[]),())))) (W.ae (jv W r.2.1) λv5=>some ((r.2.1,v5),()))) (0,[],())
abbrev Ix:=nz aj
def iE(r l:List bh):Option (((List Int)×Int×Unit)×Unit):=W.ae (AU W l) λv1=>W.af (!v1) (some (([],3,()),())) (W.aZ (λ(z2:S10) j=>W.af (decide (z2.1<(l.length:Int))) (W.aI l z2.1 λy=>W.ae (pe W r y.1) λv5=>W.af (!v5.2.1) (some (([],11,()),())) (W.ae (po W v5.1 y.2.2.1) λv6=>W.af (v6.2.1 != 0) (some (([],v6.2),())) (W.bg (z2.2.1.length+(v6.1::[]).length) 8 (j (i64.wrap (z2.1+1),z2.2.1++(v6.1::[]),()))))) (some ((z2.2.1,0,()),()))) (0,[],()))
abbrev Ck:=iE aj
def uh(j l:List bh):Option (Int×Int×Unit):=W.ae (iE W j l) λv1=>W.af (v1.1.2.1 != 0) (some (0,v1.1.2)) (W.ae (jv W v1.1.1) λv2=>some v2)
abbrev OI:=uh aj
def wj(s:aV)(u:ar):Option (Int×Int×Unit):=W.ae (ml W s.2.2.2.2.2.2.2.2.2.2.2.1 u) λv1=>W.ae (uh W s.2.2.2.1 v1) λv2=>W.af (v2.2.1 != 0) (some (0,v2.2)) (W.ae (kO W s.2.2.2.2.2.2.2.2.2.2.1 u) λv3=>W.ae (jv W (v2.1::(v3::[]))) λv4=>some ((if v4.1>0 then v4.1 else 0),v4.2))
abbrev ahu:=wj aj
def AR(s:aV)(u:ar):Option (Int×Int×Unit):=W.ae (wj W s u) λv1=>W.aH (λ(z2:Int×Unit)=>some (z2.1,v1.2)) λj=>W.ae (kO W s.2.2.2.2.2.2.2.2.2.2.1 u) λv4=>W.af (decide (v4<0)) (j (0,())) (j (v1.1,()))
abbrev ajg:=AR aj
def nC(s:aV)(l:List ar):Option (((List Int)×Int×Int×Unit)×Unit):=W.aZ (λ(r:S10) j=>W.af (decide (r.1<(l.length:Int))) (W.aI l r.1 λy=>W.ae (AR W s y) λv4=>W.af (v4.2.1 != 0) (some (([],0,v4.2),())) (W.bg (r.2.1.length+(v4.1::[]).length) 8 (j (i64.wrap (r.1+1),r.2.1++(v4.1::[]),())))) (W.ae (jv W r.2.1) λv5=>some ((r.2.1,v5),()))) (0,[],())
abbrev Iy:=nC aj
def Mt(fe:List Int):Option Int:=W.aZ (λ(r:Int×Unit) j=>W.af (decide (r.1<(fe.length:Int))) (W.aI fe r.1 λy=>W.af (y != 0) (some y) (j (i64.wrap (r.1+1),()))) (some 0)) (0,())
abbrev aoQ:=Mt aj
def ru(total:Int)(l:List Int):Option Bool:=W.ae (Ay W total l) λv1=>some (decide (0<=v1))
abbrev abS:=ru aj
def sB(total sum:Int)(weights:List Int):Option ((List bh)×Int×Unit):=W.iV (weights.length:Int) (W.bg ((weights.length:Int).toNat) 24 (W.aZ (λ(j:Int×Int×List bh×Unit) r=>W.af (decide (j.2.1<(weights.length:Int))) (W.aI weights j.2.1 λy=>W.ae (qG W total y sum) λv4=>W.bg (j.2.2.1.length+((j.2.1,v4.1,v4.2.1,())::[]).length) 24 (r (i64.wrap (j.1+v4.1),i64.wrap (j.2.1+1),j.2.2.1++((j.2.1,v4.1,v4.2.1,())::[]),()))) (some (j.2.2.1,j.1,()))) (0,0,[],())))
abbrev YY:=sB aj
def u9(total:Int)(weights:List Int):Option ((List Int)×Int×Unit):=W.ae (ru W total weights) λv1=>W.af (!v1) (some ([],2,())) (W.ae (jv W weights) λv2=>W.iV (weights.length:Int) (W.bg ((weights.length:Int).toNat) 8 (W.gW (weights.length:Int) ((weights.length:Int).toNat) λJ=>W.af (v2.2.1 != 0) (some ([],v2.2)) (W.af (total==0) (some (List.replicate J 0,0,())) (W.af (v2.1==0) (some ([],8,())) (W.ae (sB W total v2.1 weights) λv4=>W.aZ (λ(z5:Int×List (Int)×List bh×Unit) C=>W.af (decide (z5.1<(v4.1.length:Int))) (W.aI z5.2.2.1 z5.1 λx7=>W.ct z5.2.2.1 (z5.1.toNat) λG=>W.aI z5.2.1 G.1 λY=>W.ct z5.2.1 (G.1.toNat) λX=>(C (i64.wrap (z5.1+1),List.set z5.2.1 (G.1.toNat) G.2.1,z5.2.2))) (W.ae (tc z5.2.2.1) λv11=>W.gW (i64.wrap (total-v4.2.1)) v11.length λF=>W.aZ (λ(j:S10) y=>W.af (decide (j.1<((v11.take F).length:Int))) (W.aI (v11.take F) j.1 λr=>W.aI j.2.1 r.1 λV=>W.ct j.2.1 (r.1.toNat) λH=>W.aI j.2.1 r.1 λR=>W.ct j.2.1 (r.1.toNat) λK=>(y (i64.wrap (j.1+1),List.set j.2.1 (r.1.toNat) (i64.wrap (H+1)),()))) (some (j.2.1,0,()))) (0,z5.2.1,()))) (0,List.replicate J 0,v4.1,())))))))
abbrev abT:=u9 aj
def tC(total:Int)(j:List Int):Option ((List Int)×Int×Unit):=W.ae (ru W total j) λv1=>W.af (!v1) (some ([],2,())) (W.ae (jv W j) λv2=>W.af (v2.2.1 != 0) (some ([],v2.2)) (W.af (decide (v2.1<total)) (some ([],10,())) (W.ae (u9 W total j) λv3=>some v3)))
abbrev ae3:=tC aj
def wm(s:aV)(r y:ar)(j:Int):Option (aV×(List fH)×Int×Unit):=W.af (j==0) (some (s,[],0,())) (W.ae (wk W s r j) λv1=>W.aH (λ(z2:S2)=>W.af (z2.1 != 0) (some ((0,[],[],[],[],[],[],[],[],[],[],[],()),[],z2.1,())) (W.two (some (z2.2,(r,y,j,())::[],0,())))) λC=>W.af (v1.2.1==0) (W.ae (lJ W v1.1.2.2.2.2.2.2.2.2.2.2.1 r y j) λv4=>(C (v4.2.1,U10 v1.1 (v4.1,v1.1.2.2.2.2.2.2.2.2.2.2.2)))) (C (v1.2.1,v1.1)))
abbrev VG:=wm aj
def u7(s:aV)(l:List ar):Option (aV×(List fH)×Int×Unit):=W.ae (nz W s l) λv1=>W.ae (nC W s l) λv2=>W.aH (λ(z3:Bool×List (Int)×List (Int)×Unit)=>W.af z3.1 (W.ae (Mt W (v1.1.2.2.1::(v2.1.2.2.1::[]))) λv4=>some ((0,[],[],[],[],[],[],[],[],[],[],[],()),[],v4,())) (W.ae (tC W (if v2.1.2.1<v1.1.2.1 then v2.1.2.1 else v1.1.2.1) z3.2.2.1) λv5=>W.ae (tC W (if v2.1.2.1<v1.1.2.1 then v2.1.2.1 else v1.1.2.1) z3.2.1) λv6=>W.aH (λ(z7:Int×List aW×List bH×List bh×List az×List bA×List bR×List cj×List bC×List bC×List aU×List bj×List fH×Unit)=>some (xc z7 (),z7.2.2.2.2.2.2.2.2.2.2.2.2.1,0,())) λk8=>W.aZ (λ(z9:Int×Int×Int×List aW×List bH×List bh×List az×List bA×List bR×List cj×List bC×List bC×List aU×List bj×List (Int)×List (Int)×List fH×Unit) y=>W.af (decide (z9.1<(z9.2.2.2.2.2.2.2.2.2.2.2.2.2.2.1.length:Int))) (W.af (decide (z9.2.1<(z9.2.2.2.2.2.2.2.2.2.2.2.2.2.2.2.1.length:Int))) (W.aI z9.2.2.2.2.2.2.2.2.2.2.2.2.2.2.1 z9.1 λx11=>W.aI z9.2.2.2.2.2.2.2.2.2.2.2.2.2.2.2.1 z9.2.1 λx12=>W.ct z9.2.2.2.2.2.2.2.2.2.2.2.2.2.2.1 (z9.1.toNat) λr=>W.ct z9.2.2.2.2.2.2.2.2.2.2.2.2.2.2.2.1 (z9.2.1.toNat) λj=>W.aI l z9.1 λY=>W.aI l z9.2.1 λX=>W.two (W.ae (wm W (xc z9.2.2 ()) Y X (if j<r then j else r)) λv17=>W.af (v17.2.2.1 != 0) (some ((0,[],[],[],[],[],[],[],[],[],[],[],()),[],v17.2.2)) (W.bg (z9.2.2.2.2.2.2.2.2.2.2.2.2.2.2.2.2.1.length+v17.2.1.length) 40 (W.aH (λ(C:List (Int)×List (Int)×List fH×Unit)=>W.aI C.1 z9.1 λx19=>W.ct C.1 (z9.1.toNat) λV=>W.af (V==0) (y (i64.wrap (z9.1+1),z9.2.1,xc v17.1 C)) (y (z9.1,i64.wrap (z9.2.1+1),xc v17.1 C))) λG=>W.aI z9.2.2.2.2.2.2.2.2.2.2.2.2.2.2.1 z9.1 λx22=>W.aI z9.2.2.2.2.2.2.2.2.2.2.2.2.2.2.2.1 z9.2.1 λx23=>W.gA (W.ct z9.2.2.2.2.2.2.2.2.2.2.2.2.2.2.1 (z9.1.toNat) λR=>W.ct z9.2.2.2.2.2.2.2.2.2.2.2.2.2.2.2.1 (z9.2.1.toNat) λK=>W.aI z9.2.2.2.2.2.2.2.2.2.2.2.2.2.2.1 z9.1 λx26=>W.ct z9.2.2.2.2.2.2.2.2.2.2.2.2.2.2.1 (z9.1.toNat) λx27=>W.aI z9.2.2.2.2.2.2.2.2.2.2.2.2.2.2.2.1 z9.2.1 λx28=>W.ct z9.2.2.2.2.2.2.2.2.2.2.2.2.2.2.2.1 (z9.2.1.toNat) λx29=>(G (List.set z9.2.2.2.2.2.2.2.2.2.2.2.2.2.2.1 (z9.1.toNat) (i64.wrap (R-(if j<r then j else r))),List.set z9.2.2.2.2.2.2.2.2.2.2.2.2.2.2.2.1 (z9.2.1.toNat) (i64.wrap (K-(if j<r then j else r))),z9.2.2.2.2.2.2.2.2.2.2.2.2.2.2.2.2.1++v17.2.1,()))) (W.ct z9.2.2.2.2.2.2.2.2.2.2.2.2.2.2.2.1 (z9.2.1.toNat) λJ=>W.ct z9.2.2.2.2.2.2.2.2.2.2.2.2.2.2.1 (z9.1.toNat) λH=>W.aI z9.2.2.2.2.2.2.2.2.2.2.2.2.2.2.1 z9.1 λx32=>W.ct z9.2.2.2.2.2.2.2.2.2.2.2.2.2.2.1 (z9.1.toNat) λx33=>W.aI z9.2.2.2.2.2.2.2.2.2.2.2.2.2.2.2.1 z9.2.1 λx34=>W.ct z9.2.2.2.2.2.2.2.2.2.2.2.2.2.2.2.1 (z9.2.1.toNat) λx35=>(G (List.set z9.2.2.2.2.2.2.2.2.2.2.2.2.2.2.1 (z9.1.toNat) (i64.wrap (H-(if j<r then j else r))),List.set z9.2.2.2.2.2.2.2.2.2.2.2.2.2.2.2.1 (z9.2.1.toNat) (i64.wrap (J-(if j<r then j else r))),z9.2.2.2.2.2.2.2.2.2.2.2.2.2.2.2.2.1++v17.2.1,()))))))) (k8 (xc z9.2.2 z9.2.2.2.2.2.2.2.2.2.2.2.2.2.2.2.2))) (k8 (xc z9.2.2 z9.2.2.2.2.2.2.2.2.2.2.2.2.2.2.2.2))) (0,0,xc s (v5.1,v6.1,[],())))) λF=>W.af (v1.1.2.2.1 != 0) (F (true,v1.1.1,v2.1.1,())) (F (v2.1.2.2.1 != 0,v1.1.1,v2.1.1,()))
abbrev abM:=u7 aj
def rr(r0:Int)(r1:List aW)(r2:List bH)(r3:List bh)(r4:List az)(r5:List bA)(r6:List bR)(r7:List cj)(r8 Y:List bC)(K:List aU)(J:List bj)(H:List fH)(G:Int)(l:List az):Option (Unit×(Int×(List aW)×(List bH)×(List bh)×(List az)×(List bA)×(List bR)×(List cj)×(List bC)×(List bC)×(List aU)×(List bj)×(List fH)×Int×Unit)):=W.aZ (λ(r:Sq0) y=>W.af (decide (r.1<(l.length:Int))) (W.aH (λ(z3:Sq1)=>(y (i64.wrap (r.1+1),z3))) λV=>W.aI l r.1 λR=>W.aH (λ(j:Bool×Int×List aW×List bH×List bh×List az×List bA×List bR×List cj×List bC×List bC×List aU×List bj×Int×List fH×Unit)=>W.af j.1 (W.two (W.ae (ji W R) λX=>W.ae (u7 W (xc j.2 ()) X) λF=>W.ae (qV W j.2.1 j.2.2.1 j.2.2.2.1 j.2.2.2.2.1 j.2.2.2.2.2.1 j.2.2.2.2.2.2.1 j.2.2.2.2.2.2.2.1 j.2.2.2.2.2.2.2.2.1 j.2.2.2.2.2.2.2.2.2.1 j.2.2.2.2.2.2.2.2.2.2.1 j.2.2.2.2.2.2.2.2.2.2.2.1 j.2.2.2.2.2.2.2.2.2.2.2.2.1 j.2.2.2.2.2.2.2.2.2.2.2.2.2.2.1 j.2.2.2.2.2.2.2.2.2.2.2.2.2.1 F.1 F.2.1 F.2.2.1) λv9=>(V (xc v9.2 (v9.2.2.2.2.2.2.2.2.2.2.2.2.2.2.1,v9.2.2.2.2.2.2.2.2.2.2.2.2.2.1,()))))) (V j.2)) λC=>W.af (r.2.2.2.2.2.2.2.2.2.2.2.2.2.1==0) (C (R.2.2.1==2,r.2)) (C (false,r.2))) (some ((),xc r.2 (r.2.2.2.2.2.2.2.2.2.2.2.2.2.2.1,r.2.2.2.2.2.2.2.2.2.2.2.2.2.1,())))) (0,r0,r1,r2,r3,r4,r5,r6,r7,r8,Y,K,J,G,H,())
abbrev Qg:=rr aj
def C3(s:aV)(r j:ar):Option (aV×(List fH)×Int×Unit):=W.ae (qH W s j) λv1=>W.ae (wj W s r) λv2=>W.aH (λ(z3:Bool×Unit)=>W.af z3.1 (W.ae (Mt W (v1.2.1::(v2.2.1::[]))) λv4=>some ((0,[],[],[],[],[],[],[],[],[],[],[],()),[],v4,())) (W.af (cY false ((r.1==j.1)&&(r.2.1==j.2.1))) (some (s,[],0,())) (W.ae (wm W s r j (if v2.1<v1.1 then v2.1 else v1.1)) λv5=>some v5))) λy=>W.af (v1.2.1 != 0) (y (true,())) (y (v2.2.1 != 0,()))
abbrev e_:=C3 aj
def rz(r0:Int)(r1:List aW)(r2:List bH)(r3:List bh)(r4:List az)(r5:List bA)(r6:List bR)(r7:List cj)(r8 r9:List bC)(K:List aU)(J:List bj)(H:List fH)(G:Int)(C F:List ar):Option (Unit×(Int×(List aW)×(List bH)×(List bh)×(List az)×(List bA)×(List bR)×(List cj)×(List bC)×(List bC)×(List aU)×(List bj)×(List fH)×Int×Unit)):=W.aZ (λ(y:Sq0) r=>W.af (decide (y.1<(C.length:Int))) (W.aI C y.1 λY=>W.aZ (λ(z4:Sq0) j=>W.af (decide (z4.1<(F.length:Int))) (W.aH (λ(V:Sq1)=>(j (i64.wrap (z4.1+1),V))) λR=>W.aI F z4.1 λX=>W.af (z4.2.2.2.2.2.2.2.2.2.2.2.2.2.1==0) (W.ae (C3 W (xc z4.2 ()) X Y) λv9=>W.ae (qV W z4.2.1 z4.2.2.1 z4.2.2.2.1 z4.2.2.2.2.1 z4.2.2.2.2.2.1 z4.2.2.2.2.2.2.1 z4.2.2.2.2.2.2.2.1 z4.2.2.2.2.2.2.2.2.1 z4.2.2.2.2.2.2.2.2.2.1 z4.2.2.2.2.2.2.2.2.2.2.1 z4.2.2.2.2.2.2.2.2.2.2.2.1 z4.2.2.2.2.2.2.2.2.2.2.2.2.1 z4.2.2.2.2.2.2.2.2.2.2.2.2.2.2.1 z4.2.2.2.2.2.2.2.2.2.2.2.2.2.1 v9.1 v9.2.1 v9.2.2.1) λv10=>(R (xc v10.2 (v10.2.2.2.2.2.2.2.2.2.2.2.2.2.2.1,v10.2.2.2.2.2.2.2.2.2.2.2.2.2.1,())))) (R z4.2)) (r (i64.wrap (y.1+1),z4.2))) (0,y.2)) (some ((),xc y.2 (y.2.2.2.2.2.2.2.2.2.2.2.2.2.2.1,y.2.2.2.2.2.2.2.2.2.2.2.2.2.1,())))) (0,r0,r1,r2,r3,r4,r5,r6,r7,r8,r9,K,J,G,H,())
abbrev Qh:=rz aj
def H9(s:aV)(id:Int):Option (aV×(List fH)×Int×Unit):=W.ae (tV W s.2.2.2.2.1 id) λv1=>W.ae (G3 W v1) λv2=>W.ae (CG W s.1 s.2.1 s.2.2.1 s.2.2.2.1 s.2.2.2.2.1 s.2.2.2.2.2.1 s.2.2.2.2.2.2.1 s.2.2.2.2.2.2.2.1 s.2.2.2.2.2.2.2.2.1 s.2.2.2.2.2.2.2.2.2.1 s.2.2.2.2.2.2.2.2.2.2.1 s.2.2.2.2.2.2.2.2.2.2.2.1 [] 0 v2.1) λv3=>W.ae (rr W v3.2.1 v3.2.2.1 v3.2.2.2.1 v3.2.2.2.2.1 v3.2.2.2.2.2.1 v3.2.2.2.2.2.2.1 v3.2.2.2.2.2.2.2.1 v3.2.2.2.2.2.2.2.2.1 v3.2.2.2.2.2.2.2.2.2.1 v3.2.2.2.2.2.2.2.2.2.2.1 v3.2.2.2.2.2.2.2.2.2.2.2.1 v3.2.2.2.2.2.2.2.2.2.2.2.2.1 v3.2.2.2.2.2.2.2.2.2.2.2.2.2.1 v3.2.2.2.2.2.2.2.2.2.2.2.2.2.2.1 v1) λv4=>W.ae (rz W v4.2.1 v4.2.2.1 v4.2.2.2.1 v4.2.2.2.2.1 v4.2.2.2.2.2.1 v4.2.2.2.2.2.2.1 v4.2.2.2.2.2.2.2.1 v4.2.2.2.2.2.2.2.2.1 v4.2.2.2.2.2.2.2.2.2.1 v4.2.2.2.2.2.2.2.2.2.2.1 v4.2.2.2.2.2.2.2.2.2.2.2.1 v4.2.2.2.2.2.2.2.2.2.2.2.2.1 v4.2.2.2.2.2.2.2.2.2.2.2.2.2.1 v4.2.2.2.2.2.2.2.2.2.2.2.2.2.2.1 v2.1 v2.2.1) λv5=>W.ae (AT W) λv6=>W.ae (rz W v5.2.1 v5.2.2.1 v5.2.2.2.1 v5.2.2.2.2.1 v5.2.2.2.2.2.1 v5.2.2.2.2.2.2.1 v5.2.2.2.2.2.2.2.1 v5.2.2.2.2.2.2.2.2.1 v5.2.2.2.2.2.2.2.2.2.1 v5.2.2.2.2.2.2.2.2.2.2.1 v5.2.2.2.2.2.2.2.2.2.2.2.1 v5.2.2.2.2.2.2.2.2.2.2.2.2.1 v5.2.2.2.2.2.2.2.2.2.2.2.2.2.1 v5.2.2.2.2.2.2.2.2.2.2.2.2.2.2.1 v2.1 (v6::[])) λj=>W.af (j.2.2.2.2.2.2.2.2.2.2.2.2.2.2.1 != 0) (some ((0,[],[],[],[],[],[],[],[],[],[],[],()),[],j.2.2.2.2.2.2.2.2.2.2.2.2.2.2)) (some (xc j.2 (),j.2.2.2.2.2.2.2.2.2.2.2.2.2.1,0,()))
abbrev La:=H9 aj
def GM(s:aV)(u:ar):Option fI:=W.ae (kO W s.2.2.2.2.2.2.2.2.2.2.1 u) λv1=>W.ae (ml W s.2.2.2.2.2.2.2.2.2.2.2.1 u) λv2=>some (u,(if v1>0 then v1 else 0),v2,())
abbrev YE:=GM aj
def H6(l:List bj)(u:ar)(all:List bh):Option ((List bj)×Int×Unit):=W.aH (λ(r:Int×Unit)=>W.ae (lq W l u all r.1) λv2=>some v2) λj=>W.ae (AU W all) λv4=>W.af (!v4) (j (3,())) (j (0,()))
abbrev abx:=H6 aj
def xk(s:aV)(r:fI):Option (aV×Int×Unit):=W.ae (qQ W s.2.2.2.2.2.2.2.2.2.2.1 ((r.1,i64.wrap (0-r.2.1),())::[])) λv1=>W.aH (λ(z2:Int×Int×List aW×List bH×List bh×List az×List bA×List bR×List cj×List bC×List bC×List bj×List aU×Unit)=>some (U10 z2.2 (z2.2.2.2.2.2.2.2.2.2.2.2.2.1,z2.2.2.2.2.2.2.2.2.2.2.2.1,()),z2.1,())) λj=>W.af (v1.2.1==0) (W.ae (H6 W s.2.2.2.2.2.2.2.2.2.2.2.1 r.1 []) λv4=>(j (v4.2.1,U10 s (v4.1,v1.1,())))) (j (v1.2.1,U10 s (s.2.2.2.2.2.2.2.2.2.2.2.1,v1.1,())))
abbrev Md:=xk aj
def EM(s:aV)(id:Int):Option (aV×(List fI)×Int×Unit):=W.aH (λ(z1:Bool×Unit)=>W.af z1.1 (some ((0,[],[],[],[],[],[],[],[],[],[],[],()),[],3,())) (W.ae (tV W s.2.2.2.2.1 id) λv2=>W.aZ (λ(z3:Int×Int×List aW×List bH×List bh×List az×List bA×List bR×List cj×List bC×List bC×List aU×List bj×List az×List fI×Unit) F=>W.af (decide (z3.1<(v2.length:Int))) (W.aI z3.2.2.2.2.2.2.2.2.2.2.2.2.2.1 z3.1 λx5=>W.ct z3.2.2.2.2.2.2.2.2.2.2.2.2.2.1 (z3.1.toNat) λx6=>W.ae (ji W x6) λY=>W.aZ (λ(j:Int×Int×List aW×List bH×List bh×List az×List bA×List bR×List cj×List bC×List bC×List aU×List bj×List az×List fI×List ar×Unit) C=>W.af (decide (j.1<(Y.length:Int))) (W.aH (λ(R:Int×List aW×List bH×List bh×List az×List bA×List bR×List cj×List bC×List bC×List aU×List bj×List az×List fI×List ar×Unit)=>(C (i64.wrap (j.1+1),R))) λK=>W.aI j.2.2.2.2.2.2.2.2.2.2.2.2.2.2.2.1 j.1 λx12=>W.ct j.2.2.2.2.2.2.2.2.2.2.2.2.2.2.2.1 (j.1.toNat) λV=>W.ae (GM W (xc j.2 ()) V) λr=>W.aH (λ(y:List az×List fI×List ar×Unit)=>W.ae (xk W (xc j.2 ()) r) λG=>W.af (G.2.1 != 0) (some ((0,[],[],[],[],[],[],[],[],[],[],[],()),[],G.2)) (W.bg (y.2.1.length+(r::[]).length) 48 (K (xc G.1 (y.1,y.2.1++(r::[]),y.2.2))))) λJ=>W.af (r.2.1==0) (W.af ((r.2.2.1.length:Int)==0) (K j.2) (J j.2.2.2.2.2.2.2.2.2.2.2.2.2)) (J j.2.2.2.2.2.2.2.2.2.2.2.2.2)) (F (i64.wrap (z3.1+1),U14 j.2 ()))) (0,U14 z3.2 (Y,()))) (some (xc z3.2 (),z3.2.2.2.2.2.2.2.2.2.2.2.2.2.2.1,0,()))) (0,xc s (v2,[],())))) λH=>W.ae (qe W s.2.2.2.2.2.2.2.2.2.2.1) λX=>W.af (!X) (H (true,())) (W.ae (yd W s.2.2.2.2.2.2.2.2.2.2.2.1) λv20=>(H (!v20,())))
abbrev HB:=EM aj
def mY(d:aK):Option (Int×aK):=W.ae (fE W d) λv1=>W.aH (λ(z2:S21)=>W.aH (λ(z3:S1)=>W.af (z3.1 != 0) (some z3) (W.ae (zF W (xc z3.2 ()) z2.2.1) λv4=>W.af (decide (0<(v4.length:Int))) (some (21,z3.2)) (W.two (W.ae (H9 W (xc z3.2 ()) z2.2.1) λv5=>W.af (v5.2.2.1 != 0) (some (v5.2.2.1,z3.2)) (W.ae (EM W v5.1 z2.2.1) λv6=>W.aH (λ(G:S0)=>some (v6.2.2.1,G)) λF=>W.af (v6.2.2.1==0) (F (xc v6.1 (U16 z3.2.2.2.2.2.2.2.2.2.2.2.2.2 (v5.2.1,v6.2.1,())))) (F z3.2)))))) λy=>W.af (z2.1==0) (W.ae (j4 W v1.2 z2.2) λC=>(y C)) (y (z2.1,v1.2))) λr=>W.af (v1.1.2.1==0) (W.ae (uU W v1.1.1 v1.2.1) λj=>(r (j.2.1,j.1))) (r (v1.1.2.1,v1.1.1))
abbrev Nq:=mY aj
def nv(d:aK):Option (((List Int)×Int×Unit)×aK):=W.ae (vd W d.2.2.2.2.2.2.2.2.1 (d.2.2.2.2.2.2.2.2.2.2.2.2.2.2.2.1,d.2.2.2.2.2.2.2.2.2.2.2.2.2.2.2.2.1,())) λv1=>W.aZ (λ(z2:S19) j=>W.af (decide (z2.1<(v1.length:Int))) (W.aI z2.2.1 z2.1 λy=>W.ct z2.2.1 (z2.1.toNat) λr=>W.bg (z2.2.2.1.length+(r.1::(r.2.1::[])).length) 8 (j (i64.wrap (z2.1+1),z2.2.1,z2.2.2.1++(r.1::(r.2.1::[])),()))) (W.ae (jw W d (d.2.2.2.2.2.2.2.2.2.2.2.2.2.2.2.1,d.2.2.2.2.2.2.2.2.2.2.2.2.2.2.2.2.1,())) λv6=>some ((z2.2.2.1,v6.1,()),v6.2))) (0,v1,[],())
abbrev Iw:=nv aj
def rq(d:aK):Option (((List Int)×Int×Unit)×aK):=W.aH (λ(F:Bool×Unit)=>W.ae (jw W d (d.2.2.2.2.2.2.2.2.2.2.2.2.2.2.2.1,d.2.2.2.2.2.2.2.2.2.2.2.2.2.2.2.2.1,())) λv2=>W.aH (λ(z3:Bool×Unit)=>W.af z3.1 (some (([],v2.1,()),v2.2)) (W.ae (kO W v2.2.2.2.2.2.2.2.2.2.2.2.1 (v2.2.2.2.2.2.2.2.2.2.2.2.2.2.2.2.2.1,v2.2.2.2.2.2.2.2.2.2.2.2.2.2.2.2.2.2.1,())) λv4=>some ((v4::[],0,()),v2.2))) λC=>W.af (v2.1 != 0) (C (!F.1,())) (C (false,()))) λy=>W.ae (AT W) λr=>W.af (cY false ((d.2.2.2.2.2.2.2.2.2.2.2.2.2.2.2.1==r.1)&&(d.2.2.2.2.2.2.2.2.2.2.2.2.2.2.2.2.1==r.2.1))) (W.two (y (true,()))) (W.two (W.ae (mj W) λj=>(y (cY false ((d.2.2.2.2.2.2.2.2.2.2.2.2.2.2.2.1==j.1)&&(d.2.2.2.2.2.2.2.2.2.2.2.2.2.2.2.2.1==j.2.1)),()))))
abbrev Qd:=rq aj
def mi(d:aK):Option (((List Int)×Int×Unit)×aK):=W.two (W.ae (l7 W d.2.2.2.2.1 d.2.2.2.2.2.2.2.2.2.2.2.2.2.2.2.1) λv1=>W.af (!v1.2.1) (some (([],11,()),d)) (W.af (d.2.2.2.2.2.2.2.2.2.2.2.2.1==28) (W.ae (DP W d.2.2.1 d.2.2.2.2.2.2.2.2.1 v1.1 (d.2.2.2.2.2.2.2.2.2.2.2.2.2.2.2.1,d.2.2.2.2.2.2.2.2.2.2.2.2.2.2.2.2.1,())) λv2=>some ((v2.1::[],v2.2),d)) (W.aH (λ(z3:Int×Int×Int×List aW×List bH×List bh×List az×List bA×List bR×List cj×List bC×List bC×List aU×List bj×Int×Int×Int×Int×Int×Int×Int×Int×Int×Int×Int×Int×Int×List (Int)×Int×List (Int)×List fH×List fI×Unit)=>some ((z3.1::[],z3.2.1,()),z3.2.2)) λy=>W.gA (W.ae (lW W d) λv5=>W.ae (lK W v5.1 v1.1 (v5.2.2.2.2.2.2.2.2.2.2.2.2.2.2.2.2.1,v5.2.2.2.2.2.2.2.2.2.2.2.2.2.2.2.2.2.1,())) λv6=>(y (v6.1,v6.2.1,v5.2))) (W.ae (lW W d) λr=>W.ae (lK W r.1 v1.1 (d.2.2.2.2.2.2.2.2.2.2.2.2.2.2.2.1,d.2.2.2.2.2.2.2.2.2.2.2.2.2.2.2.2.1,())) λj=>(y (j.1,j.2.1,r.2))))))
abbrev BQ:=mi aj
def rn(s:AP)(l:List az):Option ((List aU)×Int×Unit):=W.aZ (λ(C:S20) r=>W.af (decide (C.1<(l.length:Int))) (W.aI l C.1 λF=>W.ae (qT W F) λv4=>W.aZ (λ(z5:Int×List aU×List ar×Unit) j=>W.af (decide (z5.1<(v4.length:Int))) (W.aH (λ(H:List aU×List ar×Unit)=>(j (i64.wrap (z5.1+1),H))) λG=>W.aI z5.2.2.1 z5.1 λJ=>W.ct z5.2.2.1 (z5.1.toNat) λy=>W.ae (lK W s F y) λv11=>W.af (v11.2.1 != 0) (some ([],v11.2)) (W.af (decide (v11.1<0)) (W.bg (z5.2.1.length+((y,v11.1,())::[]).length) 24 (G (z5.2.1++((y,v11.1,())::[]),z5.2.2))) (G z5.2))) (r (i64.wrap (C.1+1),z5.2.1,()))) (0,C.2.1,v4,())) (some (C.2.1,0,()))) (0,[],())
abbrev Pn:=rn aj
def qw(d:aK):Option (((List Int)×Int×Unit)×aK):=W.aH (λ(y:Int×Int×List aW×List bH×List bh×List az×List bA×List bR×List cj×List bC×List bC×List aU×List bj×Int×Int×Int×Int×Int×Int×Int×Int×Int×Int×Int×Int×Int×List (Int)×Int×List (Int)×List fH×List fI×List aU×Unit)=>W.aZ (λ(z2:Int×List aU×List (Int)×Unit) j=>W.af (decide (z2.1<(y.2.2.2.2.2.2.2.2.2.2.2.2.2.2.2.2.2.2.2.2.2.2.2.2.2.2.2.2.2.2.2.1.length:Int))) (W.aI z2.2.1 z2.1 λH=>W.ct z2.2.1 (z2.1.toNat) λr=>W.bg (z2.2.2.1.length+(r.1.1::(r.1.2.1::(r.2.1::[]))).length) 8 (j (i64.wrap (z2.1+1),z2.2.1,z2.2.2.1++(r.1.1::(r.1.2.1::(r.2.1::[]))),()))) (some ((z2.2.2.1,y.1,()),xh y.2 ()))) (0,y.2.2.2.2.2.2.2.2.2.2.2.2.2.2.2.2.2.2.2.2.2.2.2.2.2.2.2.2.2.2.2.1,[],())) λG=>W.gA (W.ae (lW W d) λC=>W.ae (rn W C.1 C.2.2.2.2.2.1) λF=>(G (F.2.1,xh C.2 (F.1,())))) (W.ae (lW W d) λv9=>W.ae (rn W v9.1 d.2.2.2.2.1) λv10=>(G (v10.2.1,xh v9.2 (v10.1,()))))
abbrev DW:=qw aj
def ns(d:aK):Option (((List Int)×Int×Unit)×aK):=W.ae (fE W d) λv1=>W.af (v1.1.2.1 != 0) (some (([],v1.1.2),v1.2)) (W.ae (sZ W (xc v1.2 ()) v1.1.1.1) λv2=>some ((v1.1.1.2.2.1::(v1.1.1.2.2.2.1::(v2.1::[])),v2.2),v1.2))
abbrev DU:=ns aj
def nw(d:aK):Option (((List Int)×Int×Unit)×aK):=W.af (d.2.2.2.2.2.2.2.2.2.2.2.2.1==26) (W.ae (nv W d) λv1=>some v1) (W.af (d.2.2.2.2.2.2.2.2.2.2.2.2.1==27) (W.ae (rq W d) λv2=>some v2) (W.aH (λ(z3:Bool×Unit)=>W.af z3.1 (W.ae (mi W d) λv4=>some v4) (W.af (d.2.2.2.2.2.2.2.2.2.2.2.2.1==30) (W.ae (qw W d) λv5=>some v5) (W.ae (ns W d) λv6=>some v6))) λr=>W.aH (λ(j:Bool×Unit)=>W.af j.1 (r j) (r (d.2.2.2.2.2.2.2.2.2.2.2.2.1==29,()))) λy=>(y (d.2.2.2.2.2.2.2.2.2.2.2.2.1==28,()))))
abbrev Oy:=nw aj
def pW(d:aK):Option (Int×aK):=W.ae (nw W d) λv1=>W.aH (λ(z2:S0)=>some (v1.1.2.1,z2)) λj=>W.af (v1.1.2.1==0) (j (U27 v1.2 (v1.1.1,v1.2.2.2.2.2.2.2.2.2.2.2.2.2.2.2.2.2.2.2.2.2.2.2.2.2.2.2.2.2))) (j v1.2)
abbrev TX:=pW aj
def G4(l:List az)(id:Int):Option (az×Bool×Unit):=W.aZ (λ(r:Int×Unit) j=>W.af (decide (r.1<(l.length:Int))) (W.aI l r.1 λC=>W.af (C.1==id) (W.aI l r.1 λy=>some (y,true,())) (j (i64.wrap (r.1+1),()))) (some ((0,0,0,[],()),false,()))) (0,())
abbrev acV:=G4 aj
def Ab(s:aV)(u:ar)(id:Int):Option Bool:=W.ae (G4 W s.2.2.2.2.1 u.1) λv1=>W.af v1.2.1 (some (v1.1.2.1==id)) (some false)
abbrev Nu:=Ab aj
def EQ(u:Int):Option lL:=W.aZ (λ(r:S10) j=>W.af (decide (0<r.1)) (W.pV 2 (W.bg (r.2.1.length+((IntKind.u8.wrap (Int.tmod r.1 2))::[]).length) 1 (W.pV 2 (j (u64.wrap (Int.tdiv r.1 2),r.2.1++((IntKind.u8.wrap (Int.tmod r.1 2))::[]),()))))) (some (false,r.2))) (u,[],())
abbrev aiH:=EQ aj
def BW(a b:List Int):Option (List Int):=W.aZ (λ(j:S15) r=>W.aH (λ(z3:S23)=>W.aH (λ(z4:S10)=>W.aH (λ(z5:S10)=>W.pV 2 (W.bg (z5.2.1.length+((Int.tmod z5.1 2)::[]).length) 1 (W.pV 2 (r (IntKind.u8.wrap (Int.tdiv z5.1 2),i64.wrap (j.2.1+1),z5.2.1++((Int.tmod z5.1 2)::[]),()))))) λH=>W.af (decide (j.2.1<(b.length:Int))) (W.aI b j.2.1 λK=>(H (IntKind.u8.wrap (z4.1+K),z4.2))) (H z4)) λG=>W.af (decide (j.2.1<(a.length:Int))) (W.aI a j.2.1 λJ=>(G (IntKind.u8.wrap (j.1+J),z3))) (G (j.1,z3))) λC=>W.af (decide (j.2.1<(a.length:Int))) (C j.2.2) (W.af (decide (j.2.1<(b.length:Int))) (C j.2.2) (W.aH (λ(F:S23)=>some F.1) λy=>W.af (decide (0<j.1)) (W.bg (j.2.2.1.length+(j.1::[]).length) 1 (y (j.2.2.1++(j.1::[]),()))) (y j.2.2)))) (0,0,[],())
abbrev TA:=BW aj
def zC(n:Int):Option lL:=W.af (decide (0<=n)) (W.ae (EQ W (u64.wrap n)) λv1=>some v1) (W.ae (EQ W (u64.wrap (i64.wrap (0-(i64.wrap (n+1)))))) λv2=>W.ae (BW W v2.2.1 (1::[])) λv3=>some (true,v3,()))
abbrev M_:=zC aj
def tE(neg:Bool)(b:List Int):Option lL:=W.aH (λ(r:Int×Unit)=>W.af neg (W.gW r.1 b.length λG=>some (decide (0<r.1),b.take G,())) (W.gW r.1 b.length λF=>some (false,b.take F,()))) λy=>W.aZ (λ(z5:Int×Unit) j=>W.af (decide (0<z5.1)) (W.aI b (i64.wrap (z5.1-1)) λC=>W.af (C==0) (j (i64.wrap (z5.1-1),())) (y z5)) (y z5)) ((b.length:Int),())
abbrev aeb:=tE aj
def G5(a b:List Int):Option Bool:=W.af ((a.length:Int) != (b.length:Int)) (some (decide ((a.length:Int)<(b.length:Int)))) (W.aZ (λ(r:Int×Unit) j=>W.af (decide (0<r.1)) (W.aI a (i64.wrap (r.1-1)) λG=>W.aI b (i64.wrap (r.1-1)) λF=>W.af (G != F) (W.aI a (i64.wrap (r.1-1)) λC=>W.aI b (i64.wrap (r.1-1)) λy=>some (decide (C<y))) (j (i64.wrap (r.1-1),()))) (some false)) ((a.length:Int),()))
abbrev aea:=G5 aj
def zh(a b:List Int):Option (List Int):=W.aZ (λ(j:S15) r=>W.af (decide (j.2.1<(a.length:Int))) (W.aH (λ(z3:S10)=>W.aI a j.2.1 λy=>W.aH (λ(z5:S10)=>W.pV 2 (W.bg (z5.2.1.length+((Int.tmod (IntKind.u8.wrap ((IntKind.u8.wrap (y+2))-z3.1)) 2)::[]).length) 1 (r (z5.1,i64.wrap (j.2.1+1),z5.2.1++((Int.tmod (IntKind.u8.wrap ((IntKind.u8.wrap (y+2))-z3.1)) 2)::[]),())))) λF=>W.af (decide ((IntKind.u8.wrap ((IntKind.u8.wrap (y+2))-z3.1))<2)) (F (1,z3.2)) (F (0,z3.2))) λC=>W.af (decide (j.2.1<(b.length:Int))) (W.aI b j.2.1 λG=>(C (IntKind.u8.wrap (j.1+G),j.2.2))) (C (j.1,j.2.2))) (some j.2.2.1)) (0,0,[],())
abbrev abm:=zh aj
def wK(a b:lL):Option lL:=W.af (cY false (a.1==b.1)) (W.ae (BW W a.2.1 b.2.1) λv1=>W.ae (tE W a.1 v1) λv2=>some v2) (W.ae (G5 W a.2.1 b.2.1) λv3=>W.af v3 (W.ae (zh W b.2.1 a.2.1) λv4=>W.ae (tE W b.1 v4) λv5=>some v5) (W.ae (zh W a.2.1 b.2.1) λv6=>W.ae (tE W a.1 v6) λj=>some j))
abbrev Nv:=wK aj
def AF(a:lL):Option lL:=W.ae (tE W (!a.1) a.2.1) λv1=>some v1
abbrev aiJ:=AF aj
def AG(a b:lL):Option lL:=W.ae (AF W b) λv1=>W.ae (wK W a v1) λv2=>some v2
abbrev aiK:=AG aj
def AH(a b:lL):Option Int:=W.ae (AG W a b) λv1=>W.af ((v1.2.1.length:Int)==0) (some 0) (W.af v1.1 (some (-1)) (some 1))
abbrev Wz:=AH aj
def xG(s:aV)(id:Int):Option Bool:=W.aZ (λ(F:S9) C=>W.af (decide (F.1<(s.2.2.2.2.2.2.2.2.1.length:Int))) (W.aH (λ(z3:S12)=>(C (i64.wrap (F.1+1),z3))) λY=>W.aZ (λ(z5:S9) y=>W.aI s.2.2.2.2.2.2.2.2.1 F.1 λx7=>W.af (decide (z5.1<(x7.2.1.length:Int))) (W.aI s.2.2.2.2.2.2.2.2.1 F.1 λx8=>W.ae (Ab W s x8.1 id) λv9=>W.af v9 (W.aI s.2.2.2.2.2.2.2.2.1 F.1 λK=>W.aI K.2.1 z5.1 λJ=>W.ae (zC W J.2.1) λv12=>W.ae (wK W z5.2 (false,v12.2)) λX=>(y (i64.wrap (z5.1+1),X))) (Y z5.2)) (Y z5.2)) (0,F.2)) (W.aZ (λ(r:Int×Unit) j=>W.af (decide (r.1<(s.2.1.length:Int))) (W.aI s.2.1 r.1 λH=>W.af (H.1==id) (W.aI s.2.1 r.1 λG=>W.ae (zC W G.2.1) λV=>W.ae (AH W F.2 V) λR=>some (decide (0<R))) (j (i64.wrap (r.1+1),()))) (some false)) (0,()))) (0,false,[],())
abbrev Jm:=xG aj
end
section
abbrev Sg0:=Int×List aW×List bH×List bh×List az×List bA×List bR×List cj×List bC×List bC×List aU×List bj×Unit
abbrev Sg1:=Int×Int×List aW×List bH×List bh×List az×List bA×List bR×List cj×List bC×List bC×List aU×List bj×Unit
variable(W:Wd)
def kU(d:aK)(id:Int):Option ((List Int)×aK):=W.ae (tV W d.2.2.2.2.1 id) λv1=>W.aZ (λ(z2:Int×List az×List (Int)×Unit) y=>W.af (decide (z2.1<(v1.length:Int))) (W.aI z2.2.1 z2.1 λJ=>W.ct z2.2.1 (z2.1.toNat) λG=>W.ae (ji W G) λv6=>W.aZ (λ(j:Int×List az×List (Int)×List ar×Unit) r=>W.af (decide (j.1<(v6.length:Int))) (W.aI j.2.2.2.1 j.1 λH=>W.ct j.2.2.2.1 (j.1.toNat) λC=>W.ae (GO W d.2.2.2.2.2.2.2.1 C) λv11=>W.bg (j.2.2.1.length+v11.length) 8 (r (i64.wrap (j.1+1),j.2.1,j.2.2.1++v11,j.2.2.2))) (y (i64.wrap (z2.1+1),j.2.1,j.2.2.1,()))) (0,z2.2.1,z2.2.2.1,v6,())) (W.ae (XC z2.2.2.1) λv12=>W.ae (Sb v12) λF=>some (F.1,d))) (0,v1,[],())
abbrev zV:=kU aj
def kr(d:aK):Option (Int×aK):=W.ae (fE W d) λv1=>W.af (v1.1.2.1 != 0) (some (v1.1.2.1,v1.2)) (W.aH (λ(z2:Bool×Unit)=>W.af z2.1 (some (2,v1.2)) (W.ae (xZ W v1.1.1 v1.2.1 v1.2.2.2.2.2.2.2.2.2.2.2.2.2.2.2.2.2.2.2.2.2.2.2.2.1) λv3=>W.aH (λ(z4:Int×Int×List aW×List bH×List bh×List az×List bA×List bR×List cj×List bC×List bC×List aU×List bj×Int×Int×Int×Int×Int×Int×Int×Int×Int×Int×Int×Int×Int×List (Int)×Int×List (Int)×List fH×List fI×Unit)=>W.af (z4.1 != 0) (some z4) (W.ae (kU W z4.2 v3.1.1) λv5=>W.ae (ry W v5.2 v5.1 4) λv6=>some v6)) λr=>W.af (v3.2.1==0) (W.ae (j4 W v1.2 v3.1) λy=>(r y)) (r (v3.2.1,v1.2)))) λj=>W.af (decide (v1.2.2.2.2.2.2.2.2.2.2.2.2.2.2.2.2.2.2.2.2.2.2.2.2.1<0)) (j (true,())) (j (decide (16<v1.2.2.2.2.2.2.2.2.2.2.2.2.2.2.2.2.2.2.2.2.2.2.2.2.1),())))
abbrev Im:=kr aj
def oK(d:aK):Option (Int×aK):=W.af (d.2.2.2.2.2.2.2.2.2.2.2.2.1==19) (W.ae (nr W d) λv1=>some v1) (W.af (d.2.2.2.2.2.2.2.2.2.2.2.2.1==20) (W.ae (la W d) λv2=>some v2) (W.af (d.2.2.2.2.2.2.2.2.2.2.2.2.1==21) (W.ae (kr W d) λv3=>some v3) (W.af (d.2.2.2.2.2.2.2.2.2.2.2.2.1==22) (W.ae (wR W d) λv4=>some v4) (W.af (d.2.2.2.2.2.2.2.2.2.2.2.2.1==23) (W.ae (jS W d) λv5=>some v5) (W.af (d.2.2.2.2.2.2.2.2.2.2.2.2.1==24) (W.ae (jX W d) λv6=>some v6) (W.ae (mY W d) λj=>some j))))))
abbrev PM:=oK aj
def pT(d:aK):Option (Int×aK):=W.af (decide (d.2.2.2.2.2.2.2.2.2.2.2.2.1<=6)) (W.ae (np W d) λv1=>some v1) (W.af (decide (d.2.2.2.2.2.2.2.2.2.2.2.2.1<=13)) (W.ae (nl W d) λv2=>some v2) (W.af (decide (d.2.2.2.2.2.2.2.2.2.2.2.2.1<=18)) (W.ae (vf W d) λv3=>some v3) (W.af (decide (d.2.2.2.2.2.2.2.2.2.2.2.2.1<=25)) (W.ae (oK W d) λv4=>some v4) (W.ae (pW W d) λv5=>some v5))))
abbrev RX:=pT aj
def uB(j:aK)(e:Int):Option (Int×aK):=W.af (decide (0<(((Go.Vc.DV.fn 1000033 ((Go.Vc.DV.own 0 0)::[]))::((Go.Vc.DV.fn 1000034 ((Go.Vc.DV.own 0 0)::[]))::((Go.Vc.DV.fn 1000035 ((Go.Vc.DV.own 0 0)::[]))::[]))).length:Int))) (W.af (e != 0) (some (e,j)) (W.ae (mf W j) λv1=>W.af (decide ((i64.wrap (0+1))<(((Go.Vc.DV.fn 1000033 ((Go.Vc.DV.own 0 0)::[]))::((Go.Vc.DV.fn 1000034 ((Go.Vc.DV.own 0 0)::[]))::((Go.Vc.DV.fn 1000035 ((Go.Vc.DV.own 0 0)::[]))::[]))).length:Int))) (W.af (v1.1 != 0) (some v1) (W.ae (kY W v1.2) λv2=>W.af (decide ((i64.wrap ((i64.wrap (0+1))+1))<(((Go.Vc.DV.fn 1000033 ((Go.Vc.DV.own 0 0)::[]))::((Go.Vc.DV.fn 1000034 ((Go.Vc.DV.own 0 0)::[]))::((Go.Vc.DV.fn 1000035 ((Go.Vc.DV.own 0 0)::[]))::[]))).length:Int))) (W.af (v2.1 != 0) (some v2) (W.ae (pT W v2.2) λv3=>W.af (decide ((i64.wrap ((i64.wrap ((i64.wrap (0+1))+1))+1))<(((Go.Vc.DV.fn 1000033 ((Go.Vc.DV.own 0 0)::[]))::((Go.Vc.DV.fn 1000034 ((Go.Vc.DV.own 0 0)::[]))::((Go.Vc.DV.fn 1000035 ((Go.Vc.DV.own 0 0)::[]))::[]))).length:Int))) (none) (some v3))) (some v2))) (some v1))) (some (e,j))
abbrev OS:=uB aj
def na(s:aV)(c:cr):Option (aV×XG×Unit):=W.ae (zL W c) λv1=>W.ae (uB W (xc s (U3 c (c.2.2.2.1.1,c.2.2.2.1.2.1,c.2.2.2.2.1.1,c.2.2.2.2.1.2.1,U7 c.2.2.2.2.2 (0,[],[],[],())))) v1) λv2=>W.af (v2.1 != 0) (some (s,(v2.1,[],[],[],()),())) (some (xc v2.2 (),v2.2.2.2.2.2.2.2.2.2.2.2.2.2.2.2.2.2.2.2.2.2.2.2.2.2.2.2,()))
abbrev OU:=na aj
def Eu:Option Bool:=W.ae (na W (0,[],[],[],[],[],[],[],[],[],[],[],()) (1,0,1,(0,0,()),(0,0,()),0,0,0,0,9,0,[],())) λv1=>W.ae (na W v1.1 (1,0,1,(0,0,()),(0,0,()),0,0,0,0,9,0,[],())) λv2=>W.ae (na W v1.1 (1,1,1,(0,0,()),(0,0,()),0,0,0,0,9,0,[],())) λv3=>W.af (v1.2.1.1==0) (W.af ((v1.1.2.1.length:Int)==1) (W.af (v2.2.1.1==12) (some (v3.2.1.1==14)) (some false)) (some false)) (some false)
def wt(l:List cr):Option Bool:=W.aH (λ(Y:Sg0)=>W.ae (Eu W) λv2=>some v2) λV=>W.aZ (λ(z4:Sg1) y=>W.af (decide (z4.1<(l.length:Int))) (W.af (decide (z4.1<90)) (W.aI l z4.1 λX=>W.ae (EN W X) λR=>W.ae (na W z4.2 R) λH=>W.aH (λ(z9:Unit)=>(y (i64.wrap (z4.1+1),H.1))) λC=>W.aZ (λ(r:Int×Unit) j=>W.af (decide (r.1<=8)) (W.af (H.2.1.1==0) (W.af (R.1 != 6) (W.aH (λ(G:Bool×Unit)=>W.af G.1 (some false) (j (i64.wrap (r.1+1),()))) λF=>W.ae (xG W H.1 r.1) λK=>W.af K (W.ae (xG W z4.2 r.1) λJ=>(F (!J,()))) (F (false,()))) (C ())) (C ())) (C ())) (1,())) (V z4.2)) (V z4.2)) (0,0,[],[],[],[],[],[],[],[],[],[],[],())
end
theorem asK(u:Nat)(j:u<18446744073709551616):aiH (u:Int)=some (DD false u):=avc u j
theorem an5{xs j:List Int}(G:H4 xs)(F:H4 j)(C:xs.length<=1000)(y:j.length<=1000):TA xs j=some (bitsOf (dL xs+dL j)):=aqU G F C y
theorem avd{xs j:List Int}(G:H4 xs)(F:H4 j)(C:xs.length<=1000)(y:j.length<=1000):aea xs j=some (decide (dL xs<dL j)):=aqV G F C y
theorem agG{xs j:List Int}(G:H4 xs)(F:H4 j)(C:xs.length<=1000)(y:dL j<=dL xs):abm xs j=some (rM xs.length (dL xs-dL j)):=an4 G F C y
theorem YC{g:Bool}{xs:List Int}(h:Of xs)(j:xs.length<=1000):aeb g xs=some (DD g (dL xs)):=aqW h j
theorem Pe{n k K:Nat}(h:n<2 ^ k)(j:k<=K):(bitsOf n).length<=K:=bU (Tu k n h) j
theorem pw{a b k:Nat}(j:a<2 ^ k)(hb:b<2 ^ k):a+b<2 ^ (k+1):=by rw[pF];omega
theorem ai{α β:Type}{o:Option α}{a:α}(h:o=some a)(K:α->Option β):aj.ae o K=K a:=by subst h;rfl
theorem abn{xs:List Int}(h:H4 xs){k:Nat}(hl:xs.length<=k):dL xs<2 ^ k:=dZ (H5 xs h.bits) (nL (by omega) hl)
theorem aqX{a b:List Int}(C:H4 a)(hb:H4 b){k:Nat}(y:a.length<=k)(j:b.length<=k):(bitsOf (dL a+dL b)).length<=k+1:=Pe (pw (abn C y) (abn hb j)) (au _)
theorem asF{x y:wJ}(H:Nb x)(G:Nb y)(F:x.2.1.length<=900)(C:y.2.1.length<=900):Nv x y=some (BE (bv x+bv y)):=by
 show wK aj x y=_;have nx:=adX H;have j:=adX G;unfold wK;have eta:∀z:wJ,(some (z.1,z.2.1,()):Option wJ)=some z:=λz=>rfl
 by_cases h:x.1=y.1
 .have e:cY false (x.1==y.1)=true:=by simp[cY,h]
  have hs:(bitsOf (dL x.2.1+dL y.2.1)).length<=1000:=bU (aqX nx j F C) (by omega);rw[e];show(aj.ae _ _:Option wJ)=_;rw[ai (an5 nx j (by omega) (by omega)),ai (YC (WC _) hs),eta,add_same h]
 .have e:cY false (x.1==y.1)=false:=by simp[cY,h]
  rw[e];show(aj.ae _ _:Option wJ)=_;rw[ai (avd nx j (by omega) (by omega))];by_cases hl:dL x.2.1<dL y.2.1
  .rw[ap hl];show(aj.ae _ _:Option wJ)=_;rw[ai (agG j nx (by omega) (by omega)),ai (YC (adW _ _) (by rw[anu];omega)),eta,an0 j h hl]
  .rw[an hl];show(aj.ae _ _:Option wJ)=_;rw[ai (agG nx j (by omega) (by omega)),ai (YC (adW _ _) (by rw[anu];omega)),eta,an1 nx h hl]
end Go.Proofs.YthghpahghjppjaaGreat


namespace Go.Proofs.YthghpahghjppjaaGreat
open Go Go.Vc Go.RowKit
open Go.IntKind (i64 u64)
def wv(w:bW):Int:=w.1*18446744073709551616+w.2.1
def EI(w:bW):Prop:=(-9223372036854775808<=w.1/\w.1<=9223372036854775807)/\(0<=w.2.1/\w.2.1<18446744073709551616)
def wide(z:Int):bW:=(z / 18446744073709551616,z % 18446744073709551616,())
def eB(z:Int):Prop := -170141183460469231731687303715884105728<=z/\z<170141183460469231731687303715884105728
instance (z:Int):Decidable (eB z):=by unfold eB;infer_instance
theorem sG(z):wv (wide z)=z:=by unfold wide wv;simp only;omega
theorem aqY(w)(h:EI w):wide (wv w)=w:=by
 have⟨hi,lo,⟨⟩⟩:=w;unfold EI at h;unfold wide wv;simp only at h ⊢;have y:(hi*18446744073709551616+lo) / 18446744073709551616=hi:=by omega
 have j:(hi*18446744073709551616+lo) % 18446744073709551616=lo:=by omega
 rw[y,j]
theorem an6(w)(h:EI w):eB (wv w):=by unfold EI at h;unfold eB wv;omega
theorem mX(z)(h:eB z):EI (wide z):=by unfold eB at h;unfold EI wide;simp only;omega
theorem anj{a b}(h:wide a=wide b):a=b:=by rw[<-sG a,h,sG]
theorem an7(n)(h : -9223372036854775808<=n/\n<=9223372036854775807):n.fdiv (2 ^ min (Int.toNat 63) i64.bits)=n / 18446744073709551616:=by
 have e:(2:Int) ^ min (Int.toNat 63) i64.bits=9223372036854775808:=by decide +kernel
 rw[e,eE _ (by omega)];omega
def fit(z:Int):bW×Int×Unit:=if eB z then(wide z,0,())else((0,0,()),7,())
def cy(n:Int):Prop := -9223372036854775808<=n/\n<=9223372036854775807
theorem ue{n}(h:cy n):eB n:=by unfold cy at h;unfold eB;omega
theorem K6(n)(h:cy n):afi n=some (wide n):=by show oR aj n=_;unfold oR;rw[ud,an7 n h,bY];rfl
def JG(V:Int):Int×Int×Int×Unit:=(V / 340282366920938463463374607431768211456,i64.wrap (V / 18446744073709551616),V % 18446744073709551616,())
def xT(V:Int):Prop := -1569275433846670190958947355801916604025588861116008628224<=V/\V<1569275433846670190958947355801916604025588861116008628224
theorem abo(z):u64.wrap (i64.wrap z)=z % 18446744073709551616:=by rw[bY,dO];omega
theorem JB(z):i64.wrap (z % 18446744073709551616)=i64.wrap z:=by rw[dO,dO];omega
theorem an8(V x y)(C:xT V)(j : -9223372036854775808<=x/\x<=9223372036854775807)(Y:0<=y/\y<18446744073709551616):
 ((i64.wrap (V / 340282366920938463463374607431768211456+i64.wrap (x.fdiv (2 ^ min (Int.toNat 63) i64.bits)+i64.wrap ((u64.wrap (i64.wrap (V / 18446744073709551616))+u64.wrap x+(V % 18446744073709551616+y+0) / 18446744073709551616) / 18446744073709551616))),
  i64.wrap ((u64.wrap (i64.wrap (V / 18446744073709551616))+u64.wrap x+(V % 18446744073709551616+y+0) / 18446744073709551616) % 18446744073709551616),
  (V % 18446744073709551616+y+0) % 18446744073709551616,()):Int×Int×Int×Unit)=JG (V+(x*18446744073709551616+y)):=by
 unfold xT at C;rw[abo,JB,an7 x j,bY];have W:(V+(x*18446744073709551616+y)) / 18446744073709551616=V / 18446744073709551616+x+(V % 18446744073709551616+y+0) / 18446744073709551616:=by omega
 have X:(V+(x*18446744073709551616+y)) / 340282366920938463463374607431768211456=(V / 18446744073709551616+x+(V % 18446744073709551616+y+0) / 18446744073709551616) / 18446744073709551616:=by omega
 have R:V / 340282366920938463463374607431768211456=V / 18446744073709551616 / 18446744073709551616:=by omega
 unfold JG;rw[W,X,R];have hc:0<=(V % 18446744073709551616+y+0) / 18446744073709551616/\(V % 18446744073709551616+y+0) / 18446744073709551616<=1:=by omega
 generalize (V % 18446744073709551616+y+0) / 18446744073709551616=c at *;have hu : -92233720368547758080000000000000000000<=V / 18446744073709551616/\V / 18446744073709551616<92233720368547758080000000000000000000:=by omega
 generalize V / 18446744073709551616=u at *;have K:(V+(x*18446744073709551616+y)) % 18446744073709551616=(V % 18446744073709551616+y+0) % 18446744073709551616:=by omega
 rw[K];have g2:(u % 18446744073709551616+x % 18446744073709551616+c) / 18446744073709551616<=2/\0<=(u % 18446744073709551616+x % 18446744073709551616+c) / 18446744073709551616:=by omega
 have g1:i64.wrap ((u % 18446744073709551616+x % 18446744073709551616+c) / 18446744073709551616)=(u % 18446744073709551616+x % 18446744073709551616+c) / 18446744073709551616:=bF _ (by omega);rw[g1];have J:i64.wrap (x / 18446744073709551616+(u % 18446744073709551616+x % 18446744073709551616+c) / 18446744073709551616)=x / 18446744073709551616+(u % 18446744073709551616+x % 18446744073709551616+c) / 18446744073709551616:=bF _ (by omega);rw[J];have H:u / 18446744073709551616+(x / 18446744073709551616+(u % 18446744073709551616+x % 18446744073709551616+c) / 18446744073709551616)=(u+x+c) / 18446744073709551616:=by omega
 rw[H];have G:i64.wrap ((u+x+c) / 18446744073709551616)=(u+x+c) / 18446744073709551616:=bF _ (by omega);rw[G];have F:i64.wrap (u % 18446744073709551616+x % 18446744073709551616+c)=i64.wrap (u+x+c):=by rw[dO,dO];omega
 rw[F]
theorem Tl{x y c}(F:0<=x:=by omega)(C:0<=y:=by omega)(j:0<=c:=by omega)(G:c<=1:=by omega):IM x y c=some ((x+y+c) % 18446744073709551616,(x+y+c) / 18446744073709551616,()):=by unfold IM;rw[ah ⟨F,C,j,G⟩]
theorem L6{x y b}(G:0<=x:=by omega)(F:0<=y:=by omega)(j:y<18446744073709551616:=by omega)(C:0<=b:=by omega)(hb:b<=1:=by omega):Gs x y b=some ((x-y-b) % 18446744073709551616,if x<y+b then 1 else 0,()):=by unfold Gs;rw[ah ⟨G,F,j,C,hb⟩]
theorem YB(V:Int)(x:bW)(C:xT V)(j:EI x):AD (JG V).1 (JG V).2.1 (JG V).2.2.1 x=some ((),JG (V+wv x)):=by unfold EI at j;show jJ aj (V / 340282366920938463463374607431768211456) (i64.wrap (V / 18446744073709551616)) (V % 18446744073709551616) x=_;unfold jJ wv;rw[<-an8 V x.1 x.2.1 C j.1 j.2];have y:=C;unfold xT at y;rw[ai (Tl),ai (Tl (by rw[bY];omega) (by rw[bY];omega) (by dsimp only;omega) (by dsimp only;omega)),ud]
theorem an9(V)(y:xT V):(V / 340282366920938463463374607431768211456==(i64.wrap (V / 18446744073709551616)).fdiv (2 ^ min (Int.toNat 63) i64.bits))=decide (eB V):=by
 have j : -9223372036854775808<=i64.wrap (V / 18446744073709551616)/\i64.wrap (V / 18446744073709551616)<=9223372036854775807:=by rw[dO];omega
 rw[an7 _ j];unfold xT at y;by_cases h:eB V
 .rw[ap h];unfold eB at h;rw[bF _ (by omega)];first|(simp;done)|(simp;omega)|skip
 .rw[an h];unfold eB at h;rw[dO];simp;omega
theorem Tm(w)(ok):abp w ok=some (if ok=true then(w,0,())else((0,0,()),7,())):=by cases ok<;>rfl
theorem agC(V:Int)(j:xT V):P5 (JG V).1 (JG V).2.1 (JG V).2.2.1=some (fit V,JG V):=by
 show lR aj _ _ _=_;unfold lR;rw[ud,ai (Tm _ _)];have:=an9 V j;show some ((if(V / 340282366920938463463374607431768211456==(i64.wrap (V / 18446744073709551616)).fdiv (2 ^ min (Int.toNat 63) i64.bits))=true then _ else _),_)=_;rw[this];unfold fit;by_cases h:eB V
 .rw[ah (ap h),ah h];have e:i64.wrap (V / 18446744073709551616)=V / 18446744073709551616:=by unfold eB at h;exact bF _ (by omega)
  show some (((i64.wrap (V / 18446744073709551616),V % 18446744073709551616,()),0,()),_)=_;rw[e];rfl
 .rw[an h,ag (by simp),ag h]
def q'(l:List bW):Int:=(l.map wv).sum
theorem agH:∀(l:List bW),(∀w∈l,EI w) -> -(170141183460469231731687303715884105728*(l.length:Int))<=q' l/\q' l<=170141183460469231731687303715884105728*(l.length:Int)
 |[],_=>by simp[q']
 |x::l,h=>by
  have C:=an6 x (h x (by simp));have y:=agH l λw j=>h w (by simp[j])
  unfold eB at C;simp only[q',bK,gG,aJ]at y ⊢;omega
theorem abq(l:List bW)(h:∀w∈l,EI w)(hl:l.length<9223372036854775807):xT (q' l):=by have:=agH l h;unfold xT;omega
theorem aaQ(a b):q' (a++b)=q' a+q' b:=by unfold q';simp
theorem aaR(a):q' [a]=wv a:=by unfold q';simp
theorem aiI(l:List bW)(i:Nat)(h:i<l.length):q' (l.take (i+1))=q' (l.take i)+wv l[i]:=by rw[show l.take (i+1)=l.take i++[l[i]]by simp,aaQ,aaR]
theorem Rr(l:List bW)(h:∀w∈l,EI w)(hl:l.length<9223372036854775807):zN l=some (fit (q' l)):=by
 refine gB (l:=l) (by omega) (λi s=>s=JG (q' (l.take i))) (λ_ _=>some (fit (q' l))) (by simp[q'];rfl) ?_ ?_
 .rintro _ j rfl;rw[bq,dT,ai (agC _ (abq l h hl))]
 .rintro i hi _ rfl j C;rw[dk hi,bN hi,ai (YB _ _ (abq _ (λw y=>h w (dw y)) (by rw[aY];omega)) (h _ (aF hi)))];dsimp only;rw[cJ i];exact C _ (by rw[aiI l i hi])
theorem axl{a:wJ}(h:Nb a)(j:a.2.1.length<=1000):aiJ a=some (BE (-(bv a))):=by show AF aj a=_;unfold AF;rw[ai (YC (adX h).bits j),ava]
theorem axm{a b:wJ}(C:Nb a)(hb:Nb b)(y:a.2.1.length<=900)(j:b.2.1.length<=900):aiK a b=some (BE (bv a-bv b)):=by
 show AG aj a b=_;unfold AG;have e:∀z:wJ,(z.1,z.2.1,())=z:=λz=>rfl
 rw[ai (axl hb (by omega)),ai (asF C (Ts _) y (by rw[aqR hb];exact j)),Oc];congr 2
theorem axi{a b:wJ}(F:Nb a)(hb:Nb b)(C:a.2.1.length<=900)(y:b.2.1.length<=900):Wz a b=some (if bv a-bv b=0 then 0 else if bv a-bv b<0 then -1 else 1):=by
 show AH aj a b=_;unfold AH;have e:∀z:wJ,(z.1,z.2.1,())=z:=λz=>rfl
 rw[ai (axm F hb C y)];by_cases h:bv a-bv b=0
 .rw[aQ (by have:=(abl (bv a-bv b)).2 h;simp[this]),ah h]
 .rw[aB (by have:=mt (abl (bv a-bv b)).1 h;simpa using this),ag h,axn];show(if decide (bv a-bv b<0)=true then _ else _)=_;by_cases j:bv a-bv b<0
  .rw[ah (by simpa using j),ah j]
  .rw[ag (by simpa using j),ag j]
theorem avH{n:Int}(h:cy n):M_ n=some (BE n):=by
 show zC aj n=_;unfold cy at h;unfold zC;by_cases j:0<=n
 .rw[aQ (ap j),F2 n (by omega)];obtain⟨m,rfl⟩:=cm j;rw[ai (asK m (by omega)),anz]
 .rw[aB (an j),avb (by omega) (by omega)];have⟨m,hm⟩:=cm (show 0 <= -(n+1)by omega);rw[hm,ai (asK m (by omega))];have hl:(bitsOf m).length<=1000:=Pe (show m<2 ^ 64 by omega) (by omega);show aj.ae (TA (bitsOf m) [1]) _=_;rw[ai (an5 (abk m) ay3 hl (by simp)),aqT (by omega) (by omega) hm.symm];rfl
theorem Ma{z:Int}(h : -170141183460469231731687303715884105728<=z/\z<=170141183460469231731687303715884105728):(BE z).2.1.length<=200:=by
 refine aqS z ?_;have:(2:Nat) ^ 200=1606938044258990275541962092341162602522202993782792835301376:=by decide
 omega
def nV(a b:φ):Prop:=a.1<b.1\/(a.1=b.1/\a.2.1<b.2.1)
instance (a b:φ):Decidable (nV a b):=by unfold nV;infer_instance
instance:DecidableEq φ:=inferInstanceAs (DecidableEq (Int×Int×Unit))
theorem aqK{a b:φ}(y:a.1=b.1)(j:a.2.1=b.2.1):a=b:=by have⟨F,a2,⟨⟩⟩:=a;have⟨b1,C,⟨⟩⟩:=b;simp only at y j;subst y j;rfl
theorem jm(a):¬nV a a:=by unfold nV;omega
theorem rS{a b c}(y:nV a b)(j:nV b c):nV a c:=by unfold nV at *;omega
theorem Eo{a b:φ}(y:¬nV a b)(j:¬nV b a):a=b:=by unfold nV at *;exact aqK (by omega) (by omega)
theorem CB{a b}(y:nV a b)(j:nV b a):False:=jm a (rS y j)
abbrev jP(l:List φ):Prop:=l.Pairwise nV
theorem agB:∀{l m:List φ},jP l->jP m->(∀x,x∈l↔x∈m)->l=m
 |[],[],_,_,_=>rfl
 |[],b::m,_,_,h=>absurd ((h b).2 (by simp)) (by simp)
 |a::l,[],_,_,h=>absurd ((h a).1 (by simp)) (by simp)
 |a::l,b::m,hl,hm,h=>by
  have⟨G,J⟩:=bz.1 hl;have⟨F,H⟩:=bz.1 hm
  have y:a=b:=by
   rcases aG.1 ((h a).1 (by simp))with e|e
   .exact e
   .rcases aG.1 ((h b).2 (by simp))with C|C
    .exact C.symm
    .exact(CB (G b C) (F a e)).elim
  subst y;rw[agB J H λx=>?_];constructor
  .intro j;rcases aG.1 ((h x).1 (cH _ j))with rfl|e
   .exact(jm _ (G _ j)).elim
   .exact e
  .intro j;rcases aG.1 ((h x).2 (cH _ j))with rfl|e
   .exact(jm _ (F _ j)).elim
   .exact e
theorem JF(x y)(l:List φ):Ip x (y::l)=if nV x y then x::y::l else if x=y then y::l else y::Ip x l:=by
 have e0:Ip x (y::l)=bif decide (x.1<y.1)||(x.1==y.1&&decide (x.2.1<y.2.1))then x::y::l else bif x.1==y.1&&x.2.1==y.2.1 then y::l else y::Ip x l:=rfl;have e1:(decide (x.1<y.1)||(x.1==y.1&&decide (x.2.1<y.2.1)))=decide (nV x y):=by rw[sO,bc];simp[nV]
 have e2:(x.1==y.1&&x.2.1==y.2.1)=decide (x=y):=by rw[sO];simp only[aD,fW,bc];exact⟨λh=>aqK h.1 h.2,λh=>by rw[h];exact⟨rfl,rfl⟩⟩
 rw[e0,e1,e2];by_cases h1:nV x y
 .rw[ap h1,ah h1];rfl
 .rw[an h1,ag h1];by_cases h2:x=y
  .rw[ap h2,ah h2];rfl
  .rw[an h2,ag h2];rfl
theorem Tq(x u):∀(l:List φ),u∈Ip x l↔u=x\/u∈l
 |[]=>by simp[Ip]
 |y::l=>by
  rw[JF];split
  .simp
  .split
   .rename_i h;subst h;simp
   .rw[aG,Tq x u l,aG];constructor
    .rintro(h|h|h)<;>simp[h]
    .rintro(h|h|h)<;>simp[h]
theorem abe(x):∀{l:List φ},jP l->jP (Ip x l)
 |[],_=>by simp[Ip]
 |y::l,h=>by
  have⟨G,J⟩:=bz.1 h;rw[JF];split
  .rename_i j;exact bz.2 ⟨λz C=>(aG.1 C).elim (λe=>e▸j) λC=>rS j (G z C),h⟩
  .rename_i j;split
   .exact h
   .rename_i F;refine bz.2 ⟨λz C=>?_,abe x J⟩;rcases(Tq x z l).1 C with rfl|C
    .exact cT λH=>F (Eo j H)
    .exact G z C
theorem abf(x):∀(l:List φ),(Ip x l).length<=l.length+1
 |[]=>by simp[Ip]
 |y::l=>by
  rw[JF];split
  .simp
  .split
   .simp
   .have:=abf x l;simp;omega
theorem H3:∀(l:List F0') (ks:List φ),jP ks->jP (l.foldl (λs x=>Ip x.1 s) ks)/\(∀u,u∈l.foldl (λs x=>Ip x.1 s) ks↔u∈ks\/∃x∈l,x.1=u)/\(l.foldl (λs x=>Ip x.1 s) ks).length<=ks.length+l.length
 |[],ks,h=>⟨h,λu=>by simp,by simp⟩
 |y::l,ks,h=>by
  have⟨F,C,G⟩:=H3 l (Ip y.1 ks) (abe _ h);refine⟨F,λu=>?_,?_⟩
  .rw[kQ,C,Tq];constructor
   .rintro((h|h)|⟨x,j,h⟩)
    .exact .inr ⟨y,by simp,h.symm⟩
    .exact .inl h
    .exact .inr ⟨x,by simp[j],h⟩
   .rintro(h|⟨x,j,h⟩)
    .exact .inl (.inr h)
    .rcases aG.1 j with rfl|j
     .exact .inl (.inl h.symm)
     .exact .inr ⟨x,j,h⟩
  .rw[kQ,aJ];have:=abf y.1 ks;omega
theorem Hx(l)(u):u∈lu l↔∃x∈l,x.1=u:=by have:=(H3 l [] .nil).2.1 u;simpa[lu]using this
theorem wo(l):jP (lu l):=(H3 l [] .nil).1
theorem Ww(l):(lu l).length<=l.length:=by simpa[lu]using(H3 l [] .nil).2.2
def sml(z:Int):Prop := -170141183460469231731687303715884105728<=z/\z<=170141183460469231731687303715884105728
instance (z:Int):Decidable (cy z):=by unfold cy;infer_instance
def cP(z:Int):Int×Int×Unit:=if cy z then(z,0,())else(0,7,())
theorem Wn(c):cY true c=!c:=by cases c<;>rfl
theorem Td(c):cY false c=c:=by cases c<;>rfl
theorem I9{z}(h:eB z):L3 (wide z)=some (cP z):=by
 show qd aj (wide z)=_;unfold qd;have F:i64.wrap (wide z).2.1=i64.wrap z:=JB z;have C:cy (i64.wrap z):=by unfold cy;rw[dO];omega
 rw[F,ai (K6 _ C),Wn];unfold cP;by_cases j:cy z
 .have e:i64.wrap z=z:=by unfold cy at j;exact bF _ (by omega)
  rw[ah j,e,aB (by simp)]
 .rw[ag j,aQ ?_];rw[jy];cases y:((wide (i64.wrap z)).1==(wide z).1&&(wide (i64.wrap z)).2.1==(wide z).2.1)with
  |false=>rfl
  |true=>simp only[aD,fW]at y;have:=iZ y.1 (iZ y.2 rfl);exact absurd (anj this▸C) j
theorem CY{z}(h:eB z):I6 (wide z) 0=some (cP z):=by show pd aj (wide z) 0=_;unfold pd;rw[aB (by decide),ai (I9 h)]
theorem auT{l:List Int}(h:∀x∈l,cy x) : -(9223372036854775808*(l.length:Int))<=l.sum/\l.sum<=9223372036854775808*(l.length:Int):=by have:=Ll (f:=λx:Int=>x) (B:=9223372036854775808) (l:=l) (λx j=>by have:=h x j;unfold cy at this;omega);simpa[eQ]using this
theorem Wx(l:List Int):q' (l.map wide)=l.sum:=by unfold q';rw[gQ];have:(wv ∘ wide)=id:=funext sG;rw[this,tH]
theorem ank{l:List Int}(h:∀x∈l,cy x):∀w∈l.map wide,EI w:=by intro w y;obtain⟨x,j,rfl⟩:=aN.1 y;exact mX _ (ue (h x j))
theorem anl{l:List Int}(h:∀x∈l,cy x)(hl:l.length<=1000000):eB l.sum:=by have:=auT h;unfold eB;omega
theorem auU{l:List Int}(h:∀x∈l,cy x)(hl:l.length<=1000000):zN (l.map wide)=some (wide l.sum,0,()):=by rw[Rr _ (ank h) (by rw[bp];omega),Wx];unfold fit;rw[ah (anl h hl)]
theorem sR{l:List Int}(h:∀x∈l,cy x)(hl:l.length<=1000000):Hr l=some (cP l.sum):=by
 show jv aj l=_;unfold jv;rw[ud,c9 (by simp;omega) (by simp;omega)];refine Et (N:=l.length) (by omega) (λi s=>s=((l.take i).map wide,())) (some (cP l.sum)) rfl ?_ ?_
 .rintro _ j rfl;rw[dT,bq,ai (auU h hl),ai (CY (anl h hl))]
 .rintro i hi _ rfl j y;rw[dk hi,bN hi,ai (K6 _ (h _ (aF hi))),cJ i,c9 (by simp;omega) (by simp;omega)];refine y _ ?_;rw[aw hi,cC];rfl
theorem bB{X β:Type}{j:X->Option β}{f:(X->Option β)->Option β}{r:Option β}(h:∀k,k=j->f k=r):aj.aH j f=r:=h j rfl
theorem BJ(a b:ar):Ob a b=some (decide (nV a b)):=by
 show mc aj a b=_;unfold mc;by_cases h:a.1=b.1
 .rw[aB (by simp[h])];congr 1;refine dM.2 ?_;unfold nV;omega
 .rw[aQ (by simp[h])];congr 1;refine dM.2 ?_;unfold nV;omega
def abg(l:List aU):Prop:=(∀x∈l,x.2.1≠0)/\jP (l.map (·.1))
instance (l:List aU):Decidable (abg l):=by unfold abg jP;infer_instance
def xb(l:List aU):Bool:=decide (abg l)
theorem anm{l:List aU}{i:Nat}(hi:i<l.length)(h:l[i].2.1=0):xb l=false:=an λj=>j.1 _ (aF hi) h
theorem ann{l:List aU}{i:Nat}(hi:i<l.length)(y:0<i)(h:¬nV (l[i-1]'(by omega)).1 l[i].1):xb l=false:=an λj=>h (by have:=bP.1 j.2 (i-1) i (by simp;omega) (by simpa using hi) (by omega);simpa using this)
theorem abh{l:List aU}{i:Nat}(hi:i<l.length)(inv:abg (l.take i))(V:l[i].2.1≠0)(R:∀W:0<i,nV (l[i-1]'(by omega)).1 l[i].1):abg (l.take (i+1)):=by
 rw[aw hi];refine⟨λx j=>?_,?_⟩
 .rcases aX.1 j with j|j
  .exact inv.1 x j
  .simp at j;rw[j];exact V
 .rw[cC];refine dv.2 ⟨inv.2,by simp,λa K b hb=>?_⟩;simp only[bK,nQ,ax]at hb;subst hb;have⟨k,F,y⟩:=dr.1 K;have J:k<i:=by simp at F;omega
  have H:=R (by omega);by_cases C:k=i-1
  .subst C;rw[<-y];simpa using H
  .have G:=bP.1 inv.2 k (i-1) (by simpa using F) (by simp;omega) (by omega);rw[y]at G;refine rS G ?_;simpa using H
theorem aqL{l:List aU}(h:abg (l.take l.length)):xb l=true:=by rw[bq]at h;exact ap h
theorem ZL{l:List aU}(hl:l.length<=1000000):KN l=some (xb l):=by
 refine Et (N:=l.length) (by omega) (λi _=>abg (l.take i)) (some (xb l)) (by simp[abg]) ?_ ?_
 .rintro _ j h;rw[dT,aqL h]
 .rintro i hi _ inv j K;rw[dk hi,bN hi];refine bB λk J=>?_
  have G:k (true,())=some false:=by subst J;rfl
  have H:k (false,())=j (((i+1:Nat):Int),()):=by rw[<-cJ i];subst J;rfl
  refine dE (λC=>?_) λC=>?_
  .rw[G,anm hi C]
  .by_cases F:0<i
   .rw[eA (by omega),Aq i F (by rw[gC];omega),bN,ai (BJ _ _)];by_cases y:nV (l[i-1]'(by omega)).1 l[i].1
    .rw[ap y];exact H.trans (K _ (abh hi inv C λ_=>y))
    .rw[an y,ann hi F y];exact G
   .rw[cQ (by omega)];exact H.trans (K _ (abh hi inv C λh=>absurd h F))
theorem eqA(a b:ar):(a.1==b.1&&a.2.1==b.2.1)=decide (a=b):=by
 by_cases h:a=b
 .subst h;simp
 .rw[an h];cases j:(a.1==b.1&&a.2.1==b.2.1)with
  |false=>rfl
  |true=>simp only[aD,fW]at j;exact absurd (aqK j.1 j.2) h
def hJ:List aU->ar->Int
 |[],_=>0
 |x::l,u=>if x.1=u then x.2.1 else hJ l u
theorem IF{l}{u:ar}(hl:l.length<=1000000):oG l u=some (hJ l u):=by
 refine gB (l:=l) (by omega) (λ_ _=>True) (λl _=>some (hJ l u)) trivial ?_ ?_
 .rintro _ j _;rw[dT];rfl
 .rintro i hi _ _ j y;rw[dk hi,bN hi,Td,eqA];unfold hJ;refine dh (λh=>?_) λh=>?_
  .rw[ah h]
  .rw[ag h,cJ i];exact y _ trivial
def Ul(x:aU):Int:=x.2.1
def tT(l:List aU):Prop:=∀x∈l,cy (Ul x)
theorem at9{a b}(j:sml a)(hb:sml b):Nv (BE a) (BE b)=some (BE (a+b)):=by
 unfold sml at *;have:=asF (Ts a) (Ts b) (bU (Ma j) (by decide)) (bU (Ma hb) (by decide))
 rwa [Oc,Oc]at this
theorem axC:BE 0=(false,[],()):=by unfold BE;simp[yN]
theorem apq{n}(h:cy n):sml n:=by unfold cy at h;unfold sml;omega
theorem ug{X β}{N}(J:N<9223372036854775808){f}(st:Nat->X)(r:Option β){z0:X}(G:z0=st 0)
 (C:∀j:X->Option β,f (st N) j=r) (y:∀i,i<N->∀j:X->Option β,j (st (i+1))=r->f (st i) j=r):aj.aZ f z0=r:=by
 subst G
 have key:∀n i,i<=N->N-i<n->xJ n f (st i)=r:=by
  intro n;induction n with
  |zero=>intro i _ h;omega
  |succ n F=>
   intro i hi H;by_cases h:i<N
   .exact y i h _ (F (i+1) (by omega) (by omega))
   .have:i=N:=by omega
    subst this;exact C _
 exact key FU 0 (bE _) (by rw[O4];omega)
theorem ave{β:Type}[qL β]{l:List KU}{K:KU->Option β}{N:Option β}{r:β}(h0:l=[]->N=some r)(h1:∀y∈l,K y=some r):aj.Ly l K N=some r:=by
 dsimp only;cases l with
 |nil=>exact h0 rfl
 |cons x l=>
  show l.foldl (λr y=>Fm r (K y)) (K x)=some r;rw[h1 x (by simp)]
  have key:∀l:List KU,(∀y∈l,K y=some r)->l.foldl (λr y=>Fm r (K y)) (some r)=some r:=by
   intro l;induction l with
   |nil=>intro _;rfl
   |cons y l j=>intro h;rw[kQ,h y (by simp),QQ];exact j λz C=>h z (by simp[C])
  exact key l λy F=>h1 y (by simp[F])
theorem CC{α:Type}:∀{l m:List α},l.Nodup->(∀x∈l,x∈m)->l.length<=m.length
 |[],m,_,_=>by simp
 |a::l,m,h,hs=>by
  obtain⟨G,F,rfl⟩:=List.append_of_mem (hs a (by simp));have C:=fw.1 h
  have:l.length<=(G++F).length:=CC C.2 λx y=>by
   have:=hs x (by simp[y]);simp only[aX,aG]at this ⊢;rcases this with j|rfl|j
   .exact .inl j
   .exact absurd y C.1
   .exact .inr j
  simp at this ⊢;omega
def IQ(l:List aU):List KU:=l.foldl (λs x=>PV s x.1) []
theorem aiL(l:List aU)(i:Nat)(h:i<l.length):IQ (l.take (i+1))=PV (IQ (l.take i)) l[i].1:=by unfold IQ;rw[aw h,Cf];rfl
theorem aec(ks)(x):PV ks x=if x∈ks then ks else ks++[x]:=by
 unfold PV;by_cases h:x∈ks
 .rw[uF.2 h,ah h];rfl
 .have:Sm x ks=false:=by
   cases hm:Sm x ks with
   |true=>exact absurd (uF.1 hm) h
   |false=>rfl
  rw[this,ag h];rfl
theorem GL:∀(l:List aU) (ks:List KU),ks.Nodup->(l.foldl (λs x=>PV s x.1) ks).Nodup/\(∀u,u∈l.foldl (λs x=>PV s x.1) ks↔u∈ks\/∃x∈l,x.1=u)/\(l.foldl (λs x=>PV s x.1) ks).length<=ks.length+l.length
 |[],ks,h=>⟨h,λu=>by simp,by simp⟩
 |y::l,ks,h=>by
  rw[kQ,aec];by_cases C:y.1∈ks
  .rw[ah C];have⟨G,F,H⟩:=GL l ks h;refine⟨G,λu=>?_,by simp;omega⟩;rw[F];constructor
   .rintro(h|⟨x,j,h⟩)
    .exact .inl h
    .exact .inr ⟨x,by simp[j],h⟩
   .rintro(h|⟨x,j,h⟩)
    .exact .inl h
    .rcases aG.1 j with rfl|j
     .exact .inl (h▸C)
     .exact .inr ⟨x,j,h⟩
  .rw[ag C];have⟨G,F,H⟩:=GL l (ks++[y.1]) (nP.2 ⟨h,by simp,λa J b hb=>by simp at hb;subst hb;rintro rfl;exact C J⟩);refine⟨G,λu=>?_,by simp at H ⊢;omega⟩;rw[F];constructor
   .rintro(h|⟨x,j,h⟩)
    .rcases aX.1 h with h|h
     .exact .inl h
     .simp at h;exact .inr ⟨y,by simp,h.symm⟩
    .exact .inr ⟨x,by simp[j],h⟩
   .rintro(h|⟨x,j,h⟩)
    .exact .inl (by simp[h])
    .rcases aG.1 j with rfl|j
     .exact .inl (by simp[h])
     .exact .inr ⟨x,j,h⟩
theorem anA(l:List aU)(u:KU):u∈IQ l↔∃x∈l,x.1=u:=by have:=(GL l [] .nil).2.1 u;simpa[IQ]using this
theorem aqZ(l:List aU):(IQ l).Nodup:=(GL l [] .nil).1
theorem anB(l:List aU):(IQ l).length<=l.length:=by simpa[IQ]using(GL l [] .nil).2.2
theorem aed{l:List aU}{j:List KU}(y:j.Nodup)(hm:∀u,u∈j↔∃x∈l,x.1=u):XR j=lu l:=by
 refine agB ?_ (wo l) λu=>?_
 .have G:=(Dk j).nodup_iff.2 y;refine vo (λ{a b} h=>?_) ((Sd j).and G);have⟨F,C⟩:=h;simp only[π,fv,aD,bc,fW]at F;unfold nV;by_cases J:a.1=b.1
  .have:a.2.1≠b.2.1:=λH=>C (aqK J H)
   omega
  .omega
 .rw[(Dk j).mem_iff,hm,Hx]
theorem aqN{l:List aU}(hl:l.length<=1000000):abr l=some (lu l):=by
 show zd aj l=_;refine Et (N:=l.length) (by omega) (λi s=>s=(IQ (l.take i),())) (some (lu l)) rfl ?_ ?_
 .rintro _ again rfl;rw[dT,bq];have hk:=anB l;have hn:=aqZ l;have hm:=anA l;generalize IQ l=ks at hk hn hm ⊢;refine fR (λz=>ks.length+1-z.2.1.length) (λz=>∃j,z=((ks,j,()),j,())/\j.Nodup/\∀x∈j,x∈ks) (λ_=>some (lu l)) ⟨[],rfl,.nil,by simp⟩ (by dsimp only;omega) ?_;rintro _ ⟨j,rfl,hdn,Bn⟩ again R;refine bB λk J=>?_
  have X:O5 ks j=[]->k (false,(ks,j,()),j,())=some (lu l):=by
   intro he;have K:∀u,u∈j↔∃x∈l,x.1=u:=λu=>by rw[<-hm];refine⟨Bn u,λhu=>?_⟩;have:=pG.1 he u hu;simpa[uF]using this
   subst J;show aj.af false _ (aj.ae (Ag j) _)=_;have hld:=CC hdn Bn;have e:Ag j=some (XR j):=by unfold Ag;rw[show Nat.blt j.length 4611686018427387904=true from gJ (by omega)];rfl
   rw[aB rfl,ai e,aed hdn K]
  have W:∀y∈O5 ks j,k (true,(ks,j++[y],()),j,())=some (lu l):=by
   intro y Y;have⟨V,F⟩:=aM.1 Y;have F:y∉j:=λh=>by rw[uF.2 h]at F;cases F
   have H:(j++[y]).Nodup:=nP.2 ⟨hdn,by simp,λa R b hb=>by simp at hb;subst hb;rintro rfl;exact F R⟩
   have C:∀x∈j++[y],x∈ks:=λx G=>by
    rcases aX.1 G with G|G
    .exact Bn x G
    .simp at G;exact G▸V
   have hlen:=CC H C;rw[aq]at hlen;simp only[aJ,dB]at hlen;have:=R ((ks,j++[y],()),j++[y],()) ⟨j++[y],rfl,H,C⟩ (by dsimp only;rw[aq];simp only[aJ,dB];omega);subst J;refine Um rfl ?_;rw[show((j++[y]).length:Int)-1=((j.length:Nat):Int)by rw[aq];simp,bN (by simp)];have ey:(j++[y])[j.length]'(by simp)=y:=by simp
   rw[ey,c9 (by simp;omega) (by simp;omega)];exact this
  exact ave X W
 .rintro i hi _ rfl again R;rw[dk hi,bN hi];dsimp only;rw[cJ i];exact R _ (by rw[aiL l i hi])
theorem ano{ll:List (List aU)}(J:ll.length<=1000)(H:ll.flatten.length<=1000000):oQ ll=some ll.flatten:=by
 show fK aj ll=_;unfold fK
 have G:∀i,(ll.take i).flatten.length<=1000000:=λi=>by
  have:ll.flatten=(ll.take i).flatten++(ll.drop i).flatten:=by rw[<-List.flatten_append,jU]
  rw[this,aq]at H;omega
 have C:∀i (h:i<ll.length),(ll.take (i+1)).flatten=(ll.take i).flatten++ll[i]:=λi h=>by rw[aw h,List.flatten_append];simp
 refine ug (N:=ll.length) (by omega) (λi=>((((ll.take i).flatten.length:Nat):Int),((i:Nat):Int),())) (some ll.flatten) rfl ?_ ?_
 .intro y;refine FQ ?_;rw[bq];have e:OX [] (ll.flatten.length:Int)=some ([],()):=by unfold OX;rw[show(decide (0<=(ll.flatten.length:Int))&&decide (((([]:List F0').length:Int)+(ll.flatten.length:Int))*24<=140737488355328))=true by rw[aD,bc,bc];simp only[dB];omega];rfl
  rw[ai e];refine ug (N:=ll.length) (by omega) (λi=>(((i:Nat):Int),(ll.take i).flatten,())) (some ll.flatten) rfl ?_ ?_
  .intro j;refine FQ ?_;rw[bq]
  .intro i hi j F;show aj.af (decide ((i:Int)<(ll.length:Int))) (aj.aI ll (i:Int) _) _=_;rw[dk hi,bN hi];have:=G (i+1);rw[C i hi,aq]at this;show aj.bg ((ll.take i).flatten.length+ll[i].length) 24 (j (i64.wrap ((i:Int)+1),(ll.take i).flatten++ll[i],()))=_;rw[c9,cJ i,<-C i hi];exact F
 .intro i hi y F;show aj.af (decide ((i:Int)<(ll.length:Int))) (aj.aI ll (i:Int) _) _=_;rw[dk hi,bN hi];have:=G (i+1);rw[C i hi,aq]at this;have e:i64.wrap ((((ll.take i).flatten.length:Nat):Int)+(ll[i].length:Int))=(((ll.take (i+1)).flatten.length:Nat):Int):=by rw[C i hi,aq,dO];omega
  show aj.af (decide (i64.wrap ((((ll.take i).flatten.length:Nat):Int)+(ll[i].length:Int))<0)) _ (y (i64.wrap ((((ll.take i).flatten.length:Nat):Int)+(ll[i].length:Int)),i64.wrap ((i:Int)+1),()))=_;rw[e,cQ (by omega),cJ i];exact F
def adV(u:ar)(x:aU):Bool:=decide (x.1=u)
def Od(l:List aU)(u:ar):List Int:=(l.filter (adV u)).map Ul
def me(l:List aU)(u:ar):Int:=(Od l u).sum
theorem abi(l)(u):(Od l u).length<=l.length:=by unfold Od;rw[bp];exact cR _ _
theorem aqM{l}(h:tT l)(u):∀x∈Od l u,cy x:=by intro x C;obtain⟨y,j,rfl⟩:=aN.1 C;exact h y (aM.1 j).1
theorem Wy(l:List aU)(u:ar)(i:Nat)(h:i<l.length):Od (l.take (i+1)) u=Od (l.take i) u++(if l[i].1=u then[l[i].2.1]else[]):=by unfold Od;rw[abj _ _ _ h,cC];unfold adV;by_cases j:l[i].1=u<;>simp[j,Ul]
theorem aiF{l:List aU}{u:ar}(hl:l.length<=1000000):UD l u=some (Od l u):=by
 refine Et (N:=l.length) (by omega) (λi s=>s=(Od (l.take i) u,())) (some (Od l u)) rfl ?_ ?_
 .rintro _ j rfl;rw[dT,bq]
 .rintro i hi _ rfl j F;rw[dk hi];refine bB λk G=>?_
  have C:∀v:List Int,k (v,())=j (((i+1:Nat):Int),v,()):=by intro v;rw[<-cJ i];subst G;rfl
  have y:=abi (l.take i) u;rw[aY]at y;rw[bN hi,Td,eqA];refine dh (λh=>?_) λh=>?_
  .rw[c9 (by simp;omega) (by simp;omega),C];refine F _ ?_;rw[Wy _ _ _ hi,ah h]
  .rw[C];refine F _ ?_;rw[Wy _ _ _ hi,ag h,cz]
def AB(all:List aU):List ar->List aU->List aU×Int×Unit
 |[],acc=>(acc,0,())
 |u::us,acc=>if cy (me all u)then(if me all u≠0 then AB all us (acc++[(u,me all u,())])else AB all us acc)else([],7,())
def qJ(l fl:List aU):List aU×Int×Unit:=if xb l=true then AB (l++fl) (lu (l++fl)) []else([],3,())
theorem aaV{l fl}(h:tT l)(hf:tT fl)(hl:l.length+fl.length<=1000000):zB l fl=some (qJ l fl):=by
 show qQ aj l fl=_;unfold qQ qJ;rw[ai (ZL (by omega))];by_cases R:xb l=true
 .rw[R,aB (by decide),ah rfl];have H:tT (l++fl):=λx hx=>(aX.1 hx).elim (h x) (hf x)
  have e1:oQ (l::(fl::[]))=some (l++fl):=by have:=ano (ll:=l::(fl::[])) (by simp) (by simp;omega);rw[this];simp
  have y:(l++fl).length<=1000000:=by rw[aq];exact hl
  have e2:=aqN y;rw[ai e1,ai e2];have hul:=Ww (l++fl);generalize l++fl=all at *;generalize lu all=us at *;refine gB (l:=us) (by omega) (λi (s:List aU×List ar×List aU×Unit)=>s.1=all/\s.2.1=us/\s.2.2.1.length<=i) (λus' (s:List aU×List ar×List aU×Unit)=>some (AB all us' s.2.2.1)) ⟨rfl,rfl,au _⟩ ?_ ?_
  .rintro⟨_,_,acc,⟨⟩⟩ C ⟨rfl,rfl,_⟩;rw[dT];rfl
  .rintro i hi ⟨j,us',acc,⟨⟩⟩ ⟨G,F,J⟩ C Y;have F:=F.symm;subst F;have G:=G;subst G;simp only at J;rw[dk hi];refine bB λk hk=>?_
   have X:∀v:List aU,k (j,us,v,())=C (((i+1:Nat):Int),j,us,v,()):=by intro v;rw[<-cJ i];subst hk;rfl
   refine tix hi ?_;refine tnt hi ?_;rw[ai (aiF y)];show _=some (AB j (us[i]::us.drop (i+1)) acc);rw[AB];have K:=sR (aqM H us[i]) (bU (abi _ _) y);change Hr (Od j us[i])=some (if cy (me j us[i])then(me j us[i],0,())else(0,7,()))at K;by_cases V:cy (me j us[i])
   .rw[ah V]at K;rw[ah V,ai K];show aj.af ((0:Int) != 0) _ (aj.af (me j us[i] != 0) (aj.bg (acc.length+1) 24 (k (j,us,acc++[(us[i],me j us[i],())],()))) (k (j,us,acc,())))=_;rw[aB (by decide)];by_cases W:me j us[i]=0
    .rw[ag (by simp[W]),aB (by simp[W])];exact(X acc).trans (Y _ ⟨rfl,rfl,by simp only;omega⟩)
    .rw[ah W,aQ (by simp[W]),c9];exact(X (acc++[(us[i],me j us[i],())])).trans (Y _ ⟨rfl,rfl,by simp;omega⟩)
   .rw[ag V]at K;rw[ag V,ai K];exact Um (by decide) rfl
 .have R:xb l=false:=by simpa using R
  rw[R,aQ (by decide),ag (by simp)]
end Go.Proofs.YthghpahghjppjaaGreat