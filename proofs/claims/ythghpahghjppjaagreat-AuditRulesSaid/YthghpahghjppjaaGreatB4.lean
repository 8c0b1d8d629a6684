import Derived.Test.YthghpahghjppjaaGreatB3
namespace Go.Proofs.YthghpahghjppjaaGreat
open Go Go.Vc Go.RowKit rA sK sM sN sO sP
open Go.IntKind (i64 u64)
set_option maxRecDepth 100000
set_option synthInstance.maxSize 100000
set_option synthInstance.maxHeartbeats 0
set_option maxHeartbeats 8000000
section
abbrev c9{A B C D E F G:Type}(x:A×B×C×D×E×F×G):G:=x.2.2.2.2.2.2
abbrev aP{A B C D E F G H I J K L M:Type}(x:A×B×C×D×E×F×G×H×I×J×K×L×M):M:=c9 (c9 x)
abbrev yP:DS:=.t (.int .i64)
abbrev BA(x:DT):DS:=.t (.slc x)
@[reducible] def bj:DT:=(.pair (.int .i64) (.pair (.int .i64) .unit))
abbrev ar:=Int×Int×Unit
@[reducible] def eL:DT:=(.pair bj (.pair (.slc bj) .unit))
abbrev cj:=ar×(List ar)×Unit
@[reducible] def dz:DT:=(.pair (.int .i64) (.pair (.int .i64) (.pair (.int .i64) .unit)))
abbrev bu:=Int×Int×Int×Unit
abbrev fI:=bu
@[reducible] def dW:DT:=(.pair (.int .i64) (.pair (.int .i64) (.pair (.int .i64) (.pair (.int .i64) (.pair (.slc (.int .i64)) .unit)))))
abbrev bR:=Int×Int×Int×Int×(List Int)×Unit
@[reducible] def bH:DT:=(.pair (.int .i64) (.pair (.int .i64) (.pair (.int .i64) (.pair (.slc (.int .i64)) .unit))))
abbrev aN:=Int×Int×Int×(List Int)×Unit
@[reducible] def di:DT:=(.pair bj (.pair bj (.pair .bool .unit)))
abbrev cd:=ar×ar×Bool×Unit
@[reducible] def eN:DT:=(.pair bj (.pair (.int .i64) .unit))
abbrev aZ:=ar×Int×Unit
@[reducible] def jJ:DT:=(.pair (.int .i64) (.pair (.int .i64) (.pair (.int .i64) (.pair bj (.pair bj (.pair (.int .i64) (.pair (.int .i64) (.pair (.int .i64) (.pair (.int .i64) (.pair (.int .i64) (.pair (.int .i64) (.pair (.slc (.int .i64)) .unit))))))))))))
abbrev bX:=Int×Int×Int×ar×ar×Int×Int×Int×Int×Int×Int×(List Int)×Unit
@[reducible] def cH:DT:=(.pair (.int .i64) (.pair (.int .i64) (.pair (.int .i64) (.pair (.int .i64) .unit))))
abbrev bB:=Int×Int×Int×Int×Unit
@[reducible] def e7:DT:=(.pair (.int .i64) (.pair bj (.pair (.int .i64) (.pair (.int .i64) (.pair (.int .i64) .unit)))))
abbrev cU:=Int×ar×Int×Int×Int×Unit
@[reducible] def gb:DT:=(.pair (.int .i64) (.pair bj (.pair bj (.pair bj (.pair (.int .i64) (.pair (.int .i64) (.pair (.int .i64) (.pair (.int .i64) .unit))))))))
abbrev dk:=Int×ar×ar×ar×Int×Int×Int×Int×Unit
@[reducible] def ft:DT:=(.pair bj (.pair (.slc dz) .unit))
abbrev bp:=ar×(List bu)×Unit
abbrev M3(R:Type):=Int×(List bB)×(List bR)×(List bu)×(List aN)×(List cd)×(List cU)×(List dk)×(List cj)×(List cj)×(List aZ)×(List bp)×R
@[reducible] def dI:DT:=(.pair (.int .i64) (.pair (.slc cH) (.pair (.slc dW) (.pair (.slc dz) (.pair (.slc bH) (.pair (.slc di) (.pair (.slc e7) (.pair (.slc gb) (.pair (.slc eL) (.pair (.slc eL) (.pair (.slc eN) (.pair (.slc ft) .unit))))))))))))
abbrev aU:=Int×(List bB)×(List bR)×(List bu)×(List aN)×(List cd)×(List cU)×(List dk)×(List cj)×(List cj)×(List aZ)×(List bp)×Unit
@[reducible] def fh:DT:=(.pair bj (.pair bj (.pair (.int .i64) .unit)))
abbrev dp:=ar×ar×Int×Unit
@[reducible] def qe:DT:=(.pair bj (.pair (.int .i64) (.pair (.slc dz) .unit)))
abbrev dY:=ar×Int×(List bu)×Unit
@[reducible] def ahd:DT:=(.pair (.int .i64) (.pair (.slc (.int .i64)) (.pair (.slc fh) (.pair (.slc qe) .unit))))
abbrev Il:=Int×(List Int)×(List dp)×(List dY)×Unit
@[reducible] def iq:DT:=(.pair .bool (.pair (.slc (.int .u8)) .unit))
abbrev jR:=Bool×(List Int)×Unit
@[reducible] def Pd:DT:=(.pair (.slc eL) (.pair (.slc eN) .unit))
abbrev tS:=(List cj)×(List aZ)×Unit
@[reducible] def bM:DT:=(.pair (.int .i64) (.pair (.int .u64) .unit))
abbrev bF:=Int×Int×Unit
@[reducible] def XV:DT:=(.pair (.int .u64) (.pair (.int .u64) .unit))
abbrev OR:=Int×Int×Unit
@[reducible] def E4:DT:=(.pair (.slc dz) (.pair (.slc dW) (.pair (.slc eL) (.pair (.slc eN) (.pair (.slc ft) .unit)))))
abbrev Bd:=(List bu)×(List bR)×(List cj)×(List aZ)×(List bp)×Unit
@[reducible] def vm:DT:=(.pair jJ (.pair ahd .unit))
abbrev Ar:=bX×Il×Unit
@[reducible] def ia:BK:=⟨81,[.v (.int .i64),.v (.slc cH),.v (.slc dW),.v (.slc dz),.v (.slc bH),.v (.slc di),.v (.slc e7),.v (.slc gb),.v (.slc eL),.v (.slc eL),.v (.slc eN),.v (.slc ft),.v (.int .i64),.v (.int .i64),.v (.int .i64),.v (.int .i64),.v (.int .i64),.v (.int .i64),.v (.int .i64),.v (.int .i64),.v (.int .i64),.v (.int .i64),.v (.int .i64),.v (.int .i64),.v (.int .i64),.v (.slc (.int .i64)),.v (.int .i64),.v (.slc (.int .i64)),.v (.slc fh),.v (.slc qe)]⟩
@[reducible] def ay5:List DS:=[yP,yP,yP,yP,yP,yP,yP,yP,yP,yP,yP,yP,yP,.t (.slc (.int .i64))]
@[reducible] def uq:List DS:=[yP,BA cH,BA dW,BA dz,BA bH,BA di,BA e7,BA gb,BA eL,BA eL,BA eN,BA ft,yP,yP,yP,yP,yP,yP,yP,yP,yP,yP,yP,yP,yP,.t (.slc (.int .i64)),yP,.t (.slc (.int .i64)),BA fh,BA qe]
@[reducible] def ay6:List DS:=[yP,BA cH,BA dW,BA dz,BA bH,BA di,BA e7,.row 0,BA eL,BA eL,BA eN,BA ft,yP,yP,yP,yP,yP,yP,yP,yP,yP,yP,yP,yP,yP,.t (.slc (.int .i64)),yP,.t (.slc (.int .i64)),BA fh,BA qe]
@[reducible] def ay7:List DS:=[yP,yP,yP,yP,yP,yP]
@[reducible] def Ea:List DS:=[yP,BA cH,BA dW,BA dz,BA bH,BA di,BA e7,BA gb,BA eL,BA eL,BA eN,BA ft]
@[reducible] def ay8:List DS:=[yP,BA cH,BA dW,BA dz,BA bH,BA di,BA e7,BA gb,BA eL,BA eL,.row 1,BA ft]
abbrev aM:=M3 (Int×Int×Int×Int×Int×Int×Int×Int×Int×Int×Int×Int×Int×(List Int)×Int×(List Int)×(List dp)×(List dY)×Unit)
abbrev S0:=M3 (Int×Int×Int×Int×Int×Int×Int×Int×Int×Int×Int×Int×Int×List (Int)×Int×List (Int)×List dp×List dY×Unit)
abbrev S1:=Int×M3 (Int×Int×Int×Int×Int×Int×Int×Int×Int×Int×Int×Int×Int×List (Int)×Int×List (Int)×List dp×List dY×Unit)
abbrev S2:=Int×M3 Unit
abbrev S3:=Int×M3 (Int×List dp×Unit)
abbrev S4:=Int×M3 (Int×Int×Int×Int×Int×Int×Int×Int×Int×Int×Int×Int×Int×List (Int)×Int×List (Int)×List dp×List dY×List bp×Unit)
abbrev S6:=Int×List ar×Unit
abbrev S8:=Int×M3 (List bu×Unit)
abbrev S9:=Int×Bool×List (Int)×Unit
abbrev S10:=Int×List (Int)×Unit
abbrev â:=Int×Int×Unit
abbrev S12:=Bool×List (Int)×Unit
abbrev S13:=Int×List (bX×(Int×List (Int)×List dp×List dY×Unit)×Unit)×List ar×Unit
abbrev S14:=Int×Int×Int×Unit
abbrev S15:=Int×Int×List (Int)×Unit
abbrev S16:=Bool×List (Int)×(ByteArray×Int×Unit)×Unit
abbrev S17:=Int×Int×Int×Int×Unit
abbrev S18:=Bool×List bp×Unit
abbrev S19:=Int×List ar×List (Int)×Unit
abbrev S20:=Int×List aZ×Unit
abbrev S21:=Int×Int×Int×Int×Int×Unit
abbrev S22:=Int×List aN×Unit
abbrev S23:=List (Int)×Unit
abbrev S24:=Int×List bR×Unit
abbrev S25:=Int×List cj×Unit
abbrev Sq0:=Int×M3 (Int×List dp×Unit)
abbrev Sq1:=M3 (Int×List dp×Unit)
variable(W:Wd)
def E5(c:bX):Option bX:=W.aG (λ(j:Int×Int×Int×Int×Int×Int×Int×Int×Int×Int×Int×Int×Int×List (Int)×Unit)=>some (U3 j ((j.2.2.2.1,j.2.2.2.2.1,()),(j.2.2.2.2.2.1,(c9 j).1,()),(c9 j).2))) λy=>W.af (decide (40<(c.2.2.2.2.2.2.2.2.2.2.2.1.length:Int))) (W.j5 40 c.2.2.2.2.2.2.2.2.2.2.2.1.length λC=>(y (U3 c (c.2.2.2.1.1,c.2.2.2.1.2.1,c.2.2.2.2.1.1,c.2.2.2.2.1.2.1,U6 c.2.2.2.2.2 (c.2.2.2.2.2.2.2.2.2.2.2.1.take C,()))))) (y (U3 c (c.2.2.2.1.1,c.2.2.2.1.2.1,c.2.2.2.2.1.1,c.2.2.2.2.1.2.1,c.2.2.2.2.2)))
abbrev N_:=E5 aj
def IN(_:Wd):Option (Unit×(Bool×(List Int)×Unit)):=some ((),true,[],())
abbrev ajJ:=IN aj
def th(_:Wd)(j:Bool)(w1:List Int):Option (Bool×(Bool×(List Int)×Unit)):=some (j,j,w1,())
abbrev Hg:=th aj
def uW(n:Int):Option Int:=W.jb 1 (W.jb 63 (some (Go.bits Go.BinOp.xor u64 (u64.wrap (i64.wrap (n*(2 ^ (min (Int.toNat 1) i64.bits))))) (u64.wrap (Int.fdiv n (2 ^ (min (Int.toNat 63) i64.bits)))))))
abbrev aaR:=uW aj
def xb(C:Bool)(w1:List Int)(u:Int):Option (Unit×(Bool×(List Int)×Unit)):=W.aV (λ(j:S9) y=>W.af (decide (128<=j.1)) (W.bc (j.2.2.1.length+((Go.bits Go.BinOp.or Go.IntKind.u8 (IntKind.u8.wrap j.1) 128)::[]).length) 1 (W.jb 7 (y (Int.fdiv j.1 (2 ^ (min (Int.toNat 7) u64.bits)),j.2.1,j.2.2.1++((Go.bits Go.BinOp.or Go.IntKind.u8 (IntKind.u8.wrap j.1) 128)::[]),())))) (W.bc (j.2.2.1.length+((IntKind.u8.wrap j.1)::[]).length) 1 (some ((),j.2.1,j.2.2.1++((IntKind.u8.wrap j.1)::[]),())))) (u,C,w1,())
abbrev QQ:=xb aj
def dQ(G:Bool)(w1 l:List Int):Option (Unit×(Bool×(List Int)×Unit)):=W.aG (λ(C:S12)=>some ((),C)) λy=>W.ae (th W G w1) λv3=>W.af v3.1 (W.aV (λ(z4:S9) j=>W.af (decide (z4.1<(l.length:Int))) (W.aH l z4.1 λF=>W.ae (uW W F) λJ=>W.ae (xb W z4.2.1 z4.2.2.1 J) λH=>(j (i64.wrap (z4.1+1),H.2))) (y z4.2)) (0,v3.2)) (y v3.2)
abbrev yD:=dQ aj
def qW(op:Int):Option ByteArray:=W.aG (λ(z1:Bool×Unit)=>W.af z1.1 (some (ByteArray.mk (Array.mk (77::(81::[]))))) (W.af (op==2) (some (ByteArray.mk (Array.mk (73::(81::(80::(78::[]))))))) (W.af (op==3) (some (ByteArray.mk (Array.mk (65::(80::(81::[])))))) (W.af (op==4) (some (ByteArray.mk (Array.mk (85::(77::(68::[])))))) (W.aG (λ(z2:Bool×Unit)=>W.af z2.1 (some (ByteArray.mk (Array.mk (85::[])))) (W.aG (λ(z3:Bool×Unit)=>W.af z3.1 (some (ByteArray.mk (Array.mk (85::(79::(73::(81::(80::[])))))))) (W.aG (λ(z4:Bool×Unit)=>W.af z4.1 (some (ByteArray.mk (Array.mk (68::[])))) (W.af (op==12) (some (ByteArray.mk (Array.mk (85::(73::(78::[])))))) (W.af (op==13) (some (ByteArray.mk (Array.mk (68::(79::(81::[])))))) (W.af (op==14) (some (ByteArray.mk (Array.mk (73::(80::[]))))) (W.af (op==15) (some (ByteArray.mk (Array.mk (65::(80::[]))))) (W.aG (λ(z5:Bool×Unit)=>W.af z5.1 (some (ByteArray.mk (Array.mk (85::(65::(84::(81::[]))))))) (W.aG (λ(z6:Bool×Unit)=>W.af z6.1 (some (ByteArray.mk (Array.mk (85::(79::[]))))) (W.aG (λ(z7:Bool×Unit)=>W.af z7.1 (some (ByteArray.mk (Array.mk (77::[])))) (some (ByteArray.mk (Array.mk [])))) λY=>W.aG (λ(z9:Bool×Unit)=>W.af z9.1 (Y z9) (W.aG (λ(R:Bool×Unit)=>W.af R.1 (Y R) (Y (op==31,()))) λk11=>(k11 (op==25,())))) λk12=>(k12 (op==23,())))) λX=>W.aG (λ(K:Bool×Unit)=>W.af K.1 (X K) (X (op==20,()))) λk15=>(k15 (op==19,())))) λV=>W.aG (λ(z17:Bool×Unit)=>W.af z17.1 (V z17) (V (op==18,()))) λk18=>(k18 (op==17,())))))))) λF=>W.aG (λ(z20:Bool×Unit)=>W.af z20.1 (F z20) (W.aG (λ(z21:Bool×Unit)=>W.af z21.1 (F z21) (F (op==11,()))) λk22=>(k22 (op==10,())))) λk23=>(k23 (op==9,())))) λC=>W.aG (λ(z25:Bool×Unit)=>W.af z25.1 (C z25) (W.aG (λ(z26:Bool×Unit)=>W.af z26.1 (C z26) (C (op==24,()))) λk27=>(k27 (op==8,())))) λk28=>(k28 (op==7,())))) λj=>W.aG (λ(J:Bool×Unit)=>W.af J.1 (j J) (W.aG (λ(z31:Bool×Unit)=>W.af z31.1 (j z31) (W.aG (λ(z32:Bool×Unit)=>W.af z32.1 (j z32) (W.aG (λ(z33:Bool×Unit)=>W.af z33.1 (j z33) (W.aG (λ(H:Bool×Unit)=>W.af H.1 (j H) (j (op==29,()))) λk35=>(k35 (op==28,())))) λk36=>(k36 (op==27,())))) λk37=>(k37 (op==26,())))) λk38=>(k38 (op==22,())))) λk39=>(k39 (op==5,()))))))) λy=>W.aG (λ(z41:Bool×Unit)=>W.af z41.1 (y z41) (W.aG (λ(G:Bool×Unit)=>W.af G.1 (y G) (y (op==21,()))) λk43=>(k43 (op==6,())))) λk44=>(k44 (op==1,()))
abbrev ac7:=qW aj
def zH(j:Bool)(w1:List Int)(u:ar):Option (Unit×(Bool×(List Int)×Unit)):=W.ae (dQ W j w1 (u.1::(u.2.1::[]))) λv1=>some ((),v1.2)
abbrev ajH:=zH aj
def wB(j:Bool)(w1:List Int)(c:bX)(name:Int):Option (Unit×(Bool×(List Int)×Unit)):=W.af (name==77) (W.ae (dQ W j w1 (c.2.2.1::[])) λv1=>some ((),v1.2)) (W.af (name==85) (W.ae (zH W j w1 c.2.2.2.1) λv2=>some ((),v2.2)) (W.af (name==79) (W.ae (zH W j w1 c.2.2.2.2.1) λv3=>some ((),v3.2)) (W.af (name==73) (W.ae (dQ W j w1 (c.2.2.2.2.2.1::[])) λv4=>some ((),v4.2)) (W.af (name==65) (W.ae (dQ W j w1 ((c9 c).1::[])) λv5=>some ((),v5.2)) (W.af (name==84) (W.ae (dQ W j w1 ((c9 c).2.1::[])) λv6=>some ((),v6.2)) (W.af (name==68) (W.ae (dQ W j w1 ((c9 c).2.2.1::[])) λC=>some ((),C.2)) (W.af (name==81) (W.ae (dQ W j w1 ((c9 c).2.2.2.1::[])) λy=>some ((),y.2)) (W.af (name==80) (W.ae (dQ W j w1 ((c9 c).2.2.2.2.1::[])) λv9=>some ((),v9.2)) (W.af (name==78) (W.ae (dQ W j w1 ((c.2.2.2.2.2.2.2.2.2.2.2.1.length:Int)::[])) λv10=>W.ae (dQ W v10.2.1 v10.2.2.1 (c9 c).2.2.2.2.2.1) λv11=>some ((),v11.2)) (some ((),j,w1,())))))))))))
abbrev ahp:=wB aj
def iG(s:List Int):Option (List Int):=W.qJ (List.isEmpty s) λg1=>W.af (cX false g1) (some []) (W.bc ((0:Nat)+s.length) 1 (some ([]++s)))
abbrev F2:=iG aj
def kU(j:Bool)(w1:List Int):Option ((List Int)×(Bool×(List Int)×Unit)):=W.ae (th W j w1) λv1=>W.af (!v1.1) (some ([],v1.2)) (W.ae (iG W v1.2.2.1) λv2=>some (v2,v1.2))
abbrev OQ:=kU aj
def uy(c:bX):Option (List Int):=W.gP (W.ae (IN W) λv1=>W.ae (dQ W v1.2.1 v1.2.2.1 (c.1::(c.2.1::[]))) λv2=>W.ae (qW W c.1) λv3=>W.aV (λ(z4:S16) C=>W.zd z4.2.2.1.1 z4.2.2.1.2.1 (λR K=>W.ae (wB W z4.1 z4.2.1 c R) λv9=>(C (v9.2.1,v9.2.2.1,(z4.2.2.1.1,K,()),()))) (W.ae (kU W z4.1 z4.2.1) λv6=>some v6.1)) (v2.2.1,v2.2.2.1,(v3,0,()),())) (W.ae (IN W) λv10=>W.ae (dQ W v10.2.1 v10.2.2.1 (c.1::(c.2.1::[]))) λv11=>W.ae (qW W c.1) λv12=>W.aV (λ(j:S16) y=>W.zd j.2.2.1.1 j.2.2.1.2.1 (λJ H=>W.ae (wB W j.1 j.2.1 c J) λF=>(y (F.2.1,F.2.2.1,(j.2.2.1.1,H,()),()))) (W.ae (kU W j.1 j.2.1) λG=>some G.1)) (v11.2.1,v11.2.2.1,(v12,0,()),()))
abbrev ð:=uy aj
def AM(b:List Int):Option (Unit×(Bool×(List Int)×Int×Unit)):=W.ae (iG W b) λv1=>some ((),true,v1,0,())
abbrev aiB:=AM aj
def vn(y:Bool)(C:List Int)(j:Int):Option (Bool×(Bool×(List Int)×Int×Unit)):=W.af y (some (j==0,y,C,j,())) (some (false,y,C,j,()))
abbrev OP:=vn aj
def nU(_:Wd)(j:Bool)(_:List Int)(_ e:Int):Option (Unit×(Bool×(List Int)×Int×Unit)):=some ((),j,[],e,())
abbrev DQ:=nU aj
def oS(V:Bool)(R:List Int)(K:Int):Option ((Int×Bool×Unit)×(Bool×(List Int)×Int×Unit)):=W.aV (λ(j:Int×Int×Bool×List (Int)×Int×Unit) y=>W.af ((j.2.2.2.1.length:Int)==0) (W.ae (nU W j.2.2.1 j.2.2.2.1 j.2.2.2.2.1 4) λv3=>some ((0,false,()),v3.2)) (W.aH j.2.2.2.1 0 λC=>W.j5 1 j.2.2.2.1.length λG=>W.aG (λ(H:Bool×Unit)=>W.af H.1 (W.ae (nU W j.2.2.1 ((j.2.2.2.1.take j.2.2.2.1.length).drop G) j.2.2.2.2.1 3) λJ=>some ((0,false,()),J.2)) (W.jb j.2.1 (W.af (decide (C<128)) (some ((Go.bits Go.BinOp.or u64 j.1 (u64.wrap ((u64.wrap (Go.bits Go.BinOp.and Go.IntKind.u8 C 127))*(2 ^ (min (j.2.1.toNat) u64.bits)))),true,()),j.2.2.1,(j.2.2.2.1.take j.2.2.2.1.length).drop G,j.2.2.2.2)) (y (Go.bits Go.BinOp.or u64 j.1 (u64.wrap ((u64.wrap (Go.bits Go.BinOp.and Go.IntKind.u8 C 127))*(2 ^ (min (j.2.1.toNat) u64.bits)))),i64.wrap (j.2.1+7),j.2.2.1,(j.2.2.2.1.take j.2.2.2.1.length).drop G,j.2.2.2.2))))) λF=>W.af (decide (63<j.2.1)) (F (true,())) (W.af (j.2.1==63) (W.af (decide (1<C)) (F (true,())) (W.af (C==0) (F (decide (0<j.2.1),())) (F (false,())))) (W.af (C==0) (F (decide (0<j.2.1),())) (F (false,())))))) (0,0,V,R,K,())
abbrev AL:=oS aj
def rc(u:Int):Option Int:=W.jb 1 (some (Go.bits Go.BinOp.xor i64 (i64.wrap (Int.fdiv u (2 ^ (min (Int.toNat 1) u64.bits)))) (i64.wrap (0-(i64.wrap (Go.bits Go.BinOp.and u64 u 1))))))
abbrev VF:=rc aj
def iF(F:Bool)(C:List Int)(y lo hi:Int):Option (Int×(Bool×(List Int)×Int×Unit)):=W.ae (vn W F C y) λv1=>W.af (!v1.1) (some (0,v1.2)) (W.ae (oS W v1.2.1 v1.2.2.1 v1.2.2.2.1) λv2=>W.ae (rc W v2.1.1) λv3=>W.af (!v2.1.2.1) (some (0,v2.2)) (W.aG (λ(z4:Bool×Unit)=>W.af z4.1 (W.ae (nU W v2.2.1 v2.2.2.1 v2.2.2.2.1 7) λv5=>some (0,v5.2)) (some (v3,v2.2))) λj=>W.af (decide (v3<lo)) (j (true,())) (j (decide (hi<v3),()))))
abbrev QP:=iF aj
def j6(F:Bool)(C:List Int)(y j:Int):Option (Int×(Bool×(List Int)×Int×Unit)):=W.ae (iF W F C y 0 j) λv1=>some v1
abbrev ahl:=j6 aj
def wz(C:Bool)(y:List Int)(j:Int):Option (ar×(Bool×(List Int)×Int×Unit)):=W.ae (j6 W C y j 16) λv1=>W.ae (j6 W v1.2.1 v1.2.2.1 v1.2.2.2.1 16) λv2=>some ((v1.1,v2.1,()),v2.2)
abbrev ahm:=wz aj
def rS(y:Bool)(C:List Int)(j:Int):Option (Int×(Bool×(List Int)×Int×Unit)):=W.af (!y) (some (1,y,C,j,())) (some (j,y,C,j,()))
abbrev Fu:=rS aj
def ux(K:Bool)(J:List Int)(H C:Int):Option ((List Int)×(Bool×(List Int)×Int×Unit)):=W.aG (λ(F:Bool×List (Int)×Int×List (Int)×Unit)=>some (F.2.2.2.1,U3 F ())) λG=>W.ae (j6 W K J H C) λv3=>W.aV (λ(z4:Int×Bool×List (Int)×Int×List (Int)×Unit) j=>W.af (decide (0<z4.1)) (W.ae (rS W z4.2.1 z4.2.2.1 z4.2.2.2.1) λv6=>W.af (v6.1==0) (W.ae (iF W v6.2.1 v6.2.2.1 v6.2.2.2.1 (-9223372036854775808) 9223372036854775807) λy=>W.bc (z4.2.2.2.2.1.length+(y.1::[]).length) 8 (j (i64.wrap (z4.1-1),U3 y.2 (z4.2.2.2.2.1++(y.1::[]),())))) (G (U3 v6.2 z4.2.2.2.2))) (G z4.2)) (U4 v3 ([],()))
abbrev í:=ux aj
def Di(J:Bool)(H:List Int)(G c0 c1 c2 c3 c4 Y X V R K F C y:Int)(j:List Int)(name:Int):Option (Unit×(Bool×(List Int)×Int×Int×Int×Int×Int×Int×Int×Int×Int×Int×Int×Int×Int×Int×(List Int)×Unit)):=W.af (name==77) (W.ae (j6 W J H G 8) λv1=>some ((),U3 v1.2 (c0,c1,v1.1,c3,c4,Y,X,V,R,K,F,C,y,j,()))) (W.af (name==85) (W.ae (wz W J H G) λv2=>some ((),U3 v2.2 (c0,c1,c2,v2.1.1,v2.1.2.1,Y,X,V,R,K,F,C,y,j,()))) (W.af (name==79) (W.ae (wz W J H G) λv3=>some ((),U3 v3.2 (c0,c1,c2,c3,c4,v3.1.1,v3.1.2.1,V,R,K,F,C,y,j,()))) (W.af (name==73) (W.ae (j6 W J H G 8) λv4=>some ((),U3 v4.2 (c0,c1,c2,c3,c4,Y,X,v4.1,R,K,F,C,y,j,()))) (W.af (name==65) (W.ae (j6 W J H G 4) λv5=>some ((),U3 v5.2 (c0,c1,c2,c3,c4,Y,X,V,v5.1,K,F,C,y,j,()))) (W.af (name==84) (W.ae (j6 W J H G 255) λv6=>some ((),U3 v6.2 (c0,c1,c2,c3,c4,Y,X,V,R,v6.1,F,C,y,j,()))) (W.af (name==68) (W.ae (j6 W J H G 1048576) λv7=>some ((),U3 v7.2 (c0,c1,c2,c3,c4,Y,X,V,R,K,v7.1,C,y,j,()))) (W.af (name==81) (W.ae (iF W J H G (-9223372036854775808) 9223372036854775807) λv8=>some ((),U3 v8.2 (c0,c1,c2,c3,c4,Y,X,V,R,K,F,v8.1,y,j,()))) (W.af (name==80) (W.ae (iF W J H G (-9223372036854775808) 9223372036854775807) λv9=>some ((),U3 v9.2 (c0,c1,c2,c3,c4,Y,X,V,R,K,F,C,v9.1,j,()))) (W.af (name==78) (W.ae (ux W J H G 32) λv10=>some ((),U3 v10.2 (c0,c1,c2,c3,c4,Y,X,V,R,K,F,C,y,v10.1,()))) (some ((),J,H,G,c0,c1,c2,c3,c4,Y,X,V,R,K,F,C,y,j,())))))))))))
abbrev ajA:=Di aj
def o7(C:Bool)(y:List Int)(j:Int):Option (Int×(Bool×(List Int)×Int×Unit)):=W.ae (rS W C y j) λv1=>W.af (v1.1 != 0) (some v1) (W.af (decide (0<(v1.2.2.1.length:Int))) (some (5,v1.2)) (some (0,v1.2)))
abbrev QR:=o7 aj
def Dj(b:List Int):Option (bX×Int×Unit):=W.ae (AM W b) λv1=>W.ae (iF W v1.2.1 v1.2.2.1 v1.2.2.2.1 1 31) λv2=>W.ae (j6 W v2.2.1 v2.2.2.1 v2.2.2.2.1 8) λv3=>W.ae (qW W v2.1) λv4=>W.aV (λ(z5:Bool×List (Int)×Int×Int×Int×Int×Int×Int×Int×Int×Int×Int×Int×Int×Int×Int×List (Int)×(ByteArray×Int×Unit)×Unit) j=>W.zd z5.2.2.2.2.2.2.2.2.2.2.2.2.2.2.2.2.2.1.1 z5.2.2.2.2.2.2.2.2.2.2.2.2.2.2.2.2.2.1.2.1 (λF C=>W.ae (Di W z5.1 z5.2.1 z5.2.2.1 z5.2.2.2.1 z5.2.2.2.2.1 z5.2.2.2.2.2.1 (c9 z5).1 (c9 z5).2.1 (c9 z5).2.2.1 (c9 z5).2.2.2.1 (c9 z5).2.2.2.2.1 (c9 z5).2.2.2.2.2.1 (aP z5).1 (aP z5).2.1 (aP z5).2.2.1 (aP z5).2.2.2.1 (aP z5).2.2.2.2.1 F) λv10=>(j (U17 v10.2 ((z5.2.2.2.2.2.2.2.2.2.2.2.2.2.2.2.2.2.1.1,C,()),())))) (W.ae (o7 W z5.1 z5.2.1 z5.2.2.1) λy=>W.af (y.1 != 0) (some ((0,0,0,(0,0,()),(0,0,()),0,0,0,0,0,0,[],()),3,())) (some (U3 z5.2.2.2 (((c9 z5).1,(c9 z5).2.1,()),((c9 z5).2.2.1,(c9 z5).2.2.2.1,()),U7 (c9 z5).2.2.2.2 ()),0,())))) (U3 v3.2 (v2.1,v3.1,0,0,0,0,0,0,0,0,0,0,0,[],(v4,0,()),()))
abbrev ajD:=Dj aj
def ja(s1 s2:List Int):Option Bool:=W.af ((s1.length:Int) != (s2.length:Int)) (some false) (W.aV (λ(y:Int×Unit) j=>W.af (decide (y.1<(s1.length:Int))) (W.aH s1 y.1 λF=>W.aH s2 y.1 λC=>W.af (F != C) (some false) (j (i64.wrap (y.1+1),()))) (some true)) (0,()))
abbrev Dk:=ja aj
def Dl(a b:bX):Option Bool:=W.ae (ja W (c9 a).2.2.2.2.2.1 (c9 b).2.2.2.2.2.1) λv1=>W.af v1 (W.af (a.1==b.1) (W.af (a.2.1==b.2.1) (W.af (a.2.2.1==b.2.2.1) (W.af (cX false ((a.2.2.2.1.1==b.2.2.2.1.1)&&(a.2.2.2.1.2.1==b.2.2.2.1.2.1))) (W.af (cX false ((a.2.2.2.2.1.1==b.2.2.2.2.1.1)&&(a.2.2.2.2.1.2.1==b.2.2.2.2.1.2.1))) (W.af (a.2.2.2.2.2.1==b.2.2.2.2.2.1) (W.af ((c9 a).1==(c9 b).1) (W.af ((c9 a).2.1==(c9 b).2.1) (W.af ((c9 a).2.2.1==(c9 b).2.2.1) (W.af ((c9 a).2.2.2.1==(c9 b).2.2.2.1) (some ((c9 a).2.2.2.2.1==(c9 b).2.2.2.2.1)) (some false)) (some false)) (some false)) (some false)) (some false)) (some false)) (some false)) (some false)) (some false)) (some false)) (some false)
abbrev ajM:=Dl aj
def Ab(c:bX):Option Int:=W.ae (uy W c) λv1=>W.ae (Dj W v1) λv2=>W.aG (λ(z3:Bool×Unit)=>W.af z3.1 (some 3) (some 0)) λj=>W.af (v2.2.1 != 0) (j (true,())) (W.ae (Dl W v2.1 c) λv5=>(j (!v5,())))
abbrev ahs:=Ab aj
def E6(_:Wd)(j:Int)(m:bB):Option (Bool×(Int×Unit)):=some (m.1==j,j,())
abbrev Pp:=E6 aj
def db(C:Int)(s:List bB):Option (Int×(Int×Unit)):=W.aV (λ(y:â) j=>W.af (decide (y.1<(s.length:Int))) (W.aH s y.1 λF=>W.ae (E6 W y.2.1 F) λv4=>W.af v4.1 (some (y.1,v4.2)) (j (i64.wrap (y.1+1),v4.2))) (some (-1,y.2))) (0,C,())
abbrev iz:=db aj
def pC(l:List bB)(id:Int):Option Int:=W.ae (db W id l) λv1=>some v1.1
abbrev Wp:=pC aj
def iC(l:List bB)(id:Int):Option (bB×Bool×Unit):=W.ae (pC W l id) λv1=>W.af (decide (v1<0)) (some ((0,0,0,0,()),false,())) (W.aH l v1 λj=>some (j,true,()))
abbrev BJ:=iC aj
def jP(m:bB):Option Int:=W.af (m.2.2.1 != 0) (some 15) (some 0)
abbrev qU:=jP aj
def mC(d:aM):Option (Int×aM):=W.af ((aP d).2.1==0) (some (0,d)) (W.two (W.ae (iC W d.2.1 (aP d).2.1) λv1=>W.af (!v1.2.1) (some (14,d)) (W.ae (jP W v1.1) λv2=>some (v2,d))))
abbrev MV:=mC aj
def yq(l:List aN)(id:Int):Option (Int×Bool×Unit):=W.aV (λ(y:Int×Unit) j=>W.af (decide (y.1<(l.length:Int))) (W.aH l y.1 λC=>W.af (decide (id<=C.1)) (some (y.1,C.1==id,())) (j (i64.wrap (y.1+1),()))) (some ((l.length:Int),false,()))) (0,())
abbrev Ju:=yq aj
def jo(s:List Int):Option (List Int):=W.qJ (List.isEmpty s) λg1=>W.af (cX false g1) (some []) (W.bc ((0:Nat)+s.length) 8 (some ([]++s)))
abbrev I3:=jo aj
def nk(a:aN):Option aN:=W.ae (jo W a.2.2.2.1) λv1=>some (U3 a (v1,()))
abbrev Ls:=nk aj
def mv(l:List aN)(id:Int):Option (aN×Bool×Unit):=W.ae (yq W l id) λv1=>W.af (!v1.2.1) (some ((0,0,0,[],()),false,())) (W.aH l v1.1 λj=>W.ae (nk W j) λv3=>some (v3,true,()))
abbrev NM:=mv aj
def lF(d:aM)(id:Int):Option (Bool×aM):=W.ae (mv W d.2.2.2.2.1 id) λv1=>W.af v1.2.1 (some (v1.1.2.1==(aP d).2.1,d)) (some (false,d))
abbrev KI:=lF aj
def jq(a:aN):Option (List ar):=W.af (a.2.2.1==1) (some ((a.1,0,())::[])) (W.aV (λ(y:S6) j=>W.af (decide (y.1<(a.2.2.2.1.length:Int))) (W.aH a.2.2.2.1 y.1 λC=>W.bc (y.2.1.length+((a.1,C,())::[]).length) 16 (j (i64.wrap (y.1+1),y.2.1++((a.1,C,())::[]),()))) (some y.2.1)) (0,[],()))
abbrev wZ:=jq aj
def kj(s:List ar)(F:ar):Option Int:=W.aV (λ(y:Int×Unit) j=>W.af (decide (y.1<(s.length:Int))) (W.aH s y.1 λC=>W.af (cX false ((F.1==C.1)&&(F.2.1==C.2.1))) (some y.1) (j (i64.wrap (y.1+1),()))) (some (-1))) (0,())
abbrev xC:=kj aj
def cT(s:List ar)(j:ar):Option Bool:=W.ae (kj W s j) λv1=>some (decide (0<=v1))
abbrev ns:=cT aj
def oZ(a:aN)(u:ar):Option Bool:=W.ae (jq W a) λv1=>W.ae (cT W v1 u) λv2=>some v2
abbrev ajs:=oZ aj
def py(l:List aN)(u:ar):Option Int:=W.aV (λ(y:Int×Unit) j=>W.af (decide (y.1<(l.length:Int))) (W.aH l y.1 λC=>W.ae (oZ W C u) λv4=>W.af v4 (some C.2.1) (j (i64.wrap (y.1+1),()))) (some 0)) (0,())
abbrev aef:=py aj
def gR(d:aM)(u:ar):Option (Bool×aM):=W.ae (py W d.2.2.2.2.1 u) λv1=>some (v1==(aP d).2.1,d)
abbrev QU:=gR aj
def KN(_:Wd)(j:Int)(g:dk):Option (Bool×(Int×Unit)):=some (g.1==j,j,())
abbrev aiS:=KN aj
def eQ(C:Int)(s:List dk):Option (Int×(Int×Unit)):=W.aV (λ(y:â) j=>W.af (decide (y.1<(s.length:Int))) (W.aH s y.1 λF=>W.ae (KN W y.2.1 F) λv4=>W.af v4.1 (some (y.1,v4.2)) (j (i64.wrap (y.1+1),v4.2))) (some (-1,y.2))) (0,C,())
abbrev pr:=eQ aj
def D2(l:List dk)(id:Int):Option Int:=W.ae (eQ W id l) λv1=>some v1.1
abbrev arh:=D2 aj
def tF(l:List dk)(id:Int):Option (dk×Bool×Unit):=W.ae (D2 W l id) λv1=>W.af (decide (v1<0)) (some ((0,(0,0,()),(0,0,()),(0,0,()),0,0,0,0,()),false,())) (W.aH l v1 λj=>some (j,true,()))
abbrev XJ:=tF aj
def kX(d:aM):Option (dk×aM):=W.two (W.ae (tF W (c9 d).2.1 (c9 (aP d)).2.2.2.2.1) λv1=>some (v1.1,d))
abbrev O4:=kX aj
def Hs(_:Wd)(j:Int)(g:cU):Option (Bool×(Int×Unit)):=some (g.1==j,j,())
abbrev aei:=Hs aj
def ei(C:Int)(s:List cU):Option (Int×(Int×Unit)):=W.aV (λ(y:â) j=>W.af (decide (y.1<(s.length:Int))) (W.aH s y.1 λF=>W.ae (Hs W y.2.1 F) λv4=>W.af v4.1 (some (y.1,v4.2)) (j (i64.wrap (y.1+1),v4.2))) (some (-1,y.2))) (0,C,())
abbrev ox:=ei aj
def xa(l:List cU)(id:Int):Option Int:=W.ae (ei W id l) λv1=>some v1.1
abbrev anY:=xa aj
def ua(l:List cU)(id:Int):Option (cU×Bool×Unit):=W.ae (xa W l id) λv1=>W.af (decide (v1<0)) (some ((0,(0,0,()),0,0,0,()),false,())) (W.aH l v1 λj=>some (j,true,()))
abbrev aej:=ua aj
def nG(d:aM):Option (cU×aM):=W.two (W.ae (ua W (c9 d).1 (c9 (aP d)).2.2.2.2.1) λv1=>some (v1.1,d))
abbrev O6:=nG aj
def rO(d:aM):Option (Bool×aM):=W.aG (λ(_:Unit)=>W.ae (kX W d) λv2=>W.ae (gR W v2.2 v2.1.2.2.1) λv3=>some v3) λV=>W.aG (λ(z5:S0)=>W.ae (gR W z5 ((aP z5).2.2.2.1,(aP z5).2.2.2.2.1,())) λv6=>some v6) λy=>W.aG (λ(_:Unit)=>W.ae (lF W d (aP d).2.2.2.1) λv9=>some v9) λF=>W.aG (λ(_:Unit)=>W.af ((aP d).1==7) (W.ae (gR W d ((aP d).2.2.2.2.2.1,(c9 (aP d)).1,())) λv12=>W.af v12.1 (some (true,v12.2)) (y v12.2)) (W.aG (λ(_:Unit)=>W.aG (λ(_:Unit)=>W.af ((aP d).1==11) (W.ae (kX W d) λG=>W.ae (gR W G.2 G.1.2.1) λR=>some R) (W.af ((aP d).1==13) (W.ae (nG W d) λv17=>W.ae (gR W v17.2 v17.1.2.1) λK=>some K) (W.af ((aP d).1==20) (W.ae (gR W d ((aP d).2.2.2.2.2.1,(c9 (aP d)).1,())) λJ=>some J) (W.af ((aP d).1==31) (some ((aP d).2.2.1==(aP d).2.1,d)) (some (false,d)))))) λH=>W.af ((aP d).1==9) (W.af ((aP d).1==9) (V ()) (H ())) (W.af ((aP d).1==10) (V ()) (H ()))) λj=>W.af ((aP d).1==8) (W.af ((aP d).1==8) (y d) (j ())) (W.af ((aP d).1==12) (W.af ((aP d).1==12) (y d) (j ())) (W.af ((aP d).1==17) (W.af ((aP d).1==17) (y d) (j ())) (W.af ((aP d).1==18) (W.af ((aP d).1==18) (y d) (j ())) (W.af ((aP d).1==19) (W.af ((aP d).1==19) (y d) (j ())) (W.af ((aP d).1==26) (W.af ((aP d).1==26) (y d) (j ())) (W.af ((aP d).1==27) (y d) (j ()))))))))) λC=>W.af ((aP d).1==5) (W.af ((aP d).1==5) (F ()) (C ())) (W.af ((aP d).1==28) (W.af ((aP d).1==28) (F ()) (C ())) (W.af ((aP d).1==29) (F ()) (C ())))
abbrev QW:=rO aj
def lG(d:aM):Option (Int×aM):=W.aG (λ(j:Bool×M3 (Int×Int×Int×Int×Int×Int×Int×Int×Int×Int×Int×Int×Int×List (Int)×Int×List (Int)×List dp×List dY×Unit))=>W.af j.1 (some (0,j.2)) (some (14,j.2))) λy=>W.af ((aP d).2.1==0) (y (true,d)) (W.ae (rO W d) λv3=>(y v3))
abbrev KK:=lG aj
def s6(m:bB):Option Int:=W.aG (λ(y:Bool×Unit)=>W.af y.1 (some 2) (some 0)) λj=>W.af (decide (m.1<1)) (j (true,())) (W.af (decide (8<m.1)) (j (true,())) (W.af (decide (m.2.1<0)) (j (true,())) (W.af (decide (4611686018427387904<m.2.1)) (j (true,())) (W.af (decide (m.2.2.1<0)) (j (true,())) (W.af (decide (3<m.2.2.1)) (j (true,())) (W.af (decide (m.2.2.2.1<0)) (j (true,())) (j (decide (2097152<m.2.2.2.1),()))))))))
abbrev ZF:=s6 aj
def ez(s:List bB):Option (List bB):=W.qJ (List.isEmpty s) λg1=>W.af (cX false g1) (some []) (W.bc ((0:Nat)+s.length) 32 (some ([]++s)))
abbrev uo:=ez aj
def yi(l:List bB)(m:bB):Option ((List bB)×Int×Unit):=W.ae (s6 W m) λv1=>W.af (v1 != 0) (some ([],v1,())) (W.ae (pC W l m.1) λv2=>W.af (decide (0<=v2)) (some ([],12,())) (W.two (W.ae (ez W l) λv3=>W.bc (v3.length+(m::[]).length) 32 (W.aG (λ(z4:List bB×Unit)=>some (z4.1,0,())) λG=>W.aV (λ(j:Int×List bB×Unit) y=>W.af (decide (0<j.1)) (W.aH j.2.1 (i64.wrap (j.1-1)) λ_=>W.cr j.2.1 ((i64.wrap (j.1-1)).toNat) λH=>W.af (decide (m.1<H.1)) (W.aH j.2.1 j.1 λ_=>W.aH j.2.1 (i64.wrap (j.1-1)) λ_=>W.cr j.2.1 (j.1.toNat) λC=>W.cr j.2.1 ((i64.wrap (j.1-1)).toNat) λF=>W.aH j.2.1 (i64.wrap (j.1-1)) λ_=>W.cr j.2.1 ((i64.wrap (j.1-1)).toNat) λ_=>W.aH (List.set j.2.1 ((i64.wrap (j.1-1)).toNat) C) j.1 λ_=>W.cr (List.set j.2.1 ((i64.wrap (j.1-1)).toNat) C) (j.1.toNat) λ_=>(y (i64.wrap (j.1-1),List.set (List.set j.2.1 ((i64.wrap (j.1-1)).toNat) C) (j.1.toNat) F,()))) (G j.2)) (G j.2)) (i64.wrap (((v3++(m::[])).length:Int)-1),v3++(m::[]),())))))
abbrev Uq:=yi aj
def pN(p:Int):Option Bool:=W.af (decide (0<=p)) (some (decide (p<=2147483647))) (some false)
abbrev aaM:=pN aj
def DP(m:Int):Option Bool:=W.af (decide (m<(-2147483647))) (some true) (some (decide (2147483647<m)))
abbrev ane:=DP aj
def iH(s:List Int):Option (Int×Unit):=W.aV (λ(y:Int×Unit) j=>W.af (decide (y.1<(s.length:Int))) (W.aH s y.1 λC=>W.ae (DP W C) λv4=>W.af v4 (some y) (j (i64.wrap (y.1+1),()))) (some (-1,()))) (0,())
abbrev sC:=iH aj
def dZ(s:List Int):Option (Bool×Unit):=W.ae (iH W s) λv1=>some (decide (0<=v1.1),())
abbrev qR:=dZ aj
def ue(i:bR):Option Int:=W.aG (λ(C:Bool×Unit)=>W.aG (λ(z2:Bool×Unit)=>W.af z2.1 (some 2) (some 0)) λj=>W.af (!C.1) (j (true,())) (W.ae (pN W i.2.2.1) λv4=>W.af (!v4) (j (true,())) (W.ae (pN W i.2.2.2.1) λv5=>W.af (!v5) (j (true,())) (W.af (decide (8<(i.2.2.2.2.1.length:Int))) (j (true,())) (W.ae (dZ W i.2.2.2.2.1) λv6=>(j v6)))))) λy=>W.af (decide (1<=i.1)) (W.af (decide (i.1<=8)) (W.af (decide (1<=i.2.1)) (y (decide (i.2.1<=65536),())) (y (false,()))) (y (false,()))) (y (false,()))
abbrev adJ:=ue aj
def J5(_:Wd)(j:Int)(i:bR):Option (Bool×(Int×Unit)):=some (i.1==j,j,())
def gy(C:Int)(s:List bR):Option (Int×(Int×Unit)):=W.aV (λ(y:â) j=>W.af (decide (y.1<(s.length:Int))) (W.aH s y.1 λF=>W.ae (J5 W y.2.1 F) λv4=>W.af v4.1 (some (y.1,v4.2)) (j (i64.wrap (y.1+1),v4.2))) (some (-1,y.2))) (0,C,())
abbrev pq:=gy aj
def Ht(l:List bR)(id:Int):Option Int:=W.ae (gy W id l) λv1=>some v1.1
abbrev aq9:=Ht aj
def Hu(_:Wd)(j G F C:Int)(y:List Int)(H:bR):Option (Bool×(Int×Int×Int×Int×(List Int)×Unit)):=some (decide (j<H.1),j,G,F,C,y,())
abbrev aeg:=Hu aj
def eK(J H G F:Int)(C:List Int)(s:List bR):Option (Int×(Int×Int×Int×Int×(List Int)×Unit)):=W.aV (λ(j:Int×Int×Int×Int×Int×List (Int)×Unit) y=>W.af (decide (j.1<(s.length:Int))) (W.aH s j.1 λK=>W.ae (Hu W j.2.1 j.2.2.1 j.2.2.2.1 j.2.2.2.2.1 j.2.2.2.2.2.1 K) λv4=>W.af v4.1 (some (j.1,v4.2)) (y (i64.wrap (j.1+1),v4.2))) (some (-1,j.2))) (0,J,H,G,F,C,())
abbrev pa:=eK aj
def jd(s:List Int):Option (List Int):=W.qJ (List.isEmpty s) λg1=>W.af (cX false g1) (some []) (W.bc ((0:Nat)+s.length) 8 (some ([]++s)))
abbrev DU:=jd aj
def Eb(i:bR):Option bR:=W.ae (jd W i.2.2.2.2.1) λv1=>some (U4 i (v1,()))
abbrev aaS:=Eb aj
def vo(l:List bR):Option (List bR):=W.aV (λ(y:S24) j=>W.af (decide (y.1<(l.length:Int))) (W.aH l y.1 λC=>W.ae (Eb W C) λv4=>W.bc (y.2.1.length+(v4::[]).length) 56 (j (i64.wrap (y.1+1),y.2.1++(v4::[]),()))) (some y.2.1)) (0,[],())
abbrev P4:=vo aj
def D1(l:List bR)(i:bR):Option ((List bR)×Int×Unit):=W.ae (ue W i) λv1=>W.af (v1 != 0) (some ([],v1,())) (W.ae (Ht W l i.1) λv2=>W.af (decide (0<=v2)) (some ([],12,())) (W.ae (eK W i.1 i.2.1 i.2.2.1 i.2.2.2.1 i.2.2.2.2.1 l) λv3=>W.aG (λ(z4:Int×Unit)=>W.ae (vo W l) λv5=>W.ae (Eb W v3.2) λv6=>W.ae (EO v5 z4.1 (v6::[])) λy=>some (y.1,0,())) λj=>W.af (decide (v3.1<0)) (j ((l.length:Int),())) (j (v3.1,()))))
abbrev aby:=D1 aj
def sY(p:Int):Option Bool:=W.af (decide (0<=p)) (some (decide (p<=2147483647))) (some false)
abbrev LG:=sY aj
def pJ(a:bu):Option Int:=W.aG (λ(y:Bool×Unit)=>W.af y.1 (some 2) (some 0)) λj=>W.af (decide (a.1<1)) (j (true,())) (W.af (decide (4<a.1)) (j (true,())) (W.ae (sY W a.2.1) λv3=>W.af (!v3) (j (true,())) (W.af (decide (a.2.2.1<0)) (j (true,())) (j (decide (10000<a.2.2.1),())))))
abbrev Pq:=pJ aj
def pz(l:List bu)(id:Int):Option (bu×Bool×Unit):=W.aV (λ(y:Int×Unit) j=>W.af (decide (y.1<(l.length:Int))) (W.aH l y.1 λC=>W.af (C.1==id) (some (C,true,())) (j (i64.wrap (y.1+1),()))) (some ((0,0,0,()),false,()))) (0,())
abbrev JB:=pz aj
def xc(_:Wd)(j:Int):Option Bool:=some (j != j)
abbrev XD:=xc aj
def pM(j y:Int):Option Int:=W.ae (xc W j) λv1=>W.ae (xc W y) λv2=>W.af v1 (W.af v2 (some 0) (some (-1))) (W.af v2 (some 1) (W.af (decide (j<y)) (some (-1)) (W.af (decide (y<j)) (some 1) (some 0))))
abbrev P3:=pM aj
def tZ(a:bu)(id:Int):Option Int:=W.ae (pM W a.1 id) λv1=>some v1
abbrev J':=tZ aj
def dj(C:List bu)(target:Int):Option ((Int×Bool×Unit)×Unit):=W.aV (λ(j:â) y=>W.af (decide (j.1<j.2.1)) (W.jb 1 (W.aH C (i64.wrap (Int.fdiv (u64.wrap (i64.wrap (j.1+j.2.1))) (2 ^ (min (Int.toNat 1) u64.bits)))) λG=>W.ae (tZ W G target) λv4=>W.af (decide (v4<0)) (y (i64.wrap ((i64.wrap (Int.fdiv (u64.wrap (i64.wrap (j.1+j.2.1))) (2 ^ (min (Int.toNat 1) u64.bits))))+1),j.2)) (y (j.1,i64.wrap (Int.fdiv (u64.wrap (i64.wrap (j.1+j.2.1))) (2 ^ (min (Int.toNat 1) u64.bits))),())))) (W.af (decide (j.1<(C.length:Int))) (W.aH C j.1 λF=>W.ae (tZ W F target) λv6=>some ((j.1,v6==0,()),())) (some ((j.1,false,()),())))) (0,(C.length:Int),())
abbrev kG:=dj aj
def eO(s:List bu):Option (List bu):=W.qJ (List.isEmpty s) λg1=>W.af (cX false g1) (some []) (W.bc ((0:Nat)+s.length) 24 (some ([]++s)))
abbrev vU:=eO aj
def AW(l:List bu)(a:bu):Option ((List bu)×Int×Unit):=W.ae (pJ W a) λv1=>W.af (v1 != 0) (some ([],v1,())) (W.ae (pz W l a.1) λv2=>W.af v2.2.1 (some ([],12,())) (W.ae (dj W l a.1) λv3=>W.two (W.ae (eO W l) λv4=>W.ae (GY v4 v3.1.1 (a::[])) λv5=>some (v5.1,0,()))))
abbrev XH:=AW aj
def fX(d:aM):Option ((bB×Int×Unit)×aM):=W.two (W.ae (iC W d.2.1 (aP d).2.2.1) λv1=>W.af (!v1.2.1) (some (((0,0,0,0,()),11,()),d)) (some ((v1.1,0,()),d)))
abbrev B9:=fX aj
def tD(kind:Int):Option Int:=W.af (kind==1) (some 0) (W.af (kind==4) (some 1) (some 16))
abbrev Xp:=tD aj
def q'(a:aN):Option Int:=W.aG (λ(J:Bool×Unit)=>W.aG (λ(z2:Bool×Unit)=>W.af z2.1 (some 2) (W.aV (λ(z3:â) y=>W.af (decide (z3.2.1<(a.2.2.2.1.length:Int))) (W.aH a.2.2.2.1 z3.2.1 λF=>W.aG (λ(H:Bool×Unit)=>W.af H.1 (some 2) (y (F,i64.wrap (z3.2.1+1),()))) λG=>W.af (decide (F<=z3.1)) (G (true,())) (G (decide (16<F),()))) (some 0)) (0,0,()))) λC=>W.af (!J.1) (C (true,())) (W.af (decide (a.2.2.1<1)) (C (true,())) (W.af (decide (4<a.2.2.1)) (C (true,())) (W.ae (tD W a.2.2.1) λv9=>(C (decide (v9<(a.2.2.2.1.length:Int)),())))))) λj=>W.af (decide (1<=a.1)) (W.af (decide (a.1<=16)) (W.af (decide (1<=a.2.1)) (j (decide (a.2.1<=8),())) (j (false,()))) (j (false,()))) (j (false,()))
abbrev adD:=q' aj
def rM(l:List aN):Option (List aN):=W.aV (λ(y:S22) j=>W.af (decide (y.1<(l.length:Int))) (W.aH l y.1 λC=>W.ae (nk W C) λv4=>W.bc (y.2.1.length+(v4::[]).length) 48 (j (i64.wrap (y.1+1),y.2.1++(v4::[]),()))) (some y.2.1)) (0,[],())
abbrev abu:=rM aj
def DZ(l:List aN)(a:aN):Option ((List aN)×Int×Unit):=W.ae (q' W a) λv1=>W.af (v1 != 0) (some ([],v1,())) (W.ae (yq W l a.1) λv2=>W.af v2.2.1 (some ([],12,())) (W.ae (rM W l) λv3=>W.ae (nk W a) λv4=>W.ae (CS v3 v2.1 (v4::[])) λv5=>some (v5.1,0,())))
abbrev anQ:=DZ aj
def jG(d:aM):Option (Int×aM):=W.af ((aP d).2.2.2.2.1 != 0) (some (2,d)) (W.ae (fX W d) λv1=>W.aG (λ(z2:Int×Unit)=>W.aG (λ(z3:S1)=>some z3) λy=>W.af (z2.1==0) (W.ae (DZ W v1.2.2.2.2.2.1 ((aP v1).2.2.2.2.1,(aP v1).2.2.2.1,(c9 (aP v1)).2.2.2.2.2.1,[],())) λv5=>(y (v5.2.1,U4 v1.2 (v5.1,(c9 v1))))) (y (z2.1,v1.2))) λj=>W.af (v1.1.2.1==0) (W.ae (jP W v1.1.1) λC=>(j (C,()))) (j v1.1.2))
abbrev wk:=jG aj
def D4(j y:Int):Option Bool:=W.ae (xc W j) λv1=>W.af v1 (W.ae (xc W y) λv2=>W.af (!v2) (some true) (some (decide (j<y)))) (some (decide (j<y)))
abbrev ab7:=D4 aj
def xz(_:Wd)(j:Int):Option Bool:=some (j != j)
abbrev MR:=xz aj
def jw(C:List Int)(target:Int):Option (Int×Bool×Unit):=W.aV (λ(j:â) y=>W.af (decide (j.1<j.2.1)) (W.jb 1 (W.aH C (i64.wrap (Int.fdiv (u64.wrap (i64.wrap (j.1+j.2.1))) (2 ^ (min (Int.toNat 1) u64.bits)))) λH=>W.ae (D4 W H target) λv4=>W.af v4 (y (i64.wrap ((i64.wrap (Int.fdiv (u64.wrap (i64.wrap (j.1+j.2.1))) (2 ^ (min (Int.toNat 1) u64.bits))))+1),j.2)) (y (j.1,i64.wrap (Int.fdiv (u64.wrap (i64.wrap (j.1+j.2.1))) (2 ^ (min (Int.toNat 1) u64.bits))),())))) (W.af (decide (j.1<(C.length:Int))) (W.aH C j.1 λG=>W.af (G==target) (some (j.1,true,())) (W.aH C j.1 λF=>W.ae (xz W F) λK=>W.af K (W.ae (xz W target) λJ=>some (j.1,J,())) (some (j.1,false,())))) (some (j.1,false,())))) (0,(C.length:Int),())
abbrev Ba:=jw aj
def Bb(a:aN)(j:Int):Option (aN×Int×Unit):=W.ae (q' W a) λv1=>W.af (v1 != 0) (some ((0,0,0,[],()),v1,())) (W.ae (jw W a.2.2.2.1 j) λv2=>W.af (a.2.2.1==1) (some ((0,0,0,[],()),17,())) (W.aG (λ(z3:Bool×Unit)=>W.af z3.1 (some ((0,0,0,[],()),2,())) (W.af v2.2.1 (some ((0,0,0,[],()),12,())) (W.ae (tD W a.2.2.1) λv4=>W.af (decide (v4<=(a.2.2.2.1.length:Int))) (some ((0,0,0,[],()),10,())) (W.ae (jo W a.2.2.2.1) λv5=>W.ae (Oi v5 v2.1 (j::[])) λv6=>some (U3 a v6,0,()))))) λy=>W.af (decide (j<1)) (y (true,())) (y (decide (16<j),()))))
abbrev XL:=Bb aj
def D0(l:List aN)(a:aN):Option ((List aN)×Int×Unit):=W.ae (q' W a) λv1=>W.af (v1 != 0) (some ([],v1,())) (W.ae (yq W l a.1) λv2=>W.af (!v2.2.1) (some ([],11,())) (W.ae (rM W l) λv3=>W.ae (nk W a) λv4=>W.aH v3 v2.1 λ_=>W.cr v3 (v2.1.toNat) λ_=>some (List.set v3 (v2.1.toNat) v4,0,())))
abbrev anR:=D0 aj
def pg(d:aM):Option (Int×aM):=W.two (W.ae (mv W d.2.2.2.2.1 (aP d).2.2.2.1) λv1=>W.af (!v1.2.1) (some (11,d)) (W.two (W.ae (iC W d.2.1 v1.1.2.1) λv2=>W.ae (jP W v2.1) λv3=>W.af (v3 != 0) (some (v3,d)) (W.two (W.ae (Bb W v1.1 (aP d).2.2.2.2.1) λv4=>W.aG (λ(z5:S1)=>some z5) λy=>W.af (v4.2.1==0) (W.ae (D0 W d.2.2.2.2.1 v4.1) λj=>(y (j.2.1,U4 d (j.1,d.2.2.2.2.2)))) (y (v4.2.1,d)))))))
abbrev FN:=pg aj
def tY(l:List bB)(m:bB):Option ((List bB)×Int×Unit):=W.ae (s6 W m) λv1=>W.af (v1 != 0) (some ([],v1,())) (W.ae (pC W l m.1) λv2=>W.af (decide (v2<0)) (some ([],11,())) (W.ae (ez W l) λv3=>W.aH v3 v2 λ_=>W.cr v3 (v2.toNat) λ_=>some (List.set v3 (v2.toNat) m,0,())))
abbrev Ur:=tY aj
def nL(d:aM):Option (Int×aM):=W.aG (λ(C:S1)=>some C) λy=>W.af ((aP d).1==1) (W.ae (yi W d.2.1 ((aP d).2.2.1,(c9 (aP d)).2.2.2.2.2.1,0,0,())) λv3=>(y (v3.2.1,d.1,v3.1,d.2.2))) (W.af ((aP d).1==2) (W.ae (D1 W d.2.2.1 ((c9 (aP d)).2.1,(c9 (aP d)).2.2.2.2.2.1,(aP (aP d)).1,(aP (aP d)).1,(aP (aP d)).2.1,())) λv4=>(y (v4.2.1,d.1,d.2.1,v4.1,d.2.2.2))) (W.af ((aP d).1==3) (W.ae (AW W d.2.2.2.1 ((c9 (aP d)).2.2.1,(aP (aP d)).1,(c9 (aP d)).2.2.2.2.2.1,())) λv5=>(y (v5.2.1,U3 d (v5.1,d.2.2.2.2)))) (W.af ((aP d).1==4) (W.ae (jG W d) λv6=>(y v6)) (W.af ((aP d).1==5) (W.ae (pg W d) λF=>(y F)) (W.af ((aP d).1==6) (W.ae (fX W d) λj=>W.af (j.1.2.1 != 0) (some (j.1.2.1,j.2)) (W.ae (tY W j.2.2.1 (j.1.1.1,(aP (aP j)).1,j.1.1.2.2)) λv9=>(y (v9.2.1,j.2.1,v9.1,j.2.2.2)))) (y (0,d)))))))
abbrev O':=nL aj
def jF(d:aM)(u:ar):Option (Int×aM):=W.ae (py W d.2.2.2.2.1 u) λv1=>W.af (v1==0) (some (11,d)) (some (0,d))
abbrev C0:=jF aj
def iV(d:aM)(u:ar):Option (bB×aM):=W.gP (W.ae (py W d.2.2.2.2.1 u) λv1=>W.two (W.ae (iC W d.2.1 v1) λv2=>some (v2.1,d))) (W.ae (py W d.2.2.2.2.1 u) λv4=>W.ae (iC W d.2.1 v4) λv5=>some (v5.1,d))
abbrev D7:=iV aj
def gw(d:aM)(l:List ar):Option (Int×aM):=W.aV (λ(y:S1) j=>W.af (decide (y.1<(l.length:Int))) (W.aH l y.1 λC=>W.ae (jF W y.2 C) λv4=>W.af (v4.1 != 0) (some v4) (W.ae (iV W v4.2 C) λv5=>W.ae (jP W v5.1) λv6=>W.af (v6 != 0) (some (v6,v5.2)) (j (i64.wrap (y.1+1),v5.2)))) (some (0,y.2))) (0,d)
abbrev tf:=gw aj
def pK(l:List bR)(id:Int):Option (bR×Bool×Unit):=W.ae (Ht W l id) λv1=>W.af (decide (v1<0)) (some ((0,0,0,0,[],()),false,())) (W.aH l v1 λj=>W.ae (Eb W j) λv3=>some (v3,true,()))
abbrev Wq:=pK aj
def jr(d:aM)(id:Int):Option ((bR×Int×Unit)×aM):=W.ae (pK W d.2.2.1 id) λv1=>W.af (!v1.2.1) (some (((0,0,0,0,[],()),11,()),d)) (some ((v1.1,0,()),d))
abbrev QV:=jr aj
def IP(l:List ar):Option Bool:=W.aV (λ(y:â) j=>W.af (decide (y.2.1<(l.length:Int))) (W.aH l y.2.1 λC=>W.aG (λ(z4:Bool×Unit)=>W.af z4.1 (some false) (j (C.1,i64.wrap (y.2.1+1),()))) λF=>W.af (decide (C.1<=y.1)) (F (true,())) (W.af (decide (8<C.1)) (F (true,())) (F (C.2.1==0,())))) (some true)) (0,0,())
abbrev auM:=IP aj
def mB(a b:ar):Option Bool:=W.af (a.1 != b.1) (some (decide (a.1<b.1))) (some (decide (a.2.1<b.2.1)))
abbrev OX:=mB aj
def qf(l:List cj):Option Bool:=W.aV (λ(y:Int×Unit) j=>W.af (decide (y.1<(l.length:Int))) (W.aH l y.1 λF=>W.aG (λ(z4:Bool×Unit)=>W.af z4.1 (some false) (j (i64.wrap (y.1+1),()))) λC=>W.af ((F.2.1.length:Int)==0) (W.two (C (true,()))) (W.ae (IP W F.2.1) λv6=>W.af (!v6) (W.two (C (true,()))) (W.af (decide (0<y.1)) (W.aH l (i64.wrap (y.1-1)) λG=>W.two (W.ae (mB W G.1 F.1) λH=>(C (!H,())))) (W.two (C (false,())))))) (some true)) (0,())
abbrev X1:=qf aj
def qv(l:List aZ):Option Bool:=W.aV (λ(y:Int×Unit) j=>W.af (decide (y.1<(l.length:Int))) (W.aH l y.1 λF=>W.aG (λ(z4:Bool×Unit)=>W.af z4.1 (some false) (j (i64.wrap (y.1+1),()))) λC=>W.af (F.2.1==0) (C (true,())) (W.af (decide (0<y.1)) (W.aH l (i64.wrap (y.1-1)) λG=>W.ae (mB W G.1 F.1) λH=>(C (!H,()))) (C (false,())))) (some true)) (0,())
abbrev Lv:=qv aj
def He(d:tS):Option Bool:=W.ae (qf W d.1) λv1=>W.af v1 (W.ae (qv W d.2.1) λv2=>some v2) (some false)
abbrev aq4:=He aj
def xZ(i:bR)(ie e8:Int):Option Bool:=W.ae (ue W i) λv1=>W.af (v1==0) (W.af (decide (0<=e8)) (W.af (decide (e8<=2147483647)) (W.af (ie != 0) (W.af (decide ((-1099511627776)<=ie)) (some (decide (ie<=1099511627776))) (some false)) (some false)) (some false)) (some false)) (some false)
abbrev Ua:=xZ aj
def je(n:Int):Option bF:=W.jb 63 (some (Int.fdiv n (2 ^ (min (Int.toNat 63) i64.bits)),u64.wrap n,()))
abbrev Yk:=je aj
def fe(_:Wd)(w:bF):Option Bool:=some (decide (w.1<0))
abbrev p8:=fe aj
def iv(w:bF):Option OR:=W.ae (fe W w) λv1=>W.af (!v1) (some (u64.wrap w.1,w.2)) (W.ae (G0 0 w.2.1 0) λv2=>W.ae (G0 0 (u64.wrap w.1) v2.2.1) λv3=>some (v3.1,v2.1,()))
abbrev Ac:=iv aj
def ke(j y:Int):Option (Int×Int×Unit):=W.jb 32 (W.jb 32 (W.jb 32 (W.jb 32 (W.jb 32 (some (u64.wrap ((u64.wrap ((u64.wrap ((Int.fdiv j (2 ^ (min (Int.toNat 32) u64.bits)))*(Int.fdiv y (2 ^ (min (Int.toNat 32) u64.bits)))))+(Int.fdiv (u64.wrap ((u64.wrap ((Int.fdiv j (2 ^ (min (Int.toNat 32) u64.bits)))*(Go.bits Go.BinOp.and u64 y 4294967295)))+(Int.fdiv (u64.wrap ((Go.bits Go.BinOp.and u64 j 4294967295)*(Go.bits Go.BinOp.and u64 y 4294967295))) (2 ^ (min (Int.toNat 32) u64.bits))))) (2 ^ (min (Int.toNat 32) u64.bits)))))+(Int.fdiv (u64.wrap ((Go.bits Go.BinOp.and u64 (u64.wrap ((u64.wrap ((Int.fdiv j (2 ^ (min (Int.toNat 32) u64.bits)))*(Go.bits Go.BinOp.and u64 y 4294967295)))+(Int.fdiv (u64.wrap ((Go.bits Go.BinOp.and u64 j 4294967295)*(Go.bits Go.BinOp.and u64 y 4294967295))) (2 ^ (min (Int.toNat 32) u64.bits))))) 4294967295)+(u64.wrap ((Go.bits Go.BinOp.and u64 j 4294967295)*(Int.fdiv y (2 ^ (min (Int.toNat 32) u64.bits))))))) (2 ^ (min (Int.toNat 32) u64.bits)))),u64.wrap (j*y),()))))))
abbrev yL:=ke aj
def gY(s:OR)(minus:Bool):Option (bF×Bool×Unit):=W.af (!minus) (some ((i64.wrap s.1,s.2),decide (s.1<9223372036854775808),())) (W.ae (G0 0 s.2.1 0) λv1=>W.ae (G0 0 s.1 v1.2.1) λv2=>W.af (decide (s.1<9223372036854775808)) (some ((i64.wrap v2.1,v1.1,()),true,())) (W.af (s.1==9223372036854775808) (some ((i64.wrap v2.1,v1.1,()),s.2.1==0,())) (some ((i64.wrap v2.1,v1.1,()),false,()))))
abbrev jk:=gY aj
def o8(a b:Int):Option bF:=W.ae (je W a) λv1=>W.ae (je W b) λv2=>W.ae (iv W v1) λv3=>W.ae (iv W v2) λv4=>W.ae (ke W v3.2.1 v4.2.1) λv5=>W.gP (W.ae (fe W v1) λv6=>W.gP (W.ae (fe W v2) λF=>W.two (W.ae (gY W v5 (cX true (v6==F))) λC=>some C.1)) (W.ae (fe W v2) λv10=>W.ae (gY W v5 (cX true (v6==v10))) λv11=>some v11.1)) (W.ae (fe W v1) λv12=>W.ae (fe W v2) λy=>W.ae (gY W v5 (cX true (v12==y))) λj=>some j.1)
abbrev Dp:=o8 aj
def pO(w:bF)(ok:Bool):Option (bF×Int×Unit):=W.af (!ok) (some ((0,0,()),7,())) (some (w,0,()))
abbrev abo:=pO aj
def tT(w:bF)(n:Int):Option (bF×Int×Unit):=W.ae (iv W w) λv1=>W.ae (je W n) λv2=>W.ae (iv W v2) λv3=>W.ae (ke W v1.1 v3.2.1) λv4=>W.ae (ke W v1.2.1 v3.2.1) λv5=>W.ae (Jj v4.2.1 v5.1 0) λv6=>W.ae (fe W w) λy=>W.ae (gY W (v6.1,v5.2) (cX true (y==(decide (n<0))))) λj=>W.af j.2.1 (W.af (v4.1==0) (W.ae (pO W j.1 (v6.2.1==0)) λv9=>some v9) (W.ae (pO W j.1 false) λv10=>some v10)) (W.ae (pO W j.1 false) λv11=>some v11)
abbrev adM:=tT aj
def qu(w:bF):Option (Int×Int×Unit):=W.ae (je W (i64.wrap w.2.1)) λv1=>W.af (cX true ((v1.1==w.1)&&(v1.2.1==w.2.1))) (some (0,7,())) (some (i64.wrap w.2.1,0,()))
abbrev MF:=qu aj
def E7(i:bR)(ie from_ j:Int):Option (Int×Int×Unit):=W.aG (λ(C:Bool×Unit)=>W.af C.1 (some (0,2,())) (W.ae (o8 W (i64.wrap (j-from_)) i.2.1) λv2=>W.ae (tT W v2 ie) λv3=>W.af (v3.2.1 != 0) (some (0,v3.2)) (W.ae (qu W v3.1) λv4=>some v4))) λy=>W.ae (ue W i) λv6=>W.af (v6 != 0) (y (true,())) (W.ae (pN W from_) λG=>W.af (!G) (y (true,())) (W.ae (pN W j) λF=>(y (!F,()))))
abbrev ai5:=E7 aj
def wW(l:List ar):Option Bool:=W.ae (IP W l) λv1=>some (!v1)
abbrev amZ:=wW aj
def jQ(t0 t1 t2:Int)(w:bF):Option (Unit×(Int×Int×Int×Unit)):=W.ae (Jj t2 w.2.1 0) λv1=>W.ae (Jj (u64.wrap t1) (u64.wrap w.1) v1.2.1) λv2=>W.jb 63 (some ((),i64.wrap (t0+(i64.wrap ((Int.fdiv w.1 (2 ^ (min (Int.toNat 63) i64.bits)))+(i64.wrap v2.2.1)))),i64.wrap v2.1,v1.1,()))
abbrev AV:=jQ aj
def mg(t0 t1 t2:Int):Option ((bF×Int×Unit)×(Int×Int×Int×Unit)):=W.jb 63 (W.ae (pO W (t1,t2,()) (t0==(Int.fdiv t1 (2 ^ (min (Int.toNat 63) i64.bits))))) λv1=>some (v1,t0,t1,t2,()))
abbrev QS:=mg aj
def DY(a b:bF):Option (bF×Int×Unit):=W.ae (jQ W 0 0 0 a) λv1=>W.ae (jQ W v1.2.1 v1.2.2.1 v1.2.2.2.1 (Go.bits Go.BinOp.xor i64 (if true=true then(-1)else(if true=true then((2 ^ (i64.bits-1))-1)else((2 ^ i64.bits)-1))) b.1,Go.bits Go.BinOp.xor u64 (if false=true then(-1)else(if false=true then((2 ^ (u64.bits-1))-1)else((2 ^ u64.bits)-1))) b.2.1,())) λv2=>W.ae (je W 1) λv3=>W.ae (jQ W v2.2.1 v2.2.2.1 v2.2.2.2.1 v3) λv4=>W.ae (mg W v4.2.1 v4.2.2.1 v4.2.2.2.1) λv5=>some v5.1
abbrev an8:=DY aj
def px(w:bF)(e:Int):Option (Int×Int×Unit):=W.af (e != 0) (some (0,e,())) (W.ae (qu W w) λv1=>some v1)
abbrev JA:=px aj
def yh(a b:Int):Option (Int×Int×Unit):=W.ae (je W a) λv1=>W.ae (je W b) λv2=>W.ae (DY W v1 v2) λv3=>W.ae (px W v3.1 v3.2.1) λv4=>some v4
abbrev ZH:=yh aj
def sJ(l:List ar):Option ((List ar)×Int×Unit):=W.ae (wW W l) λv1=>W.af v1 (some ([],3,())) (W.aV (λ(z2:S6) j=>W.af (decide (z2.1<(l.length:Int))) (W.aH l z2.1 λy=>W.ae (yh W 0 y.2.1) λv5=>W.af (v5.2.1 != 0) (some ([],v5.2)) (W.bc (z2.2.1.length+((y.1,v5.1,())::[]).length) 16 (j (i64.wrap (z2.1+1),z2.2.1++((y.1,v5.1,())::[]),())))) (some (z2.2.1,0,()))) (0,[],()))
abbrev X8:=sJ aj
def fN(s:List ar):Option (List ar):=W.qJ (List.isEmpty s) λg1=>W.af (cX false g1) (some []) (W.bc ((0:Nat)+s.length) 16 (some ([]++s)))
abbrev qK:=fN aj
def vp(l:List cj)(u:ar):Option (List ar):=W.aV (λ(y:Int×Unit) j=>W.af (decide (y.1<(l.length:Int))) (W.aH l y.1 λC=>W.af (cX false ((C.1.1==u.1)&&(C.1.2.1==u.2.1))) (W.ae (fN W C.2.1) λv4=>some v4) (j (i64.wrap (y.1+1),()))) (some [])) (0,())
abbrev Lw:=vp aj
def gK(s:List (List ar)):Option (Int×Unit):=W.aV (λ(y:Int×Unit) j=>W.af (decide (y.1<(s.length:Int))) (W.aH s y.1 λC=>W.ae (wW W C) λv4=>W.af v4 (some y) (j (i64.wrap (y.1+1),()))) (some (-1,()))) (0,())
abbrev qC:=gK aj
def dB(s:List (List ar)):Option (Bool×Unit):=W.ae (gK W s) λv1=>some (decide (0<=v1.1),())
abbrev pp:=dB aj
def Hv(l:List ar)(inst:Int):Option Int:=W.aV (λ(y:Int×Unit) j=>W.af (decide (y.1<(l.length:Int))) (W.aH l y.1 λC=>W.af (C.1==inst) (some C.2.1) (j (i64.wrap (y.1+1),()))) (some 0)) (0,())
abbrev agy:=Hv aj
def nq(l:List bF):Option (bF×Int×Unit):=W.aV (λ(j:S17) y=>W.af (decide (j.1<(l.length:Int))) (W.aH l j.1 λC=>W.ae (jQ W j.2.1 j.2.2.1 j.2.2.2.1 C) λv4=>(y (i64.wrap (j.1+1),v4.2))) (W.ae (mg W j.2.1 j.2.2.1 j.2.2.2.1) λv5=>some v5.1)) (0,0,0,0,())
abbrev xK:=nq aj
def jE(l:List Int):Option (Int×Int×Unit):=W.jb (l.length:Int) (W.bc ((l.length:Int).toNat) 16 (W.aV (λ(y:S6) j=>W.af (decide (y.1<(l.length:Int))) (W.aH l y.1 λC=>W.ae (je W C) λv4=>W.bc (y.2.1.length+(v4::[]).length) 16 (j (i64.wrap (y.1+1),y.2.1++(v4::[]),()))) (W.ae (nq W y.2.1) λv5=>W.ae (px W v5.1 v5.2.1) λv6=>some v6)) (0,[],())))
abbrev H5:=jE aj
def AK(l:List (List ar)):Option ((List ar)×Int×Unit):=W.ae (dB W l) λv1=>W.af v1.1 (some ([],3,())) (W.aV (λ(z2:S6) C=>W.af (decide (z2.1<=8)) (W.aG (λ(z4:List ar×Unit)=>(C (i64.wrap (z2.1+1),z4))) λF=>W.aV (λ(j:S19) y=>W.af (decide (j.1<(l.length:Int))) (W.aH l j.1 λG=>W.ae (Hv W G z2.1) λv9=>W.bc (j.2.2.1.length+(v9::[]).length) 8 (y (i64.wrap (j.1+1),j.2.1,j.2.2.1++(v9::[]),()))) (W.ae (jE W j.2.2.1) λv10=>W.af (v10.2.1 != 0) (some ([],v10.2)) (W.af (v10.1 != 0) (W.bc (j.2.1.length+((z2.1,v10.1,())::[]).length) 16 (F (j.2.1++((z2.1,v10.1,())::[]),()))) (F (j.2.1,()))))) (0,z2.2.1,[],())) (some (z2.2.1,0,()))) (1,[],()))
abbrev agw:=AK aj
def Hw(l:List cj)(u:ar):Option (Int×Bool×Unit):=W.aV (λ(y:Int×Unit) j=>W.af (decide (y.1<(l.length:Int))) (W.aH l y.1 λC=>W.ae (mB W C.1 u) λv4=>W.af (!v4) (some (y.1,cX false ((C.1.1==u.1)&&(C.1.2.1==u.2.1)),())) (j (i64.wrap (y.1+1),()))) (some ((l.length:Int),false,()))) (0,())
abbrev adI:=Hw aj
def zq(l:List cj):Option (List cj):=W.aV (λ(y:S25) j=>W.af (decide (y.1<(l.length:Int))) (W.aH l y.1 λC=>W.ae (fN W C.2.1) λv4=>W.bc (y.2.1.length+((C.1,v4,())::[]).length) 40 (j (i64.wrap (y.1+1),y.2.1++((C.1,v4,())::[]),()))) (some y.2.1)) (0,[],())
abbrev aaJ:=zq aj
def nE(l:List cj)(u:ar)(j:List ar):Option ((List cj)×Int×Unit):=W.ae (qf W l) λv1=>W.af (!v1) (some ([],3,())) (W.ae (vp W l u) λv2=>W.ae (AK W (v2::(j::[]))) λv3=>W.af (v3.2.1 != 0) (some ([],v3.2)) (W.ae (Hw W l u) λv4=>W.ae (zq W l) λv5=>W.aG (λ(C:List ar×List cj×Unit)=>W.aG (λ(G:List cj×Unit)=>some (G.1,0,())) λF=>W.af (decide (0<(C.1.length:Int))) (W.ae (Ip C.2.1 v4.1 ((u,C.1,())::[])) λv9=>(F v9)) (F C.2)) λy=>W.af v4.2.1 (W.ae (Io v5 v4.1 (i64.wrap (v4.1+1))) λv11=>(y (v3.1,v11))) (y (v3.1,v5,()))))
abbrev wx:=nE aj
def rb(l:List cj)(from_ y:ar)(j:List ar):Option ((List cj)×Int×Unit):=W.ae (qf W l) λv1=>W.af (!v1) (some ([],3,())) (W.ae (sJ W j) λv2=>W.af (v2.2.1 != 0) (some ([],v2.2)) (W.ae (nE W l from_ v2.1) λv3=>W.af (v3.2.1 != 0) (some ([],v3.2)) (W.ae (nE W v3.1 y j) λv4=>some v4)))
abbrev ID:=rb aj
def ga(j:List (List aZ)):Option (List aZ):=W.aV (λ(F:â) C=>W.af (decide (F.2.1<(j.length:Int))) (W.aH j F.2.1 λH=>W.af (decide ((i64.wrap (F.1+(H.length:Int)))<0)) (none) (C (i64.wrap (F.1+(H.length:Int)),i64.wrap (F.2.1+1),()))) (W.ae (PI [] F.1) λv4=>W.aV (λ(z5:S20) y=>W.af (decide (z5.1<(j.length:Int))) (W.aH j z5.1 λG=>W.bc (z5.2.1.length+G.length) 24 (y (i64.wrap (z5.1+1),z5.2.1++G,()))) (some z5.2.1)) (0,v4))) (0,0,())
abbrev o9:=ga aj
def zr(l:List aZ):Option (List ar):=W.aV (λ(F:S6) y=>W.af (decide (F.1<(l.length:Int))) (W.aH l F.1 λK=>(y (i64.wrap (F.1+1),Go.Vc.QK F.2.1 K.1,()))) (W.aV (λ(z4:(List ar×List ar×Unit)×List ar×Unit) j=>W.aG (λ(C:Bool×(List ar×List ar×Unit)×List ar×Unit)=>W.af C.1 (W.aH C.2.1.2.1 ((C.2.1.2.1.length:Int)-1) λH=>W.bc (C.2.2.1.length+(H::[]).length) 16 (j (C.2.1,C.2.2.1++(H::[]),()))) (W.ae (Az C.2.2.1) λR=>some R)) λJ=>W.Mh (Go.Vc.PR z4.1.1 z4.1.2.1) (λG=>(J (true,(z4.1.1,z4.1.2.1++(G::[]),()),z4.2))) (J (false,z4))) ((F.2.1,[],()),[],()))) (0,[],())
abbrev abq:=zr aj
def Bg(l:List aZ)(u:ar):Option (List Int):=W.aV (λ(y:S10) j=>W.af (decide (y.1<(l.length:Int))) (W.aG (λ(z3:S23)=>(j (i64.wrap (y.1+1),z3))) λF=>W.aH l y.1 λC=>W.af (cX false ((C.1.1==u.1)&&(C.1.2.1==u.2.1))) (W.bc (y.2.1.length+(C.2.1::[]).length) 8 (F (y.2.1++(C.2.1::[]),()))) (F y.2)) (some y.2.1)) (0,[],())
abbrev VH:=Bg aj
def rf(l y:List aZ):Option ((List aZ)×Int×Unit):=W.ae (qv W l) λv1=>W.af (!v1) (some ([],3,())) (W.ae (ga W (l::(y::[]))) λv2=>W.ae (zr W v2) λv3=>W.aV (λ(z4:Int×List aZ×List ar×List aZ×Unit) j=>W.af (decide (z4.1<(v3.length:Int))) (W.aG (λ(G:List aZ×List ar×List aZ×Unit)=>(j (i64.wrap (z4.1+1),G))) λF=>W.aH z4.2.2.1 z4.1 λ_=>W.cr z4.2.2.1 (z4.1.toNat) λC=>W.ae (Bg W z4.2.1 C) λv10=>W.ae (jE W v10) λv11=>W.af (v11.2.1 != 0) (some ([],v11.2)) (W.af (v11.1 != 0) (W.bc (z4.2.2.2.1.length+((C,v11.1,())::[]).length) 24 (F (z4.2.1,z4.2.2.1,z4.2.2.2.1++((C,v11.1,())::[]),()))) (F z4.2))) (some (z4.2.2.2.1,0,()))) (0,v2,v3,[],()))
abbrev zQ:=rf aj
def l7(l:List aZ)(from_ y:ar)(j:Int):Option ((List aZ)×Int×Unit):=W.ae (yh W 0 j) λv1=>W.aG (λ(z2:Bool×Unit)=>W.af z2.1 (some ([],v1.2)) (W.ae (rf W l ((from_,v1.1,())::((y,j,())::[]))) λv3=>some v3)) λC=>W.af (v1.2.1 != 0) (W.ae (qv W l) λv5=>(C (v5,()))) (C (false,()))
abbrev qV:=l7 aj
def Hf(d:tS)(i:bR)(from_ j:ar)(ie e8:Int):Option (tS×Int×Unit):=W.ae (He W d) λv1=>W.af (!v1) (some (([],[],()),3,())) (W.ae (xZ W i ie e8) λv2=>W.af (!v2) (some (([],[],()),2,())) (W.af (cX false ((from_.1==j.1)&&(from_.2.1==j.2.1))) (some (([],[],()),24,())) (W.ae (E7 W i ie e8 i.2.2.1) λv3=>W.af (v3.2.1 != 0) (some (([],[],()),v3.2)) (W.ae (rb W d.1 from_ j ((i.1,ie,())::[])) λv4=>W.af (v4.2.1 != 0) (some (([],[],()),v4.2)) (W.ae (l7 W d.2.1 from_ j v3.1) λv5=>W.af (v5.2.1 != 0) (some (([],[],()),v5.2)) (some ((v4.1,v5.1,()),0,())))))))
abbrev ag0:=Hf aj
def pd(d:aM)(from_ j y:ar)(e8:Int):Option (Int×aM):=W.ae (jr W d y.1) λv1=>W.af (v1.1.2.1 != 0) (some (v1.1.2.1,v1.2)) (W.two (W.ae (Hf W ((c9 v1).2.2.2.1,(c9 v1).2.2.2.2.2.1,()) v1.1.1 from_ j y.2.1 e8) λv2=>W.aG (λ(z3:S0)=>some (v2.2.1,z3)) λC=>W.af (v2.2.1==0) (C (U8 v1.2 (v2.1.1,(c9 v1).2.2.2.2.1,v2.1.2.1,(aP v1)))) (C v1.2)))
abbrev Jn:=pd aj
def wt(_:Wd)(j:Int)(a:aN):Option (Bool×(Int×Unit)):=some (a.2.1 != j,j,())
abbrev ahe:=wt aj
def fu(C:Int)(s:List aN):Option (Int×(Int×Unit)):=W.aV (λ(y:â) j=>W.af (decide (y.1<(s.length:Int))) (W.aH s y.1 λF=>W.ae (wt W y.2.1 F) λv4=>W.af v4.1 (some (y.1,v4.2)) (j (i64.wrap (y.1+1),v4.2))) (some (-1,y.2))) (0,C,())
abbrev iy:=fu aj
def c7(y:Int)(s:List aN):Option ((List aN)×(Int×Unit)):=W.ae (fu W y s) λv1=>W.af (v1.1==(-1)) (some (s,v1.2)) (W.aV (λ(z2:Int×Int×Int×List aN×Unit) C=>W.af (decide (z2.2.1<(z2.2.2.2.1.length:Int))) (W.aG (λ(z4:Int×Int×List aN×Unit)=>(C (z4.1,i64.wrap (z2.2.1+1),z4.2))) λK=>W.aH z2.2.2.2.1 z2.2.1 λ_=>W.cr z2.2.2.2.1 (z2.2.1.toNat) λJ=>W.ae (wt W z2.2.2.1 J) λF=>W.af (!F.1) (W.aH z2.2.2.2.1 z2.1 λ_=>W.cr z2.2.2.2.1 (z2.1.toNat) λ_=>(K (i64.wrap (z2.1+1),F.2.1,List.set z2.2.2.2.1 (z2.1.toNat) J,()))) (K (z2.1,F.2.1,z2.2.2.2))) (W.j5 z2.1 z2.2.2.2.1.length λH=>W.j5 (H:Int) z2.2.2.2.1.length λj=>W.j5 z2.1 ((z2.2.2.2.1.take j)++(List.replicate (z2.2.2.2.1.length-j) (0,0,0,[],()))).length λG=>some (((z2.2.2.2.1.take j)++(List.replicate (z2.2.2.2.1.length-j) (0,0,0,[],()))).take G,z2.2.2.1,()))) (v1.1,i64.wrap (v1.1+1),v1.2.1,s,()))
abbrev mr:=c7 aj
def sI(l:List aN)(j:Int):Option (List aN):=W.ae (rM W l) λv1=>W.ae (c7 W j v1) λv2=>some v2.1
abbrev X0:=sI aj
def yb(s:aU)(id:Int):Option (List ar):=W.ae (sI W s.2.2.2.2.1 id) λv1=>W.aV (λ(z2:Int×List aN×List ar×Unit) j=>W.af (decide (z2.1<(v1.length:Int))) (W.aH z2.2.1 z2.1 λ_=>W.cr z2.2.1 (z2.1.toNat) λy=>W.ae (jq W y) λv6=>W.bc (z2.2.2.1.length+v6.length) 16 (j (i64.wrap (z2.1+1),z2.2.1,z2.2.2.1++v6,()))) (some z2.2.2.1)) (0,v1,[],())
abbrev adR:=yb aj
def uF(a:Int):Option (Int×Int×Unit):=W.af (decide (a<0)) (W.ae (yh W 0 a) λv1=>some v1) (some (a,0,()))
abbrev LH:=uF aj
def AP(l:List ar):Option (Int×Int×Unit):=W.ae (wW W l) λv1=>W.af v1 (some (0,3,())) (W.aV (λ(z2:S10) j=>W.af (decide (z2.1<(l.length:Int))) (W.aH l z2.1 λy=>W.ae (uF W y.2.1) λv5=>W.af (v5.2.1 != 0) (some (0,v5.2)) (W.bc (z2.2.1.length+(v5.1::[]).length) 8 (j (i64.wrap (z2.1+1),z2.2.1++(v5.1::[]),())))) (W.ae (jE W z2.2.1) λv6=>some v6)) (0,[],()))
abbrev aiF:=AP aj
def wX(l:List cj)(j:List ar):Option (Int×Int×Unit):=W.ae (qf W l) λv1=>W.af (!v1) (some (0,3,())) (W.aV (λ(z2:S10) y=>W.af (decide (z2.1<(j.length:Int))) (W.aH j z2.1 λC=>W.ae (vp W l C) λv5=>W.ae (AP W v5) λv6=>W.af (v6.2.1 != 0) (some (0,v6.2)) (W.bc (z2.2.1.length+(v6.1::[]).length) 8 (y (i64.wrap (z2.1+1),z2.2.1++(v6.1::[]),())))) (W.ae (jE W z2.2.1) λF=>some F)) (0,[],()))
abbrev OU:=wX aj
def tE(s:aU)(id:Int):Option (Int×Int×Unit):=W.ae (yb W s id) λv1=>W.ae (wX W (c9 s).2.2.1 v1) λv2=>some v2
abbrev Xt:=tE aj
def np(d:aM)(l:List ar):Option (Int×aM):=W.aV (λ(y:S1) j=>W.af (decide (y.1<(l.length:Int))) (W.aH l y.1 λC=>W.ae (iV W y.2 C) λv4=>W.ae (tE W (xp v4.2 ()) v4.1.1) λv5=>W.af (v5.2.1 != 0) (some (v5.2.1,v4.2)) (W.af (decide (v4.1.2.1<v5.1)) (some (16,v4.2)) (j (i64.wrap (y.1+1),v4.2)))) (some (0,y.2))) (0,d)
abbrev Ho:=np aj
def pe(d:aM):Option (Int×aM):=W.ae (gw W d (((aP d).2.2.2.1,(aP d).2.2.2.2.1,())::(((aP d).2.2.2.2.2.1,(c9 (aP d)).1,())::[]))) λv1=>W.af (v1.1 != 0) (some v1) (W.ae (jr W v1.2 (c9 (aP v1)).2.2.1) λv2=>W.af (v2.1.2.1 != 0) (some (v2.1.2.1,v2.2)) (W.af (decide ((aP (aP v2)).1<1)) (some (2,v2.2)) (W.ae (pd W v2.2 ((c9 (aP v2)).1,(c9 (aP v2)).2.1,()) ((aP v2).2.2.2.2.1,(aP v2).2.2.2.2.2.1,()) ((c9 (aP v2)).2.2.1,(aP (aP v2)).1,()) (aP (aP v2)).2.1) λv3=>W.af (v3.1 != 0) (some v3) (W.ae (np W v3.2 (((aP v3).2.2.2.2.1,(aP v3).2.2.2.2.2.1,())::(((c9 (aP v3)).1,(c9 (aP v3)).2.1,())::[]))) λv4=>some v4))))
abbrev QX:=pe aj
def D3(l:List dk)(g:dk)(day:Int):Option ((List dk)×Int×Int×Unit):=W.af (cX false ((g.2.1.1==g.2.2.1.1)&&(g.2.1.2.1==g.2.2.1.2.1))) (some ([],0,24,())) (W.aG (λ(C:Bool×Unit)=>W.af C.1 (some ([],0,2,())) (W.af (decide (64<=(l.length:Int))) (some ([],0,25,())) (W.aG (λ(z2:Int×Unit)=>W.af (((l.length:Int)==(l.length:Int))&&((l.length:Int)==(l.length:Int))) (W.bc (l.length+((z2.1,U5 g.2 (i64.wrap (day+8),1,()))::[]).length) 88 (some (l++((z2.1,U5 g.2 (i64.wrap (day+8),1,()))::[]),z2.1,0,()))) (none)) λy=>W.af (decide (0<(l.length:Int))) (W.aH l (i64.wrap ((l.length:Int)-1)) λF=>(y (i64.wrap (1+F.1),()))) (y (1,()))))) λj=>W.af (g.2.2.2.1.2.1==0) (j (true,())) (W.af (decide (day<0)) (j (true,())) (j (decide (1048576<day),()))))
abbrev anW:=D3 aj
def mi(d:aM)(g:dk):Option (Int×aM):=W.ae (D3 W (c9 d).2.1 g d.1) λv1=>W.aG (λ(z2:S0)=>some (v1.2.2.1,z2)) λj=>W.af (v1.2.2.1==0) (j (U7 d (v1.1,U19 (c9 d).2.2 (v1.2.1::[],(aP (aP d)).2.2.2.2)))) (j d)
abbrev yO:=mi aj
def mD(d:aM):Option (Int×aM):=W.ae (gw W d (((aP d).2.2.2.1,(aP d).2.2.2.2.1,())::(((aP d).2.2.2.2.2.1,(c9 (aP d)).1,())::[]))) λv1=>W.af (v1.1 != 0) (some v1) (W.ae (jr W v1.2 (c9 (aP v1)).2.2.1) λv2=>W.af (v2.1.2.1 != 0) (some (v2.1.2.1,v2.2)) (W.aG (λ(z3:Bool×Unit)=>W.af z3.1 (some (2,v2.2)) (W.ae (mi W v2.2 (0,((aP v2).2.2.2.2.1,(aP v2).2.2.2.2.2.1,()),((c9 (aP v2)).1,(c9 (aP v2)).2.1,()),((c9 (aP v2)).2.2.1,(aP (aP v2)).1,()),(aP (aP v2)).2.1,0,0,0,())) λv4=>some v4)) λj=>W.af (decide ((aP (aP v2)).1<(-1099511627776))) (j (true,())) (W.af (decide (1099511627776<(aP (aP v2)).1)) (j (true,())) (W.af (decide ((aP (aP v2)).2.1<0)) (j (true,())) (j (decide (2147483647<(aP (aP v2)).2.1),()))))))
abbrev MX:=mD aj
def gu(s:List dk):Option (List dk):=W.qJ (List.isEmpty s) λg1=>W.af (cX false g1) (some []) (W.bc ((0:Nat)+s.length) 88 (some ([]++s)))
abbrev yj:=gu aj
def w9(l:List dk)(id state:Int):Option ((List dk)×Int×Unit):=W.ae (D2 W l id) λv1=>W.af (decide (v1<0)) (some ([],11,())) (W.aG (λ(z2:Bool×Unit)=>W.af z2.1 (some ([],2,())) (W.aH l v1 λC=>W.af ((c9 C).2.1 != 1) (some ([],13,())) (W.ae (gu W l) λv4=>W.aH v4 v1 λ_=>W.cr v4 (v1.toNat) λy=>some (List.set v4 (v1.toNat) (U7 y (state,())),0,())))) λj=>W.af (decide (state<2)) (j (true,())) (j (decide (5<state),())))
abbrev aiT:=w9 aj
def mE(d:aM):Option (Int×aM):=W.two (W.ae (tF W (c9 d).2.1 (c9 (aP d)).2.2.2.2.1) λv1=>W.af (!v1.2.1) (some (11,d)) (W.ae (gw W d (v1.1.2.1::(v1.1.2.2.1::[]))) λv2=>W.af (v2.1 != 0) (some v2) (W.ae (w9 W (c9 v2).2.2.1 v1.1.1 2) λv3=>W.af (v3.2.1 != 0) (some (v3.2.1,v2.2)) (W.ae (pd W (U7 v2.2 (v3.1,(c9 v2).2.2.2)) v1.1.2.1 v1.1.2.2.1 v1.1.2.2.2.1 v1.1.2.2.2.2.1) λv4=>W.af (v4.1 != 0) (some v4) (W.ae (np W v4.2 (v1.1.2.1::(v1.1.2.2.1::[]))) λv5=>some v5)))))
abbrev MY:=mE aj
def oy(ie:Int):Option Bool:=W.af (decide ((-1099511627776)<=ie)) (some (decide (ie<=1099511627776))) (some false)
abbrev ZT:=oy aj
def eR(s:List cU):Option (List cU):=W.qJ (List.isEmpty s) λg1=>W.af (cX false g1) (some []) (W.bc ((0:Nat)+s.length) 48 (some ([]++s)))
abbrev oE:=eR aj
def ub(l:List cU)(i ie:Int):Option (List cU):=W.ae (eR W l) λv1=>W.aH v1 i λ_=>W.cr v1 (i.toNat) λj=>some (List.set v1 (i.toNat) (U4 j (ie,())))
abbrev aek:=ub aj
def yk(l:List cU)(id ie:Int):Option ((List cU)×Int×Unit):=W.ae (xa W l id) λv1=>W.af (decide (v1<0)) (some ([],11,())) (W.aH l v1 λy=>W.ae (jE W (y.2.2.2.2.1::(ie::[]))) λv3=>W.aG (λ(z4:Bool×Unit)=>W.af z4.1 (some ([],7,())) (W.ae (ub W l v1 v3.1) λv5=>some (v5,0,()))) λj=>W.af (v3.2.1 != 0) (j (true,())) (W.ae (oy W v3.1) λC=>(j (!C,()))))
abbrev ael:=yk aj
def lq(d:aM)(id state:Int):Option (Int×aM):=W.ae (w9 W (c9 d).2.1 id state) λv1=>W.af (v1.2.1 != 0) (some (v1.2.1,d)) (W.ae (tF W v1.1 id) λv2=>W.af (v2.1.2.2.2.2.2.1==0) (some (0,U7 d (v1.1,(c9 d).2.2))) (W.ae (yk W (c9 d).1 v2.1.2.2.2.2.2.1 v2.1.2.2.2.1.2.1) λv3=>W.aG (λ(z4:Int×List bB×List bR×List bu×List aN×List cd×List cU×List cj×List cj×List aZ×List bp×Int×Int×Int×Int×Int×Int×Int×Int×Int×Int×Int×Int×Int×List (Int)×Int×List (Int)×List dp×List dY×List dk×Unit)=>some (v3.2.1,U7 z4 ((aP (aP z4)).2.2.2.2.2.1,U22 (c9 z4).2 ()))) λj=>W.af (v3.2.1==0) (j (U6 d (v3.1,U22 (c9 d).2.2 (v1.1,())))) (j (U7 d (U22 (c9 d).2.2 (v1.1,()))))))
abbrev Hp:=lq aj
def zt(l:List Int):Option (List ar):=W.aV (λ(y:S6) j=>W.af (decide ((i64.wrap (y.1+1))<(l.length:Int))) (W.aH l y.1 λF=>W.aH l (i64.wrap (y.1+1)) λC=>W.bc (y.2.1.length+((F,C,())::[]).length) 16 (j (i64.wrap (y.1+2),y.2.1++((F,C,())::[]),()))) (W.wg 2 (W.af ((Int.tmod (l.length:Int) 2) != 0) (some []) (some y.2.1)))) (0,[],())
abbrev ab8:=zt aj
def vf(f:ar):Option Bool:=W.af (decide (f.2.1<0)) (some true) (W.af (decide (2147483647<f.2.1)) (some true) (W.af (f.1==0) (some true) (W.ae (oy W f.1) λv1=>some (!v1))))
abbrev ab9:=vf aj
def eC(s:List ar):Option (Int×Unit):=W.aV (λ(y:Int×Unit) j=>W.af (decide (y.1<(s.length:Int))) (W.aH s y.1 λC=>W.ae (vf W C) λv4=>W.af v4 (some y) (j (i64.wrap (y.1+1),()))) (some (-1,()))) (0,())
abbrev oM:=eC aj
def dh(s:List ar):Option (Bool×Unit):=W.ae (eC W s) λv1=>some (decide (0<=v1.1),())
abbrev nh:=dh aj
def Hx(l:List ar):Option (Int×bF×Int×Unit):=W.aG (λ(G:Bool×Unit)=>W.af G.1 (some (0,(0,0,()),2,())) (W.aV (λ(z2:Int×Int×List ar×Unit) j=>W.af (decide (z2.2.1<(l.length:Int))) (W.aH l z2.2.1 λy=>W.aH l 0 λH=>W.af (cX true ((decide (y.1<0))==(decide (H.1<0)))) (some (0,(0,0,()),2,())) (W.ae (uF W y.1) λv6=>W.ae (o8 W v6.1 y.2.1) λF=>W.bc (z2.2.2.1.length+(F::[]).length) 16 (j (i64.wrap (z2.1+v6.1),i64.wrap (z2.2.1+1),z2.2.2.1++(F::[]),())))) (W.af (decide (1099511627776<z2.1)) (some (0,(0,0,()),25,())) (W.ae (nq W z2.2.2.1) λJ=>some (z2.1,J.1,0,())))) (0,0,[],()))) λC=>W.af (decide ((l.length:Int)<1)) (C (true,())) (W.af (decide (16<(l.length:Int))) (C (true,())) (W.ae (dh W l) λv10=>(C v10)))
abbrev aeo:=Hx aj
def rC(y:Int):Option Int:=W.aG (λ(j:â)=>W.aG (λ(z2:â)=>W.aG (λ(z3:â)=>W.Lz (ByteArray.mk (Array.mk (0::(1::(2::(2::(3::(3::(3::(3::(4::(4::(4::(4::(4::(4::(4::(4::(5::(5::(5::(5::(5::(5::(5::(5::(5::(5::(5::(5::(5::(5::(5::(5::(6::(6::(6::(6::(6::(6::(6::(6::(6::(6::(6::(6::(6::(6::(6::(6::(6::(6::(6::(6::(6::(6::(6::(6::(6::(6::(6::(6::(6::(6::(6::(6::(7::(7::(7::(7::(7::(7::(7::(7::(7::(7::(7::(7::(7::(7::(7::(7::(7::(7::(7::(7::(7::(7::(7::(7::(7::(7::(7::(7::(7::(7::(7::(7::(7::(7::(7::(7::(7::(7::(7::(7::(7::(7::(7::(7::(7::(7::(7::(7::(7::(7::(7::(7::(7::(7::(7::(7::(7::(7::(7::(7::(7::(7::(7::(7::(8::(8::(8::(8::(8::(8::(8::(8::(8::(8::(8::(8::(8::(8::(8::(8::(8::(8::(8::(8::(8::(8::(8::(8::(8::(8::(8::(8::(8::(8::(8::(8::(8::(8::(8::(8::(8::(8::(8::(8::(8::(8::(8::(8::(8::(8::(8::(8::(8::(8::(8::(8::(8::(8::(8::(8::(8::(8::(8::(8::(8::(8::(8::(8::(8::(8::(8::(8::(8::(8::(8::(8::(8::(8::(8::(8::(8::(8::(8::(8::(8::(8::(8::(8::(8::(8::(8::(8::(8::(8::(8::(8::(8::(8::(8::(8::(8::(8::(8::(8::(8::(8::(8::(8::(8::(8::(8::(8::(8::(8::(8::(8::(8::(8::(8::(8::(8::(8::(8::(8::(8::(8::(8::(8::(8::(8::(8::(8::[])))))))))))))))))))))))))))))))))))))))))))))))))))))))))))))))))))))))))))))))))))))))))))))))))))))))))))))))))))))))))))))))))))))))))))))))))))))))))))))))))))))))))))))))))))))))))))))))))))))))))))))))))))))))))))))))))))))))))))))))))))))))))))))))))) (IntKind.u8.wrap z3.1) λH=>some (i64.wrap (z3.2.1+(i64.wrap H)))) λG=>W.af (decide (256<=z2.1)) (W.jb 8 (G (Int.fdiv z2.1 (2 ^ (min (Int.toNat 8) u64.bits)),i64.wrap (z2.2.1+8),()))) (G z2)) λF=>W.af (decide (65536<=j.1)) (W.jb 16 (F (Int.fdiv j.1 (2 ^ (min (Int.toNat 16) u64.bits)),i64.wrap (j.2.1+16),()))) (F j)) λC=>W.af (decide (4294967296<=y)) (W.jb 32 (C (Int.fdiv y (2 ^ (min (Int.toNat 32) u64.bits)),32,()))) (C (y,0,()))
abbrev QA:=rC aj
def iJ(j:Int):Option Int:=W.ae (rC W j) λv1=>some (i64.wrap (64-v1))
abbrev CH:=iJ aj
def j7(hi lo y:Int):Option (Int×Int×Unit):=W.af (y==0) (none) (W.af (decide (y<=hi)) (none) (W.af (hi==0) (W.wg y (W.wg y (some (u64.wrap (Int.tdiv lo y),Int.tmod lo y,())))) (W.ae (iJ W y) λv1=>W.jb (u64.wrap v1) (W.jb 32 (W.jb (u64.wrap v1) (W.jb (u64.wrap (64-(u64.wrap v1))) (W.jb (u64.wrap v1) (W.jb 32 (W.wg (Int.fdiv (u64.wrap (y*(2 ^ (min ((u64.wrap v1).toNat) u64.bits)))) (2 ^ (min (Int.toNat 32) u64.bits))) (W.aG (λ(z2:Int×Unit)=>W.wg (Int.fdiv (u64.wrap (y*(2 ^ (min ((u64.wrap v1).toNat) u64.bits)))) (2 ^ (min (Int.toNat 32) u64.bits))) (W.aG (λ(z3:Int×Unit)=>W.jb (u64.wrap v1) (some (u64.wrap ((u64.wrap (z2.1*4294967296))+z3.1),Int.fdiv (u64.wrap ((u64.wrap ((u64.wrap ((u64.wrap ((u64.wrap ((u64.wrap ((Go.bits Go.BinOp.or u64 (u64.wrap (hi*(2 ^ (min ((u64.wrap v1).toNat) u64.bits)))) (Int.fdiv lo (2 ^ (min ((u64.wrap (64-(u64.wrap v1))).toNat) u64.bits))))*4294967296))+(Int.fdiv (u64.wrap (lo*(2 ^ (min ((u64.wrap v1).toNat) u64.bits)))) (2 ^ (min (Int.toNat 32) u64.bits)))))-(u64.wrap (z2.1*(u64.wrap (y*(2 ^ (min ((u64.wrap v1).toNat) u64.bits))))))))*4294967296))+(Go.bits Go.BinOp.and u64 (u64.wrap (lo*(2 ^ (min ((u64.wrap v1).toNat) u64.bits)))) 4294967295)))-(u64.wrap (z3.1*(u64.wrap (y*(2 ^ (min ((u64.wrap v1).toNat) u64.bits)))))))) (2 ^ (min ((u64.wrap v1).toNat) u64.bits)),()))) λK=>W.aV (λ(z5:â) F=>W.aG (λ(_:Unit)=>W.af (decide (4294967296<=(u64.wrap (z5.1+(Int.fdiv (u64.wrap (y*(2 ^ (min ((u64.wrap v1).toNat) u64.bits)))) (2 ^ (min (Int.toNat 32) u64.bits))))))) (K (u64.wrap (z5.2.1-1),())) (F (u64.wrap (z5.1+(Int.fdiv (u64.wrap (y*(2 ^ (min ((u64.wrap v1).toNat) u64.bits)))) (2 ^ (min (Int.toNat 32) u64.bits)))),u64.wrap (z5.2.1-1),()))) λJ=>W.af (decide (4294967296<=z5.2.1)) (J ()) (W.af (decide ((u64.wrap ((u64.wrap (4294967296*z5.1))+(Go.bits Go.BinOp.and u64 (u64.wrap (lo*(2 ^ (min ((u64.wrap v1).toNat) u64.bits)))) 4294967295)))<(u64.wrap (z5.2.1*(Go.bits Go.BinOp.and u64 (u64.wrap (y*(2 ^ (min ((u64.wrap v1).toNat) u64.bits)))) 4294967295))))) (J ()) (K z5.2))) (u64.wrap ((u64.wrap ((u64.wrap ((u64.wrap ((Go.bits Go.BinOp.or u64 (u64.wrap (hi*(2 ^ (min ((u64.wrap v1).toNat) u64.bits)))) (Int.fdiv lo (2 ^ (min ((u64.wrap (64-(u64.wrap v1))).toNat) u64.bits))))*4294967296))+(Int.fdiv (u64.wrap (lo*(2 ^ (min ((u64.wrap v1).toNat) u64.bits)))) (2 ^ (min (Int.toNat 32) u64.bits)))))-(u64.wrap (z2.1*(u64.wrap (y*(2 ^ (min ((u64.wrap v1).toNat) u64.bits))))))))-(u64.wrap ((u64.wrap (Int.tdiv (u64.wrap ((u64.wrap ((u64.wrap ((Go.bits Go.BinOp.or u64 (u64.wrap (hi*(2 ^ (min ((u64.wrap v1).toNat) u64.bits)))) (Int.fdiv lo (2 ^ (min ((u64.wrap (64-(u64.wrap v1))).toNat) u64.bits))))*4294967296))+(Int.fdiv (u64.wrap (lo*(2 ^ (min ((u64.wrap v1).toNat) u64.bits)))) (2 ^ (min (Int.toNat 32) u64.bits)))))-(u64.wrap (z2.1*(u64.wrap (y*(2 ^ (min ((u64.wrap v1).toNat) u64.bits)))))))) (Int.fdiv (u64.wrap (y*(2 ^ (min ((u64.wrap v1).toNat) u64.bits)))) (2 ^ (min (Int.toNat 32) u64.bits)))))*(Int.fdiv (u64.wrap (y*(2 ^ (min ((u64.wrap v1).toNat) u64.bits)))) (2 ^ (min (Int.toNat 32) u64.bits)))))),u64.wrap (Int.tdiv (u64.wrap ((u64.wrap ((u64.wrap ((Go.bits Go.BinOp.or u64 (u64.wrap (hi*(2 ^ (min ((u64.wrap v1).toNat) u64.bits)))) (Int.fdiv lo (2 ^ (min ((u64.wrap (64-(u64.wrap v1))).toNat) u64.bits))))*4294967296))+(Int.fdiv (u64.wrap (lo*(2 ^ (min ((u64.wrap v1).toNat) u64.bits)))) (2 ^ (min (Int.toNat 32) u64.bits)))))-(u64.wrap (z2.1*(u64.wrap (y*(2 ^ (min ((u64.wrap v1).toNat) u64.bits)))))))) (Int.fdiv (u64.wrap (y*(2 ^ (min ((u64.wrap v1).toNat) u64.bits)))) (2 ^ (min (Int.toNat 32) u64.bits)))),()))) λH=>W.aV (λ(j:â) C=>W.aG (λ(_:Unit)=>W.af (decide (4294967296<=(u64.wrap (j.2.1+(Int.fdiv (u64.wrap (y*(2 ^ (min ((u64.wrap v1).toNat) u64.bits)))) (2 ^ (min (Int.toNat 32) u64.bits))))))) (H (u64.wrap (j.1-1),())) (C (u64.wrap (j.1-1),u64.wrap (j.2.1+(Int.fdiv (u64.wrap (y*(2 ^ (min ((u64.wrap v1).toNat) u64.bits)))) (2 ^ (min (Int.toNat 32) u64.bits)))),()))) λG=>W.af (decide (4294967296<=j.1)) (G ()) (W.af (decide ((u64.wrap ((u64.wrap (4294967296*j.2.1))+(Int.fdiv (u64.wrap (lo*(2 ^ (min ((u64.wrap v1).toNat) u64.bits)))) (2 ^ (min (Int.toNat 32) u64.bits)))))<(u64.wrap (j.1*(Go.bits Go.BinOp.and u64 (u64.wrap (y*(2 ^ (min ((u64.wrap v1).toNat) u64.bits)))) 4294967295))))) (G ()) (H (j.1,())))) (u64.wrap (Int.tdiv (Go.bits Go.BinOp.or u64 (u64.wrap (hi*(2 ^ (min ((u64.wrap v1).toNat) u64.bits)))) (Int.fdiv lo (2 ^ (min ((u64.wrap (64-(u64.wrap v1))).toNat) u64.bits)))) (Int.fdiv (u64.wrap (y*(2 ^ (min ((u64.wrap v1).toNat) u64.bits)))) (2 ^ (min (Int.toNat 32) u64.bits)))),u64.wrap ((Go.bits Go.BinOp.or u64 (u64.wrap (hi*(2 ^ (min ((u64.wrap v1).toNat) u64.bits)))) (Int.fdiv lo (2 ^ (min ((u64.wrap (64-(u64.wrap v1))).toNat) u64.bits))))-(u64.wrap ((u64.wrap (Int.tdiv (Go.bits Go.BinOp.or u64 (u64.wrap (hi*(2 ^ (min ((u64.wrap v1).toNat) u64.bits)))) (Int.fdiv lo (2 ^ (min ((u64.wrap (64-(u64.wrap v1))).toNat) u64.bits)))) (Int.fdiv (u64.wrap (y*(2 ^ (min ((u64.wrap v1).toNat) u64.bits)))) (2 ^ (min (Int.toNat 32) u64.bits)))))*(Int.fdiv (u64.wrap (y*(2 ^ (min ((u64.wrap v1).toNat) u64.bits)))) (2 ^ (min (Int.toNat 32) u64.bits)))))),())))))))))))
abbrev p7:=j7 aj
def rD(w:bF)(d:Int):Option (bF×Int×Int×Unit):=W.af (d==0) (some ((0,0,()),0,8,())) (W.af (decide (d<0)) (some ((0,0,()),0,2,())) (W.ae (iv W w) λv1=>W.wg (u64.wrap d) (W.wg (u64.wrap d) (W.ae (j7 W (Int.tmod v1.1 (u64.wrap d)) v1.2.1 (u64.wrap d)) λv2=>W.aG (λ(z3:S14)=>W.gP (W.ae (fe W w) λv4=>W.two (W.ae (gY W z3.2 v4) λv5=>some (v5.1,i64.wrap z3.1,0,()))) (W.ae (fe W w) λH=>W.ae (gY W z3.2 H) λG=>some (G.1,i64.wrap z3.1,0,()))) λF=>W.aG (λ(y:Bool×Unit)=>W.af y.1 (W.ae (Jj v2.1 1 0) λv11=>(F (u64.wrap ((u64.wrap d)-v2.2.1),u64.wrap ((u64.wrap (Int.tdiv v1.1 (u64.wrap d)))+v11.2.1),v11.1,()))) (F (v2.2.1,u64.wrap (Int.tdiv v1.1 (u64.wrap d)),v2.1,()))) λj=>W.ae (fe W w) λC=>W.af C (j (decide (0<v2.2.1),())) (j (false,()))))))
abbrev õ:=rD aj
def pc(l:List ar):Option (Int×Int×Int×Int×Unit):=W.ae (Hx W l) λv1=>W.af (v1.2.2.1 != 0) (some (0,0,0,v1.2.2)) (W.ae (rD W v1.2.1 v1.1) λv2=>W.ae (qu W v2.1) λv3=>W.aG (λ(z4:Int×Unit)=>some (z4.1,v3.1,v2.2.1,0,())) λj=>W.aH l 0 λy=>W.af (decide (y.1<0)) (j (i64.wrap (0-v1.1),())) (j (v1.1,())))
abbrev VK:=pc aj
def vr(l:List Int):Option (Int×Int×Unit):=W.aV (λ(y:â) j=>W.af (decide (y.2.1<(l.length:Int))) (W.aH l y.2.1 λC=>W.ae (o8 W y.1 C) λv4=>W.ae (qu W v4) λv5=>W.af (v5.2.1 != 0) (some (0,v5.2)) (j (v5.1,i64.wrap (y.2.1+1),()))) (some (y.1,0,()))) (1,0,())
abbrev ø:=vr aj
def yp(mult:Int)(l:List ar):Option (Int×Int×Unit):=W.ae (pc W l) λv1=>W.aG (λ(z2:Int×Unit)=>W.ae (vr W (z2.1::(mult::[]))) λv3=>some v3) λy=>W.af (v1.2.2.2.1 != 0) (some (0,v1.2.2.2)) (W.aG (λ(z5:Bool×Unit)=>W.af z5.1 (some (0,2,())) (W.af (decide (v1.1<0)) (y (i64.wrap (0-v1.2.2.1),())) (y (v1.2.2.1,())))) λj=>W.af (decide (mult<1)) (j (true,())) (j (decide (65536<mult),())))
abbrev aep:=yp aj
def yl(l:List cU)(g:cU):Option ((List cU)×Int×Int×Unit):=W.aG (λ(C:Bool×Unit)=>W.af C.1 (some ([],0,2,())) (W.af (decide (64<=(l.length:Int))) (some ([],0,25,())) (W.aG (λ(z2:Int×Int×Int×Int×Int×Int×Unit)=>W.two (W.ae (eR W l) λv3=>W.bc (v3.length+((z2.1,(z2.2.1,z2.2.2.1,()),z2.2.2.2)::[]).length) 48 (some (v3++((z2.1,(z2.2.1,z2.2.2.1,()),z2.2.2.2)::[]),z2.1,0,())))) λy=>W.af (decide (0<(l.length:Int))) (W.aH l (i64.wrap ((l.length:Int)-1)) λF=>(y (i64.wrap (F.1+1),g.2.1.1,g.2.1.2.1,g.2.2))) (y (1,g.2.1.1,g.2.1.2.1,g.2.2))))) λj=>W.af (g.2.2.2.2.1==0) (j (true,())) (W.ae (oy W g.2.2.2.2.1) λG=>(j (!G,())))
abbrev Uw:=yl aj
def mG(_:Wd):Option ar:=some (0,1,())
abbrev xr:=mG aj
def nJ(d:aM):Option (Int×aM):=W.ae (gw W d (((aP d).2.2.2.1,(aP d).2.2.2.2.1,())::[])) λv1=>W.af (v1.1 != 0) (some v1) (W.ae (jr W v1.2 (c9 (aP v1)).2.2.1) λv2=>W.af (v2.1.2.1 != 0) (some (v2.1.2.1,v2.2)) (W.ae (zt W (aP (aP v2)).2.2.1) λv3=>W.ae (pc W v3) λv4=>W.af (v4.2.2.2.1 != 0) (some (v4.2.2.2.1,v2.2)) (W.ae (yp W v2.1.1.2.1 v3) λv5=>W.af (v5.2.1 != 0) (some (v5.2.1,v2.2)) (W.ae (yl W (c9 v2).2.1 (0,((aP v2).2.2.2.2.1,(aP v2).2.2.2.2.2.1,()),(c9 (aP v2)).2.2.1,v4.2.1,v4.1,())) λv6=>W.af (v6.2.2.1 != 0) (some (v6.2.2.1,v2.2)) (W.ae (mG W) λy=>W.ae (l7 W (c9 v2).2.2.2.2.2.1 y ((aP v2).2.2.2.2.1,(aP v2).2.2.2.2.2.1,()) v5.1) λj=>W.af (j.2.1 != 0) (some (j.2.1,v2.2)) (some (0,U6 v2.2 (v6.1,U3 (c9 v2).2.2 (j.1,U16 (aP v2) (v6.2.1::(v4.2.1::(v5.1::[])),(aP (aP v2)).2.2.2.2.2))))))))))
abbrev O8:=nJ aj
def va(l:List cU)(id ie:Int):Option ((List cU)×Int×Unit):=W.ae (xa W l id) λv1=>W.af (decide (v1<0)) (some ([],11,())) (W.aH l v1 λj=>W.aG (λ(z3:Bool×Unit)=>W.af z3.1 (some ([],2,())) (W.aG (λ(z4:Bool×Unit)=>W.af z4.1 (some ([],23,())) (W.ae (ub W l v1 (i64.wrap (j.2.2.2.2.1-ie))) λv5=>some (v5,0,()))) λy=>W.af (decide (0<ie)) (W.af (decide (j.2.2.2.2.1<ie)) (y (true,())) (W.af (decide (ie<0)) (y (decide (ie<j.2.2.2.2.1),())) (y (false,())))) (W.af (decide (ie<0)) (y (decide (ie<j.2.2.2.2.1),())) (y (false,()))))) λC=>W.af (ie==0) (C (true,())) (W.af (j.2.2.2.2.1 != 0) (C (cX true ((decide (ie<0))==(decide (j.2.2.2.2.1<0))),())) (C (false,()))))
abbrev P6:=va aj
def nH(d:aM):Option (Int×aM):=W.two (W.ae (ua W (c9 d).1 (c9 (aP d)).2.2.2.2.1) λv1=>W.af (!v1.2.1) (some (11,d)) (W.ae (gw W d (v1.1.2.1::(((aP d).2.2.2.2.2.1,(c9 (aP d)).1,())::[]))) λv2=>W.af (v2.1 != 0) (some v2) (W.ae (va W (c9 v2).2.1 v1.1.1 (aP (aP v2)).1) λv3=>W.af (v3.2.1 != 0) (some (v3.2.1,v2.2)) (W.ae (mi W (U6 v2.2 (v3.1,(c9 v2).2.2)) (0,v1.1.2.1,((c9 (aP v2)).1,(c9 (aP v2)).2.1,()),(v1.1.2.2.1,(aP (aP v2)).1,()),v1.1.2.2.2.1,v1.1.1,0,0,())) λv4=>some v4))))
abbrev O7:=nH aj
def nK(d:aM):Option (Int×aM):=W.af ((aP d).1==7) (W.ae (pe W d) λv1=>some v1) (W.af ((aP d).1==8) (W.ae (mD W d) λv2=>some v2) (W.af ((aP d).1==9) (W.ae (mE W d) λv3=>some v3) (W.af ((aP d).1==10) (W.ae (lq W d (c9 (aP d)).2.2.2.2.1 3) λv4=>some v4) (W.af ((aP d).1==11) (W.ae (lq W d (c9 (aP d)).2.2.2.2.1 4) λv5=>some v5) (W.af ((aP d).1==12) (W.ae (nJ W d) λv6=>some v6) (W.ae (nH W d) λj=>some j))))))
abbrev O9:=nK aj
def AX(l:List bR)(id e8:Int):Option ((List bR)×Int×Unit):=W.ae (Ht W l id) λv1=>W.af (decide (v1<0)) (some ([],11,())) (W.ae (pN W e8) λv2=>W.af (!v2) (some ([],2,())) (W.ae (vo W l) λv3=>W.aH v3 v1 λ_=>W.cr v3 (v1.toNat) λj=>some (List.set v3 (v1.toNat) (U3 j (e8,j.2.2.2.2)),0,())))
abbrev aiR:=AX aj
def sZ(l:List bu)(id e8:Int):Option ((List bu)×Int×Unit):=W.ae (pz W l id) λv1=>W.af (!v1.2.1) (some ([],11,())) (W.ae (sY W e8) λv2=>W.af (!v2) (some ([],2,())) (W.ae (eO W l) λv3=>W.aG (λ(z4:List bu×Unit)=>some (z4.1,0,())) λF=>W.aV (λ(j:Int×List bu×Unit) y=>W.af (decide (j.1<(v3.length:Int))) (W.aH j.2.1 j.1 λ_=>W.cr j.2.1 (j.1.toNat) λG=>W.af (G.1==id) (W.aH j.2.1 j.1 λ_=>W.cr j.2.1 (j.1.toNat) λC=>(F (List.set j.2.1 (j.1.toNat) (C.1,e8,C.2.2),()))) (y (i64.wrap (j.1+1),j.2))) (F j.2)) (0,v3,())))
abbrev ZS:=sZ aj
def DW(t:List bR)(j:ar):Option (bF×Int×Unit):=W.ae (pK W t j.1) λv1=>W.af (!v1.2.1) (some ((0,0,()),11,())) (W.ae (o8 W (i64.wrap (v1.1.2.2.2.1-v1.1.2.2.1)) v1.1.2.1) λv2=>W.ae (tT W v2 j.2.1) λv3=>some v3)
abbrev anq:=DW aj
def AO(t:List bR)(j:List ar):Option (Int×Int×Unit):=W.ae (IP W j) λv1=>W.af (!v1) (some (0,3,())) (W.aV (λ(z2:S6) y=>W.af (decide (z2.1<(j.length:Int))) (W.aH j z2.1 λC=>W.ae (DW W t C) λv5=>W.af (v5.2.1 != 0) (some (0,v5.2)) (W.bc (z2.2.1.length+(v5.1::[]).length) 16 (y (i64.wrap (z2.1+1),z2.2.1++(v5.1::[]),())))) (W.ae (nq W z2.2.1) λv6=>W.af (v6.2.1 != 0) (some (0,v6.2)) (W.ae (qu W v6.1) λF=>some F))) (0,[],()))
abbrev aiC:=AO aj
def ya(t:List bR)(l:List cj):Option ((List aZ)×Int×Unit):=W.ae (qf W l) λv1=>W.af (!v1) (some ([],3,())) (W.aV (λ(z2:S20) j=>W.af (decide (z2.1<(l.length:Int))) (W.aG (λ(z4:List aZ×Unit)=>(j (i64.wrap (z2.1+1),z4))) λF=>W.aH l z2.1 λC=>W.ae (AO W t C.2.1) λy=>W.af (y.2.1 != 0) (some ([],y.2)) (W.af (y.1 != 0) (W.bc (z2.2.1.length+((C.1,y.1,())::[]).length) 24 (F (z2.2.1++((C.1,y.1,())::[]),()))) (F z2.2))) (some (z2.2.1,0,()))) (0,[],()))
abbrev adN:=ya aj
def uX(t:List bR)(l:List cj)(p:List aZ):Option ((List aZ)×Int×Unit):=W.ae (qv W p) λv1=>W.af (!v1) (some ([],3,())) (W.ae (ya W t l) λv2=>W.af (v2.2.1 != 0) (some ([],v2.2)) (W.ae (rf W p v2.1) λv3=>some v3))
abbrev Hi:=uX aj
def u9(l:List bR):Option (List bR):=W.ae (vo W l) λv1=>W.aV (λ(z2:S24) j=>W.af (decide (z2.1<(v1.length:Int))) (W.aH z2.2.1 z2.1 λ_=>W.cr z2.2.1 (z2.1.toNat) λC=>W.aH z2.2.1 z2.1 λ_=>W.cr z2.2.1 (z2.1.toNat) λy=>(j (i64.wrap (z2.1+1),List.set z2.2.1 (z2.1.toNat) (y.1,y.2.1,C.2.2.2.1,y.2.2.2),()))) (some z2.2.1)) (0,v1,())
abbrev P5:=u9 aj
def M4(_:Wd)(j:Int)(g:dk):Option (Bool×(Int×Unit)):=some (decide ((c9 g).1<j),j,())
def mU(C:Int)(l:List dk):Option ((List Int)×(Int×Unit)):=W.aV (λ(y:S15) j=>W.af (decide (y.1<(l.length:Int))) (W.aG (λ(z3:S10)=>(j (i64.wrap (y.1+1),z3))) λK=>W.aH l y.1 λG=>W.aG (λ(F:Bool×Int×List (Int)×Unit)=>W.af F.1 (W.bc (F.2.2.1.length+(G.1::[]).length) 8 (K (F.2.1,F.2.2.1++(G.1::[]),()))) (K F.2)) λJ=>W.af ((c9 G).2.1==1) (W.ae (M4 W y.2.1 G) λH=>(J (H.1,H.2.1,y.2.2))) (J (false,y.2))) (some (y.2.2.1,y.2.1,()))) (0,C,[],())
abbrev Hl:=mU aj
def AY(l:List dk)(day:Int):Option (List Int):=W.ae (mU W day l) λv1=>some v1.1
abbrev XK:=AY aj
def rT(d:aM)(ids:List Int)(state:Int):Option (Int×aM):=W.aV (λ(y:S1) j=>W.af (decide (y.1<(ids.length:Int))) (W.aH ids y.1 λC=>W.ae (lq W y.2 C state) λv4=>W.af (v4.1 != 0) (some v4) (j (i64.wrap (y.1+1),v4.2))) (some (0,y.2))) (0,d)
abbrev tc:=rT aj
def qd(d:aM):Option (Int×aM):=W.af (decide (1048576<=d.1)) (some (25,d)) (W.aV (λ(j:Int×M3 (Int×Int×Int×Int×Int×Int×Int×Int×Int×Int×Int×Int×Int×List (Int)×Int×List (Int)×List dp×List dY×List (List cj)×Unit)) y=>W.af (decide (j.1<(((c9 d).2.2.1::((c9 d).2.2.2.1::[])).length:Int))) (W.aH (c9 (aP (aP j))).2.1 j.1 λ_=>W.cr (c9 (aP (aP j))).2.1 (j.1.toNat) λC=>W.ae (uX W j.2.2.2.1 C (c9 j).2.2.2.2.2.1) λv5=>W.af (v5.2.1 != 0) (some (v5.2.1,xv j.2 ())) (y (i64.wrap (j.1+1),U10 j.2 (v5.1,(aP j))))) (W.ae (u9 W j.2.2.2.1) λv6=>W.ae (AY W (c9 j).2.2.1 (i64.wrap (j.2.1+1))) λG=>W.ae (rT W (i64.wrap (j.2.1+1),j.2.2.1,v6,U24 j.2.2.2.2 ((i64.wrap (j.2.1+1))::[],(aP (aP j)).2.2.2.2.2.1,(c9 (aP (aP j))).1,())) G 5) λF=>some F)) (0,xv d ((c9 d).2.2.1::((c9 d).2.2.2.1::[]),())))
abbrev GL:=qd aj
def Bh(_:Wd):Option ar:=some (0,0,())
abbrev WD:=Bh aj
def kh(d:aM):Option (Int×aM):=W.aG (λ(y:Bool×Unit)=>W.af y.1 (some (2,d)) (some (0,d))) λj=>W.af (decide ((c9 (aP d)).2.2.2.2.2.1<1)) (j (true,())) (W.af ((c9 (aP d)).2.2.1==0) (j ((c9 (aP d)).2.2.2.1 != 0,())) (j (false,())))
abbrev MZ:=kh aj
def mj(d:aM)(n:Int):Option (Int×aM):=W.ae (rf W (c9 d).2.2.2.2.1 ((((aP d).2.2.2.1,(aP d).2.2.2.2.1,()),n,())::[])) λv1=>W.aG (λ(z2:S0)=>some (v1.2.1,z2)) λj=>W.af (v1.2.1==0) (j (U10 d (v1.1,(c9 d).2.2.2.2.2))) (j d)
abbrev QY:=mj aj
def gM(_:Wd)(d:aM):Option (bu×aM):=some (((c9 (aP d)).2.2.1,(c9 (aP d)).2.2.2.1,(c9 (aP d)).2.2.2.2.2.1,()),d)
def dd(s:List bu):Option (List bu):=W.qJ (List.isEmpty s) λg1=>W.af (cX false g1) (some []) (W.bc ((0:Nat)+s.length) 24 (some ([]++s)))
abbrev lT:=dd aj
def mH(l:List bp)(u:ar):Option (List bu):=W.aV (λ(y:Int×Unit) j=>W.af (decide (y.1<(l.length:Int))) (W.aH l y.1 λC=>W.af (cX false ((C.1.1==u.1)&&(C.1.2.1==u.2.1))) (W.ae (dd W C.2.1) λv4=>some v4) (j (i64.wrap (y.1+1),()))) (some [])) (0,())
abbrev H':=mH aj
def tX(j:bu):Option Bool:=W.af (decide (1<=j.1)) (W.af (decide (j.1<=4)) (W.af (decide (0<=j.2.1)) (W.af (decide (j.2.1<=255)) (some (decide (0<j.2.2.1))) (some false)) (some false)) (some false)) (some false)
abbrev aee:=tX aj
def RS(fy:List Int):Option Int:=W.aV (λ(y:Int×Unit) j=>W.af (decide (y.1<(fy.length:Int))) (W.aH fy y.1 λC=>W.af (C != 0) (some C) (j (i64.wrap (y.1+1),()))) (some 0)) (0,())
abbrev adO:=RS aj
def rh(a b:bu):Option Int:=W.ae (pM W a.1 b.1) λv1=>W.ae (pM W a.2.1 b.2.1) λv2=>W.ae (RS W (v1::(v2::[]))) λv3=>some v3
abbrev JE:=rh aj
def Bi(l:List bu):Option Bool:=W.aV (λ(y:Int×Unit) j=>W.af (decide (y.1<(l.length:Int))) (W.aH l y.1 λF=>W.aG (λ(z4:Bool×Unit)=>W.af z4.1 (some false) (j (i64.wrap (y.1+1),()))) λC=>W.ae (tX W F) λv6=>W.af (!v6) (W.two (C (true,()))) (W.af (decide (0<y.1)) (W.aH l (i64.wrap (y.1-1)) λG=>W.two (W.ae (rh W G F) λH=>(C (decide (0<=H),())))) (W.two (C (false,()))))) (some (decide ((l.length:Int)<=16)))) (0,())
abbrev agJ:=Bi aj
def qm(l:List bu)(j:bu):Option Int:=W.ae (Bi W l) λv1=>W.af (!v1) (some 3) (W.ae (tX W j) λv2=>W.af (!v2) (some 2) (some 0))
abbrev Yl:=qm aj
def cG(C:List bu)(target:bu):Option ((Int×Bool×Unit)×Unit):=W.aV (λ(j:â) y=>W.af (decide (j.1<j.2.1)) (W.jb 1 (W.aH C (i64.wrap (Int.fdiv (u64.wrap (i64.wrap (j.1+j.2.1))) (2 ^ (min (Int.toNat 1) u64.bits)))) λG=>W.ae (rh W G target) λv4=>W.af (decide (v4<0)) (y (i64.wrap ((i64.wrap (Int.fdiv (u64.wrap (i64.wrap (j.1+j.2.1))) (2 ^ (min (Int.toNat 1) u64.bits))))+1),j.2)) (y (j.1,i64.wrap (Int.fdiv (u64.wrap (i64.wrap (j.1+j.2.1))) (2 ^ (min (Int.toNat 1) u64.bits))),())))) (W.af (decide (j.1<(C.length:Int))) (W.aH C j.1 λF=>W.ae (rh W F target) λv6=>some ((j.1,v6==0,()),())) (some ((j.1,false,()),())))) (0,(C.length:Int),())
abbrev kB:=cG aj
def Dr(l:List bu)(j:bu):Option ((List bu)×Int×Unit):=W.ae (qm W l j) λv1=>W.af (v1 != 0) (some ([],v1,())) (W.ae (cG W l j) λv2=>W.af (!v2.1.2.1) (W.af (decide (16<=(l.length:Int))) (some ([],25,())) (W.two (W.ae (dd W l) λv3=>W.ae (NX v3 v2.1.1 (j::[])) λv4=>some (v4.1,0,())))) (W.aH l v2.1.1 λF=>W.ae (jE W (F.2.2.1::(j.2.2.1::[]))) λC=>W.af (C.2.1 != 0) (some ([],C.2)) (W.ae (dd W l) λv9=>W.aH v9 v2.1.1 λ_=>W.cr v9 (v2.1.1.toNat) λy=>some (List.set v9 (v2.1.1.toNat) (y.1,y.2.1,C.1,()),0,()))))
abbrev akd:=Dr aj
def yr(l:List bp):Option Bool:=W.aV (λ(y:Int×Unit) j=>W.af (decide (y.1<(l.length:Int))) (W.aH l y.1 λF=>W.aG (λ(z4:Bool×Unit)=>W.af z4.1 (some false) (j (i64.wrap (y.1+1),()))) λC=>W.af ((F.2.1.length:Int)==0) (W.two (C (true,()))) (W.ae (Bi W F.2.1) λv6=>W.af (!v6) (W.two (C (true,()))) (W.af (decide (0<y.1)) (W.aH l (i64.wrap (y.1-1)) λG=>W.two (W.ae (mB W G.1 F.1) λH=>(C (!H,())))) (W.two (C (false,())))))) (some true)) (0,())
abbrev Rl:=yr aj
def zP(l:List bp)(u:ar)(all:List bu):Option (List bp):=W.two (W.ae (dd W all) λv1=>W.aV (λ(z2:Bool×Int×Int×Int×List bu×List bp×Unit) y=>W.af (decide (z2.2.1<(l.length:Int))) (W.aG (λ(z4:S18)=>(y (z4.1,i64.wrap (z2.2.1+1),U3 z2.2.2 z4.2))) λK=>W.aH l z2.2.1 λF=>W.aG (λ(C:S18)=>W.af (cX true ((F.1.1==u.1)&&(F.1.2.1==u.2.1))) (W.ae (dd W F.2.1) λR=>W.bc (C.2.1.length+((F.1,R,())::[]).length) 40 (K (C.1,C.2.1++((F.1,R,())::[]),()))) (W.af (!C.1) (W.bc (C.2.1.length+(((z2.2.2.1,z2.2.2.2.1,()),z2.2.2.2.2.1,())::[]).length) 40 (K (true,C.2.1++(((z2.2.2.1,z2.2.2.2.1,()),z2.2.2.2.2.1,())::[]),()))) (K C))) λV=>W.aG (λ(j:S18)=>W.af j.1 (W.bc (j.2.1.length+(((z2.2.2.1,z2.2.2.2.1,()),z2.2.2.2.2.1,())::[]).length) 40 (V (true,j.2.1++(((z2.2.2.1,z2.2.2.2.1,()),z2.2.2.2.2.1,())::[]),()))) (V (z2.1,j.2))) λH=>W.af (!z2.1) (W.ae (mB W u F.1) λv12=>(H (v12,z2.2.2.2.2.2))) (H (false,z2.2.2.2.2.2))) (W.aG (λ(J:List bp×Unit)=>some J.1) λG=>W.af (!z2.1) (W.bc (z2.2.2.2.2.2.1.length+(((z2.2.2.1,z2.2.2.2.1,()),z2.2.2.2.2.1,())::[]).length) 40 (G (z2.2.2.2.2.2.1++(((z2.2.2.1,z2.2.2.2.1,()),z2.2.2.2.2.1,())::[]),()))) (G z2.2.2.2.2.2))) ((all.length:Int)==0,0,u.1,u.2.1,v1,[],()))
abbrev abh:=zP aj
def lO(l:List bp)(u:ar)(now:List bu)(e:Int):Option ((List bp)×Int×Unit):=W.ae (yr W l) λv1=>W.af (!v1) (some ([],3,())) (W.af (e != 0) (some ([],e,())) (W.ae (zP W l u now) λv2=>some (v2,0,())))
abbrev Gp:=lO aj
def qn(l:List bp)(u:ar)(j:bu):Option ((List bp)×Int×Unit):=W.ae (mH W l u) λv1=>W.ae (Dr W v1 j) λv2=>W.ae (lO W l u v2.1 v2.2.1) λv3=>some v3
abbrev ý:=qn aj
def lH(d:aM):Option (Int×aM):=W.aG (λ(X:S0)=>W.ae (kh W X) λv2=>W.af (v2.1 != 0) (some v2) (W.af ((c9 (aP v2)).2.2.2.1==0) (W.ae (mj W v2.2 (aP (aP v2)).1) λv3=>some v3) (W.aG (λ(z4:Bool×Unit)=>W.af (!z4.1) (some (11,v2.2)) (W.aG (λ(z5:S4)=>W.aG (λ(V:S0)=>some (z5.1,V)) λR=>W.af (z5.1==0) (R (U11 z5.2 ((c9 (aP (aP z5))).2.1,U18 (aP z5).2 ()))) (R (xv z5.2 ()))) λH=>W.gP (W.gP (W.ae (gM W v2.2) λv9=>W.ae (qn W (aP v2).1 ((aP v2).2.2.2.2.1,(aP v2).2.2.2.2.2.1,()) v9.1) λv10=>(H (v10.2.1,xv v9.2 (v10.1,())))) (W.ae (gM W v2.2) λv11=>W.ae (qn W (aP v2).1 ((aP v11).2.2.2.2.1,(aP v11).2.2.2.2.2.1,()) v11.1) λv12=>(H (v12.2.1,xv v11.2 (v12.1,()))))) (W.gP (W.gP (W.ae (gM W v2.2) λG=>W.ae (qn W (aP v2).1 ((aP v2).2.2.2.2.1,(aP v2).2.2.2.2.2.1,()) G.1) λF=>(H (F.2.1,xv G.2 (F.1,())))) (W.ae (gM W v2.2) λj=>W.ae (qn W (aP j).1 ((aP v2).2.2.2.2.1,(aP v2).2.2.2.2.2.1,()) j.1) λC=>(H (C.2.1,xv j.2 (C.1,()))))) (W.ae (gM W v2.2) λv17=>W.two (W.ae (qn W (aP v17).1 ((aP v17).2.2.2.2.1,(aP v17).2.2.2.2.2.1,()) v17.1) λy=>(H (y.2.1,xv v17.2 (y.1,())))))))) λK=>W.two (W.ae (pz W v2.2.2.2.2.1 (c9 (aP v2)).2.2.2.1) λv21=>(K v21.2))))) λJ=>W.ae (Bh W) λv24=>W.af (cX true (((aP d).2.2.2.1==v24.1)&&((aP d).2.2.2.2.1==v24.2.1))) (W.ae (gw W d (((aP d).2.2.2.1,(aP d).2.2.2.2.1,())::[])) λv25=>W.af (v25.1 != 0) (some v25) (J v25.2)) (J d)
abbrev KL:=lH aj
def km(l:List aZ)(u:ar):Option Int:=W.aV (λ(y:Int×Unit) j=>W.af (decide (y.1<(l.length:Int))) (W.aH l y.1 λC=>W.af (cX false ((C.1.1==u.1)&&(C.1.2.1==u.2.1))) (some C.2.1) (j (i64.wrap (y.1+1),()))) (some 0)) (0,())
abbrev nl:=km aj
def Ae(l:List bu)(j:bu):Option ((List bu)×Int×Unit):=W.ae (qm W l j) λv1=>W.af (v1 != 0) (some ([],v1,())) (W.ae (cG W l j) λv2=>W.aG (λ(z3:Bool×Unit)=>W.af z3.1 (some ([],23,())) (W.ae (dd W l) λv4=>W.aH v4 v2.1.1 λ_=>W.cr v4 (v2.1.1.toNat) λG=>W.aH v4 v2.1.1 λ_=>W.cr v4 (v2.1.1.toNat) λy=>W.aG (λ(z9:List bu×Unit)=>some (z9.1,0,())) λF=>W.aH (List.set v4 (v2.1.1.toNat) (y.1,y.2.1,i64.wrap (G.2.2.1-j.2.2.1),())) v2.1.1 λ_=>W.cr (List.set v4 (v2.1.1.toNat) (y.1,y.2.1,i64.wrap (G.2.2.1-j.2.2.1),())) (v2.1.1.toNat) λJ=>W.af (J.2.2.1==0) (W.ae (H8 (List.set v4 (v2.1.1.toNat) (y.1,y.2.1,i64.wrap (G.2.2.1-j.2.2.1),())) v2.1.1 (i64.wrap (v2.1.1+1))) λK=>(F K)) (F (List.set v4 (v2.1.1.toNat) (y.1,y.2.1,i64.wrap (G.2.2.1-j.2.2.1),()),())))) λC=>W.af (!v2.1.2.1) (C (true,())) (W.aH l v2.1.1 λH=>(C (decide (H.2.2.1<j.2.2.1),()))))
abbrev ahy:=Ae aj
def om(l:List bp)(u:ar)(j:bu):Option ((List bp)×Int×Unit):=W.ae (mH W l u) λv1=>W.ae (Ae W v1 j) λv2=>W.ae (lO W l u v2.1 v2.2.1) λv3=>some v3
abbrev WB:=om aj
def nM(d:aM):Option (Int×aM):=W.af ((c9 (aP d)).2.2.1==0) (W.ae (km W (c9 d).2.2.2.2.1 ((aP d).2.2.2.1,(aP d).2.2.2.2.1,())) λv1=>W.af (decide (v1<(c9 (aP d)).2.2.2.2.2.1)) (some (23,d)) (W.ae (mj W d (i64.wrap (0-(c9 (aP d)).2.2.2.2.2.1))) λv2=>some v2)) (W.aG (λ(z3:S4)=>W.aG (λ(z4:S0)=>some (z3.1,z4)) λK=>W.af (z3.1==0) (K (U11 z3.2 ((c9 (aP (aP z3))).2.1,U18 (aP z3).2 ()))) (K (xv z3.2 ()))) λG=>W.gP (W.gP (W.ae (gM W d) λJ=>W.ae (om W (c9 d).2.2.2.2.2.1 ((aP d).2.2.2.1,(aP d).2.2.2.2.1,()) J.1) λH=>(G (H.2.1,xv J.2 (H.1,())))) (W.ae (gM W d) λv9=>W.ae (om W (c9 d).2.2.2.2.2.1 ((aP v9).2.2.2.2.1,(aP v9).2.2.2.2.2.1,()) v9.1) λv10=>(G (v10.2.1,xv v9.2 (v10.1,()))))) (W.gP (W.gP (W.ae (gM W d) λv11=>W.ae (om W (c9 d).2.2.2.2.2.1 ((aP d).2.2.2.1,(aP d).2.2.2.2.1,()) v11.1) λv12=>(G (v12.2.1,xv v11.2 (v12.1,())))) (W.ae (gM W d) λy=>W.ae (om W (aP y).1 ((aP d).2.2.2.1,(aP d).2.2.2.2.1,()) y.1) λF=>(G (F.2.1,xv y.2 (F.1,()))))) (W.ae (gM W d) λj=>W.two (W.ae (om W (aP j).1 ((aP j).2.2.2.2.1,(aP j).2.2.2.2.2.1,()) j.1) λC=>(G (C.2.1,xv j.2 (C.1,())))))))
abbrev Pa:=nM aj
def Cb(_:Wd)(a:aN):Option ar:=some (a.1,0,())
abbrev UE:=Cb aj
def Be(a:aN)(u:ar):Option (ar×Bool×Unit):=W.ae (oZ W a u) λv1=>W.af (!v1) (some ((0,0,()),false,())) (W.af (a.2.2.1==2) (W.ae (Cb W a) λv2=>some (v2,true,())) (some (u,true,())))
abbrev ajd:=Be aj
def ml(_:Wd)(d:aM):Option (Bd×aM):=some ((d.2.2.2.1,d.2.2.1,(c9 d).2.2.1,(c9 d).2.2.2.2.1,(c9 d).2.2.2.2.2.1,()),d)
def nF(s:Bd):Option Bool:=W.ae (qf W s.2.2.1) λv1=>W.af v1 (W.ae (qv W s.2.2.2.1) λv2=>W.af v2 (W.ae (yr W s.2.2.2.2.1) λv3=>some v3) (some false)) (some false)
abbrev O3:=nF aj
def rj(a:aN):Option (List ar):=W.af (a.2.2.1==2) (W.ae (Cb W a) λv1=>some (v1::[])) (W.ae (jq W a) λv2=>some v2)
abbrev aeq:=rj aj
def uc(a:aN)(u:ar):Option (List ar):=W.ae (rj W a) λv1=>W.ae (cT W v1 u) λv2=>W.af (!v2) (some []) (W.af (a.2.2.1==2) (W.ae (jq W a) λv3=>some v3) (some (u::[])))
abbrev UF:=uc aj
def D5(l:List cj)(j:List ar):Option ((List ar)×Int×Unit):=W.ae (qf W l) λv1=>W.af (!v1) (some ([],3,())) (W.aV (λ(z2:Int×List (List ar)×Unit) y=>W.af (decide (z2.1<(j.length:Int))) (W.aH j z2.1 λC=>W.ae (vp W l C) λv5=>W.bc (z2.2.1.length+(v5::[]).length) 24 (y (i64.wrap (z2.1+1),z2.2.1++(v5::[]),()))) (W.ae (AK W z2.2.1) λv6=>some v6)) (0,[],()))
abbrev aoj:=D5 aj
def B7(i:bR)(ie j:Int):Option bF:=W.aG (λ(C:Bool×Unit)=>W.af C.1 (some (0,0,())) (W.aH i.2.2.2.2.1 j λF=>W.ae (vr W (F::(i.2.1::[]))) λv3=>W.ae (o8 W v3.1 ie) λv4=>some v4)) λy=>W.ae (ue W i) λv6=>W.af (v6 != 0) (y (true,())) (W.af (decide (j<0)) (y (true,())) (y (decide ((i.2.2.2.2.1.length:Int)<=j),())))
abbrev UB:=B7 aj
def zR(w:bF):Option (bF×Int×Unit):=W.ae (iv W w) λv1=>W.ae (fe W w) λv2=>W.ae (gY W v1 (!v2)) λv3=>W.ae (pO W v3.1 v3.2.1) λv4=>some v4
abbrev aoe:=zR aj
def Bc(t:List bR)(j:List ar)(C:Int):Option (bF×Int×Unit):=W.ae (IP W j) λv1=>W.af (!v1) (some ((0,0,()),3,())) (W.aV (λ(z2:S6) y=>W.af (decide (z2.1<(j.length:Int))) (W.aH j z2.1 λF=>W.ae (pK W t F.1) λv5=>W.af (!v5.2.1) (some ((0,0,()),11,())) (W.ae (B7 W v5.1 F.2.1 C) λv6=>W.bc (z2.2.1.length+(v6::[]).length) 16 (y (i64.wrap (z2.1+1),z2.2.1++(v6::[]),())))) (W.ae (nq W z2.2.1) λH=>W.ae (zR W H.1) λG=>some (G.1,0,()))) (0,[],()))
abbrev XO:=Bc aj
def zv(t:List bR)(C:List ar):Option ((List bF)×Int×Unit):=W.aV (λ(y:S6) j=>W.af (decide (y.1<8)) (W.ae (Bc W t C y.1) λv3=>W.af (v3.2.1 != 0) (some ([],v3.2)) (W.bc (y.2.1.length+(v3.1::[]).length) 16 (j (i64.wrap (y.1+1),y.2.1++(v3.1::[]),())))) (some (y.2.1,0,()))) (0,[],())
abbrev abC:=zv aj
def Cc(_:Wd)(j:Int):Option Bool:=some (j != j)
abbrev JN:=Cc aj
def oq(j y:Int):Option Int:=W.ae (Cc W j) λv1=>W.ae (Cc W y) λv2=>W.af v1 (W.af v2 (some 0) (some (-1))) (W.af v2 (some 1) (W.af (decide (j<y)) (some (-1)) (W.af (decide (y<j)) (some 1) (some 0))))
abbrev L':=oq aj
def Cd(_:Wd)(j:Int):Option Bool:=some (j != j)
abbrev JO:=Cd aj
def ot(j y:Int):Option Int:=W.ae (Cd W j) λv1=>W.ae (Cd W y) λv2=>W.af v1 (W.af v2 (some 0) (some (-1))) (W.af v2 (some 1) (W.af (decide (j<y)) (some (-1)) (W.af (decide (y<j)) (some 1) (some 0))))
abbrev Ma:=ot aj
def tN(a b:bF):Option Int:=W.ae (oq W a.1 b.1) λv1=>W.ae (ot W a.2.1 b.2.1) λv2=>W.ae (RS W (v1::(v2::[]))) λv3=>some v3
abbrev S7:=tN aj
def B8(l:List bF):Option (bF×Int×Unit):=W.aV (λ(j:S17) y=>W.af (decide (j.2.1<(l.length:Int))) (W.aG (λ(z3:S14)=>(y (z3.1,i64.wrap (j.2.1+1),z3.2))) λF=>W.aH l j.2.1 λC=>W.ae (tN W C j.2.2) λv6=>W.af (decide (0<v6)) (F (j.2.1,C)) (F (j.1,j.2.2))) (some (j.2.2,j.1,()))) (-1,0,0,0,())
abbrev UC:=B8 aj
def vg(t:List bR)(j:List ar):Option (Int×Int×Unit):=W.ae (zv W t j) λv1=>W.af (v1.2.1 != 0) (some (0,v1.2)) (W.ae (B8 W v1.1) λv2=>W.ae (qu W v2.1) λv3=>some v3)
abbrev P8:=vg aj
def D6(t:List bR)(l:List cj)(a:aN)(u:ar):Option (Int×Int×Unit):=W.ae (qf W l) λv1=>W.af (!v1) (some (0,3,())) (W.ae (rj W a) λv2=>W.ae (cT W v2 u) λv3=>W.af (!v3) (some (0,11,())) (W.ae (uc W a u) λv4=>W.ae (D5 W l v4) λv5=>W.af (v5.2.1 != 0) (some (0,v5.2)) (W.ae (vg W t v5.1) λv6=>some v6)))
abbrev agS:=D6 aj
def pD(a:bu)(ie:Int):Option (Int×Int×Unit):=W.ae (pJ W a) λv1=>W.af (v1 != 0) (some (0,v1,())) (W.ae (vr W (ie::(a.2.1::[]))) λv2=>some v2)
abbrev Gk:=pD aj
def qX(a n d:Int):Option (Int×Int×Int×Unit):=W.ae (o8 W a n) λv1=>W.ae (rD W v1 d) λv2=>W.ae (px W v2.1 v2.2.2.1) λv3=>W.af (v3.2.1 != 0) (some (0,0,v3.2)) (some (v3.1,v2.2.1,0,()))
abbrev H2:=qX aj
def vh(a:bu)(ie:Int):Option (Int×Int×Unit):=W.ae (pD W a ie) λv1=>W.aG (λ(z2:Bool×Unit)=>W.af z2.1 (some (0,2,())) (W.af (v1.2.1 != 0) (some (0,v1.2)) (W.ae (qX W v1.1 (i64.wrap (10000-a.2.2.1)) 10000) λv3=>some (v3.1,v3.2.2)))) λj=>W.ae (pJ W a) λv5=>W.af (v5==0) (j (decide (ie<0),())) (j (false,()))
abbrev abE:=vh aj
def iQ(y l:List bu):Option (((List Int)×Int×Unit)×Unit):=W.ae (Bi W l) λv1=>W.af (!v1) (some (([],3,()),())) (W.aV (λ(z2:S10) j=>W.af (decide (z2.1<(l.length:Int))) (W.aH l z2.1 λC=>W.ae (pz W y C.1) λv5=>W.af (!v5.2.1) (some (([],11,()),())) (W.ae (vh W v5.1 C.2.2.1) λv6=>W.af (v6.2.1 != 0) (some (([],v6.2),())) (W.bc (z2.2.1.length+(v6.1::[]).length) 8 (j (i64.wrap (z2.1+1),z2.2.1++(v6.1::[]),()))))) (some ((z2.2.1,0,()),()))) (0,[],()))
abbrev CY:=iQ aj
def vj(j l:List bu)(cash:Int):Option (Int×Int×Unit):=W.ae (iQ W j l) λv1=>W.af (v1.1.2.1 != 0) (some (0,v1.1.2)) (W.bc (v1.1.1.length+(cash::[]).length) 8 (W.ae (jE W (v1.1.1++(cash::[]))) λv2=>some v2))
abbrev abF:=vj aj
def l8(s:Bd)(a:aN)(u:ar):Option (Int×Int×Unit):=W.ae (nF W s) λv1=>W.af (!v1) (some (0,3,())) (W.ae (D6 W s.2.1 s.2.2.1 a u) λv2=>W.af (v2.2.1 != 0) (some (0,v2.2)) (W.ae (uc W a u) λv3=>W.aV (λ(z4:Int×List (Int)×List ar×Unit) j=>W.af (decide (z4.1<(v3.length:Int))) (W.aH z4.2.2.1 z4.1 λ_=>W.cr z4.2.2.1 (z4.1.toNat) λy=>W.ae (mH W s.2.2.2.2.1 y) λC=>W.ae (km W s.2.2.2.1 y) λv9=>W.ae (vj W s.1 C v9) λv10=>W.af (v10.2.1 != 0) (some (0,v10.2)) (W.bc (z4.2.1.length+(v10.1::[]).length) 8 (j (i64.wrap (z4.1+1),z4.2.1++(v10.1::[]),z4.2.2)))) (W.ae (jE W z4.2.1) λv11=>some v11)) (0,(i64.wrap (0-v2.1))::[],v3,())))
abbrev EE:=l8 aj
def kJ(d:aM):Option (Int×aM):=W.ae (gw W d (((aP d).2.2.2.1,(aP d).2.2.2.2.1,())::[])) λv1=>W.af (v1.1 != 0) (some v1) (W.ae (kh W v1.2) λv2=>W.af (v2.1 != 0) (some v2) (W.ae (nM W v2.2) λv3=>W.af (v3.1 != 0) (some v3) (W.two (W.ae (mv W v3.2.2.2.2.2.1 (aP v3).2.2.2.2.1) λv4=>W.two (W.ae (Be W v4.1 ((aP v3).2.2.2.2.1,(aP v3).2.2.2.2.2.1,())) λv5=>W.ae (ml W v3.2) λv6=>W.ae (l8 W v6.1 v4.1 v5.1) λC=>W.aG (λ(G:Int×Unit)=>some (G.1,v6.2)) λF=>W.aG (λ(y:Bool×Unit)=>W.af y.1 (F (22,())) (F C.2)) λj=>W.af (C.2.1==0) (j (decide (C.1<0),())) (j (false,())))))))
abbrev IX:=kJ aj
def vt(d:aM):Option (Int×aM):=W.aG (λ(y:S1)=>some y) λj=>W.af ((aP d).1==14) (W.ae (AX W d.2.2.1 (c9 (aP d)).2.1 (aP (aP d)).1) λv3=>(j (v3.2.1,d.1,d.2.1,v3.1,d.2.2.2))) (W.af ((aP d).1==15) (W.ae (sZ W d.2.2.2.1 (c9 (aP d)).2.2.1 (aP (aP d)).1) λv4=>(j (v4.2.1,U3 d (v4.1,d.2.2.2.2)))) (W.af ((aP d).1==16) (W.ae (qd W d) λv5=>(j v5)) (W.af ((aP d).1==17) (W.ae (lH W d) λv6=>(j v6)) (W.af ((aP d).1==18) (W.ae (kJ W d) λC=>(j C)) (j (0,d))))))
abbrev Oa:=vt aj
def ki(d:aM)(u:ar):Option (Int×aM):=W.ae (jF W d u) λv1=>W.af (v1.1 != 0) (some v1) (W.two (W.ae (mv W v1.2.2.2.2.2.1 u.1) λv2=>W.af (v2.1.2.2.1==1) (some (17,v1.2)) (some (0,v1.2))))
abbrev M0:=ki aj
def IQ(l:List cd):Option Bool:=W.aV (λ(y:Int×Unit) j=>W.af (decide (y.1<(l.length:Int))) (W.aH l y.1 λC=>W.aG (λ(z4:Bool×Unit)=>W.af z4.1 (some false) (j (i64.wrap (y.1+1),()))) λF=>W.af (cX false ((C.1.1==C.2.1.1)&&(C.1.2.1==C.2.1.2.1))) (F (true,())) (W.af (decide (0<y.1)) (W.aH l (i64.wrap (y.1-1)) λG=>W.ae (mB W G.1 C.1) λH=>(F (!H,()))) (F (false,())))) (some true)) (0,())
abbrev amY:=IQ aj
def ek(s:List cd):Option (List cd):=W.qJ (List.isEmpty s) λg1=>W.af (cX false g1) (some []) (W.bc ((0:Nat)+s.length) 40 (some ([]++s)))
abbrev um:=ek aj
def xA(_:Wd)(y j:Int)(c:cd):Option (Bool×(Int×Int×Unit)):=some (cX false ((c.1.1==y)&&(c.1.2.1==j)),y,j,())
abbrev ML:=xA aj
def ff(F C:Int)(s:List cd):Option (Int×(Int×Int×Unit)):=W.aV (λ(y:S14) j=>W.af (decide (y.1<(s.length:Int))) (W.aH s y.1 λG=>W.ae (xA W y.2.1 y.2.2.1 G) λv4=>W.af v4.1 (some (y.1,v4.2)) (j (i64.wrap (y.1+1),v4.2))) (some (-1,y.2))) (0,F,C,())
abbrev fo:=ff aj
def cY(C y:Int)(s:List cd):Option ((List cd)×(Int×Int×Unit)):=W.ae (ff W C y s) λv1=>W.af (v1.1==(-1)) (some (s,v1.2)) (W.aV (λ(z2:Int×Int×Int×Int×List cd×Unit) F=>W.af (decide (z2.2.1<(z2.2.2.2.2.1.length:Int))) (W.aG (λ(z4:Int×Int×Int×List cd×Unit)=>(F (z4.1,i64.wrap (z2.2.1+1),z4.2))) λR=>W.aH z2.2.2.2.2.1 z2.2.1 λ_=>W.cr z2.2.2.2.2.1 (z2.2.1.toNat) λK=>W.ae (xA W z2.2.2.1 z2.2.2.2.1 K) λG=>W.af (!G.1) (W.aH z2.2.2.2.2.1 z2.1 λ_=>W.cr z2.2.2.2.2.1 (z2.1.toNat) λ_=>(R (i64.wrap (z2.1+1),G.2.1,G.2.2.1,List.set z2.2.2.2.2.1 (z2.1.toNat) K,()))) (R (z2.1,G.2.1,G.2.2.1,z2.2.2.2.2))) (W.j5 z2.1 z2.2.2.2.2.1.length λJ=>W.j5 (J:Int) z2.2.2.2.2.1.length λj=>W.j5 z2.1 ((z2.2.2.2.2.1.take j)++(List.replicate (z2.2.2.2.2.1.length-j) ((0,0,()),(0,0,()),false,()))).length λH=>some (((z2.2.2.2.2.1.take j)++(List.replicate (z2.2.2.2.2.1.length-j) ((0,0,()),(0,0,()),false,()))).take H,z2.2.2.1,z2.2.2.2.1,()))) (v1.1,i64.wrap (v1.1+1),v1.2.1,v1.2.2.1,s,()))
abbrev mf:=cY aj
def tW(l:List cd)(from_:ar):Option (List cd):=W.ae (ek W l) λv1=>W.ae (cY W from_.1 from_.2.1 v1) λv2=>some v2.1
abbrev E1:=tW aj
def Bj(y j:Int)(c:cd):Option (Bool×(Int×Int×Unit)):=W.ae (mB W (y,j,()) c.1) λv1=>some (v1,y,j,())
abbrev VJ:=Bj aj
def dH(F C:Int)(s:List cd):Option (Int×(Int×Int×Unit)):=W.aV (λ(y:S14) j=>W.af (decide (y.1<(s.length:Int))) (W.aH s y.1 λG=>W.ae (Bj W y.2.1 y.2.2.1 G) λv4=>W.af v4.1 (some (y.1,v4.2)) (j (i64.wrap (y.1+1),v4.2))) (some (-1,y.2))) (0,F,C,())
abbrev mh:=dH aj
def vd(l:List cd)(from_ j:ar):Option ((List cd)×Int×Unit):=W.ae (IQ W l) λv1=>W.af (!v1) (some ([],3,())) (W.af (cX false ((from_.1==j.1)&&(from_.2.1==j.2.1))) (some ([],24,())) (W.ae (tW W l from_) λv2=>W.ae (dH W from_.1 from_.2.1 v2) λv3=>W.aG (λ(z4:Int×List cd×Unit)=>W.ae (EP z4.2.1 z4.1 ((v3.2,j,false,())::[])) λv5=>some (v5.1,0,())) λy=>W.af (decide (v3.1<0)) (y ((v2.length:Int),v2,())) (y (v3.1,v2,()))))
abbrev ab5:=vd aj
def nN(d:aM):Option (Int×aM):=W.ae (ki W d ((aP d).2.2.2.1,(aP d).2.2.2.2.1,())) λv1=>W.af (v1.1 != 0) (some v1) (W.ae (iV W v1.2 ((aP v1).2.2.2.2.1,(aP v1).2.2.2.2.2.1,())) λv2=>W.af (decide (1<v2.1.2.2.1)) (some (13,v2.2)) (W.ae (ki W v2.2 ((c9 (aP v2)).1,(c9 (aP v2)).2.1,())) λv3=>W.af (v3.1 != 0) (some v3) (W.ae (vd W (c9 v3).1 ((aP v3).2.2.2.2.1,(aP v3).2.2.2.2.2.1,()) ((c9 (aP v3)).1,(c9 (aP v3)).2.1,())) λv4=>W.aG (λ(z5:S0)=>some (v4.2.1,z5)) λj=>W.af (v4.2.1==0) (j (U5 v3.2 (v4.1,(c9 v3).2))) (j v3.2))))
abbrev Pb:=nN aj
def Hy(_:Wd)(y j:Int)(c:cd):Option (Bool×(Int×Int×Unit)):=some (cX false ((c.1.1==y)&&(c.1.2.1==j)),y,j,())
abbrev Um:=Hy aj
def dg(F C:Int)(s:List cd):Option (Int×(Int×Int×Unit)):=W.aV (λ(y:S14) j=>W.af (decide (y.1<(s.length:Int))) (W.aH s y.1 λG=>W.ae (Hy W y.2.1 y.2.2.1 G) λv4=>W.af v4.1 (some (y.1,v4.2)) (j (i64.wrap (y.1+1),v4.2))) (some (-1,y.2))) (0,F,C,())
abbrev iP:=dg aj
def tV(l:List cd)(from_:ar):Option Int:=W.ae (dg W from_.1 from_.2.1 l) λv1=>some v1.1
abbrev aba:=tV aj
def ve(l:List cd)(from_ j:ar):Option ((List cd)×Int×Unit):=W.ae (tV W l from_) λv1=>W.ae (IQ W l) λv2=>W.af (!v2) (some ([],3,())) (W.af (decide (v1<0)) (some ([],19,())) (W.aH l v1 λC=>W.af (cX true ((C.2.1.1==j.1)&&(C.2.1.2.1==j.2.1))) (some ([],11,())) (W.ae (ek W l) λv4=>W.aH v4 v1 λ_=>W.cr v4 (v1.toNat) λy=>some (List.set v4 (v1.toNat) (y.1,y.2.1,true,()),0,()))))
abbrev ab6:=ve aj
def lI(d:aM):Option (Int×aM):=W.ae (gw W d (((aP d).2.2.2.2.2.1,(c9 (aP d)).1,())::[])) λv1=>W.af (v1.1 != 0) (some v1) (W.ae (ve W (c9 v1).1 ((aP v1).2.2.2.2.1,(aP v1).2.2.2.2.2.1,()) ((c9 (aP v1)).1,(c9 (aP v1)).2.1,())) λv2=>W.aG (λ(z3:S0)=>some (v2.2.1,z3)) λj=>W.af (v2.2.1==0) (j (U5 v1.2 (v2.1,(c9 v1).2))) (j v1.2))
abbrev KM:=lI aj
def ri(m:bB)(day from_:Int):Option (bB×Int×Unit):=W.aG (λ(y:Bool×Unit)=>W.af y.1 (some ((0,0,0,0,()),2,())) (W.af (m.2.2.1 != from_) (some ((0,0,0,0,()),13,())) (some ((m.1,m.2.1,i64.wrap (m.2.2.1+1),m.2.2.2),0,())))) λj=>W.ae (s6 W m) λv3=>W.af (v3 != 0) (j (true,())) (W.af (decide (day<0)) (j (true,())) (j (decide (1048576<day),())))
abbrev aem:=ri aj
def ym(m:bB)(day days:Int):Option (bB×Int×Unit):=W.aG (λ(C:Bool×Unit)=>W.af C.1 (some ((0,0,0,0,()),2,())) (W.ae (ri W m day 0) λv2=>W.aG (λ(z3:S17)=>some (z3,v2.2)) λy=>W.af (v2.2.1==0) (y (U3 v2.1 (i64.wrap (day+days),()))) (y v2.1))) λj=>W.af (decide (days<0)) (j (true,())) (j (decide (16<days),()))
abbrev SO:=ym aj
def kg(d:aM)(m:bB):Option (Int×aM):=W.ae (tY W d.2.1 m) λv1=>W.aG (λ(z2:S0)=>some (v1.2.1,z2)) λj=>W.af (v1.2.1==0) (j (d.1,v1.1,d.2.2)) (j d)
abbrev Fy:=kg aj
def AZ(y j:Int)(g:dk):Option (Bool×(Int×Int×Unit)):=W.af (cX false ((g.2.1.1==y)&&(g.2.1.2.1==j))) (some (true,y,j,())) (some (cX false ((g.2.2.1.1==y)&&(g.2.2.1.2.1==j)),y,j,()))
abbrev aiU:=AZ aj
def oT(F C:Int)(l:List dk):Option ((List Int)×(Int×Int×Unit)):=W.aV (λ(j:Int×Int×Int×List (Int)×Unit) y=>W.af (decide (j.1<(l.length:Int))) (W.aG (λ(z3:S15)=>(y (i64.wrap (j.1+1),z3))) λK=>W.aH l j.1 λH=>W.aG (λ(G:Bool×Int×Int×List (Int)×Unit)=>W.af G.1 (W.bc (G.2.2.2.1.length+(H.1::[]).length) 8 (K (G.2.1,G.2.2.1,G.2.2.2.1++(H.1::[]),()))) (K G.2)) λJ=>W.af ((c9 H).2.1==1) (W.ae (AZ W j.2.1 j.2.2.1 H) λR=>(J (U3 R j.2.2.2))) (J (false,j.2))) (some (j.2.2.2.1,j.2.1,j.2.2.1,()))) (0,F,C,[],())
abbrev KA:=oT aj
def Hm(l:List dk)(u:ar):Option (List Int):=W.ae (oT W u.1 u.2.1 l) λv1=>some v1.1
abbrev afu:=Hm aj
def rL(s:aU)(u:ar):Option (aN×Int×Unit):=W.ae (mv W s.2.2.2.2.1 u.1) λv1=>W.aG (λ(z2:Bool×Unit)=>W.af z2.1 (some ((0,0,0,[],()),11,())) (W.af (v1.1.2.2.1==1) (some ((0,0,0,[],()),17,())) (some (v1.1,0,())))) λj=>W.af (!v1.2.1) (j (true,())) (W.ae (oZ W v1.1 u) λv4=>(j (!v4,())))
abbrev abd:=rL aj
def B5(m:bB)(day:Int):Option Int:=W.aG (λ(y:Bool×Unit)=>W.af y.1 (some 0) (some (if(i64.wrap ((i64.wrap (m.2.2.2.1-day))+1))>1 then(i64.wrap ((i64.wrap (m.2.2.2.1-day))+1))else 1))) λj=>W.af (m.2.2.1 != 1) (j (true,())) (j (decide (m.2.2.2.1<day),()))
abbrev adV:=B5 aj
def yd(m:bB)(day:Int):Option Int:=W.ae (B5 W m day) λv1=>W.af (v1==0) (some 18) (some 0)
abbrev adU:=yd aj
def u6(s:aU)(from_:ar):Option Int:=W.ae (rL W s from_) λv1=>W.af (v1.2.1 != 0) (some v1.2.1) (W.ae (iC W s.2.1 v1.1.2.1) λv2=>W.af (!v2.2.1) (some 18) (W.ae (yd W v2.1 s.1) λv3=>some v3))
abbrev abe:=u6 aj
def yc(l:List cd)(from_:ar):Option (cd×Bool×Unit):=W.ae (tV W l from_) λv1=>W.af (decide (v1<0)) (some (((0,0,()),(0,0,()),false,()),false,())) (W.aH l v1 λj=>some (j,true,()))
abbrev adT:=yc aj
def uZ(l:List cd)(from_:ar):Option (ar×Int×Unit):=W.ae (yc W l from_) λv1=>W.af (!v1.2.1) (some ((0,0,()),19,())) (W.af (!v1.1.2.2.1) (some ((0,0,()),20,())) (some (v1.1.2.1,0,())))
abbrev P0:=uZ aj
def ye(s:aU)(u:ar):Option Bool:=W.ae (vp W (c9 s).2.2.1 u) λv1=>W.af ((v1.length:Int)==0) (W.ae (km W (c9 s).2.2.2.2.1 u) λv2=>W.af (v2==0) (W.ae (mH W (c9 s).2.2.2.2.2.1 u) λv3=>some ((v3.length:Int)==0)) (some false)) (some false)
abbrev Un:=ye aj
def AS(a:Int)(l:List Int):Option Int:=W.aV (λ(y:â) j=>W.af (decide (y.2.1<(l.length:Int))) (W.aH l y.2.1 λC=>(j ((if C<y.1 then C else y.1),i64.wrap (y.2.1+1),()))) (some y.1)) (a,0,())
abbrev Xu:=AS aj
def u2(m:bB)(used more:Int):Option Int:=W.ae (AS W used (more::[])) λv1=>W.af (decide (v1<0)) (some 2) (W.ae (jE W (used::(more::[]))) λv2=>W.aG (λ(z3:Bool×Unit)=>W.af z3.1 (some 16) (some 0)) λj=>W.af (v2.2.1 != 0) (j (true,())) (j (decide (m.2.1<v2.1),())))
abbrev abb:=u2 aj
def yf(s:aU)(from_ j:ar):Option Int:=W.ae (rL W s j) λv1=>W.af (v1.2.1 != 0) (some v1.2.1) (W.ae (iC W s.2.1 v1.1.2.1) λv2=>W.aG (λ(z3:Bool×Unit)=>W.af z3.1 (some 15) (W.ae (ye W s j) λv4=>W.af (!v4) (some 21) (W.ae (wX W (c9 s).2.2.1 (from_::[])) λv5=>W.af (v5.2.1 != 0) (some v5.2.1) (W.ae (tE W s v2.1.1) λv6=>W.af (v6.2.1 != 0) (some v6.2.1) (W.ae (u2 W v2.1 v6.1 v5.1) λC=>some C))))) λy=>W.af (!v2.2.1) (y (true,())) (W.ae (jP W v2.1) λv9=>(y (v9 != 0,()))))
abbrev adW:=yf aj
def DX(s:aU)(from_:ar):Option (ar×Int×Unit):=W.ae (u6 W s from_) λv1=>W.af (v1 != 0) (some ((0,0,()),v1,())) (W.ae (uZ W s.2.2.2.2.2.1 from_) λv2=>W.af (v2.2.1 != 0) (some ((0,0,()),v2.2)) (W.ae (yf W s from_ v2.1) λv3=>W.af (v3 != 0) (some ((0,0,()),v3,())) (some (v2.1,0,()))))
abbrev anz:=DX aj
def AT(l:List bp)(from_ j:ar):Option ((List bp)×Int×Unit):=W.ae (yr W l) λv1=>W.af (!v1) (some ([],3,())) (W.af (cX false ((from_.1==j.1)&&(from_.2.1==j.2.1))) (some ([],24,())) (W.ae (mH W l j) λv2=>W.af (decide (0<(v2.length:Int))) (some ([],21,())) (W.ae (mH W l from_) λv3=>W.ae (zP W l from_ []) λv4=>W.ae (zP W v4 j v3) λv5=>some (v5,0,()))))
abbrev OV:=AT aj
def wY(s:aU)(from_:ar):Option (aU×ar×Int×Unit):=W.ae (DX W s from_) λv1=>W.af (v1.2.1 != 0) (some ((0,[],[],[],[],[],[],[],[],[],[],[],()),(0,0,()),v1.2)) (W.ae (vp W (c9 s).2.2.1 from_) λv2=>W.ae (AK W (v2::[])) λv3=>W.aG (λ(z4:S2)=>W.aG (λ(z5:S2)=>W.aG (λ(j:S2)=>W.af (j.1 != 0) (some ((0,[],[],[],[],[],[],[],[],[],[],[],()),(0,0,()),j.1,())) (W.ae (tW W (c9 j).1 from_) λH=>some (U5 j.2 (H,(c9 j).2),v1.1,0,()))) λG=>W.af (z5.1==0) (W.ae (AT W (aP z5).1 from_ v1.1) λv9=>(G (v9.2.1,U11 z5.2 (v9.1,())))) (G z5)) λF=>W.af (z4.1==0) (W.two (W.ae (km W (c9 z4).2.2.2.2.2.1 from_) λv11=>W.ae (l7 W (c9 z4).2.2.2.2.2.1 from_ v1.1 v11) λv12=>(F (v12.2.1,U10 z4.2 (v12.1,(aP z4)))))) (F z4)) λC=>W.af (v3.2.1==0) (W.ae (rb W (c9 s).2.2.1 from_ v1.1 v3.1) λy=>(C (y.2.1,U8 s (y.1,(c9 s).2.2.2)))) (C (v3.2.1,s)))
abbrev aiH:=wY aj
def xd(d:aM):Option (Int×aM):=W.gP (W.ae (wY W (xp d ()) ((aP d).2.2.2.1,(aP d).2.2.2.2.1,())) λv1=>W.two (W.aG (λ(z2:S0)=>some (v1.2.2.1,z2)) λy=>W.af (v1.2.2.1==0) (W.two (y (xp v1.1 (U15 (aP d) (v1.2.1.1::(v1.2.1.2.1::[]),(aP (aP d)).2.2.2.2))))) (y d))) (W.two (W.two (W.ae (wY W (xp d ()) ((aP d).2.2.2.1,(aP d).2.2.2.2.1,())) λv6=>W.aG (λ(C:S0)=>some (v6.2.2.1,C)) λj=>W.af (v6.2.2.1==0) (W.two (j (xp v6.1 (U15 (aP d) (v6.2.1.1::(v6.2.1.2.1::[]),(aP (aP d)).2.2.2.2))))) (j d))))
abbrev Q0:=xd aj
def yo(m:bB)(day:Int):Option (bB×Int×Unit):=W.ae (ri W m day 1) λv1=>W.af (v1.2.1 != 0) (some ((0,0,0,0,()),v1.2)) (W.af (decide (day<=m.2.2.2.1)) (some ((0,0,0,0,()),18,())) (some (v1.1,0,())))
abbrev Uy:=yo aj
def tI(s:aU):Option Bool:=W.ae (qf W (c9 s).2.2.1) λv1=>W.af v1 (W.ae (qf W (c9 s).2.2.2.1) λv2=>some v2) (some false)
abbrev acz:=tI aj
def uv(y j:Int)(a:aN):Option (Bool×(Int×Int×Unit)):=W.ae (oZ W a (y,j,())) λv1=>some (v1,y,j,())
abbrev ä:=uv aj
def dG(F C:Int)(s:List aN):Option (Int×(Int×Int×Unit)):=W.aV (λ(y:S14) j=>W.af (decide (y.1<(s.length:Int))) (W.aH s y.1 λG=>W.ae (uv W y.2.1 y.2.2.1 G) λv4=>W.af v4.1 (some (y.1,v4.2)) (j (i64.wrap (y.1+1),v4.2))) (some (-1,y.2))) (0,F,C,())
abbrev mc:=dG aj
def cQ(y j:Int)(s:List aN):Option (Bool×(Int×Int×Unit)):=W.ae (dG W y j s) λv1=>some (decide (0<=v1.1),v1.2)
abbrev lj:=cQ aj
def wu(s:aU)(id:Int)(u:ar):Option Bool:=W.ae (sI W s.2.2.2.2.1 id) λv1=>W.ae (cQ W u.1 u.2.1 v1) λv2=>some v2.1
abbrev Wo:=wu aj
def xE(s:aU)(id:Int):Option (aU×Int×Unit):=W.ae (tI W s) λv1=>W.af (!v1) (some ((0,[],[],[],[],[],[],[],[],[],[],[],()),3,())) (W.aV (λ(z2:Int×M3 (List cj×Unit)) j=>W.af (decide (z2.1<(s.2.2.2.2.2.2.2.2.1.length:Int))) (W.aG (λ(z4:M3 (List cj×Unit))=>(j (i64.wrap (z2.1+1),z4))) λF=>W.aH (c9 s).2.2.1 z2.1 λy=>W.ae (wu W (xp z2.2 ()) id y.1) λG=>W.af (!G) (W.bc (z2.2.2.2.2.2.2.2.2.2.2.2.2.2.1.length+(y::[]).length) 40 (F (xp z2.2 ((aP z2).2.1++(y::[]),())))) (W.ae (nE W (c9 z2).2.2.2.2.1 y.1 y.2.1) λC=>W.af (C.2.1 != 0) (some ((0,[],[],[],[],[],[],[],[],[],[],[],()),C.2)) (F (U9 z2.2 (C.1,(c9 z2).2.2.2.2.2))))) (some (U8 z2.2 ((aP z2).2.1,U3 (c9 z2).2.2.2.2 ()),0,()))) (0,xp s ([],())))
abbrev Jt:=xE aj
def j3(d:aM):Option (Int×aM):=W.ae (fX W d) λv1=>W.aG (λ(z2:S21)=>W.aG (λ(z3:S1)=>W.af (z3.1 != 0) (some z3) (W.two (W.ae (xE W (xp z3.2 ()) z2.2.1) λv4=>W.aG (λ(z5:S0)=>some (v4.2.1,z5)) λF=>W.af (v4.2.1==0) (F (xp v4.1 (aP z3).2)) (F z3.2)))) λC=>W.af (z2.1==0) (W.ae (kg W v1.2 z2.2) λv11=>(C v11)) (C (z2.1,v1.2))) λy=>W.af (v1.1.2.1==0) (W.ae (yo W v1.1.1 v1.2.1) λj=>(y (j.2.1,j.1))) (y (v1.1.2.1,v1.1.1))
abbrev Hq:=j3 aj
def Dg(all ie:Int):Option Bool:=W.af (decide (0<ie)) (W.af (decide (ie<=all)) (some true) (W.af (decide (ie<0)) (some (decide (all<=ie))) (some false))) (W.af (decide (ie<0)) (some (decide (all<=ie))) (some false))
abbrev ajx:=Dg aj
def xF(s:aU)(u:ar):Option Int:=W.ae (mv W s.2.2.2.2.1 u.1) λv1=>W.aG (λ(z2:Bool×Unit)=>W.af z2.1 (some 11) (W.af (v1.1.2.2.1 != 1) (some 17) (W.ae (iC W s.2.1 v1.1.2.1) λv3=>W.af (!v3.2.1) (some 15) (W.ae (jP W v3.1) λv4=>some v4)))) λj=>W.af (!v1.2.1) (j (true,())) (W.ae (oZ W v1.1 u) λv6=>(j (!v6,())))
abbrev ac1:=xF aj
def xG(s:aU)(u j:ar)(id ie e8:Int):Option Int:=W.ae (pK W s.2.2.1 id) λv1=>W.aG (λ(z2:Bool×Unit)=>W.af z2.1 (some 3) (W.af (!v1.2.1) (some 11) (W.aG (λ(z3:Bool×Unit)=>W.af z3.1 (some 2) (W.ae (vp W (c9 s).2.2.2.1 u) λv4=>W.ae (Hv W v4 id) λv5=>W.ae (Dg W v5 ie) λv6=>W.af (!v6) (some 23) (W.ae (xF W s j) λF=>some F))) λy=>W.af (ie==0) (y (true,())) (W.af (decide (e8<0)) (y (true,())) (y (decide (2147483647<e8),())))))) λC=>W.ae (tI W s) λv10=>W.af (!v10) (C (true,())) (W.ae (qv W (c9 s).2.2.2.2.1) λv11=>(C (!v11,())))
abbrev ac2:=xG aj
def zX(s:aU)(u j:ar)(id ie e8:Int):Option (aU×Int×Unit):=W.ae (xG W s u j id ie e8) λv1=>W.af (v1 != 0) (some ((0,[],[],[],[],[],[],[],[],[],[],[],()),v1,())) (W.ae (pK W s.2.2.1 id) λv2=>W.ae (E7 W v2.1 ie e8 v2.1.2.2.1) λv3=>W.af (v3.2.1 != 0) (some ((0,[],[],[],[],[],[],[],[],[],[],[],()),v3.2)) (W.ae (sJ W ((id,ie,())::[])) λv4=>W.aG (λ(z5:Int×M3 (List ar×Unit))=>W.aG (λ(y:S2)=>W.aG (λ(H:S2)=>W.af (H.1 != 0) (some ((0,[],[],[],[],[],[],[],[],[],[],[],()),H.1,())) (some (H.2,0,()))) λJ=>W.af (y.1==0) (W.ae (l7 W (c9 y).2.2.2.2.2.1 u j v3.1) λv9=>(J (v9.2.1,U10 y.2 (v9.1,(aP y))))) (J y)) λG=>W.af (z5.1==0) (W.ae (nE W (c9 z5).2.2.2.1 j (aP z5).2.1) λv11=>(G (v11.2.1,U8 z5.2 (v11.1,U3 (c9 z5).2.2.2.2 ())))) (G (U13 z5 ()))) λF=>W.af (v4.2.1==0) (W.ae (nE W (c9 s).2.2.2.1 u v4.1) λC=>(F (C.2.1,U9 s (C.1,(c9 s).2.2.2.2.1,(c9 s).2.2.2.2.2.1,(id,ie,())::[],())))) (F (v4.2.1,xp s ((id,ie,())::[],())))))
abbrev ahj:=zX aj
def ka(d:aM):Option (Int×aM):=W.ae (jF W d ((aP d).2.2.2.1,(aP d).2.2.2.2.1,())) λv1=>W.af (v1.1 != 0) (some v1) (W.ae (iV W v1.2 ((aP v1).2.2.2.2.1,(aP v1).2.2.2.2.2.1,())) λv2=>W.af (v2.1.2.2.1 != 2) (some (13,v2.2)) (W.two (W.ae (zX W (xp v2.2 ()) ((aP v2).2.2.2.2.1,(aP v2).2.2.2.2.2.1,()) ((c9 (aP v2)).1,(c9 (aP v2)).2.1,()) (c9 (aP v2)).2.2.1 (aP (aP v2)).1 (aP (aP v2)).2.1) λv3=>W.af (v3.2.1 != 0) (some (v3.2.1,v2.2)) (W.ae (np W (xp v3.1 (aP v2).2) (((c9 (aP v2)).1,(c9 (aP v2)).2.1,())::[])) λv4=>some v4))))
abbrev FB:=ka aj
def vb(m:bB)(day:Int):Option (bB×Int×Unit):=W.ae (ri W m day 2) λv1=>some v1
abbrev PC:=vb aj
def zV(s:aU)(id:Int):Option (List cj):=W.aV (λ(y:S25) j=>W.af (decide (y.1<(s.2.2.2.2.2.2.2.2.2.1.length:Int))) (W.aG (λ(z3:List cj×Unit)=>(j (i64.wrap (y.1+1),z3))) λF=>W.aH (c9 s).2.2.2.1 y.1 λC=>W.ae (wu W s id C.1) λv6=>W.af v6 (W.bc (y.2.1.length+(C::[]).length) 40 (F (y.2.1++(C::[]),()))) (F y.2)) (some y.2.1)) (0,[],())
abbrev NL:=zV aj
def Hz(l:List aN):Option ((List ar)×(List ar)×Unit):=W.aV (λ(j:Int×List ar×List ar×Unit) y=>W.af (decide (j.1<(l.length:Int))) (W.aG (λ(z3:List ar×List ar×Unit)=>(y (i64.wrap (j.1+1),z3))) λG=>W.aH l j.1 λC=>W.ae (jq W C) λv6=>W.bc (j.2.1.length+v6.length) 16 (W.af (C.2.2.1==1) (W.ae (jq W C) λF=>W.bc (j.2.2.1.length+F.length) 16 (G (j.2.1++v6,j.2.2.1++F,()))) (G (j.2.1++v6,j.2.2)))) (some j.2)) (0,[],[],())
abbrev aey:=Hz aj
def qZ(s:aU)(u:ar):Option (Int×Int×Unit):=W.ae (km W (c9 s).2.2.2.2.1 u) λv1=>W.ae (uF W (if v1<0 then v1 else 0)) λv2=>some v2
abbrev Wx:=qZ aj
def LI(a n d:Int):Option (Int×Int×Unit):=W.ae (o8 W a n) λv1=>W.ae (rD W v1 d) λv2=>W.aG (λ(z3:S14)=>W.ae (px W z3.2 z3.1) λv4=>some v4) λC=>W.aG (λ(F:Bool×Unit)=>W.af F.1 (W.two (W.ae (je W 1) λG=>W.ae (nq W (v2.1::(G::[]))) λy=>(C (y.2.1,y.1)))) (C (v2.2.2.1,v2.1))) λj=>W.af (v2.2.2.1==0) (j (decide (0<v2.2.1),())) (j (false,()))
abbrev atd:=LI aj
def xJ(a:bu)(j:Int):Option (Int×Int×Unit):=W.ae (pJ W a) λv1=>W.af (v1 != 0) (some (0,v1,())) (W.af (decide (j<=0)) (some (0,0,())) (W.ae (LI W j 1 a.2.1) λv2=>some v2))
abbrev acD:=xJ aj
def Af(l:List bp)(from_ j:ar)(y:bu)(tag:Int):Option ((List bp)×Int×Unit):=W.ae (yr W l) λv1=>W.af (!v1) (some ([],3,())) (W.af (cX false ((from_.1==j.1)&&(from_.2.1==j.2.1))) (some ([],24,())) (W.ae (om W l from_ y) λv2=>W.af (v2.2.1 != 0) (some ([],v2.2)) (W.ae (qn W v2.1 j (y.1,tag,y.2.2)) λv3=>some v3)))
abbrev WC:=Af aj
def Ag(s:aU)(u:ar)(j:bu)(missing:Int):Option (aU×Int×Unit):=W.ae (pz W s.2.2.2.1 j.1) λv1=>W.af (!v1.2.1) (some ((0,[],[],[],[],[],[],[],[],[],[],[],()),11,())) (W.af (v1.1.2.1==0) (some (s,0,())) (W.ae (xJ W v1.1 missing) λv2=>W.af (v2.2.1 != 0) (some ((0,[],[],[],[],[],[],[],[],[],[],[],()),v2.2)) (W.ae (pD W v1.1 (if j.2.2.1<v2.1 then j.2.2.1 else v2.1)) λv3=>W.aG (λ(z4:S2)=>W.aG (λ(z5:S2)=>W.af (z5.1 != 0) (some ((0,[],[],[],[],[],[],[],[],[],[],[],()),z5.1,())) (some (z5.2,0,()))) λG=>W.af (z4.1==0) (W.two (W.ae (mG W) λH=>W.ae (l7 W (c9 z4).2.2.2.2.2.1 H u v3.1) λF=>(G (F.2.1,U10 z4.2 (F.1,(aP z4)))))) (G z4)) λC=>W.af (v3.2.1==0) (W.two (W.ae (mG W) λv12=>W.ae (Af W (c9 s).2.2.2.2.2.1 u v12 (j.1,j.2.1,(if j.2.2.1<v2.1 then j.2.2.1 else v2.1),()) 0) λy=>(C (y.2.1,U11 s (y.1,()))))) (C (v3.2.1,s)))))
abbrev WE:=Ag aj
def wD(s:aU)(u:ar)(cash:Int):Option (aU×Int×Unit):=W.aG (λ(K:Bool×Unit)=>W.af K.1 (some ((0,[],[],[],[],[],[],[],[],[],[],[],()),3,())) (W.ae (mG W) λv2=>W.af (cX false ((u.1==v2.1)&&(u.2.1==v2.2.1))) (some ((0,[],[],[],[],[],[],[],[],[],[],[],()),2,())) (W.ae (mH W (c9 s).2.2.2.2.2.1 u) λv3=>W.aV (λ(z4:S8) j=>W.af (decide (z4.1<(v3.length:Int))) (W.aH (aP z4).2.1 z4.1 λ_=>W.cr (aP z4).2.1 (z4.1.toNat) λR=>W.ae (km W (c9 z4).2.2.2.2.2.1 u) λV=>W.ae (yh W cash V) λv9=>W.aG (λ(y:S8)=>W.af (y.1 != 0) (some ((0,[],[],[],[],[],[],[],[],[],[],[],()),y.1,())) (j (i64.wrap (z4.1+1),y.2))) λH=>W.aG (λ(z12:Bool×List bu×Unit)=>W.af z12.1 (W.ae (Ag W (xp z4.2 ()) u R v9.1) λC=>(H (C.2.1,xp C.1 z12.2))) (H (v9.2.1,xp z4.2 z12.2))) λG=>W.af (v9.2.1==0) (G (decide (0<v9.1),(aP z4).2)) (G (false,(aP z4).2))) (some (xp z4.2 (),0,()))) (0,xp s (v3,()))))) λF=>W.ae (qv W (c9 s).2.2.2.2.1) λJ=>W.af (!J) (F (true,())) (W.ae (yr W (c9 s).2.2.2.2.2.1) λv17=>(F (!v17,())))
abbrev WG:=wD aj
def Dt(s:aU)(u:ar):Option (aU×(List dp)×Int×Unit):=W.ae (qZ W s u) λv1=>W.af (v1.2.1 != 0) (some ((0,[],[],[],[],[],[],[],[],[],[],[],()),[],v1.2)) (W.ae (wD W s u 0) λv2=>W.af (v2.2.1 != 0) (some ((0,[],[],[],[],[],[],[],[],[],[],[],()),[],v2.2)) (W.ae (qZ W v2.1 u) λv3=>W.af (v1.1==v3.1) (some (v2.1,[],0,())) (W.two (some (v2.1,(u,u,i64.wrap (v1.1-v3.1),())::[],0,())))))
abbrev a_:=Dt aj
def rk(r0:Int)(r1:List bB)(Y:List bR)(X:List bu)(V:List aN)(R:List cd)(K:List cU)(J:List dk)(H G:List cj)(F:List aZ)(C:List bp)(y:List dp)(_:Int)(s:aU)(j:List dp)(e:Int):Option (Unit×(M3 ((List dp)×Int×Unit))):=W.af (e==0) (W.bc (y.length+j.length) 40 (some ((),xp s (y++j,e,())))) (some ((),r0,r1,Y,X,V,R,K,J,H,G,F,C,y,e,()))
abbrev VN:=rk aj
def C3(r0:Int)(r1:List bB)(r2:List bR)(r3:List bu)(r4:List aN)(r5:List cd)(r6:List cU)(Y:List dk)(X V:List cj)(J:List aZ)(H:List bp)(G:List dp)(F:Int)(l:List ar):Option (Unit×(M3 ((List dp)×Int×Unit))):=W.aV (λ(j:Sq0) y=>W.af (decide (j.1<(l.length:Int))) (W.aG (λ(z3:Sq1)=>(y (i64.wrap (j.1+1),z3))) λK=>W.aH l j.1 λR=>W.af ((aP j).2.1==0) (W.ae (Dt W (xp j.2 ()) R) λv6=>W.ae (rk W j.2.1 j.2.2.1 j.2.2.2.1 j.2.2.2.2.1 j.2.2.2.2.2.1 (c9 j).1 (c9 j).2.1 (c9 j).2.2.1 (c9 j).2.2.2.1 (c9 j).2.2.2.2.1 (c9 j).2.2.2.2.2.1 (aP j).1 (aP j).2.2.1 (aP j).2.1 v6.1 v6.2.1 v6.2.2.1) λC=>(K (xp C.2 ((aP C).2.2.1,(aP C).2.1,())))) (K j.2)) (some ((),xp j.2 ((aP j).2.2.1,(aP j).2.1,())))) (0,r0,r1,r2,r3,r4,r5,r6,Y,X,V,J,H,F,G,())
abbrev ZZ:=C3 aj
def nS(s:aU)(l:List ar):Option (((List Int)×Int×Int×Unit)×Unit):=W.aV (λ(y:S10) j=>W.af (decide (y.1<(l.length:Int))) (W.aH l y.1 λC=>W.ae (qZ W s C) λv4=>W.af (v4.2.1 != 0) (some (([],0,v4.2),())) (W.bc (y.2.1.length+(v4.1::[]).length) 8 (j (i64.wrap (y.1+1),y.2.1++(v4.1::[]),())))) (W.ae (jE W y.2.1) λv5=>some ((y.2.1,v5),()))) (0,[],())
abbrev I5:=nS aj
def iK(y l:List bu):Option (((List Int)×Int×Unit)×Unit):=W.ae (Bi W l) λv1=>W.af (!v1) (some (([],3,()),())) (W.aV (λ(z2:S10) j=>W.af (decide (z2.1<(l.length:Int))) (W.aH l z2.1 λC=>W.ae (pz W y C.1) λv5=>W.af (!v5.2.1) (some (([],11,()),())) (W.ae (pD W v5.1 C.2.2.1) λv6=>W.af (v6.2.1 != 0) (some (([],v6.2),())) (W.bc (z2.2.1.length+(v6.1::[]).length) 8 (j (i64.wrap (z2.1+1),z2.2.1++(v6.1::[]),()))))) (some ((z2.2.1,0,()),()))) (0,[],()))
abbrev CK:=iK aj
def uE(j l:List bu):Option (Int×Int×Unit):=W.ae (iK W j l) λv1=>W.af (v1.1.2.1 != 0) (some (0,v1.1.2)) (W.ae (jE W v1.1.1) λv2=>some v2)
abbrev Pr:=uE aj
def wC(s:aU)(u:ar):Option (Int×Int×Unit):=W.ae (mH W (c9 s).2.2.2.2.2.1 u) λv1=>W.ae (uE W s.2.2.2.1 v1) λv2=>W.af (v2.2.1 != 0) (some (0,v2.2)) (W.ae (km W (c9 s).2.2.2.2.1 u) λv3=>W.ae (jE W (v2.1::(v3::[]))) λv4=>some ((if v4.1>0 then v4.1 else 0),v4.2))
abbrev ahv:=wC aj
def Bf(s:aU)(u:ar):Option (Int×Int×Unit):=W.ae (wC W s u) λv1=>W.aG (λ(z2:Int×Unit)=>some (z2.1,v1.2)) λj=>W.ae (km W (c9 s).2.2.2.2.1 u) λv4=>W.af (decide (v4<0)) (j (0,())) (j (v1.1,()))
abbrev ajh:=Bf aj
def nT(s:aU)(l:List ar):Option (((List Int)×Int×Int×Unit)×Unit):=W.aV (λ(y:S10) j=>W.af (decide (y.1<(l.length:Int))) (W.aH l y.1 λC=>W.ae (Bf W s C) λv4=>W.af (v4.2.1 != 0) (some (([],0,v4.2),())) (W.bc (y.2.1.length+(v4.1::[]).length) 8 (j (i64.wrap (y.1+1),y.2.1++(v4.1::[]),())))) (W.ae (jE W y.2.1) λv5=>some ((y.2.1,v5),()))) (0,[],())
abbrev I6:=nT aj
def M5(fy:List Int):Option Int:=W.aV (λ(y:Int×Unit) j=>W.af (decide (y.1<(fy.length:Int))) (W.aH fy y.1 λC=>W.af (C != 0) (some C) (j (i64.wrap (y.1+1),()))) (some 0)) (0,())
abbrev aoO:=M5 aj
def rR(total:Int)(l:List Int):Option Bool:=W.ae (AS W total l) λv1=>some (decide (0<=v1))
abbrev abN:=rR aj
def s5(total sum:Int)(weights:List Int):Option ((List bu)×Int×Unit):=W.jb (weights.length:Int) (W.bc ((weights.length:Int).toNat) 24 (W.aV (λ(j:Int×Int×List bu×Unit) y=>W.af (decide (j.2.1<(weights.length:Int))) (W.aH weights j.2.1 λC=>W.ae (qX W total C sum) λv4=>W.bc (j.2.2.1.length+((j.2.1,v4.1,v4.2.1,())::[]).length) 24 (y (i64.wrap (j.1+v4.1),i64.wrap (j.2.1+1),j.2.2.1++((j.2.1,v4.1,v4.2.1,())::[]),()))) (some (j.2.2.1,j.1,()))) (0,0,[],())))
abbrev Z4:=s5 aj
def vl(total:Int)(weights:List Int):Option ((List Int)×Int×Unit):=W.ae (rR W total weights) λv1=>W.af (!v1) (some ([],2,())) (W.ae (jE W weights) λv2=>W.jb (weights.length:Int) (W.bc ((weights.length:Int).toNat) 8 (W.j5 (weights.length:Int) ((weights.length:Int).toNat) λK=>W.af (v2.2.1 != 0) (some ([],v2.2)) (W.af (total==0) (some (List.replicate K 0,0,())) (W.af (v2.1==0) (some ([],8,())) (W.ae (s5 W total v2.1 weights) λv4=>W.aV (λ(z5:Int×List (Int)×List bu×Unit) F=>W.af (decide (z5.1<(v4.1.length:Int))) (W.aH z5.2.2.1 z5.1 λ_=>W.cr z5.2.2.1 (z5.1.toNat) λH=>W.aH z5.2.1 H.1 λ_=>W.cr z5.2.1 (H.1.toNat) λ_=>(F (i64.wrap (z5.1+1),List.set z5.2.1 (H.1.toNat) H.2.1,z5.2.2))) (W.ae (tO z5.2.2.1) λv11=>W.j5 (i64.wrap (total-v4.2.1)) v11.length λG=>W.aV (λ(j:S10) C=>W.af (decide (j.1<((v11.take G).length:Int))) (W.aH (v11.take G) j.1 λy=>W.aH j.2.1 y.1 λ_=>W.cr j.2.1 (y.1.toNat) λJ=>W.aH j.2.1 y.1 λ_=>W.cr j.2.1 (y.1.toNat) λ_=>(C (i64.wrap (j.1+1),List.set j.2.1 (y.1.toNat) (i64.wrap (J+1)),()))) (some (j.2.1,0,()))) (0,z5.2.1,()))) (0,List.replicate K 0,v4.1,())))))))
abbrev abO:=vl aj
def ud(total:Int)(j:List Int):Option ((List Int)×Int×Unit):=W.ae (rR W total j) λv1=>W.af (!v1) (some ([],2,())) (W.ae (jE W j) λv2=>W.af (v2.2.1 != 0) (some ([],v2.2)) (W.af (decide (v2.1<total)) (some ([],10,())) (W.ae (vl W total j) λv3=>some v3)))
abbrev aez:=ud aj
def wE(s:aU)(y C:ar)(j:Int):Option (aU×(List dp)×Int×Unit):=W.af (j==0) (some (s,[],0,())) (W.ae (wD W s y j) λv1=>W.aG (λ(z2:S2)=>W.af (z2.1 != 0) (some ((0,[],[],[],[],[],[],[],[],[],[],[],()),[],z2.1,())) (W.two (some (z2.2,(y,C,j,())::[],0,())))) λF=>W.af (v1.2.1==0) (W.ae (l7 W v1.1.2.2.2.2.2.2.2.2.2.2.1 y C j) λv4=>(F (v4.2.1,U10 v1.1 (v4.1,v1.1.2.2.2.2.2.2.2.2.2.2.2)))) (F (v1.2.1,v1.1)))
abbrev WH:=wE aj
def vk(s:aU)(l:List ar):Option (aU×(List dp)×Int×Unit):=W.ae (nS W s l) λv1=>W.ae (nT W s l) λv2=>W.aG (λ(z3:Bool×List (Int)×List (Int)×Unit)=>W.af z3.1 (W.ae (M5 W (v1.1.2.2.1::(v2.1.2.2.1::[]))) λv4=>some ((0,[],[],[],[],[],[],[],[],[],[],[],()),[],v4,())) (W.ae (ud W (if v2.1.2.1<v1.1.2.1 then v2.1.2.1 else v1.1.2.1) z3.2.2.1) λv5=>W.ae (ud W (if v2.1.2.1<v1.1.2.1 then v2.1.2.1 else v1.1.2.1) z3.2.1) λv6=>W.aG (λ(z7:M3 (List dp×Unit))=>some (xp z7 (),(aP z7).1,0,())) λk8=>W.aV (λ(z9:Int×Int×M3 (List (Int)×List (Int)×List dp×Unit)) C=>W.af (decide (z9.1<(z9.2.2.2.2.2.2.2.2.2.2.2.2.2.2.1.length:Int))) (W.af (decide (z9.2.1<(z9.2.2.2.2.2.2.2.2.2.2.2.2.2.2.2.1.length:Int))) (W.aH (aP z9).2.2.1 z9.1 λ_=>W.aH (aP z9).2.2.2.1 z9.2.1 λ_=>W.cr (aP z9).2.2.1 (z9.1.toNat) λy=>W.cr (aP z9).2.2.2.1 (z9.2.1.toNat) λj=>W.aH l z9.1 λx15=>W.aH l z9.2.1 λY=>W.two (W.ae (wE W (xp z9.2.2 ()) x15 Y (if j<y then j else y)) λv17=>W.af (v17.2.2.1 != 0) (some ((0,[],[],[],[],[],[],[],[],[],[],[],()),[],v17.2.2)) (W.bc (z9.2.2.2.2.2.2.2.2.2.2.2.2.2.2.2.2.1.length+v17.2.1.length) 40 (W.aG (λ(F:List (Int)×List (Int)×List dp×Unit)=>W.aH F.1 z9.1 λ_=>W.cr F.1 (z9.1.toNat) λX=>W.af (X==0) (C (i64.wrap (z9.1+1),z9.2.1,xp v17.1 F)) (C (z9.1,i64.wrap (z9.2.1+1),xp v17.1 F))) λH=>W.aH (aP z9).2.2.1 z9.1 λ_=>W.aH (aP z9).2.2.2.1 z9.2.1 λ_=>W.gP (W.cr (aP z9).2.2.1 (z9.1.toNat) λV=>W.cr (aP z9).2.2.2.1 (z9.2.1.toNat) λR=>W.aH (aP z9).2.2.1 z9.1 λ_=>W.cr (aP z9).2.2.1 (z9.1.toNat) λ_=>W.aH (aP z9).2.2.2.1 z9.2.1 λ_=>W.cr (aP z9).2.2.2.1 (z9.2.1.toNat) λ_=>(H (List.set (aP z9).2.2.1 (z9.1.toNat) (i64.wrap (V-(if j<y then j else y))),List.set (aP z9).2.2.2.1 (z9.2.1.toNat) (i64.wrap (R-(if j<y then j else y))),(aP z9).2.2.2.2.1++v17.2.1,()))) (W.cr (aP z9).2.2.2.1 (z9.2.1.toNat) λK=>W.cr (aP z9).2.2.1 (z9.1.toNat) λJ=>W.aH (aP z9).2.2.1 z9.1 λ_=>W.cr (aP z9).2.2.1 (z9.1.toNat) λ_=>W.aH (aP z9).2.2.2.1 z9.2.1 λ_=>W.cr (aP z9).2.2.2.1 (z9.2.1.toNat) λ_=>(H (List.set (aP z9).2.2.1 (z9.1.toNat) (i64.wrap (J-(if j<y then j else y))),List.set (aP z9).2.2.2.1 (z9.2.1.toNat) (i64.wrap (K-(if j<y then j else y))),(aP z9).2.2.2.2.1++v17.2.1,()))))))) (k8 (xp z9.2.2 (aP z9).2.2.2.2))) (k8 (xp z9.2.2 (aP z9).2.2.2.2))) (0,0,xp s (v5.1,v6.1,[],())))) λG=>W.af (v1.1.2.2.1 != 0) (G (true,v1.1.1,v2.1.1,())) (G (v2.1.2.2.1 != 0,v1.1.1,v2.1.1,()))
abbrev abJ:=vk aj
def rQ(r0:Int)(r1:List bB)(r2:List bR)(r3:List bu)(r4:List aN)(r5:List cd)(r6:List cU)(r7:List dk)(r8 r9:List cj)(R:List aZ)(K:List bp)(J:List dp)(H:Int)(l:List aN):Option (Unit×(M3 ((List dp)×Int×Unit))):=W.aV (λ(y:Sq0) C=>W.af (decide (y.1<(l.length:Int))) (W.aG (λ(z3:Sq1)=>(C (i64.wrap (y.1+1),z3))) λX=>W.aH l y.1 λV=>W.aG (λ(j:Bool×M3 (Int×List dp×Unit))=>W.af j.1 (W.two (W.ae (jq W V) λY=>W.ae (vk W (xp j.2 ()) Y) λG=>W.ae (rk W j.2.1 j.2.2.1 j.2.2.2.1 j.2.2.2.2.1 j.2.2.2.2.2.1 (c9 j).1 (c9 j).2.1 (c9 j).2.2.1 (c9 j).2.2.2.1 (c9 j).2.2.2.2.1 (c9 j).2.2.2.2.2.1 (aP j).1 (aP j).2.2.1 (aP j).2.1 G.1 G.2.1 G.2.2.1) λv9=>(X (xp v9.2 ((aP v9).2.2.1,(aP v9).2.1,()))))) (X j.2)) λF=>W.af ((aP y).2.1==0) (F (V.2.2.1==2,y.2)) (F (false,y.2))) (some ((),xp y.2 ((aP y).2.2.1,(aP y).2.1,())))) (0,r0,r1,r2,r3,r4,r5,r6,r7,r8,r9,R,K,H,J,())
abbrev Ra:=rQ aj
def Ds(s:aU)(y j:ar):Option (aU×(List dp)×Int×Unit):=W.ae (qZ W s j) λv1=>W.ae (wC W s y) λv2=>W.aG (λ(z3:Bool×Unit)=>W.af z3.1 (W.ae (M5 W (v1.2.1::(v2.2.1::[]))) λv4=>some ((0,[],[],[],[],[],[],[],[],[],[],[],()),[],v4,())) (W.af (cX false ((y.1==j.1)&&(y.2.1==j.2.1))) (some (s,[],0,())) (W.ae (wE W s y j (if v2.1<v1.1 then v2.1 else v1.1)) λv5=>some v5))) λC=>W.af (v1.2.1 != 0) (C (true,())) (C (v2.2.1 != 0,()))
abbrev ÿ:=Ds aj
def rU(r0:Int)(r1:List bB)(r2:List bR)(r3:List bu)(r4:List aN)(r5:List cd)(r6:List cU)(r7:List dk)(r8 r9:List cj)(R:List aZ)(K:List bp)(J:List dp)(H:Int)(F G:List ar):Option (Unit×(M3 ((List dp)×Int×Unit))):=W.aV (λ(C:Sq0) y=>W.af (decide (C.1<(F.length:Int))) (W.aH F C.1 λx3=>W.aV (λ(z4:Sq0) j=>W.af (decide (z4.1<(G.length:Int))) (W.aG (λ(X:Sq1)=>(j (i64.wrap (z4.1+1),X))) λV=>W.aH G z4.1 λY=>W.af ((aP z4).2.1==0) (W.ae (Ds W (xp z4.2 ()) Y x3) λv9=>W.ae (rk W z4.2.1 z4.2.2.1 z4.2.2.2.1 z4.2.2.2.2.1 z4.2.2.2.2.2.1 (c9 z4).1 (c9 z4).2.1 (c9 z4).2.2.1 (c9 z4).2.2.2.1 (c9 z4).2.2.2.2.1 (c9 z4).2.2.2.2.2.1 (aP z4).1 (aP z4).2.2.1 (aP z4).2.1 v9.1 v9.2.1 v9.2.2.1) λv10=>(V (xp v10.2 ((aP v10).2.2.1,(aP v10).2.1,())))) (V z4.2)) (y (i64.wrap (C.1+1),z4.2))) (0,C.2)) (some ((),xp C.2 ((aP C).2.2.1,(aP C).2.1,())))) (0,r0,r1,r2,r3,r4,r5,r6,r7,r8,r9,R,K,H,J,())
abbrev Rb:=rU aj
def IM(s:aU)(id:Int):Option (aU×(List dp)×Int×Unit):=W.ae (sI W s.2.2.2.2.1 id) λv1=>W.ae (Hz W v1) λv2=>W.ae (C3 W s.1 s.2.1 s.2.2.1 s.2.2.2.1 s.2.2.2.2.1 s.2.2.2.2.2.1 (c9 s).1 (c9 s).2.1 (c9 s).2.2.1 (c9 s).2.2.2.1 (c9 s).2.2.2.2.1 (c9 s).2.2.2.2.2.1 [] 0 v2.1) λv3=>W.ae (rQ W v3.2.1 v3.2.2.1 v3.2.2.2.1 v3.2.2.2.2.1 v3.2.2.2.2.2.1 (c9 v3).1 (c9 v3).2.1 (c9 v3).2.2.1 (c9 v3).2.2.2.1 (c9 v3).2.2.2.2.1 (c9 v3).2.2.2.2.2.1 (aP v3).1 (aP v3).2.1 (aP v3).2.2.1 v1) λv4=>W.ae (rU W v4.2.1 v4.2.2.1 v4.2.2.2.1 v4.2.2.2.2.1 v4.2.2.2.2.2.1 (c9 v4).1 (c9 v4).2.1 (c9 v4).2.2.1 (c9 v4).2.2.2.1 (c9 v4).2.2.2.2.1 (c9 v4).2.2.2.2.2.1 (aP v4).1 (aP v4).2.1 (aP v4).2.2.1 v2.1 v2.2.1) λv5=>W.ae (Bh W) λv6=>W.ae (rU W v5.2.1 v5.2.2.1 v5.2.2.2.1 v5.2.2.2.2.1 v5.2.2.2.2.2.1 (c9 v5).1 (c9 v5).2.1 (c9 v5).2.2.1 (c9 v5).2.2.2.1 (c9 v5).2.2.2.2.1 (c9 v5).2.2.2.2.2.1 (aP v5).1 (aP v5).2.1 (aP v5).2.2.1 v2.1 (v6::[])) λj=>W.af ((aP j).2.2.1 != 0) (some ((0,[],[],[],[],[],[],[],[],[],[],[],()),[],(aP j).2.2)) (some (xp j.2 (),(aP j).2.1,0,()))
abbrev LM:=IM aj
def Hk(s:aU)(u:ar):Option dY:=W.ae (km W (c9 s).2.2.2.2.1 u) λv1=>W.ae (mH W (c9 s).2.2.2.2.2.1 u) λv2=>some (u,(if v1>0 then v1 else 0),v2,())
abbrev ZQ:=Hk aj
def IJ(l:List bp)(u:ar)(all:List bu):Option ((List bp)×Int×Unit):=W.aG (λ(y:Int×Unit)=>W.ae (lO W l u all y.1) λv2=>some v2) λj=>W.ae (Bi W all) λv4=>W.af (!v4) (j (3,())) (j (0,()))
abbrev abv:=IJ aj
def xy(s:aU)(r:dY):Option (aU×Int×Unit):=W.ae (rf W (c9 s).2.2.2.2.1 ((r.1,i64.wrap (0-r.2.1),())::[])) λv1=>W.aG (λ(z2:Int×Int×List bB×List bR×List bu×List aN×List cd×List cU×List dk×List cj×List cj×List bp×List aZ×Unit)=>some (U10 z2.2 ((aP z2).1,(c9 z2).2.2.2.2.2.1,()),z2.1,())) λj=>W.af (v1.2.1==0) (W.ae (IJ W (c9 s).2.2.2.2.2.1 r.1 []) λv4=>(j (v4.2.1,U10 s (v4.1,v1.1,())))) (j (v1.2.1,U10 s ((c9 s).2.2.2.2.2.1,v1.1,())))
abbrev MN:=xy aj
def E3(s:aU)(id:Int):Option (aU×(List dY)×Int×Unit):=W.aG (λ(z1:Bool×Unit)=>W.af z1.1 (some ((0,[],[],[],[],[],[],[],[],[],[],[],()),[],3,())) (W.ae (sI W s.2.2.2.2.1 id) λv2=>W.aV (λ(z3:Int×M3 (List aN×List dY×Unit)) G=>W.af (decide (z3.1<(v2.length:Int))) (W.aH (aP z3).2.1 z3.1 λ_=>W.cr (aP z3).2.1 (z3.1.toNat) λx6=>W.ae (jq W x6) λv7=>W.aV (λ(j:Int×M3 (List aN×List dY×List ar×Unit)) F=>W.af (decide (j.1<(v7.length:Int))) (W.aG (λ(V:M3 (List aN×List dY×List ar×Unit))=>(F (i64.wrap (j.1+1),V))) λR=>W.aH (aP j).2.2.2.1 j.1 λ_=>W.cr (aP j).2.2.2.1 (j.1.toNat) λX=>W.ae (Hk W (xp j.2 ()) X) λy=>W.aG (λ(C:List aN×List dY×List ar×Unit)=>W.ae (xy W (xp j.2 ()) y) λH=>W.af (H.2.1 != 0) (some ((0,[],[],[],[],[],[],[],[],[],[],[],()),[],H.2)) (W.bc (C.2.1.length+(y::[]).length) 48 (R (xp H.1 (C.1,C.2.1++(y::[]),C.2.2))))) λK=>W.af (y.2.1==0) (W.af ((y.2.2.1.length:Int)==0) (R j.2) (K (aP j).2)) (K (aP j).2)) (G (i64.wrap (z3.1+1),U14 j.2 ()))) (0,U14 z3.2 (v7,()))) (some (xp z3.2 (),(aP z3).2.2.1,0,()))) (0,xp s (v2,[],())))) λJ=>W.ae (qv W (c9 s).2.2.2.2.1) λY=>W.af (!Y) (J (true,())) (W.ae (yr W (c9 s).2.2.2.2.2.1) λv20=>(J (!v20,())))
abbrev Ij:=E3 aj
def nw(d:aM):Option (Int×aM):=W.ae (fX W d) λv1=>W.aG (λ(z2:S21)=>W.aG (λ(z3:S1)=>W.af (z3.1 != 0) (some z3) (W.ae (zV W (xp z3.2 ()) z2.2.1) λv4=>W.af (decide (0<(v4.length:Int))) (some (21,z3.2)) (W.two (W.ae (IM W (xp z3.2 ()) z2.2.1) λv5=>W.af (v5.2.2.1 != 0) (some (v5.2.2.1,z3.2)) (W.ae (E3 W v5.1 z2.2.1) λv6=>W.aG (λ(H:S0)=>some (v6.2.2.1,H)) λG=>W.af (v6.2.2.1==0) (G (xp v6.1 (U16 (aP z3).2 (v5.2.1,v6.2.1,())))) (G z3.2)))))) λC=>W.af (z2.1==0) (W.ae (kg W v1.2 z2.2) λF=>(C F)) (C (z2.1,v1.2))) λy=>W.af (v1.1.2.1==0) (W.ae (vb W v1.1.1 v1.2.1) λj=>(y (j.2.1,j.1))) (y (v1.1.2.1,v1.1.1))
abbrev N7:=nw aj
def nP(d:aM):Option (((List Int)×Int×Unit)×aM):=W.ae (vp W (c9 d).2.2.1 ((aP d).2.2.2.1,(aP d).2.2.2.2.1,())) λv1=>W.aV (λ(z2:S19) j=>W.af (decide (z2.1<(v1.length:Int))) (W.aH z2.2.1 z2.1 λ_=>W.cr z2.2.1 (z2.1.toNat) λy=>W.bc (z2.2.2.1.length+(y.1::(y.2.1::[])).length) 8 (j (i64.wrap (z2.1+1),z2.2.1,z2.2.2.1++(y.1::(y.2.1::[])),()))) (W.ae (jF W d ((aP d).2.2.2.1,(aP d).2.2.2.2.1,())) λv6=>some ((z2.2.2.1,v6.1,()),v6.2))) (0,v1,[],())
abbrev I4:=nP aj
def rP(d:aM):Option (((List Int)×Int×Unit)×aM):=W.aG (λ(G:Bool×Unit)=>W.ae (jF W d ((aP d).2.2.2.1,(aP d).2.2.2.2.1,())) λv2=>W.aG (λ(z3:Bool×Unit)=>W.af z3.1 (some (([],v2.1,()),v2.2)) (W.ae (km W (c9 v2).2.2.2.2.2.1 ((aP v2).2.2.2.2.1,(aP v2).2.2.2.2.2.1,())) λv4=>some ((v4::[],0,()),v2.2))) λF=>W.af (v2.1 != 0) (F (!G.1,())) (F (false,()))) λC=>W.ae (Bh W) λy=>W.af (cX false (((aP d).2.2.2.1==y.1)&&((aP d).2.2.2.2.1==y.2.1))) (W.two (C (true,()))) (W.two (W.ae (mG W) λj=>(C (cX false (((aP d).2.2.2.1==j.1)&&((aP d).2.2.2.2.1==j.2.1)),()))))
abbrev QZ:=rP aj
def mF(d:aM):Option (((List Int)×Int×Unit)×aM):=W.two (W.ae (mv W d.2.2.2.2.1 (aP d).2.2.2.1) λv1=>W.af (!v1.2.1) (some (([],11,()),d)) (W.af ((aP d).1==28) (W.ae (D6 W d.2.2.1 (c9 d).2.2.1 v1.1 ((aP d).2.2.2.1,(aP d).2.2.2.2.1,())) λv2=>some ((v2.1::[],v2.2),d)) (W.aG (λ(z3:Int×Int×M3 (Int×Int×Int×Int×Int×Int×Int×Int×Int×Int×Int×Int×Int×List (Int)×Int×List (Int)×List dp×List dY×Unit))=>some ((z3.1::[],z3.2.1,()),z3.2.2)) λC=>W.gP (W.ae (ml W d) λv5=>W.ae (l8 W v5.1 v1.1 ((aP v5).2.2.2.2.1,(aP v5).2.2.2.2.2.1,())) λv6=>(C (v6.1,v6.2.1,v5.2))) (W.ae (ml W d) λy=>W.ae (l8 W y.1 v1.1 ((aP d).2.2.2.1,(aP d).2.2.2.2.1,())) λj=>(C (j.1,j.2.1,y.2))))))
abbrev Ca:=mF aj
def rN(s:Bd)(l:List aN):Option ((List aZ)×Int×Unit):=W.aV (λ(F:S20) y=>W.af (decide (F.1<(l.length:Int))) (W.aH l F.1 λG=>W.ae (rj W G) λv4=>W.aV (λ(z5:Int×List aZ×List ar×Unit) j=>W.af (decide (z5.1<(v4.length:Int))) (W.aG (λ(J:List aZ×List ar×Unit)=>(j (i64.wrap (z5.1+1),J))) λH=>W.aH z5.2.2.1 z5.1 λ_=>W.cr z5.2.2.1 (z5.1.toNat) λC=>W.ae (l8 W s G C) λv11=>W.af (v11.2.1 != 0) (some ([],v11.2)) (W.af (decide (v11.1<0)) (W.bc (z5.2.1.length+((C,v11.1,())::[]).length) 24 (H (z5.2.1++((C,v11.1,())::[]),z5.2.2))) (H z5.2))) (y (i64.wrap (F.1+1),z5.2.1,()))) (0,F.2.1,v4,())) (some (F.2.1,0,()))) (0,[],())
abbrev P9:=rN aj
def qM(d:aM):Option (((List Int)×Int×Unit)×aM):=W.aG (λ(C:Int×M3 (Int×Int×Int×Int×Int×Int×Int×Int×Int×Int×Int×Int×Int×List (Int)×Int×List (Int)×List dp×List dY×List aZ×Unit))=>W.aV (λ(z2:Int×List aZ×List (Int)×Unit) j=>W.af (decide (z2.1<(C.2.2.2.2.2.2.2.2.2.2.2.2.2.2.2.2.2.2.2.2.2.2.2.2.2.2.2.2.2.2.2.1.length:Int))) (W.aH z2.2.1 z2.1 λ_=>W.cr z2.2.1 (z2.1.toNat) λy=>W.bc (z2.2.2.1.length+(y.1.1::(y.1.2.1::(y.2.1::[]))).length) 8 (j (i64.wrap (z2.1+1),z2.2.1,z2.2.2.1++(y.1.1::(y.1.2.1::(y.2.1::[]))),()))) (some ((z2.2.2.1,C.1,()),xv C.2 ()))) (0,(c9 (aP (aP C))).2.1,[],())) λH=>W.gP (W.ae (ml W d) λF=>W.ae (rN W F.1 F.2.2.2.2.2.1) λG=>(H (G.2.1,xv F.2 (G.1,())))) (W.ae (ml W d) λv9=>W.ae (rN W v9.1 d.2.2.2.2.1) λv10=>(H (v10.2.1,xv v9.2 (v10.1,()))))
abbrev D9:=qM aj
def nO(d:aM):Option (((List Int)×Int×Unit)×aM):=W.ae (fX W d) λv1=>W.af (v1.1.2.1 != 0) (some (([],v1.1.2),v1.2)) (W.ae (tE W (xp v1.2 ()) v1.1.1.1) λv2=>some ((v1.1.1.2.2.1::(v1.1.1.2.2.2.1::(v2.1::[])),v2.2),v1.2))
abbrev D8:=nO aj
def nQ(d:aM):Option (((List Int)×Int×Unit)×aM):=W.af ((aP d).1==26) (W.ae (nP W d) λv1=>some v1) (W.af ((aP d).1==27) (W.ae (rP W d) λv2=>some v2) (W.aG (λ(z3:Bool×Unit)=>W.af z3.1 (W.ae (mF W d) λv4=>some v4) (W.af ((aP d).1==30) (W.ae (qM W d) λv5=>some v5) (W.ae (nO W d) λv6=>some v6))) λy=>W.aG (λ(j:Bool×Unit)=>W.af j.1 (y j) (y ((aP d).1==29,()))) λC=>(C ((aP d).1==28,()))))
abbrev Pc:=nQ aj
def qc(d:aM):Option (Int×aM):=W.ae (nQ W d) λv1=>W.aG (λ(z2:S0)=>some (v1.1.2.1,z2)) λj=>W.af (v1.1.2.1==0) (j (U27 v1.2 (v1.1.1,(aP (aP v1)).2.2.2.2.2))) (j v1.2)
abbrev UJ:=qc aj
def E8(u:Int):Option jR:=W.aV (λ(y:S10) j=>W.af (decide (0<y.1)) (W.wg 2 (W.bc (y.2.1.length+((IntKind.u8.wrap (Int.tmod y.1 2))::[]).length) 1 (W.wg 2 (j (u64.wrap (Int.tdiv y.1 2),y.2.1++((IntKind.u8.wrap (Int.tmod y.1 2))::[]),()))))) (some (false,y.2))) (u,[],())
def HA(a b:List Int):Option (List Int):=W.aV (λ(j:S15) y=>W.aG (λ(z3:S23)=>W.aG (λ(z4:S10)=>W.aG (λ(z5:S10)=>W.wg 2 (W.bc (z5.2.1.length+((Int.tmod z5.1 2)::[]).length) 1 (W.wg 2 (y (IntKind.u8.wrap (Int.tdiv z5.1 2),i64.wrap (j.2.1+1),z5.2.1++((Int.tmod z5.1 2)::[]),()))))) λJ=>W.af (decide (j.2.1<(b.length:Int))) (W.aH b j.2.1 λR=>(J (IntKind.u8.wrap (z4.1+R),z4.2))) (J z4)) λH=>W.af (decide (j.2.1<(a.length:Int))) (W.aH a j.2.1 λK=>(H (IntKind.u8.wrap (j.1+K),z3))) (H (j.1,z3))) λF=>W.af (decide (j.2.1<(a.length:Int))) (F j.2.2) (W.af (decide (j.2.1<(b.length:Int))) (F j.2.2) (W.aG (λ(G:S23)=>some G.1) λC=>W.af (decide (0<j.1)) (W.bc (j.2.2.1.length+(j.1::[]).length) 1 (C (j.2.2.1++(j.1::[]),()))) (C j.2.2)))) (0,0,[],())
def Pe(n:Int):Option jR:=W.af (decide (0<=n)) (W.ae (E8 W (u64.wrap n)) λv1=>some v1) (W.ae (E8 W (u64.wrap (i64.wrap (0-(i64.wrap (n+1)))))) λv2=>W.ae (HA W v2.2.1 (1::[])) λv3=>some (true,v3,()))
def yt(neg:Bool)(b:List Int):Option jR:=W.aG (λ(y:Int×Unit)=>W.af neg (W.j5 y.1 b.length λH=>some (decide (0<y.1),b.take H,())) (W.j5 y.1 b.length λG=>some (false,b.take G,()))) λC=>W.aV (λ(z5:Int×Unit) j=>W.af (decide (0<z5.1)) (W.aH b (i64.wrap (z5.1-1)) λF=>W.af (F==0) (j (i64.wrap (z5.1-1),())) (C z5)) (C z5)) ((b.length:Int),())
def Qd(a b:List Int):Option Bool:=W.af ((a.length:Int) != (b.length:Int)) (some (decide ((a.length:Int)<(b.length:Int)))) (W.aV (λ(y:Int×Unit) j=>W.af (decide (0<y.1)) (W.aH a (i64.wrap (y.1-1)) λH=>W.aH b (i64.wrap (y.1-1)) λG=>W.af (H != G) (W.aH a (i64.wrap (y.1-1)) λF=>W.aH b (i64.wrap (y.1-1)) λC=>some (decide (F<C))) (j (i64.wrap (y.1-1),()))) (some false)) ((a.length:Int),()))
def E9(a b:List Int):Option (List Int):=W.aV (λ(j:S15) y=>W.af (decide (j.2.1<(a.length:Int))) (W.aG (λ(z3:S10)=>W.aH a j.2.1 λC=>W.aG (λ(z5:S10)=>W.wg 2 (W.bc (z5.2.1.length+((Int.tmod (IntKind.u8.wrap ((IntKind.u8.wrap (C+2))-z3.1)) 2)::[]).length) 1 (y (z5.1,i64.wrap (j.2.1+1),z5.2.1++((Int.tmod (IntKind.u8.wrap ((IntKind.u8.wrap (C+2))-z3.1)) 2)::[]),())))) λG=>W.af (decide ((IntKind.u8.wrap ((IntKind.u8.wrap (C+2))-z3.1))<2)) (G (1,z3.2)) (G (0,z3.2))) λF=>W.af (decide (j.2.1<(b.length:Int))) (W.aH b j.2.1 λH=>(F (IntKind.u8.wrap (j.1+H),j.2.2))) (F (j.1,j.2.2))) (some j.2.2.1)) (0,0,[],())
def KO(a b:jR):Option jR:=W.af (cX false (a.1==b.1)) (W.ae (HA W a.2.1 b.2.1) λv1=>W.ae (yt W a.1 v1) λv2=>some v2) (W.ae (Qd W a.2.1 b.2.1) λv3=>W.af v3 (W.ae (E9 W b.2.1 a.2.1) λv4=>W.ae (yt W b.1 v4) λv5=>some v5) (W.ae (E9 W a.2.1 b.2.1) λv6=>W.ae (yt W a.1 v6) λj=>some j))
def UT(a:jR):Option jR:=W.ae (yt W (!a.1) a.2.1) λv1=>some v1
def UU(a b:jR):Option jR:=W.ae (UT W b) λv1=>W.ae (KO W a v1) λv2=>some v2
def UW(a b:jR):Option Int:=W.ae (UU W a b) λv1=>W.af ((v1.2.1.length:Int)==0) (some 0) (W.af v1.1 (some (-1)) (some 1))
def KR(l:List cj)(inst:Int):Option bF:=W.aV (λ(y:S6) j=>W.af (decide (y.1<(l.length:Int))) (W.aH l y.1 λC=>W.ae (Hv W C.2.1 inst) λv4=>W.ae (je W v4) λv5=>W.bc (y.2.1.length+(v5::[]).length) 16 (j (i64.wrap (y.1+1),y.2.1++(v5::[]),()))) (W.ae (nq W y.2.1) λv6=>some v6.1)) (0,[],())
def gW(t0 l:List bF):Option (Unit×((List bF)×Unit)):=W.bc (t0.length+l.length) 16 (some ((),t0++l,()))
abbrev Dz:=gW aj
def iU(t0:List bF):Option (bF×((List bF)×Unit)):=W.ae (nq W t0) λv1=>some (v1.1,t0,())
abbrev wK:=iU aj
def FP(s:aU):Option Bool:=W.aV (λ(y:Int×Unit) j=>W.af (decide (y.1<=8)) (W.ae (KR W (c9 s).2.2.1 y.1) λv3=>W.ae (KR W (c9 s).2.2.2.1 y.1) λv4=>W.ae (gW W [] (v3::(v4::[]))) λv5=>W.ae (iU W v5.2.1) λv6=>W.af (cX true ((v6.1.1==0)&&(v6.1.2.1==0))) (some false) (j (i64.wrap (y.1+1),()))) (some true)) (1,())
def M6(l:List aZ):Option bF:=W.aV (λ(y:S6) j=>W.af (decide (y.1<(l.length:Int))) (W.aH l y.1 λC=>W.ae (je W C.2.1) λv4=>W.bc (y.2.1.length+(v4::[]).length) 16 (j (i64.wrap (y.1+1),y.2.1++(v4::[]),()))) (W.ae (nq W y.2.1) λv5=>some v5.1)) (0,[],())
def Ce(l:List Ar):Option (List Ar):=W.aV (λ(y:Int×List (bX×(Int×List (Int)×List dp×List dY×Unit)×Unit)×Unit) j=>W.af (decide (y.1<(l.length:Int))) (W.aG (λ(z3:List (bX×(Int×List (Int)×List dp×List dY×Unit)×Unit)×Unit)=>(j (i64.wrap (y.1+1),z3))) λF=>W.aH l y.1 λC=>W.af (C.2.1.1==0) (W.bc (y.2.1.length+(C::[]).length) 208 (F (y.2.1++(C::[]),()))) (F y.2)) (some y.2.1)) (0,[],())
abbrev acW:=Ce aj
def vu(t0 l:List bF):Option (Unit×((List bF)×Unit)):=W.aV (λ(y:S6) j=>W.af (decide (y.1<(l.length:Int))) (W.aH l y.1 λC=>W.ae (zR W C) λv4=>W.ae (gW W y.2.1 (v4.1::[])) λv5=>(j (i64.wrap (y.1+1),v5.2))) (some ((),y.2))) (0,t0,())
def Pf(l:List bu)(M7:Int):Option bF:=W.aV (λ(y:S6) j=>W.af (decide (y.1<(l.length:Int))) (W.aG (λ(z3:List ar×Unit)=>(j (i64.wrap (y.1+1),z3))) λF=>W.aH l y.1 λC=>W.af (C.1==M7) (W.ae (je W C.2.2.1) λv6=>W.bc (y.2.1.length+(v6::[]).length) 16 (F (y.2.1++(v6::[]),()))) (F y.2)) (W.ae (nq W y.2.1) λG=>some G.1)) (0,[],())
def Qe(r:dY)(M7:Int):Option bF:=W.af (M7==0) (W.ae (je W r.2.1) λv1=>some v1) (W.ae (Pf W r.2.2.1 M7) λv2=>some v2)
def Fa(l:List Ar)(M7:Int):Option bF:=W.ae (Ce W l) λv1=>W.aV (λ(z2:S13) C=>W.af (decide (z2.1<(v1.length:Int))) (W.aH z2.2.1 z2.1 λ_=>W.cr z2.2.1 (z2.1.toNat) λF=>W.aG (λ(V:List (bX×(Int×List (Int)×List dp×List dY×Unit)×Unit)×List ar×Unit)=>W.aV (λ(G:S13) y=>W.af (decide (G.1<(F.2.1.2.2.2.1.length:Int))) (W.aH F.2.1.2.2.2.1 G.1 λX=>W.ae (Qe W X M7) λv10=>W.ae (vu W G.2.2.1 (v10::[])) λv11=>(y (i64.wrap (G.1+1),G.2.1,v11.2))) (C (i64.wrap (z2.1+1),G.2))) (0,V)) λj=>W.af (F.1.2.2.2.2.2.2.1 != M7) (j z2.2) (W.af (F.1.1==17) (W.ae (je W F.1.2.2.2.2.2.2.2.2.2.1) λR=>W.ae (gW W z2.2.2.1 (R::[])) λK=>(j (z2.2.1,K.2))) (W.af (F.1.1==18) (W.ae (je W F.1.2.2.2.2.2.2.2.2.2.1) λJ=>W.ae (vu W z2.2.2.1 (J::[])) λH=>(j (z2.2.1,H.2))) (j z2.2)))) (W.ae (iU W z2.2.2.1) λv17=>some v17.1)) (0,v1,[],())
def Qf(l:List bp)(M7:Int):Option bF:=W.aV (λ(y:S6) j=>W.af (decide (y.1<(l.length:Int))) (W.aH l y.1 λC=>W.ae (Pf W C.2.1 M7) λv4=>W.bc (y.2.1.length+(v4::[]).length) 16 (j (i64.wrap (y.1+1),y.2.1++(v4::[]),()))) (W.ae (nq W y.2.1) λv5=>some v5.1)) (0,[],())
def M8(s:aU)(l:List Ar):Option Int:=W.aG (λ(F:Bool×Unit)=>W.af F.1 (some 3) (W.aV (λ(z2:Int×Unit) j=>W.af (decide (z2.1<=4)) (W.ae (Qf W (c9 s).2.2.2.2.2.1 z2.1) λv4=>W.ae (Fa W l z2.1) λv5=>W.af (cX true ((v4.1==v5.1)&&(v4.2.1==v5.2.1))) (some 3) (j (i64.wrap (z2.1+1),()))) (some 0)) (1,()))) λC=>W.ae (FP W s) λG=>W.af (!G) (C (true,())) (W.ae (M6 W (c9 s).2.2.2.2.1) λy=>W.ae (Fa W l 0) λv9=>(C (cX true ((y.1==v9.1)&&(y.2.1==v9.2.1)),())))
def Qg(hi lo:Int):Option jR:=W.ae (Pe W hi) λv1=>W.aG (λ(z2:S12)=>W.ae (E8 W lo) λv3=>W.ae (KO W z2 v3) λv4=>some v4) λC=>W.aV (λ(y:S9) j=>W.af (decide (y.1<64)) (W.af (decide (0<(y.2.2.1.length:Int))) (W.bc (0::[]).length 1 (W.bc ((0::[]).length+y.2.2.1.length) 1 (j (i64.wrap (y.1+1),y.2.1,(0::[])++y.2.2.1,())))) (C y.2)) (C y.2)) (0,v1)
def UX(w:bF):Option jR:=W.ae (Qg W w.1 w.2.1) λv1=>some v1
def EJ:Option Bool:=W.ae (M8 W (0,[],[],[],[],[],[],[],[],[],[],[],()) (((17,0,0,(0,0,()),(0,0,()),0,0,0,0,5,0,[],()),(0,[],[],[],()),())::(((18,0,0,(0,0,()),(0,0,()),0,0,0,0,2,0,[],()),(0,[],[],[],()),())::(((17,0,0,(0,0,()),(0,0,()),0,0,0,0,9,0,[],()),(3,[],[],[],()),())::[])))) λv1=>W.af (v1==3) (W.ae (Fa W (((17,0,0,(0,0,()),(0,0,()),0,0,0,0,5,0,[],()),(0,[],[],[],()),())::(((18,0,0,(0,0,()),(0,0,()),0,0,0,0,2,0,[],()),(0,[],[],[],()),())::(((17,0,0,(0,0,()),(0,0,()),0,0,0,0,9,0,[],()),(3,[],[],[],()),())::[]))) 0) λv2=>W.ae (UX W v2) λv3=>W.ae (Pe W 3) λv4=>W.ae (UW W v3 v4) λv5=>some (v5==0)) (some false)
def qq(l:List Ar):Option (List dp):=W.ae (Ce W l) λv1=>W.aV (λ(z2:Int×List (bX×(Int×List (Int)×List dp×List dY×Unit)×Unit)×List dp×Unit) j=>W.af (decide (z2.1<(v1.length:Int))) (W.aH z2.2.1 z2.1 λ_=>W.cr z2.2.1 (z2.1.toNat) λy=>W.bc (z2.2.2.1.length+y.2.1.2.2.1.length) 40 (j (i64.wrap (z2.1+1),z2.2.1,z2.2.2.1++y.2.1.2.2.1,()))) (some z2.2.2.1)) (0,v1,[],())
abbrev YQ:=qq aj
def xT(a:aN)(d:dp):Option Bool:=W.ae (oZ W a d.1) λv1=>W.af (!v1) (some false) (W.af (a.2.2.1==1) (some true) (W.af (a.2.2.1==2) (W.ae (oZ W a d.2.1) λv2=>some v2) (some false)))
abbrev acX:=xT aj
def KV(s:aU)(j:Int)(d:dp):Option Bool:=W.aG (λ(G:Bool×Unit)=>W.af G.1 (some false) (W.aG (λ(z2:Bool×Unit)=>W.af z2.1 (some true) (W.ae (sI W s.2.2.2.2.1 j) λv3=>W.aV (λ(z4:S22) y=>W.af (decide (z4.1<(v3.length:Int))) (W.aH z4.2.1 z4.1 λ_=>W.cr z4.2.1 (z4.1.toNat) λH=>W.ae (xT W H d) λJ=>W.af J (some true) (y (i64.wrap (z4.1+1),z4.2))) (some false)) (0,v3,()))) λF=>W.af (cX false ((d.1.1==d.2.1.1)&&(d.1.2.1==d.2.1.2.1))) (F (true,())) (F (cX false ((d.1.1==0)&&(d.1.2.1==0)),())))) λC=>W.af (decide (d.2.2.1<1)) (C (true,())) (W.ae (py W s.2.2.2.2.1 d.2.1) λv11=>(C (v11 != j,())))
abbrev ahX:=KV aj
def M9(_:Wd)(y j:Int)(d:dp):Option (Bool×(Int×Int×Unit)):=some (cX false ((d.2.1.1==y)&&(d.2.1.2.1==j)),y,j,())
def ik(C y:Int)(l:List Ar):Option (bF×(Int×Int×Unit)):=W.ae (qq W l) λv1=>W.aV (λ(z2:Int×Int×Int×List dp×List ar×Unit) j=>W.af (decide (z2.1<(v1.length:Int))) (W.aG (λ(z4:Int×Int×List dp×List ar×Unit)=>(j (i64.wrap (z2.1+1),z4))) λH=>W.aH z2.2.2.2.1 z2.1 λ_=>W.cr z2.2.2.2.1 (z2.1.toNat) λG=>W.ae (M9 W z2.2.1 z2.2.2.1 G) λF=>W.af F.1 (W.ae (je W G.2.2.1) λv9=>W.ae (gW W z2.2.2.2.2.1 (v9::[])) λv10=>(H (F.2.1,F.2.2.1,z2.2.2.2.1,v10.2))) (H (F.2.1,F.2.2.1,z2.2.2.2))) (W.ae (iU W z2.2.2.2.2.1) λv11=>some (v11.1,z2.2.1,z2.2.2.1,()))) (0,C,y,v1,[],())
abbrev BD:=ik aj
def As(l:List Ar)(u:ar):Option bF:=W.ae (ik W u.1 u.2.1 l) λv1=>some v1.1
abbrev ahY:=As aj
def Au(w:bF):Option Int:=W.ae (tN W w (0,0,())) λv1=>some v1
abbrev ahZ:=Au aj
def BV(s:aU)(C:Ar):Option Bool:=W.ae (qq W (C::[])) λv1=>W.aG (λ(z2:Bool×List dp×Unit)=>W.af z2.1 (some false) (W.aV (λ(z3:Int×List dp×Unit) j=>W.af (decide (z3.1<(z2.2.1.length:Int))) (W.aH z3.2.1 z3.1 λ_=>W.cr z3.2.1 (z3.1.toNat) λF=>W.ae (KV W s C.1.2.2.1 F) λJ=>W.af (!J) (some false) (W.ae (As W (C::[]) F.2.1) λH=>W.ae (km W (c9 s).2.2.2.2.1 F.2.1) λv9=>W.ae (je W v9) λv10=>W.ae (gW W [] (H::(v10::[]))) λv11=>W.ae (iU W v11.2.1) λv12=>W.ae (Au W v12.1) λG=>W.af (decide (0<G)) (some false) (j (i64.wrap (z3.1+1),z3.2)))) (some true)) (0,z2.2))) λy=>W.af (decide (0<(v1.length:Int))) (y (C.1.1 != 25,v1,())) (y (false,v1,()))
abbrev acY:=BV aj
end
section
abbrev Sg0:=M3 Unit
abbrev Sg1:=Int×M3 Unit
variable(W:Wd)
def lD(d:aM)(id:Int):Option ((List Int)×aM):=W.ae (sI W d.2.2.2.2.1 id) λv1=>W.aV (λ(z2:Int×List aN×List (Int)×Unit) C=>W.af (decide (z2.1<(v1.length:Int))) (W.aH z2.2.1 z2.1 λ_=>W.cr z2.2.1 (z2.1.toNat) λH=>W.ae (jq W H) λv6=>W.aV (λ(j:Int×List aN×List (Int)×List ar×Unit) y=>W.af (decide (j.1<(v6.length:Int))) (W.aH j.2.2.2.1 j.1 λ_=>W.cr j.2.2.2.1 (j.1.toNat) λF=>W.ae (Hm W (c9 d).2.1 F) λv11=>W.bc (j.2.2.1.length+v11.length) 8 (y (i64.wrap (j.1+1),j.2.1,j.2.2.1++v11,j.2.2.2))) (C (i64.wrap (z2.1+1),j.2.1,j.2.2.1,()))) (0,z2.2.1,z2.2.2.1,v6,())) (W.ae (YD z2.2.2.1) λv12=>W.ae (Th v12) λG=>some (G.1,d))) (0,v1,[],())
abbrev An:=lD aj
def kI(d:aM):Option (Int×aM):=W.ae (fX W d) λv1=>W.af (v1.1.2.1 != 0) (some (v1.1.2.1,v1.2)) (W.aG (λ(z2:Bool×Unit)=>W.af z2.1 (some (2,v1.2)) (W.ae (ym W v1.1.1 v1.2.1 (aP (aP v1)).1) λv3=>W.aG (λ(z4:Int×M3 (Int×Int×Int×Int×Int×Int×Int×Int×Int×Int×Int×Int×Int×List (Int)×Int×List (Int)×List dp×List dY×Unit))=>W.af (z4.1 != 0) (some z4) (W.ae (lD W z4.2 v3.1.1) λv5=>W.ae (rT W v5.2 v5.1 4) λv6=>some v6)) λy=>W.af (v3.2.1==0) (W.ae (kg W v1.2 v3.1) λC=>(y C)) (y (v3.2.1,v1.2)))) λj=>W.af (decide ((aP (aP v1)).1<0)) (j (true,())) (j (decide (16<(aP (aP v1)).1),())))
abbrev IW:=kI aj
def o5(d:aM):Option (Int×aM):=W.af ((aP d).1==19) (W.ae (nN W d) λv1=>some v1) (W.af ((aP d).1==20) (W.ae (lI W d) λv2=>some v2) (W.af ((aP d).1==21) (W.ae (kI W d) λv3=>some v3) (W.af ((aP d).1==22) (W.ae (xd W d) λv4=>some v4) (W.af ((aP d).1==23) (W.ae (j3 W d) λv5=>some v5) (W.af ((aP d).1==24) (W.ae (ka W d) λv6=>some v6) (W.ae (nw W d) λj=>some j))))))
abbrev QC:=o5 aj
def qb(d:aM):Option (Int×aM):=W.af (decide ((aP d).1<=6)) (W.ae (nL W d) λv1=>some v1) (W.af (decide ((aP d).1<=13)) (W.ae (nK W d) λv2=>some v2) (W.af (decide ((aP d).1<=18)) (W.ae (vt W d) λv3=>some v3) (W.af (decide ((aP d).1<=25)) (W.ae (o5 W d) λv4=>some v4) (W.ae (qc W d) λv5=>some v5))))
abbrev SS:=qb aj
def uL(j:aM)(e:Int):Option (Int×aM):=W.af (decide (0<(((Go.Vc.DV.fn 1000033 ((Go.Vc.DV.own 0 0)::[]))::((Go.Vc.DV.fn 1000034 ((Go.Vc.DV.own 0 0)::[]))::((Go.Vc.DV.fn 1000035 ((Go.Vc.DV.own 0 0)::[]))::[]))).length:Int))) (W.af (e != 0) (some (e,j)) (W.ae (mC W j) λv1=>W.af (decide ((i64.wrap (0+1))<(((Go.Vc.DV.fn 1000033 ((Go.Vc.DV.own 0 0)::[]))::((Go.Vc.DV.fn 1000034 ((Go.Vc.DV.own 0 0)::[]))::((Go.Vc.DV.fn 1000035 ((Go.Vc.DV.own 0 0)::[]))::[]))).length:Int))) (W.af (v1.1 != 0) (some v1) (W.ae (lG W v1.2) λv2=>W.af (decide ((i64.wrap ((i64.wrap (0+1))+1))<(((Go.Vc.DV.fn 1000033 ((Go.Vc.DV.own 0 0)::[]))::((Go.Vc.DV.fn 1000034 ((Go.Vc.DV.own 0 0)::[]))::((Go.Vc.DV.fn 1000035 ((Go.Vc.DV.own 0 0)::[]))::[]))).length:Int))) (W.af (v2.1 != 0) (some v2) (W.ae (qb W v2.2) λv3=>W.af (decide ((i64.wrap ((i64.wrap ((i64.wrap (0+1))+1))+1))<(((Go.Vc.DV.fn 1000033 ((Go.Vc.DV.own 0 0)::[]))::((Go.Vc.DV.fn 1000034 ((Go.Vc.DV.own 0 0)::[]))::((Go.Vc.DV.fn 1000035 ((Go.Vc.DV.own 0 0)::[]))::[]))).length:Int))) (none) (some v3))) (some v2))) (some v1))) (some (e,j))
abbrev PE:=uL aj
def uM(s:aU)(c:bX):Option (aU×Il×Unit):=W.ae (Ab W c) λv1=>W.ae (uL W (xp s (U3 c (c.2.2.2.1.1,c.2.2.2.1.2.1,c.2.2.2.2.1.1,c.2.2.2.2.1.2.1,U7 c.2.2.2.2.2 (0,[],[],[],())))) v1) λv2=>W.af (v2.1 != 0) (some (s,(v2.1,[],[],[],()),())) (some (xp v2.2 (),(aP (aP v2)).2.2.2,()))
abbrev GQ:=uM aj
def uN(l:List bX):Option Bool:=W.aG (λ(_:Sg0)=>W.ae (EJ W) λv2=>some v2) λF=>W.aV (λ(z4:Sg1) j=>W.af (decide (z4.1<(l.length:Int))) (W.af (decide (z4.1<90)) (W.aH l z4.1 λG=>W.ae (E5 W G) λC=>W.ae (uM W z4.2 C) λy=>W.ae (BV W z4.2 (C,y.2)) λv9=>W.af (!v9) (some false) (j (i64.wrap (z4.1+1),y.1))) (F z4.2)) (F z4.2)) (0,0,[],[],[],[],[],[],[],[],[],[],[],())
end
theorem ai{α β:Type}{o:Option α}{a:α}(h:o=some a)(K:α->Option β):aj.ae o K=K a:=by subst h;rfl
end Go.Proofs.YthghpahghjppjaaGreat


namespace Go.Proofs.YthghpahghjppjaaGreat
open Go Go.Vc Go.RowKit
open Go.IntKind (i64 u64)
def wv(w:bF):Int:=w.1*18446744073709551616+w.2.1
def EW(w:bF):Prop:=(-9223372036854775808<=w.1/\w.1<=9223372036854775807)/\(0<=w.2.1/\w.2.1<18446744073709551616)
def wide(z:Int):bF:=(z / 18446744073709551616,z % 18446744073709551616,())
def ec(z:Int):Prop := -170141183460469231731687303715884105728<=z/\z<170141183460469231731687303715884105728
instance (z:Int):Decidable (ec z):=by unfold ec;infer_instance
theorem tb(z):wv (wide z)=z:=by unfold wide wv;simp only;omega
theorem aqW(w)(h:EW w):wide (wv w)=w:=by
 have⟨hi,lo,⟨⟩⟩:=w;unfold EW at h;unfold wide wv;simp only at h ⊢;have y:(hi*18446744073709551616+lo) / 18446744073709551616=hi:=by omega
 have j:(hi*18446744073709551616+lo) % 18446744073709551616=lo:=by omega
 rw[y,j]
theorem anA(w)(h:EW w):ec (wv w):=by unfold EW at h;unfold ec wv;omega
theorem mT(z)(h:ec z):EW (wide z):=by unfold ec at h;unfold EW wide;simp only;omega
theorem an2{a b}(h:wide a=wide b):a=b:=by rw[<-tb a,h,tb]
theorem anB(n)(h : -9223372036854775808<=n/\n<=9223372036854775807):n.fdiv (2 ^ min (Int.toNat 63) i64.bits)=n / 18446744073709551616:=by
 have e:(2:Int) ^ min (Int.toNat 63) i64.bits=9223372036854775808:=by decide +kernel
 rw[e,eH _ (by omega)];omega
def fit(z:Int):bF×Int×Unit:=if ec z then(wide z,0,())else((0,0,()),7,())
def cz(n:Int):Prop := -9223372036854775808<=n/\n<=9223372036854775807
theorem uA{n}(h:cz n):ec n:=by unfold cz at h;unfold ec;omega
theorem Gm(n)(h:cz n):Yk n=some (wide n):=by show je aj n=_;unfold je;rw[uz,anB n h,cg];rfl
def J8(V:Int):Int×Int×Int×Unit:=(V / 340282366920938463463374607431768211456,i64.wrap (V / 18446744073709551616),V % 18446744073709551616,())
def yg(V:Int):Prop := -1569275433846670190958947355801916604025588861116008628224<=V/\V<1569275433846670190958947355801916604025588861116008628224
theorem abn(z):u64.wrap (i64.wrap z)=z % 18446744073709551616:=by rw[cg,dR];omega
theorem J4(z):i64.wrap (z % 18446744073709551616)=i64.wrap z:=by rw[dR,dR];omega
theorem anC(V x y)(C:yg V)(j : -9223372036854775808<=x/\x<=9223372036854775807)(Y:0<=y/\y<18446744073709551616):
 ((i64.wrap (V / 340282366920938463463374607431768211456+i64.wrap (x.fdiv (2 ^ min (Int.toNat 63) i64.bits)+i64.wrap ((u64.wrap (i64.wrap (V / 18446744073709551616))+u64.wrap x+(V % 18446744073709551616+y+0) / 18446744073709551616) / 18446744073709551616))),
  i64.wrap ((u64.wrap (i64.wrap (V / 18446744073709551616))+u64.wrap x+(V % 18446744073709551616+y+0) / 18446744073709551616) % 18446744073709551616),
  (V % 18446744073709551616+y+0) % 18446744073709551616,()):Int×Int×Int×Unit)=J8 (V+(x*18446744073709551616+y)):=by
 unfold yg at C;rw[abn,J4,anB x j,cg];have W:(V+(x*18446744073709551616+y)) / 18446744073709551616=V / 18446744073709551616+x+(V % 18446744073709551616+y+0) / 18446744073709551616:=by omega
 have X:(V+(x*18446744073709551616+y)) / 340282366920938463463374607431768211456=(V / 18446744073709551616+x+(V % 18446744073709551616+y+0) / 18446744073709551616) / 18446744073709551616:=by omega
 have R:V / 340282366920938463463374607431768211456=V / 18446744073709551616 / 18446744073709551616:=by omega
 unfold J8;rw[W,X,R];have hc:0<=(V % 18446744073709551616+y+0) / 18446744073709551616/\(V % 18446744073709551616+y+0) / 18446744073709551616<=1:=by omega
 generalize (V % 18446744073709551616+y+0) / 18446744073709551616=c at *;have hu : -92233720368547758080000000000000000000<=V / 18446744073709551616/\V / 18446744073709551616<92233720368547758080000000000000000000:=by omega
 generalize V / 18446744073709551616=u at *;have K:(V+(x*18446744073709551616+y)) % 18446744073709551616=(V % 18446744073709551616+y+0) % 18446744073709551616:=by omega
 rw[K];have g2:(u % 18446744073709551616+x % 18446744073709551616+c) / 18446744073709551616<=2/\0<=(u % 18446744073709551616+x % 18446744073709551616+c) / 18446744073709551616:=by omega
 have g1:i64.wrap ((u % 18446744073709551616+x % 18446744073709551616+c) / 18446744073709551616)=(u % 18446744073709551616+x % 18446744073709551616+c) / 18446744073709551616:=bG _ (by omega);rw[g1];have J:i64.wrap (x / 18446744073709551616+(u % 18446744073709551616+x % 18446744073709551616+c) / 18446744073709551616)=x / 18446744073709551616+(u % 18446744073709551616+x % 18446744073709551616+c) / 18446744073709551616:=bG _ (by omega);rw[J];have H:u / 18446744073709551616+(x / 18446744073709551616+(u % 18446744073709551616+x % 18446744073709551616+c) / 18446744073709551616)=(u+x+c) / 18446744073709551616:=by omega
 rw[H];have G:i64.wrap ((u+x+c) / 18446744073709551616)=(u+x+c) / 18446744073709551616:=bG _ (by omega);rw[G];have F:i64.wrap (u % 18446744073709551616+x % 18446744073709551616+c)=i64.wrap (u+x+c):=by rw[dR,dR];omega
 rw[F]
theorem Ug{x y c}(F:0<=x:=by omega)(C:0<=y:=by omega)(j:0<=c:=by omega)(G:c<=1:=by omega):Jj x y c=some ((x+y+c) % 18446744073709551616,(x+y+c) / 18446744073709551616,()):=by unfold Jj;rw[ah ⟨F,C,j,G⟩]
theorem MH{x y b}(G:0<=x:=by omega)(F:0<=y:=by omega)(j:y<18446744073709551616:=by omega)(C:0<=b:=by omega)(hb:b<=1:=by omega):G0 x y b=some ((x-y-b) % 18446744073709551616,if x<y+b then 1 else 0,()):=by unfold G0;rw[ah ⟨G,F,j,C,hb⟩]
theorem ZO(V:Int)(x:bF)(C:yg V)(j:EW x):AV (J8 V).1 (J8 V).2.1 (J8 V).2.2.1 x=some ((),J8 (V+wv x)):=by unfold EW at j;show jQ aj (V / 340282366920938463463374607431768211456) (i64.wrap (V / 18446744073709551616)) (V % 18446744073709551616) x=_;unfold jQ wv;rw[<-anC V x.1 x.2.1 C j.1 j.2];have y:=C;unfold yg at y;rw[ai (Ug),ai (Ug (by rw[cg];omega) (by rw[cg];omega) (by dsimp only;omega) (by dsimp only;omega)),uz]
theorem anD(V)(y:yg V):(V / 340282366920938463463374607431768211456==(i64.wrap (V / 18446744073709551616)).fdiv (2 ^ min (Int.toNat 63) i64.bits))=decide (ec V):=by
 have j : -9223372036854775808<=i64.wrap (V / 18446744073709551616)/\i64.wrap (V / 18446744073709551616)<=9223372036854775807:=by rw[dR];omega
 rw[anB _ j];unfold yg at y;by_cases h:ec V
 .rw[ap h];unfold ec at h;rw[bG _ (by omega)];first|(simp;done)|(simp;omega)|skip
 .rw[an h];unfold ec at h;rw[dR];simp;omega
theorem Uh(w)(ok):abo w ok=some (if ok=true then(w,0,())else((0,0,()),7,())):=by cases ok<;>rfl
theorem agG(V:Int)(j:yg V):QS (J8 V).1 (J8 V).2.1 (J8 V).2.2.1=some (fit V,J8 V):=by
 show mg aj _ _ _=_;unfold mg;rw[uz,ai (Uh _ _)];have:=anD V j;show some ((if(V / 340282366920938463463374607431768211456==(i64.wrap (V / 18446744073709551616)).fdiv (2 ^ min (Int.toNat 63) i64.bits))=true then _ else _),_)=_;rw[this];unfold fit;by_cases h:ec V
 .rw[ah (ap h),ah h];have e:i64.wrap (V / 18446744073709551616)=V / 18446744073709551616:=by unfold ec at h;exact bG _ (by omega)
  show some (((i64.wrap (V / 18446744073709551616),V % 18446744073709551616,()),0,()),_)=_;rw[e];rfl
 .rw[an h,ag (by simp),ag h]
def rE(l:List bF):Int:=(l.map wv).sum
theorem agI:∀(l:List bF),(∀w∈l,EW w) -> -(170141183460469231731687303715884105728*(l.length:Int))<=rE l/\rE l<=170141183460469231731687303715884105728*(l.length:Int)
 |[],_=>by simp[rE]
 |x::l,h=>by
  have C:=anA x (h x (by simp));have y:=agI l λw j=>h w (by simp[j])
  unfold ec at C;simp only[rE,bI,fG,aJ]at y ⊢;omega
theorem abp(l:List bF)(h:∀w∈l,EW w)(hl:l.length<9223372036854775807):yg (rE l):=by have:=agI l h;unfold yg;omega
theorem aaT(a b):rE (a++b)=rE a+rE b:=by unfold rE;simp
theorem aaU(a):rE [a]=wv a:=by unfold rE;simp
theorem aiL(l:List bF)(i:Nat)(h:i<l.length):rE (l.take (i+1))=rE (l.take i)+wv l[i]:=by rw[show l.take (i+1)=l.take i++[l[i]]by simp,aaT,aaU]
theorem NW(l:List bF)(h:∀w∈l,EW w)(hl:l.length<9223372036854775807):xK l=some (fit (rE l)):=by
 refine gQ (l:=l) (by omega) (λi s=>s=J8 (rE (l.take i))) (λ_ _=>some (fit (rE l))) (by simp[rE];rfl) ?_ ?_
 .rintro _ j rfl;rw[bs,dV,ai (agG _ (abp l h hl))]
 .rintro i hi _ rfl j C;rw[dx hi,bO hi,ai (ZO _ _ (abp _ (λw y=>h w (eJ y)) (by rw[bf];omega)) (h _ (aE hi)))];rw[cP i];exact C _ (by rw[aiL l i hi])
def oj(a b:U0'):Prop:=a.1<b.1\/(a.1=b.1/\a.2.1<b.2.1)
instance (a b:U0'):Decidable (oj a b):=by unfold oj;infer_instance
instance:DecidableEq U0':=inferInstanceAs (DecidableEq (Int×Int×Unit))
theorem aqQ{a b:U0'}(y:a.1=b.1)(j:a.2.1=b.2.1):a=b:=by have⟨F,a2,⟨⟩⟩:=a;have⟨b1,C,⟨⟩⟩:=b;simp only at y j;subst y j;rfl
theorem jv(a):¬oj a a:=by unfold oj;omega
theorem sy{a b c}(y:oj a b)(j:oj b c):oj a c:=by unfold oj at *;omega
theorem EF{a b:U0'}(y:¬oj a b)(j:¬oj b a):a=b:=by unfold oj at *;exact aqQ (by omega) (by omega)
theorem CW{a b}(y:oj a b)(j:oj b a):False:=jv a (sy y j)
abbrev jN(l:List U0'):Prop:=l.Pairwise oj
theorem agF:∀{l m:List U0'},jN l->jN m->(∀x,x∈l↔x∈m)->l=m
 |[],[],_,_,_=>rfl
 |[],b::m,_,_,h=>absurd ((h b).2 (by simp)) (by simp)
 |a::l,[],_,_,h=>absurd ((h a).1 (by simp)) (by simp)
 |a::l,b::m,hl,hm,h=>by
  have⟨G,J⟩:=bw.1 hl;have⟨F,H⟩:=bw.1 hm
  have y:a=b:=by
   rcases aB.1 ((h a).1 (by simp))with e|e
   .exact e
   .rcases aB.1 ((h b).2 (by simp))with C|C
    .exact C.symm
    .exact(CW (G b C) (F a e)).elim
  subst y;rw[agF J H λx=>?_];constructor
  .intro j;rcases aB.1 ((h x).1 (bd _ j))with rfl|e
   .exact(jv _ (G _ j)).elim
   .exact e
  .intro j;rcases aB.1 ((h x).2 (bd _ j))with rfl|e
   .exact(jv _ (F _ j)).elim
   .exact e
theorem J7(x y)(l:List U0'):IY x (y::l)=if oj x y then x::y::l else if x=y then y::l else y::IY x l:=by
 have e0:IY x (y::l)=bif decide (x.1<y.1)||(x.1==y.1&&decide (x.2.1<y.2.1))then x::y::l else bif x.1==y.1&&x.2.1==y.2.1 then y::l else y::IY x l:=rfl;have e1:(decide (x.1<y.1)||(x.1==y.1&&decide (x.2.1<y.2.1)))=decide (oj x y):=by rw[tn,bg];simp[oj]
 have e2:(x.1==y.1&&x.2.1==y.2.1)=decide (x=y):=by rw[tn];simp only[aD,gT,bg];exact⟨λh=>aqQ h.1 h.2,λh=>by rw[h];exact⟨rfl,rfl⟩⟩
 rw[e0,e1,e2];by_cases h1:oj x y
 .rw[ap h1,ah h1];rfl
 .rw[an h1,ag h1];by_cases h2:x=y
  .rw[ap h2,ah h2];rfl
  .rw[an h2,ag h2];rfl
theorem Uo(x u):∀(l:List U0'),u∈IY x l↔u=x\/u∈l
 |[]=>by simp[IY]
 |y::l=>by
  rw[J7];split
  .simp
  .split
   .rename_i h;subst h;simp
   .rw[aB,Uo x u l,aB];constructor
    .rintro(h|h|h)<;>simp[h]
    .rintro(h|h|h)<;>simp[h]
theorem abi(x):∀{l:List U0'},jN l->jN (IY x l)
 |[],_=>by simp[IY]
 |y::l,h=>by
  have⟨G,J⟩:=bw.1 h;rw[J7];split
  .rename_i j;exact bw.2 ⟨λz C=>(aB.1 C).elim (λe=>e▸j) λC=>sy j (G z C),h⟩
  .rename_i j;split
   .exact h
   .rename_i F;refine bw.2 ⟨λz C=>?_,abi x J⟩;rcases(Uo x z l).1 C with rfl|C
    .exact cZ λH=>F (EF j H)
    .exact G z C
theorem abj(x):∀(l:List U0'),(IY x l).length<=l.length+1
 |[]=>by simp[IY]
 |y::l=>by
  rw[J7];split
  .simp
  .split
   .simp
   .have:=abj x l;simp;omega
theorem II:∀(l:List F0') (ks:List U0'),jN ks->jN (l.foldl (λs x=>IY x.1 s) ks)/\(∀u,u∈l.foldl (λs x=>IY x.1 s) ks↔u∈ks\/∃x∈l,x.1=u)/\(l.foldl (λs x=>IY x.1 s) ks).length<=ks.length+l.length
 |[],ks,h=>⟨h,λu=>by simp,by simp⟩
 |y::l,ks,h=>by
  have⟨F,C,G⟩:=II l (IY y.1 ks) (abi _ h);refine⟨F,λu=>?_,?_⟩
  .rw[lu,C,Uo];constructor
   .rintro((h|h)|⟨x,j,h⟩)
    .exact .inr ⟨y,by simp,h.symm⟩
    .exact .inl h
    .exact .inr ⟨x,by simp[j],h⟩
   .rintro(h|⟨x,j,h⟩)
    .exact .inl (.inr h)
    .rcases aB.1 j with rfl|j
     .exact .inl (.inl h.symm)
     .exact .inr ⟨x,j,h⟩
  .rw[lu,aJ];have:=abj y.1 ks;omega
theorem Ic(l)(u):u∈lS l↔∃x∈l,x.1=u:=by have:=(II l [] .nil).2.1 u;simpa[lS]using this
theorem wG(l):jN (lS l):=(II l [] .nil).1
theorem Xy(l):(lS l).length<=l.length:=by simpa[lS]using(II l [] .nil).2.2
instance (z:Int):Decidable (cz z):=by unfold cz;infer_instance
def cW(z:Int):Int×Int×Unit:=if cz z then(z,0,())else(0,7,())
theorem Xr(c):cX true c=!c:=by cases c<;>rfl
theorem PG(c):cX false c=c:=by cases c<;>rfl
theorem JD{z}(_:ec z):MF (wide z)=some (cW z):=by
 show qu aj (wide z)=_;unfold qu;have F:i64.wrap (wide z).2.1=i64.wrap z:=J4 z;have C:cz (i64.wrap z):=by unfold cz;rw[dR];omega
 rw[F,ai (Gm _ C),Xr];unfold cW;by_cases j:cz z
 .have e:i64.wrap z=z:=by unfold cz at j;exact bG _ (by omega)
  rw[ah j,e,az (by simp)]
 .rw[ag j,aT ?_];rw[jH];cases y:((wide (i64.wrap z)).1==(wide z).1&&(wide (i64.wrap z)).2.1==(wide z).2.1)with
  |false=>rfl
  |true=>simp only[aD,gT]at y;have:=jg y.1 (jg y.2 rfl);exact absurd (an2 this▸C) j
theorem Dn{z}(h:ec z):JA (wide z) 0=some (cW z):=by show px aj (wide z) 0=_;unfold px;rw[az (by decide),ai (JD h)]
theorem auT{l:List Int}(h:∀x∈l,cz x) : -(9223372036854775808*(l.length:Int))<=l.sum/\l.sum<=9223372036854775808*(l.length:Int):=by have:=L8 (f:=λx:Int=>x) (B:=9223372036854775808) (l:=l) (λx j=>by have:=h x j;unfold cz at this;omega);simpa[cI]using this
theorem Oc(l:List Int):rE (l.map wide)=l.sum:=by unfold rE;rw[hJ];have:(wv ∘ wide)=id:=funext tb;rw[this,Cz]
theorem an3{l:List Int}(h:∀x∈l,cz x):∀w∈l.map wide,EW w:=by intro w y;obtain⟨x,j,rfl⟩:=aK.1 y;exact mT _ (uA (h x j))
theorem an4{l:List Int}(h:∀x∈l,cz x)(hl:l.length<=1000000):ec l.sum:=by have:=auT h;unfold ec;omega
theorem auU{l:List Int}(h:∀x∈l,cz x)(hl:l.length<=1000000):xK (l.map wide)=some (wide l.sum,0,()):=by rw[NW _ (an3 h) (by rw[aW];omega),Oc];unfold fit;rw[ah (an4 h hl)]
theorem tv{l:List Int}(h:∀x∈l,cz x)(hl:l.length<=1000000):H5 l=some (cW l.sum):=by
 show jE aj l=_;unfold jE;rw[uz,da (by simp;omega) (by simp;omega)];refine GU (N:=l.length) (by omega) (λi s=>s=((l.take i).map wide,())) (some (cW l.sum)) rfl ?_ ?_
 .rintro _ j rfl;rw[dV,bs,ai (auU h hl),ai (Dn (an4 h hl))]
 .rintro i hi _ rfl j y;rw[dx hi,bO hi,ai (Gm _ (h _ (aE hi))),cP i,da (by simp;omega) (by simp;omega)];refine y _ ?_;rw[ax hi,cw];rfl
theorem bz{X β:Type}{j:X->Option β}{f:(X->Option β)->Option β}{r:Option β}(h:∀k,k=j->f k=r):aj.aG j f=r:=h j rfl
theorem B4(a b:ar):OX a b=some (decide (oj a b)):=by
 show mB aj a b=_;unfold mB;by_cases h:a.1=b.1
 .rw[az (by simp[h])];congr 1;refine eA.2 ?_;unfold oj;omega
 .rw[aT (by simp[h])];congr 1;refine eA.2 ?_;unfold oj;omega
def abk(l:List aZ):Prop:=(∀x∈l,x.2.1≠0)/\jN (l.map (·.1))
instance (l:List aZ):Decidable (abk l):=by unfold abk jN;infer_instance
def wy(l:List aZ):Bool:=decide (abk l)
theorem an5{l:List aZ}{i:Nat}(hi:i<l.length)(h:l[i].2.1=0):wy l=false:=an λj=>j.1 _ (aE hi) h
theorem an6{l:List aZ}{i:Nat}(hi:i<l.length)(y:0<i)(h:¬oj (l[i-1]'(by omega)).1 l[i].1):wy l=false:=an λj=>h (by have:=bN.1 j.2 (i-1) i (by simp;omega) (by simpa using hi) (by omega);simpa using this)
theorem abl{l:List aZ}{i:Nat}(hi:i<l.length)(inv:abk (l.take i))(V:l[i].2.1≠0)(R:∀W:0<i,oj (l[i-1]'(by omega)).1 l[i].1):abk (l.take (i+1)):=by
 rw[ax hi];refine⟨λx j=>?_,?_⟩
 .rcases aQ.1 j with j|j
  .exact inv.1 x j
  .simp at j;rw[j];exact V
 .rw[cw];refine dF.2 ⟨inv.2,by simp,λa K b hb=>?_⟩;simp only[bI,pW,ay]at hb;subst hb;have⟨k,F,y⟩:=dC.1 K;have J:k<i:=by simp at F;omega
  have H:=R (by omega);by_cases C:k=i-1
  .subst C;rw[<-y];simpa using H
  .have G:=bN.1 inv.2 k (i-1) (by simpa using F) (by simp;omega) (by omega);rw[y]at G;refine sy G ?_;simpa using H
theorem aqR{l:List aZ}(h:abk (l.take l.length)):wy l=true:=by rw[bs]at h;exact ap h
theorem æ{l:List aZ}(hl:l.length<=1000000):Lv l=some (wy l):=by
 refine GU (N:=l.length) (by omega) (λi _=>abk (l.take i)) (some (wy l)) (by simp[abk]) ?_ ?_
 .rintro _ j h;rw[dV,aqR h]
 .rintro i hi _ inv j K;rw[dx hi,bO hi];refine bz λk J=>?_
  have G:k (true,())=some false:=by subst J;rfl
  have H:k (false,())=j (((i+1:Nat):Int),()):=by rw[<-cP i];subst J;rfl
  refine dM (λC=>?_) λC=>?_
  .rw[G,an5 hi C]
  .by_cases F:0<i
   .rw[eG (by omega),Hb i F (by rw[iE];omega),bO,ai (B4 _ _)];by_cases y:oj (l[i-1]'(by omega)).1 l[i].1
    .rw[ap y];exact H.trans (K _ (abl hi inv C λ_=>y))
    .rw[an y,an6 hi F y];exact G
   .rw[cV (by omega)];exact H.trans (K _ (abl hi inv C λh=>absurd h F))
theorem eqA(a b:ar):(a.1==b.1&&a.2.1==b.2.1)=decide (a=b):=by
 by_cases h:a=b
 .subst h;simp
 .rw[an h];cases j:(a.1==b.1&&a.2.1==b.2.1)with
  |false=>rfl
  |true=>simp only[aD,gT]at j;exact absurd (aqQ j.1 j.2) h
def dr:List aZ->ar->Int
 |[],_=>0
 |x::l,u=>if x.1=u then x.2.1 else dr l u
theorem Gl{l}{u:ar}(hl:l.length<=1000000):nl l u=some (dr l u):=by
 refine gQ (l:=l) (by omega) (λ_ _=>True) (λl _=>some (dr l u)) trivial ?_ ?_
 .rintro _ j _;rw[dV];rfl
 .rintro i hi _ _ j y;rw[dx hi,bO hi,PG,eqA];unfold dr;refine de (λh=>?_) λh=>?_
  .rw[ah h]
  .rw[ag h,cP i];exact y _ trivial
def xt(x:aZ):Int:=x.2.1
def ta(l:List aZ):Prop:=∀x∈l,cz (xt x)
theorem uD{X β}{N}(J:N<9223372036854775808){f}(st:Nat->X)(r:Option β){z0:X}(G:z0=st 0)
 (C:∀j:X->Option β,f (st N) j=r) (y:∀i,i<N->∀j:X->Option β,j (st (i+1))=r->f (st i) j=r):aj.aV f z0=r:=by
 subst G
 have key:∀n i,i<=N->N-i<n->xW n f (st i)=r:=by
  intro n;induction n with
  |zero=>intro i _ h;omega
  |succ n F=>
   intro i hi H;by_cases h:i<N
   .exact y i h _ (F (i+1) (by omega) (by omega))
   .have:i=N:=by omega
    subst this;exact C _
 exact key FU 0 (br _) (by rw[PQ];omega)
theorem auY{β:Type}[qT β]{l:List KU}{K:KU->Option β}{N:Option β}{r:β}(h0:l=[]->N=some r)(h1:∀y∈l,K y=some r):aj.Mh l K N=some r:=by
 cases l with
 |nil=>exact h0 rfl
 |cons x l=>
  show l.foldl (λr y=>FF r (K y)) (K x)=some r;rw[h1 x (by simp)]
  have key:∀l:List KU,(∀y∈l,K y=some r)->l.foldl (λr y=>FF r (K y)) (some r)=some r:=by
   intro l;induction l with
   |nil=>intro _;rfl
   |cons y l j=>intro h;rw[lu,h y (by simp),RK];exact j λz C=>h z (by simp[C])
  exact key l λy F=>h1 y (by simp[F])
theorem CX{α:Type}:∀{l m:List α},l.Nodup->(∀x∈l,x∈m)->l.length<=m.length
 |[],m,_,_=>by simp
 |a::l,m,h,hs=>by
  obtain⟨G,F,rfl⟩:=List.append_of_mem (hs a (by simp));have C:=dK.1 h
  have:l.length<=(G++F).length:=CX C.2 λx y=>by
   have:=hs x (by simp[y]);simp only[aQ,aB]at this ⊢;rcases this with j|rfl|j
   .exact .inl j
   .exact absurd y C.1
   .exact .inr j
  simp at this ⊢;omega
def Jm(l:List aZ):List KU:=l.foldl (λs x=>QK s x.1) []
theorem aiM(l:List aZ)(i:Nat)(h:i<l.length):Jm (l.take (i+1))=QK (Jm (l.take i)) l[i].1:=by unfold Jm;rw[ax h,CF];rfl
theorem adZ(ks)(x):QK ks x=if x∈ks then ks else ks++[x]:=by
 unfold QK;by_cases h:x∈ks
 .rw[uQ.2 h,ah h];rfl
 .have:N1 x ks=false:=by
   cases hm:N1 x ks with
   |true=>exact absurd (uQ.1 hm) h
   |false=>rfl
  rw[this,ag h];rfl
theorem Hj:∀(l:List aZ) (ks:List KU),ks.Nodup->(l.foldl (λs x=>QK s x.1) ks).Nodup/\(∀u,u∈l.foldl (λs x=>QK s x.1) ks↔u∈ks\/∃x∈l,x.1=u)/\(l.foldl (λs x=>QK s x.1) ks).length<=ks.length+l.length
 |[],ks,h=>⟨h,λu=>by simp,by simp⟩
 |y::l,ks,h=>by
  rw[lu,adZ];by_cases C:y.1∈ks
  .rw[ah C];have⟨G,F,H⟩:=Hj l ks h;refine⟨G,λu=>?_,by simp;omega⟩;rw[F];constructor
   .rintro(h|⟨x,j,h⟩)
    .exact .inl h
    .exact .inr ⟨x,by simp[j],h⟩
   .rintro(h|⟨x,j,h⟩)
    .exact .inl h
    .rcases aB.1 j with rfl|j
     .exact .inl (h▸C)
     .exact .inr ⟨x,j,h⟩
  .rw[ag C];have⟨G,F,H⟩:=Hj l (ks++[y.1]) (oe.2 ⟨h,by simp,λa J b hb=>by simp at hb;subst hb;rintro rfl;exact C J⟩);refine⟨G,λu=>?_,by simp at H ⊢;omega⟩;rw[F];constructor
   .rintro(h|⟨x,j,h⟩)
    .rcases aQ.1 h with h|h
     .exact .inl h
     .simp at h;exact .inr ⟨y,by simp,h.symm⟩
    .exact .inr ⟨x,by simp[j],h⟩
   .rintro(h|⟨x,j,h⟩)
    .exact .inl (by simp[h])
    .rcases aB.1 j with rfl|j
     .exact .inl (by simp[h])
     .exact .inr ⟨x,j,h⟩
theorem anE(l:List aZ)(u:KU):u∈Jm l↔∃x∈l,x.1=u:=by have:=(Hj l [] .nil).2.1 u;simpa[Jm]using this
theorem aqX(l:List aZ):(Jm l).Nodup:=(Hj l [] .nil).1
theorem anF(l:List aZ):(Jm l).length<=l.length:=by simpa[Jm]using(Hj l [] .nil).2.2
theorem aea{l:List aZ}{j:List KU}(y:j.Nodup)(hm:∀u,u∈j↔∃x∈l,x.1=u):Y0 j=lS l:=by
 refine agF ?_ (wG l) λu=>?_
 .have G:=(DE j).nodup_iff.2 y;refine vD (λ{a b} h=>?_) ((Tj j).and G);have⟨F,C⟩:=h;simp only[ω,fQ,aD,bg,gT]at F;unfold oj;by_cases J:a.1=b.1
  .have:a.2.1≠b.2.1:=λH=>C (aqQ J H)
   omega
  .omega
 .rw[(DE j).mem_iff,hm,Ic]
theorem aqT{l:List aZ}(hl:l.length<=1000000):abq l=some (lS l):=by
 show zr aj l=_;refine GU (N:=l.length) (by omega) (λi s=>s=(Jm (l.take i),())) (some (lS l)) rfl ?_ ?_
 .rintro _ again rfl;rw[dV,bs];have hk:=anF l;have hn:=aqX l;have hm:=anE l;generalize Jm l=ks at hk hn hm ⊢;refine iI (λz=>ks.length+1-z.2.1.length) (λz=>∃j,z=((ks,j,()),j,())/\j.Nodup/\∀x∈j,x∈ks) (λ_=>some (lS l)) ⟨[],rfl,.nil,by simp⟩ (by omega) ?_;rintro _ ⟨j,rfl,hdn,BE⟩ again R;refine bz λk J=>?_
  have X:PR ks j=[]->k (false,(ks,j,()),j,())=some (lS l):=by
   intro he;have K:∀u,u∈j↔∃x∈l,x.1=u:=λu=>by rw[<-hm];refine⟨BE u,λhu=>?_⟩;have:=vC.1 he u hu;simpa[uQ]using this
   subst J;show aj.af false _ (aj.ae (Az j) _)=_;have hld:=CX hdn BE;have e:Az j=some (Y0 j):=by unfold Az;rw[show Nat.blt j.length 4611686018427387904=true from gU (by omega)];rfl
   rw[az rfl,ai e,aea hdn K]
  have W:∀y∈PR ks j,k (true,(ks,j++[y],()),j,())=some (lS l):=by
   intro y Y;have⟨V,F⟩:=aI.1 Y;have F:y∉j:=λh=>by rw[uQ.2 h]at F;cases F
   have H:(j++[y]).Nodup:=oe.2 ⟨hdn,by simp,λa R b hb=>by simp at hb;subst hb;rintro rfl;exact F R⟩
   have C:∀x∈j++[y],x∈ks:=λx G=>by
    rcases aQ.1 G with G|G
    .exact BE x G
    .simp at G;exact G▸V
   have hlen:=CX H C;rw[aq]at hlen;have:=R ((ks,j++[y],()),j++[y],()) ⟨j++[y],rfl,H,C⟩ (by rw[aq];simp only[aJ,eV];omega);subst J;refine Vq rfl ?_;rw[show((j++[y]).length:Int)-1=((j.length:Nat):Int)by rw[aq];simp,bO (by simp)];have ey:(j++[y])[j.length]'(by simp)=y:=by simp
   rw[ey,da (by simp;omega) (by simp;omega)];exact this
  exact auY X W
 .rintro i hi _ rfl again R;rw[dx hi,bO hi];rw[cP i];exact R _ (by rw[aiM l i hi])
theorem an7{ll:List (List aZ)}(J:ll.length<=1000)(H:ll.flatten.length<=1000000):o9 ll=some ll.flatten:=by
 show ga aj ll=_;unfold ga
 have G:∀i,(ll.take i).flatten.length<=1000000:=λi=>by
  have:ll.flatten=(ll.take i).flatten++(ll.drop i).flatten:=by rw[<-List.flatten_append,mX]
  rw[this,aq]at H;omega
 have C:∀i (h:i<ll.length),(ll.take (i+1)).flatten=(ll.take i).flatten++ll[i]:=λi h=>by rw[ax h,List.flatten_append];simp
 refine uD (N:=ll.length) (by omega) (λi=>((((ll.take i).flatten.length:Nat):Int),((i:Nat):Int),())) (some ll.flatten) rfl ?_ ?_
 .intro y;refine F8 ?_;rw[bs];have e:PI [] (ll.flatten.length:Int)=some ([],()):=by unfold PI;rw[show(decide (0<=(ll.flatten.length:Int))&&decide (((([]:List F0').length:Int)+(ll.flatten.length:Int))*24<=140737488355328))=true by rw[aD,bg,bg];simp only[eV];omega];rfl
  rw[ai e];refine uD (N:=ll.length) (by omega) (λi=>(((i:Nat):Int),(ll.take i).flatten,())) (some ll.flatten) rfl ?_ ?_
  .intro j;refine F8 ?_;rw[bs]
  .intro i hi j F;show aj.af (decide ((i:Int)<(ll.length:Int))) (aj.aH ll (i:Int) _) _=_;rw[dx hi,bO hi];have:=G (i+1);rw[C i hi,aq]at this;show aj.bc ((ll.take i).flatten.length+ll[i].length) 24 (j (i64.wrap ((i:Int)+1),(ll.take i).flatten++ll[i],()))=_;rw[da,cP i,<-C i hi];exact F
 .intro i hi y F;show aj.af (decide ((i:Int)<(ll.length:Int))) (aj.aH ll (i:Int) _) _=_;rw[dx hi,bO hi];have:=G (i+1);rw[C i hi,aq]at this;have e:i64.wrap ((((ll.take i).flatten.length:Nat):Int)+(ll[i].length:Int))=(((ll.take (i+1)).flatten.length:Nat):Int):=by rw[C i hi,aq,dR];omega
  show aj.af (decide (i64.wrap ((((ll.take i).flatten.length:Nat):Int)+(ll[i].length:Int))<0)) _ (y (i64.wrap ((((ll.take i).flatten.length:Nat):Int)+(ll[i].length:Int)),i64.wrap ((i:Int)+1),()))=_;rw[e,cV (by omega),cP i];exact F
def adX(u:ar)(x:aZ):Bool:=decide (x.1=u)
def OY(l:List aZ)(u:ar):List Int:=(l.filter (adX u)).map xt
def me(l:List aZ)(u:ar):Int:=(OY l u).sum
theorem abm(l)(u):(OY l u).length<=l.length:=by unfold OY;rw[aW];exact cp _ _
theorem aqS{l}(h:ta l)(u):∀x∈OY l u,cz x:=by intro x C;obtain⟨y,j,rfl⟩:=aK.1 C;exact h y (aI.1 j).1
theorem Xz(l:List aZ)(u:ar)(i:Nat)(h:i<l.length):OY (l.take (i+1)) u=OY (l.take i) u++(if l[i].1=u then[l[i].2.1]else[]):=by unfold OY;rw[P1 _ _ _ h,cw];unfold adX;by_cases j:l[i].1=u<;>simp[j,xt]
theorem aiI{l:List aZ}{u:ar}(hl:l.length<=1000000):VH l u=some (OY l u):=by
 refine GU (N:=l.length) (by omega) (λi s=>s=(OY (l.take i) u,())) (some (OY l u)) rfl ?_ ?_
 .rintro _ j rfl;rw[dV,bs]
 .rintro i hi _ rfl j F;rw[dx hi];refine bz λk G=>?_
  have C:∀v:List Int,k (v,())=j (((i+1:Nat):Int),v,()):=by intro v;rw[<-cP i];subst G;rfl
  have y:=abm (l.take i) u;rw[bf]at y;rw[bO hi,PG,eqA];refine de (λh=>?_) λh=>?_
  .rw[da (by simp;omega) (by simp;omega),C];refine F _ ?_;rw[Xz _ _ _ hi,ah h]
  .rw[C];refine F _ ?_;rw[Xz _ _ _ hi,ag h,bZ]
def AU(all:List aZ):List ar->List aZ->List aZ×Int×Unit
 |[],acc=>(acc,0,())
 |u::us,acc=>if cz (me all u)then(if me all u≠0 then AU all us (acc++[(u,me all u,())])else AU all us acc)else([],7,())
def qw(l fl:List aZ):List aZ×Int×Unit:=if wy l=true then AU (l++fl) (lS (l++fl)) []else([],3,())
theorem aaY{l fl}(h:ta l)(hf:ta fl)(hl:l.length+fl.length<=1000000):zQ l fl=some (qw l fl):=by
 show rf aj l fl=_;unfold rf qw;rw[ai (æ (by omega))];by_cases R:wy l=true
 .rw[R,az (by decide),ah rfl];have H:ta (l++fl):=λx hx=>(aQ.1 hx).elim (h x) (hf x)
  have e1:o9 (l::(fl::[]))=some (l++fl):=by have:=an7 (ll:=l::(fl::[])) (by simp) (by simp;omega);rw[this];simp
  have y:(l++fl).length<=1000000:=by rw[aq];exact hl
  have e2:=aqT y;rw[ai e1,ai e2];have hul:=Xy (l++fl);generalize l++fl=all at *;generalize lS all=us at *;refine gQ (l:=us) (by omega) (λi (s:List aZ×List ar×List aZ×Unit)=>s.1=all/\s.2.1=us/\s.2.2.1.length<=i) (λus' (s:List aZ×List ar×List aZ×Unit)=>some (AU all us' s.2.2.1)) ⟨rfl,rfl,au _⟩ ?_ ?_
  .rintro⟨_,_,acc,⟨⟩⟩ C ⟨rfl,rfl,_⟩;rw[dV];rfl
  .rintro i hi ⟨j,us',acc,⟨⟩⟩ ⟨G,F,J⟩ C Y;have F:=F.symm;subst F;have G:=G;subst G;simp only at J;rw[dx hi];refine bz λk hk=>?_
   have X:∀v:List aZ,k (j,us,v,())=C (((i+1:Nat):Int),j,us,v,()):=by intro v;rw[<-cP i];subst hk;rfl
   refine tix hi ?_;refine tnt hi ?_;rw[ai (aiI y)];show _=some (AU j (us[i]::us.drop (i+1)) acc);rw[AU];have K:=tv (aqS H us[i]) (cn (abm _ _) y);change H5 (OY j us[i])=some (if cz (me j us[i])then(me j us[i],0,())else(0,7,()))at K;by_cases V:cz (me j us[i])
   .rw[ah V]at K;rw[ah V,ai K];show aj.af ((0:Int) != 0) _ (aj.af (me j us[i] != 0) (aj.bc (acc.length+1) 24 (k (j,us,acc++[(us[i],me j us[i],())],()))) (k (j,us,acc,())))=_;rw[az (by decide)];by_cases W:me j us[i]=0
    .rw[ag (by simp[W]),az (by simp[W])];exact(X acc).trans (Y _ ⟨rfl,rfl,by simp only;omega⟩)
    .rw[ah W,aT (by simp[W]),da];exact(X (acc++[(us[i],me j us[i],())])).trans (Y _ ⟨rfl,rfl,by simp;omega⟩)
   .rw[ag V]at K;rw[ag V,ai K];exact Vq rfl rfl
 .have R:wy l=false:=by simpa using R
  rw[R,aT (by decide),ag (by simp)]
theorem axf(a)(h : -9223372036854775808<=a/\a<=9223372036854775807):bits .xor .i64 (-1) a = -1-a:=by
 have j:BitVec.ofInt 64 (-1)=BitVec.allOnes 64:=by decide
 show i64.wrap (((BitVec.ofInt 64 (-1) ^^^ BitVec.ofInt 64 a).toNat:Nat):Int)=_;rw[j,BitVec.allOnes_xor,xo,mP,dR];have:(2:Int) ^ 64=18446744073709551616:=by decide
 omega
theorem axg(a)(h:0<=a/\a<18446744073709551616):bits .xor .u64 18446744073709551615 a=18446744073709551615-a:=by
 have j:BitVec.ofInt 64 18446744073709551615=BitVec.allOnes 64:=by decide
 show u64.wrap (((BitVec.ofInt 64 18446744073709551615 ^^^ BitVec.ofInt 64 a).toNat:Nat):Int)=_;rw[j,BitVec.allOnes_xor,xo,mP,cg];have:(2:Int) ^ 64=18446744073709551616:=by decide
 omega
theorem auV{a b}(G:ec a)(hb:ec b):an8 (wide a) (wide b)=some (fit (a-b)):=by
 show DY aj (wide a) (wide b)=_;unfold DY;have y:=G;have j:=hb;unfold ec at y j;have t0:yg 0:=by unfold yg;omega
 have J:yg a:=by unfold yg;omega
 have H:yg (a+(-b-1)):=by unfold yg;omega
 have t3:yg (a-b):=by unfold yg;omega
 have K:AV 0 0 0 (wide a)=some ((),J8 a):=by have:=ZO 0 (wide a) t0 (mT a G);rw[tb,r']at this;exact this
 rw[ai K]
 have R:(bits .xor .i64 (if true=true then(-1)else(if true=true then((2 ^ ((IntKind.bits .i64)-1))-1)else((2 ^ (IntKind.bits .i64))-1))) (wide b).1,bits .xor .u64 (if false=true then(-1)else(if false=true then((2 ^ ((IntKind.bits .u64)-1))-1)else((2 ^ (IntKind.bits .u64))-1))) (wide b).2.1,())=wide (-b-1):=by
  have c1:(if false=true then(-1:Int)else(if false=true then((2 ^ ((IntKind.bits .u64)-1))-1)else((2 ^ (IntKind.bits .u64))-1)))=18446744073709551615:=by decide
  rw[c1,ah rfl];unfold wide;dsimp only;rw[axf _ (by omega),axg _ (by omega)];refine jg ?_ (jg ?_ rfl)
  .omega
  .dsimp only;omega
 have F:=ZO a (wide (-b-1)) J (mT _ (by unfold ec;omega));rw[tb]at F;show aj.ae (AV (J8 a).1 (J8 a).2.1 (J8 a).2.2.1 _) _=_;rw[R,ai F,ai (Gm 1 (by unfold cz;omega))];have C:=ZO (a+(-b-1)) (wide 1) H (mT _ (by unfold ec;omega));rw[tb,show a+(-b-1)+1=a-b by omega]at C;refine vY C ?_;exact vY (agG _ t3) rfl
theorem Jv{a b}(j:cz a)(hb:cz b):ZH a b=some (cW (a-b)):=by
 show yh aj a b=_;unfold yh;have y:ec (a-b):=by unfold cz at j hb;unfold ec;omega
 have e:fit (a-b)=(wide (a-b),0,()):=ah y;rw[ai (Gm a j),ai (Gm b hb),ai (auV (uA j) (uA hb)),e];exact vY (Dn y) rfl
def ig(l:List aZ)(f t:ar)(n:Int):List aZ×Int×Unit:=if cz (-n)then qw l [(f,-n,()),(t,n,())]else if wy l=true then([],7,())else([],3,())
theorem NO{l}{f t}{n}(h:ta l)(F:cz n)(hl:l.length<=900000):qV l f t n=some (ig l f t n):=by
 show l7 aj l f t n=_;unfold l7 ig;have e:=Jv (a:=0) (b:=n) (by unfold cz;omega) F;rw[zC]at e;unfold cW at e;by_cases j:cz (-n)
 .rw[ah j]at e;rw[ah j,ai e];refine bz λk G=>?_
  show aj.af ((0:Int) != 0) _ _=_;rw[az (by decide)];subst G;show aj.af false _ (aj.ae (zQ l [(f,-n,()),(t,n,())]) _)=_
  rw[az rfl,ai (aaY h (by
   intro x y;simp only[aB,dD,kO]at y;rcases y with rfl|rfl
   .exact j
   .exact F) (by simp;omega))]
 .rw[ag j]at e;rw[ag j,ai e];refine bz λk G=>?_
  refine Vq rfl ?_;rw[ai (æ (by omega))];subst G;by_cases C:wy l=true
  .rw[C,ah rfl];rfl
  .have C:wy l=false:=by simpa using C
   rw[C,ag (by simp)];show aj.af false _ (aj.ae (zQ l _) _)=_;unfold cz at j F;have H:n = -9223372036854775808:=by omega
   rw[az rfl,ai (aaY h (by
    intro x y;simp only[aB,dD,kO]at y;rcases y with rfl|rfl
    .show cz 0;unfold cz;omega
    .show cz n;unfold cz;omega) (by simp;omega))]
   unfold qw;rw[C,ag (by simp)]
theorem OZ(all):∀(us:List ar) (acc:List aZ),(AU all us acc).1.length<=acc.length+us.length
 |[],acc=>by simp[AU]
 |u::us,acc=>by
  unfold AU;split
  .split
   .have:=OZ all us (acc++[(u,me all u,())]);simp at this ⊢;omega
   .have:=OZ all us acc;simp at this ⊢;omega
  .simp
theorem Sh(l f):(qw l f).1.length<=l.length+f.length:=by
 unfold qw;split
 .have:=OZ (l++f) (lS (l++f)) [];have j:=Xy (l++f);simp at this j ⊢;omega
 .simp
theorem aqU{X β}{N}(H:N<9223372036854775808){f:X->(X->Option β)->Option β}(st:Nat->X)(r:Option β)
 (C:∀j:X->Option β,f (st N) j=r) (y:∀i,i<N->∀j:X->Option β,j (st (i+1))=r->f (st i) j=r):aj.aV f (st 0)=r:=by
 have key:∀n i,i<=N->N-i<n->xW n f (st i)=r:=by
  intro n;induction n with
  |zero=>intro i _ h;omega
  |succ n F=>
   intro i hi G;by_cases h:i<N
   .exact y i h _ (F (i+1) (by omega) (by omega))
   .have:i=N:=by omega
    subst this;exact C _
 exact key FU 0 (br _) (by rw[PQ];omega)
theorem lQ{X β}{N}(G:N<9223372036854775808){f}(st:Nat->X)(r:Option β){z0:X}(F:z0=st 0)
 (C:∀j:X->Option β,f (st N) j=r) (y:∀i,i<N->∀j:X->Option β,j (st (i+1))=r->f (st i) j=r):aj.aV f z0=r:=by
 subst F;exact aqU G st r C y
end Go.Proofs.YthghpahghjppjaaGreat