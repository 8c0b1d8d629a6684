import Derived.Test.YthghpahghjppjaaGreatB3
namespace Go.Proofs.YthghpahghjppjaaGreat
open Go Go.Vc Go.RowKit Lot Ay Az AA AB AD
open Go.IntKind (i64 u64)
set_option maxRecDepth 100000
set_option synthInstance.maxSize 100000
set_option synthInstance.maxHeartbeats 0
set_option maxHeartbeats 8000000
section
@[reducible] def bd:DT:=(.pair (.int .i64) (.pair (.int .i64) .unit))
abbrev ar:=Int×Int×Unit
@[reducible] def eX:DT:=(.pair bd (.pair (.slc bd) .unit))
abbrev bC:=ar×(List ar)×Unit
@[reducible] def dI:DT:=(.pair (.int .i64) (.pair (.int .i64) (.pair (.int .i64) .unit)))
abbrev bf:=Int×Int×Int×Unit
abbrev gT:=bf
@[reducible] def ez:DT:=(.pair (.int .i64) (.pair (.int .i64) (.pair (.int .i64) (.pair (.int .i64) (.pair (.slc (.int .i64)) .unit)))))
abbrev bF:=Int×Int×Int×Int×(List Int)×Unit
@[reducible] def bJ:DT:=(.pair (.int .i64) (.pair (.int .i64) (.pair (.int .i64) (.pair (.slc (.int .i64)) .unit))))
abbrev aD:=Int×Int×Int×(List Int)×Unit
@[reducible] def dj:DT:=(.pair bd (.pair bd (.pair .bool .unit)))
abbrev bz:=ar×ar×Bool×Unit
@[reducible] def e7:DT:=(.pair bd (.pair (.int .i64) .unit))
abbrev aR:=ar×Int×Unit
@[reducible] def j5:DT:=(.pair (.int .i64) (.pair (.int .i64) (.pair (.int .i64) (.pair bd (.pair bd (.pair (.int .i64) (.pair (.int .i64) (.pair (.int .i64) (.pair (.int .i64) (.pair (.int .i64) (.pair (.int .i64) (.pair (.slc (.int .i64)) .unit))))))))))))
abbrev cm:=Int×Int×Int×ar×ar×Int×Int×Int×Int×Int×Int×(List Int)×Unit
@[reducible] def cE:DT:=(.pair (.int .i64) (.pair (.int .i64) (.pair (.int .i64) (.pair (.int .i64) .unit))))
abbrev aW:=Int×Int×Int×Int×Unit
@[reducible] def ff:DT:=(.pair (.int .i64) (.pair bd (.pair (.int .i64) (.pair (.int .i64) (.pair (.int .i64) .unit)))))
abbrev bP:=Int×ar×Int×Int×Int×Unit
@[reducible] def fX:DT:=(.pair (.int .i64) (.pair bd (.pair bd (.pair bd (.pair (.int .i64) (.pair (.int .i64) (.pair (.int .i64) (.pair (.int .i64) .unit))))))))
abbrev bZ:=Int×ar×ar×ar×Int×Int×Int×Int×Unit
@[reducible] def fz:DT:=(.pair bd (.pair (.slc dI) .unit))
abbrev bg:=ar×(List bf)×Unit
@[reducible] def ei:DT:=(.pair (.int .i64) (.pair (.slc cE) (.pair (.slc ez) (.pair (.slc dI) (.pair (.slc bJ) (.pair (.slc dj) (.pair (.slc ff) (.pair (.slc fX) (.pair (.slc eX) (.pair (.slc eX) (.pair (.slc e7) (.pair (.slc fz) .unit))))))))))))
abbrev aV:=Int×(List aW)×(List bF)×(List bf)×(List aD)×(List bz)×(List bP)×(List bZ)×(List bC)×(List bC)×(List aR)×(List bg)×Unit
@[reducible] def gW:DT:=(.pair bd (.pair bd (.pair (.int .i64) .unit)))
abbrev fR:=ar×ar×Int×Unit
@[reducible] def rW:DT:=(.pair bd (.pair (.int .i64) (.pair (.slc dI) .unit)))
abbrev fS:=ar×Int×(List bf)×Unit
@[reducible] def at0:DT:=(.pair (.int .i64) (.pair (.slc (.int .i64)) (.pair (.slc gW) (.pair (.slc rW) .unit))))
abbrev YS:=Int×(List Int)×(List fR)×(List fS)×Unit
@[reducible] def Pv:DT:=(.pair (.slc eX) (.pair (.slc e7) .unit))
abbrev uz:=(List bC)×(List aR)×Unit
@[reducible] def dB:DT:=(.pair (.int .i64) (.pair (.int .u64) .unit))
abbrev bU:=Int×Int×Unit
@[reducible] def Yd:DT:=(.pair (.int .u64) (.pair (.int .u64) .unit))
abbrev O9:=Int×Int×Unit
@[reducible] def FM:DT:=(.pair (.slc dI) (.pair (.slc ez) (.pair (.slc eX) (.pair (.slc e7) (.pair (.slc fz) .unit)))))
abbrev BY:=(List bf)×(List bF)×(List bC)×(List aR)×(List bg)×Unit
@[reducible] def cG:BK:=⟨81,[.v (.int .i64),.v (.slc cE),.v (.slc ez),.v (.slc dI),.v (.slc bJ),.v (.slc dj),.v (.slc ff),.v (.slc fX),.v (.slc eX),.v (.slc eX),.v (.slc e7),.v (.slc fz),.v (.int .i64),.v (.int .i64),.v (.int .i64),.v (.int .i64),.v (.int .i64),.v (.int .i64),.v (.int .i64),.v (.int .i64),.v (.int .i64),.v (.int .i64),.v (.int .i64),.v (.int .i64),.v (.int .i64),.v (.slc (.int .i64)),.v (.int .i64),.v (.slc (.int .i64)),.v (.slc gW),.v (.slc rW)]⟩
@[reducible] def a1e:List DS:=[.t (.int .i64),.t (.int .i64),.t (.int .i64),.t (.int .i64),.t (.int .i64),.t (.int .i64),.t (.int .i64),.t (.int .i64),.t (.int .i64),.t (.int .i64),.t (.int .i64),.t (.int .i64),.t (.int .i64),.t (.slc (.int .i64))]
@[reducible] def u6:List DS:=[.t (.int .i64),.t (.slc cE),.t (.slc ez),.t (.slc dI),.t (.slc bJ),.t (.slc dj),.t (.slc ff),.t (.slc fX),.t (.slc eX),.t (.slc eX),.t (.slc e7),.t (.slc fz),.t (.int .i64),.t (.int .i64),.t (.int .i64),.t (.int .i64),.t (.int .i64),.t (.int .i64),.t (.int .i64),.t (.int .i64),.t (.int .i64),.t (.int .i64),.t (.int .i64),.t (.int .i64),.t (.int .i64),.t (.slc (.int .i64)),.t (.int .i64),.t (.slc (.int .i64)),.t (.slc gW),.t (.slc rW)]
@[reducible] def a1f:List DS:=[.t (.int .i64),.t (.slc cE),.t (.slc ez),.t (.slc dI),.t (.slc bJ),.t (.slc dj),.t (.slc ff),.row 0,.t (.slc eX),.t (.slc eX),.t (.slc e7),.t (.slc fz),.t (.int .i64),.t (.int .i64),.t (.int .i64),.t (.int .i64),.t (.int .i64),.t (.int .i64),.t (.int .i64),.t (.int .i64),.t (.int .i64),.t (.int .i64),.t (.int .i64),.t (.int .i64),.t (.int .i64),.t (.slc (.int .i64)),.t (.int .i64),.t (.slc (.int .i64)),.t (.slc gW),.t (.slc rW)]
@[reducible] def a1g:List DS:=[.t (.int .i64),.t (.int .i64),.t (.int .i64),.t (.int .i64),.t (.int .i64),.t (.int .i64)]
@[reducible] def E8:List DS:=[.t (.int .i64),.t (.slc cE),.t (.slc ez),.t (.slc dI),.t (.slc bJ),.t (.slc dj),.t (.slc ff),.t (.slc fX),.t (.slc eX),.t (.slc eX),.t (.slc e7),.t (.slc fz)]
@[reducible] def a1h:List DS:=[.t (.int .i64),.t (.slc cE),.t (.slc ez),.t (.slc dI),.t (.slc bJ),.t (.slc dj),.t (.slc ff),.t (.slc fX),.t (.slc eX),.t (.slc eX),.row 1,.t (.slc fz)]
abbrev aK:=Int×(List aW)×(List bF)×(List bf)×(List aD)×(List bz)×(List bP)×(List bZ)×(List bC)×(List bC)×(List aR)×(List bg)×Int×Int×Int×Int×Int×Int×Int×Int×Int×Int×Int×Int×Int×(List Int)×Int×(List Int)×(List fR)×(List fS)×Unit
abbrev S0:=Int×List aW×List bF×List bf×List aD×List bz×List bP×List bZ×List bC×List bC×List aR×List bg×Int×Int×Int×Int×Int×Int×Int×Int×Int×Int×Int×Int×Int×List (Int)×Int×List (Int)×List fR×List fS×Unit
abbrev S1:=Int×Int×List aW×List bF×List bf×List aD×List bz×List bP×List bZ×List bC×List bC×List aR×List bg×Int×Int×Int×Int×Int×Int×Int×Int×Int×Int×Int×Int×Int×List (Int)×Int×List (Int)×List fR×List fS×Unit
abbrev S2:=Int×Int×List aW×List bF×List bf×List aD×List bz×List bP×List bZ×List bC×List bC×List aR×List bg×Unit
abbrev S3:=Int×Int×List aW×List bF×List bf×List aD×List bz×List bP×List bZ×List bC×List bC×List aR×List bg×Int×List fR×Unit
abbrev S4:=Int×Int×List aW×List bF×List bf×List aD×List bz×List bP×List bZ×List bC×List bC×List aR×List bg×Int×Int×Int×Int×Int×Int×Int×Int×Int×Int×Int×Int×Int×List (Int)×Int×List (Int)×List fR×List fS×List bg×Unit
abbrev S6:=Int×List ar×Unit
abbrev S8:=Int×Int×List aW×List bF×List bf×List aD×List bz×List bP×List bZ×List bC×List bC×List aR×List bg×List bf×Unit
abbrev S9:=Int×Bool×List (Int)×Unit
abbrev S10:=Int×List (Int)×Unit
abbrev S11:=Int×Int×Unit
abbrev S12:=Bool×List (Int)×Unit
abbrev S14:=Int×Int×Int×Unit
abbrev S15:=Int×Int×List (Int)×Unit
abbrev S16:=Bool×List (Int)×(ByteArray×Int×Unit)×Unit
abbrev S17:=Int×Int×Int×Int×Unit
abbrev S18:=Bool×List bg×Unit
abbrev S19:=Int×List ar×List (Int)×Unit
abbrev S20:=Int×List aR×Unit
abbrev S21:=Int×Int×Int×Int×Int×Unit
abbrev S22:=Int×List aD×Unit
abbrev S23:=List (Int)×Unit
abbrev S24:=Int×List bF×Unit
abbrev S25:=Int×List bC×Unit
abbrev Sq0:=Int×Int×List aW×List bF×List bf×List aD×List bz×List bP×List bZ×List bC×List bC×List aR×List bg×Int×List fR×Unit
abbrev Sq1:=Int×List aW×List bF×List bf×List aD×List bz×List bP×List bZ×List bC×List bC×List aR×List bg×Int×List fR×Unit
variable(W:Wd)
def vz(c:cm):Option cm:=W.aH (λ(z1:Int×Int×Int×Int×Int×Int×Int×Int×Int×Int×Int×Int×Int×List (Int)×Unit)=>some (U3 z1 ((z1.2.2.2.1,z1.2.2.2.2.1,()),(z1.2.2.2.2.2.1,z1.2.2.2.2.2.2.1,()),z1.2.2.2.2.2.2.2))) λk2=>W.af (decide (40<(c.2.2.2.2.2.2.2.2.2.2.2.1.length:Int))) (W.kY 40 c.2.2.2.2.2.2.2.2.2.2.2.1.length λh3=>(k2 (U3 c (c.2.2.2.1.1,c.2.2.2.1.2.1,c.2.2.2.2.1.1,c.2.2.2.2.1.2.1,U6 c.2.2.2.2.2 (c.2.2.2.2.2.2.2.2.2.2.2.1.take h3,()))))) (k2 (U3 c (c.2.2.2.1.1,c.2.2.2.1.2.1,c.2.2.2.2.1.1,c.2.2.2.2.1.2.1,c.2.2.2.2.2)))
abbrev abS:=vz aj
def IW(W:Wd):Option (Unit×(Bool×(List Int)×Unit)):=some ((),true,[],())
abbrev alO:=IW aj
def tT(W:Wd)(w0:Bool)(w1:List Int):Option (Bool×(Bool×(List Int)×Unit)):=some (w0,w0,w1,())
abbrev Hx:=tT aj
def vN(n:Int):Option Int:=W.i7 1 (W.i7 63 (some (Go.bits Go.BinOp.xor u64 (u64.wrap (i64.wrap (n*(2 ^ (min (Int.toNat 1) i64.bits))))) (u64.wrap (Int.fdiv n (2 ^ (min (Int.toNat 63) i64.bits)))))))
abbrev adk:=vN aj
def pA(w0:Bool)(w1:List Int)(u:Int):Option (Unit×(Bool×(List Int)×Unit)):=W.aY (λ(z1:S9) bp=>W.af (decide (128<=z1.1)) (W.bi (z1.2.2.1.length+((Go.bits Go.BinOp.or Go.IntKind.u8 (IntKind.u8.wrap z1.1) 128)::[]).length) 1 (W.i7 7 (bp (Int.fdiv z1.1 (2 ^ (min (Int.toNat 7) u64.bits)),z1.2.1,z1.2.2.1++((Go.bits Go.BinOp.or Go.IntKind.u8 (IntKind.u8.wrap z1.1) 128)::[]),())))) (W.bi (z1.2.2.1.length+((IntKind.u8.wrap z1.1)::[]).length) 1 (some ((),z1.2.1,z1.2.2.1++((IntKind.u8.wrap z1.1)::[]),())))) (u,w0,w1,())
abbrev Rg:=pA aj
def dU(w0:Bool)(w1 l:List Int):Option (Unit×(Bool×(List Int)×Unit)):=W.aH (λ(z1:S12)=>some ((),z1)) λk2=>W.ae (tT W w0 w1) λv3=>W.af v3.1 (W.aY (λ(z4:S9) rX=>W.af (decide (z4.1<(l.length:Int))) (W.aI l z4.1 λx6=>W.ae (vN W x6) λv7=>W.ae (pA W z4.2.1 z4.2.2.1 v7) λv8=>(rX (i64.wrap (z4.1+1),v8.2))) (k2 z4.2)) (0,v3.2)) (k2 v3.2)
abbrev zt:=dU aj
def rE(op:Int):Option ByteArray:=W.aH (λ(z1:Bool×Unit)=>W.af z1.1 (some (ByteArray.mk (Array.mk (77::(81::[]))))) (W.af (op==2) (some (ByteArray.mk (Array.mk (73::(81::(80::(78::[]))))))) (W.af (op==3) (some (ByteArray.mk (Array.mk (65::(80::(81::[])))))) (W.af (op==4) (some (ByteArray.mk (Array.mk (85::(77::(68::[])))))) (W.aH (λ(z2:Bool×Unit)=>W.af z2.1 (some (ByteArray.mk (Array.mk (85::[])))) (W.aH (λ(z3:Bool×Unit)=>W.af z3.1 (some (ByteArray.mk (Array.mk (85::(79::(73::(81::(80::[])))))))) (W.aH (λ(z4:Bool×Unit)=>W.af z4.1 (some (ByteArray.mk (Array.mk (68::[])))) (W.af (op==12) (some (ByteArray.mk (Array.mk (85::(73::(78::[])))))) (W.af (op==13) (some (ByteArray.mk (Array.mk (68::(79::(81::[])))))) (W.af (op==14) (some (ByteArray.mk (Array.mk (73::(80::[]))))) (W.af (op==15) (some (ByteArray.mk (Array.mk (65::(80::[]))))) (W.aH (λ(z5:Bool×Unit)=>W.af z5.1 (some (ByteArray.mk (Array.mk (85::(65::(84::(81::[]))))))) (W.aH (λ(z6:Bool×Unit)=>W.af z6.1 (some (ByteArray.mk (Array.mk (85::(79::[]))))) (W.aH (λ(z7:Bool×Unit)=>W.af z7.1 (some (ByteArray.mk (Array.mk (77::[])))) (some (ByteArray.mk (Array.mk [])))) λk8=>W.aH (λ(z9:Bool×Unit)=>W.af z9.1 (k8 z9) (W.aH (λ(Le:Bool×Unit)=>W.af Le.1 (k8 Le) (k8 (op==31,()))) λGJ=>(GJ (op==25,())))) λRx=>(Rx (op==23,())))) λk13=>W.aH (λ(z14:Bool×Unit)=>W.af z14.1 (k13 z14) (k13 (op==20,()))) λW4=>(W4 (op==19,())))) λk16=>W.aH (λ(z17:Bool×Unit)=>W.af z17.1 (k16 z17) (k16 (op==18,()))) λk18=>(k18 (op==17,())))))))) λk19=>W.aH (λ(z20:Bool×Unit)=>W.af z20.1 (k19 z20) (W.aH (λ(z21:Bool×Unit)=>W.af z21.1 (k19 z21) (k19 (op==11,()))) λXd=>(Xd (op==10,())))) λk23=>(k23 (op==9,())))) λk24=>W.aH (λ(z25:Bool×Unit)=>W.af z25.1 (k24 z25) (W.aH (λ(z26:Bool×Unit)=>W.af z26.1 (k24 z26) (k24 (op==24,()))) λk27=>(k27 (op==8,())))) λk28=>(k28 (op==7,())))) λk29=>W.aH (λ(z30:Bool×Unit)=>W.af z30.1 (k29 z30) (W.aH (λ(z31:Bool×Unit)=>W.af z31.1 (k29 z31) (W.aH (λ(z32:Bool×Unit)=>W.af z32.1 (k29 z32) (W.aH (λ(z33:Bool×Unit)=>W.af z33.1 (k29 z33) (W.aH (λ(z34:Bool×Unit)=>W.af z34.1 (k29 z34) (k29 (op==29,()))) λk35=>(k35 (op==28,())))) λk36=>(k36 (op==27,())))) λk37=>(k37 (op==26,())))) λk38=>(k38 (op==22,())))) λk39=>(k39 (op==5,()))))))) λk40=>W.aH (λ(z41:Bool×Unit)=>W.af z41.1 (k40 z41) (W.aH (λ(z42:Bool×Unit)=>W.af z42.1 (k40 z42) (k40 (op==21,()))) λk43=>(k43 (op==6,())))) λk44=>(k44 (op==1,()))
abbrev aeM:=rE aj
def Ax(w0:Bool)(w1:List Int)(u:ar):Option (Unit×(Bool×(List Int)×Unit)):=W.ae (dU W w0 w1 (u.1::(u.2.1::[]))) λv1=>some ((),v1.2)
abbrev alM:=Ax aj
def xl(w0:Bool)(w1:List Int)(c:cm)(name:Int):Option (Unit×(Bool×(List Int)×Unit)):=W.af (name==77) (W.ae (dU W w0 w1 (c.2.2.1::[])) λv1=>some ((),v1.2)) (W.af (name==85) (W.ae (Ax W w0 w1 c.2.2.2.1) λv2=>some ((),v2.2)) (W.af (name==79) (W.ae (Ax W w0 w1 c.2.2.2.2.1) λv3=>some ((),v3.2)) (W.af (name==73) (W.ae (dU W w0 w1 (c.2.2.2.2.2.1::[])) λv4=>some ((),v4.2)) (W.af (name==65) (W.ae (dU W w0 w1 (c.2.2.2.2.2.2.1::[])) λv5=>some ((),v5.2)) (W.af (name==84) (W.ae (dU W w0 w1 (c.2.2.2.2.2.2.2.1::[])) λv6=>some ((),v6.2)) (W.af (name==68) (W.ae (dU W w0 w1 (c.2.2.2.2.2.2.2.2.1::[])) λv7=>some ((),v7.2)) (W.af (name==81) (W.ae (dU W w0 w1 (c.2.2.2.2.2.2.2.2.2.1::[])) λv8=>some ((),v8.2)) (W.af (name==80) (W.ae (dU W w0 w1 (c.2.2.2.2.2.2.2.2.2.2.1::[])) λv9=>some ((),v9.2)) (W.af (name==78) (W.ae (dU W w0 w1 ((c.2.2.2.2.2.2.2.2.2.2.2.1.length:Int)::[])) λv10=>W.ae (dU W v10.2.1 v10.2.2.1 c.2.2.2.2.2.2.2.2.2.2.2.1) λv11=>some ((),v11.2)) (some ((),w0,w1,())))))))))))
abbrev ajv:=xl aj
def iD(s:List Int):Option (List Int):=W.rj (List.isEmpty s) λg1=>W.af (dq false g1) (some []) (W.bi ((0:Nat)+s.length) 1 (some ([]++s)))
abbrev GC:=iD aj
def kP(w0:Bool)(w1:List Int):Option ((List Int)×(Bool×(List Int)×Unit)):=W.ae (tT W w0 w1) λv1=>W.af (!v1.1) (some ([],v1.2)) (W.ae (iD W v1.2.2.1) λv2=>some (v2,v1.2))
abbrev O8:=kP aj
def vh(c:cm):Option (List Int):=W.gJ (W.ae (IW W) λv1=>W.ae (dU W v1.2.1 v1.2.2.1 (c.1::(c.2.1::[]))) λv2=>W.ae (rE W c.1) λv3=>W.aY (λ(z4:S16) rX=>W.zZ z4.2.2.1.1 z4.2.2.1.2.1 (λc7 q8=>W.ae (xl W z4.1 z4.2.1 c c7) λv9=>(rX (v9.2.1,v9.2.2.1,(z4.2.2.1.1,q8,()),()))) (W.ae (kP W z4.1 z4.2.1) λv6=>some v6.1)) (v2.2.1,v2.2.2.1,(v3,0,()),())) (W.ae (IW W) λv10=>W.ae (dU W v10.2.1 v10.2.2.1 (c.1::(c.2.1::[]))) λv11=>W.ae (rE W c.1) λv12=>W.aY (λ(Vx:S16) aaq=>W.zZ Vx.2.2.1.1 Vx.2.2.1.2.1 (λc16 q17=>W.ae (xl W Vx.1 Vx.2.1 c c16) λv18=>(aaq (v18.2.1,v18.2.2.1,(Vx.2.2.1.1,q17,()),()))) (W.ae (kP W Vx.1 Vx.2.1) λv15=>some v15.1)) (v11.2.1,v11.2.2.1,(v12,0,()),()))
abbrev abe:=vh aj
def BF(b:List Int):Option (Unit×(Bool×(List Int)×Int×Unit)):=W.ae (iD W b) λv1=>some ((),true,v1,0,())
abbrev akD:=BF aj
def wu(r0:Bool)(r1:List Int)(r2:Int):Option (Bool×(Bool×(List Int)×Int×Unit)):=W.af r0 (some (r2==0,r0,r1,r2,())) (some (false,r0,r1,r2,()))
abbrev O7:=wu aj
def ou(W:Wd)(r0:Bool)(r1:List Int)(r2 e:Int):Option (Unit×(Bool×(List Int)×Int×Unit)):=some ((),r0,[],e,())
abbrev EK:=ou aj
def lE(r0:Bool)(r1:List Int)(r2:Int):Option ((Int×Bool×Unit)×(Bool×(List Int)×Int×Unit)):=W.aY (λ(z1:Int×Int×Bool×List (Int)×Int×Unit) bp=>W.af ((z1.2.2.2.1.length:Int)==0) (W.ae (ou W z1.2.2.1 z1.2.2.2.1 z1.2.2.2.2.1 4) λv3=>some ((0,false,()),v3.2)) (W.aI z1.2.2.2.1 0 λx4=>W.kY 1 z1.2.2.2.1.length λh5=>W.aH (λ(z6:Bool×Unit)=>W.af z6.1 (W.ae (ou W z1.2.2.1 ((z1.2.2.2.1.take z1.2.2.2.1.length).drop h5) z1.2.2.2.2.1 3) λv7=>some ((0,false,()),v7.2)) (W.i7 z1.2.1 (W.af (decide (x4<128)) (some ((Go.bits Go.BinOp.or u64 z1.1 (u64.wrap ((u64.wrap (Go.bits Go.BinOp.and Go.IntKind.u8 x4 127))*(2 ^ (min (Int.toNat z1.2.1) u64.bits)))),true,()),z1.2.2.1,(z1.2.2.2.1.take z1.2.2.2.1.length).drop h5,z1.2.2.2.2)) (bp (Go.bits Go.BinOp.or u64 z1.1 (u64.wrap ((u64.wrap (Go.bits Go.BinOp.and Go.IntKind.u8 x4 127))*(2 ^ (min (Int.toNat z1.2.1) u64.bits)))),i64.wrap (z1.2.1+7),z1.2.2.1,(z1.2.2.2.1.take z1.2.2.2.1.length).drop h5,z1.2.2.2.2))))) λk8=>W.af (decide (63<z1.2.1)) (k8 (true,())) (W.af (z1.2.1==63) (W.af (decide (1<x4)) (k8 (true,())) (W.af (x4==0) (k8 (decide (0<z1.2.1),())) (k8 (false,())))) (W.af (x4==0) (k8 (decide (0<z1.2.1),())) (k8 (false,())))))) (0,0,r0,r1,r2,())
abbrev BE:=lE aj
def rP(u:Int):Option Int:=W.i7 1 (some (Go.bits Go.BinOp.xor i64 (i64.wrap (Int.fdiv u (2 ^ (min (Int.toNat 1) u64.bits)))) (i64.wrap (0-(i64.wrap (Go.bits Go.BinOp.and u64 u 1))))))
abbrev VS:=rP aj
def iC(r0:Bool)(r1:List Int)(r2 lo hi:Int):Option (Int×(Bool×(List Int)×Int×Unit)):=W.ae (wu W r0 r1 r2) λv1=>W.af (!v1.1) (some (0,v1.2)) (W.ae (lE W v1.2.1 v1.2.2.1 v1.2.2.2.1) λv2=>W.ae (rP W v2.1.1) λv3=>W.af (!v2.1.2.1) (some (0,v2.2)) (W.aH (λ(z4:Bool×Unit)=>W.af z4.1 (W.ae (ou W v2.2.1 v2.2.2.1 v2.2.2.2.1 7) λv5=>some (0,v5.2)) (some (v3,v2.2))) λk6=>W.af (decide (v3<lo)) (k6 (true,())) (k6 (decide (hi<v3),()))))
abbrev Rf:=iC aj
def j2(r0:Bool)(r1:List Int)(r2 uR:Int):Option (Int×(Bool×(List Int)×Int×Unit)):=W.ae (iC W r0 r1 r2 0 uR) λv1=>some v1
abbrev ajr:=j2 aj
def xj(r0:Bool)(r1:List Int)(r2:Int):Option (ar×(Bool×(List Int)×Int×Unit)):=W.ae (j2 W r0 r1 r2 16) λv1=>W.ae (j2 W v1.2.1 v1.2.2.1 v1.2.2.2.1 16) λv2=>some ((v1.1,v2.1,()),v2.2)
abbrev ajs:=xj aj
def sI(r0:Bool)(r1:List Int)(r2:Int):Option (Int×(Bool×(List Int)×Int×Unit)):=W.af (!r0) (some (1,r0,r1,r2,())) (some (r2,r0,r1,r2,()))
abbrev F7:=sI aj
def vg(r0:Bool)(r1:List Int)(r2 uR:Int):Option ((List Int)×(Bool×(List Int)×Int×Unit)):=W.aH (λ(z1:Bool×List (Int)×Int×List (Int)×Unit)=>some (z1.2.2.2.1,U3 z1 ())) λk2=>W.ae (j2 W r0 r1 r2 uR) λv3=>W.aY (λ(z4:Int×Bool×List (Int)×Int×List (Int)×Unit) rX=>W.af (decide (0<z4.1)) (W.ae (sI W z4.2.1 z4.2.2.1 z4.2.2.2.1) λv6=>W.af (v6.1==0) (W.ae (iC W v6.2.1 v6.2.2.1 v6.2.2.2.1 (-9223372036854775808) 9223372036854775807) λv7=>W.bi (z4.2.2.2.2.1.length+(v7.1::[]).length) 8 (rX (i64.wrap (z4.1-1),U3 v7.2 (z4.2.2.2.2.1++(v7.1::[]),())))) (k2 (U3 v6.2 z4.2.2.2.2))) (k2 z4.2)) (U4 v3 ([],()))
abbrev abb:=vg aj
def D4(r0:Bool)(r1:List Int)(r2 c0 c1 c2 c3 c4 c5 c6 c7 c8 c9 c10 c11 c12:Int)(c13:List Int)(name:Int):Option (Unit×(Bool×(List Int)×Int×Int×Int×Int×Int×Int×Int×Int×Int×Int×Int×Int×Int×Int×(List Int)×Unit)):=W.af (name==77) (W.ae (j2 W r0 r1 r2 8) λv1=>some ((),U3 v1.2 (c0,c1,v1.1,c3,c4,c5,c6,c7,c8,c9,c10,c11,c12,c13,()))) (W.af (name==85) (W.ae (xj W r0 r1 r2) λv2=>some ((),U3 v2.2 (c0,c1,c2,v2.1.1,v2.1.2.1,c5,c6,c7,c8,c9,c10,c11,c12,c13,()))) (W.af (name==79) (W.ae (xj W r0 r1 r2) λv3=>some ((),U3 v3.2 (c0,c1,c2,c3,c4,v3.1.1,v3.1.2.1,c7,c8,c9,c10,c11,c12,c13,()))) (W.af (name==73) (W.ae (j2 W r0 r1 r2 8) λv4=>some ((),U3 v4.2 (c0,c1,c2,c3,c4,c5,c6,v4.1,c8,c9,c10,c11,c12,c13,()))) (W.af (name==65) (W.ae (j2 W r0 r1 r2 4) λv5=>some ((),U3 v5.2 (c0,c1,c2,c3,c4,c5,c6,c7,v5.1,c9,c10,c11,c12,c13,()))) (W.af (name==84) (W.ae (j2 W r0 r1 r2 255) λv6=>some ((),U3 v6.2 (c0,c1,c2,c3,c4,c5,c6,c7,c8,v6.1,c10,c11,c12,c13,()))) (W.af (name==68) (W.ae (j2 W r0 r1 r2 1048576) λv7=>some ((),U3 v7.2 (c0,c1,c2,c3,c4,c5,c6,c7,c8,c9,v7.1,c11,c12,c13,()))) (W.af (name==81) (W.ae (iC W r0 r1 r2 (-9223372036854775808) 9223372036854775807) λv8=>some ((),U3 v8.2 (c0,c1,c2,c3,c4,c5,c6,c7,c8,c9,c10,v8.1,c12,c13,()))) (W.af (name==80) (W.ae (iC W r0 r1 r2 (-9223372036854775808) 9223372036854775807) λv9=>some ((),U3 v9.2 (c0,c1,c2,c3,c4,c5,c6,c7,c8,c9,c10,c11,v9.1,c13,()))) (W.af (name==78) (W.ae (vg W r0 r1 r2 32) λv10=>some ((),U3 v10.2 (c0,c1,c2,c3,c4,c5,c6,c7,c8,c9,c10,c11,c12,v10.1,()))) (some ((),r0,r1,r2,c0,c1,c2,c3,c4,c5,c6,c7,c8,c9,c10,c11,c12,c13,())))))))))))
abbrev alF:=D4 aj
def pB(r0:Bool)(r1:List Int)(r2:Int):Option (Int×(Bool×(List Int)×Int×Unit)):=W.ae (sI W r0 r1 r2) λv1=>W.af (v1.1 != 0) (some v1) (W.af (decide (0<(v1.2.2.1.length:Int))) (some (5,v1.2)) (some (0,v1.2)))
abbrev Rh:=pB aj
def D5(b:List Int):Option (cm×Int×Unit):=W.ae (BF W b) λv1=>W.ae (iC W v1.2.1 v1.2.2.1 v1.2.2.2.1 1 31) λv2=>W.ae (j2 W v2.2.1 v2.2.2.1 v2.2.2.2.1 8) λv3=>W.ae (rE W v2.1) λv4=>W.aY (λ(z5:Bool×List (Int)×Int×Int×Int×Int×Int×Int×Int×Int×Int×Int×Int×Int×Int×Int×List (Int)×(ByteArray×Int×Unit)×Unit) FN=>W.zZ z5.2.2.2.2.2.2.2.2.2.2.2.2.2.2.2.2.2.1.1 z5.2.2.2.2.2.2.2.2.2.2.2.2.2.2.2.2.2.1.2.1 (λc8 q9=>W.ae (D4 W z5.1 z5.2.1 z5.2.2.1 z5.2.2.2.1 z5.2.2.2.2.1 z5.2.2.2.2.2.1 z5.2.2.2.2.2.2.1 z5.2.2.2.2.2.2.2.1 z5.2.2.2.2.2.2.2.2.1 z5.2.2.2.2.2.2.2.2.2.1 z5.2.2.2.2.2.2.2.2.2.2.1 z5.2.2.2.2.2.2.2.2.2.2.2.1 z5.2.2.2.2.2.2.2.2.2.2.2.2.1 z5.2.2.2.2.2.2.2.2.2.2.2.2.2.1 z5.2.2.2.2.2.2.2.2.2.2.2.2.2.2.1 z5.2.2.2.2.2.2.2.2.2.2.2.2.2.2.2.1 z5.2.2.2.2.2.2.2.2.2.2.2.2.2.2.2.2.1 c8) λv10=>(FN (U17 v10.2 ((z5.2.2.2.2.2.2.2.2.2.2.2.2.2.2.2.2.2.1.1,q9,()),())))) (W.ae (pB W z5.1 z5.2.1 z5.2.2.1) λv7=>W.af (v7.1 != 0) (some ((0,0,0,(0,0,()),(0,0,()),0,0,0,0,0,0,[],()),3,())) (some (U3 z5.2.2.2 ((z5.2.2.2.2.2.2.1,z5.2.2.2.2.2.2.2.1,()),(z5.2.2.2.2.2.2.2.2.1,z5.2.2.2.2.2.2.2.2.2.1,()),U7 z5.2.2.2.2.2.2.2.2.2.2 ()),0,())))) (U3 v3.2 (v2.1,v3.1,0,0,0,0,0,0,0,0,0,0,0,[],(v4,0,()),()))
abbrev alI:=D5 aj
def i6(s1 s2:List Int):Option Bool:=W.af ((s1.length:Int) != (s2.length:Int)) (some false) (W.aY (λ(z1:Int×Unit) bp=>W.af (decide (z1.1<(s1.length:Int))) (W.aI s1 z1.1 λx3=>W.aI s2 z1.1 λx4=>W.af (x3 != x4) (some false) (bp (i64.wrap (z1.1+1),()))) (some true)) (0,()))
abbrev D6:=i6 aj
def D7(a b:cm):Option Bool:=W.ae (i6 W a.2.2.2.2.2.2.2.2.2.2.2.1 b.2.2.2.2.2.2.2.2.2.2.2.1) λv1=>W.af v1 (W.af (a.1==b.1) (W.af (a.2.1==b.2.1) (W.af (a.2.2.1==b.2.2.1) (W.af (dq false ((a.2.2.2.1.1==b.2.2.2.1.1)&&(a.2.2.2.1.2.1==b.2.2.2.1.2.1))) (W.af (dq false ((a.2.2.2.2.1.1==b.2.2.2.2.1.1)&&(a.2.2.2.2.1.2.1==b.2.2.2.2.1.2.1))) (W.af (a.2.2.2.2.2.1==b.2.2.2.2.2.1) (W.af (a.2.2.2.2.2.2.1==b.2.2.2.2.2.2.1) (W.af (a.2.2.2.2.2.2.2.1==b.2.2.2.2.2.2.2.1) (W.af (a.2.2.2.2.2.2.2.2.1==b.2.2.2.2.2.2.2.2.1) (W.af (a.2.2.2.2.2.2.2.2.2.1==b.2.2.2.2.2.2.2.2.2.1) (some (a.2.2.2.2.2.2.2.2.2.2.1==b.2.2.2.2.2.2.2.2.2.2.1)) (some false)) (some false)) (some false)) (some false)) (some false)) (some false)) (some false)) (some false)) (some false)) (some false)) (some false)
abbrev alR:=D7 aj
def AU(c:cm):Option Int:=W.ae (vh W c) λv1=>W.ae (D5 W v1) λv2=>W.aH (λ(z3:Bool×Unit)=>W.af z3.1 (some 3) (some 0)) λk4=>W.af (v2.2.1 != 0) (k4 (true,())) (W.ae (D7 W v2.1 c) λv5=>(k4 (!v5,())))
abbrev ajy:=AU aj
def FO(W:Wd)(gR:Int)(m:aW):Option (Bool×(Int×Unit)):=some (m.1==gR,gR,())
abbrev PC:=FO aj
def cf(DF:Int)(s:List aW):Option (Int×(Int×Unit)):=W.aY (λ(z1:S11) bp=>W.af (decide (z1.1<(s.length:Int))) (W.aI s z1.1 λx3=>W.ae (FO W z1.2.1 x3) λv4=>W.af v4.1 (some (z1.1,v4.2)) (bp (i64.wrap (z1.1+1),v4.2))) (some (-1,z1.2))) (0,DF,())
abbrev iv:=cf aj
def qd(l:List aW)(id:Int):Option Int:=W.ae (cf W id l) λv1=>some v1.1
abbrev WA:=qd aj
def iz(l:List aW)(id:Int):Option (aW×Bool×Unit):=W.ae (qd W l id) λv1=>W.af (decide (v1<0)) (some ((0,0,0,0,()),false,())) (W.aI l v1 λx2=>some (x2,true,()))
abbrev yv:=iz aj
def iQ(m:aW):Option Int:=W.af (m.2.2.1 != 0) (some 15) (some 0)
abbrev qe:=iQ aj
def mS(d:aK):Option (Int×aK):=W.af (d.2.2.2.2.2.2.2.2.2.2.2.2.2.1==0) (some (0,d)) (W.two (W.ae (iz W d.2.1 d.2.2.2.2.2.2.2.2.2.2.2.2.2.1) λv1=>W.af (!v1.2.1) (some (14,d)) (W.ae (iQ W v1.1) λv2=>some (v2,d))))
abbrev Nk:=mS aj
def l7(l:List aD)(id:Int):Option (Int×Bool×Unit):=W.aY (λ(z1:Int×Unit) bp=>W.af (decide (z1.1<(l.length:Int))) (W.aI l z1.1 λx3=>W.af (decide (id<=x3.1)) (some (z1.1,x3.1==id,())) (bp (i64.wrap (z1.1+1),()))) (some ((l.length:Int),false,()))) (0,())
abbrev JK:=l7 aj
def jn(s:List Int):Option (List Int):=W.rj (List.isEmpty s) λg1=>W.af (dq false g1) (some []) (W.bi ((0:Nat)+s.length) 8 (some ([]++s)))
abbrev Jf:=jn aj
def nF(a:aD):Option aD:=W.ae (jn W a.2.2.2.1) λv1=>some (U3 a (v1,()))
abbrev LZ:=nF aj
def mJ(l:List aD)(id:Int):Option (aD×Bool×Unit):=W.ae (l7 W l id) λv1=>W.af (!v1.2.1) (some ((0,0,0,[],()),false,())) (W.aI l v1.1 λx2=>W.ae (nF W x2) λv3=>some (v3,true,()))
abbrev N3:=mJ aj
def lG(d:aK)(id:Int):Option (Bool×aK):=W.ae (mJ W d.2.2.2.2.1 id) λv1=>W.af v1.2.1 (some (v1.1.2.1==d.2.2.2.2.2.2.2.2.2.2.2.2.2.1,d)) (some (false,d))
abbrev Ll:=lG aj
def jo(a:aD):Option (List ar):=W.af (a.2.2.1==1) (some ((a.1,0,())::[])) (W.aY (λ(z1:S6) bp=>W.af (decide (z1.1<(a.2.2.2.1.length:Int))) (W.aI a.2.2.2.1 z1.1 λx3=>W.bi (z1.2.1.length+((a.1,x3,())::[]).length) 16 (bp (i64.wrap (z1.1+1),z1.2.1++((a.1,x3,())::[]),()))) (some z1.2.1)) (0,[],()))
abbrev xK:=jo aj
def gd(s:List ar)(vp:ar):Option Int:=W.aY (λ(z1:Int×Unit) bp=>W.af (decide (z1.1<(s.length:Int))) (W.aI s z1.1 λx3=>W.af (dq false ((vp.1==x3.1)&&(vp.2.1==x3.2.1))) (some z1.1) (bp (i64.wrap (z1.1+1),()))) (some (-1))) (0,())
abbrev yq:=gd aj
def cT(s:List ar)(vp:ar):Option Bool:=W.ae (gd W s vp) λv1=>some (decide (0<=v1))
abbrev nK:=cT aj
def sq(a:aD)(u:ar):Option Bool:=W.ae (jo W a) λv1=>W.ae (cT W v1 u) λv2=>some v2
abbrev alx:=sq aj
def nV(l:List aD)(u:ar):Option Int:=W.aY (λ(z1:Int×Unit) bp=>W.af (decide (z1.1<(l.length:Int))) (W.aI l z1.1 λx3=>W.ae (sq W x3 u) λv4=>W.af v4 (some x3.2.1) (bp (i64.wrap (z1.1+1),()))) (some 0)) (0,())
abbrev agn:=nV aj
def gK(d:aK)(u:ar):Option (Bool×aK):=W.ae (nV W d.2.2.2.2.1 u) λv1=>some (v1==d.2.2.2.2.2.2.2.2.2.2.2.2.2.1,d)
abbrev Rj:=gK aj
def Ls(W:Wd)(gR:Int)(g:bZ):Option (Bool×(Int×Unit)):=some (g.1==gR,gR,())
abbrev akW:=Ls aj
def dH(DF:Int)(s:List bZ):Option (Int×(Int×Unit)):=W.aY (λ(z1:S11) bp=>W.af (decide (z1.1<(s.length:Int))) (W.aI s z1.1 λx3=>W.ae (Ls W z1.2.1 x3) λv4=>W.af v4.1 (some (z1.1,v4.2)) (bp (i64.wrap (z1.1+1),v4.2))) (some (-1,z1.2))) (0,DF,())
abbrev pV:=dH aj
def EV(l:List bZ)(id:Int):Option Int:=W.ae (dH W id l) λv1=>some v1.1
abbrev atc:=EV aj
def ul(l:List bZ)(id:Int):Option (bZ×Bool×Unit):=W.ae (EV W l id) λv1=>W.af (decide (v1<0)) (some ((0,(0,0,()),(0,0,()),(0,0,()),0,0,0,0,()),false,())) (W.aI l v1 λx2=>some (x2,true,()))
abbrev X2:=ul aj
def kR(d:aK):Option (bZ×aK):=W.two (W.ae (ul W d.2.2.2.2.2.2.2.1 d.2.2.2.2.2.2.2.2.2.2.2.2.2.2.2.2.2.2.2.2.2.2.1) λv1=>some (v1.1,d))
abbrev Pl:=kR aj
def HL(W:Wd)(gR:Int)(g:bP):Option (Bool×(Int×Unit)):=some (g.1==gR,gR,())
abbrev agq:=HL aj
def dr(DF:Int)(s:List bP):Option (Int×(Int×Unit)):=W.aY (λ(z1:S11) bp=>W.af (decide (z1.1<(s.length:Int))) (W.aI s z1.1 λx3=>W.ae (HL W z1.2.1 x3) λv4=>W.af v4.1 (some (z1.1,v4.2)) (bp (i64.wrap (z1.1+1),v4.2))) (some (-1,z1.2))) (0,DF,())
abbrev oT:=dr aj
def xM(l:List bP)(id:Int):Option Int:=W.ae (dr W id l) λv1=>some v1.1
abbrev apI:=xM aj
def uI(l:List bP)(id:Int):Option (bP×Bool×Unit):=W.ae (xM W l id) λv1=>W.af (decide (v1<0)) (some ((0,(0,0,()),0,0,0,()),false,())) (W.aI l v1 λx2=>some (x2,true,()))
abbrev agr:=uI aj
def nX(d:aK):Option (bP×aK):=W.two (W.ae (uI W d.2.2.2.2.2.2.1 d.2.2.2.2.2.2.2.2.2.2.2.2.2.2.2.2.2.2.2.2.2.2.1) λv1=>some (v1.1,d))
abbrev Pn:=nX aj
def pH(d:aK):Option (Bool×aK):=W.aH (λ(z1:Unit)=>W.ae (kR W d) λv2=>W.ae (gK W v2.2 v2.1.2.2.1) λv3=>some v3) λk4=>W.aH (λ(z5:S0)=>W.ae (gK W z5 (z5.2.2.2.2.2.2.2.2.2.2.2.2.2.2.2.1,z5.2.2.2.2.2.2.2.2.2.2.2.2.2.2.2.2.1,())) λv6=>some v6) λk7=>W.aH (λ(z8:Unit)=>W.ae (lG W d d.2.2.2.2.2.2.2.2.2.2.2.2.2.2.2.1) λv9=>some v9) λva=>W.aH (λ(z11:Unit)=>W.af (d.2.2.2.2.2.2.2.2.2.2.2.2.1==7) (W.ae (gK W d (d.2.2.2.2.2.2.2.2.2.2.2.2.2.2.2.2.2.1,d.2.2.2.2.2.2.2.2.2.2.2.2.2.2.2.2.2.2.1,())) λv12=>W.af v12.1 (some (true,v12.2)) (k7 v12.2)) (W.aH (λ(Vx:Unit)=>W.aH (λ(z14:Unit)=>W.af (d.2.2.2.2.2.2.2.2.2.2.2.2.1==11) (W.ae (kR W d) λv15=>W.ae (gK W v15.2 v15.1.2.1) λVs=>some Vs) (W.af (d.2.2.2.2.2.2.2.2.2.2.2.2.1==13) (W.ae (nX W d) λv17=>W.ae (gK W v17.2 v17.1.2.1) λv18=>some v18) (W.af (d.2.2.2.2.2.2.2.2.2.2.2.2.1==20) (W.ae (gK W d (d.2.2.2.2.2.2.2.2.2.2.2.2.2.2.2.2.2.1,d.2.2.2.2.2.2.2.2.2.2.2.2.2.2.2.2.2.2.1,())) λv19=>some v19) (W.af (d.2.2.2.2.2.2.2.2.2.2.2.2.1==31) (some (d.2.2.2.2.2.2.2.2.2.2.2.2.2.2.1==d.2.2.2.2.2.2.2.2.2.2.2.2.2.1,d)) (some (false,d)))))) λk20=>W.af (d.2.2.2.2.2.2.2.2.2.2.2.2.1==9) (W.af (d.2.2.2.2.2.2.2.2.2.2.2.2.1==9) (k4 ()) (k20 ())) (W.af (d.2.2.2.2.2.2.2.2.2.2.2.2.1==10) (k4 ()) (k20 ()))) λk21=>W.af (d.2.2.2.2.2.2.2.2.2.2.2.2.1==8) (W.af (d.2.2.2.2.2.2.2.2.2.2.2.2.1==8) (k7 d) (k21 ())) (W.af (d.2.2.2.2.2.2.2.2.2.2.2.2.1==12) (W.af (d.2.2.2.2.2.2.2.2.2.2.2.2.1==12) (k7 d) (k21 ())) (W.af (d.2.2.2.2.2.2.2.2.2.2.2.2.1==17) (W.af (d.2.2.2.2.2.2.2.2.2.2.2.2.1==17) (k7 d) (k21 ())) (W.af (d.2.2.2.2.2.2.2.2.2.2.2.2.1==18) (W.af (d.2.2.2.2.2.2.2.2.2.2.2.2.1==18) (k7 d) (k21 ())) (W.af (d.2.2.2.2.2.2.2.2.2.2.2.2.1==19) (W.af (d.2.2.2.2.2.2.2.2.2.2.2.2.1==19) (k7 d) (k21 ())) (W.af (d.2.2.2.2.2.2.2.2.2.2.2.2.1==26) (W.af (d.2.2.2.2.2.2.2.2.2.2.2.2.1==26) (k7 d) (k21 ())) (W.af (d.2.2.2.2.2.2.2.2.2.2.2.2.1==27) (k7 d) (k21 ()))))))))) λXd=>W.af (d.2.2.2.2.2.2.2.2.2.2.2.2.1==5) (W.af (d.2.2.2.2.2.2.2.2.2.2.2.2.1==5) (va ()) (Xd ())) (W.af (d.2.2.2.2.2.2.2.2.2.2.2.2.1==28) (W.af (d.2.2.2.2.2.2.2.2.2.2.2.2.1==28) (va ()) (Xd ())) (W.af (d.2.2.2.2.2.2.2.2.2.2.2.2.1==29) (va ()) (Xd ())))
abbrev Rl:=pH aj
def lH(d:aK):Option (Int×aK):=W.aH (λ(z1:Bool×Int×List aW×List bF×List bf×List aD×List bz×List bP×List bZ×List bC×List bC×List aR×List bg×Int×Int×Int×Int×Int×Int×Int×Int×Int×Int×Int×Int×Int×List (Int)×Int×List (Int)×List fR×List fS×Unit)=>W.af z1.1 (some (0,z1.2)) (some (14,z1.2))) λk2=>W.af (d.2.2.2.2.2.2.2.2.2.2.2.2.2.1==0) (k2 (true,d)) (W.ae (pH W d) λv3=>(k2 v3))
abbrev Lm:=lH aj
def oS(m:aW):Option Int:=W.aH (λ(z1:Bool×Unit)=>W.af z1.1 (some 2) (some 0)) λk2=>W.af (decide (m.1<1)) (k2 (true,())) (W.af (decide (8<m.1)) (k2 (true,())) (W.af (decide (m.2.1<0)) (k2 (true,())) (W.af (decide (4611686018427387904<m.2.1)) (k2 (true,())) (W.af (decide (m.2.2.1<0)) (k2 (true,())) (W.af (decide (3<m.2.2.1)) (k2 (true,())) (W.af (decide (m.2.2.2.1<0)) (k2 (true,())) (k2 (decide (2097152<m.2.2.2.1),()))))))))
abbrev ZS:=oS aj
def eE(s:List aW):Option (List aW):=W.rj (List.isEmpty s) λg1=>W.af (dq false g1) (some []) (W.bi ((0:Nat)+s.length) 32 (some ([]++s)))
abbrev u5:=eE aj
def y8(l:List aW)(m:aW):Option ((List aW)×Int×Unit):=W.ae (oS W m) λv1=>W.af (v1 != 0) (some ([],v1,())) (W.ae (qd W l m.1) λv2=>W.af (decide (0<=v2)) (some ([],12,())) (W.two (W.ae (eE W l) λv3=>W.bi (v3.length+(m::[]).length) 32 (W.aH (λ(z4:List aW×Unit)=>some (z4.1,0,())) λk5=>W.aY (λ(z6:Int×List aW×Unit) Va=>W.af (decide (0<z6.1)) (W.aI z6.2.1 (i64.wrap (z6.1-1)) λx8=>W.cr z6.2.1 (Int.toNat (i64.wrap (z6.1-1))) λx9=>W.af (decide (m.1<x9.1)) (W.aI z6.2.1 z6.1 λx10=>W.aI z6.2.1 (i64.wrap (z6.1-1)) λx11=>W.cr z6.2.1 (Int.toNat z6.1) λx12=>W.cr z6.2.1 (Int.toNat (i64.wrap (z6.1-1))) λx13=>W.aI z6.2.1 (i64.wrap (z6.1-1)) λx14=>W.cr z6.2.1 (Int.toNat (i64.wrap (z6.1-1))) λx15=>W.aI (List.set z6.2.1 (Int.toNat (i64.wrap (z6.1-1))) x12) z6.1 λx16=>W.cr (List.set z6.2.1 (Int.toNat (i64.wrap (z6.1-1))) x12) (Int.toNat z6.1) λx17=>(Va (i64.wrap (z6.1-1),List.set (List.set z6.2.1 (Int.toNat (i64.wrap (z6.1-1))) x12) (Int.toNat z6.1) x13,()))) (k5 z6.2)) (k5 z6.2)) (i64.wrap (((v3++(m::[])).length:Int)-1),v3++(m::[]),())))))
abbrev Uv:=y8 aj
def lT(p:Int):Option Bool:=W.af (decide (0<=p)) (some (decide (p<=2147483647))) (some false)
abbrev ada:=lT aj
def EI(m:Int):Option Bool:=W.af (decide (m<(-2147483647))) (some true) (some (decide (2147483647<m)))
abbrev aoN:=EI aj
def eU(s:List Int):Option (Int×Unit):=W.aY (λ(z1:Int×Unit) bp=>W.af (decide (z1.1<(s.length:Int))) (W.aI s z1.1 λx3=>W.ae (EI W x3) λv4=>W.af v4 (some z1) (bp (i64.wrap (z1.1+1),()))) (some (-1,()))) (0,())
abbrev ta:=eU aj
def eB(s:List Int):Option (Bool×Unit):=W.ae (eU W s) λv1=>some (decide (0<=v1.1),())
abbrev ry:=eB aj
def p8(i:bF):Option Int:=W.aH (λ(z1:Bool×Unit)=>W.aH (λ(z2:Bool×Unit)=>W.af z2.1 (some 2) (some 0)) λk3=>W.af (!z1.1) (k3 (true,())) (W.ae (lT W i.2.2.1) λv4=>W.af (!v4) (k3 (true,())) (W.ae (lT W i.2.2.2.1) λv5=>W.af (!v5) (k3 (true,())) (W.af (decide (8<(i.2.2.2.2.1.length:Int))) (k3 (true,())) (W.ae (eB W i.2.2.2.2.1) λv6=>(k3 v6)))))) λk7=>W.af (decide (1<=i.1)) (W.af (decide (i.1<=8)) (W.af (decide (1<=i.2.1)) (k7 (decide (i.2.1<=65536),())) (k7 (false,()))) (k7 (false,()))) (k7 (false,()))
abbrev afO:=p8 aj
def K2(W:Wd)(gR:Int)(i:bF):Option (Bool×(Int×Unit)):=some (i.1==gR,gR,())
def dG(DF:Int)(s:List bF):Option (Int×(Int×Unit)):=W.aY (λ(z1:S11) bp=>W.af (decide (z1.1<(s.length:Int))) (W.aI s z1.1 λx3=>W.ae (K2 W z1.2.1 x3) λv4=>W.af v4.1 (some (z1.1,v4.2)) (bp (i64.wrap (z1.1+1),v4.2))) (some (-1,z1.2))) (0,DF,())
abbrev pU:=dG aj
def BG(l:List bF)(id:Int):Option Int:=W.ae (dG W id l) λv1=>some v1.1
abbrev as1:=BG aj
def HM(W:Wd)(gR q5 axv axw:Int)(axx:List Int)(xp:bF):Option (Bool×(Int×Int×Int×Int×(List Int)×Unit)):=some (decide (gR<xp.1),gR,q5,axv,axw,axx,())
abbrev ago:=HM aj
def dC(DF Vb a1i a1j:Int)(a1k:List Int)(s:List bF):Option (Int×(Int×Int×Int×Int×(List Int)×Unit)):=W.aY (λ(z1:Int×Int×Int×Int×Int×List (Int)×Unit) bp=>W.af (decide (z1.1<(s.length:Int))) (W.aI s z1.1 λx3=>W.ae (HM W z1.2.1 z1.2.2.1 z1.2.2.2.1 z1.2.2.2.2.1 z1.2.2.2.2.2.1 x3) λv4=>W.af v4.1 (some (z1.1,v4.2)) (bp (i64.wrap (z1.1+1),v4.2))) (some (-1,z1.2))) (0,DF,Vb,a1i,a1j,a1k,())
abbrev pF:=dC aj
def jb(s:List Int):Option (List Int):=W.rj (List.isEmpty s) λg1=>W.af (dq false g1) (some []) (W.bi ((0:Nat)+s.length) 8 (some ([]++s)))
abbrev EL:=jb aj
def xH(i:bF):Option bF:=W.ae (jb W i.2.2.2.2.1) λv1=>some (U4 i (v1,()))
abbrev adl:=xH aj
def qq(l:List bF):Option (List bF):=W.aY (λ(z1:S24) bp=>W.af (decide (z1.1<(l.length:Int))) (W.aI l z1.1 λx3=>W.ae (xH W x3) λv4=>W.bi (z1.2.1.length+(v4::[]).length) 56 (bp (i64.wrap (z1.1+1),z1.2.1++(v4::[]),()))) (some z1.2.1)) (0,[],())
abbrev Qk:=qq aj
def EU(l:List bF)(i:bF):Option ((List bF)×Int×Unit):=W.ae (p8 W i) λv1=>W.af (v1 != 0) (some ([],v1,())) (W.ae (BG W l i.1) λv2=>W.af (decide (0<=v2)) (some ([],12,())) (W.ae (dC W i.1 i.2.1 i.2.2.1 i.2.2.2.1 i.2.2.2.2.1 l) λv3=>W.aH (λ(z4:Int×Unit)=>W.ae (qq W l) λv5=>W.ae (xH W v3.2) λv6=>W.ae (Bo v5 z4.1 (v6::[])) λv7=>some (v7.1,0,())) λk8=>W.af (decide (v3.1<0)) (k8 ((l.length:Int),())) (k8 (v3.1,()))))
abbrev adI:=EU aj
def ko(p:Int):Option Bool:=W.af (decide (0<=p)) (some (decide (p<=2147483647))) (some false)
abbrev Mc:=ko aj
def kr(a:bf):Option Int:=W.aH (λ(z1:Bool×Unit)=>W.af z1.1 (some 2) (some 0)) λk2=>W.af (decide (a.1<1)) (k2 (true,())) (W.af (decide (4<a.1)) (k2 (true,())) (W.ae (ko W a.2.1) λv3=>W.af (!v3) (k2 (true,())) (W.af (decide (a.2.2.1<0)) (k2 (true,())) (k2 (decide (10000<a.2.2.1),())))))
abbrev PD:=kr aj
def jM(l:List bf)(id:Int):Option (bf×Bool×Unit):=W.aY (λ(z1:Int×Unit) bp=>W.af (decide (z1.1<(l.length:Int))) (W.aI l z1.1 λx3=>W.af (x3.1==id) (some (x3,true,())) (bp (i64.wrap (z1.1+1),()))) (some ((0,0,0,()),false,()))) (0,())
abbrev JT:=jM aj
def xO(W:Wd)(xp:Int):Option Bool:=some (xp != xp)
abbrev XW:=xO aj
def qp(xp y:Int):Option Int:=W.ae (xO W xp) λv1=>W.ae (xO W y) λv2=>W.af v1 (W.af v2 (some 0) (some (-1))) (W.af v2 (some 1) (W.af (decide (xp<y)) (some (-1)) (W.af (decide (y<xp)) (some 1) (some 0))))
abbrev Qj:=qp aj
def uH(a:bf)(id:Int):Option Int:=W.ae (qp W a.1 id) λv1=>some v1
abbrev Lf:=uH aj
def cD(xp:List bf)(target:Int):Option ((Int×Bool×Unit)×Unit):=W.aY (λ(z1:S11) bp=>W.af (decide (z1.1<z1.2.1)) (W.i7 1 (W.aI xp (i64.wrap (Int.fdiv (u64.wrap (i64.wrap (z1.1+z1.2.1))) (2 ^ (min (Int.toNat 1) u64.bits)))) λx3=>W.ae (uH W x3 target) λv4=>W.af (decide (v4<0)) (bp (i64.wrap ((i64.wrap (Int.fdiv (u64.wrap (i64.wrap (z1.1+z1.2.1))) (2 ^ (min (Int.toNat 1) u64.bits))))+1),z1.2)) (bp (z1.1,i64.wrap (Int.fdiv (u64.wrap (i64.wrap (z1.1+z1.2.1))) (2 ^ (min (Int.toNat 1) u64.bits))),())))) (W.af (decide (z1.1<(xp.length:Int))) (W.aI xp z1.1 λx5=>W.ae (uH W x5 target) λv6=>some ((z1.1,v6==0,()),())) (some ((z1.1,false,()),())))) (0,(xp.length:Int),())
abbrev kA:=cD aj
def eV(s:List bf):Option (List bf):=W.rj (List.isEmpty s) λg1=>W.af (dq false g1) (some []) (W.bi ((0:Nat)+s.length) 24 (some ([]++s)))
abbrev wQ:=eV aj
def BQ(l:List bf)(a:bf):Option ((List bf)×Int×Unit):=W.ae (kr W a) λv1=>W.af (v1 != 0) (some ([],v1,())) (W.ae (jM W l a.1) λv2=>W.af v2.2.1 (some ([],12,())) (W.ae (cD W l a.1) λv3=>W.two (W.ae (eV W l) λv4=>W.ae (CO v4 v3.1.1 (a::[])) λv5=>some (v5.1,0,()))))
abbrev X0:=BQ aj
def fO(d:aK):Option ((aW×Int×Unit)×aK):=W.two (W.ae (iz W d.2.1 d.2.2.2.2.2.2.2.2.2.2.2.2.2.2.1) λv1=>W.af (!v1.2.1) (some (((0,0,0,0,()),11,()),d)) (some ((v1.1,0,()),d)))
abbrev CX:=fO aj
def uj(kind:Int):Option Int:=W.af (kind==1) (some 0) (W.af (kind==4) (some 1) (some 16))
abbrev XH:=uj aj
def rM(a:aD):Option Int:=W.aH (λ(z1:Bool×Unit)=>W.aH (λ(z2:Bool×Unit)=>W.af z2.1 (some 2) (W.aY (λ(z3:S11) ag8=>W.af (decide (z3.2.1<(a.2.2.2.1.length:Int))) (W.aI a.2.2.2.1 z3.2.1 λx5=>W.aH (λ(z6:Bool×Unit)=>W.af z6.1 (some 2) (ag8 (x5,i64.wrap (z3.2.1+1),()))) λk7=>W.af (decide (x5<=z3.1)) (k7 (true,())) (k7 (decide (16<x5),()))) (some 0)) (0,0,()))) λk8=>W.af (!z1.1) (k8 (true,())) (W.af (decide (a.2.2.1<1)) (k8 (true,())) (W.af (decide (4<a.2.2.1)) (k8 (true,())) (W.ae (uj W a.2.2.1) λv9=>(k8 (decide (v9<(a.2.2.2.1.length:Int)),())))))) λva=>W.af (decide (1<=a.1)) (W.af (decide (a.1<=16)) (W.af (decide (1<=a.2.1)) (va (decide (a.2.1<=8),())) (va (false,()))) (va (false,()))) (va (false,()))
abbrev afI:=rM aj
def qo(l:List aD):Option (List aD):=W.aY (λ(z1:S22) bp=>W.af (decide (z1.1<(l.length:Int))) (W.aI l z1.1 λx3=>W.ae (nF W x3) λv4=>W.bi (z1.2.1.length+(v4::[]).length) 48 (bp (i64.wrap (z1.1+1),z1.2.1++(v4::[]),()))) (some z1.2.1)) (0,[],())
abbrev adE:=qo aj
def ER(l:List aD)(a:aD):Option ((List aD)×Int×Unit):=W.ae (rM W a) λv1=>W.af (v1 != 0) (some ([],v1,())) (W.ae (l7 W l a.1) λv2=>W.af v2.2.1 (some ([],12,())) (W.ae (qo W l) λv3=>W.ae (nF W a) λv4=>W.ae (yh v3 v2.1 (v4::[])) λv5=>some (v5.1,0,())))
abbrev ap9:=ER aj
def jE(d:aK):Option (Int×aK):=W.af (d.2.2.2.2.2.2.2.2.2.2.2.2.2.2.2.2.1 != 0) (some (2,d)) (W.ae (fO W d) λv1=>W.aH (λ(z2:Int×Unit)=>W.aH (λ(z3:S1)=>some z3) λk4=>W.af (z2.1==0) (W.ae (ER W v1.2.2.2.2.2.1 (v1.2.2.2.2.2.2.2.2.2.2.2.2.2.2.2.2.1,v1.2.2.2.2.2.2.2.2.2.2.2.2.2.2.2.1,v1.2.2.2.2.2.2.2.2.2.2.2.2.2.2.2.2.2.2.2.2.2.2.2.1,[],())) λv5=>(k4 (v5.2.1,U4 v1.2 (v5.1,v1.2.2.2.2.2.2)))) (k4 (z2.1,v1.2))) λk6=>W.af (v1.1.2.1==0) (W.ae (iQ W v1.1.1) λv7=>(k6 (v7,()))) (k6 v1.1.2))
abbrev xc:=jE aj
def EX(xp y:Int):Option Bool:=W.ae (xO W xp) λv1=>W.af v1 (W.ae (xO W y) λv2=>W.af (!v2) (some true) (some (decide (xp<y)))) (some (decide (xp<y)))
abbrev adR:=EX aj
def yl(W:Wd)(xp:Int):Option Bool:=some (xp != xp)
abbrev Ni:=yl aj
def gV(xp:List Int)(target:Int):Option (Int×Bool×Unit):=W.aY (λ(z1:S11) bp=>W.af (decide (z1.1<z1.2.1)) (W.i7 1 (W.aI xp (i64.wrap (Int.fdiv (u64.wrap (i64.wrap (z1.1+z1.2.1))) (2 ^ (min (Int.toNat 1) u64.bits)))) λx3=>W.ae (EX W x3 target) λv4=>W.af v4 (bp (i64.wrap ((i64.wrap (Int.fdiv (u64.wrap (i64.wrap (z1.1+z1.2.1))) (2 ^ (min (Int.toNat 1) u64.bits))))+1),z1.2)) (bp (z1.1,i64.wrap (Int.fdiv (u64.wrap (i64.wrap (z1.1+z1.2.1))) (2 ^ (min (Int.toNat 1) u64.bits))),())))) (W.af (decide (z1.1<(xp.length:Int))) (W.aI xp z1.1 λx5=>W.af (x5==target) (some (z1.1,true,())) (W.aI xp z1.1 λx6=>W.ae (yl W x6) λv7=>W.af v7 (W.ae (yl W target) λv8=>some (z1.1,v8,())) (some (z1.1,false,())))) (some (z1.1,false,())))) (0,(xp.length:Int),())
abbrev BV:=gV aj
def BW(a:aD)(aar:Int):Option (aD×Int×Unit):=W.ae (rM W a) λv1=>W.af (v1 != 0) (some ((0,0,0,[],()),v1,())) (W.ae (gV W a.2.2.2.1 aar) λv2=>W.af (a.2.2.1==1) (some ((0,0,0,[],()),17,())) (W.aH (λ(z3:Bool×Unit)=>W.af z3.1 (some ((0,0,0,[],()),2,())) (W.af v2.2.1 (some ((0,0,0,[],()),12,())) (W.ae (uj W a.2.2.1) λv4=>W.af (decide (v4<=(a.2.2.2.1.length:Int))) (some ((0,0,0,[],()),10,())) (W.ae (jn W a.2.2.2.1) λv5=>W.ae (Iw v5 v2.1 (aar::[])) λv6=>some (U3 a v6,0,()))))) λk7=>W.af (decide (aar<1)) (k7 (true,())) (k7 (decide (16<aar),()))))
abbrev X4:=BW aj
def ET(l:List aD)(a:aD):Option ((List aD)×Int×Unit):=W.ae (rM W a) λv1=>W.af (v1 != 0) (some ([],v1,())) (W.ae (l7 W l a.1) λv2=>W.af (!v2.2.1) (some ([],11,())) (W.ae (qo W l) λv3=>W.ae (nF W a) λv4=>W.aI v3 v2.1 λx5=>W.cr v3 (Int.toNat v2.1) λx6=>some (List.set v3 (Int.toNat v2.1) v4,0,())))
abbrev apA:=ET aj
def pK(d:aK):Option (Int×aK):=W.two (W.ae (mJ W d.2.2.2.2.1 d.2.2.2.2.2.2.2.2.2.2.2.2.2.2.2.1) λv1=>W.af (!v1.2.1) (some (11,d)) (W.two (W.ae (iz W d.2.1 v1.1.2.1) λv2=>W.ae (iQ W v2.1) λv3=>W.af (v3 != 0) (some (v3,d)) (W.two (W.ae (BW W v1.1 d.2.2.2.2.2.2.2.2.2.2.2.2.2.2.2.2.1) λv4=>W.aH (λ(z5:S1)=>some z5) λk6=>W.af (v4.2.1==0) (W.ae (ET W d.2.2.2.2.1 v4.1) λv7=>(k6 (v7.2.1,U4 d (v7.1,d.2.2.2.2.2)))) (k6 (v4.2.1,d)))))))
abbrev Gn:=pK aj
def uG(l:List aW)(m:aW):Option ((List aW)×Int×Unit):=W.ae (oS W m) λv1=>W.af (v1 != 0) (some ([],v1,())) (W.ae (qd W l m.1) λv2=>W.af (decide (v2<0)) (some ([],11,())) (W.ae (eE W l) λv3=>W.aI v3 v2 λx4=>W.cr v3 (Int.toNat v2) λx5=>some (List.set v3 (Int.toNat v2) m,0,())))
abbrev Uw:=uG aj
def n9(d:aK):Option (Int×aK):=W.aH (λ(z1:S1)=>some z1) λk2=>W.af (d.2.2.2.2.2.2.2.2.2.2.2.2.1==1) (W.ae (y8 W d.2.1 (d.2.2.2.2.2.2.2.2.2.2.2.2.2.2.1,d.2.2.2.2.2.2.2.2.2.2.2.2.2.2.2.2.2.2.2.2.2.2.2.1,0,0,())) λv3=>(k2 (v3.2.1,d.1,v3.1,d.2.2))) (W.af (d.2.2.2.2.2.2.2.2.2.2.2.2.1==2) (W.ae (EU W d.2.2.1 (d.2.2.2.2.2.2.2.2.2.2.2.2.2.2.2.2.2.2.2.1,d.2.2.2.2.2.2.2.2.2.2.2.2.2.2.2.2.2.2.2.2.2.2.2.1,d.2.2.2.2.2.2.2.2.2.2.2.2.2.2.2.2.2.2.2.2.2.2.2.2.1,d.2.2.2.2.2.2.2.2.2.2.2.2.2.2.2.2.2.2.2.2.2.2.2.2.1,d.2.2.2.2.2.2.2.2.2.2.2.2.2.2.2.2.2.2.2.2.2.2.2.2.2.1,())) λv4=>(k2 (v4.2.1,d.1,d.2.1,v4.1,d.2.2.2))) (W.af (d.2.2.2.2.2.2.2.2.2.2.2.2.1==3) (W.ae (BQ W d.2.2.2.1 (d.2.2.2.2.2.2.2.2.2.2.2.2.2.2.2.2.2.2.2.2.1,d.2.2.2.2.2.2.2.2.2.2.2.2.2.2.2.2.2.2.2.2.2.2.2.2.1,d.2.2.2.2.2.2.2.2.2.2.2.2.2.2.2.2.2.2.2.2.2.2.2.1,())) λv5=>(k2 (v5.2.1,U3 d (v5.1,d.2.2.2.2)))) (W.af (d.2.2.2.2.2.2.2.2.2.2.2.2.1==4) (W.ae (jE W d) λv6=>(k2 v6)) (W.af (d.2.2.2.2.2.2.2.2.2.2.2.2.1==5) (W.ae (pK W d) λv7=>(k2 v7)) (W.af (d.2.2.2.2.2.2.2.2.2.2.2.2.1==6) (W.ae (fO W d) λv8=>W.af (v8.1.2.1 != 0) (some (v8.1.2.1,v8.2)) (W.ae (uG W v8.2.2.1 (v8.1.1.1,v8.2.2.2.2.2.2.2.2.2.2.2.2.2.2.2.2.2.2.2.2.2.2.2.2.1,v8.1.1.2.2)) λv9=>(k2 (v9.2.1,v8.2.1,v9.1,v8.2.2.2)))) (k2 (0,d)))))))
abbrev Pr:=n9 aj
def jD(d:aK)(u:ar):Option (Int×aK):=W.ae (nV W d.2.2.2.2.1 u) λv1=>W.af (v1==0) (some (11,d)) (some (0,d))
abbrev DE:=jD aj
def iS(d:aK)(u:ar):Option (aW×aK):=W.gJ (W.ae (nV W d.2.2.2.2.1 u) λv1=>W.two (W.ae (iz W d.2.1 v1) λv2=>some (v2.1,d))) (W.ae (nV W d.2.2.2.2.1 u) λv4=>W.ae (iz W d.2.1 v4) λv5=>some (v5.1,d))
abbrev E4:=iS aj
def fF(d:aK)(l:List ar):Option (Int×aK):=W.aY (λ(z1:S1) bp=>W.af (decide (z1.1<(l.length:Int))) (W.aI l z1.1 λx3=>W.ae (jD W z1.2 x3) λv4=>W.af (v4.1 != 0) (some v4) (W.ae (iS W v4.2 x3) λv5=>W.ae (iQ W v5.1) λv6=>W.af (v6 != 0) (some (v6,v5.2)) (bp (i64.wrap (z1.1+1),v5.2)))) (some (0,z1.2))) (0,d)
abbrev tP:=fF aj
def qm(l:List bF)(id:Int):Option (bF×Bool×Unit):=W.ae (BG W l id) λv1=>W.af (decide (v1<0)) (some ((0,0,0,0,[],()),false,())) (W.aI l v1 λx2=>W.ae (xH W x2) λv3=>some (v3,true,()))
abbrev WB:=qm aj
def jq(d:aK)(id:Int):Option ((bF×Int×Unit)×aK):=W.ae (qm W d.2.2.1 id) λv1=>W.af (!v1.2.1) (some (((0,0,0,0,[],()),11,()),d)) (some ((v1.1,0,()),d))
abbrev Rk:=jq aj
def CU(l:List ar):Option Bool:=W.aY (λ(z1:S11) bp=>W.af (decide (z1.2.1<(l.length:Int))) (W.aI l z1.2.1 λx3=>W.aH (λ(z4:Bool×Unit)=>W.af z4.1 (some false) (bp (x3.1,i64.wrap (z1.2.1+1),()))) λk5=>W.af (decide (x3.1<=z1.1)) (k5 (true,())) (W.af (decide (8<x3.1)) (k5 (true,())) (k5 (x3.2.1==0,())))) (some true)) (0,0,())
abbrev awM:=CU aj
def mQ(a b:ar):Option Bool:=W.af (a.1 != b.1) (some (decide (a.1<b.1))) (some (decide (a.2.1<b.2.1)))
abbrev Pd:=mQ aj
def nU(l:List bC):Option Bool:=W.aY (λ(z1:Int×Unit) bp=>W.af (decide (z1.1<(l.length:Int))) (W.aI l z1.1 λx3=>W.aH (λ(z4:Bool×Unit)=>W.af z4.1 (some false) (bp (i64.wrap (z1.1+1),()))) λk5=>W.af ((x3.2.1.length:Int)==0) (W.two (k5 (true,()))) (W.ae (CU W x3.2.1) λv6=>W.af (!v6) (W.two (k5 (true,()))) (W.af (decide (0<z1.1)) (W.aI l (i64.wrap (z1.1-1)) λx7=>W.two (W.ae (mQ W x7.1 x3.1) λv8=>(k5 (!v8,())))) (W.two (k5 (false,())))))) (some true)) (0,())
abbrev Yk:=nU aj
def nG(l:List aR):Option Bool:=W.aY (λ(z1:Int×Unit) bp=>W.af (decide (z1.1<(l.length:Int))) (W.aI l z1.1 λx3=>W.aH (λ(z4:Bool×Unit)=>W.af z4.1 (some false) (bp (i64.wrap (z1.1+1),()))) λk5=>W.af (x3.2.1==0) (k5 (true,())) (W.af (decide (0<z1.1)) (W.aI l (i64.wrap (z1.1-1)) λx6=>W.ae (mQ W x6.1 x3.1) λv7=>(k5 (!v7,()))) (k5 (false,())))) (some true)) (0,())
abbrev L4:=nG aj
def Hv(d:uz):Option Bool:=W.ae (nU W d.1) λv1=>W.af v1 (W.ae (nG W d.2.1) λv2=>some v2) (some false)
abbrev asv:=Hv aj
def yT(i:bF)(je fg:Int):Option Bool:=W.ae (p8 W i) λv1=>W.af (v1==0) (W.af (decide (0<=fg)) (W.af (decide (fg<=2147483647)) (W.af (je != 0) (W.af (decide ((-1099511627776)<=je)) (some (decide (je<=1099511627776))) (some false)) (some false)) (some false)) (some false)) (some false)
abbrev Uf:=yT aj
def pE(n:Int):Option bU:=W.i7 63 (some (Int.fdiv n (2 ^ (min (Int.toNat 63) i64.bits)),u64.wrap n,()))
abbrev ahq:=pE aj
def fj(W:Wd)(w:bU):Option Bool:=some (decide (w.1<0))
abbrev qD:=fj aj
def ir(w:bU):Option O9:=W.ae (fj W w) λv1=>W.af (!v1) (some (u64.wrap w.1,w.2)) (W.ae (Hf 0 w.2.1 0) λv2=>W.ae (Hf 0 (u64.wrap w.1) v2.2.1) λv3=>some (v3.1,v2.1,()))
abbrev AV:=ir aj
def j7(xp y:Int):Option (Int×Int×Unit):=W.i7 32 (W.i7 32 (W.i7 32 (W.i7 32 (W.i7 32 (some (u64.wrap ((u64.wrap ((u64.wrap ((Int.fdiv xp (2 ^ (min (Int.toNat 32) u64.bits)))*(Int.fdiv y (2 ^ (min (Int.toNat 32) u64.bits)))))+(Int.fdiv (u64.wrap ((u64.wrap ((Int.fdiv xp (2 ^ (min (Int.toNat 32) u64.bits)))*(Go.bits Go.BinOp.and u64 y 4294967295)))+(Int.fdiv (u64.wrap ((Go.bits Go.BinOp.and u64 xp 4294967295)*(Go.bits Go.BinOp.and u64 y 4294967295))) (2 ^ (min (Int.toNat 32) u64.bits))))) (2 ^ (min (Int.toNat 32) u64.bits)))))+(Int.fdiv (u64.wrap ((Go.bits Go.BinOp.and u64 (u64.wrap ((u64.wrap ((Int.fdiv xp (2 ^ (min (Int.toNat 32) u64.bits)))*(Go.bits Go.BinOp.and u64 y 4294967295)))+(Int.fdiv (u64.wrap ((Go.bits Go.BinOp.and u64 xp 4294967295)*(Go.bits Go.BinOp.and u64 y 4294967295))) (2 ^ (min (Int.toNat 32) u64.bits))))) 4294967295)+(u64.wrap ((Go.bits Go.BinOp.and u64 xp 4294967295)*(Int.fdiv y (2 ^ (min (Int.toNat 32) u64.bits))))))) (2 ^ (min (Int.toNat 32) u64.bits)))),u64.wrap (xp*y),()))))))
abbrev zE:=j7 aj
def gX(s:O9)(minus:Bool):Option (bU×Bool×Unit):=W.af (!minus) (some ((i64.wrap s.1,s.2),decide (s.1<9223372036854775808),())) (W.ae (Hf 0 s.2.1 0) λv1=>W.ae (Hf 0 s.1 v1.2.1) λv2=>W.af (decide (s.1<9223372036854775808)) (some ((i64.wrap v2.1,v1.1,()),true,())) (W.af (s.1==9223372036854775808) (some ((i64.wrap v2.1,v1.1,()),s.2.1==0,())) (some ((i64.wrap v2.1,v1.1,()),false,()))))
abbrev jm:=gX aj
def pC(a b:Int):Option bU:=W.ae (pE W a) λv1=>W.ae (pE W b) λv2=>W.ae (ir W v1) λv3=>W.ae (ir W v2) λv4=>W.ae (j7 W v3.2.1 v4.2.1) λv5=>W.gJ (W.ae (fj W v1) λv6=>W.gJ (W.ae (fj W v2) λv7=>W.two (W.ae (gX W v5 (dq true (v6==v7))) λv8=>some v8.1)) (W.ae (fj W v2) λv10=>W.ae (gX W v5 (dq true (v6==v10))) λv11=>some v11.1)) (W.ae (fj W v1) λv12=>W.ae (fj W v2) λIb=>W.ae (gX W v5 (dq true (v12==Ib))) λv14=>some v14.1)
abbrev Eb:=pC aj
def lV(w:bU)(ok:Bool):Option (bU×Int×Unit):=W.af (!ok) (some ((0,0,()),7,())) (some (w,0,()))
abbrev ad8:=lV aj
def uB(w:bU)(n:Int):Option (bU×Int×Unit):=W.ae (ir W w) λv1=>W.ae (pE W n) λv2=>W.ae (ir W v2) λv3=>W.ae (j7 W v1.1 v3.2.1) λv4=>W.ae (j7 W v1.2.1 v3.2.1) λv5=>W.ae (Jw v4.2.1 v5.1 0) λv6=>W.ae (fj W w) λv7=>W.ae (gX W (v6.1,v5.2) (dq true (v7==(decide (n<0))))) λv8=>W.af v8.2.1 (W.af (v4.1==0) (W.ae (lV W v8.1 (v6.2.1==0)) λv9=>some v9) (W.ae (lV W v8.1 false) λv10=>some v10)) (W.ae (lV W v8.1 false) λv11=>some v11)
abbrev afR:=uB aj
def qS(w:bU):Option (Int×Int×Unit):=W.ae (pE W (i64.wrap w.2.1)) λv1=>W.af (dq true ((v1.1==w.1)&&(v1.2.1==w.2.1))) (some (0,7,())) (some (i64.wrap w.2.1,0,()))
abbrev M5:=qS aj
def xG(i:bF)(je from_ uR:Int):Option (Int×Int×Unit):=W.aH (λ(z1:Bool×Unit)=>W.af z1.1 (some (0,2,())) (W.ae (pC W (i64.wrap (uR-from_)) i.2.1) λv2=>W.ae (uB W v2 je) λv3=>W.af (v3.2.1 != 0) (some (0,v3.2)) (W.ae (qS W v3.1) λv4=>some v4))) λk5=>W.ae (p8 W i) λv6=>W.af (v6 != 0) (k5 (true,())) (W.ae (lT W from_) λv7=>W.af (!v7) (k5 (true,())) (W.ae (lT W uR) λv8=>(k5 (!v8,()))))
abbrev ak7:=xG aj
def xF(l:List ar):Option Bool:=W.ae (CU W l) λv1=>some (!v1)
abbrev aoJ:=xF aj
def jN(t0 t1 t2:Int)(w:bU):Option (Unit×(Int×Int×Int×Unit)):=W.ae (Jw t2 w.2.1 0) λv1=>W.ae (Jw (u64.wrap t1) (u64.wrap w.1) v1.2.1) λv2=>W.i7 63 (some ((),i64.wrap (t0+(i64.wrap ((Int.fdiv w.1 (2 ^ (min (Int.toNat 63) i64.bits)))+(i64.wrap v2.2.1)))),i64.wrap v2.1,v1.1,()))
abbrev BO:=jN aj
def mm(t0 t1 t2:Int):Option ((bU×Int×Unit)×(Int×Int×Int×Unit)):=W.i7 63 (W.ae (lV W (t1,t2,()) (t0==(Int.fdiv t1 (2 ^ (min (Int.toNat 63) i64.bits))))) λv1=>some (v1,t0,t1,t2,()))
abbrev Ri:=mm aj
def EP(a b:bU):Option (bU×Int×Unit):=W.ae (jN W 0 0 0 a) λv1=>W.ae (jN W v1.2.1 v1.2.2.1 v1.2.2.2.1 (Go.bits Go.BinOp.xor i64 (if true=true then(-1)else(if true=true then((2 ^ (i64.bits-1))-1)else((2 ^ i64.bits)-1))) b.1,Go.bits Go.BinOp.xor u64 (if false=true then(-1)else(if false=true then((2 ^ (u64.bits-1))-1)else((2 ^ u64.bits)-1))) b.2.1,())) λv2=>W.ae (pE W 1) λv3=>W.ae (jN W v2.2.1 v2.2.2.1 v2.2.2.2.1 v3) λv4=>W.ae (mm W v4.2.1 v4.2.2.1 v4.2.2.2.1) λv5=>some v5.1
abbrev apq:=EP aj
def p9(w:bU)(e:Int):Option (Int×Int×Unit):=W.af (e != 0) (some (0,e,())) (W.ae (qS W w) λv1=>some v1)
abbrev JR:=p9 aj
def y7(a b:Int):Option (Int×Int×Unit):=W.ae (pE W a) λv1=>W.ae (pE W b) λv2=>W.ae (EP W v1 v2) λv3=>W.ae (p9 W v3.1 v3.2.1) λv4=>some v4
abbrev ZT:=y7 aj
def tp(l:List ar):Option ((List ar)×Int×Unit):=W.ae (xF W l) λv1=>W.af v1 (some ([],3,())) (W.aY (λ(z2:S6) gj=>W.af (decide (z2.1<(l.length:Int))) (W.aI l z2.1 λx4=>W.ae (y7 W 0 x4.2.1) λv5=>W.af (v5.2.1 != 0) (some ([],v5.2)) (W.bi (z2.2.1.length+((x4.1,v5.1,())::[]).length) 16 (gj (i64.wrap (z2.1+1),z2.2.1++((x4.1,v5.1,())::[]),())))) (some (z2.2.1,0,()))) (0,[],()))
abbrev Yq:=tp aj
def fE(s:List ar):Option (List ar):=W.rj (List.isEmpty s) λg1=>W.af (dq false g1) (some []) (W.bi ((0:Nat)+s.length) 16 (some ([]++s)))
abbrev rm:=fE aj
def rN(l:List bC)(u:ar):Option (List ar):=W.aY (λ(z1:Int×Unit) bp=>W.af (decide (z1.1<(l.length:Int))) (W.aI l z1.1 λx3=>W.af (dq false ((x3.1.1==u.1)&&(x3.1.2.1==u.2.1))) (W.ae (fE W x3.2.1) λv4=>some v4) (bp (i64.wrap (z1.1+1),()))) (some [])) (0,())
abbrev L5:=rN aj
def ek(s:List (List ar)):Option (Int×Unit):=W.aY (λ(z1:Int×Unit) bp=>W.af (decide (z1.1<(s.length:Int))) (W.aI s z1.1 λx3=>W.ae (xF W x3) λv4=>W.af v4 (some z1) (bp (i64.wrap (z1.1+1),()))) (some (-1,()))) (0,())
abbrev qX:=ek aj
def dF(s:List (List ar)):Option (Bool×Unit):=W.ae (ek W s) λv1=>some (decide (0<=v1.1),())
abbrev pT:=dF aj
def EN(l:List ar)(inst:Int):Option Int:=W.aY (λ(z1:Int×Unit) bp=>W.af (decide (z1.1<(l.length:Int))) (W.aI l z1.1 λx3=>W.af (x3.1==inst) (some x3.2.1) (bp (i64.wrap (z1.1+1),()))) (some 0)) (0,())
abbrev ai2:=EN aj
def sF(l:List bU):Option (bU×Int×Unit):=W.aY (λ(z1:S17) bp=>W.af (decide (z1.1<(l.length:Int))) (W.aI l z1.1 λx3=>W.ae (jN W z1.2.1 z1.2.2.1 z1.2.2.2.1 x3) λv4=>(bp (i64.wrap (z1.1+1),v4.2))) (W.ae (mm W z1.2.1 z1.2.2.1 z1.2.2.2.1) λv5=>some v5.1)) (0,0,0,0,())
abbrev yC:=sF aj
def jB(l:List Int):Option (Int×Int×Unit):=W.i7 (l.length:Int) (W.bi (Int.toNat (l.length:Int)) 16 (W.aY (λ(z1:S6) bp=>W.af (decide (z1.1<(l.length:Int))) (W.aI l z1.1 λx3=>W.ae (pE W x3) λv4=>W.bi (z1.2.1.length+(v4::[]).length) 16 (bp (i64.wrap (z1.1+1),z1.2.1++(v4::[]),()))) (W.ae (sF W z1.2.1) λv5=>W.ae (p9 W v5.1 v5.2.1) λv6=>some v6)) (0,[],())))
abbrev Ih:=jB aj
def BD(l:List (List ar)):Option ((List ar)×Int×Unit):=W.ae (dF W l) λv1=>W.af v1.1 (some ([],3,())) (W.aY (λ(z2:S6) gj=>W.af (decide (z2.1<=8)) (W.aH (λ(z4:List ar×Unit)=>(gj (i64.wrap (z2.1+1),z4))) λk5=>W.aY (λ(z6:S19) Va=>W.af (decide (z6.1<(l.length:Int))) (W.aI l z6.1 λx8=>W.ae (EN W x8 z2.1) λv9=>W.bi (z6.2.2.1.length+(v9::[]).length) 8 (Va (i64.wrap (z6.1+1),z6.2.1,z6.2.2.1++(v9::[]),()))) (W.ae (jB W z6.2.2.1) λv10=>W.af (v10.2.1 != 0) (some ([],v10.2)) (W.af (v10.1 != 0) (W.bi (z6.2.1.length+((z2.1,v10.1,())::[]).length) 16 (k5 (z6.2.1++((z2.1,v10.1,())::[]),()))) (k5 (z6.2.1,()))))) (0,z2.2.1,[],())) (some (z2.2.1,0,()))) (1,[],()))
abbrev ai0:=BD aj
def yS(l:List bC)(u:ar):Option (Int×Bool×Unit):=W.aY (λ(z1:Int×Unit) bp=>W.af (decide (z1.1<(l.length:Int))) (W.aI l z1.1 λx3=>W.ae (mQ W x3.1 u) λv4=>W.af (!v4) (some (z1.1,dq false ((x3.1.1==u.1)&&(x3.1.2.1==u.2.1)),())) (bp (i64.wrap (z1.1+1),()))) (some ((l.length:Int),false,()))) (0,())
abbrev afN:=yS aj
def vM(l:List bC):Option (List bC):=W.aY (λ(z1:S25) bp=>W.af (decide (z1.1<(l.length:Int))) (W.aI l z1.1 λx3=>W.ae (fE W x3.2.1) λv4=>W.bi (z1.2.1.length+((x3.1,v4,())::[]).length) 40 (bp (i64.wrap (z1.1+1),z1.2.1++((x3.1,v4,())::[]),()))) (some z1.2.1)) (0,[],())
abbrev acX:=vM aj
def nT(l:List bC)(u:ar)(eT:List ar):Option ((List bC)×Int×Unit):=W.ae (nU W l) λv1=>W.af (!v1) (some ([],3,())) (W.ae (rN W l u) λv2=>W.ae (BD W (v2::(eT::[]))) λv3=>W.af (v3.2.1 != 0) (some ([],v3.2)) (W.ae (yS W l u) λv4=>W.ae (vM W l) λv5=>W.aH (λ(z6:List ar×List bC×Unit)=>W.aH (λ(z7:List bC×Unit)=>some (z7.1,0,())) λk8=>W.af (decide (0<(z6.1.length:Int))) (W.ae (Es z6.2.1 v4.1 ((u,z6.1,())::[])) λv9=>(k8 v9)) (k8 z6.2)) λva=>W.af v4.2.1 (W.ae (Er v5 v4.1 (i64.wrap (v4.1+1))) λv11=>(va (v3.1,v11))) (va (v3.1,v5,()))))
abbrev xi:=nT aj
def rO(l:List bC)(from_ uR:ar)(eT:List ar):Option ((List bC)×Int×Unit):=W.ae (nU W l) λv1=>W.af (!v1) (some ([],3,())) (W.ae (tp W eT) λv2=>W.af (v2.2.1 != 0) (some ([],v2.2)) (W.ae (nT W l from_ v2.1) λv3=>W.af (v3.2.1 != 0) (some ([],v3.2)) (W.ae (nT W v3.1 uR eT) λv4=>some v4)))
abbrev IM:=rO aj
def fT(aas:List (List aR)):Option (List aR):=W.aY (λ(z1:S11) bp=>W.af (decide (z1.2.1<(aas.length:Int))) (W.aI aas z1.2.1 λx3=>W.af (decide ((i64.wrap (z1.1+(x3.length:Int)))<0)) (none) (bp (i64.wrap (z1.1+(x3.length:Int)),i64.wrap (z1.2.1+1),()))) (W.ae (Mw [] z1.1) λv4=>W.aY (λ(z5:S20) FN=>W.af (decide (z5.1<(aas.length:Int))) (W.aI aas z5.1 λx7=>W.bi (z5.2.1.length+x7.length) 24 (FN (i64.wrap (z5.1+1),z5.2.1++x7,()))) (some z5.2.1)) (0,v4))) (0,0,())
abbrev pD:=fT aj
def vV(l:List aR):Option (List ar):=W.aY (λ(z1:S6) bp=>W.af (decide (z1.1<(l.length:Int))) (W.aI l z1.1 λx3=>(bp (i64.wrap (z1.1+1),Go.Vc.QW z1.2.1 x3.1,()))) (W.aY (λ(z4:(List ar×List ar×Unit)×List ar×Unit) rX=>W.aH (λ(z6:Bool×(List ar×List ar×Unit)×List ar×Unit)=>W.af z6.1 (W.aI z6.2.1.2.1 ((z6.2.1.2.1.length:Int)-1) λx7=>W.bi (z6.2.2.1.length+(x7::[]).length) 16 (rX (z6.2.1,z6.2.2.1++(x7::[]),()))) (W.ae (Bs z6.2.2.1) λv8=>some v8)) λk9=>W.ME (Go.Vc.P0 z4.1.1 z4.1.2.1) (λc10=>(k9 (true,(z4.1.1,z4.1.2.1++(c10::[]),()),z4.2))) (k9 (false,z4))) ((z1.2.1,[],()),[],()))) (0,[],())
abbrev adA:=vV aj
def rR(l:List aR)(u:ar):Option (List Int):=W.aY (λ(z1:S10) bp=>W.af (decide (z1.1<(l.length:Int))) (W.aH (λ(z3:S23)=>(bp (i64.wrap (z1.1+1),z3))) λk4=>W.aI l z1.1 λx5=>W.af (dq false ((x5.1.1==u.1)&&(x5.1.2.1==u.2.1))) (W.bi (z1.2.1.length+(x5.2.1::[]).length) 8 (k4 (z1.2.1++(x5.2.1::[]),()))) (k4 z1.2)) (some z1.2.1)) (0,[],())
abbrev VT:=rR aj
def rS(l azT:List aR):Option ((List aR)×Int×Unit):=W.ae (nG W l) λv1=>W.af (!v1) (some ([],3,())) (W.ae (fT W (l::(azT::[]))) λv2=>W.ae (vV W v2) λv3=>W.aY (λ(z4:Int×List aR×List ar×List aR×Unit) rX=>W.af (decide (z4.1<(v3.length:Int))) (W.aH (λ(z6:List aR×List ar×List aR×Unit)=>(rX (i64.wrap (z4.1+1),z6))) λk7=>W.aI z4.2.2.1 z4.1 λx8=>W.cr z4.2.2.1 (Int.toNat z4.1) λx9=>W.ae (rR W z4.2.1 x9) λv10=>W.ae (jB W v10) λv11=>W.af (v11.2.1 != 0) (some ([],v11.2)) (W.af (v11.1 != 0) (W.bi (z4.2.2.2.1.length+((x9,v11.1,())::[]).length) 24 (k7 (z4.2.1,z4.2.2.1,z4.2.2.2.1++((x9,v11.1,())::[]),()))) (k7 z4.2))) (some (z4.2.2.2.1,0,()))) (0,v2,v3,[],()))
abbrev AL:=rS aj
def mb(l:List aR)(from_ uR:ar)(DG:Int):Option ((List aR)×Int×Unit):=W.ae (y7 W 0 DG) λv1=>W.aH (λ(z2:Bool×Unit)=>W.af z2.1 (some ([],v1.2)) (W.ae (rS W l ((from_,v1.1,())::((uR,DG,())::[]))) λv3=>some v3)) λk4=>W.af (v1.2.1 != 0) (W.ae (nG W l) λv5=>(k4 (v5,()))) (k4 (false,()))
abbrev rD:=mb aj
def Hw(d:uz)(i:bF)(from_ uR:ar)(je fg:Int):Option (uz×Int×Unit):=W.ae (Hv W d) λv1=>W.af (!v1) (some (([],[],()),3,())) (W.ae (yT W i je fg) λv2=>W.af (!v2) (some (([],[],()),2,())) (W.af (dq false ((from_.1==uR.1)&&(from_.2.1==uR.2.1))) (some (([],[],()),24,())) (W.ae (xG W i je fg i.2.2.1) λv3=>W.af (v3.2.1 != 0) (some (([],[],()),v3.2)) (W.ae (rO W d.1 from_ uR ((i.1,je,())::[])) λv4=>W.af (v4.2.1 != 0) (some (([],[],()),v4.2)) (W.ae (mb W d.2.1 from_ uR v3.1) λv5=>W.af (v5.2.1 != 0) (some (([],[],()),v5.2)) (some ((v4.1,v5.1,()),0,())))))))
abbrev ai4:=Hw aj
def pI(d:aK)(from_ uR xp:ar)(fg:Int):Option (Int×aK):=W.ae (jq W d xp.1) λv1=>W.af (v1.1.2.1 != 0) (some (v1.1.2.1,v1.2)) (W.two (W.ae (Hw W (v1.2.2.2.2.2.2.2.2.2.1,v1.2.2.2.2.2.2.2.2.2.2.2.1,()) v1.1.1 from_ uR xp.2.1 fg) λv2=>W.aH (λ(z3:S0)=>some (v2.2.1,z3)) λk4=>W.af (v2.2.1==0) (k4 (U8 v1.2 (v2.1.1,v1.2.2.2.2.2.2.2.2.2.2.1,v2.1.2.1,v1.2.2.2.2.2.2.2.2.2.2.2.2))) (k4 v1.2)))
abbrev JA:=pI aj
def xg(W:Wd)(gR:Int)(a:aD):Option (Bool×(Int×Unit)):=some (a.2.1 != gR,gR,())
abbrev ajk:=xg aj
def cC(DF:Int)(s:List aD):Option (Int×(Int×Unit)):=W.aY (λ(z1:S11) bp=>W.af (decide (z1.1<(s.length:Int))) (W.aI s z1.1 λx3=>W.ae (xg W z1.2.1 x3) λv4=>W.af v4.1 (some (z1.1,v4.2)) (bp (i64.wrap (z1.1+1),v4.2))) (some (-1,z1.2))) (0,DF,())
abbrev iu:=cC aj
def dd(ag9:Int)(s:List aD):Option ((List aD)×(Int×Unit)):=W.ae (cC W ag9 s) λv1=>W.af (v1.1==(-1)) (some (s,v1.2)) (W.aY (λ(z2:Int×Int×Int×List aD×Unit) gj=>W.af (decide (z2.2.1<(z2.2.2.2.1.length:Int))) (W.aH (λ(z4:Int×Int×List aD×Unit)=>(gj (z4.1,i64.wrap (z2.2.1+1),z4.2))) λk5=>W.aI z2.2.2.2.1 z2.2.1 λx6=>W.cr z2.2.2.2.1 (Int.toNat z2.2.1) λx7=>W.ae (xg W z2.2.2.1 x7) λv8=>W.af (!v8.1) (W.aI z2.2.2.2.1 z2.1 λx9=>W.cr z2.2.2.2.1 (Int.toNat z2.1) λx10=>(k5 (i64.wrap (z2.1+1),v8.2.1,List.set z2.2.2.2.1 (Int.toNat z2.1) x7,()))) (k5 (z2.1,v8.2.1,z2.2.2.2))) (W.kY z2.1 z2.2.2.2.1.length λh11=>W.kY (h11:Int) z2.2.2.2.1.length λSg=>W.kY z2.1 ((z2.2.2.2.1.take Sg)++(List.replicate (z2.2.2.2.1.length-Sg) (0,0,0,[],()))).length λh13=>some (((z2.2.2.2.1.take Sg)++(List.replicate (z2.2.2.2.1.length-Sg) (0,0,0,[],()))).take h13,z2.2.2.1,()))) (v1.1,i64.wrap (v1.1+1),v1.2.1,s,()))
abbrev mE:=dd aj
def vb(l:List aD)(axy:Int):Option (List aD):=W.ae (qo W l) λv1=>W.ae (dd W axy v1) λv2=>some v2.1
abbrev Yj:=vb aj
def yV(s:aV)(id:Int):Option (List ar):=W.ae (vb W s.2.2.2.2.1 id) λv1=>W.aY (λ(z2:Int×List aD×List ar×Unit) gj=>W.af (decide (z2.1<(v1.length:Int))) (W.aI z2.2.1 z2.1 λx4=>W.cr z2.2.1 (Int.toNat z2.1) λx5=>W.ae (jo W x5) λv6=>W.bi (z2.2.2.1.length+v6.length) 16 (gj (i64.wrap (z2.1+1),z2.2.1,z2.2.2.1++v6,()))) (some z2.2.2.1)) (0,v1,[],())
abbrev afV:=yV aj
def vo(a:Int):Option (Int×Int×Unit):=W.af (decide (a<0)) (W.ae (y7 W 0 a) λv1=>some v1) (some (a,0,()))
abbrev Md:=vo aj
def BI(l:List ar):Option (Int×Int×Unit):=W.ae (xF W l) λv1=>W.af v1 (some (0,3,())) (W.aY (λ(z2:S10) gj=>W.af (decide (z2.1<(l.length:Int))) (W.aI l z2.1 λx4=>W.ae (vo W x4.2.1) λv5=>W.af (v5.2.1 != 0) (some (0,v5.2)) (W.bi (z2.2.1.length+(v5.1::[]).length) 8 (gj (i64.wrap (z2.1+1),z2.2.1++(v5.1::[]),())))) (W.ae (jB W z2.2.1) λv6=>some v6)) (0,[],()))
abbrev akH:=BI aj
def xI(l:List bC)(aen:List ar):Option (Int×Int×Unit):=W.ae (nU W l) λv1=>W.af (!v1) (some (0,3,())) (W.aY (λ(z2:S10) gj=>W.af (decide (z2.1<(aen.length:Int))) (W.aI aen z2.1 λx4=>W.ae (rN W l x4) λv5=>W.ae (BI W v5) λv6=>W.af (v6.2.1 != 0) (some (0,v6.2)) (W.bi (z2.2.1.length+(v6.1::[]).length) 8 (gj (i64.wrap (z2.1+1),z2.2.1++(v6.1::[]),())))) (W.ae (jB W z2.2.1) λv7=>some v7)) (0,[],()))
abbrev Pa:=xI aj
def uk(s:aV)(id:Int):Option (Int×Int×Unit):=W.ae (yV W s id) λv1=>W.ae (xI W s.2.2.2.2.2.2.2.2.1 v1) λv2=>some v2
abbrev Pb:=uk aj
def lk(d:aK)(l:List ar):Option (Int×aK):=W.aY (λ(z1:S1) bp=>W.af (decide (z1.1<(l.length:Int))) (W.aI l z1.1 λx3=>W.ae (iS W z1.2 x3) λv4=>W.ae (uk W (yb v4.2 ()) v4.1.1) λv5=>W.af (v5.2.1 != 0) (some (v5.2.1,v4.2)) (W.af (decide (v4.1.2.1<v5.1)) (some (16,v4.2)) (bp (i64.wrap (z1.1+1),v4.2)))) (some (0,z1.2))) (0,d)
abbrev HF:=lk aj
def pJ(d:aK):Option (Int×aK):=W.ae (fF W d ((d.2.2.2.2.2.2.2.2.2.2.2.2.2.2.2.1,d.2.2.2.2.2.2.2.2.2.2.2.2.2.2.2.2.1,())::((d.2.2.2.2.2.2.2.2.2.2.2.2.2.2.2.2.2.1,d.2.2.2.2.2.2.2.2.2.2.2.2.2.2.2.2.2.2.1,())::[]))) λv1=>W.af (v1.1 != 0) (some v1) (W.ae (jq W v1.2 v1.2.2.2.2.2.2.2.2.2.2.2.2.2.2.2.2.2.2.2.2.1) λv2=>W.af (v2.1.2.1 != 0) (some (v2.1.2.1,v2.2)) (W.af (decide (v2.2.2.2.2.2.2.2.2.2.2.2.2.2.2.2.2.2.2.2.2.2.2.2.2.1<1)) (some (2,v2.2)) (W.ae (pI W v2.2 (v2.2.2.2.2.2.2.2.2.2.2.2.2.2.2.2.2.2.2.1,v2.2.2.2.2.2.2.2.2.2.2.2.2.2.2.2.2.2.2.2.1,()) (v2.2.2.2.2.2.2.2.2.2.2.2.2.2.2.2.2.1,v2.2.2.2.2.2.2.2.2.2.2.2.2.2.2.2.2.2.1,()) (v2.2.2.2.2.2.2.2.2.2.2.2.2.2.2.2.2.2.2.2.2.1,v2.2.2.2.2.2.2.2.2.2.2.2.2.2.2.2.2.2.2.2.2.2.2.2.2.1,()) v2.2.2.2.2.2.2.2.2.2.2.2.2.2.2.2.2.2.2.2.2.2.2.2.2.2.1) λv3=>W.af (v3.1 != 0) (some v3) (W.ae (lk W v3.2 ((v3.2.2.2.2.2.2.2.2.2.2.2.2.2.2.2.2.1,v3.2.2.2.2.2.2.2.2.2.2.2.2.2.2.2.2.2.1,())::((v3.2.2.2.2.2.2.2.2.2.2.2.2.2.2.2.2.2.2.1,v3.2.2.2.2.2.2.2.2.2.2.2.2.2.2.2.2.2.2.2.1,())::[]))) λv4=>some v4))))
abbrev Rm:=pJ aj
def EW(l:List bZ)(g:bZ)(day:Int):Option ((List bZ)×Int×Int×Unit):=W.af (dq false ((g.2.1.1==g.2.2.1.1)&&(g.2.1.2.1==g.2.2.1.2.1))) (some ([],0,24,())) (W.aH (λ(z1:Bool×Unit)=>W.af z1.1 (some ([],0,2,())) (W.af (decide (64<=(l.length:Int))) (some ([],0,25,())) (W.aH (λ(z2:Int×Unit)=>W.af (((l.length:Int)==(l.length:Int))&&((l.length:Int)==(l.length:Int))) (W.bi (l.length+((z2.1,U5 g.2 (i64.wrap (day+8),1,()))::[]).length) 88 (some (l++((z2.1,U5 g.2 (i64.wrap (day+8),1,()))::[]),z2.1,0,()))) (none)) λk3=>W.af (decide (0<(l.length:Int))) (W.aI l (i64.wrap ((l.length:Int)-1)) λx4=>(k3 (i64.wrap (1+x4.1),()))) (k3 (1,()))))) λk5=>W.af (g.2.2.2.1.2.1==0) (k5 (true,())) (W.af (decide (day<0)) (k5 (true,())) (k5 (decide (1048576<day),()))))
abbrev apF:=EW aj
def mr(d:aK)(g:bZ):Option (Int×aK):=W.ae (EW W d.2.2.2.2.2.2.2.1 g d.1) λv1=>W.aH (λ(z2:S0)=>some (v1.2.2.1,z2)) λk3=>W.af (v1.2.2.1==0) (k3 (U7 d (v1.1,U19 d.2.2.2.2.2.2.2.2 (v1.2.1::[],d.2.2.2.2.2.2.2.2.2.2.2.2.2.2.2.2.2.2.2.2.2.2.2.2.2.2.2.2)))) (k3 d)
abbrev zG:=mr aj
def mT(d:aK):Option (Int×aK):=W.ae (fF W d ((d.2.2.2.2.2.2.2.2.2.2.2.2.2.2.2.1,d.2.2.2.2.2.2.2.2.2.2.2.2.2.2.2.2.1,())::((d.2.2.2.2.2.2.2.2.2.2.2.2.2.2.2.2.2.1,d.2.2.2.2.2.2.2.2.2.2.2.2.2.2.2.2.2.2.1,())::[]))) λv1=>W.af (v1.1 != 0) (some v1) (W.ae (jq W v1.2 v1.2.2.2.2.2.2.2.2.2.2.2.2.2.2.2.2.2.2.2.2.1) λv2=>W.af (v2.1.2.1 != 0) (some (v2.1.2.1,v2.2)) (W.aH (λ(z3:Bool×Unit)=>W.af z3.1 (some (2,v2.2)) (W.ae (mr W v2.2 (0,(v2.2.2.2.2.2.2.2.2.2.2.2.2.2.2.2.2.1,v2.2.2.2.2.2.2.2.2.2.2.2.2.2.2.2.2.2.1,()),(v2.2.2.2.2.2.2.2.2.2.2.2.2.2.2.2.2.2.2.1,v2.2.2.2.2.2.2.2.2.2.2.2.2.2.2.2.2.2.2.2.1,()),(v2.2.2.2.2.2.2.2.2.2.2.2.2.2.2.2.2.2.2.2.2.1,v2.2.2.2.2.2.2.2.2.2.2.2.2.2.2.2.2.2.2.2.2.2.2.2.2.1,()),v2.2.2.2.2.2.2.2.2.2.2.2.2.2.2.2.2.2.2.2.2.2.2.2.2.2.1,0,0,0,())) λv4=>some v4)) λk5=>W.af (decide (v2.2.2.2.2.2.2.2.2.2.2.2.2.2.2.2.2.2.2.2.2.2.2.2.2.1<(-1099511627776))) (k5 (true,())) (W.af (decide (1099511627776<v2.2.2.2.2.2.2.2.2.2.2.2.2.2.2.2.2.2.2.2.2.2.2.2.2.1)) (k5 (true,())) (W.af (decide (v2.2.2.2.2.2.2.2.2.2.2.2.2.2.2.2.2.2.2.2.2.2.2.2.2.2.1<0)) (k5 (true,())) (k5 (decide (2147483647<v2.2.2.2.2.2.2.2.2.2.2.2.2.2.2.2.2.2.2.2.2.2.2.2.2.2.1),()))))))
abbrev Nn:=mT aj
def gn(s:List bZ):Option (List bZ):=W.rj (List.isEmpty s) λg1=>W.af (dq false g1) (some []) (W.bi ((0:Nat)+s.length) 88 (some ([]++s)))
abbrev y9:=gn aj
def xL(l:List bZ)(id state:Int):Option ((List bZ)×Int×Unit):=W.ae (EV W l id) λv1=>W.af (decide (v1<0)) (some ([],11,())) (W.aH (λ(z2:Bool×Unit)=>W.af z2.1 (some ([],2,())) (W.aI l v1 λx3=>W.af (x3.2.2.2.2.2.2.2.1 != 1) (some ([],13,())) (W.ae (gn W l) λv4=>W.aI v4 v1 λx5=>W.cr v4 (Int.toNat v1) λx6=>some (List.set v4 (Int.toNat v1) (U7 x6 (state,())),0,())))) λk7=>W.af (decide (state<2)) (k7 (true,())) (k7 (decide (5<state),())))
abbrev akX:=xL aj
def mU(d:aK):Option (Int×aK):=W.two (W.ae (ul W d.2.2.2.2.2.2.2.1 d.2.2.2.2.2.2.2.2.2.2.2.2.2.2.2.2.2.2.2.2.2.2.1) λv1=>W.af (!v1.2.1) (some (11,d)) (W.ae (fF W d (v1.1.2.1::(v1.1.2.2.1::[]))) λv2=>W.af (v2.1 != 0) (some v2) (W.ae (xL W v2.2.2.2.2.2.2.2.2.1 v1.1.1 2) λv3=>W.af (v3.2.1 != 0) (some (v3.2.1,v2.2)) (W.ae (pI W (U7 v2.2 (v3.1,v2.2.2.2.2.2.2.2.2.2)) v1.1.2.1 v1.1.2.2.1 v1.1.2.2.2.1 v1.1.2.2.2.2.1) λv4=>W.af (v4.1 != 0) (some v4) (W.ae (lk W v4.2 (v1.1.2.1::(v1.1.2.2.1::[]))) λv5=>some v5)))))
abbrev No:=mU aj
def oU(je:Int):Option Bool:=W.af (decide ((-1099511627776)<=je)) (some (decide (je<=1099511627776))) (some false)
abbrev Z9:=oU aj
def eW(s:List bP):Option (List bP):=W.rj (List.isEmpty s) λg1=>W.af (dq false g1) (some []) (W.bi ((0:Nat)+s.length) 48 (some ([]++s)))
abbrev oZ:=eW aj
def uJ(l:List bP)(i je:Int):Option (List bP):=W.ae (eW W l) λv1=>W.aI v1 i λx2=>W.cr v1 (Int.toNat i) λx3=>some (List.set v1 (Int.toNat i) (U4 x3 (je,())))
abbrev ags:=uJ aj
def za(l:List bP)(id je:Int):Option ((List bP)×Int×Unit):=W.ae (xM W l id) λv1=>W.af (decide (v1<0)) (some ([],11,())) (W.aI l v1 λx2=>W.ae (jB W (x2.2.2.2.2.1::(je::[]))) λv3=>W.aH (λ(z4:Bool×Unit)=>W.af z4.1 (some ([],7,())) (W.ae (uJ W l v1 v3.1) λv5=>some (v5,0,()))) λk6=>W.af (v3.2.1 != 0) (k6 (true,())) (W.ae (oU W v3.1) λv7=>(k6 (!v7,()))))
abbrev agt:=za aj
def lm(d:aK)(id state:Int):Option (Int×aK):=W.ae (xL W d.2.2.2.2.2.2.2.1 id state) λv1=>W.af (v1.2.1 != 0) (some (v1.2.1,d)) (W.ae (ul W v1.1 id) λv2=>W.af (v2.1.2.2.2.2.2.1==0) (some (0,U7 d (v1.1,d.2.2.2.2.2.2.2.2))) (W.ae (za W d.2.2.2.2.2.2.1 v2.1.2.2.2.2.2.1 v2.1.2.2.2.1.2.1) λv3=>W.aH (λ(z4:Int×List aW×List bF×List bf×List aD×List bz×List bP×List bC×List bC×List aR×List bg×Int×Int×Int×Int×Int×Int×Int×Int×Int×Int×Int×Int×Int×List (Int)×Int×List (Int)×List fR×List fS×List bZ×Unit)=>some (v3.2.1,U7 z4 (z4.2.2.2.2.2.2.2.2.2.2.2.2.2.2.2.2.2.2.2.2.2.2.2.2.2.2.2.2.2.1,U22 z4.2.2.2.2.2.2.2 ()))) λk5=>W.af (v3.2.1==0) (k5 (U6 d (v3.1,U22 d.2.2.2.2.2.2.2.2 (v1.1,())))) (k5 (U7 d (U22 d.2.2.2.2.2.2.2.2 (v1.1,()))))))
abbrev HG:=lm aj
def we(l:List Int):Option (List ar):=W.aY (λ(z1:S6) bp=>W.af (decide ((i64.wrap (z1.1+1))<(l.length:Int))) (W.aI l z1.1 λx3=>W.aI l (i64.wrap (z1.1+1)) λx4=>W.bi (z1.2.1.length+((x3,x4,())::[]).length) 16 (bp (i64.wrap (z1.1+2),z1.2.1++((x3,x4,())::[]),()))) (W.Ey 2 (W.af ((Int.tmod (l.length:Int) 2) != 0) (some []) (some z1.2.1)))) (0,[],())
abbrev adS:=we aj
def wg(f:ar):Option Bool:=W.af (decide (f.2.1<0)) (some true) (W.af (decide (2147483647<f.2.1)) (some true) (W.af (f.1==0) (some true) (W.ae (oU W f.1) λv1=>some (!v1))))
abbrev adT:=wg aj
def dw(s:List ar):Option (Int×Unit):=W.aY (λ(z1:Int×Unit) bp=>W.af (decide (z1.1<(s.length:Int))) (W.aI s z1.1 λx3=>W.ae (wg W x3) λv4=>W.af v4 (some z1) (bp (i64.wrap (z1.1+1),()))) (some (-1,()))) (0,())
abbrev o8:=dw aj
def di(s:List ar):Option (Bool×Unit):=W.ae (dw W s) λv1=>some (decide (0<=v1.1),())
abbrev nC:=di aj
def ze(l:List ar):Option (Int×bU×Int×Unit):=W.aH (λ(z1:Bool×Unit)=>W.af z1.1 (some (0,(0,0,()),2,())) (W.aY (λ(z2:Int×Int×List ar×Unit) gj=>W.af (decide (z2.2.1<(l.length:Int))) (W.aI l z2.2.1 λx4=>W.aI l 0 λx5=>W.af (dq true ((decide (x4.1<0))==(decide (x5.1<0)))) (some (0,(0,0,()),2,())) (W.ae (vo W x4.1) λv6=>W.ae (pC W v6.1 x4.2.1) λv7=>W.bi (z2.2.2.1.length+(v7::[]).length) 16 (gj (i64.wrap (z2.1+v6.1),i64.wrap (z2.2.1+1),z2.2.2.1++(v7::[]),())))) (W.af (decide (1099511627776<z2.1)) (some (0,(0,0,()),25,())) (W.ae (sF W z2.2.2.1) λv8=>some (z2.1,v8.1,0,())))) (0,0,[],()))) λk9=>W.af (decide ((l.length:Int)<1)) (k9 (true,())) (W.af (decide (16<(l.length:Int))) (k9 (true,())) (W.ae (di W l) λv10=>(k9 v10)))
abbrev agw:=ze aj
def pt(xp:Int):Option Int:=W.aH (λ(z1:S11)=>W.aH (λ(z2:S11)=>W.aH (λ(z3:S11)=>W.L8 (ByteArray.mk (Array.mk (0::(1::(2::(2::(3::(3::(3::(3::(4::(4::(4::(4::(4::(4::(4::(4::(5::(5::(5::(5::(5::(5::(5::(5::(5::(5::(5::(5::(5::(5::(5::(5::(6::(6::(6::(6::(6::(6::(6::(6::(6::(6::(6::(6::(6::(6::(6::(6::(6::(6::(6::(6::(6::(6::(6::(6::(6::(6::(6::(6::(6::(6::(6::(6::(7::(7::(7::(7::(7::(7::(7::(7::(7::(7::(7::(7::(7::(7::(7::(7::(7::(7::(7::(7::(7::(7::(7::(7::(7::(7::(7::(7::(7::(7::(7::(7::(7::(7::(7::(7::(7::(7::(7::(7::(7::(7::(7::(7::(7::(7::(7::(7::(7::(7::(7::(7::(7::(7::(7::(7::(7::(7::(7::(7::(7::(7::(7::(7::(8::(8::(8::(8::(8::(8::(8::(8::(8::(8::(8::(8::(8::(8::(8::(8::(8::(8::(8::(8::(8::(8::(8::(8::(8::(8::(8::(8::(8::(8::(8::(8::(8::(8::(8::(8::(8::(8::(8::(8::(8::(8::(8::(8::(8::(8::(8::(8::(8::(8::(8::(8::(8::(8::(8::(8::(8::(8::(8::(8::(8::(8::(8::(8::(8::(8::(8::(8::(8::(8::(8::(8::(8::(8::(8::(8::(8::(8::(8::(8::(8::(8::(8::(8::(8::(8::(8::(8::(8::(8::(8::(8::(8::(8::(8::(8::(8::(8::(8::(8::(8::(8::(8::(8::(8::(8::(8::(8::(8::(8::(8::(8::(8::(8::(8::(8::(8::(8::(8::(8::(8::(8::(8::(8::(8::(8::(8::(8::[])))))))))))))))))))))))))))))))))))))))))))))))))))))))))))))))))))))))))))))))))))))))))))))))))))))))))))))))))))))))))))))))))))))))))))))))))))))))))))))))))))))))))))))))))))))))))))))))))))))))))))))))))))))))))))))))))))))))))))))))))))))))))))))))))) (IntKind.u8.wrap z3.1) λx4=>some (i64.wrap (z3.2.1+(i64.wrap x4)))) λk5=>W.af (decide (256<=z2.1)) (W.i7 8 (k5 (Int.fdiv z2.1 (2 ^ (min (Int.toNat 8) u64.bits)),i64.wrap (z2.2.1+8),()))) (k5 z2)) λk6=>W.af (decide (65536<=z1.1)) (W.i7 16 (k6 (Int.fdiv z1.1 (2 ^ (min (Int.toNat 16) u64.bits)),i64.wrap (z1.2.1+16),()))) (k6 z1)) λk7=>W.af (decide (4294967296<=xp)) (W.i7 32 (k7 (Int.fdiv xp (2 ^ (min (Int.toNat 32) u64.bits)),32,()))) (k7 (xp,0,()))
abbrev QK:=pt aj
def iI(xp:Int):Option Int:=W.ae (pt W xp) λv1=>some (i64.wrap (64-v1))
abbrev Dm:=iI aj
def j3(hi lo y:Int):Option (Int×Int×Unit):=W.af (y==0) (none) (W.af (decide (y<=hi)) (none) (W.af (hi==0) (W.Ey y (W.Ey y (some (u64.wrap (Int.tdiv lo y),Int.tmod lo y,())))) (W.ae (iI W y) λv1=>W.i7 (u64.wrap v1) (W.i7 32 (W.i7 (u64.wrap v1) (W.i7 (u64.wrap (64-(u64.wrap v1))) (W.i7 (u64.wrap v1) (W.i7 32 (W.Ey (Int.fdiv (u64.wrap (y*(2 ^ (min (Int.toNat (u64.wrap v1)) u64.bits)))) (2 ^ (min (Int.toNat 32) u64.bits))) (W.aH (λ(z2:Int×Unit)=>W.Ey (Int.fdiv (u64.wrap (y*(2 ^ (min (Int.toNat (u64.wrap v1)) u64.bits)))) (2 ^ (min (Int.toNat 32) u64.bits))) (W.aH (λ(z3:Int×Unit)=>W.i7 (u64.wrap v1) (some (u64.wrap ((u64.wrap (z2.1*4294967296))+z3.1),Int.fdiv (u64.wrap ((u64.wrap ((u64.wrap ((u64.wrap ((u64.wrap ((u64.wrap ((Go.bits Go.BinOp.or u64 (u64.wrap (hi*(2 ^ (min (Int.toNat (u64.wrap v1)) u64.bits)))) (Int.fdiv lo (2 ^ (min (Int.toNat (u64.wrap (64-(u64.wrap v1)))) u64.bits))))*4294967296))+(Int.fdiv (u64.wrap (lo*(2 ^ (min (Int.toNat (u64.wrap v1)) u64.bits)))) (2 ^ (min (Int.toNat 32) u64.bits)))))-(u64.wrap (z2.1*(u64.wrap (y*(2 ^ (min (Int.toNat (u64.wrap v1)) u64.bits))))))))*4294967296))+(Go.bits Go.BinOp.and u64 (u64.wrap (lo*(2 ^ (min (Int.toNat (u64.wrap v1)) u64.bits)))) 4294967295)))-(u64.wrap (z3.1*(u64.wrap (y*(2 ^ (min (Int.toNat (u64.wrap v1)) u64.bits)))))))) (2 ^ (min (Int.toNat (u64.wrap v1)) u64.bits)),()))) λk4=>W.aY (λ(z5:S11) FN=>W.aH (λ(z7:Unit)=>W.af (decide (4294967296<=(u64.wrap (z5.1+(Int.fdiv (u64.wrap (y*(2 ^ (min (Int.toNat (u64.wrap v1)) u64.bits)))) (2 ^ (min (Int.toNat 32) u64.bits))))))) (k4 (u64.wrap (z5.2.1-1),())) (FN (u64.wrap (z5.1+(Int.fdiv (u64.wrap (y*(2 ^ (min (Int.toNat (u64.wrap v1)) u64.bits)))) (2 ^ (min (Int.toNat 32) u64.bits)))),u64.wrap (z5.2.1-1),()))) λk8=>W.af (decide (4294967296<=z5.2.1)) (k8 ()) (W.af (decide ((u64.wrap ((u64.wrap (4294967296*z5.1))+(Go.bits Go.BinOp.and u64 (u64.wrap (lo*(2 ^ (min (Int.toNat (u64.wrap v1)) u64.bits)))) 4294967295)))<(u64.wrap (z5.2.1*(Go.bits Go.BinOp.and u64 (u64.wrap (y*(2 ^ (min (Int.toNat (u64.wrap v1)) u64.bits)))) 4294967295))))) (k8 ()) (k4 z5.2))) (u64.wrap ((u64.wrap ((u64.wrap ((u64.wrap ((Go.bits Go.BinOp.or u64 (u64.wrap (hi*(2 ^ (min (Int.toNat (u64.wrap v1)) u64.bits)))) (Int.fdiv lo (2 ^ (min (Int.toNat (u64.wrap (64-(u64.wrap v1)))) u64.bits))))*4294967296))+(Int.fdiv (u64.wrap (lo*(2 ^ (min (Int.toNat (u64.wrap v1)) u64.bits)))) (2 ^ (min (Int.toNat 32) u64.bits)))))-(u64.wrap (z2.1*(u64.wrap (y*(2 ^ (min (Int.toNat (u64.wrap v1)) u64.bits))))))))-(u64.wrap ((u64.wrap (Int.tdiv (u64.wrap ((u64.wrap ((u64.wrap ((Go.bits Go.BinOp.or u64 (u64.wrap (hi*(2 ^ (min (Int.toNat (u64.wrap v1)) u64.bits)))) (Int.fdiv lo (2 ^ (min (Int.toNat (u64.wrap (64-(u64.wrap v1)))) u64.bits))))*4294967296))+(Int.fdiv (u64.wrap (lo*(2 ^ (min (Int.toNat (u64.wrap v1)) u64.bits)))) (2 ^ (min (Int.toNat 32) u64.bits)))))-(u64.wrap (z2.1*(u64.wrap (y*(2 ^ (min (Int.toNat (u64.wrap v1)) u64.bits)))))))) (Int.fdiv (u64.wrap (y*(2 ^ (min (Int.toNat (u64.wrap v1)) u64.bits)))) (2 ^ (min (Int.toNat 32) u64.bits)))))*(Int.fdiv (u64.wrap (y*(2 ^ (min (Int.toNat (u64.wrap v1)) u64.bits)))) (2 ^ (min (Int.toNat 32) u64.bits)))))),u64.wrap (Int.tdiv (u64.wrap ((u64.wrap ((u64.wrap ((Go.bits Go.BinOp.or u64 (u64.wrap (hi*(2 ^ (min (Int.toNat (u64.wrap v1)) u64.bits)))) (Int.fdiv lo (2 ^ (min (Int.toNat (u64.wrap (64-(u64.wrap v1)))) u64.bits))))*4294967296))+(Int.fdiv (u64.wrap (lo*(2 ^ (min (Int.toNat (u64.wrap v1)) u64.bits)))) (2 ^ (min (Int.toNat 32) u64.bits)))))-(u64.wrap (z2.1*(u64.wrap (y*(2 ^ (min (Int.toNat (u64.wrap v1)) u64.bits)))))))) (Int.fdiv (u64.wrap (y*(2 ^ (min (Int.toNat (u64.wrap v1)) u64.bits)))) (2 ^ (min (Int.toNat 32) u64.bits)))),()))) λk9=>W.aY (λ(Le:S11) at1=>W.aH (λ(z12:Unit)=>W.af (decide (4294967296<=(u64.wrap (Le.2.1+(Int.fdiv (u64.wrap (y*(2 ^ (min (Int.toNat (u64.wrap v1)) u64.bits)))) (2 ^ (min (Int.toNat 32) u64.bits))))))) (k9 (u64.wrap (Le.1-1),())) (at1 (u64.wrap (Le.1-1),u64.wrap (Le.2.1+(Int.fdiv (u64.wrap (y*(2 ^ (min (Int.toNat (u64.wrap v1)) u64.bits)))) (2 ^ (min (Int.toNat 32) u64.bits)))),()))) λk13=>W.af (decide (4294967296<=Le.1)) (k13 ()) (W.af (decide ((u64.wrap ((u64.wrap (4294967296*Le.2.1))+(Int.fdiv (u64.wrap (lo*(2 ^ (min (Int.toNat (u64.wrap v1)) u64.bits)))) (2 ^ (min (Int.toNat 32) u64.bits)))))<(u64.wrap (Le.1*(Go.bits Go.BinOp.and u64 (u64.wrap (y*(2 ^ (min (Int.toNat (u64.wrap v1)) u64.bits)))) 4294967295))))) (k13 ()) (k9 (Le.1,())))) (u64.wrap (Int.tdiv (Go.bits Go.BinOp.or u64 (u64.wrap (hi*(2 ^ (min (Int.toNat (u64.wrap v1)) u64.bits)))) (Int.fdiv lo (2 ^ (min (Int.toNat (u64.wrap (64-(u64.wrap v1)))) u64.bits)))) (Int.fdiv (u64.wrap (y*(2 ^ (min (Int.toNat (u64.wrap v1)) u64.bits)))) (2 ^ (min (Int.toNat 32) u64.bits)))),u64.wrap ((Go.bits Go.BinOp.or u64 (u64.wrap (hi*(2 ^ (min (Int.toNat (u64.wrap v1)) u64.bits)))) (Int.fdiv lo (2 ^ (min (Int.toNat (u64.wrap (64-(u64.wrap v1)))) u64.bits))))-(u64.wrap ((u64.wrap (Int.tdiv (Go.bits Go.BinOp.or u64 (u64.wrap (hi*(2 ^ (min (Int.toNat (u64.wrap v1)) u64.bits)))) (Int.fdiv lo (2 ^ (min (Int.toNat (u64.wrap (64-(u64.wrap v1)))) u64.bits)))) (Int.fdiv (u64.wrap (y*(2 ^ (min (Int.toNat (u64.wrap v1)) u64.bits)))) (2 ^ (min (Int.toNat 32) u64.bits)))))*(Int.fdiv (u64.wrap (y*(2 ^ (min (Int.toNat (u64.wrap v1)) u64.bits)))) (2 ^ (min (Int.toNat 32) u64.bits)))))),())))))))))))
abbrev qC:=j3 aj
def sr(w:bU)(d:Int):Option (bU×Int×Int×Unit):=W.af (d==0) (some ((0,0,()),0,8,())) (W.af (decide (d<0)) (some ((0,0,()),0,2,())) (W.ae (ir W w) λv1=>W.Ey (u64.wrap d) (W.Ey (u64.wrap d) (W.ae (j3 W (Int.tmod v1.1 (u64.wrap d)) v1.2.1 (u64.wrap d)) λv2=>W.aH (λ(z3:S14)=>W.gJ (W.ae (fj W w) λv4=>W.two (W.ae (gX W z3.2 v4) λv5=>some (v5.1,i64.wrap z3.1,0,()))) (W.ae (fj W w) λv7=>W.ae (gX W z3.2 v7) λv8=>some (v8.1,i64.wrap z3.1,0,()))) λk9=>W.aH (λ(Le:Bool×Unit)=>W.af Le.1 (W.ae (Jw v2.1 1 0) λv11=>(k9 (u64.wrap ((u64.wrap d)-v2.2.1),u64.wrap ((u64.wrap (Int.tdiv v1.1 (u64.wrap d)))+v11.2.1),v11.1,()))) (k9 (v2.2.1,u64.wrap (Int.tdiv v1.1 (u64.wrap d)),v2.1,()))) λRx=>W.ae (fj W w) λIb=>W.af Ib (Rx (decide (0<v2.2.1),())) (Rx (false,()))))))
abbrev abj:=sr aj
def pG(l:List ar):Option (Int×Int×Int×Int×Unit):=W.ae (ze W l) λv1=>W.af (v1.2.2.1 != 0) (some (0,0,0,v1.2.2)) (W.ae (sr W v1.2.1 v1.1) λv2=>W.ae (qS W v2.1) λv3=>W.aH (λ(z4:Int×Unit)=>some (z4.1,v3.1,v2.2.1,0,())) λk5=>W.aI l 0 λx6=>W.af (decide (x6.1<0)) (k5 (i64.wrap (0-v1.1),())) (k5 (v1.1,())))
abbrev VW:=pG aj
def qg(l:List Int):Option (Int×Int×Unit):=W.aY (λ(z1:S11) bp=>W.af (decide (z1.2.1<(l.length:Int))) (W.aI l z1.2.1 λx3=>W.ae (pC W z1.1 x3) λv4=>W.ae (qS W v4) λv5=>W.af (v5.2.1 != 0) (some (0,v5.2)) (bp (v5.1,i64.wrap (z1.2.1+1),()))) (some (z1.1,0,()))) (1,0,())
abbrev abl:=qg aj
def zf(mult:Int)(l:List ar):Option (Int×Int×Unit):=W.ae (pG W l) λv1=>W.aH (λ(z2:Int×Unit)=>W.ae (qg W (z2.1::(mult::[]))) λv3=>some v3) λk4=>W.af (v1.2.2.2.1 != 0) (some (0,v1.2.2.2)) (W.aH (λ(z5:Bool×Unit)=>W.af z5.1 (some (0,2,())) (W.af (decide (v1.1<0)) (k4 (i64.wrap (0-v1.2.2.1),())) (k4 (v1.2.2.1,())))) λk6=>W.af (decide (mult<1)) (k6 (true,())) (k6 (decide (65536<mult),())))
abbrev agx:=zf aj
def zb(l:List bP)(g:bP):Option ((List bP)×Int×Int×Unit):=W.aH (λ(z1:Bool×Unit)=>W.af z1.1 (some ([],0,2,())) (W.af (decide (64<=(l.length:Int))) (some ([],0,25,())) (W.aH (λ(z2:Int×Int×Int×Int×Int×Int×Unit)=>W.two (W.ae (eW W l) λv3=>W.bi (v3.length+((z2.1,(z2.2.1,z2.2.2.1,()),z2.2.2.2)::[]).length) 48 (some (v3++((z2.1,(z2.2.1,z2.2.2.1,()),z2.2.2.2)::[]),z2.1,0,())))) λk5=>W.af (decide (0<(l.length:Int))) (W.aI l (i64.wrap ((l.length:Int)-1)) λx6=>(k5 (i64.wrap (x6.1+1),g.2.1.1,g.2.1.2.1,g.2.2))) (k5 (1,g.2.1.1,g.2.1.2.1,g.2.2))))) λk7=>W.af (g.2.2.2.2.1==0) (k7 (true,())) (W.ae (oU W g.2.2.2.2.1) λv8=>(k7 (!v8,())))
abbrev UB:=zb aj
def mX(W:Wd):Option ar:=some (0,1,())
abbrev yf:=mX aj
def nZ(d:aK):Option (Int×aK):=W.ae (fF W d ((d.2.2.2.2.2.2.2.2.2.2.2.2.2.2.2.1,d.2.2.2.2.2.2.2.2.2.2.2.2.2.2.2.2.1,())::[])) λv1=>W.af (v1.1 != 0) (some v1) (W.ae (jq W v1.2 v1.2.2.2.2.2.2.2.2.2.2.2.2.2.2.2.2.2.2.2.2.1) λv2=>W.af (v2.1.2.1 != 0) (some (v2.1.2.1,v2.2)) (W.ae (we W v2.2.2.2.2.2.2.2.2.2.2.2.2.2.2.2.2.2.2.2.2.2.2.2.2.2.2.1) λv3=>W.ae (pG W v3) λv4=>W.af (v4.2.2.2.1 != 0) (some (v4.2.2.2.1,v2.2)) (W.ae (zf W v2.1.1.2.1 v3) λv5=>W.af (v5.2.1 != 0) (some (v5.2.1,v2.2)) (W.ae (zb W v2.2.2.2.2.2.2.2.1 (0,(v2.2.2.2.2.2.2.2.2.2.2.2.2.2.2.2.2.1,v2.2.2.2.2.2.2.2.2.2.2.2.2.2.2.2.2.2.1,()),v2.2.2.2.2.2.2.2.2.2.2.2.2.2.2.2.2.2.2.2.2.1,v4.2.1,v4.1,())) λv6=>W.af (v6.2.2.1 != 0) (some (v6.2.2.1,v2.2)) (W.ae (mX W) λv7=>W.ae (mb W v2.2.2.2.2.2.2.2.2.2.2.2.1 v7 (v2.2.2.2.2.2.2.2.2.2.2.2.2.2.2.2.2.1,v2.2.2.2.2.2.2.2.2.2.2.2.2.2.2.2.2.2.1,()) v5.1) λv8=>W.af (v8.2.1 != 0) (some (v8.2.1,v2.2)) (some (0,U6 v2.2 (v6.1,U3 v2.2.2.2.2.2.2.2.2 (v8.1,U16 v2.2.2.2.2.2.2.2.2.2.2.2.2 (v6.2.1::(v4.2.1::(v5.1::[])),v2.2.2.2.2.2.2.2.2.2.2.2.2.2.2.2.2.2.2.2.2.2.2.2.2.2.2.2.2.2))))))))))
abbrev Pp:=nZ aj
def vZ(l:List bP)(id je:Int):Option ((List bP)×Int×Unit):=W.ae (xM W l id) λv1=>W.af (decide (v1<0)) (some ([],11,())) (W.aI l v1 λx2=>W.aH (λ(z3:Bool×Unit)=>W.af z3.1 (some ([],2,())) (W.aH (λ(z4:Bool×Unit)=>W.af z4.1 (some ([],23,())) (W.ae (uJ W l v1 (i64.wrap (x2.2.2.2.2.1-je))) λv5=>some (v5,0,()))) λk6=>W.af (decide (0<je)) (W.af (decide (x2.2.2.2.2.1<je)) (k6 (true,())) (W.af (decide (je<0)) (k6 (decide (je<x2.2.2.2.2.1),())) (k6 (false,())))) (W.af (decide (je<0)) (k6 (decide (je<x2.2.2.2.2.1),())) (k6 (false,()))))) λk7=>W.af (je==0) (k7 (true,())) (W.af (x2.2.2.2.2.1 != 0) (k7 (dq true ((decide (je<0))==(decide (x2.2.2.2.2.1<0))),())) (k7 (false,()))))
abbrev Qm:=vZ aj
def nY(d:aK):Option (Int×aK):=W.two (W.ae (uI W d.2.2.2.2.2.2.1 d.2.2.2.2.2.2.2.2.2.2.2.2.2.2.2.2.2.2.2.2.2.2.1) λv1=>W.af (!v1.2.1) (some (11,d)) (W.ae (fF W d (v1.1.2.1::((d.2.2.2.2.2.2.2.2.2.2.2.2.2.2.2.2.2.1,d.2.2.2.2.2.2.2.2.2.2.2.2.2.2.2.2.2.2.1,())::[]))) λv2=>W.af (v2.1 != 0) (some v2) (W.ae (vZ W v2.2.2.2.2.2.2.2.1 v1.1.1 v2.2.2.2.2.2.2.2.2.2.2.2.2.2.2.2.2.2.2.2.2.2.2.2.2.1) λv3=>W.af (v3.2.1 != 0) (some (v3.2.1,v2.2)) (W.ae (mr W (U6 v2.2 (v3.1,v2.2.2.2.2.2.2.2.2)) (0,v1.1.2.1,(v2.2.2.2.2.2.2.2.2.2.2.2.2.2.2.2.2.2.2.1,v2.2.2.2.2.2.2.2.2.2.2.2.2.2.2.2.2.2.2.2.1,()),(v1.1.2.2.1,v2.2.2.2.2.2.2.2.2.2.2.2.2.2.2.2.2.2.2.2.2.2.2.2.2.1,()),v1.1.2.2.2.1,v1.1.1,0,0,())) λv4=>some v4))))
abbrev Po:=nY aj
def n5(d:aK):Option (Int×aK):=W.af (d.2.2.2.2.2.2.2.2.2.2.2.2.1==7) (W.ae (pJ W d) λv1=>some v1) (W.af (d.2.2.2.2.2.2.2.2.2.2.2.2.1==8) (W.ae (mT W d) λv2=>some v2) (W.af (d.2.2.2.2.2.2.2.2.2.2.2.2.1==9) (W.ae (mU W d) λv3=>some v3) (W.af (d.2.2.2.2.2.2.2.2.2.2.2.2.1==10) (W.ae (lm W d d.2.2.2.2.2.2.2.2.2.2.2.2.2.2.2.2.2.2.2.2.2.2.1 3) λv4=>some v4) (W.af (d.2.2.2.2.2.2.2.2.2.2.2.2.1==11) (W.ae (lm W d d.2.2.2.2.2.2.2.2.2.2.2.2.2.2.2.2.2.2.2.2.2.2.1 4) λv5=>some v5) (W.af (d.2.2.2.2.2.2.2.2.2.2.2.2.1==12) (W.ae (nZ W d) λv6=>some v6) (W.ae (nY W d) λv7=>some v7))))))
abbrev Pq:=n5 aj
def BR(l:List bF)(id fg:Int):Option ((List bF)×Int×Unit):=W.ae (BG W l id) λv1=>W.af (decide (v1<0)) (some ([],11,())) (W.ae (lT W fg) λv2=>W.af (!v2) (some ([],2,())) (W.ae (qq W l) λv3=>W.aI v3 v1 λx4=>W.cr v3 (Int.toNat v1) λx5=>some (List.set v3 (Int.toNat v1) (U3 x5 (fg,x5.2.2.2.2)),0,())))
abbrev akV:=BR aj
def tF(l:List bf)(id fg:Int):Option ((List bf)×Int×Unit):=W.ae (jM W l id) λv1=>W.af (!v1.2.1) (some ([],11,())) (W.ae (ko W fg) λv2=>W.af (!v2) (some ([],2,())) (W.ae (eV W l) λv3=>W.aH (λ(z4:List bf×Unit)=>some (z4.1,0,())) λk5=>W.aY (λ(z6:Int×List bf×Unit) Va=>W.af (decide (z6.1<(v3.length:Int))) (W.aI z6.2.1 z6.1 λx8=>W.cr z6.2.1 (Int.toNat z6.1) λx9=>W.af (x9.1==id) (W.aI z6.2.1 z6.1 λx10=>W.cr z6.2.1 (Int.toNat z6.1) λx11=>(k5 (List.set z6.2.1 (Int.toNat z6.1) (x11.1,fg,x11.2.2),()))) (Va (i64.wrap (z6.1+1),z6.2))) (k5 z6.2)) (0,v3,())))
abbrev Z8:=tF aj
def EM(t:List bF)(xp:ar):Option (bU×Int×Unit):=W.ae (qm W t xp.1) λv1=>W.af (!v1.2.1) (some ((0,0,()),11,())) (W.ae (pC W (i64.wrap (v1.1.2.2.2.1-v1.1.2.2.1)) v1.1.2.1) λv2=>W.ae (uB W v2 xp.2.1) λv3=>some v3)
abbrev aoZ:=EM aj
def BH(t:List bF)(eT:List ar):Option (Int×Int×Unit):=W.ae (CU W eT) λv1=>W.af (!v1) (some (0,3,())) (W.aY (λ(z2:S6) gj=>W.af (decide (z2.1<(eT.length:Int))) (W.aI eT z2.1 λx4=>W.ae (EM W t x4) λv5=>W.af (v5.2.1 != 0) (some (0,v5.2)) (W.bi (z2.2.1.length+(v5.1::[]).length) 16 (gj (i64.wrap (z2.1+1),z2.2.1++(v5.1::[]),())))) (W.ae (sF W z2.2.1) λv6=>W.af (v6.2.1 != 0) (some (0,v6.2)) (W.ae (qS W v6.1) λv7=>some v7))) (0,[],()))
abbrev akE:=BH aj
def yU(t:List bF)(l:List bC):Option ((List aR)×Int×Unit):=W.ae (nU W l) λv1=>W.af (!v1) (some ([],3,())) (W.aY (λ(z2:S20) gj=>W.af (decide (z2.1<(l.length:Int))) (W.aH (λ(z4:List aR×Unit)=>(gj (i64.wrap (z2.1+1),z4))) λk5=>W.aI l z2.1 λx6=>W.ae (BH W t x6.2.1) λv7=>W.af (v7.2.1 != 0) (some ([],v7.2)) (W.af (v7.1 != 0) (W.bi (z2.2.1.length+((x6.1,v7.1,())::[]).length) 24 (k5 (z2.2.1++((x6.1,v7.1,())::[]),()))) (k5 z2.2))) (some (z2.2.1,0,()))) (0,[],()))
abbrev afS:=yU aj
def vQ(t:List bF)(l:List bC)(p:List aR):Option ((List aR)×Int×Unit):=W.ae (nG W p) λv1=>W.af (!v1) (some ([],3,())) (W.ae (yU W t l) λv2=>W.af (v2.2.1 != 0) (some ([],v2.2)) (W.ae (rS W p v2.1) λv3=>some v3))
abbrev HA:=vQ aj
def vY(l:List bF):Option (List bF):=W.ae (qq W l) λv1=>W.aY (λ(z2:S24) gj=>W.af (decide (z2.1<(v1.length:Int))) (W.aI z2.2.1 z2.1 λx4=>W.cr z2.2.1 (Int.toNat z2.1) λx5=>W.aI z2.2.1 z2.1 λx6=>W.cr z2.2.1 (Int.toNat z2.1) λx7=>(gj (i64.wrap (z2.1+1),List.set z2.2.1 (Int.toNat z2.1) (x7.1,x7.2.1,x5.2.2.2.1,x7.2.2.2),()))) (some z2.2.1)) (0,v1,())
abbrev Ql:=vY aj
def Nt(W:Wd)(gR:Int)(g:bZ):Option (Bool×(Int×Unit)):=some (decide (g.2.2.2.2.2.2.1<gR),gR,())
def jX(aqt:Int)(l:List bZ):Option ((List Int)×(Int×Unit)):=W.aY (λ(z1:S15) bp=>W.af (decide (z1.1<(l.length:Int))) (W.aH (λ(z3:S10)=>(bp (i64.wrap (z1.1+1),z3))) λk4=>W.aI l z1.1 λx5=>W.aH (λ(z6:Bool×Int×List (Int)×Unit)=>W.af z6.1 (W.bi (z6.2.2.1.length+(x5.1::[]).length) 8 (k4 (z6.2.1,z6.2.2.1++(x5.1::[]),()))) (k4 z6.2)) λk7=>W.af (x5.2.2.2.2.2.2.2.1==1) (W.ae (Nt W z1.2.1 x5) λv8=>(k7 (v8.1,v8.2.1,z1.2.2))) (k7 (false,z1.2))) (some (z1.2.2.1,z1.2.1,()))) (0,aqt,[],())
abbrev HD:=jX aj
def BS(l:List bZ)(day:Int):Option (List Int):=W.ae (jX W day l) λv1=>some v1.1
abbrev X3:=BS aj
def mv(d:aK)(ids:List Int)(state:Int):Option (Int×aK):=W.aY (λ(z1:S1) bp=>W.af (decide (z1.1<(ids.length:Int))) (W.aI ids z1.1 λx3=>W.ae (lm W z1.2 x3 state) λv4=>W.af (v4.1 != 0) (some v4) (bp (i64.wrap (z1.1+1),v4.2))) (some (0,z1.2))) (0,d)
abbrev tO:=mv aj
def qK(d:aK):Option (Int×aK):=W.af (decide (1048576<=d.1)) (some (25,d)) (W.aY (λ(z1:Int×Int×List aW×List bF×List bf×List aD×List bz×List bP×List bZ×List bC×List bC×List aR×List bg×Int×Int×Int×Int×Int×Int×Int×Int×Int×Int×Int×Int×Int×List (Int)×Int×List (Int)×List fR×List fS×List (List bC)×Unit) bp=>W.af (decide (z1.1<((d.2.2.2.2.2.2.2.2.1::(d.2.2.2.2.2.2.2.2.2.1::[])).length:Int))) (W.aI z1.2.2.2.2.2.2.2.2.2.2.2.2.2.2.2.2.2.2.2.2.2.2.2.2.2.2.2.2.2.2.2.1 z1.1 λx3=>W.cr z1.2.2.2.2.2.2.2.2.2.2.2.2.2.2.2.2.2.2.2.2.2.2.2.2.2.2.2.2.2.2.2.1 (Int.toNat z1.1) λx4=>W.ae (vQ W z1.2.2.2.1 x4 z1.2.2.2.2.2.2.2.2.2.2.2.1) λv5=>W.af (v5.2.1 != 0) (some (v5.2.1,pd z1.2 ())) (bp (i64.wrap (z1.1+1),U10 z1.2 (v5.1,z1.2.2.2.2.2.2.2.2.2.2.2.2)))) (W.ae (vY W z1.2.2.2.1) λv6=>W.ae (BS W z1.2.2.2.2.2.2.2.2.1 (i64.wrap (z1.2.1+1))) λv7=>W.ae (mv W (i64.wrap (z1.2.1+1),z1.2.2.1,v6,U24 z1.2.2.2.2 ((i64.wrap (z1.2.1+1))::[],z1.2.2.2.2.2.2.2.2.2.2.2.2.2.2.2.2.2.2.2.2.2.2.2.2.2.2.2.2.2.1,z1.2.2.2.2.2.2.2.2.2.2.2.2.2.2.2.2.2.2.2.2.2.2.2.2.2.2.2.2.2.2.1,())) v7 5) λv8=>some v8)) (0,pd d (d.2.2.2.2.2.2.2.2.1::(d.2.2.2.2.2.2.2.2.2.1::[]),())))
abbrev G8:=qK aj
def B4(W:Wd):Option ar:=some (0,0,())
abbrev WN:=B4 aj
def ka(d:aK):Option (Int×aK):=W.aH (λ(z1:Bool×Unit)=>W.af z1.1 (some (2,d)) (some (0,d))) λk2=>W.af (decide (d.2.2.2.2.2.2.2.2.2.2.2.2.2.2.2.2.2.2.2.2.2.2.2.1<1)) (k2 (true,())) (W.af (d.2.2.2.2.2.2.2.2.2.2.2.2.2.2.2.2.2.2.2.2.1==0) (k2 (d.2.2.2.2.2.2.2.2.2.2.2.2.2.2.2.2.2.2.2.2.2.1 != 0,())) (k2 (false,())))
abbrev Np:=ka aj
def mw(d:aK)(n:Int):Option (Int×aK):=W.ae (rS W d.2.2.2.2.2.2.2.2.2.2.1 (((d.2.2.2.2.2.2.2.2.2.2.2.2.2.2.2.1,d.2.2.2.2.2.2.2.2.2.2.2.2.2.2.2.2.1,()),n,())::[])) λv1=>W.aH (λ(z2:S0)=>some (v1.2.1,z2)) λk3=>W.af (v1.2.1==0) (k3 (U10 d (v1.1,d.2.2.2.2.2.2.2.2.2.2.2))) (k3 d)
abbrev Rn:=mw aj
def gH(W:Wd)(d:aK):Option (bf×aK):=some ((d.2.2.2.2.2.2.2.2.2.2.2.2.2.2.2.2.2.2.2.2.1,d.2.2.2.2.2.2.2.2.2.2.2.2.2.2.2.2.2.2.2.2.2.1,d.2.2.2.2.2.2.2.2.2.2.2.2.2.2.2.2.2.2.2.2.2.2.2.1,()),d)
def dg(s:List bf):Option (List bf):=W.rj (List.isEmpty s) λg1=>W.af (dq false g1) (some []) (W.bi ((0:Nat)+s.length) 24 (some ([]++s)))
abbrev lW:=dg aj
def j8(l:List bg)(u:ar):Option (List bf):=W.aY (λ(z1:Int×Unit) bp=>W.af (decide (z1.1<(l.length:Int))) (W.aI l z1.1 λx3=>W.af (dq false ((x3.1.1==u.1)&&(x3.1.2.1==u.2.1))) (W.ae (dg W x3.2.1) λv4=>some v4) (bp (i64.wrap (z1.1+1),()))) (some [])) (0,())
abbrev Il:=j8 aj
def uF(xp:bf):Option Bool:=W.af (decide (1<=xp.1)) (W.af (decide (xp.1<=4)) (W.af (decide (0<=xp.2.1)) (W.af (decide (xp.2.1<=255)) (some (decide (0<xp.2.2.1))) (some false)) (some false)) (some false)) (some false)
abbrev agm:=uF aj
def CV(fm:List Int):Option Int:=W.aY (λ(z1:Int×Unit) bp=>W.af (decide (z1.1<(fm.length:Int))) (W.aI fm z1.1 λx3=>W.af (x3 != 0) (some x3) (bp (i64.wrap (z1.1+1),()))) (some 0)) (0,())
abbrev apy:=CV aj
def rT(a b:bf):Option Int:=W.ae (qp W a.1 b.1) λv1=>W.ae (qp W a.2.1 b.2.1) λv2=>W.ae (CV W (v1::(v2::[]))) λv3=>some v3
abbrev JV:=rT aj
def vW(l:List bf):Option Bool:=W.aY (λ(z1:Int×Unit) bp=>W.af (decide (z1.1<(l.length:Int))) (W.aI l z1.1 λx3=>W.aH (λ(z4:Bool×Unit)=>W.af z4.1 (some false) (bp (i64.wrap (z1.1+1),()))) λk5=>W.ae (uF W x3) λv6=>W.af (!v6) (W.two (k5 (true,()))) (W.af (decide (0<z1.1)) (W.aI l (i64.wrap (z1.1-1)) λx7=>W.two (W.ae (rT W x7 x3) λv8=>(k5 (decide (0<=v8),())))) (W.two (k5 (false,()))))) (some (decide ((l.length:Int)<=16)))) (0,())
abbrev aiO:=vW aj
def qO(l:List bf)(Vy:bf):Option Int:=W.ae (vW W l) λv1=>W.af (!v1) (some 3) (W.ae (uF W Vy) λv2=>W.af (!v2) (some 2) (some 0))
abbrev YD:=qO aj
def bX(xp:List bf)(target:bf):Option ((Int×Bool×Unit)×Unit):=W.aY (λ(z1:S11) bp=>W.af (decide (z1.1<z1.2.1)) (W.i7 1 (W.aI xp (i64.wrap (Int.fdiv (u64.wrap (i64.wrap (z1.1+z1.2.1))) (2 ^ (min (Int.toNat 1) u64.bits)))) λx3=>W.ae (rT W x3 target) λv4=>W.af (decide (v4<0)) (bp (i64.wrap ((i64.wrap (Int.fdiv (u64.wrap (i64.wrap (z1.1+z1.2.1))) (2 ^ (min (Int.toNat 1) u64.bits))))+1),z1.2)) (bp (z1.1,i64.wrap (Int.fdiv (u64.wrap (i64.wrap (z1.1+z1.2.1))) (2 ^ (min (Int.toNat 1) u64.bits))),())))) (W.af (decide (z1.1<(xp.length:Int))) (W.aI xp z1.1 λx5=>W.ae (rT W x5 target) λv6=>some ((z1.1,v6==0,()),())) (some ((z1.1,false,()),())))) (0,(xp.length:Int),())
abbrev ku:=bX aj
def Ee(l:List bf)(Vy:bf):Option ((List bf)×Int×Unit):=W.ae (qO W l Vy) λv1=>W.af (v1 != 0) (some ([],v1,())) (W.ae (bX W l Vy) λv2=>W.af (!v2.1.2.1) (W.af (decide (16<=(l.length:Int))) (some ([],25,())) (W.two (W.ae (dg W l) λv3=>W.ae (Ik v3 v2.1.1 (Vy::[])) λv4=>some (v4.1,0,())))) (W.aI l v2.1.1 λx7=>W.ae (jB W (x7.2.2.1::(Vy.2.2.1::[]))) λv8=>W.af (v8.2.1 != 0) (some ([],v8.2)) (W.ae (dg W l) λv9=>W.aI v9 v2.1.1 λx10=>W.cr v9 (Int.toNat v2.1.1) λx11=>some (List.set v9 (Int.toNat v2.1.1) (x11.1,x11.2.1,v8.1,()),0,()))))
abbrev amh:=Ee aj
def tE(l:List bg):Option Bool:=W.aY (λ(z1:Int×Unit) bp=>W.af (decide (z1.1<(l.length:Int))) (W.aI l z1.1 λx3=>W.aH (λ(z4:Bool×Unit)=>W.af z4.1 (some false) (bp (i64.wrap (z1.1+1),()))) λk5=>W.af ((x3.2.1.length:Int)==0) (W.two (k5 (true,()))) (W.ae (vW W x3.2.1) λv6=>W.af (!v6) (W.two (k5 (true,()))) (W.af (decide (0<z1.1)) (W.aI l (i64.wrap (z1.1-1)) λx7=>W.two (W.ae (mQ W x7.1 x3.1) λv8=>(k5 (!v8,())))) (W.two (k5 (false,())))))) (some true)) (0,())
abbrev RH:=tE aj
def sE(l:List bg)(u:ar)(all:List bf):Option (List bg):=W.two (W.ae (dg W all) λv1=>W.aY (λ(z2:Bool×Int×Int×Int×List bf×List bg×Unit) gj=>W.af (decide (z2.2.1<(l.length:Int))) (W.aH (λ(z4:S18)=>(gj (z4.1,i64.wrap (z2.2.1+1),U3 z2.2.2 z4.2))) λk5=>W.aI l z2.2.1 λx6=>W.aH (λ(z7:S18)=>W.af (dq true ((x6.1.1==u.1)&&(x6.1.2.1==u.2.1))) (W.ae (dg W x6.2.1) λv8=>W.bi (z7.2.1.length+((x6.1,v8,())::[]).length) 40 (k5 (z7.1,z7.2.1++((x6.1,v8,())::[]),()))) (W.af (!z7.1) (W.bi (z7.2.1.length+(((z2.2.2.1,z2.2.2.2.1,()),z2.2.2.2.2.1,())::[]).length) 40 (k5 (true,z7.2.1++(((z2.2.2.1,z2.2.2.2.1,()),z2.2.2.2.2.1,())::[]),()))) (k5 z7))) λk9=>W.aH (λ(Le:S18)=>W.af Le.1 (W.bi (Le.2.1.length+(((z2.2.2.1,z2.2.2.2.1,()),z2.2.2.2.2.1,())::[]).length) 40 (k9 (true,Le.2.1++(((z2.2.2.1,z2.2.2.2.1,()),z2.2.2.2.2.1,())::[]),()))) (k9 (z2.1,Le.2))) λGJ=>W.af (!z2.1) (W.ae (mQ W u x6.1) λv12=>(GJ (v12,z2.2.2.2.2.2))) (GJ (false,z2.2.2.2.2.2))) (W.aH (λ(Vx:List bg×Unit)=>some Vx.1) λWR=>W.af (!z2.1) (W.bi (z2.2.2.2.2.2.1.length+(((z2.2.2.1,z2.2.2.2.1,()),z2.2.2.2.2.1,())::[]).length) 40 (WR (z2.2.2.2.2.2.1++(((z2.2.2.1,z2.2.2.2.1,()),z2.2.2.2.2.1,())::[]),()))) (WR z2.2.2.2.2.2))) ((all.length:Int)==0,0,u.1,u.2.1,v1,[],()))
abbrev ady:=sE aj
def lQ(l:List bg)(u:ar)(now:List bf)(e:Int):Option ((List bg)×Int×Unit):=W.ae (tE W l) λv1=>W.af (!v1) (some ([],3,())) (W.af (e != 0) (some ([],e,())) (W.ae (sE W l u now) λv2=>some (v2,0,())))
abbrev GW:=lQ aj
def qP(l:List bg)(u:ar)(Vy:bf):Option ((List bg)×Int×Unit):=W.ae (j8 W l u) λv1=>W.ae (Ee W v1 Vy) λv2=>W.ae (lQ W l u v2.1 v2.2.1) λv3=>some v3
abbrev abr:=qP aj
def lI(d:aK):Option (Int×aK):=W.aH (λ(z1:S0)=>W.ae (ka W z1) λv2=>W.af (v2.1 != 0) (some v2) (W.af (v2.2.2.2.2.2.2.2.2.2.2.2.2.2.2.2.2.2.2.2.2.2.1==0) (W.ae (mw W v2.2 v2.2.2.2.2.2.2.2.2.2.2.2.2.2.2.2.2.2.2.2.2.2.2.2.2.1) λv3=>some v3) (W.aH (λ(z4:Bool×Unit)=>W.af (!z4.1) (some (11,v2.2)) (W.aH (λ(z5:S4)=>W.aH (λ(z6:S0)=>some (z5.1,z6)) λk7=>W.af (z5.1==0) (k7 (U11 z5.2 (z5.2.2.2.2.2.2.2.2.2.2.2.2.2.2.2.2.2.2.2.2.2.2.2.2.2.2.2.2.2.2.2.1,U18 z5.2.2.2.2.2.2.2.2.2.2.2.2.2 ()))) (k7 (pd z5.2 ()))) λk8=>W.gJ (W.gJ (W.ae (gH W v2.2) λv9=>W.ae (qP W v2.2.2.2.2.2.2.2.2.2.2.2.2.1 (v2.2.2.2.2.2.2.2.2.2.2.2.2.2.2.2.2.1,v2.2.2.2.2.2.2.2.2.2.2.2.2.2.2.2.2.2.1,()) v9.1) λv10=>(k8 (v10.2.1,pd v9.2 (v10.1,())))) (W.ae (gH W v2.2) λv11=>W.ae (qP W v2.2.2.2.2.2.2.2.2.2.2.2.2.1 (v11.2.2.2.2.2.2.2.2.2.2.2.2.2.2.2.2.1,v11.2.2.2.2.2.2.2.2.2.2.2.2.2.2.2.2.2.1,()) v11.1) λv12=>(k8 (v12.2.1,pd v11.2 (v12.1,()))))) (W.gJ (W.gJ (W.ae (gH W v2.2) λIb=>W.ae (qP W v2.2.2.2.2.2.2.2.2.2.2.2.2.1 (v2.2.2.2.2.2.2.2.2.2.2.2.2.2.2.2.2.1,v2.2.2.2.2.2.2.2.2.2.2.2.2.2.2.2.2.2.1,()) Ib.1) λv14=>(k8 (v14.2.1,pd Ib.2 (v14.1,())))) (W.ae (gH W v2.2) λv15=>W.ae (qP W v15.2.2.2.2.2.2.2.2.2.2.2.2.1 (v2.2.2.2.2.2.2.2.2.2.2.2.2.2.2.2.2.1,v2.2.2.2.2.2.2.2.2.2.2.2.2.2.2.2.2.2.1,()) v15.1) λVs=>(k8 (Vs.2.1,pd v15.2 (Vs.1,()))))) (W.ae (gH W v2.2) λv17=>W.two (W.ae (qP W v17.2.2.2.2.2.2.2.2.2.2.2.2.1 (v17.2.2.2.2.2.2.2.2.2.2.2.2.2.2.2.2.1,v17.2.2.2.2.2.2.2.2.2.2.2.2.2.2.2.2.2.1,()) v17.1) λv18=>(k8 (v18.2.1,pd v17.2 (v18.1,())))))))) λk20=>W.two (W.ae (jM W v2.2.2.2.2.1 v2.2.2.2.2.2.2.2.2.2.2.2.2.2.2.2.2.2.2.2.2.2.1) λv21=>(k20 v21.2))))) λk23=>W.ae (B4 W) λv24=>W.af (dq true ((d.2.2.2.2.2.2.2.2.2.2.2.2.2.2.2.1==v24.1)&&(d.2.2.2.2.2.2.2.2.2.2.2.2.2.2.2.2.1==v24.2.1))) (W.ae (fF W d ((d.2.2.2.2.2.2.2.2.2.2.2.2.2.2.2.1,d.2.2.2.2.2.2.2.2.2.2.2.2.2.2.2.2.1,())::[])) λv25=>W.af (v25.1 != 0) (some v25) (k23 v25.2)) (k23 d)
abbrev Ln:=lI aj
def jC(l:List aR)(u:ar):Option Int:=W.aY (λ(z1:Int×Unit) bp=>W.af (decide (z1.1<(l.length:Int))) (W.aI l z1.1 λx3=>W.af (dq false ((x3.1.1==u.1)&&(x3.1.2.1==u.2.1))) (some x3.2.1) (bp (i64.wrap (z1.1+1),()))) (some 0)) (0,())
abbrev pw:=jC aj
def AW(l:List bf)(Vy:bf):Option ((List bf)×Int×Unit):=W.ae (qO W l Vy) λv1=>W.af (v1 != 0) (some ([],v1,())) (W.ae (bX W l Vy) λv2=>W.aH (λ(z3:Bool×Unit)=>W.af z3.1 (some ([],23,())) (W.ae (dg W l) λv4=>W.aI v4 v2.1.1 λx5=>W.cr v4 (Int.toNat v2.1.1) λx6=>W.aI v4 v2.1.1 λx7=>W.cr v4 (Int.toNat v2.1.1) λx8=>W.aH (λ(z9:List bf×Unit)=>some (z9.1,0,())) λva=>W.aI (List.set v4 (Int.toNat v2.1.1) (x8.1,x8.2.1,i64.wrap (x6.2.2.1-Vy.2.2.1),())) v2.1.1 λx11=>W.cr (List.set v4 (Int.toNat v2.1.1) (x8.1,x8.2.1,i64.wrap (x6.2.2.1-Vy.2.2.1),())) (Int.toNat v2.1.1) λx12=>W.af (x12.2.2.1==0) (W.ae (Ed (List.set v4 (Int.toNat v2.1.1) (x8.1,x8.2.1,i64.wrap (x6.2.2.1-Vy.2.2.1),())) v2.1.1 (i64.wrap (v2.1.1+1))) λIb=>(va Ib)) (va (List.set v4 (Int.toNat v2.1.1) (x8.1,x8.2.1,i64.wrap (x6.2.2.1-Vy.2.2.1),()),())))) λWR=>W.af (!v2.1.2.1) (WR (true,())) (W.aI l v2.1.1 λx15=>(WR (decide (x15.2.2.1<Vy.2.2.1),()))))
abbrev aj5:=AW aj
def oK(l:List bg)(u:ar)(Vy:bf):Option ((List bg)×Int×Unit):=W.ae (j8 W l u) λv1=>W.ae (AW W v1 Vy) λv2=>W.ae (lQ W l u v2.1 v2.2.1) λv3=>some v3
abbrev WL:=oK aj
def oa(d:aK):Option (Int×aK):=W.af (d.2.2.2.2.2.2.2.2.2.2.2.2.2.2.2.2.2.2.2.2.1==0) (W.ae (jC W d.2.2.2.2.2.2.2.2.2.2.1 (d.2.2.2.2.2.2.2.2.2.2.2.2.2.2.2.1,d.2.2.2.2.2.2.2.2.2.2.2.2.2.2.2.2.1,())) λv1=>W.af (decide (v1<d.2.2.2.2.2.2.2.2.2.2.2.2.2.2.2.2.2.2.2.2.2.2.2.1)) (some (23,d)) (W.ae (mw W d (i64.wrap (0-d.2.2.2.2.2.2.2.2.2.2.2.2.2.2.2.2.2.2.2.2.2.2.2.1))) λv2=>some v2)) (W.aH (λ(z3:S4)=>W.aH (λ(z4:S0)=>some (z3.1,z4)) λk5=>W.af (z3.1==0) (k5 (U11 z3.2 (z3.2.2.2.2.2.2.2.2.2.2.2.2.2.2.2.2.2.2.2.2.2.2.2.2.2.2.2.2.2.2.2.1,U18 z3.2.2.2.2.2.2.2.2.2.2.2.2.2 ()))) (k5 (pd z3.2 ()))) λk6=>W.gJ (W.gJ (W.ae (gH W d) λv7=>W.ae (oK W d.2.2.2.2.2.2.2.2.2.2.2.1 (d.2.2.2.2.2.2.2.2.2.2.2.2.2.2.2.1,d.2.2.2.2.2.2.2.2.2.2.2.2.2.2.2.2.1,()) v7.1) λv8=>(k6 (v8.2.1,pd v7.2 (v8.1,())))) (W.ae (gH W d) λv9=>W.ae (oK W d.2.2.2.2.2.2.2.2.2.2.2.1 (v9.2.2.2.2.2.2.2.2.2.2.2.2.2.2.2.2.1,v9.2.2.2.2.2.2.2.2.2.2.2.2.2.2.2.2.2.1,()) v9.1) λv10=>(k6 (v10.2.1,pd v9.2 (v10.1,()))))) (W.gJ (W.gJ (W.ae (gH W d) λv11=>W.ae (oK W d.2.2.2.2.2.2.2.2.2.2.2.1 (d.2.2.2.2.2.2.2.2.2.2.2.2.2.2.2.1,d.2.2.2.2.2.2.2.2.2.2.2.2.2.2.2.2.1,()) v11.1) λv12=>(k6 (v12.2.1,pd v11.2 (v12.1,())))) (W.ae (gH W d) λIb=>W.ae (oK W Ib.2.2.2.2.2.2.2.2.2.2.2.2.1 (d.2.2.2.2.2.2.2.2.2.2.2.2.2.2.2.1,d.2.2.2.2.2.2.2.2.2.2.2.2.2.2.2.2.1,()) Ib.1) λv14=>(k6 (v14.2.1,pd Ib.2 (v14.1,()))))) (W.ae (gH W d) λv15=>W.two (W.ae (oK W v15.2.2.2.2.2.2.2.2.2.2.2.2.1 (v15.2.2.2.2.2.2.2.2.2.2.2.2.2.2.2.2.1,v15.2.2.2.2.2.2.2.2.2.2.2.2.2.2.2.2.2.1,()) v15.1) λVs=>(k6 (Vs.2.1,pd v15.2 (Vs.1,())))))))
abbrev Ps:=oa aj
def C0(W:Wd)(a:aD):Option ar:=some (a.1,0,())
abbrev UL:=C0 aj
def BZ(a:aD)(u:ar):Option (ar×Bool×Unit):=W.ae (sq W a u) λv1=>W.af (!v1) (some ((0,0,()),false,())) (W.af (a.2.2.1==2) (W.ae (C0 W a) λv2=>some (v2,true,())) (some (u,true,())))
abbrev alh:=BZ aj
def mz(W:Wd)(d:aK):Option (BY×aK):=some ((d.2.2.2.1,d.2.2.1,d.2.2.2.2.2.2.2.2.1,d.2.2.2.2.2.2.2.2.2.2.1,d.2.2.2.2.2.2.2.2.2.2.2.1,()),d)
def nW(s:BY):Option Bool:=W.ae (nU W s.2.2.1) λv1=>W.af v1 (W.ae (nG W s.2.2.2.1) λv2=>W.af v2 (W.ae (tE W s.2.2.2.2.1) λv3=>some v3) (some false)) (some false)
abbrev Pk:=nW aj
def rV(a:aD):Option (List ar):=W.af (a.2.2.1==2) (W.ae (C0 W a) λv1=>some (v1::[])) (W.ae (jo W a) λv2=>some v2)
abbrev agy:=rV aj
def uK(a:aD)(u:ar):Option (List ar):=W.ae (rV W a) λv1=>W.ae (cT W v1 u) λv2=>W.af (!v2) (some []) (W.af (a.2.2.1==2) (W.ae (jo W a) λv3=>some v3) (some (u::[])))
abbrev UM:=uK aj
def E1(l:List bC)(aen:List ar):Option ((List ar)×Int×Unit):=W.ae (nU W l) λv1=>W.af (!v1) (some ([],3,())) (W.aY (λ(z2:Int×List (List ar)×Unit) gj=>W.af (decide (z2.1<(aen.length:Int))) (W.aI aen z2.1 λx4=>W.ae (rN W l x4) λv5=>W.bi (z2.2.1.length+(v5::[]).length) 24 (gj (i64.wrap (z2.1+1),z2.2.1++(v5::[]),()))) (W.ae (BD W z2.2.1) λv6=>some v6)) (0,[],()))
abbrev apT:=E1 aj
def zg(i:bF)(je aqu:Int):Option bU:=W.aH (λ(z1:Bool×Unit)=>W.af z1.1 (some (0,0,())) (W.aI i.2.2.2.2.1 aqu λx2=>W.ae (qg W (x2::(i.2.1::[]))) λv3=>W.ae (pC W v3.1 je) λv4=>some v4)) λk5=>W.ae (p8 W i) λv6=>W.af (v6 != 0) (k5 (true,())) (W.af (decide (aqu<0)) (k5 (true,())) (k5 (decide ((i.2.2.2.2.1.length:Int)<=aqu),())))
abbrev UG:=zg aj
def EY(w:bU):Option (bU×Int×Unit):=W.ae (ir W w) λv1=>W.ae (fj W w) λv2=>W.ae (gX W v1 (!v2)) λv3=>W.ae (lV W v3.1 v3.2.1) λv4=>some v4
abbrev apO:=EY aj
def BX(t:List bF)(eT:List ar)(aqu:Int):Option (bU×Int×Unit):=W.ae (CU W eT) λv1=>W.af (!v1) (some ((0,0,()),3,())) (W.aY (λ(z2:S6) gj=>W.af (decide (z2.1<(eT.length:Int))) (W.aI eT z2.1 λx4=>W.ae (qm W t x4.1) λv5=>W.af (!v5.2.1) (some ((0,0,()),11,())) (W.ae (zg W v5.1 x4.2.1 aqu) λv6=>W.bi (z2.2.1.length+(v6::[]).length) 16 (gj (i64.wrap (z2.1+1),z2.2.1++(v6::[]),())))) (W.ae (sF W z2.2.1) λv7=>W.ae (EY W v7.1) λv8=>some (v8.1,0,()))) (0,[],()))
abbrev X7:=BX aj
def wj(t:List bF)(eT:List ar):Option ((List bU)×Int×Unit):=W.aY (λ(z1:S6) bp=>W.af (decide (z1.1<8)) (W.ae (BX W t eT z1.1) λv3=>W.af (v3.2.1 != 0) (some ([],v3.2)) (W.bi (z1.2.1.length+(v3.1::[]).length) 16 (bp (i64.wrap (z1.1+1),z1.2.1++(v3.1::[]),())))) (some (z1.2.1,0,()))) (0,[],())
abbrev adW:=wj aj
def C1(W:Wd)(xp:Int):Option Bool:=some (xp != xp)
abbrev UH:=C1 aj
def tG(xp y:Int):Option Int:=W.ae (C1 W xp) λv1=>W.ae (C1 W y) λv2=>W.af v1 (W.af v2 (some 0) (some (-1))) (W.af v2 (some 1) (W.af (decide (xp<y)) (some (-1)) (W.af (decide (y<xp)) (some 1) (some 0))))
abbrev aaa:=tG aj
def C2(W:Wd)(xp:Int):Option Bool:=some (xp != xp)
abbrev UI:=C2 aj
def tH(xp y:Int):Option Int:=W.ae (C2 W xp) λv1=>W.ae (C2 W y) λv2=>W.af v1 (W.af v2 (some 0) (some (-1))) (W.af v2 (some 1) (W.af (decide (xp<y)) (some (-1)) (W.af (decide (y<xp)) (some 1) (some 0))))
abbrev aab:=tH aj
def EZ(a b:bU):Option Int:=W.ae (tG W a.1 b.1) λv1=>W.ae (tH W a.2.1 b.2.1) λv2=>W.ae (CV W (v1::(v2::[]))) λv3=>some v3
abbrev adX:=EZ aj
def zh(l:List bU):Option (bU×Int×Unit):=W.aY (λ(z1:S17) bp=>W.af (decide (z1.2.1<(l.length:Int))) (W.aH (λ(z3:S14)=>(bp (z3.1,i64.wrap (z1.2.1+1),z3.2))) λk4=>W.aI l z1.2.1 λx5=>W.ae (EZ W x5 z1.2.2) λv6=>W.af (decide (0<v6)) (k4 (z1.2.1,x5)) (k4 (z1.1,z1.2.2))) (some (z1.2.2,z1.1,()))) (-1,0,0,0,())
abbrev UJ:=zh aj
def wk(t:List bF)(eT:List ar):Option (Int×Int×Unit):=W.ae (wj W t eT) λv1=>W.af (v1.2.1 != 0) (some (0,v1.2)) (W.ae (zh W v1.1) λv2=>W.ae (qS W v2.1) λv3=>some v3)
abbrev Qo:=wk aj
def E3(t:List bF)(l:List bC)(a:aD)(u:ar):Option (Int×Int×Unit):=W.ae (nU W l) λv1=>W.af (!v1) (some (0,3,())) (W.ae (rV W a) λv2=>W.ae (cT W v2 u) λv3=>W.af (!v3) (some (0,11,())) (W.ae (uK W a u) λv4=>W.ae (E1 W l v4) λv5=>W.af (v5.2.1 != 0) (some (0,v5.2)) (W.ae (wk W t v5.1) λv6=>some v6)))
abbrev aiX:=E3 aj
def qh(a:bf)(je:Int):Option (Int×Int×Unit):=W.ae (kr W a) λv1=>W.af (v1 != 0) (some (0,v1,())) (W.ae (qg W (je::(a.2.1::[]))) λv2=>some v2)
abbrev GU:=qh aj
def rF(a n d:Int):Option (Int×Int×Int×Unit):=W.ae (pC W a n) λv1=>W.ae (sr W v1 d) λv2=>W.ae (p9 W v2.1 v2.2.2.1) λv3=>W.af (v3.2.1 != 0) (some (0,0,v3.2)) (some (v3.1,v2.2.1,0,()))
abbrev Ie:=rF aj
def wm(a:bf)(je:Int):Option (Int×Int×Unit):=W.ae (qh W a je) λv1=>W.aH (λ(z2:Bool×Unit)=>W.af z2.1 (some (0,2,())) (W.af (v1.2.1 != 0) (some (0,v1.2)) (W.ae (rF W v1.1 (i64.wrap (10000-a.2.2.1)) 10000) λv3=>some (v3.1,v3.2.2)))) λk4=>W.ae (kr W a) λv5=>W.af (v5==0) (k4 (decide (je<0),())) (k4 (false,()))
abbrev adZ:=wm aj
def iP(as_ l:List bf):Option (((List Int)×Int×Unit)×Unit):=W.ae (vW W l) λv1=>W.af (!v1) (some (([],3,()),())) (W.aY (λ(z2:S10) gj=>W.af (decide (z2.1<(l.length:Int))) (W.aI l z2.1 λx4=>W.ae (jM W as_ x4.1) λv5=>W.af (!v5.2.1) (some (([],11,()),())) (W.ae (wm W v5.1 x4.2.2.1) λv6=>W.af (v6.2.1 != 0) (some (([],v6.2),())) (W.bi (z2.2.1.length+(v6.1::[]).length) 8 (gj (i64.wrap (z2.1+1),z2.2.1++(v6.1::[]),()))))) (some ((z2.2.1,0,()),()))) (0,[],()))
abbrev DC:=iP aj
def wo(as_ l:List bf)(cash:Int):Option (Int×Int×Unit):=W.ae (iP W as_ l) λv1=>W.af (v1.1.2.1 != 0) (some (0,v1.1.2)) (W.bi (v1.1.1.length+(cash::[]).length) 8 (W.ae (jB W (v1.1.1++(cash::[]))) λv2=>some v2))
abbrev aea:=wo aj
def mc(s:BY)(a:aD)(u:ar):Option (Int×Int×Unit):=W.ae (nW W s) λv1=>W.af (!v1) (some (0,3,())) (W.ae (E3 W s.2.1 s.2.2.1 a u) λv2=>W.af (v2.2.1 != 0) (some (0,v2.2)) (W.ae (uK W a u) λv3=>W.aY (λ(z4:Int×List (Int)×List ar×Unit) rX=>W.af (decide (z4.1<(v3.length:Int))) (W.aI z4.2.2.1 z4.1 λx6=>W.cr z4.2.2.1 (Int.toNat z4.1) λx7=>W.ae (j8 W s.2.2.2.2.1 x7) λv8=>W.ae (jC W s.2.2.2.1 x7) λv9=>W.ae (wo W s.1 v8 v9) λv10=>W.af (v10.2.1 != 0) (some (0,v10.2)) (W.bi (z4.2.1.length+(v10.1::[]).length) 8 (rX (i64.wrap (z4.1+1),z4.2.1++(v10.1::[]),z4.2.2)))) (W.ae (jB W z4.2.1) λv11=>some v11)) (0,(i64.wrap (0-v2.1))::[],v3,())))
abbrev Fw:=mc aj
def kE(d:aK):Option (Int×aK):=W.ae (fF W d ((d.2.2.2.2.2.2.2.2.2.2.2.2.2.2.2.1,d.2.2.2.2.2.2.2.2.2.2.2.2.2.2.2.2.1,())::[])) λv1=>W.af (v1.1 != 0) (some v1) (W.ae (ka W v1.2) λv2=>W.af (v2.1 != 0) (some v2) (W.ae (oa W v2.2) λv3=>W.af (v3.1 != 0) (some v3) (W.two (W.ae (mJ W v3.2.2.2.2.2.1 v3.2.2.2.2.2.2.2.2.2.2.2.2.2.2.2.2.1) λv4=>W.two (W.ae (BZ W v4.1 (v3.2.2.2.2.2.2.2.2.2.2.2.2.2.2.2.2.1,v3.2.2.2.2.2.2.2.2.2.2.2.2.2.2.2.2.2.1,())) λv5=>W.ae (mz W v3.2) λv6=>W.ae (mc W v6.1 v4.1 v5.1) λv7=>W.aH (λ(z8:Int×Unit)=>some (z8.1,v6.2)) λk9=>W.aH (λ(Le:Bool×Unit)=>W.af Le.1 (k9 (22,())) (k9 v7.2)) λGJ=>W.af (v7.2.1==0) (GJ (decide (v7.1<0),())) (GJ (false,())))))))
abbrev I7:=kE aj
def nO(d:aK):Option (Int×aK):=W.aH (λ(z1:S1)=>some z1) λk2=>W.af (d.2.2.2.2.2.2.2.2.2.2.2.2.1==14) (W.ae (BR W d.2.2.1 d.2.2.2.2.2.2.2.2.2.2.2.2.2.2.2.2.2.2.2.1 d.2.2.2.2.2.2.2.2.2.2.2.2.2.2.2.2.2.2.2.2.2.2.2.2.1) λv3=>(k2 (v3.2.1,d.1,d.2.1,v3.1,d.2.2.2))) (W.af (d.2.2.2.2.2.2.2.2.2.2.2.2.1==15) (W.ae (tF W d.2.2.2.1 d.2.2.2.2.2.2.2.2.2.2.2.2.2.2.2.2.2.2.2.2.1 d.2.2.2.2.2.2.2.2.2.2.2.2.2.2.2.2.2.2.2.2.2.2.2.2.1) λv4=>(k2 (v4.2.1,U3 d (v4.1,d.2.2.2.2)))) (W.af (d.2.2.2.2.2.2.2.2.2.2.2.2.1==16) (W.ae (qK W d) λv5=>(k2 v5)) (W.af (d.2.2.2.2.2.2.2.2.2.2.2.2.1==17) (W.ae (lI W d) λv6=>(k2 v6)) (W.af (d.2.2.2.2.2.2.2.2.2.2.2.2.1==18) (W.ae (kE W d) λv7=>(k2 v7)) (k2 (0,d))))))
abbrev Oz:=nO aj
def kc(d:aK)(u:ar):Option (Int×aK):=W.ae (jD W d u) λv1=>W.af (v1.1 != 0) (some v1) (W.two (W.ae (mJ W v1.2.2.2.2.2.1 u.1) λv2=>W.af (v2.1.2.2.1==1) (some (17,v1.2)) (some (0,v1.2))))
abbrev Nq:=kc aj
def AK(l:List bz):Option Bool:=W.aY (λ(z1:Int×Unit) bp=>W.af (decide (z1.1<(l.length:Int))) (W.aI l z1.1 λx3=>W.aH (λ(z4:Bool×Unit)=>W.af z4.1 (some false) (bp (i64.wrap (z1.1+1),()))) λk5=>W.af (dq false ((x3.1.1==x3.2.1.1)&&(x3.1.2.1==x3.2.1.2.1))) (k5 (true,())) (W.af (decide (0<z1.1)) (W.aI l (i64.wrap (z1.1-1)) λx6=>W.ae (mQ W x6.1 x3.1) λv7=>(k5 (!v7,()))) (k5 (false,())))) (some true)) (0,())
abbrev aoI:=AK aj
def eC(s:List bz):Option (List bz):=W.rj (List.isEmpty s) λg1=>W.af (dq false g1) (some []) (W.bi ((0:Nat)+s.length) 40 (some ([]++s)))
abbrev uZ:=eC aj
def ym(W:Wd)(gR q5:Int)(c:bz):Option (Bool×(Int×Int×Unit)):=some (dq false ((c.1.1==gR)&&(c.1.2.1==q5)),gR,q5,())
abbrev Nb:=ym aj
def de(DF Vb:Int)(s:List bz):Option (Int×(Int×Int×Unit)):=W.aY (λ(z1:S14) bp=>W.af (decide (z1.1<(s.length:Int))) (W.aI s z1.1 λx3=>W.ae (ym W z1.2.1 z1.2.2.1 x3) λv4=>W.af v4.1 (some (z1.1,v4.2)) (bp (i64.wrap (z1.1+1),v4.2))) (some (-1,z1.2))) (0,DF,Vb,())
abbrev ft:=de aj
def da(ag9 axz:Int)(s:List bz):Option ((List bz)×(Int×Int×Unit)):=W.ae (de W ag9 axz s) λv1=>W.af (v1.1==(-1)) (some (s,v1.2)) (W.aY (λ(z2:Int×Int×Int×Int×List bz×Unit) gj=>W.af (decide (z2.2.1<(z2.2.2.2.2.1.length:Int))) (W.aH (λ(z4:Int×Int×Int×List bz×Unit)=>(gj (z4.1,i64.wrap (z2.2.1+1),z4.2))) λk5=>W.aI z2.2.2.2.2.1 z2.2.1 λx6=>W.cr z2.2.2.2.2.1 (Int.toNat z2.2.1) λx7=>W.ae (ym W z2.2.2.1 z2.2.2.2.1 x7) λv8=>W.af (!v8.1) (W.aI z2.2.2.2.2.1 z2.1 λx9=>W.cr z2.2.2.2.2.1 (Int.toNat z2.1) λx10=>(k5 (i64.wrap (z2.1+1),v8.2.1,v8.2.2.1,List.set z2.2.2.2.2.1 (Int.toNat z2.1) x7,()))) (k5 (z2.1,v8.2.1,v8.2.2.1,z2.2.2.2.2))) (W.kY z2.1 z2.2.2.2.2.1.length λh11=>W.kY (h11:Int) z2.2.2.2.2.1.length λSg=>W.kY z2.1 ((z2.2.2.2.2.1.take Sg)++(List.replicate (z2.2.2.2.2.1.length-Sg) ((0,0,()),(0,0,()),false,()))).length λh13=>some (((z2.2.2.2.2.1.take Sg)++(List.replicate (z2.2.2.2.2.1.length-Sg) ((0,0,()),(0,0,()),false,()))).take h13,z2.2.2.1,z2.2.2.2.1,()))) (v1.1,i64.wrap (v1.1+1),v1.2.1,v1.2.2.1,s,()))
abbrev ml:=da aj
def uE(l:List bz)(from_:ar):Option (List bz):=W.ae (eC W l) λv1=>W.ae (da W from_.1 from_.2.1 v1) λv2=>some v2.1
abbrev FL:=uE aj
def B5(gR q5:Int)(c:bz):Option (Bool×(Int×Int×Unit)):=W.ae (mQ W (gR,q5,()) c.1) λv1=>some (v1,gR,q5,())
abbrev VV:=B5 aj
def db(DF Vb:Int)(s:List bz):Option (Int×(Int×Int×Unit)):=W.aY (λ(z1:S14) bp=>W.af (decide (z1.1<(s.length:Int))) (W.aI s z1.1 λx3=>W.ae (B5 W z1.2.1 z1.2.2.1 x3) λv4=>W.af v4.1 (some (z1.1,v4.2)) (bp (i64.wrap (z1.1+1),v4.2))) (some (-1,z1.2))) (0,DF,Vb,())
abbrev mq:=db aj
def wb(l:List bz)(from_ uR:ar):Option ((List bz)×Int×Unit):=W.ae (AK W l) λv1=>W.af (!v1) (some ([],3,())) (W.af (dq false ((from_.1==uR.1)&&(from_.2.1==uR.2.1))) (some ([],24,())) (W.ae (uE W l from_) λv2=>W.ae (db W from_.1 from_.2.1 v2) λv3=>W.aH (λ(z4:Int×List bz×Unit)=>W.ae (Al z4.2.1 z4.1 ((v3.2,uR,false,())::[])) λv5=>some (v5.1,0,())) λk6=>W.af (decide (v3.1<0)) (k6 ((v2.length:Int),v2,())) (k6 (v3.1,v2,()))))
abbrev adP:=wb aj
def oe(d:aK):Option (Int×aK):=W.ae (kc W d (d.2.2.2.2.2.2.2.2.2.2.2.2.2.2.2.1,d.2.2.2.2.2.2.2.2.2.2.2.2.2.2.2.2.1,())) λv1=>W.af (v1.1 != 0) (some v1) (W.ae (iS W v1.2 (v1.2.2.2.2.2.2.2.2.2.2.2.2.2.2.2.2.1,v1.2.2.2.2.2.2.2.2.2.2.2.2.2.2.2.2.2.1,())) λv2=>W.af (decide (1<v2.1.2.2.1)) (some (13,v2.2)) (W.ae (kc W v2.2 (v2.2.2.2.2.2.2.2.2.2.2.2.2.2.2.2.2.2.2.1,v2.2.2.2.2.2.2.2.2.2.2.2.2.2.2.2.2.2.2.2.1,())) λv3=>W.af (v3.1 != 0) (some v3) (W.ae (wb W v3.2.2.2.2.2.2.1 (v3.2.2.2.2.2.2.2.2.2.2.2.2.2.2.2.2.1,v3.2.2.2.2.2.2.2.2.2.2.2.2.2.2.2.2.2.1,()) (v3.2.2.2.2.2.2.2.2.2.2.2.2.2.2.2.2.2.2.1,v3.2.2.2.2.2.2.2.2.2.2.2.2.2.2.2.2.2.2.2.1,())) λv4=>W.aH (λ(z5:S0)=>some (v4.2.1,z5)) λk6=>W.af (v4.2.1==0) (k6 (U5 v3.2 (v4.1,v3.2.2.2.2.2.2.2))) (k6 v3.2))))
abbrev Pt:=oe aj
def HN(W:Wd)(gR q5:Int)(c:bz):Option (Bool×(Int×Int×Unit)):=some (dq false ((c.1.1==gR)&&(c.1.2.1==q5)),gR,q5,())
abbrev Uq:=HN aj
def cj(DF Vb:Int)(s:List bz):Option (Int×(Int×Int×Unit)):=W.aY (λ(z1:S14) bp=>W.af (decide (z1.1<(s.length:Int))) (W.aI s z1.1 λx3=>W.ae (HN W z1.2.1 z1.2.2.1 x3) λv4=>W.af v4.1 (some (z1.1,v4.2)) (bp (i64.wrap (z1.1+1),v4.2))) (some (-1,z1.2))) (0,DF,Vb,())
abbrev iN:=cj aj
def uD(l:List bz)(from_:ar):Option Int:=W.ae (cj W from_.1 from_.2.1 l) λv1=>some v1.1
abbrev ads:=uD aj
def wc(l:List bz)(from_ uR:ar):Option ((List bz)×Int×Unit):=W.ae (uD W l from_) λv1=>W.ae (AK W l) λv2=>W.af (!v2) (some ([],3,())) (W.af (decide (v1<0)) (some ([],19,())) (W.aI l v1 λx3=>W.af (dq true ((x3.2.1.1==uR.1)&&(x3.2.1.2.1==uR.2.1))) (some ([],11,())) (W.ae (eC W l) λv4=>W.aI v4 v1 λx5=>W.cr v4 (Int.toNat v1) λx6=>some (List.set v4 (Int.toNat v1) (x6.1,x6.2.1,true,()),0,()))))
abbrev adQ:=wc aj
def lJ(d:aK):Option (Int×aK):=W.ae (fF W d ((d.2.2.2.2.2.2.2.2.2.2.2.2.2.2.2.2.2.1,d.2.2.2.2.2.2.2.2.2.2.2.2.2.2.2.2.2.2.1,())::[])) λv1=>W.af (v1.1 != 0) (some v1) (W.ae (wc W v1.2.2.2.2.2.2.1 (v1.2.2.2.2.2.2.2.2.2.2.2.2.2.2.2.2.1,v1.2.2.2.2.2.2.2.2.2.2.2.2.2.2.2.2.2.1,()) (v1.2.2.2.2.2.2.2.2.2.2.2.2.2.2.2.2.2.2.1,v1.2.2.2.2.2.2.2.2.2.2.2.2.2.2.2.2.2.2.2.1,())) λv2=>W.aH (λ(z3:S0)=>some (v2.2.1,z3)) λk4=>W.af (v2.2.1==0) (k4 (U5 v1.2 (v2.1,v1.2.2.2.2.2.2.2))) (k4 v1.2))
abbrev Lo:=lJ aj
def rU(m:aW)(day from_:Int):Option (aW×Int×Unit):=W.aH (λ(z1:Bool×Unit)=>W.af z1.1 (some ((0,0,0,0,()),2,())) (W.af (m.2.2.1 != from_) (some ((0,0,0,0,()),13,())) (some ((m.1,m.2.1,i64.wrap (m.2.2.1+1),m.2.2.2),0,())))) λk2=>W.ae (oS W m) λv3=>W.af (v3 != 0) (k2 (true,())) (W.af (decide (day<0)) (k2 (true,())) (k2 (decide (1048576<day),())))
abbrev agu:=rU aj
def zc(m:aW)(day days:Int):Option (aW×Int×Unit):=W.aH (λ(z1:Bool×Unit)=>W.af z1.1 (some ((0,0,0,0,()),2,())) (W.ae (rU W m day 0) λv2=>W.aH (λ(z3:S17)=>some (z3,v2.2)) λk4=>W.af (v2.2.1==0) (k4 (U3 v2.1 (i64.wrap (day+days),()))) (k4 v2.1))) λk5=>W.af (decide (days<0)) (k5 (true,())) (k5 (decide (16<days),()))
abbrev SS:=zc aj
def j9(d:aK)(m:aW):Option (Int×aK):=W.ae (uG W d.2.1 m) λv1=>W.aH (λ(z2:S0)=>some (v1.2.1,z2)) λk3=>W.af (v1.2.1==0) (k3 (d.1,v1.1,d.2.2)) (k3 d)
abbrev Ga:=j9 aj
def BU(gR q5:Int)(g:bZ):Option (Bool×(Int×Int×Unit)):=W.af (dq false ((g.2.1.1==gR)&&(g.2.1.2.1==q5))) (some (true,gR,q5,())) (some (dq false ((g.2.2.1.1==gR)&&(g.2.2.1.2.1==q5)),gR,q5,()))
abbrev akY:=BU aj
def lF(aqt azU:Int)(l:List bZ):Option ((List Int)×(Int×Int×Unit)):=W.aY (λ(z1:Int×Int×Int×List (Int)×Unit) bp=>W.af (decide (z1.1<(l.length:Int))) (W.aH (λ(z3:S15)=>(bp (i64.wrap (z1.1+1),z3))) λk4=>W.aI l z1.1 λx5=>W.aH (λ(z6:Bool×Int×Int×List (Int)×Unit)=>W.af z6.1 (W.bi (z6.2.2.2.1.length+(x5.1::[]).length) 8 (k4 (z6.2.1,z6.2.2.1,z6.2.2.2.1++(x5.1::[]),()))) (k4 z6.2)) λk7=>W.af (x5.2.2.2.2.2.2.2.1==1) (W.ae (BU W z1.2.1 z1.2.2.1 x5) λv8=>(k7 (U3 v8 z1.2.2.2))) (k7 (false,z1.2))) (some (z1.2.2.2.1,z1.2.1,z1.2.2.1,()))) (0,aqt,azU,[],())
abbrev Lg:=lF aj
def HE(l:List bZ)(u:ar):Option (List Int):=W.ae (lF W u.1 u.2.1 l) λv1=>some v1.1
abbrev ah5:=HE aj
def sD(s:aV)(u:ar):Option (aD×Int×Unit):=W.ae (mJ W s.2.2.2.2.1 u.1) λv1=>W.aH (λ(z2:Bool×Unit)=>W.af z2.1 (some ((0,0,0,[],()),11,())) (W.af (v1.1.2.2.1==1) (some ((0,0,0,[],()),17,())) (some (v1.1,0,())))) λk3=>W.af (!v1.2.1) (k3 (true,())) (W.ae (sq W v1.1 u) λv4=>(k3 (!v4,())))
abbrev adu:=sD aj
def yY(m:aW)(day:Int):Option Int:=W.aH (λ(z1:Bool×Unit)=>W.af z1.1 (some 0) (some (if(i64.wrap ((i64.wrap (m.2.2.2.1-day))+1))>1 then(i64.wrap ((i64.wrap (m.2.2.2.1-day))+1))else 1))) λk2=>W.af (m.2.2.1 != 1) (k2 (true,())) (k2 (decide (m.2.2.2.1<day),()))
abbrev afZ:=yY aj
def yX(m:aW)(day:Int):Option Int:=W.ae (yY W m day) λv1=>W.af (v1==0) (some 18) (some 0)
abbrev afY:=yX aj
def vU(s:aV)(from_:ar):Option Int:=W.ae (sD W s from_) λv1=>W.af (v1.2.1 != 0) (some v1.2.1) (W.ae (iz W s.2.1 v1.1.2.1) λv2=>W.af (!v2.2.1) (some 18) (W.ae (yX W v2.1 s.1) λv3=>some v3))
abbrev adv:=vU aj
def yW(l:List bz)(from_:ar):Option (bz×Bool×Unit):=W.ae (uD W l from_) λv1=>W.af (decide (v1<0)) (some (((0,0,()),(0,0,()),false,()),false,())) (W.aI l v1 λx2=>some (x2,true,()))
abbrev afX:=yW aj
def vR(l:List bz)(from_:ar):Option (ar×Int×Unit):=W.ae (yW W l from_) λv1=>W.af (!v1.2.1) (some ((0,0,()),19,())) (W.af (!v1.1.2.2.1) (some ((0,0,()),20,())) (some (v1.1.2.1,0,())))
abbrev Qg:=vR aj
def yZ(s:aV)(u:ar):Option Bool:=W.ae (rN W s.2.2.2.2.2.2.2.2.1 u) λv1=>W.af ((v1.length:Int)==0) (W.ae (jC W s.2.2.2.2.2.2.2.2.2.2.1 u) λv2=>W.af (v2==0) (W.ae (j8 W s.2.2.2.2.2.2.2.2.2.2.2.1 u) λv3=>some ((v3.length:Int)==0)) (some false)) (some false)
abbrev Ur:=yZ aj
def rQ(a:Int)(l:List Int):Option Int:=W.aY (λ(z1:S11) bp=>W.af (decide (z1.2.1<(l.length:Int))) (W.aI l z1.2.1 λx3=>(bp ((if x3<z1.1 then x3 else z1.1),i64.wrap (z1.2.1+1),()))) (some z1.1)) (a,0,())
abbrev XM:=rQ aj
def vS(m:aW)(used more:Int):Option Int:=W.ae (rQ W used (more::[])) λv1=>W.af (decide (v1<0)) (some 2) (W.ae (jB W (used::(more::[]))) λv2=>W.aH (λ(z3:Bool×Unit)=>W.af z3.1 (some 16) (some 0)) λk4=>W.af (v2.2.1 != 0) (k4 (true,())) (k4 (decide (m.2.1<v2.1),())))
abbrev Qh:=vS aj
def y5(s:aV)(from_ uR:ar):Option Int:=W.ae (sD W s uR) λv1=>W.af (v1.2.1 != 0) (some v1.2.1) (W.ae (iz W s.2.1 v1.1.2.1) λv2=>W.aH (λ(z3:Bool×Unit)=>W.af z3.1 (some 15) (W.ae (yZ W s uR) λv4=>W.af (!v4) (some 21) (W.ae (xI W s.2.2.2.2.2.2.2.2.1 (from_::[])) λv5=>W.af (v5.2.1 != 0) (some v5.2.1) (W.ae (uk W s v2.1.1) λv6=>W.af (v6.2.1 != 0) (some v6.2.1) (W.ae (vS W v2.1 v6.1 v5.1) λv7=>some v7))))) λk8=>W.af (!v2.2.1) (k8 (true,())) (W.ae (iQ W v2.1) λv9=>(k8 (v9 != 0,()))))
abbrev agc:=y5 aj
def EO(s:aV)(from_:ar):Option (ar×Int×Unit):=W.ae (vU W s from_) λv1=>W.af (v1 != 0) (some ((0,0,()),v1,())) (W.ae (vR W s.2.2.2.2.2.1 from_) λv2=>W.af (v2.2.1 != 0) (some ((0,0,()),v2.2)) (W.ae (y5 W s from_ v2.1) λv3=>W.af (v3 != 0) (some ((0,0,()),v3,())) (some (v2.1,0,()))))
abbrev aph:=EO aj
def BM(l:List bg)(from_ uR:ar):Option ((List bg)×Int×Unit):=W.ae (tE W l) λv1=>W.af (!v1) (some ([],3,())) (W.af (dq false ((from_.1==uR.1)&&(from_.2.1==uR.2.1))) (some ([],24,())) (W.ae (j8 W l uR) λv2=>W.af (decide (0<(v2.length:Int))) (some ([],21,())) (W.ae (j8 W l from_) λv3=>W.ae (sE W l from_ []) λv4=>W.ae (sE W v4 uR v3) λv5=>some (v5,0,()))))
abbrev Pc:=BM aj
def xJ(s:aV)(from_:ar):Option (aV×ar×Int×Unit):=W.ae (EO W s from_) λv1=>W.af (v1.2.1 != 0) (some ((0,[],[],[],[],[],[],[],[],[],[],[],()),(0,0,()),v1.2)) (W.ae (rN W s.2.2.2.2.2.2.2.2.1 from_) λv2=>W.ae (BD W (v2::[])) λv3=>W.aH (λ(z4:S2)=>W.aH (λ(z5:S2)=>W.aH (λ(z6:S2)=>W.af (z6.1 != 0) (some ((0,[],[],[],[],[],[],[],[],[],[],[],()),(0,0,()),z6.1,())) (W.ae (uE W z6.2.2.2.2.2.2.1 from_) λv7=>some (U5 z6.2 (v7,z6.2.2.2.2.2.2.2),v1.1,0,()))) λk8=>W.af (z5.1==0) (W.ae (BM W z5.2.2.2.2.2.2.2.2.2.2.2.2.1 from_ v1.1) λv9=>(k8 (v9.2.1,U11 z5.2 (v9.1,())))) (k8 z5)) λva=>W.af (z4.1==0) (W.two (W.ae (jC W z4.2.2.2.2.2.2.2.2.2.2.2.1 from_) λv11=>W.ae (mb W z4.2.2.2.2.2.2.2.2.2.2.2.1 from_ v1.1 v11) λv12=>(va (v12.2.1,U10 z4.2 (v12.1,z4.2.2.2.2.2.2.2.2.2.2.2.2))))) (va z4)) λW4=>W.af (v3.2.1==0) (W.ae (rO W s.2.2.2.2.2.2.2.2.1 from_ v1.1 v3.1) λVs=>(W4 (Vs.2.1,U8 s (Vs.1,s.2.2.2.2.2.2.2.2.2)))) (W4 (v3.2.1,s)))
abbrev akK:=xJ aj
def pN(d:aK):Option (Int×aK):=W.gJ (W.ae (xJ W (yb d ()) (d.2.2.2.2.2.2.2.2.2.2.2.2.2.2.2.1,d.2.2.2.2.2.2.2.2.2.2.2.2.2.2.2.2.1,())) λv1=>W.two (W.aH (λ(z2:S0)=>some (v1.2.2.1,z2)) λk3=>W.af (v1.2.2.1==0) (W.two (k3 (yb v1.1 (U15 d.2.2.2.2.2.2.2.2.2.2.2.2 (v1.2.1.1::(v1.2.1.2.1::[]),d.2.2.2.2.2.2.2.2.2.2.2.2.2.2.2.2.2.2.2.2.2.2.2.2.2.2.2.2))))) (k3 d))) (W.two (W.two (W.ae (xJ W (yb d ()) (d.2.2.2.2.2.2.2.2.2.2.2.2.2.2.2.1,d.2.2.2.2.2.2.2.2.2.2.2.2.2.2.2.2.1,())) λv6=>W.aH (λ(z7:S0)=>some (v6.2.2.1,z7)) λk8=>W.af (v6.2.2.1==0) (W.two (k8 (yb v6.1 (U15 d.2.2.2.2.2.2.2.2.2.2.2.2 (v6.2.1.1::(v6.2.1.2.1::[]),d.2.2.2.2.2.2.2.2.2.2.2.2.2.2.2.2.2.2.2.2.2.2.2.2.2.2.2.2))))) (k8 d))))
abbrev Rp:=pN aj
def zd(m:aW)(day:Int):Option (aW×Int×Unit):=W.ae (rU W m day 1) λv1=>W.af (v1.2.1 != 0) (some ((0,0,0,0,()),v1.2)) (W.af (decide (day<=m.2.2.2.1)) (some ((0,0,0,0,()),18,())) (some (v1.1,0,())))
abbrev UD:=zd aj
def uq(s:aV):Option Bool:=W.ae (nU W s.2.2.2.2.2.2.2.2.1) λv1=>W.af v1 (W.ae (nU W s.2.2.2.2.2.2.2.2.2.1) λv2=>some v2) (some false)
abbrev aeE:=uq aj
def vf(gR q5:Int)(a:aD):Option (Bool×(Int×Int×Unit)):=W.ae (sq W a (gR,q5,())) λv1=>some (v1,gR,q5,())
abbrev aaR:=vf aj
def cX(DF Vb:Int)(s:List aD):Option (Int×(Int×Int×Unit)):=W.aY (λ(z1:S14) bp=>W.af (decide (z1.1<(s.length:Int))) (W.aI s z1.1 λx3=>W.ae (vf W z1.2.1 z1.2.2.1 x3) λv4=>W.af v4.1 (some (z1.1,v4.2)) (bp (i64.wrap (z1.1+1),v4.2))) (some (-1,z1.2))) (0,DF,Vb,())
abbrev mi:=cX aj
def cR(DF Vb:Int)(s:List aD):Option (Bool×(Int×Int×Unit)):=W.ae (cX W DF Vb s) λv1=>some (decide (0<=v1.1),v1.2)
abbrev kZ:=cR aj
def xh(s:aV)(id:Int)(u:ar):Option Bool:=W.ae (vb W s.2.2.2.2.1 id) λv1=>W.ae (cR W u.1 u.2.1 v1) λv2=>some v2.1
abbrev Wy:=xh aj
def yt(s:aV)(id:Int):Option (aV×Int×Unit):=W.ae (uq W s) λv1=>W.af (!v1) (some ((0,[],[],[],[],[],[],[],[],[],[],[],()),3,())) (W.aY (λ(z2:Int×Int×List aW×List bF×List bf×List aD×List bz×List bP×List bZ×List bC×List bC×List aR×List bg×List bC×Unit) gj=>W.af (decide (z2.1<(s.2.2.2.2.2.2.2.2.1.length:Int))) (W.aH (λ(z4:Int×List aW×List bF×List bf×List aD×List bz×List bP×List bZ×List bC×List bC×List aR×List bg×List bC×Unit)=>(gj (i64.wrap (z2.1+1),z4))) λk5=>W.aI s.2.2.2.2.2.2.2.2.1 z2.1 λx6=>W.ae (xh W (yb z2.2 ()) id x6.1) λv7=>W.af (!v7) (W.bi (z2.2.2.2.2.2.2.2.2.2.2.2.2.2.1.length+(x6::[]).length) 40 (k5 (yb z2.2 (z2.2.2.2.2.2.2.2.2.2.2.2.2.2.1++(x6::[]),())))) (W.ae (nT W z2.2.2.2.2.2.2.2.2.2.2.1 x6.1 x6.2.1) λv8=>W.af (v8.2.1 != 0) (some ((0,[],[],[],[],[],[],[],[],[],[],[],()),v8.2)) (k5 (U9 z2.2 (v8.1,z2.2.2.2.2.2.2.2.2.2.2.2))))) (some (U8 z2.2 (z2.2.2.2.2.2.2.2.2.2.2.2.2.2.1,U3 z2.2.2.2.2.2.2.2.2.2.2 ()),0,()))) (0,yb s ([],())))
abbrev JI:=yt aj
def jY(d:aK):Option (Int×aK):=W.ae (fO W d) λv1=>W.aH (λ(z2:S21)=>W.aH (λ(z3:S1)=>W.af (z3.1 != 0) (some z3) (W.two (W.ae (yt W (yb z3.2 ()) z2.2.1) λv4=>W.aH (λ(z5:S0)=>some (v4.2.1,z5)) λk6=>W.af (v4.2.1==0) (k6 (yb v4.1 z3.2.2.2.2.2.2.2.2.2.2.2.2.2)) (k6 z3.2)))) λva=>W.af (z2.1==0) (W.ae (j9 W v1.2 z2.2) λv11=>(va v11)) (va (z2.1,v1.2))) λRx=>W.af (v1.1.2.1==0) (W.ae (zd W v1.1.1 v1.2.1) λIb=>(Rx (Ib.2.1,Ib.1))) (Rx (v1.1.2.1,v1.1.1))
abbrev HH:=jY aj
def D1(all je:Int):Option Bool:=W.af (decide (0<je)) (W.af (decide (je<=all)) (some true) (W.af (decide (je<0)) (some (decide (all<=je))) (some false))) (W.af (decide (je<0)) (some (decide (all<=je))) (some false))
abbrev al2:=D1 aj
def yw(s:aV)(u:ar):Option Int:=W.ae (mJ W s.2.2.2.2.1 u.1) λv1=>W.aH (λ(z2:Bool×Unit)=>W.af z2.1 (some 11) (W.af (v1.1.2.2.1 != 1) (some 17) (W.ae (iz W s.2.1 v1.1.2.1) λv3=>W.af (!v3.2.1) (some 15) (W.ae (iQ W v3.1) λv4=>some v4)))) λk5=>W.af (!v1.2.1) (k5 (true,())) (W.ae (sq W v1.1 u) λv6=>(k5 (!v6,())))
abbrev aeG:=yw aj
def yx(s:aV)(u uR:ar)(id je fg:Int):Option Int:=W.ae (qm W s.2.2.1 id) λv1=>W.aH (λ(z2:Bool×Unit)=>W.af z2.1 (some 3) (W.af (!v1.2.1) (some 11) (W.aH (λ(z3:Bool×Unit)=>W.af z3.1 (some 2) (W.ae (rN W s.2.2.2.2.2.2.2.2.2.1 u) λv4=>W.ae (EN W v4 id) λv5=>W.ae (D1 W v5 je) λv6=>W.af (!v6) (some 23) (W.ae (yw W s uR) λv7=>some v7))) λk8=>W.af (je==0) (k8 (true,())) (W.af (decide (fg<0)) (k8 (true,())) (k8 (decide (2147483647<fg),())))))) λk9=>W.ae (uq W s) λv10=>W.af (!v10) (k9 (true,())) (W.ae (nG W s.2.2.2.2.2.2.2.2.2.2.1) λv11=>(k9 (!v11,())))
abbrev aeH:=yx aj
def AQ(s:aV)(u uR:ar)(id je fg:Int):Option (aV×Int×Unit):=W.ae (yx W s u uR id je fg) λv1=>W.af (v1 != 0) (some ((0,[],[],[],[],[],[],[],[],[],[],[],()),v1,())) (W.ae (qm W s.2.2.1 id) λv2=>W.ae (xG W v2.1 je fg v2.1.2.2.1) λv3=>W.af (v3.2.1 != 0) (some ((0,[],[],[],[],[],[],[],[],[],[],[],()),v3.2)) (W.ae (tp W ((id,je,())::[])) λv4=>W.aH (λ(z5:Int×Int×List aW×List bF×List bf×List aD×List bz×List bP×List bZ×List bC×List bC×List aR×List bg×List ar×Unit)=>W.aH (λ(z6:S2)=>W.aH (λ(z7:S2)=>W.af (z7.1 != 0) (some ((0,[],[],[],[],[],[],[],[],[],[],[],()),z7.1,())) (some (z7.2,0,()))) λk8=>W.af (z6.1==0) (W.ae (mb W z6.2.2.2.2.2.2.2.2.2.2.2.1 u uR v3.1) λv9=>(k8 (v9.2.1,U10 z6.2 (v9.1,z6.2.2.2.2.2.2.2.2.2.2.2.2)))) (k8 z6)) λva=>W.af (z5.1==0) (W.ae (nT W z5.2.2.2.2.2.2.2.2.2.1 uR z5.2.2.2.2.2.2.2.2.2.2.2.2.2.1) λv11=>(va (v11.2.1,U8 z5.2 (v11.1,U3 z5.2.2.2.2.2.2.2.2.2.2 ())))) (va (U13 z5 ()))) λRx=>W.af (v4.2.1==0) (W.ae (nT W s.2.2.2.2.2.2.2.2.2.1 u v4.1) λIb=>(Rx (Ib.2.1,U9 s (Ib.1,s.2.2.2.2.2.2.2.2.2.2.1,s.2.2.2.2.2.2.2.2.2.2.2.1,(id,je,())::[],())))) (Rx (v4.2.1,yb s ((id,je,())::[],())))))
abbrev ajp:=AQ aj
def j4(d:aK):Option (Int×aK):=W.ae (jD W d (d.2.2.2.2.2.2.2.2.2.2.2.2.2.2.2.1,d.2.2.2.2.2.2.2.2.2.2.2.2.2.2.2.2.1,())) λv1=>W.af (v1.1 != 0) (some v1) (W.ae (iS W v1.2 (v1.2.2.2.2.2.2.2.2.2.2.2.2.2.2.2.2.1,v1.2.2.2.2.2.2.2.2.2.2.2.2.2.2.2.2.2.1,())) λv2=>W.af (v2.1.2.2.1 != 2) (some (13,v2.2)) (W.two (W.ae (AQ W (yb v2.2 ()) (v2.2.2.2.2.2.2.2.2.2.2.2.2.2.2.2.2.1,v2.2.2.2.2.2.2.2.2.2.2.2.2.2.2.2.2.2.1,()) (v2.2.2.2.2.2.2.2.2.2.2.2.2.2.2.2.2.2.2.1,v2.2.2.2.2.2.2.2.2.2.2.2.2.2.2.2.2.2.2.2.1,()) v2.2.2.2.2.2.2.2.2.2.2.2.2.2.2.2.2.2.2.2.2.1 v2.2.2.2.2.2.2.2.2.2.2.2.2.2.2.2.2.2.2.2.2.2.2.2.2.1 v2.2.2.2.2.2.2.2.2.2.2.2.2.2.2.2.2.2.2.2.2.2.2.2.2.2.1) λv3=>W.af (v3.2.1 != 0) (some (v3.2.1,v2.2)) (W.ae (lk W (yb v3.1 v2.2.2.2.2.2.2.2.2.2.2.2.2.2) ((v2.2.2.2.2.2.2.2.2.2.2.2.2.2.2.2.2.2.2.1,v2.2.2.2.2.2.2.2.2.2.2.2.2.2.2.2.2.2.2.2.1,())::[])) λv4=>some v4))))
abbrev Gc:=j4 aj
def wa(m:aW)(day:Int):Option (aW×Int×Unit):=W.ae (rU W m day 2) λv1=>some v1
abbrev PO:=wa aj
def AO(s:aV)(id:Int):Option (List bC):=W.aY (λ(z1:S25) bp=>W.af (decide (z1.1<(s.2.2.2.2.2.2.2.2.2.1.length:Int))) (W.aH (λ(z3:List bC×Unit)=>(bp (i64.wrap (z1.1+1),z3))) λk4=>W.aI s.2.2.2.2.2.2.2.2.2.1 z1.1 λx5=>W.ae (xh W s id x5.1) λv6=>W.af v6 (W.bi (z1.2.1.length+(x5::[]).length) 40 (k4 (z1.2.1++(x5::[]),()))) (k4 z1.2)) (some z1.2.1)) (0,[],())
abbrev N2:=AO aj
def zi(l:List aD):Option ((List ar)×(List ar)×Unit):=W.aY (λ(z1:Int×List ar×List ar×Unit) bp=>W.af (decide (z1.1<(l.length:Int))) (W.aH (λ(z3:List ar×List ar×Unit)=>(bp (i64.wrap (z1.1+1),z3))) λk4=>W.aI l z1.1 λx5=>W.ae (jo W x5) λv6=>W.bi (z1.2.1.length+v6.length) 16 (W.af (x5.2.2.1==1) (W.ae (jo W x5) λv7=>W.bi (z1.2.2.1.length+v7.length) 16 (k4 (z1.2.1++v6,z1.2.2.1++v7,()))) (k4 (z1.2.1++v6,z1.2.2)))) (some z1.2)) (0,[],[],())
abbrev ag6:=zi aj
def rG(s:aV)(u:ar):Option (Int×Int×Unit):=W.ae (jC W s.2.2.2.2.2.2.2.2.2.2.1 u) λv1=>W.ae (vo W (if v1<0 then v1 else 0)) λv2=>some v2
abbrev WH:=rG aj
def Me(a n d:Int):Option (Int×Int×Unit):=W.ae (pC W a n) λv1=>W.ae (sr W v1 d) λv2=>W.aH (λ(z3:S14)=>W.ae (p9 W z3.2 z3.1) λv4=>some v4) λk5=>W.aH (λ(z6:Bool×Unit)=>W.af z6.1 (W.two (W.ae (pE W 1) λv7=>W.ae (sF W (v2.1::(v7::[]))) λv8=>(k5 (v8.2.1,v8.1)))) (k5 (v2.2.2.1,v2.1))) λGJ=>W.af (v2.2.2.1==0) (GJ (decide (0<v2.2.1),())) (GJ (false,()))
abbrev avl:=Me aj
def yB(a:bf)(DG:Int):Option (Int×Int×Unit):=W.ae (kr W a) λv1=>W.af (v1 != 0) (some (0,v1,())) (W.af (decide (DG<=0)) (some (0,0,())) (W.ae (Me W DG 1 a.2.1) λv2=>some v2))
abbrev aeT:=yB aj
def AX(l:List bg)(from_ uR:ar)(Vy:bf)(tag:Int):Option ((List bg)×Int×Unit):=W.ae (tE W l) λv1=>W.af (!v1) (some ([],3,())) (W.af (dq false ((from_.1==uR.1)&&(from_.2.1==uR.2.1))) (some ([],24,())) (W.ae (oK W l from_ Vy) λv2=>W.af (v2.2.1 != 0) (some ([],v2.2)) (W.ae (qP W v2.1 uR (Vy.1,tag,Vy.2.2)) λv3=>some v3)))
abbrev WM:=AX aj
def AY(s:aV)(u:ar)(xp:bf)(missing:Int):Option (aV×Int×Unit):=W.ae (jM W s.2.2.2.1 xp.1) λv1=>W.af (!v1.2.1) (some ((0,[],[],[],[],[],[],[],[],[],[],[],()),11,())) (W.af (v1.1.2.1==0) (some (s,0,())) (W.ae (yB W v1.1 missing) λv2=>W.af (v2.2.1 != 0) (some ((0,[],[],[],[],[],[],[],[],[],[],[],()),v2.2)) (W.ae (qh W v1.1 (if xp.2.2.1<v2.1 then xp.2.2.1 else v2.1)) λv3=>W.aH (λ(z4:S2)=>W.aH (λ(z5:S2)=>W.af (z5.1 != 0) (some ((0,[],[],[],[],[],[],[],[],[],[],[],()),z5.1,())) (some (z5.2,0,()))) λk6=>W.af (z4.1==0) (W.two (W.ae (mX W) λv7=>W.ae (mb W z4.2.2.2.2.2.2.2.2.2.2.2.1 v7 u v3.1) λv8=>(k6 (v8.2.1,U10 z4.2 (v8.1,z4.2.2.2.2.2.2.2.2.2.2.2.2))))) (k6 z4)) λGJ=>W.af (v3.2.1==0) (W.two (W.ae (mX W) λv12=>W.ae (AX W s.2.2.2.2.2.2.2.2.2.2.2.1 u v12 (xp.1,xp.2.1,(if xp.2.2.1<v2.1 then xp.2.2.1 else v2.1),()) 0) λIb=>(GJ (Ib.2.1,U11 s (Ib.1,()))))) (GJ (v3.2.1,s)))))
abbrev WO:=AY aj
def xo(s:aV)(u:ar)(cash:Int):Option (aV×Int×Unit):=W.aH (λ(z1:Bool×Unit)=>W.af z1.1 (some ((0,[],[],[],[],[],[],[],[],[],[],[],()),3,())) (W.ae (mX W) λv2=>W.af (dq false ((u.1==v2.1)&&(u.2.1==v2.2.1))) (some ((0,[],[],[],[],[],[],[],[],[],[],[],()),2,())) (W.ae (j8 W s.2.2.2.2.2.2.2.2.2.2.2.1 u) λv3=>W.aY (λ(z4:S8) rX=>W.af (decide (z4.1<(v3.length:Int))) (W.aI z4.2.2.2.2.2.2.2.2.2.2.2.2.2.1 z4.1 λx6=>W.cr z4.2.2.2.2.2.2.2.2.2.2.2.2.2.1 (Int.toNat z4.1) λx7=>W.ae (jC W z4.2.2.2.2.2.2.2.2.2.2.2.1 u) λv8=>W.ae (y7 W cash v8) λv9=>W.aH (λ(Le:S8)=>W.af (Le.1 != 0) (some ((0,[],[],[],[],[],[],[],[],[],[],[],()),Le.1,())) (rX (i64.wrap (z4.1+1),Le.2))) λGJ=>W.aH (λ(z12:Bool×List bf×Unit)=>W.af z12.1 (W.ae (AY W (yb z4.2 ()) u x7 v9.1) λIb=>(GJ (Ib.2.1,yb Ib.1 z12.2))) (GJ (v9.2.1,yb z4.2 z12.2))) λWR=>W.af (v9.2.1==0) (WR (decide (0<v9.1),z4.2.2.2.2.2.2.2.2.2.2.2.2.2)) (WR (false,z4.2.2.2.2.2.2.2.2.2.2.2.2.2))) (some (yb z4.2 (),0,()))) (0,yb s (v3,()))))) λW4=>W.ae (nG W s.2.2.2.2.2.2.2.2.2.2.1) λVs=>W.af (!Vs) (W4 (true,())) (W.ae (tE W s.2.2.2.2.2.2.2.2.2.2.2.1) λv17=>(W4 (!v17,())))
abbrev WQ:=xo aj
def Eh(s:aV)(u:ar):Option (aV×(List fR)×Int×Unit):=W.ae (rG W s u) λv1=>W.af (v1.2.1 != 0) (some ((0,[],[],[],[],[],[],[],[],[],[],[],()),[],v1.2)) (W.ae (xo W s u 0) λv2=>W.af (v2.2.1 != 0) (some ((0,[],[],[],[],[],[],[],[],[],[],[],()),[],v2.2)) (W.ae (rG W v2.1 u) λv3=>W.af (v1.1==v3.1) (some (v2.1,[],0,())) (W.two (some (v2.1,(u,u,i64.wrap (v1.1-v3.1),())::[],0,())))))
abbrev abx:=Eh aj
def mW(r0:Int)(r1:List aW)(r2:List bF)(r3:List bf)(r4:List aD)(r5:List bz)(r6:List bP)(r7:List bZ)(r8 r9:List bC)(r10:List aR)(r11:List bg)(r12:List fR)(r13:Int)(s:aV)(aqv:List fR)(e:Int):Option (Unit×(Int×(List aW)×(List bF)×(List bf)×(List aD)×(List bz)×(List bP)×(List bZ)×(List bC)×(List bC)×(List aR)×(List bg)×(List fR)×Int×Unit)):=W.af (e==0) (W.bi (r12.length+aqv.length) 40 (some ((),yb s (r12++aqv,e,())))) (some ((),r0,r1,r2,r3,r4,r5,r6,r7,r8,r9,r10,r11,r12,e,()))
abbrev V0:=mW aj
def tI(r0:Int)(r1:List aW)(r2:List bF)(r3:List bf)(r4:List aD)(r5:List bz)(r6:List bP)(r7:List bZ)(r8 r9:List bC)(r10:List aR)(r11:List bg)(r12:List fR)(r13:Int)(l:List ar):Option (Unit×(Int×(List aW)×(List bF)×(List bf)×(List aD)×(List bz)×(List bP)×(List bZ)×(List bC)×(List bC)×(List aR)×(List bg)×(List fR)×Int×Unit)):=W.aY (λ(z1:Sq0) bp=>W.af (decide (z1.1<(l.length:Int))) (W.aH (λ(z3:Sq1)=>(bp (i64.wrap (z1.1+1),z3))) λk4=>W.aI l z1.1 λx5=>W.af (z1.2.2.2.2.2.2.2.2.2.2.2.2.2.1==0) (W.ae (Eh W (yb z1.2 ()) x5) λv6=>W.ae (mW W z1.2.1 z1.2.2.1 z1.2.2.2.1 z1.2.2.2.2.1 z1.2.2.2.2.2.1 z1.2.2.2.2.2.2.1 z1.2.2.2.2.2.2.2.1 z1.2.2.2.2.2.2.2.2.1 z1.2.2.2.2.2.2.2.2.2.1 z1.2.2.2.2.2.2.2.2.2.2.1 z1.2.2.2.2.2.2.2.2.2.2.2.1 z1.2.2.2.2.2.2.2.2.2.2.2.2.1 z1.2.2.2.2.2.2.2.2.2.2.2.2.2.2.1 z1.2.2.2.2.2.2.2.2.2.2.2.2.2.1 v6.1 v6.2.1 v6.2.2.1) λv7=>(k4 (yb v7.2 (v7.2.2.2.2.2.2.2.2.2.2.2.2.2.2.1,v7.2.2.2.2.2.2.2.2.2.2.2.2.2.1,())))) (k4 z1.2)) (some ((),yb z1.2 (z1.2.2.2.2.2.2.2.2.2.2.2.2.2.2.1,z1.2.2.2.2.2.2.2.2.2.2.2.2.2.1,())))) (0,r0,r1,r2,r3,r4,r5,r6,r7,r8,r9,r10,r11,r13,r12,())
abbrev aah:=tI aj
def kI(s:aV)(l:List ar):Option (((List Int)×Int×Int×Unit)×Unit):=W.aY (λ(z1:S10) bp=>W.af (decide (z1.1<(l.length:Int))) (W.aI l z1.1 λx3=>W.ae (rG W s x3) λv4=>W.af (v4.2.1 != 0) (some (([],0,v4.2),())) (W.bi (z1.2.1.length+(v4.1::[]).length) 8 (bp (i64.wrap (z1.1+1),z1.2.1++(v4.1::[]),())))) (W.ae (jB W z1.2.1) λv5=>some ((z1.2.1,v5),()))) (0,[],())
abbrev Jh:=kI aj
def iJ(as_ l:List bf):Option (((List Int)×Int×Unit)×Unit):=W.ae (vW W l) λv1=>W.af (!v1) (some (([],3,()),())) (W.aY (λ(z2:S10) gj=>W.af (decide (z2.1<(l.length:Int))) (W.aI l z2.1 λx4=>W.ae (jM W as_ x4.1) λv5=>W.af (!v5.2.1) (some (([],11,()),())) (W.ae (qh W v5.1 x4.2.2.1) λv6=>W.af (v6.2.1 != 0) (some (([],v6.2),())) (W.bi (z2.2.1.length+(v6.1::[]).length) 8 (gj (i64.wrap (z2.1+1),z2.2.1++(v6.1::[]),()))))) (some ((z2.2.1,0,()),()))) (0,[],()))
abbrev Dp:=iJ aj
def vn(as_ l:List bf):Option (Int×Int×Unit):=W.ae (iJ W as_ l) λv1=>W.af (v1.1.2.1 != 0) (some (0,v1.1.2)) (W.ae (jB W v1.1.1) λv2=>some v2)
abbrev PE:=vn aj
def xm(s:aV)(u:ar):Option (Int×Int×Unit):=W.ae (j8 W s.2.2.2.2.2.2.2.2.2.2.2.1 u) λv1=>W.ae (vn W s.2.2.2.1 v1) λv2=>W.af (v2.2.1 != 0) (some (0,v2.2)) (W.ae (jC W s.2.2.2.2.2.2.2.2.2.2.1 u) λv3=>W.ae (jB W (v2.1::(v3::[]))) λv4=>some ((if v4.1>0 then v4.1 else 0),v4.2))
abbrev aj2:=xm aj
def B3(s:aV)(u:ar):Option (Int×Int×Unit):=W.ae (xm W s u) λv1=>W.aH (λ(z2:Int×Unit)=>some (z2.1,v1.2)) λk3=>W.ae (jC W s.2.2.2.2.2.2.2.2.2.2.1 u) λv4=>W.af (decide (v4<0)) (k3 (0,())) (k3 (v1.1,()))
abbrev alm:=B3 aj
def kJ(s:aV)(l:List ar):Option (((List Int)×Int×Int×Unit)×Unit):=W.aY (λ(z1:S10) bp=>W.af (decide (z1.1<(l.length:Int))) (W.aI l z1.1 λx3=>W.ae (B3 W s x3) λv4=>W.af (v4.2.1 != 0) (some (([],0,v4.2),())) (W.bi (z1.2.1.length+(v4.1::[]).length) 8 (bp (i64.wrap (z1.1+1),z1.2.1++(v4.1::[]),())))) (W.ae (jB W z1.2.1) λv5=>some ((z1.2.1,v5),()))) (0,[],())
abbrev Ji:=kJ aj
def Ef(fm:List Int):Option Int:=W.aY (λ(z1:Int×Unit) bp=>W.af (decide (z1.1<(fm.length:Int))) (W.aI fm z1.1 λx3=>W.af (x3 != 0) (some x3) (bp (i64.wrap (z1.1+1),()))) (some 0)) (0,())
abbrev aqJ:=Ef aj
def sH(total:Int)(l:List Int):Option Bool:=W.ae (rQ W total l) λv1=>some (decide (0<=v1))
abbrev ael:=sH aj
def tJ(total sum:Int)(weights:List Int):Option ((List bf)×Int×Unit):=W.i7 (weights.length:Int) (W.bi (Int.toNat (weights.length:Int)) 24 (W.aY (λ(z1:Int×Int×List bf×Unit) bp=>W.af (decide (z1.2.1<(weights.length:Int))) (W.aI weights z1.2.1 λx3=>W.ae (rF W total x3 sum) λv4=>W.bi (z1.2.2.1.length+((z1.2.1,v4.1,v4.2.1,())::[]).length) 24 (bp (i64.wrap (z1.1+v4.1),i64.wrap (z1.2.1+1),z1.2.2.1++((z1.2.1,v4.1,v4.2.1,())::[]),()))) (some (z1.2.2.1,z1.1,()))) (0,0,[],())))
abbrev aao:=tJ aj
def wt(total:Int)(weights:List Int):Option ((List Int)×Int×Unit):=W.ae (sH W total weights) λv1=>W.af (!v1) (some ([],2,())) (W.ae (jB W weights) λv2=>W.i7 (weights.length:Int) (W.bi (Int.toNat (weights.length:Int)) 8 (W.kY (weights.length:Int) (Int.toNat (weights.length:Int)) λh3=>W.af (v2.2.1 != 0) (some ([],v2.2)) (W.af (total==0) (some (List.replicate h3 0,0,())) (W.af (v2.1==0) (some ([],8,())) (W.ae (tJ W total v2.1 weights) λv4=>W.aY (λ(z5:Int×List (Int)×List bf×Unit) FN=>W.af (decide (z5.1<(v4.1.length:Int))) (W.aI z5.2.2.1 z5.1 λx7=>W.cr z5.2.2.1 (Int.toNat z5.1) λx8=>W.aI z5.2.1 x8.1 λx9=>W.cr z5.2.1 (Int.toNat x8.1) λx10=>(FN (i64.wrap (z5.1+1),List.set z5.2.1 (Int.toNat x8.1) x8.2.1,z5.2.2))) (W.ae (uv z5.2.2.1) λv11=>W.kY (i64.wrap (total-v4.2.1)) v11.length λSg=>W.aY (λ(Vx:S10) aaq=>W.af (decide (Vx.1<((v11.take Sg).length:Int))) (W.aI (v11.take Sg) Vx.1 λx15=>W.aI Vx.2.1 x15.1 λx16=>W.cr Vx.2.1 (Int.toNat x15.1) λx17=>W.aI Vx.2.1 x15.1 λx18=>W.cr Vx.2.1 (Int.toNat x15.1) λx19=>(aaq (i64.wrap (Vx.1+1),List.set Vx.2.1 (Int.toNat x15.1) (i64.wrap (x17+1)),()))) (some (Vx.2.1,0,()))) (0,z5.2.1,()))) (0,List.replicate h3 0,v4.1,())))))))
abbrev aem:=wt aj
def uL(total:Int)(aqw:List Int):Option ((List Int)×Int×Unit):=W.ae (sH W total aqw) λv1=>W.af (!v1) (some ([],2,())) (W.ae (jB W aqw) λv2=>W.af (v2.2.1 != 0) (some ([],v2.2)) (W.af (decide (v2.1<total)) (some ([],10,())) (W.ae (wt W total aqw) λv3=>some v3)))
abbrev ag7:=uL aj
def xq(s:aV)(by_ uR:ar)(DG:Int):Option (aV×(List fR)×Int×Unit):=W.af (DG==0) (some (s,[],0,())) (W.ae (xo W s by_ DG) λv1=>W.aH (λ(z2:S2)=>W.af (z2.1 != 0) (some ((0,[],[],[],[],[],[],[],[],[],[],[],()),[],z2.1,())) (W.two (some (z2.2,(by_,uR,DG,())::[],0,())))) λk3=>W.af (v1.2.1==0) (W.ae (mb W v1.1.2.2.2.2.2.2.2.2.2.2.1 by_ uR DG) λv4=>(k3 (v4.2.1,U10 v1.1 (v4.1,v1.1.2.2.2.2.2.2.2.2.2.2.2)))) (k3 (v1.2.1,v1.1)))
abbrev WS:=xq aj
def wq(s:aV)(l:List ar):Option (aV×(List fR)×Int×Unit):=W.ae (kI W s l) λv1=>W.ae (kJ W s l) λv2=>W.aH (λ(z3:Bool×List (Int)×List (Int)×Unit)=>W.af z3.1 (W.ae (Ef W (v1.1.2.2.1::(v2.1.2.2.1::[]))) λv4=>some ((0,[],[],[],[],[],[],[],[],[],[],[],()),[],v4,())) (W.ae (uL W (if v2.1.2.1<v1.1.2.1 then v2.1.2.1 else v1.1.2.1) z3.2.2.1) λv5=>W.ae (uL W (if v2.1.2.1<v1.1.2.1 then v2.1.2.1 else v1.1.2.1) z3.2.1) λv6=>W.aH (λ(z7:Int×List aW×List bF×List bf×List aD×List bz×List bP×List bZ×List bC×List bC×List aR×List bg×List fR×Unit)=>some (yb z7 (),z7.2.2.2.2.2.2.2.2.2.2.2.2.1,0,())) λk8=>W.aY (λ(z9:Int×Int×Int×List aW×List bF×List bf×List aD×List bz×List bP×List bZ×List bC×List bC×List aR×List bg×List (Int)×List (Int)×List fR×Unit) ajj=>W.af (decide (z9.1<(z9.2.2.2.2.2.2.2.2.2.2.2.2.2.2.1.length:Int))) (W.af (decide (z9.2.1<(z9.2.2.2.2.2.2.2.2.2.2.2.2.2.2.2.1.length:Int))) (W.aI z9.2.2.2.2.2.2.2.2.2.2.2.2.2.2.1 z9.1 λx11=>W.aI z9.2.2.2.2.2.2.2.2.2.2.2.2.2.2.2.1 z9.2.1 λx12=>W.cr z9.2.2.2.2.2.2.2.2.2.2.2.2.2.2.1 (Int.toNat z9.1) λx13=>W.cr z9.2.2.2.2.2.2.2.2.2.2.2.2.2.2.2.1 (Int.toNat z9.2.1) λx14=>W.aI l z9.1 λx15=>W.aI l z9.2.1 λx16=>W.two (W.ae (xq W (yb z9.2.2 ()) x15 x16 (if x14<x13 then x14 else x13)) λv17=>W.af (v17.2.2.1 != 0) (some ((0,[],[],[],[],[],[],[],[],[],[],[],()),[],v17.2.2)) (W.bi (z9.2.2.2.2.2.2.2.2.2.2.2.2.2.2.2.2.1.length+v17.2.1.length) 40 (W.aH (λ(z18:List (Int)×List (Int)×List fR×Unit)=>W.aI z18.1 z9.1 λx19=>W.cr z18.1 (Int.toNat z9.1) λx20=>W.af (x20==0) (ajj (i64.wrap (z9.1+1),z9.2.1,yb v17.1 z18)) (ajj (z9.1,i64.wrap (z9.2.1+1),yb v17.1 z18))) λk21=>W.aI z9.2.2.2.2.2.2.2.2.2.2.2.2.2.2.1 z9.1 λx22=>W.aI z9.2.2.2.2.2.2.2.2.2.2.2.2.2.2.2.1 z9.2.1 λx23=>W.gJ (W.cr z9.2.2.2.2.2.2.2.2.2.2.2.2.2.2.1 (Int.toNat z9.1) λx24=>W.cr z9.2.2.2.2.2.2.2.2.2.2.2.2.2.2.2.1 (Int.toNat z9.2.1) λx25=>W.aI z9.2.2.2.2.2.2.2.2.2.2.2.2.2.2.1 z9.1 λx26=>W.cr z9.2.2.2.2.2.2.2.2.2.2.2.2.2.2.1 (Int.toNat z9.1) λx27=>W.aI z9.2.2.2.2.2.2.2.2.2.2.2.2.2.2.2.1 z9.2.1 λx28=>W.cr z9.2.2.2.2.2.2.2.2.2.2.2.2.2.2.2.1 (Int.toNat z9.2.1) λx29=>(k21 (List.set z9.2.2.2.2.2.2.2.2.2.2.2.2.2.2.1 (Int.toNat z9.1) (i64.wrap (x24-(if x14<x13 then x14 else x13))),List.set z9.2.2.2.2.2.2.2.2.2.2.2.2.2.2.2.1 (Int.toNat z9.2.1) (i64.wrap (x25-(if x14<x13 then x14 else x13))),z9.2.2.2.2.2.2.2.2.2.2.2.2.2.2.2.2.1++v17.2.1,()))) (W.cr z9.2.2.2.2.2.2.2.2.2.2.2.2.2.2.2.1 (Int.toNat z9.2.1) λx30=>W.cr z9.2.2.2.2.2.2.2.2.2.2.2.2.2.2.1 (Int.toNat z9.1) λx31=>W.aI z9.2.2.2.2.2.2.2.2.2.2.2.2.2.2.1 z9.1 λx32=>W.cr z9.2.2.2.2.2.2.2.2.2.2.2.2.2.2.1 (Int.toNat z9.1) λx33=>W.aI z9.2.2.2.2.2.2.2.2.2.2.2.2.2.2.2.1 z9.2.1 λx34=>W.cr z9.2.2.2.2.2.2.2.2.2.2.2.2.2.2.2.1 (Int.toNat z9.2.1) λx35=>(k21 (List.set z9.2.2.2.2.2.2.2.2.2.2.2.2.2.2.1 (Int.toNat z9.1) (i64.wrap (x31-(if x14<x13 then x14 else x13))),List.set z9.2.2.2.2.2.2.2.2.2.2.2.2.2.2.2.1 (Int.toNat z9.2.1) (i64.wrap (x30-(if x14<x13 then x14 else x13))),z9.2.2.2.2.2.2.2.2.2.2.2.2.2.2.2.2.1++v17.2.1,()))))))) (k8 (yb z9.2.2 z9.2.2.2.2.2.2.2.2.2.2.2.2.2.2.2.2))) (k8 (yb z9.2.2 z9.2.2.2.2.2.2.2.2.2.2.2.2.2.2.2.2))) (0,0,yb s (v5.1,v6.1,[],())))) λk55=>W.af (v1.1.2.2.1 != 0) (k55 (true,v1.1.1,v2.1.1,())) (k55 (v2.1.2.2.1 != 0,v1.1.1,v2.1.1,()))
abbrev aef:=wq aj
def pO(r0:Int)(r1:List aW)(r2:List bF)(r3:List bf)(r4:List aD)(r5:List bz)(r6:List bP)(r7:List bZ)(r8 r9:List bC)(r10:List aR)(r11:List bg)(r12:List fR)(r13:Int)(l:List aD):Option (Unit×(Int×(List aW)×(List bF)×(List bf)×(List aD)×(List bz)×(List bP)×(List bZ)×(List bC)×(List bC)×(List aR)×(List bg)×(List fR)×Int×Unit)):=W.aY (λ(z1:Sq0) bp=>W.af (decide (z1.1<(l.length:Int))) (W.aH (λ(z3:Sq1)=>(bp (i64.wrap (z1.1+1),z3))) λk4=>W.aI l z1.1 λx5=>W.aH (λ(z6:Bool×Int×List aW×List bF×List bf×List aD×List bz×List bP×List bZ×List bC×List bC×List aR×List bg×Int×List fR×Unit)=>W.af z6.1 (W.two (W.ae (jo W x5) λv7=>W.ae (wq W (yb z6.2 ()) v7) λv8=>W.ae (mW W z6.2.1 z6.2.2.1 z6.2.2.2.1 z6.2.2.2.2.1 z6.2.2.2.2.2.1 z6.2.2.2.2.2.2.1 z6.2.2.2.2.2.2.2.1 z6.2.2.2.2.2.2.2.2.1 z6.2.2.2.2.2.2.2.2.2.1 z6.2.2.2.2.2.2.2.2.2.2.1 z6.2.2.2.2.2.2.2.2.2.2.2.1 z6.2.2.2.2.2.2.2.2.2.2.2.2.1 z6.2.2.2.2.2.2.2.2.2.2.2.2.2.2.1 z6.2.2.2.2.2.2.2.2.2.2.2.2.2.1 v8.1 v8.2.1 v8.2.2.1) λv9=>(k4 (yb v9.2 (v9.2.2.2.2.2.2.2.2.2.2.2.2.2.2.1,v9.2.2.2.2.2.2.2.2.2.2.2.2.2.1,()))))) (k4 z6.2)) λk13=>W.af (z1.2.2.2.2.2.2.2.2.2.2.2.2.2.1==0) (k13 (x5.2.2.1==2,z1.2)) (k13 (false,z1.2))) (some ((),yb z1.2 (z1.2.2.2.2.2.2.2.2.2.2.2.2.2.2.1,z1.2.2.2.2.2.2.2.2.2.2.2.2.2.1,())))) (0,r0,r1,r2,r3,r4,r5,r6,r7,r8,r9,r10,r11,r13,r12,())
abbrev Rr:=pO aj
def Eg(s:aV)(by_ uR:ar):Option (aV×(List fR)×Int×Unit):=W.ae (rG W s uR) λv1=>W.ae (xm W s by_) λv2=>W.aH (λ(z3:Bool×Unit)=>W.af z3.1 (W.ae (Ef W (v1.2.1::(v2.2.1::[]))) λv4=>some ((0,[],[],[],[],[],[],[],[],[],[],[],()),[],v4,())) (W.af (dq false ((by_.1==uR.1)&&(by_.2.1==uR.2.1))) (some (s,[],0,())) (W.ae (xq W s by_ uR (if v2.1<v1.1 then v2.1 else v1.1)) λv5=>some v5))) λk6=>W.af (v1.2.1 != 0) (k6 (true,())) (k6 (v2.2.1 != 0,()))
abbrev abw:=Eg aj
def my(r0:Int)(r1:List aW)(r2:List bF)(r3:List bf)(r4:List aD)(r5:List bz)(r6:List bP)(r7:List bZ)(r8 r9:List bC)(r10:List aR)(r11:List bg)(r12:List fR)(r13:Int)(uR by_:List ar):Option (Unit×(Int×(List aW)×(List bF)×(List bf)×(List aD)×(List bz)×(List bP)×(List bZ)×(List bC)×(List bC)×(List aR)×(List bg)×(List fR)×Int×Unit)):=W.aY (λ(z1:Sq0) bp=>W.af (decide (z1.1<(uR.length:Int))) (W.aI uR z1.1 λx3=>W.aY (λ(z4:Sq0) rX=>W.af (decide (z4.1<(by_.length:Int))) (W.aH (λ(z6:Sq1)=>(rX (i64.wrap (z4.1+1),z6))) λk7=>W.aI by_ z4.1 λx8=>W.af (z4.2.2.2.2.2.2.2.2.2.2.2.2.2.1==0) (W.ae (Eg W (yb z4.2 ()) x8 x3) λv9=>W.ae (mW W z4.2.1 z4.2.2.1 z4.2.2.2.1 z4.2.2.2.2.1 z4.2.2.2.2.2.1 z4.2.2.2.2.2.2.1 z4.2.2.2.2.2.2.2.1 z4.2.2.2.2.2.2.2.2.1 z4.2.2.2.2.2.2.2.2.2.1 z4.2.2.2.2.2.2.2.2.2.2.1 z4.2.2.2.2.2.2.2.2.2.2.2.1 z4.2.2.2.2.2.2.2.2.2.2.2.2.1 z4.2.2.2.2.2.2.2.2.2.2.2.2.2.2.1 z4.2.2.2.2.2.2.2.2.2.2.2.2.2.1 v9.1 v9.2.1 v9.2.2.1) λv10=>(k7 (yb v10.2 (v10.2.2.2.2.2.2.2.2.2.2.2.2.2.2.1,v10.2.2.2.2.2.2.2.2.2.2.2.2.2.1,())))) (k7 z4.2)) (bp (i64.wrap (z1.1+1),z4.2))) (0,z1.2)) (some ((),yb z1.2 (z1.2.2.2.2.2.2.2.2.2.2.2.2.2.2.1,z1.2.2.2.2.2.2.2.2.2.2.2.2.2.1,())))) (0,r0,r1,r2,r3,r4,r5,r6,r7,r8,r9,r10,r11,r13,r12,())
abbrev Rs:=my aj
def E7(s:aV)(id:Int):Option (aV×(List fR)×Int×Unit):=W.ae (vb W s.2.2.2.2.1 id) λv1=>W.ae (zi W v1) λv2=>W.ae (tI W s.1 s.2.1 s.2.2.1 s.2.2.2.1 s.2.2.2.2.1 s.2.2.2.2.2.1 s.2.2.2.2.2.2.1 s.2.2.2.2.2.2.2.1 s.2.2.2.2.2.2.2.2.1 s.2.2.2.2.2.2.2.2.2.1 s.2.2.2.2.2.2.2.2.2.2.1 s.2.2.2.2.2.2.2.2.2.2.2.1 [] 0 v2.1) λv3=>W.ae (pO W v3.2.1 v3.2.2.1 v3.2.2.2.1 v3.2.2.2.2.1 v3.2.2.2.2.2.1 v3.2.2.2.2.2.2.1 v3.2.2.2.2.2.2.2.1 v3.2.2.2.2.2.2.2.2.1 v3.2.2.2.2.2.2.2.2.2.1 v3.2.2.2.2.2.2.2.2.2.2.1 v3.2.2.2.2.2.2.2.2.2.2.2.1 v3.2.2.2.2.2.2.2.2.2.2.2.2.1 v3.2.2.2.2.2.2.2.2.2.2.2.2.2.1 v3.2.2.2.2.2.2.2.2.2.2.2.2.2.2.1 v1) λv4=>W.ae (my W v4.2.1 v4.2.2.1 v4.2.2.2.1 v4.2.2.2.2.1 v4.2.2.2.2.2.1 v4.2.2.2.2.2.2.1 v4.2.2.2.2.2.2.2.1 v4.2.2.2.2.2.2.2.2.1 v4.2.2.2.2.2.2.2.2.2.1 v4.2.2.2.2.2.2.2.2.2.2.1 v4.2.2.2.2.2.2.2.2.2.2.2.1 v4.2.2.2.2.2.2.2.2.2.2.2.2.1 v4.2.2.2.2.2.2.2.2.2.2.2.2.2.1 v4.2.2.2.2.2.2.2.2.2.2.2.2.2.2.1 v2.1 v2.2.1) λv5=>W.ae (B4 W) λv6=>W.ae (my W v5.2.1 v5.2.2.1 v5.2.2.2.1 v5.2.2.2.2.1 v5.2.2.2.2.2.1 v5.2.2.2.2.2.2.1 v5.2.2.2.2.2.2.2.1 v5.2.2.2.2.2.2.2.2.1 v5.2.2.2.2.2.2.2.2.2.1 v5.2.2.2.2.2.2.2.2.2.2.1 v5.2.2.2.2.2.2.2.2.2.2.2.1 v5.2.2.2.2.2.2.2.2.2.2.2.2.1 v5.2.2.2.2.2.2.2.2.2.2.2.2.2.1 v5.2.2.2.2.2.2.2.2.2.2.2.2.2.2.1 v2.1 (v6::[])) λv7=>W.af (v7.2.2.2.2.2.2.2.2.2.2.2.2.2.2.1 != 0) (some ((0,[],[],[],[],[],[],[],[],[],[],[],()),[],v7.2.2.2.2.2.2.2.2.2.2.2.2.2.2)) (some (yb v7.2 (),v7.2.2.2.2.2.2.2.2.2.2.2.2.2.1,0,()))
abbrev Mi:=E7 aj
def HC(s:aV)(u:ar):Option fS:=W.ae (jC W s.2.2.2.2.2.2.2.2.2.2.1 u) λv1=>W.ae (j8 W s.2.2.2.2.2.2.2.2.2.2.2.1 u) λv2=>some (u,(if v1>0 then v1 else 0),v2,())
abbrev Z6:=HC aj
def EQ(l:List bg)(u:ar)(all:List bf):Option ((List bg)×Int×Unit):=W.aH (λ(z1:Int×Unit)=>W.ae (lQ W l u all z1.1) λv2=>some v2) λk3=>W.ae (vW W all) λv4=>W.af (!v4) (k3 (3,())) (k3 (0,()))
abbrev adF:=EQ aj
def tD(s:aV)(r:fS):Option (aV×Int×Unit):=W.ae (rS W s.2.2.2.2.2.2.2.2.2.2.1 ((r.1,i64.wrap (0-r.2.1),())::[])) λv1=>W.aH (λ(z2:Int×Int×List aW×List bF×List bf×List aD×List bz×List bP×List bZ×List bC×List bC×List bg×List aR×Unit)=>some (U10 z2.2 (z2.2.2.2.2.2.2.2.2.2.2.2.2.1,z2.2.2.2.2.2.2.2.2.2.2.2.1,()),z2.1,())) λk3=>W.af (v1.2.1==0) (W.ae (EQ W s.2.2.2.2.2.2.2.2.2.2.2.1 r.1 []) λv4=>(k3 (v4.2.1,U10 s (v4.1,v1.1,())))) (k3 (v1.2.1,U10 s (s.2.2.2.2.2.2.2.2.2.2.2.1,v1.1,())))
abbrev Nd:=tD aj
def BP(s:aV)(id:Int):Option (aV×(List fS)×Int×Unit):=W.aH (λ(z1:Bool×Unit)=>W.af z1.1 (some ((0,[],[],[],[],[],[],[],[],[],[],[],()),[],3,())) (W.ae (vb W s.2.2.2.2.1 id) λv2=>W.aY (λ(z3:Int×Int×List aW×List bF×List bf×List aD×List bz×List bP×List bZ×List bC×List bC×List aR×List bg×List aD×List fS×Unit) ag8=>W.af (decide (z3.1<(v2.length:Int))) (W.aI z3.2.2.2.2.2.2.2.2.2.2.2.2.2.1 z3.1 λx5=>W.cr z3.2.2.2.2.2.2.2.2.2.2.2.2.2.1 (Int.toNat z3.1) λx6=>W.ae (jo W x6) λv7=>W.aY (λ(z8:Int×Int×List aW×List bF×List bf×List aD×List bz×List bP×List bZ×List bC×List bC×List aR×List bg×List aD×List fS×List ar×Unit) ax0=>W.af (decide (z8.1<(v7.length:Int))) (W.aH (λ(Le:Int×List aW×List bF×List bf×List aD×List bz×List bP×List bZ×List bC×List bC×List aR×List bg×List aD×List fS×List ar×Unit)=>(ax0 (i64.wrap (z8.1+1),Le))) λGJ=>W.aI z8.2.2.2.2.2.2.2.2.2.2.2.2.2.2.2.1 z8.1 λx12=>W.cr z8.2.2.2.2.2.2.2.2.2.2.2.2.2.2.2.1 (Int.toNat z8.1) λx13=>W.ae (HC W (yb z8.2 ()) x13) λv14=>W.aH (λ(z15:List aD×List fS×List ar×Unit)=>W.ae (tD W (yb z8.2 ()) v14) λVs=>W.af (Vs.2.1 != 0) (some ((0,[],[],[],[],[],[],[],[],[],[],[],()),[],Vs.2)) (W.bi (z15.2.1.length+(v14::[]).length) 48 (GJ (yb Vs.1 (z15.1,z15.2.1++(v14::[]),z15.2.2))))) λk17=>W.af (v14.2.1==0) (W.af ((v14.2.2.1.length:Int)==0) (GJ z8.2) (k17 z8.2.2.2.2.2.2.2.2.2.2.2.2.2)) (k17 z8.2.2.2.2.2.2.2.2.2.2.2.2.2)) (ag8 (i64.wrap (z3.1+1),U14 z8.2 ()))) (0,U14 z3.2 (v7,()))) (some (yb z3.2 (),z3.2.2.2.2.2.2.2.2.2.2.2.2.2.2.1,0,()))) (0,yb s (v2,[],())))) λk18=>W.ae (nG W s.2.2.2.2.2.2.2.2.2.2.1) λv19=>W.af (!v19) (k18 (true,())) (W.ae (tE W s.2.2.2.2.2.2.2.2.2.2.2.1) λv20=>(k18 (!v20,())))
abbrev Is:=BP aj
def nM(d:aK):Option (Int×aK):=W.ae (fO W d) λv1=>W.aH (λ(z2:S21)=>W.aH (λ(z3:S1)=>W.af (z3.1 != 0) (some z3) (W.ae (AO W (yb z3.2 ()) z2.2.1) λv4=>W.af (decide (0<(v4.length:Int))) (some (21,z3.2)) (W.two (W.ae (E7 W (yb z3.2 ()) z2.2.1) λv5=>W.af (v5.2.2.1 != 0) (some (v5.2.2.1,z3.2)) (W.ae (BP W v5.1 z2.2.1) λv6=>W.aH (λ(z7:S0)=>some (v6.2.2.1,z7)) λk8=>W.af (v6.2.2.1==0) (k8 (yb v6.1 (U16 z3.2.2.2.2.2.2.2.2.2.2.2.2.2 (v5.2.1,v6.2.1,())))) (k8 z3.2)))))) λk13=>W.af (z2.1==0) (W.ae (j9 W v1.2 z2.2) λv14=>(k13 v14)) (k13 (z2.1,v1.2))) λW4=>W.af (v1.1.2.1==0) (W.ae (wa W v1.1.1 v1.2.1) λVs=>(W4 (Vs.2.1,Vs.1))) (W4 (v1.1.2.1,v1.1.1))
abbrev Ov:=nM aj
def kH(d:aK):Option (((List Int)×Int×Unit)×aK):=W.ae (rN W d.2.2.2.2.2.2.2.2.1 (d.2.2.2.2.2.2.2.2.2.2.2.2.2.2.2.1,d.2.2.2.2.2.2.2.2.2.2.2.2.2.2.2.2.1,())) λv1=>W.aY (λ(z2:S19) gj=>W.af (decide (z2.1<(v1.length:Int))) (W.aI z2.2.1 z2.1 λx4=>W.cr z2.2.1 (Int.toNat z2.1) λx5=>W.bi (z2.2.2.1.length+(x5.1::(x5.2.1::[])).length) 8 (gj (i64.wrap (z2.1+1),z2.2.1,z2.2.2.1++(x5.1::(x5.2.1::[])),()))) (W.ae (jD W d (d.2.2.2.2.2.2.2.2.2.2.2.2.2.2.2.1,d.2.2.2.2.2.2.2.2.2.2.2.2.2.2.2.2.1,())) λv6=>some ((z2.2.2.1,v6.1,()),v6.2))) (0,v1,[],())
abbrev Jg:=kH aj
def pM(d:aK):Option (((List Int)×Int×Unit)×aK):=W.aH (λ(z1:Bool×Unit)=>W.ae (jD W d (d.2.2.2.2.2.2.2.2.2.2.2.2.2.2.2.1,d.2.2.2.2.2.2.2.2.2.2.2.2.2.2.2.2.1,())) λv2=>W.aH (λ(z3:Bool×Unit)=>W.af z3.1 (some (([],v2.1,()),v2.2)) (W.ae (jC W v2.2.2.2.2.2.2.2.2.2.2.2.1 (v2.2.2.2.2.2.2.2.2.2.2.2.2.2.2.2.2.1,v2.2.2.2.2.2.2.2.2.2.2.2.2.2.2.2.2.2.1,())) λv4=>some ((v4::[],0,()),v2.2))) λk5=>W.af (v2.1 != 0) (k5 (!z1.1,())) (k5 (false,()))) λk6=>W.ae (B4 W) λv7=>W.af (dq false ((d.2.2.2.2.2.2.2.2.2.2.2.2.2.2.2.1==v7.1)&&(d.2.2.2.2.2.2.2.2.2.2.2.2.2.2.2.2.1==v7.2.1))) (W.two (k6 (true,()))) (W.two (W.ae (mX W) λv8=>(k6 (dq false ((d.2.2.2.2.2.2.2.2.2.2.2.2.2.2.2.1==v8.1)&&(d.2.2.2.2.2.2.2.2.2.2.2.2.2.2.2.2.1==v8.2.1)),()))))
abbrev Ro:=pM aj
def mV(d:aK):Option (((List Int)×Int×Unit)×aK):=W.two (W.ae (mJ W d.2.2.2.2.1 d.2.2.2.2.2.2.2.2.2.2.2.2.2.2.2.1) λv1=>W.af (!v1.2.1) (some (([],11,()),d)) (W.af (d.2.2.2.2.2.2.2.2.2.2.2.2.1==28) (W.ae (E3 W d.2.2.1 d.2.2.2.2.2.2.2.2.1 v1.1 (d.2.2.2.2.2.2.2.2.2.2.2.2.2.2.2.1,d.2.2.2.2.2.2.2.2.2.2.2.2.2.2.2.2.1,())) λv2=>some ((v2.1::[],v2.2),d)) (W.aH (λ(z3:Int×Int×Int×List aW×List bF×List bf×List aD×List bz×List bP×List bZ×List bC×List bC×List aR×List bg×Int×Int×Int×Int×Int×Int×Int×Int×Int×Int×Int×Int×Int×List (Int)×Int×List (Int)×List fR×List fS×Unit)=>some ((z3.1::[],z3.2.1,()),z3.2.2)) λk4=>W.gJ (W.ae (mz W d) λv5=>W.ae (mc W v5.1 v1.1 (v5.2.2.2.2.2.2.2.2.2.2.2.2.2.2.2.2.1,v5.2.2.2.2.2.2.2.2.2.2.2.2.2.2.2.2.2.1,())) λv6=>(k4 (v6.1,v6.2.1,v5.2))) (W.ae (mz W d) λv7=>W.ae (mc W v7.1 v1.1 (d.2.2.2.2.2.2.2.2.2.2.2.2.2.2.2.1,d.2.2.2.2.2.2.2.2.2.2.2.2.2.2.2.2.1,())) λv8=>(k4 (v8.1,v8.2.1,v7.2))))))
abbrev CY:=mV aj
def sG(s:BY)(l:List aD):Option ((List aR)×Int×Unit):=W.aY (λ(z1:S20) bp=>W.af (decide (z1.1<(l.length:Int))) (W.aI l z1.1 λx3=>W.ae (rV W x3) λv4=>W.aY (λ(z5:Int×List aR×List ar×Unit) FN=>W.af (decide (z5.1<(v4.length:Int))) (W.aH (λ(z7:List aR×List ar×Unit)=>(FN (i64.wrap (z5.1+1),z7))) λk8=>W.aI z5.2.2.1 z5.1 λx9=>W.cr z5.2.2.1 (Int.toNat z5.1) λx10=>W.ae (mc W s x3 x10) λv11=>W.af (v11.2.1 != 0) (some ([],v11.2)) (W.af (decide (v11.1<0)) (W.bi (z5.2.1.length+((x10,v11.1,())::[]).length) 24 (k8 (z5.2.1++((x10,v11.1,())::[]),z5.2.2))) (k8 z5.2))) (bp (i64.wrap (z1.1+1),z5.2.1,()))) (0,z1.2.1,v4,())) (some (z1.2.1,0,()))) (0,[],())
abbrev Qp:=sG aj
def om(d:aK):Option (((List Int)×Int×Unit)×aK):=W.aH (λ(z1:Int×Int×List aW×List bF×List bf×List aD×List bz×List bP×List bZ×List bC×List bC×List aR×List bg×Int×Int×Int×Int×Int×Int×Int×Int×Int×Int×Int×Int×Int×List (Int)×Int×List (Int)×List fR×List fS×List aR×Unit)=>W.aY (λ(z2:Int×List aR×List (Int)×Unit) gj=>W.af (decide (z2.1<(z1.2.2.2.2.2.2.2.2.2.2.2.2.2.2.2.2.2.2.2.2.2.2.2.2.2.2.2.2.2.2.2.1.length:Int))) (W.aI z2.2.1 z2.1 λx4=>W.cr z2.2.1 (Int.toNat z2.1) λx5=>W.bi (z2.2.2.1.length+(x5.1.1::(x5.1.2.1::(x5.2.1::[]))).length) 8 (gj (i64.wrap (z2.1+1),z2.2.1,z2.2.2.1++(x5.1.1::(x5.1.2.1::(x5.2.1::[]))),()))) (some ((z2.2.2.1,z1.1,()),pd z1.2 ()))) (0,z1.2.2.2.2.2.2.2.2.2.2.2.2.2.2.2.2.2.2.2.2.2.2.2.2.2.2.2.2.2.2.2.1,[],())) λk6=>W.gJ (W.ae (mz W d) λv7=>W.ae (sG W v7.1 v7.2.2.2.2.2.1) λv8=>(k6 (v8.2.1,pd v7.2 (v8.1,())))) (W.ae (mz W d) λv9=>W.ae (sG W v9.1 d.2.2.2.2.1) λv10=>(k6 (v10.2.1,pd v9.2 (v10.1,()))))
abbrev E6:=om aj
def og(d:aK):Option (((List Int)×Int×Unit)×aK):=W.ae (fO W d) λv1=>W.af (v1.1.2.1 != 0) (some (([],v1.1.2),v1.2)) (W.ae (uk W (yb v1.2 ()) v1.1.1.1) λv2=>some ((v1.1.1.2.2.1::(v1.1.1.2.2.2.1::(v2.1::[])),v2.2),v1.2))
abbrev E5:=og aj
def oo(d:aK):Option (((List Int)×Int×Unit)×aK):=W.af (d.2.2.2.2.2.2.2.2.2.2.2.2.1==26) (W.ae (kH W d) λv1=>some v1) (W.af (d.2.2.2.2.2.2.2.2.2.2.2.2.1==27) (W.ae (pM W d) λv2=>some v2) (W.aH (λ(z3:Bool×Unit)=>W.af z3.1 (W.ae (mV W d) λv4=>some v4) (W.af (d.2.2.2.2.2.2.2.2.2.2.2.2.1==30) (W.ae (om W d) λv5=>some v5) (W.ae (og W d) λv6=>some v6))) λk7=>W.aH (λ(z8:Bool×Unit)=>W.af z8.1 (k7 z8) (k7 (d.2.2.2.2.2.2.2.2.2.2.2.2.1==29,()))) λk9=>(k9 (d.2.2.2.2.2.2.2.2.2.2.2.2.1==28,()))))
abbrev Pu:=oo aj
def qJ(d:aK):Option (Int×aK):=W.ae (oo W d) λv1=>W.aH (λ(z2:S0)=>some (v1.1.2.1,z2)) λk3=>W.af (v1.1.2.1==0) (k3 (U27 v1.2 (v1.1.1,v1.2.2.2.2.2.2.2.2.2.2.2.2.2.2.2.2.2.2.2.2.2.2.2.2.2.2.2.2.2))) (k3 v1.2)
abbrev UQ:=qJ aj
def yL(l:List aD)(id:Int):Option (aD×Bool×Unit):=W.aY (λ(z1:Int×Unit) bp=>W.af (decide (z1.1<(l.length:Int))) (W.aI l z1.1 λx3=>W.af (x3.1==id) (W.aI l z1.1 λx4=>some (x4,true,())) (bp (i64.wrap (z1.1+1),()))) (some ((0,0,0,[],()),false,()))) (0,())
abbrev afg:=yL aj
def oP(s:aV)(u:ar)(id:Int):Option Bool:=W.ae (yL W s.2.2.2.2.1 u.1) λv1=>W.af v1.2.1 (some (v1.1.2.1==id)) (some false)
abbrev Xc:=oP aj
end
section
abbrev Sg0:=Int×List aW×List bF×List bf×List aD×List bz×List bP×List bZ×List bC×List bC×List aR×List bg×Unit
abbrev Sg1:=Int×Int×List aW×List bF×List bf×List aD×List bz×List bP×List bZ×List bC×List bC×List aR×List bg×Unit
variable(W:Wd)
def lC(d:aK)(id:Int):Option ((List Int)×aK):=W.ae (vb W d.2.2.2.2.1 id) λv1=>W.aY (λ(z2:Int×List aD×List (Int)×Unit) gj=>W.af (decide (z2.1<(v1.length:Int))) (W.aI z2.2.1 z2.1 λx4=>W.cr z2.2.1 (Int.toNat z2.1) λx5=>W.ae (jo W x5) λv6=>W.aY (λ(z7:Int×List aD×List (Int)×List ar×Unit) ax1=>W.af (decide (z7.1<(v6.length:Int))) (W.aI z7.2.2.2.1 z7.1 λx9=>W.cr z7.2.2.2.1 (Int.toNat z7.1) λx10=>W.ae (HE W d.2.2.2.2.2.2.2.1 x10) λv11=>W.bi (z7.2.2.1.length+v11.length) 8 (ax1 (i64.wrap (z7.1+1),z7.2.1,z7.2.2.1++v11,z7.2.2.2))) (gj (i64.wrap (z2.1+1),z7.2.1,z7.2.2.1,()))) (0,z2.2.1,z2.2.2.1,v6,())) (W.ae (YP z2.2.2.1) λv12=>W.ae (Tk v12) λIb=>some (Ib.1,d))) (0,v1,[],())
abbrev Bc:=lC aj
def kD(d:aK):Option (Int×aK):=W.ae (fO W d) λv1=>W.af (v1.1.2.1 != 0) (some (v1.1.2.1,v1.2)) (W.aH (λ(z2:Bool×Unit)=>W.af z2.1 (some (2,v1.2)) (W.ae (zc W v1.1.1 v1.2.1 v1.2.2.2.2.2.2.2.2.2.2.2.2.2.2.2.2.2.2.2.2.2.2.2.2.1) λv3=>W.aH (λ(z4:Int×Int×List aW×List bF×List bf×List aD×List bz×List bP×List bZ×List bC×List bC×List aR×List bg×Int×Int×Int×Int×Int×Int×Int×Int×Int×Int×Int×Int×Int×List (Int)×Int×List (Int)×List fR×List fS×Unit)=>W.af (z4.1 != 0) (some z4) (W.ae (lC W z4.2 v3.1.1) λv5=>W.ae (mv W v5.2 v5.1 4) λv6=>some v6)) λk7=>W.af (v3.2.1==0) (W.ae (j9 W v1.2 v3.1) λv8=>(k7 v8)) (k7 (v3.2.1,v1.2)))) λk9=>W.af (decide (v1.2.2.2.2.2.2.2.2.2.2.2.2.2.2.2.2.2.2.2.2.2.2.2.2.1<0)) (k9 (true,())) (k9 (decide (16<v1.2.2.2.2.2.2.2.2.2.2.2.2.2.2.2.2.2.2.2.2.2.2.2.2.1),())))
abbrev I6:=kD aj
def pz(d:aK):Option (Int×aK):=W.af (d.2.2.2.2.2.2.2.2.2.2.2.2.1==19) (W.ae (oe W d) λv1=>some v1) (W.af (d.2.2.2.2.2.2.2.2.2.2.2.2.1==20) (W.ae (lJ W d) λv2=>some v2) (W.af (d.2.2.2.2.2.2.2.2.2.2.2.2.1==21) (W.ae (kD W d) λv3=>some v3) (W.af (d.2.2.2.2.2.2.2.2.2.2.2.2.1==22) (W.ae (pN W d) λv4=>some v4) (W.af (d.2.2.2.2.2.2.2.2.2.2.2.2.1==23) (W.ae (jY W d) λv5=>some v5) (W.af (d.2.2.2.2.2.2.2.2.2.2.2.2.1==24) (W.ae (j4 W d) λv6=>some v6) (W.ae (nM W d) λv7=>some v7))))))
abbrev QO:=pz aj
def qH(d:aK):Option (Int×aK):=W.af (decide (d.2.2.2.2.2.2.2.2.2.2.2.2.1<=6)) (W.ae (n9 W d) λv1=>some v1) (W.af (decide (d.2.2.2.2.2.2.2.2.2.2.2.2.1<=13)) (W.ae (n5 W d) λv2=>some v2) (W.af (decide (d.2.2.2.2.2.2.2.2.2.2.2.2.1<=18)) (W.ae (nO W d) λv3=>some v3) (W.af (decide (d.2.2.2.2.2.2.2.2.2.2.2.2.1<=25)) (W.ae (pz W d) λv4=>some v4) (W.ae (qJ W d) λv5=>some v5))))
abbrev SX:=qH aj
def vy(aat:aK)(e:Int):Option (Int×aK):=W.af (decide (0<(((Go.Vc.DV.fn 1000033 ((Go.Vc.DV.own 0 0)::[]))::((Go.Vc.DV.fn 1000034 ((Go.Vc.DV.own 0 0)::[]))::((Go.Vc.DV.fn 1000035 ((Go.Vc.DV.own 0 0)::[]))::[]))).length:Int))) (W.af (e != 0) (some (e,aat)) (W.ae (mS W aat) λv1=>W.af (decide ((i64.wrap (0+1))<(((Go.Vc.DV.fn 1000033 ((Go.Vc.DV.own 0 0)::[]))::((Go.Vc.DV.fn 1000034 ((Go.Vc.DV.own 0 0)::[]))::((Go.Vc.DV.fn 1000035 ((Go.Vc.DV.own 0 0)::[]))::[]))).length:Int))) (W.af (v1.1 != 0) (some v1) (W.ae (lH W v1.2) λv2=>W.af (decide ((i64.wrap ((i64.wrap (0+1))+1))<(((Go.Vc.DV.fn 1000033 ((Go.Vc.DV.own 0 0)::[]))::((Go.Vc.DV.fn 1000034 ((Go.Vc.DV.own 0 0)::[]))::((Go.Vc.DV.fn 1000035 ((Go.Vc.DV.own 0 0)::[]))::[]))).length:Int))) (W.af (v2.1 != 0) (some v2) (W.ae (qH W v2.2) λv3=>W.af (decide ((i64.wrap ((i64.wrap ((i64.wrap (0+1))+1))+1))<(((Go.Vc.DV.fn 1000033 ((Go.Vc.DV.own 0 0)::[]))::((Go.Vc.DV.fn 1000034 ((Go.Vc.DV.own 0 0)::[]))::((Go.Vc.DV.fn 1000035 ((Go.Vc.DV.own 0 0)::[]))::[]))).length:Int))) (none) (some v3))) (some v2))) (some v1))) (some (e,aat))
abbrev PQ:=vy aj
def nP(s:aV)(c:cm):Option (aV×YS×Unit):=W.ae (AU W c) λv1=>W.ae (vy W (yb s (U3 c (c.2.2.2.1.1,c.2.2.2.1.2.1,c.2.2.2.2.1.1,c.2.2.2.2.1.2.1,U7 c.2.2.2.2.2 (0,[],[],[],())))) v1) λv2=>W.af (v2.1 != 0) (some (s,(v2.1,[],[],[],()),())) (some (yb v2.2 (),v2.2.2.2.2.2.2.2.2.2.2.2.2.2.2.2.2.2.2.2.2.2.2.2.2.2.2.2,()))
abbrev PR:=nP aj
def FA:Option Bool:=W.ae (nP W (0,[],[],[],[],[],[],[],[],[],[],[],()) (1,0,1,(0,0,()),(0,0,()),0,0,0,0,9,0,[],())) λv1=>W.ae (nP W v1.1 (1,0,1,(0,0,()),(0,0,()),0,0,0,0,9,0,[],())) λv2=>W.ae (nP W v1.1 (1,1,1,(0,0,()),(0,0,()),0,0,0,0,9,0,[],())) λv3=>W.af (v1.2.1.1==0) (W.af ((v1.1.2.1.length:Int)==1) (W.af (v2.2.1.1==12) (some (v3.2.1.1==14)) (some false)) (some false)) (some false)
def ri(l:List cm):Option Bool:=W.aH (λ(z1:Sg0)=>W.ae (FA W) λv2=>some v2) λk3=>W.aY (λ(z4:Sg1) rX=>W.af (decide (z4.1<(l.length:Int))) (W.af (decide (z4.1<90)) (W.aI l z4.1 λx6=>W.ae (vz W x6) λv7=>W.ae (nP W z4.2 v7) λv8=>W.aH (λ(z9:Unit)=>(rX (i64.wrap (z4.1+1),v8.1))) λva=>W.aH (λ(z11:Bool×Unit)=>W.af z11.1 (W.aY (λ(z12:Bool×Int×Unit) at2=>W.af (decide (z12.2.1<(z4.2.2.1.length:Int))) (W.aH (λ(z14:Bool×Unit)=>(at2 (z14.1,i64.wrap (z12.2.1+1),()))) λW4=>W.af z12.1 (W4 (true,())) (W.aI z4.2.2.1 z12.2.1 λx16=>W.af (x16.1==v7.2.1) (W.aI z4.2.2.1 z12.2.1 λx17=>(W4 (x17.2.2.1==0,()))) (W4 (false,())))) (W.aH (λ(z18:Bool×Unit)=>W.aH (λ(z19:Bool×Unit)=>W.af z19.1 (some false) (W.aH (λ(z20:Bool×Unit)=>W.af z20.1 (some false) (W.aH (λ(z21:Bool×Unit)=>W.af z21.1 (some false) (va ())) λXd=>W.af (v7.1==20) (W.ae (oP W z4.2 v7.2.2.2.2.1 v7.2.1) λv23=>W.af (!v23) (Xd (true,())) (W.af (v7.1==31) (Xd (v7.2.2.1 != v7.2.1,())) (Xd (false,())))) (W.af (v7.1==31) (Xd (v7.2.2.1 != v7.2.1,())) (Xd (false,()))))) λk24=>W.af (v7.1==8) (W.ae (oP W z4.2 v7.2.2.2.1 v7.2.1) λv25=>(k24 (!v25,()))) (W.af (v7.1==12) (W.ae (oP W z4.2 v7.2.2.2.1 v7.2.1) λv26=>(k24 (!v26,()))) (W.af (decide (17<=v7.1)) (W.af (decide (v7.1<=19)) (W.ae (oP W z4.2 v7.2.2.2.1 v7.2.1) λv27=>(k24 (!v27,()))) (W.af (decide (26<=v7.1)) (W.af (decide (v7.1<=29)) (W.ae (oP W z4.2 v7.2.2.2.1 v7.2.1) λv28=>(k24 (!v28,()))) (k24 (false,()))) (k24 (false,())))) (W.af (decide (26<=v7.1)) (W.af (decide (v7.1<=29)) (W.ae (oP W z4.2 v7.2.2.2.1 v7.2.1) λv29=>(k24 (!v29,()))) (k24 (false,()))) (k24 (false,()))))))) λk30=>W.af (!z12.1) (k30 (true,())) (k30 z18)) λk31=>W.af (decide (v7.1<=4)) (k31 (true,())) (W.af (v7.1==6) (k31 (true,())) (W.af (decide (14<=v7.1)) (W.af (decide (v7.1<=16)) (k31 (true,())) (W.af (decide (21<=v7.1)) (W.af (decide (v7.1<=25)) (k31 (true,())) (k31 (v7.1==30,()))) (k31 (v7.1==30,())))) (W.af (decide (21<=v7.1)) (W.af (decide (v7.1<=25)) (k31 (true,())) (k31 (v7.1==30,()))) (k31 (v7.1==30,()))))))) (false,0,())) (va ())) λk32=>W.af (v8.2.1.1==0) (k32 (v7.2.1 != 0,())) (k32 (false,()))) (k3 z4.2)) (k3 z4.2)) (0,0,[],[],[],[],[],[],[],[],[],[],[],())
end
theorem ai{α β:Type}{o:Option α}{a:α}(h:o=some a)(K:α->Option β):aj.ae o K=K a:=by subst h;rfl
end Go.Proofs.YthghpahghjppjaaGreat


namespace Go.Proofs.YthghpahghjppjaaGreat
open Go Go.Vc Go.RowKit
open Go.IntKind (i64 u64)
def wv(w:bU):Int:=w.1*18446744073709551616+w.2.1
def FH(w:bU):Prop:=(-9223372036854775808<=w.1/\w.1<=9223372036854775807)/\(0<=w.2.1/\w.2.1<18446744073709551616)
def wide(z:Int):bU:=(z / 18446744073709551616,z % 18446744073709551616,())
def eN(z:Int):Prop := -170141183460469231731687303715884105728<=z/\z<170141183460469231731687303715884105728
instance (z:Int):Decidable (eN z):=by unfold eN;infer_instance
theorem tN(z):wv (wide z)=z:=by unfold wide wv;simp only;omega
theorem asP(w)(h:FH w):wide (wv w)=w:=by
 obtain⟨hi,lo,⟨⟩⟩:=w;unfold FH at h;unfold wide wv;simp only at h ⊢;have e1:(hi*18446744073709551616+lo) / 18446744073709551616=hi:=by omega
 have e2:(hi*18446744073709551616+lo) % 18446744073709551616=lo:=by omega
 rw[e1,e2]
theorem aps(w)(h:FH w):eN (wv w):=by unfold FH at h;unfold eN wv;omega
theorem nL(z)(h:eN z):FH (wide z):=by unfold eN at h;unfold FH wide;simp only;omega
theorem apk{a b}(h:wide a=wide b):a=b:=by rw[<-tN a,h,tN]
theorem apt(n)(h : -9223372036854775808<=n/\n<=9223372036854775807):n.fdiv (2 ^ min (Int.toNat 63) i64.bits)=n / 18446744073709551616:=by
 have e:(2:Int) ^ min (Int.toNat 63) i64.bits=9223372036854775808:=by decide +kernel
 rw[e,eO _ (by omega)];omega
def fit(z:Int):bU×Int×Unit:=if eN z then(wide z,0,())else((0,0,()),7,())
def cu(n:Int):Prop := -9223372036854775808<=n/\n<=9223372036854775807
theorem vk{n}(h:cu n):eN n:=by unfold cu at h;unfold eN;omega
theorem Mf(n)(h:cu n):ahq n=some (wide n):=by show pE aj n=_;unfold pE;rw[vj (by omega),apt n h,bW];rfl
def Lc(V:Int):Int×Int×Int×Unit:=(V / 340282366920938463463374607431768211456,i64.wrap (V / 18446744073709551616),V % 18446744073709551616,())
def y6(V:Int):Prop := -1569275433846670190958947355801916604025588861116008628224<=V/\V<1569275433846670190958947355801916604025588861116008628224
theorem ad7(z):u64.wrap (i64.wrap z)=z % 18446744073709551616:=by rw[bW,dW];omega
theorem K0(z):i64.wrap (z % 18446744073709551616)=i64.wrap z:=by rw[dW,dW];omega
theorem apu(V x y)(hV:y6 V)(hx : -9223372036854775808<=x/\x<=9223372036854775807)(hy:0<=y/\y<18446744073709551616):
 ((i64.wrap (V / 340282366920938463463374607431768211456+i64.wrap (x.fdiv (2 ^ min (Int.toNat 63) i64.bits)+i64.wrap ((u64.wrap (i64.wrap (V / 18446744073709551616))+u64.wrap x+(V % 18446744073709551616+y+0) / 18446744073709551616) / 18446744073709551616))),
  i64.wrap ((u64.wrap (i64.wrap (V / 18446744073709551616))+u64.wrap x+(V % 18446744073709551616+y+0) / 18446744073709551616) % 18446744073709551616),
  (V % 18446744073709551616+y+0) % 18446744073709551616,()):Int×Int×Int×Unit)=Lc (V+(x*18446744073709551616+y)):=by
 unfold y6 at hV;rw[ad7,K0,apt x hx,bW];have e1:(V+(x*18446744073709551616+y)) / 18446744073709551616=V / 18446744073709551616+x+(V % 18446744073709551616+y+0) / 18446744073709551616:=by omega
 have e0:(V+(x*18446744073709551616+y)) / 340282366920938463463374607431768211456=(V / 18446744073709551616+x+(V % 18446744073709551616+y+0) / 18446744073709551616) / 18446744073709551616:=by omega
 have e3:V / 340282366920938463463374607431768211456=V / 18446744073709551616 / 18446744073709551616:=by omega
 unfold Lc;rw[e1,e0,e3];have hc:0<=(V % 18446744073709551616+y+0) / 18446744073709551616/\(V % 18446744073709551616+y+0) / 18446744073709551616<=1:=by omega
 generalize (V % 18446744073709551616+y+0) / 18446744073709551616=c at *;have hu : -92233720368547758080000000000000000000<=V / 18446744073709551616/\V / 18446744073709551616<92233720368547758080000000000000000000:=by omega
 generalize V / 18446744073709551616=u at *;have f1:(V+(x*18446744073709551616+y)) % 18446744073709551616=(V % 18446744073709551616+y+0) % 18446744073709551616:=by omega
 rw[f1];have g2:(u % 18446744073709551616+x % 18446744073709551616+c) / 18446744073709551616<=2/\0<=(u % 18446744073709551616+x % 18446744073709551616+c) / 18446744073709551616:=by omega
 have g1:i64.wrap ((u % 18446744073709551616+x % 18446744073709551616+c) / 18446744073709551616)=(u % 18446744073709551616+x % 18446744073709551616+c) / 18446744073709551616:=bI _ (by omega);rw[g1];have g3:i64.wrap (x / 18446744073709551616+(u % 18446744073709551616+x % 18446744073709551616+c) / 18446744073709551616)=x / 18446744073709551616+(u % 18446744073709551616+x % 18446744073709551616+c) / 18446744073709551616:=bI _ (by omega);rw[g3];have g4:u / 18446744073709551616+(x / 18446744073709551616+(u % 18446744073709551616+x % 18446744073709551616+c) / 18446744073709551616)=(u+x+c) / 18446744073709551616:=by omega
 rw[g4];have g5:i64.wrap ((u+x+c) / 18446744073709551616)=(u+x+c) / 18446744073709551616:=bI _ (by omega);rw[g5];have g6:i64.wrap (u % 18446744073709551616+x % 18446744073709551616+c)=i64.wrap (u+x+c):=by rw[dW,dW];omega
 rw[g6]
theorem Ul{x y c}(hx:0<=x)(hy:0<=y)(hc0:0<=c)(hc:c<=1):Jw x y c=some ((x+y+c) % 18446744073709551616,(x+y+c) / 18446744073709551616,()):=by unfold Jw;rw[ah ⟨hx,hy,hc0,hc⟩]
theorem M8{x y b}(hx:0<=x)(hy:0<=y)(hy2:y<18446744073709551616)(hb0:0<=b)(hb:b<=1):Hf x y b=some ((x-y-b) % 18446744073709551616,if x<y+b then 1 else 0,()):=by unfold Hf;rw[ah ⟨hx,hy,hy2,hb0,hb⟩]
theorem Z4(V:Int)(x:bU)(hV:y6 V)(hx:FH x):BO (Lc V).1 (Lc V).2.1 (Lc V).2.2.1 x=some ((),Lc (V+wv x)):=by unfold FH at hx;show jN aj (V / 340282366920938463463374607431768211456) (i64.wrap (V / 18446744073709551616)) (V % 18446744073709551616) x=_;unfold jN wv;rw[<-apu V x.1 x.2.1 hV hx.1 hx.2];have hV':=hV;unfold y6 at hV';rw[ai (Ul (by omega) (by omega) (by omega) (by omega)),ai (Ul (by rw[bW];omega) (by rw[bW];omega) (by dsimp only;omega) (by dsimp only;omega)),vj (by omega)]
theorem apv(V)(hV:y6 V):(V / 340282366920938463463374607431768211456==(i64.wrap (V / 18446744073709551616)).fdiv (2 ^ min (Int.toNat 63) i64.bits))=decide (eN V):=by
 have hr : -9223372036854775808<=i64.wrap (V / 18446744073709551616)/\i64.wrap (V / 18446744073709551616)<=9223372036854775807:=by rw[dW];omega
 rw[apt _ hr];unfold y6 at hV;by_cases h:eN V
 .rw[aq h];unfold eN at h;rw[bI _ (by omega)];first|(simp;done)|(simp;omega)|skip
 .rw[an h];unfold eN at h;rw[dW];simp;omega
theorem Um(w)(ok):ad8 w ok=some (if ok=true then(w,0,())else((0,0,()),7,())):=by show lV aj w ok=_;unfold lV;cases ok<;>rfl
theorem aiK(V:Int)(hV:y6 V):Ri (Lc V).1 (Lc V).2.1 (Lc V).2.2.1=some (fit V,Lc V):=by
 show mm aj _ _ _=_;unfold mm;rw[vj (by omega),ai (Um _ _)];have:=apv V hV;show some ((if(V / 340282366920938463463374607431768211456==(i64.wrap (V / 18446744073709551616)).fdiv (2 ^ min (Int.toNat 63) i64.bits))=true then _ else _),_)=_;rw[this];unfold fit;by_cases h:eN V
 .rw[ah (aq h),ah h];have e:i64.wrap (V / 18446744073709551616)=V / 18446744073709551616:=by unfold eN at h;exact bI _ (by omega)
  show some (((i64.wrap (V / 18446744073709551616),V % 18446744073709551616,()),0,()),_)=_;rw[e];rfl
 .rw[an h,ag (by simp),ag h]
def su(l:List bU):Int:=(l.map wv).sum
theorem aiM:∀(l:List bU),(∀w∈l,FH w) -> -(170141183460469231731687303715884105728*(l.length:Int))<=su l/\su l<=170141183460469231731687303715884105728*(l.length:Int)
 |[],_=>by simp[su]
 |x::l,h=>by
  have h1:=aps x (h x (by simp));have h2:=aiM l λw hw=>h w (by simp[hw])
  unfold eN at h1;simp only[su,bK,gN,aJ]at h2 ⊢;omega
theorem ad9(l:List bU)(h:∀w∈l,FH w)(hl:l.length<9223372036854775807):y6 (su l):=by have:=aiM l h;unfold y6;omega
theorem adm(a b):su (a++b)=su a+su b:=by unfold su;simp
theorem adn(a):su [a]=wv a:=by unfold su;simp
theorem akP(l:List bU)(i:Nat)(h:i<l.length):su (l.take (i+1))=su (l.take i)+wv l[i]:=by rw[show l.take (i+1)=l.take i++[l[i]]by simp,adm,adn]
theorem Su(l:List bU)(h:∀w∈l,FH w)(hl:l.length<9223372036854775807):yC l=some (fit (su l)):=by
 show sF aj l=_;unfold sF;refine ib (l:=l) (by omega) (λi s=>s=Lc (su (l.take i))) (λ_ _=>some (fit (su l))) (by simp[su];rfl) ?_ ?_
 .rintro _ again rfl;rw[br,dZ,ai (aiK _ (ad9 l h hl))]
 .rintro i hi _ rfl again ha;rw[dE hi,bO hi,ai (Z4 _ _ (ad9 _ (λw hw=>h w (fh hw)) (by rw[aX];omega)) (h _ (aG hi)))];dsimp only;rw[cU i (by omega)];exact ha _ (by rw[akP l i hi])
def oJ(a b:U0'):Prop:=a.1<b.1\/(a.1=b.1/\a.2.1<b.2.1)
instance (a b:U0'):Decidable (oJ a b):=by unfold oJ;infer_instance
instance:DecidableEq U0':=inferInstanceAs (DecidableEq (Int×Int×Unit))
theorem asJ{a b:U0'}(h1:a.1=b.1)(h2:a.2.1=b.2.1):a=b:=by obtain⟨a1,a2,⟨⟩⟩:=a;obtain⟨b1,b2,⟨⟩⟩:=b;simp only at h1 h2;subst h1 h2;rfl
theorem jv(a):¬oJ a a:=by unfold oJ;omega
theorem s7{a b c}(h1:oJ a b)(h2:oJ b c):oJ a c:=by unfold oJ at *;omega
theorem Fx{a b:U0'}(h1:¬oJ a b)(h2:¬oJ b a):a=b:=by unfold oJ at *;exact asJ (by omega) (by omega)
theorem Dz{a b}(h1:oJ a b)(h2:oJ b a):False:=jv a (s7 h1 h2)
abbrev jR(l:List U0'):Prop:=l.Pairwise oJ
theorem aiJ:∀{l m:List U0'},jR l->jR m->(∀x,x∈l↔x∈m)->l=m
 |[],[],_,_,_=>rfl
 |[],b::m,_,_,h=>absurd ((h b).2 (by simp)) (by simp)
 |a::l,[],_,_,h=>absurd ((h a).1 (by simp)) (by simp)
 |a::l,b::m,hl,hm,h=>by
  obtain⟨h1,h2⟩:=bD.1 hl;obtain⟨h3,h4⟩:=bD.1 hm
  have hab:a=b:=by
   rcases aF.1 ((h a).1 (by simp))with e|e
   .exact e
   .rcases aF.1 ((h b).2 (by simp))with e'|e'
    .exact e'.symm
    .exact(Dz (h1 b e') (h3 a e)).elim
  subst hab;rw[aiJ h2 h4 λx=>?_];constructor
  .intro hx;rcases aF.1 ((h x).1 (cP _ hx))with rfl|e
   .exact(jv _ (h1 _ hx)).elim
   .exact e
  .intro hx;rcases aF.1 ((h x).2 (cP _ hx))with rfl|e
   .exact(jv _ (h3 _ hx)).elim
   .exact e
theorem Lb(x y)(l:List U0'):I8 x (y::l)=if oJ x y then x::y::l else if x=y then y::l else y::I8 x l:=by
 have e0:I8 x (y::l)=bif decide (x.1<y.1)||(x.1==y.1&&decide (x.2.1<y.2.1))then x::y::l else bif x.1==y.1&&x.2.1==y.2.1 then y::l else y::I8 x l:=rfl;have e1:(decide (x.1<y.1)||(x.1==y.1&&decide (x.2.1<y.2.1)))=decide (oJ x y):=by rw[tW,bb];simp[oJ]
 have e2:(x.1==y.1&&x.2.1==y.2.1)=decide (x=y):=by rw[tW];simp only[aB,fP,bb];exact⟨λh=>asJ h.1 h.2,λh=>by rw[h];exact⟨rfl,rfl⟩⟩
 rw[e0,e1,e2];by_cases h1:oJ x y
 .rw[aq h1,ah h1];rfl
 .rw[an h1,ag h1];by_cases h2:x=y
  .rw[aq h2,ah h2];rfl
  .rw[an h2,ag h2];rfl
theorem Ut(x u):∀(l:List U0'),u∈I8 x l↔u=x\/u∈l
 |[]=>by simp[I8]
 |y::l=>by
  rw[Lb];split
  .simp
  .split
   .rename_i h;subst h;simp
   .rw[aF,Ut x u l,aF];constructor
    .rintro(h|h|h)<;>simp[h]
    .rintro(h|h|h)<;>simp[h]
theorem adz(x):∀{l:List U0'},jR l->jR (I8 x l)
 |[],_=>by simp[I8]
 |y::l,h=>by
  obtain⟨h1,h2⟩:=bD.1 h;rw[Lb];split
  .rename_i hlt;exact bD.2 ⟨λz hz=>(aF.1 hz).elim (λe=>e▸hlt) λhz=>s7 hlt (h1 z hz),h⟩
  .rename_i hlt;split
   .exact h
   .rename_i hne;refine bD.2 ⟨λz hz=>?_,adz x h2⟩;rcases(Ut x z l).1 hz with rfl|hz
    .exact cQ λhn=>hne (Fx hlt hn)
    .exact h1 z hz
theorem ad0(x):∀(l:List U0'),(I8 x l).length<=l.length+1
 |[]=>by simp[I8]
 |y::l=>by
  rw[Lb];split
  .simp
  .split
   .simp
   .have:=ad0 x l;simp;omega
theorem IS:∀(l:List F0') (ks:List U0'),jR ks->jR (l.foldl (λs x=>I8 x.1 s) ks)/\(∀u,u∈l.foldl (λs x=>I8 x.1 s) ks↔u∈ks\/∃x∈l,x.1=u)/\(l.foldl (λs x=>I8 x.1 s) ks).length<=ks.length+l.length
 |[],ks,h=>⟨h,λu=>by simp,by simp⟩
 |y::l,ks,h=>by
  obtain⟨h1,h2,h3⟩:=IS l (I8 y.1 ks) (adz _ h);refine⟨h1,λu=>?_,?_⟩
  .rw[lq,h2,Ut];constructor
   .rintro((h|h)|⟨x,hx,h⟩)
    .exact .inr ⟨y,by simp,h.symm⟩
    .exact .inl h
    .exact .inr ⟨x,by simp[hx],h⟩
   .rintro(h|⟨x,hx,h⟩)
    .exact .inl (.inr h)
    .rcases aF.1 hx with rfl|hx
     .exact .inl (.inl h.symm)
     .exact .inr ⟨x,hx,h⟩
  .rw[lq,aJ];have:=ad0 y.1 ks;omega
theorem Io(l)(u):u∈lS l↔∃x∈l,x.1=u:=by have:=(IS l [] .nil).2.1 u;simpa[lS]using this
theorem xr(l):jR (lS l):=(IS l [] .nil).1
theorem XP(l):(lS l).length<=l.length:=by simpa[lS]using(IS l [] .nil).2.2
instance (z:Int):Decidable (cu z):=by unfold cu;infer_instance
def cZ(z:Int):Int×Int×Unit:=if cu z then(z,0,())else(0,7,())
theorem XJ(c):dq true c=!c:=by cases c<;>rfl
theorem Ue(c):dq false c=c:=by cases c<;>rfl
theorem JU{z}(h:eN z):M5 (wide z)=some (cZ z):=by
 show qS aj (wide z)=_;unfold qS;have hw:IntKind.i64.wrap (wide z).2.1=IntKind.i64.wrap z:=K0 z;have hI:cu (IntKind.i64.wrap z):=by unfold cu;rw[dW];omega
 rw[hw,ai (Mf _ hI),XJ];unfold cZ;by_cases hz:cu z
 .have e:IntKind.i64.wrap z=z:=by unfold cu at hz;exact bI _ (by omega)
  rw[ah hz,e,az (by simp)]
 .rw[ag hz,aQ ?_];rw[jF];cases hc:((wide (IntKind.i64.wrap z)).1==(wide z).1&&(wide (IntKind.i64.wrap z)).2.1==(wide z).2.1)with
  |false=>rfl
  |true=>simp only[aB,fP]at hc;have:=jd hc.1 (jd hc.2 rfl);exact absurd (apk this▸hI) hz
theorem D9{z}(h:eN z):JR (wide z) 0=some (cZ z):=by show p9 aj (wide z) 0=_;unfold p9;rw[az (by decide),ai (JU h)]
theorem awU{l:List Int}(h:∀x∈l,cu x) : -(9223372036854775808*(l.length:Int))<=l.sum/\l.sum<=9223372036854775808*(l.length:Int):=by have:=ad1 (f:=λx:Int=>x) (B:=9223372036854775808) (l:=l) (λx hx=>by have:=h x hx;unfold cu at this;omega);simpa[iM]using this
theorem XQ(l:List Int):su (l.map wide)=l.sum:=by unfold su;rw[hJ];have:(wv ∘ wide)=id:=funext tN;rw[this,Dd]
theorem apl{l:List Int}(h:∀x∈l,cu x):∀w∈l.map wide,FH w:=by intro w hw;obtain⟨x,hx,rfl⟩:=aN.1 hw;exact nL _ (vk (h x hx))
theorem apm{l:List Int}(h:∀x∈l,cu x)(hl:l.length<=1000000):eN l.sum:=by have:=awU h;unfold eN;omega
theorem awV{l:List Int}(h:∀x∈l,cu x)(hl:l.length<=1000000):yC (l.map wide)=some (wide l.sum,0,()):=by rw[Su _ (apl h) (by rw[bh];omega),XQ];unfold fit;rw[ah (apm h hl)]
theorem tZ{l:List Int}(h:∀x∈l,cu x)(hl:l.length<=1000000):Ih l=some (cZ l.sum):=by
 show jB aj l=_;unfold jB;rw[vj (by omega),dm (by simp;omega) (by simp;omega)];refine K6 (N:=l.length) (by omega) (λi s=>s=((l.take i).map wide,())) (some (cZ l.sum)) rfl ?_ ?_
 .rintro _ again rfl;rw[dZ,br,ai (awV h hl),ai (D9 (apm h hl))]
 .rintro i hi _ rfl again ha;rw[dE hi,bO hi,ai (Mf _ (h _ (aG hi))),cU i (by omega),dm (by simp;omega) (by simp;omega)];refine ha _ ?_;rw[ax hi,cz];rfl
theorem bw{X β:Type}{k0:X->Option β}{f:(X->Option β)->Option β}{r:Option β}(h:∀k,k=k0->f k=r):aj.aH k0 f=r:=h k0 rfl
theorem CT(a b:ar):Pd a b=some (decide (oJ a b)):=by
 show mQ aj a b=_;unfold mQ;by_cases h:a.1=b.1
 .rw[az (by simp[h])];congr 1;refine eF.2 ?_;unfold oJ;omega
 .rw[aQ (by simp[h])];congr 1;refine eF.2 ?_;unfold oJ;omega
def ad3(l:List aR):Prop:=(∀x∈l,x.2.1≠0)/\jR (l.map (·.1))
instance (l:List aR):Decidable (ad3 l):=by unfold ad3 jR;infer_instance
def ya(l:List aR):Bool:=decide (ad3 l)
theorem apn{l:List aR}{i:Nat}(hi:i<l.length)(h:l[i].2.1=0):ya l=false:=an λhp=>hp.1 _ (aG hi) h
theorem apo{l:List aR}{i:Nat}(hi:i<l.length)(h0:0<i)(h:¬oJ (l[i-1]'(by omega)).1 l[i].1):ya l=false:=an λhp=>h (by have:=bN.1 hp.2 (i-1) i (by simp;omega) (by simpa using hi) (by omega);simpa using this)
theorem ad4{l:List aR}{i:Nat}(hi:i<l.length)(inv:ad3 (l.take i))(h1:l[i].2.1≠0)(h2:∀h0:0<i,oJ (l[i-1]'(by omega)).1 l[i].1):ad3 (l.take (i+1)):=by
 rw[ax hi];refine⟨λx hx=>?_,?_⟩
 .rcases aT.1 hx with hx|hx
  .exact inv.1 x hx
  .simp at hx;rw[hx];exact h1
 .rw[cz];refine dM.2 ⟨inv.2,by simp,λa ha b hb=>?_⟩;simp only[bK,oF,aC]at hb;subst hb;obtain⟨k,hk,hka⟩:=dJ.1 ha;have uY:k<i:=by simp at hk;omega
  have h3:=h2 (by omega);by_cases hki:k=i-1
  .subst hki;rw[<-hka];simpa using h3
  .have h4:=bN.1 inv.2 k (i-1) (by simpa using hk) (by simp;omega) (by omega);rw[hka]at h4;refine s7 h4 ?_;simpa using h3
theorem asK{l:List aR}(h:ad3 (l.take l.length)):ya l=true:=by rw[br]at h;exact aq h
theorem aaT{l:List aR}(hl:l.length<=1000000):L4 l=some (ya l):=by
 show nG aj l=_;unfold nG;refine K6 (N:=l.length) (by omega) (λi _=>ad3 (l.take i)) (some (ya l)) (by simp[ad3]) ?_ ?_
 .rintro _ again h;rw[dZ,asK h]
 .rintro i hi _ inv again ha;rw[dE hi,bO hi];refine bw λk hk=>?_
  have kt:k (true,())=some false:=by subst hk;rfl
  have kf:k (false,())=again (((i+1:Nat):Int),()):=by rw[<-cU i (by omega)];subst hk;rfl
  refine dQ (λh1=>?_) λh1=>?_
  .rw[kt,apn hi h1]
  .by_cases h0:0<i
   .rw[eR (by omega),Hs i h0 (by rw[ic];omega),bO (by omega),ai (CT _ _)];by_cases h2:oJ (l[i-1]'(by omega)).1 l[i].1
    .rw[aq h2];exact kf.trans (ha _ (ad4 hi inv h1 λ_=>h2))
    .rw[an h2,apo hi h0 h2];exact kt
   .rw[cY (by omega)];exact kf.trans (ha _ (ad4 hi inv h1 λh=>absurd h h0))
theorem eqA(a b:ar):(a.1==b.1&&a.2.1==b.2.1)=decide (a=b):=by
 by_cases h:a=b
 .subst h;simp
 .rw[an h];cases hc:(a.1==b.1&&a.2.1==b.2.1)with
  |false=>rfl
  |true=>simp only[aB,fP]at hc;exact absurd (asJ hc.1 hc.2) h
def ig:List aR->ar->Int
 |[],_=>0
 |x::l,u=>if x.1=u then x.2.1 else ig l u
theorem Jq{l}{u:ar}(hl:l.length<=1000000):pw l u=some (ig l u):=by
 show jC aj l u=_;unfold jC;refine ib (l:=l) (by omega) (λ_ _=>True) (λl _=>some (ig l u)) trivial ?_ ?_
 .rintro _ again _;rw[dZ];rfl
 .rintro i hi _ _ again ha;rw[dE hi,bO hi,Ue,eqA];unfold ig;refine du (λh=>?_) λh=>?_
  .rw[ah h]
  .rw[ag h,cU i (by omega)];exact ha _ trivial
def Vw(x:aR):Int:=x.2.1
def u7(l:List aR):Prop:=∀x∈l,cu (Vw x)
theorem vm{X β}{N}(hN:N<9223372036854775808){f}(st:Nat->X)(r:Option β){z0:X}(hz:z0=st 0)
 (Dw:∀again:X->Option β,f (st N) again=r) (tC:∀i,i<N->∀again:X->Option β,again (st (i+1))=r->f (st i) again=r):aj.aY f z0=r:=by
 subst hz
 have key:∀n i,i<=N->N-i<n->yO n f (st i)=r:=by
  intro n;induction n with
  |zero=>intro i _ h;omega
  |succ n ih=>
   intro i hi hn;by_cases h:i<N
   .exact tC i h _ (ih (i+1) (by omega) (by omega))
   .have:i=N:=by omega
    subst this;exact Dw _
 exact key FU 0 (bE _) (by rw[PZ];omega)
theorem awZ{β:Type}[rB β]{l:List KU}{K:KU->Option β}{N:Option β}{r:β}(h0:l=[]->N=some r)(h1:∀y∈l,K y=some r):aj.ME l K N=some r:=by
 dsimp only;cases l with
 |nil=>exact h0 rfl
 |cons x l=>
  show l.foldl (λr y=>Gh r (K y)) (K x)=some r;rw[h1 x (by simp)]
  have key:∀l:List KU,(∀y∈l,K y=some r)->l.foldl (λr y=>Gh r (K y)) (some r)=some r:=by
   intro l;induction l with
   |nil=>intro _;rfl
   |cons y l ih=>intro h;rw[lq,h y (by simp),RZ];exact ih λz hz=>h z (by simp[hz])
  exact key l λy hy=>h1 y (by simp[hy])
theorem DA{α:Type}:∀{l m:List α},l.Nodup->(∀x∈l,x∈m)->l.length<=m.length
 |[],m,_,_=>by simp
 |a::l,m,h,hs=>by
  obtain⟨m1,m2,rfl⟩:=List.append_of_mem (hs a (by simp));have h2:=gb.1 h
  have:l.length<=(m1++m2).length:=DA h2.2 λx hx=>by
   have:=hs x (by simp[hx]);simp only[aT,aF]at this ⊢;rcases this with h'|rfl|h'
   .exact .inl h'
   .exact absurd hx h2.1
   .exact .inr h'
  simp at this ⊢;omega
def Jz(l:List aR):List KU:=l.foldl (λs x=>QW s x.1) []
theorem akQ(l:List aR)(i:Nat)(h:i<l.length):Jz (l.take (i+1))=QW (Jz (l.take i)) l[i].1:=by unfold Jz;rw[ax h,Dj];rfl
theorem agf(ks)(x):QW ks x=if x∈ks then ks else ks++[x]:=by
 unfold QW;by_cases h:x∈ks
 .rw[vF.2 h,ah h];rfl
 .have:Tx x ks=false:=by
   cases hm:Tx x ks with
   |true=>exact absurd (vF.1 hm) h
   |false=>rfl
  rw[this,ag h];rfl
theorem HB:∀(l:List aR) (ks:List KU),ks.Nodup->(l.foldl (λs x=>QW s x.1) ks).Nodup/\(∀u,u∈l.foldl (λs x=>QW s x.1) ks↔u∈ks\/∃x∈l,x.1=u)/\(l.foldl (λs x=>QW s x.1) ks).length<=ks.length+l.length
 |[],ks,h=>⟨h,λu=>by simp,by simp⟩
 |y::l,ks,h=>by
  rw[lq,agf];by_cases hy:y.1∈ks
  .rw[ah hy];obtain⟨h1,h2,h3⟩:=HB l ks h;refine⟨h1,λu=>?_,by simp;omega⟩;rw[h2];constructor
   .rintro(h|⟨x,hx,h⟩)
    .exact .inl h
    .exact .inr ⟨x,by simp[hx],h⟩
   .rintro(h|⟨x,hx,h⟩)
    .exact .inl h
    .rcases aF.1 hx with rfl|hx
     .exact .inl (h▸hy)
     .exact .inr ⟨x,hx,h⟩
  .rw[ag hy];obtain⟨h1,h2,h3⟩:=HB l (ks++[y.1]) (rv.2 ⟨h,by simp,λa ha b hb=>by simp at hb;subst hb;rintro rfl;exact hy ha⟩);refine⟨h1,λu=>?_,by simp at h3 ⊢;omega⟩;rw[h2];constructor
   .rintro(h|⟨x,hx,h⟩)
    .rcases aT.1 h with h|h
     .exact .inl h
     .simp at h;exact .inr ⟨y,by simp,h.symm⟩
    .exact .inr ⟨x,by simp[hx],h⟩
   .rintro(h|⟨x,hx,h⟩)
    .exact .inl (by simp[h])
    .rcases aF.1 hx with rfl|hx
     .exact .inl (by simp[h])
     .exact .inr ⟨x,hx,h⟩
theorem apw(l:List aR)(u:KU):u∈Jz l↔∃x∈l,x.1=u:=by have:=(HB l [] .nil).2.1 u;simpa[Jz]using this
theorem asQ(l:List aR):(Jz l).Nodup:=(HB l [] .nil).1
theorem apx(l:List aR):(Jz l).length<=l.length:=by simpa[Jz]using(HB l [] .nil).2.2
theorem agh{l:List aR}{dn:List KU}(hn:dn.Nodup)(hm:∀u,u∈dn↔∃x∈l,x.1=u):Zh dn=lS l:=by
 refine aiJ ?_ (xr l) λu=>?_
 .have h2:=(Ew dn).nodup_iff.2 hn;refine wE (λ{a b} h=>?_) ((Tm dn).and h2);obtain⟨h3,h4⟩:=h;simp only[leK,fI,aB,bb,fP]at h3;unfold oJ;by_cases e1:a.1=b.1
  .have:a.2.1≠b.2.1:=λe2=>h4 (asJ e1 e2)
   omega
  .omega
 .rw[(Ew dn).mem_iff,hm,Io]
theorem asM{l:List aR}(hl:l.length<=1000000):adA l=some (lS l):=by
 show vV aj l=_;unfold vV;refine K6 (N:=l.length) (by omega) (λi s=>s=(Jz (l.take i),())) (some (lS l)) rfl ?_ ?_
 .rintro _ again rfl;rw[dZ,br];have hk:=apx l;have hn:=asQ l;have hm:=apw l;generalize Jz l=ks at hk hn hm ⊢;refine iH (λz=>ks.length+1-z.2.1.length) (λz=>∃dn,z=((ks,dn,()),dn,())/\dn.Nodup/\∀x∈dn,x∈ks) (λ_=>some (lS l)) ⟨[],rfl,.nil,by simp⟩ (by dsimp only;omega) ?_;rintro _ ⟨dn,rfl,hdn,CA⟩ again ha;refine bw λk hk8=>?_
  have kf:P0 ks dn=[]->k (false,(ks,dn,()),dn,())=some (lS l):=by
   intro he;have hall:∀u,u∈dn↔∃x∈l,x.1=u:=λu=>by rw[<-hm];refine⟨CA u,λhu=>?_⟩;have:=wD.1 he u hu;simpa[vF]using this
   subst hk8;show aj.af false _ (aj.ae (Bs dn) _)=_;have hld:=DA hdn CA;have e:Bs dn=some (Zh dn):=by unfold Bs;rw[show Nat.blt dn.length 4611686018427387904=true from gS (by omega)];rfl
   rw[az rfl,ai e,agh hdn hall]
  have kt:∀y∈P0 ks dn,k (true,(ks,dn++[y],()),dn,())=some (lS l):=by
   intro y hy;obtain⟨hyk,hyd⟩:=aM.1 hy;have hyd:y∉dn:=λh=>by rw[vF.2 h]at hyd;cases hyd
   have hnd:(dn++[y]).Nodup:=rv.2 ⟨hdn,by simp,λa ha b hb=>by simp at hb;subst hb;rintro rfl;exact hyd ha⟩
   have auG:∀x∈dn++[y],x∈ks:=λx hx=>by
    rcases aT.1 hx with hx|hx
    .exact CA x hx
    .simp at hx;exact hx▸hyk
   have hlen:=DA hnd auG;rw[ap]at hlen;simp only[aJ,eJ]at hlen;have:=ha ((ks,dn++[y],()),dn++[y],()) ⟨dn++[y],rfl,hnd,auG⟩ (by dsimp only;rw[ap];simp only[aJ,eJ];omega);subst hk8;refine VA rfl ?_;rw[show((dn++[y]).length:Int)-1=((dn.length:Nat):Int)by rw[ap];simp,bO (by simp)];have ey:(dn++[y])[dn.length]'(by simp)=y:=by simp
   rw[ey,dm (by simp;omega) (by simp;omega)];exact this
  exact awZ kf kt
 .rintro i hi _ rfl again ha;rw[dE hi,bO hi];dsimp only;rw[cU i (by omega)];exact ha _ (by rw[akQ l i hi])
theorem app{ll:List (List aR)}(h1:ll.length<=1000)(h2:ll.flatten.length<=1000000):pD ll=some ll.flatten:=by
 show fT aj ll=_;unfold fT
 have hf:∀i,(ll.take i).flatten.length<=1000000:=λi=>by
  have:ll.flatten=(ll.take i).flatten++(ll.drop i).flatten:=by rw[<-List.flatten_append,nk]
  rw[this,ap]at h2;omega
 have NY:∀i (h:i<ll.length),(ll.take (i+1)).flatten=(ll.take i).flatten++ll[i]:=λi h=>by rw[ax h,List.flatten_append];simp
 refine vm (N:=ll.length) (by omega) (λi=>((((ll.take i).flatten.length:Nat):Int),((i:Nat):Int),())) (some ll.flatten) rfl ?_ ?_
 .intro again;show aj.af (decide ((ll.length:Int)<(ll.length:Int))) _ (aj.ae (Mw [] (((ll.take ll.length).flatten.length:Nat):Int)) _)=_;rw[dZ,br];have e:Mw [] (ll.flatten.length:Int)=some ([],()):=by unfold Mw;rw[show(decide (0<=(ll.flatten.length:Int))&&decide (((([]:List F0').length:Int)+(ll.flatten.length:Int))*24<=140737488355328))=true by rw[aB,bb,bb];simp only[eJ];omega];rfl
  rw[ai e];refine vm (N:=ll.length) (by omega) (λi=>(((i:Nat):Int),(ll.take i).flatten,())) (some ll.flatten) rfl ?_ ?_
  .intro bp;show aj.af (decide ((ll.length:Int)<(ll.length:Int))) _ _=_;rw[dZ,br]
  .intro i hi bp ha;show aj.af (decide ((i:Int)<(ll.length:Int))) (aj.aI ll (i:Int) _) _=_;rw[dE hi,bO hi];have:=hf (i+1);rw[NY i hi,ap]at this;show aj.bi ((ll.take i).flatten.length+ll[i].length) 24 (bp (IntKind.i64.wrap ((i:Int)+1),(ll.take i).flatten++ll[i],()))=_;rw[dm (by omega) (by omega),cU i (by omega),<-NY i hi];exact ha
 .intro i hi again ha;show aj.af (decide ((i:Int)<(ll.length:Int))) (aj.aI ll (i:Int) _) _=_;rw[dE hi,bO hi];have:=hf (i+1);rw[NY i hi,ap]at this;have e:IntKind.i64.wrap ((((ll.take i).flatten.length:Nat):Int)+(ll[i].length:Int))=(((ll.take (i+1)).flatten.length:Nat):Int):=by rw[NY i hi,ap,dW];omega
  show aj.af (decide (IntKind.i64.wrap ((((ll.take i).flatten.length:Nat):Int)+(ll[i].length:Int))<0)) _ (again (IntKind.i64.wrap ((((ll.take i).flatten.length:Nat):Int)+(ll[i].length:Int)),IntKind.i64.wrap ((i:Int)+1),()))=_;rw[e,cY (by omega),cU i (by omega)];exact ha
end Go.Proofs.YthghpahghjppjaaGreat