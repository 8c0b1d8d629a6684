import Derived.Test.YthghpahghjppjaaGreatB11
import Derived.Test.YthghpahghjppjaaGreatRows
import Derived.JoinedOf
namespace Go.Proofs.YthghpahghjppjaaGreat
open Go Go.Vc Go.RowKit _root_.Go.Proofs.Tryz rA sK sM sN sO sP
set_option maxRecDepth 100000
set_option synthInstance.maxSize 100000
set_option synthInstance.maxHeartbeats 0
set_option maxHeartbeats 8000000
def I7{n:Nat}(Q:QT)(G:Wd->aM->Option (Q.den×aM)){fn:Func}(hf:Tryz.prog.funcs[n]?=some fn)(l:List (KC Tryz.prog):=[])(O:DTs:=[])(JC:List (Nat×DJ):=[])(JL:List (Nat×DJ):=[]){c:Code}(hb:fn.body=some c:=by rfl)(hn:(fn.name== "runtime.NumGoroutine")=false:=by decide +kernel) (h:∀W x,al0 W tab (kcs l W) O JC JL fn ⟨[ia],[.ptr 0],[ia],Q,λx=>G W (xv x ())⟩ x=G W (xv x ()):=by intro W x; kernel_rfl):KC Tryz.prog:=nf [ia] [.ptr 0] [ia] Q (λW x=>G W (xv x ())) hf l O JC JL hb hn h
def VO:=dA (.p1 jJ) (.v jJ) (fE E5) func9 [] [] [FZ 3 ay5]
def ae0:=nf [] [] [⟨258,[.b,.row 5 (.int .u8)]⟩] (.ptr 0) (λW x=>IN W) func145
def Ec:=nf [⟨258,[.b,.row 5 (.int .u8)]⟩] [.ptr 0] [⟨258,[.b,.row 5 (.int .u8)]⟩] .b (c8 th) func215
def VP:=dA (.p1 (.int .i64)) (.v (.int .u64)) (fE uW) func217
def Na:=nf [⟨258,[.b,.row 5 (.int .u8)]⟩] [.ptr 0,.v (.int .u64)] [⟨258,[.b,.row 5 (.int .u8)]⟩] .unit (jZ xb) func216 [] [] [] [(0,⟨[(1,.t (.int .u64))],[(0,[.b,.row 0])],[.own 5 (.int .u8)]⟩)]
def vv:=nf [⟨258,[.b,.row 5 (.int .u8)]⟩] [.ptr 0,.v (.slc (.int .i64))] [⟨258,[.b,.row 5 (.int .u8)]⟩] (.ptr 0) (jZ dQ) func146 [Ec,VP,Na] [] [(7,⟨[],[(0,[.b,.row 0])],[.own 5 (.int .u8)]⟩)] [(3,⟨[(11,.i)],[(0,[.b,.row 0])],[.own 5 (.int .u8)]⟩)]
def Nb:=dA (.p1 (.int .i64)) (.v .str) (fE qW) func142 [] [] [jO 4,jO 14,jO 21,jO 25,jO 37,jO 40,jO 43]
def ae1:=nf [⟨258,[.b,.row 5 (.int .u8)]⟩] [.ptr 0,.v bj] [⟨258,[.b,.row 5 (.int .u8)]⟩] .unit (jZ zH) func218 [vv]
def abP:=nf [⟨258,[.b,.row 5 (.int .u8)]⟩] [.ptr 0,.v jJ,.v (.int .i32)] [⟨258,[.b,.row 5 (.int .u8)]⟩] .unit (QG wB) func147 [vv,ae1] [(21,[0],oN [1,3,5,7,13,15,8,10,16])]
def uf:=dA (.p1 (.slc (.int .u8))) (.own 5 (.int .u8)) (fE iG) func207
def KY:=nf [⟨258,[.b,.row 5 (.int .u8)]⟩] [.ptr 0] [⟨258,[.b,.row 5 (.int .u8)]⟩] (.own 5 (.int .u8)) (c8 kU) func148 [Ec,uf]
def VQ:=dA (.p1 jJ) (.own 5 (.int .u8)) (fE uy) func86 [ae0,vv,Nb,abP,KY] [(1,[],sS [1,2,3,4] (.two 0 5 (oN [10,12,15]) (oN [0,12,15])))] [] [(3,⟨[(16,.ob 2)],[(1,[.b,.row 0])],[.own 5 (.int .u8),.dead,.obj .IZ]⟩),(3,⟨[(16,.ob 2)],[(1,[.b,.row 1])],[.dead,.own 5 (.int .u8),.obj .IZ]⟩)]
def abQ:=nf [] [.v (.slc (.int .u8))] [⟨250,[.b,.row 5 (.int .u8),.i]⟩] (.ptr 0) (fE AM) func139 [uf]
def KZ:=nf [⟨250,[.b,.v (.slc (.int .u8)),.i]⟩] [.ptr 0] [⟨250,[.b,.v (.slc (.int .u8)),.i]⟩] .b (jZ vn) func208
def Bk:=nf [⟨250,[.b,.v (.slc (.int .u8)),.i]⟩] [.ptr 0,.i] [⟨250,[.b,.v (.slc (.int .u8)),.i]⟩] .unit (QG nU) func211
def HB:=nf [⟨250,[.b,.v (.slc (.int .u8)),.i]⟩] [.ptr 0] [⟨250,[.b,.v (.slc (.int .u8)),.i]⟩] (.p2 (.v (.int .u64)) .b) (jZ oS) func209 [Bk] [] [jO 48] [(4,⟨[(4,.t (.int .u64)),(5,.i)],[(0,[.b,.t (.slc (.int .u8)),.i])],[]⟩)]
def Rc:=dA (.p1 (.int .u64)) .i (fE rc) func210
def qN:=nf [⟨250,[.b,.v (.slc (.int .u8)),.i]⟩] [.ptr 0,.i,.i] [⟨250,[.b,.v (.slc (.int .u8)),.i]⟩] .i (λW x=>iF W x.1 x.2.1 x.2.2.1 x.2.2.2.1 x.2.2.2.2.1) func140 [KZ,HB,Rc,Bk] [] [jO 23]
def Cf:=nf [⟨250,[.b,.v (.slc (.int .u8)),.i]⟩] [.ptr 0,.i] [⟨250,[.b,.v (.slc (.int .u8)),.i]⟩] .i (QG j6) func141 [qN]
def abR:=nf [⟨250,[.b,.v (.slc (.int .u8)),.i]⟩] [.ptr 0] [⟨250,[.b,.v (.slc (.int .u8)),.i]⟩] (.v bj) (jZ wz) func212 [Cf]
def Cg:=nf [⟨250,[.b,.v (.slc (.int .u8)),.i]⟩] [.ptr 0] [⟨250,[.b,.v (.slc (.int .u8)),.i]⟩] .i (jZ rS) func214
def VR:=nf [⟨250,[.b,.v (.slc (.int .u8)),.i]⟩] [.ptr 0,.i] [⟨250,[.b,.v (.slc (.int .u8)),.i]⟩] (.own 2 (.int .i64)) (QG ux) func213 [Cf,Cg,qN] [] [(6,⟨[(5,.row 1)],[(0,[.b,.t (.slc (.int .u8)),.i])],[.dead,.own 2 (.int .i64)]⟩)] [(3,⟨[(5,.row 1),(6,.i)],[(0,[.b,.t (.slc (.int .u8)),.i])],[.dead,.own 2 (.int .i64)]⟩)]
def ae2:=nf [⟨250,[.b,.v (.slc (.int .u8)),.i]⟩,⟨40,[.i,.i,.i,.i,.i,.i,.i,.i,.i,.i,.i,.i,.i,.v (.slc (.int .i64))]⟩] [.ptr 0,.ptr 1,.v (.int .i32)] [⟨250,[.b,.v (.slc (.int .u8)),.i]⟩,⟨40,[.i,.i,.i,.i,.i,.i,.i,.i,.i,.i,.i,.i,.i,.v (.slc (.int .i64))]⟩] .unit (λW x=>Di W x.1 x.2.1 x.2.2.1 x.2.2.2.1 x.2.2.2.2.1 x.2.2.2.2.2.1 (c9 x).1 (c9 x).2.1 (c9 x).2.2.1 (c9 x).2.2.2.1 (c9 x).2.2.2.2.1 (c9 x).2.2.2.2.2.1 (aP x).1 (aP x).2.1 (aP x).2.2.1 (aP x).2.2.2.1 (aP x).2.2.2.2.1 (aP x).2.2.2.2.2.1) func143 [Cf,abR,qN,VR]
def Nc:=nf [⟨250,[.b,.v (.slc (.int .u8)),.i]⟩] [.ptr 0] [⟨250,[.b,.v (.slc (.int .u8)),.i]⟩] .i (jZ o7) func144 [Cg]
def ae3:=dA (.p1 (.slc (.int .u8))) (.p2 (.v jJ) .i) (fE Dj) func85 [abQ,qN,Cf,Nb,ae2,Nc] [] [] [(4,⟨[(18,.ob 1)],[(1,[.b,.t (.slc (.int .u8)),.i]),(2,[.i,.i,.i,.i,.i,.i,.i,.i,.i,.i,.i,.i,.i,.t (.slc (.int .i64))])],[.dead,.obj .IZ]⟩)]
def BG:=dA (.p2 (.slc (.int .i64)) (.slc (.int .i64))) .b (c8 ja) func149 [] [(6,[],oI 9)] [] [sz 4 13]
def ae4:=dA (.p2 jJ jJ) .b (c8 Dl) func87 [BG]
def abS:=dA (.p1 jJ) .i (fE Ab) func32 [VQ,ae3,ae4] [] [jO 18]
def VS:=nf [⟨3,[.i]⟩] [.v cH,.ptr 0] [⟨3,[.i]⟩] .b (c8 E6) func220
def mm:=nf [⟨3,[.i]⟩] [.v (.slc cH),.fn 220 [.ptr 0]] [⟨3,[.i]⟩] .i (c8 db) func219 [VS] [] [] [uk 2 8 [.i]]
def HC:=dA (.p2 (.slc cH) (.int .i64)) .i (c8 pC) func150 [mm]
def oz:=dA (.p2 (.slc cH) (.int .i64)) (.p2 (.v cH) .b) (c8 iC) func88 [HC]
def rV:=dA (.p1 cH) .i (fE jP) func89
def I8:=I7 .i mC func33 [oz,rV] [(3,[],sS [0,1,2,3,4,5,6,7,8,9] (.two 10 14 (oN [23,25,27,28,30,33]) (oN [20,23,25,27,30,33])))]
def Fb:=dA (.p2 (.slc bH) (.int .i64)) (.p2 .i .b) (c8 yq) func301 [] [(5,[],oI 7)] [] [sz 2 10]
def wm:=dA (.p1 (.slc (.int .i64))) (.own 3 (.int .i64)) (fE jo) func314
def Fc:=dA (.p1 bH) (.v bH) (fE nk) func298 [wm]
def rm:=dA (.p2 (.slc bH) (.int .i64)) (.p2 (.v bH) .b) (c8 mv) func221 [Fb,Fc]
def HD:=nf [ia] [.ptr 0,.i] [ia] .b (λW x=>lF W (xv x ()) (c9 (aP (aP x))).1) func151 [rm] [(2,[],oI 12)]
def nV:=dA (.p1 bH) (.own 37 bj) (fE jq) func118 [] [] [] [qQ 5 3 1 16 [.dead,.own 37 bj]]
def vV:=dA (.p2 (.slc bj) bj) .i (c8 kj) func370 [] [(4,[],oI 6)] [] [sz 2 8]
def ji:=dA (.p2 (.slc bj) bj) .b (c8 cT) func296 [vV]
def xe:=dA (.p2 bH bj) .b (c8 oZ) func200 [nV,ji] [(1,[],oN [1,5,2,6,9])]
def zw:=dA (.p2 (.slc bH) bj) .i (c8 py) func133 [xe] [] [] [sz 2 9]
def Nd:=nf [ia] [.ptr 0,.v bj] [ia] .b (λW x=>gR W (xv x ()) (c9 (aP (aP x))).1) func152 [zw] [(1,[],oN [1,3,5,7,9,11,15,17,19,21,23,12,25,27])]
def abT:=nf [⟨3,[.i]⟩] [.v gb,.ptr 0] [⟨3,[.i]⟩] .b (c8 KN) func372
def oO:=nf [⟨3,[.i]⟩] [.v (.slc gb),.fn 372 [.ptr 0]] [⟨3,[.i]⟩] .i (c8 eQ) func371 [abT] [] [] [uk 2 8 [.i]]
def XW:=dA (.p2 (.slc gb) (.int .i64)) .i (c8 D2) func302 [oO]
def HE:=dA (.p2 (.slc gb) (.int .i64)) (.p2 (.v gb) .b) (c8 tF) func222 [XW]
def K0:=I7 (.v gb) kX func153 [HE] [(1,[],sS [0,1,2,3,4,5,6,7,8,9] (.two 10 14 (oN [23,25,27,28,30,33]) (oN [20,23,25,27,30,33])))]
def Z6:=nf [⟨3,[.i]⟩] [.v e7,.ptr 0] [⟨3,[.i]⟩] .b (c8 Hs) func374
def ni:=nf [⟨3,[.i]⟩] [.v (.slc e7),.fn 374 [.ptr 0]] [⟨3,[.i]⟩] .i (c8 ei) func373 [Z6] [] [] [uk 2 8 [.i]]
def K2:=dA (.p2 (.slc e7) (.int .i64)) .i (c8 xa) func303 [ni]
def Nf:=dA (.p2 (.slc e7) (.int .i64)) (.p2 (.v e7) .b) (c8 ua) func223 [K2]
def K3:=I7 (.v e7) nG func154 [Nf] [(1,[],sS [0,1,2,3,4,5,6,7,8,9] (.two 10 14 (oN [23,25,27,28,30,33]) (oN [20,23,25,27,30,33])))]
def Ng:=I7 .b rO func90 [HD,Nd,K0,K3] [(27,[],oI 12)] [(5,⟨[],[],[]⟩),(13,⟨[],[],[]⟩),(15,⟨[],[],[]⟩),(19,⟨[],[],[]⟩),FZ 22 uq,(23,⟨[],[],[]⟩)]
def HF:=I7 .i lG func34 [Ng] [] [(500012,⟨[(12,.b)],[(0,uq)],[]⟩)]
def Bl:=dA (.p1 cH) .i (fE s6) func119 [] [] [jO 40]
def l9:=dA (.p1 (.slc cH)) (.own 64 cH) (fE ez) func224
def Z7:=dA (.p2 (.slc cH) cH) (.p2 (.own 64 cH) .i) (c8 yi) func155 [Bl,HC,l9] [(6,[],sS [0,2] (.two 1 3 (oN [6,8,11]) (oN [2,8,11]))),(8,[],oN [1,3,5,7,9,11,13,15,19,21,16,23,25]),(10,[],sS [0,1,2,3,4,5,6,7,9,10,11,12] (.er 8 [8,14,15,16,17] (oN [26,29,30,33,34])))] [Mc 11 7 0 [.own 64 cH],Mc 11 7 1 [.dead,.own 64 cH]] [qQ 8 7 0 8 [.own 64 cH],qQ 8 7 1 8 [.dead,.own 64 cH]]
def C4:=dA (.p1 (.int .i64)) .b (fE pN) func191
def ae5:=dA (.p1 (.int .i64)) .b (fE DP) func193
def rn:=nf [] [.v (.slc (.int .i64)),.fn 193 []] [] .i (fE iH) func292 [ae5] [] [] [sz 2 8]
def qg:=nf [] [.v (.slc (.int .i64)),.fn 193 []] [] .b (fE dZ) func192 [rn]
def zx:=dA (.p1 dW) .i (fE ue) func120 [C4,qg] [] [(2,⟨[(3,.b)],[],[]⟩),jO 46]
def abU:=nf [⟨3,[.i]⟩] [.v dW,.ptr 0] [⟨3,[.i]⟩] .b (c8 J5) func304
def oP:=nf [⟨3,[.i]⟩] [.v (.slc dW),.fn 304 [.ptr 0]] [⟨3,[.i]⟩] .i (c8 gy) func226 [abU] [] [] [uk 2 8 [.i]]
def Pg:=dA (.p2 (.slc dW) (.int .i64)) .i (c8 Ht) func225 [oP]
def Z8:=nf [⟨174,[.i,.i,.i,.i,.v (.slc (.int .i64))]⟩] [.v dW,.ptr 0] [⟨174,[.i,.i,.i,.i,.v (.slc (.int .i64))]⟩] .b (al1 Hu) func227
def oA:=nf [⟨174,[.i,.i,.i,.i,.v (.slc (.int .i64))]⟩] [.v (.slc dW),.fn 227 [.ptr 0]] [⟨174,[.i,.i,.i,.i,.v (.slc (.int .i64))]⟩] .i (al1 eK) func226 [Z8] [] [] [uk 2 8 [.i,.i,.i,.i,.t (.slc (.int .i64))]]
def BH:=dA (.p1 (.slc (.int .i64))) (.own 2 (.int .i64)) (fE jd) func307
def K5:=dA (.p1 dW) (.v dW) (fE Eb) func230 [BH]
def C5:=dA (.p1 (.slc dW)) (.own 174 dW) (fE vo) func229 [K5] [] [] [qQ 3 3 1 8 [.dead,.own 174 dW]]
def ae6:=dA (.p2 (.slc dW) dW) (.p2 (.own 174 dW) .i) (c8 D1) func156 [zx,Pg,oA,C5,K5,YT] [(9,[],oN [1,5,7,2,8,10,12,15,17])] [sz 9 7]
def HG:=dA (.p1 (.int .i64)) .b (fE sY) func194
def xB:=dA (.p1 dz) .i (fE pJ) func121 [HG] [] [jO 26]
def rW:=dA (.p2 (.slc dz) (.int .i64)) (.p2 (.v dz) .b) (c8 pz) func130 [] [] [] [sz 2 10]
def Qh:=dA (.p1 (.int .i64)) .b (fE xc) func376
def Jo:=dA (.p2 (.int .i64) (.int .i64)) .i (c8 pM) func308 [Qh]
def Z9:=dA (.p2 dz (.int .i64)) .i (c8 tZ) func232 [Jo]
def j4:=nf [] [.v (.slc dz),.i,.fn 232 []] [] (.p2 .i .b) (c8 dj) func231 [Z9] [] [] [(3,⟨[(9,.i),(10,.i)],[],[]⟩)]
def na:=dA (.p1 (.slc dz)) (.own 132 dz) (fE eO) func234
def abV:=dA (.p2 (.slc dz) dz) (.p2 (.own 132 dz) .i) (c8 AW) func157 [xB,rW,j4,na,Vx] [(8,[],sS [0,2,3] (.two 1 4 (oN [8,10,13,15]) (oN [2,10,13,15])))]
def jL:=I7 (.p2 (.v cH) .i) fX func160 [oz] [(1,[],sS [0,1,2,3,4,5,6,7,8,9] (.two 10 14 (oN [23,25,27,28,30,33]) (oN [20,23,25,27,30,33])))]
def Qi:=dA (.p1 (.int .i64)) .i (fE tD) func293
def Fe:=dA (.p1 bH) .i (fE q') func195 [Qi] [(2,[],oX 21 [18])] [(2,⟨[(3,.b)],[],[]⟩),jO 45,jO 59] [(6,⟨[(4,.i),(49,.i)],[],[]⟩)]
def C6:=dA (.p1 (.slc bH)) (.own 99 bH) (fE rM) func202 [Fc] [] [] [qQ 3 3 1 8 [.dead,.own 99 bH]]
def ae7:=dA (.p2 (.slc bH) bH) (.p2 (.own 99 bH) .i) (c8 DZ) func235 [Fe,Fb,C6,Fc,QF] [(7,[],oN [1,5,7,2,8,10,12,15,17])]
def Ed:=I7 .i jG func158 [jL,rV,ae7] [(7,[0],sS [0,1,2,3,4,6,7,8,9,10,12,13,14,15,17,18,19,20] (.er 11 [11,22,23,24,25,26,27,28,29,30,31] (.er 16 [16,22,23,24,25,26,27,28,29,30,31] (.er 21 [21,22,23,24,25,26,27,28,29,30,31] (oN [45,10,46,49,51,53,55,57,59,60,63])))))] [sz 6 4,uk 8 4 uq]
def ae8:=dA (.p2 (.int .i64) (.int .i64)) .b (c8 D4) func380 [Qh]
def UY:=dA (.p1 (.int .i64)) .b (fE xz) func381
def yQ:=dA (.p2 (.slc (.int .i64)) (.int .i64)) (.p2 .i .b) (c8 jw) func312 [ae8,UY] [] [] [(3,⟨[(7,.i),(8,.i)],[],[]⟩)]
def abW:=dA (.p2 bH (.int .i64)) (.p2 (.v bH) .i) (c8 Bb) func236 [Fe,yQ,Qi,wm,η] [(11,[],oX 8 [5])] [jO 27]
def ae9:=dA (.p2 (.slc bH) bH) (.p2 (.own 99 bH) .i) (c8 D0) func237 [Fe,Fb,C6,Fc]
def Nh:=I7 .i pg func159 [rm,oz,rV,abW,ae9] [(1,[],sS [0,1,2,3,4,5,6,7,8,9,10] (.two 11 15 (oN [25,27,29,30,32,35]) (oN [22,25,27,29,32,35]))),(4,[],sS [0,1,2,3,4,5,6] (.two 7 11 (oN [17,19,21,22,24,27]) (oN [14,17,19,21,24,27]))),(8,[],sS [0,1,2,3,4,5,6] (.two 7 11 (oN [17,19,21,22,24,27]) (oN [14,17,19,21,24,27]))),(10,[0],oN [1,3,5,7,9,13,10,14,17,19,21,23,25,27,28,31])] [uk 11 9 uq]
def Ni:=dA (.p2 (.slc cH) cH) (.p2 (.own 64 cH) .i) (c8 tY) func161 [Bl,HC,l9]
def K6:=I7 .i nL func91 [Z7,ae6,abV,Ed,Nh,jL,Ni] [(4,[0],sS [0,1,2,3,4,6,7,8,9,11,12,13,14] (.er 10 [10,16,17,18,19,20,21,22,23,24,25] (.er 15 [15,16,17,18,19,20,21,22,23,24,25] (oN [33,10,34,37,39,41,43,45,47,48,51])))),(6,[0],sS [0,1,2,3,4,6,7,8,9,11,12,13,14,16,17,18,19,21,22,23,24,26,27,28,29] (.er 10 [10,31,32,33,34,35,36,37,38,39,40] (.er 15 [15,31,32,33,34,35,36,37,38,39,40] (.er 20 [20,31,32,33,34,35,36,37,38,39,40] (.er 25 [25,31,32,33,34,35,36,37,38,39,40] (.er 30 [30,31,32,33,34,35,36,37,38,39,40] (oN [63,10,64,67,69,71,73,75,77,78,81]))))))),(8,[0],sS [0,1,2,3,4,6,7,8,9,11,12,13,14,16,17,18,19] (.er 10 [10,21,22,23,24,25,26,27,28,29,30] (.er 15 [15,21,22,23,24,25,26,27,28,29,30] (.er 20 [20,21,22,23,24,25,26,27,28,29,30] (oN [43,10,44,47,49,51,53,55,57,58,61]))))),(18,[0],oN [1,3,5,7,9,13,10,14,17,19,21,23,25,27,28,31])] [uk 19 3 uq]
def qh:=nf [ia] [.ptr 0,.v bj] [ia] .i (λW x=>jF W (xv x ()) (c9 (aP (aP x))).1) func275 [zw] [(1,[],oX 8 [6])]
def pQ:=nf [ia] [.ptr 0,.v bj] [ia] (.v cH) (λW x=>iV W (xv x ()) (c9 (aP (aP x))).1) func266 [zw,oz] [(1,[],sS [0,1,2,3,4,5,6,7,8,9,10] (.two 11 16 (.two 12 16 (oN [27,29,31,32,34,37]) (oN [24,27,29,31,34,37])) (oN [22,24,27,29,31,34,37])))]
def iW:=nf [ia] [.ptr 0,.v (.slc bj)] [ia] .i (λW x=>gw W (xv x ()) (c9 (aP (aP x))).1) func238 [qh,pQ,rV] [] [] [uk 2 11 uq]
def yu:=dA (.p2 (.slc dW) (.int .i64)) (.p2 (.v dW) .b) (c8 pK) func197 [Pg,K5]
def qO:=nf [ia] [.ptr 0,.i] [ia] (.p2 (.v dW) .i) (λW x=>jr W (xv x ()) (c9 (aP (aP x))).1) func239 [yu]
def Nj:=dA (.p1 (.slc bj)) .b (fE IP) func198 [] [] [jO 25] [(3,⟨[(3,.i),(8,.i)],[],[]⟩)]
def rp:=dA (.p2 bj bj) .b (c8 mB) func196
def rX:=dA (.p1 (.slc eL)) .b (fE qf) func128 [Nj,rp] [(4,[],sS [0,1,2,3,4,5,6] (.op 7 (sS [8,9,10,11,12,13,14,15,16,17,18,20] (.two 19 21 (oN [42,44,47,49,51]) (oN [38,44,47,49,51])))))] [jO 37] [sz 2 7]
def rq:=dA (.p1 (.slc eN)) .b (fE qv) func131 [rp] [(4,[],oX 19 [15])] [jO 30] [sz 2 7]
def ajn:=dA (.p1 Pd) .b (fE He) func384 [rX,rq]
def Z':=dA (.p3 dW (.int .i64) (.int .i64)) .b (jZ xZ) func385 [zx]
def kY:=dA (.p1 (.int .i64)) (.v bM) (fE je) func81
def nW:=dA (.p1 bM) .b (fE fe) func290
def rY:=dA (.p1 bM) (.v XV) (fE iv) func288 [nW,afH]
def Ch:=dA (.p2 (.int .u64) (.int .u64)) (.p2 (.v (.int .u64)) (.v (.int .u64))) (c8 ke) func444
def pR:=dA (.p2 XV .bool) (.p2 (.v bM) .b) (c8 gY) func289 [afH] [(2,[1],oX 11 [9]),(5,[1],oX 19 [17])]
def tG:=dA (.p2 (.int .i64) (.int .i64)) (.v bM) (c8 o8) func392 [kY,rY,Ch,nW,pR] [(2,[],oN [1,7,2,5,8,11,12,15,17,19,21,23]),(3,[],sS [0,1,2,3,5] (.two 4 12 (.two 6 12 (.rd 7 (.two 8 12 (oN [19,21,23,24,26,29]) (oN [16,19,21,23,26,29]))) (oN [12,15,16,19,21,23,26,29])) (oN [8,12,15,16,19,21,23,26,29])))]
def C7:=dA (.p2 bM .bool) (.p2 (.v bM) .i) (c8 pO) func287
def Nk:=dA (.p2 bM (.int .i64)) (.p2 (.v bM) .i) (c8 tT) func432 [rY,kY,Ch,Y3,nW,pR,C7]
def xf:=dA (.p1 bM) (.p2 .i .i) (fE qu) func324 [kY] [(2,[],oN [1,5,2,7])]
def Qj:=dA (.p4 dW (.int .i64) (.int .i64) (.int .i64)) (.p2 .i .i) (QG E7) func360 [zx,C4,tG,Nk,xf] [] [jO 24]
def K9:=dA (.p1 (.slc bj)) .b (fE wW) func422 [Nj]
def Ee:=nf [⟨232,[.i,.i,.v (.int .u64)]⟩] [.ptr 0,.v bM] [⟨232,[.i,.i,.v (.int .u64)]⟩] .unit (QG jQ) func182 [Y3] [(1,[],oX 13 [7]),(2,[],oX 16 [10]),(3,[0],oN [1,3,5,9,11,13,15,17,19,6,21,23,25,26])]
def Ci:=nf [⟨232,[.i,.i,.v (.int .u64)]⟩] [.ptr 0] [⟨232,[.i,.i,.v (.int .u64)]⟩] (.p2 (.v bM) .i) (jZ mg) func183 [C7] [(1,[1],oX 20 [15,18])]
def aeA:=dA (.p2 bM bM) (.p2 (.v bM) .i) (c8 DY) func394 [Ee,kY,Ci]
def zy:=dA (.p2 bM (.int .i64)) (.p2 .i .i) (c8 px) func388 [xf]
def IS:=dA (.p2 (.int .i64) (.int .i64)) (.p2 .i .i) (c8 yh) func327 [kY,aeA,zy]
def XX:=dA (.p1 (.slc bj)) (.p2 (.own 106 bj) .i) (fE sJ) func361 [K9,IS] [] [] [qQ 5 4 1 13 [.dead,.own 106 bj]]
def pA:=dA (.p1 (.slc bj)) (.own 106 bj) (fE fN) func423
def xg:=dA (.p2 (.slc eL) bj) (.own 106 bj) (c8 vp) func353 [pA] [] [] [sz 2 9]
def pS:=nf [] [.v (.slc (.slc bj)),.fn 422 []] [] .i (fE gK) func473 [K9] [] [] [sz 2 8]
def oQ:=nf [] [.v (.slc (.slc bj)),.fn 422 []] [] .b (fE dB) func421 [pS]
def Ph:=dA (.p2 (.slc bj) (.int .i64)) .i (c8 Hv) func181 [] [] [] [sz 2 9]
def oB:=dA (.p1 (.slc bM)) (.p2 (.v bM) .i) (fE nq) func97 [Ee,Ci] [] [] [(3,⟨[(9,.i)],[(1,[.i,.i,.t (.int .u64)])],[]⟩)]
def ko:=dA (.p1 (.slc (.int .i64))) (.p2 .i .i) (fE jE) func319 [kY,oB,zy] [] [] [qQ 3 4 0 12 [.own 108 bM]]
def Pj:=dA (.p1 (.slc (.slc bj))) (.p2 (.own 106 bj) .i) (fE AK) func352 [oQ,Ph,ko] [] [Mc 6 4 3 [.dead,.dead,.dead,.own 106 bj]] [qQ 5 4 3 5 [.dead,.dead,.dead,.own 106 bj],(9,⟨[(4,.row 3),(6,.row 5),(19,.i)],[],[.dead,.dead,.dead,.own 106 bj,.dead,.own 2 (.int .i64)]⟩)]
def À:=dA (.p2 (.slc eL) bj) (.p2 .i .b) (c8 Hw) func426 [rp] [(5,[],oI 7)] [] [sz 2 10]
def VT:=dA (.p1 (.slc eL)) (.own 104 eL) (fE zq) func427 [pA] [(5,[],oX 10 [5,7,8])] [] [qQ 3 3 2 8 [.dead,.dead,.own 104 eL]]
def Ff:=dA (.p3 (.slc eL) bj (.slc bj)) (.p2 (.own 104 eL) .i) (jZ nE) func358 [rX,xg,Pj,À,VT,X_,δ] [] [(10,⟨[(8,.row 2),(12,.row 3)],[],[.dead,.dead,.own 106 bj,.own 104 eL]⟩),Mc 12 12 3 [.dead,.dead,.dead,.own 104 eL]]
def Qk:=dA (.p4 (.slc eL) bj bj (.slc bj)) (.p2 (.own 104 eL) .i) (QG rb) func354 [rX,XX,Ff]
def vx:=dA (.p1 (.slc (.slc eN))) (.own 94 eN) (fE ga) func395 [atG] [] [] [(3,⟨[(3,.i),(11,.i)],[],[]⟩),qQ 11 6 0 27 [.own 94 eN]]
def VU:=dA (.p1 (.slc eN)) (.own 37 bj) (fE zr) func396 [adk] [] [(500022,⟨[(6,.row 3),(20,.ob 1),(22,.b)],[],[.dead,.obj .walk,.dead,.own 37 bj]⟩)] [(3,⟨[(3,.ob 0),(11,.i)],[],[.obj .set]⟩),(9,⟨[(6,.row 3),(20,.ob 1)],[],[.dead,.obj .walk,.dead,.own 37 bj]⟩)]
def Re:=dA (.p2 (.slc eN) bj) (.own 2 (.int .i64)) (c8 Bg) func397 [] [] [Mc 7 5 1 [.dead,.own 2 (.int .i64)]] [qQ 3 5 1 10 [.dead,.own 2 (.int .i64)]]
def Cj:=dA (.p2 (.slc eN) (.slc eN)) (.p2 (.own 94 eN) .i) (c8 rf) func328 [rq,vx,VU,Re,ko] [] [(13,⟨[(6,.row 1),(7,.row 5),(20,.row 2)],[],[.dead,.own 94 eN,.own 37 bj,.dead,.dead,.own 94 eN]⟩)] [(6,⟨[(6,.row 1),(7,.row 5),(20,.row 2),(22,.i)],[],[.dead,.own 94 eN,.own 37 bj,.dead,.dead,.own 94 eN]⟩)]
def rZ:=dA (.p4 (.slc eN) bj bj (.int .i64)) (.p2 (.own 94 eN) .i) (QG l7) func249 [IS,rq,Cj] [] [jO 22]
def ajo:=dA (.p6 Pd dW bj bj (.int .i64) (.int .i64)) (.p2 (.v Pd) .i) (al1 Hf) func315 [ajn,Z',Qj,Qk,rZ]
def FQ:=nf [ia] [.ptr 0,.v bj,.v bj,.v bj,.i] [ia] .i (λW x=>pd W (xv x ()) (c9 (aP (aP x))).1 (c9 (aP (aP x))).2.1 (c9 (aP (aP x))).2.2.1 (c9 (aP (aP x))).2.2.2.1) func240 [qO,ajo] [(4,[],sS [0,1,2,3,4,5,6,7,8,9,10,11,12,13,14,15,16] (.two 17 21 (oN [37,39,41,42,44,47]) (oN [34,37,39,41,44,47]))),(6,[0],oX 14 [9,13])] [FZ 7 uq]
def Ql:=nf [⟨3,[.i]⟩] [.v bH,.ptr 0] [⟨3,[.i]⟩] .b (c8 wt) func203
def mn:=nf [⟨3,[.i]⟩] [.v (.slc bH),.fn 203 [.ptr 0]] [⟨3,[.i]⟩] .i (c8 fu) func297 [Ql] [] [] [uk 2 8 [.i]]
def lV:=nf [⟨3,[.i]⟩] [.row 99 bH,.fn 203 [.ptr 0]] [⟨3,[.i]⟩] (.own 99 bH) (c8 c7) func201 [mn,Ql,arM] [] [(6,⟨[(0,.row 0),(5,.i)],[(0,[.i])],[.own 99 bH]⟩)] [(5,⟨[(0,.row 0),(5,.i),(6,.i)],[(0,[.i])],[.own 99 bH]⟩)]
def zT:=dA (.p2 (.slc bH) (.int .i64)) (.own 99 bH) (c8 sI) func134 [C6,lV]
def Á:=dA (.p2 dI (.int .i64)) (.own 37 bj) (c8 yb) func387 [zT,nV] [] [] [(3,⟨[(5,.row 2),(11,.row 0),(13,.i)],[],[.own 99 bH,.dead,.own 37 bj]⟩)]
def Pk:=dA (.p1 (.int .i64)) (.p2 .i .i) (fE uF) func391 [IS]
def abX:=dA (.p1 (.slc bj)) (.p2 .i .i) (fE AP) func442 [K9,Pk,ko] [] [] [qQ 5 4 1 13 [.dead,.own 2 (.int .i64)]]
def Qm:=dA (.p2 (.slc eL) (.slc bj)) (.p2 .i .i) (c8 wX) func386 [rX,xg,abX,ko] [] [] [qQ 5 6 2 16 [.dead,.dead,.own 2 (.int .i64)]]
def HH:=dA (.p2 dI (.int .i64)) (.p2 .i .i) (c8 tE) func316 [Á,Qm] [(1,[],oX 10 [4,5])]
def xh:=nf [ia] [.ptr 0,.v (.slc bj)] [ia] .i (λW x=>np W (xv x ()) (c9 (aP (aP x))).1) func241 [pQ,HH] [(5,[],oX 12 [6])] [] [uk 2 12 uq]
def Nl:=I7 .i pe func162 [iW,qO,FQ,xh] [(1,[0],sS [0,1,2,3,4,6,7,8,9] (.er 5 [5,11,12,13] (oN [20,22,24,27]))),(9,[0],sS [0,1,2,3,4,6,7,8,9,11,12,13,14,16,17,18,19,22,23,24,25] (.er 15 [15,21,27,28] (.er 20 [20,21,27,28] (.rd 21 (.er 5 [5,27,28] (.er 10 [10,27,28] (oN [52,54,57]))))))),(12,[0],sS [0,1,2,3,4,6,7,8,9] (.er 5 [5,11,12,13] (oN [20,22,24,27])))]
def aeB:=dA (.p3 (.slc gb) gb (.int .i64)) (.p3 (.own 181 gb) .i .i) (jZ D3) func317 [] [(12,[],oN [1,3,5,7,9,11,13,19,14,16,21,23,25])] [sz 11 9,jO 17]
def Ck:=nf [ia] [.ptr 0,.v gb] [ia] .i (λW x=>mi W (xv x ()) (c9 (aP (aP x))).1) func242 [aeB] [(1,[],oX 19 [11])] [FZ 4 uq]
def I9:=I7 .i mD func163 [iW,qO,Ck] [(1,[0],sS [0,1,2,3,4,6,7,8,9] (.er 5 [5,11,12,13] (oN [20,22,24,27]))),(9,[0],sS [0,1,2,3,4,6,7,8,9,11,12,13,14,16,17,18,19,22,23,24,25] (.er 15 [15,21,27,28,29] (.er 20 [20,21,27,28,29] (.rd 21 (.er 5 [5,27,28,29] (.er 10 [10,27,28,29] (oN [52,55,56,59])))))))] [jO 64]
def vW:=dA (.p1 (.slc gb)) (.own 181 gb) (fE gu) func318
def Qn:=dA (.p3 (.slc gb) (.int .i64) (.int .i64)) (.p2 (.own 181 gb) .i) (jZ w9) func243 [XW,vW] [] [jO 16]
def Ja:=I7 .i mE func164 [HE,iW,Qn,FQ,xh] [(1,[],sS [0,1,2,3,4,5,6,7,8,9] (.two 10 14 (oN [23,25,27,28,30,33]) (oN [20,23,25,27,30,33]))),(7,[],oX 13 [7])]
def Bm:=dA (.p1 (.int .i64)) .b (fE oy) func320
def nb:=dA (.p1 (.slc e7)) (.own 179 e7) (fE eR) func326
def Nn:=dA (.p3 (.slc e7) (.int .i64) (.int .i64)) (.own 179 e7) (jZ ub) func321 [nb]
def Â:=dA (.p3 (.slc e7) (.int .i64) (.int .i64)) (.p2 (.own 179 e7) .i) (jZ yk) func244 [K2,ko,Bm,Nn] [] [jO 33]
def Ef:=nf [ia] [.ptr 0,.i,.i] [ia] .i (λW x=>lq W (xv x ()) (c9 (aP (aP x))).1 (c9 (aP (aP x))).2.1) func165 [Qn,HE,Â] [(8,[],oX 16 [10])] [(11,⟨[],[(0,ay6)],[.own 181 gb]⟩)]
def VV:=dA (.p1 (.slc (.int .i64))) (.own 371 bj) (fE zt) func245 [] [(5,[],oX 14 [11,12])] [] [qQ 3 3 1 4 [.dead,.own 371 bj]]
def VW:=dA (.p1 bj) .b (fE vf) func390 [Bm]
def nX:=nf [] [.v (.slc bj),.fn 390 []] [] .i (fE eC) func443 [VW] [] [] [sz 2 8]
def mJ:=nf [] [.v (.slc bj),.fn 390 []] [] .b (fE dh) func389 [nX]
def Ã:=dA (.p1 (.slc bj)) (.p3 .i (.v bM) .i) (fE Hx) func322 [mJ,Pk,tG,oB] [(8,[],oI 9),(17,[0],oX 5 [3])] [jO 24] [(6,⟨[(5,.i),(6,.row 1),(28,.i)],[],[.dead,.own 108 bM]⟩)]
def No:=dA (.p1 (.int .u64)) .i (fE rC) func467 [] [] [(4,⟨[(0,.t (.int .u64)),(2,.i)],[],[]⟩),(7,⟨[(0,.t (.int .u64)),(2,.i)],[],[]⟩),(10,⟨[(0,.t (.int .u64)),(2,.i)],[],[]⟩)]
def Bn:=dA (.p1 (.int .u64)) .i (fE iJ) func445 [No]
def Np:=dA (.p3 (.int .u64) (.int .u64) (.int .u64)) (.p2 (.v (.int .u64)) (.v (.int .u64))) (jZ j7) func393 [Bn] [(6,[],oI 8)] [(18,⟨[],[],[]⟩),(21,⟨[(15,.t (.int .u64))],[],[]⟩),(25,⟨[],[],[]⟩),(28,⟨[(18,.t (.int .u64))],[],[]⟩)] [(17,⟨[(15,.t (.int .u64)),(16,.t (.int .u64))],[],[]⟩),(24,⟨[(16,.t (.int .u64)),(18,.t (.int .u64))],[],[]⟩)]
def K':=dA (.p2 bM (.int .i64)) (.p3 (.v bM) .i .i) (c8 rD) func323 [rY,Np,nW,Y3,pR] [(6,[],oI 10),(12,[],sS [0,1] (.two 2 7 (.two 3 7 (oN [9,11,13,14,16,19]) (oN [6,9,11,13,16,19])) (oN [4,6,9,11,13,16,19])))] [(12,⟨[(10,.t (.int .u64))],[(3,[.t (.int .u64),.t (.int .u64)])],[]⟩),jO 53]
def FR:=dA (.p1 (.slc bj)) (.p4 .i .i .i .i) (fE pc) func246 [Ã,K',xf] [] [sz 8 6]
def C8:=dA (.p1 (.slc (.int .i64))) (.p2 .i .i) (fE vr) func325 [tG,xf] [] [] [(3,⟨[(4,.i),(11,.i)],[],[]⟩)]
def Ä:=dA (.p2 (.int .i64) (.slc bj)) (.p2 .i .i) (c8 yp) func247 [FR,C8] [] [sz 8 8,jO 21]
def Å:=dA (.p2 (.slc e7) e7) (.p3 (.own 179 e7) .i .i) (c8 yl) func248 [Bm,nb] [(9,[],sS [0,2,5,6] (.two 1 3 (oN [6,8,15,17,19]) (oN [2,8,15,17,19])))] [FZ 9 ay7,jO 8]
def tm:=dA .unit (.v bj) (λW x=>mG W) func250
def La:=I7 .i nJ func166 [iW,qO,VV,FR,Ä,Å,tm,rZ] [(14,[],oX 26 [18]),(17,[],oN [1,3,5,7,9,13,15,17,19,21,23,10,24,27,29,31,33,35])]
def VX:=dA (.p3 (.slc e7) (.int .i64) (.int .i64)) (.p2 (.own 179 e7) .i) (jZ va) func251 [K2,Nn] [] [jO 20,jO 34]
def Lb:=I7 .i nH func167 [Nf,iW,VX,Ck] [(1,[],sS [0,1,2,3,4,5,6,7,8,9] (.two 10 14 (oN [23,25,27,28,30,33]) (oN [20,23,25,27,30,33]))),(4,[0],oX 11 [7,8,9]),(7,[],oX 18 [12]),(11,[0],sS [0,1,2,3,4,5,6,8,9,10,11,12,13,16,17,18,19] (.er 14 [14,15,20,21,22] (oN [31,14,41,42,45])))]
def Lc:=I7 .i nK func92 [Nl,I9,Ja,Ef,La,Lb]
def abY:=dA (.p3 (.slc dW) (.int .i64) (.int .i64)) (.p2 (.own 174 dW) .i) (jZ AX) func168 [Pg,C4,C5]
def UZ:=dA (.p3 (.slc dz) (.int .i64) (.int .i64)) (.p2 (.own 132 dz) .i) (jZ sZ) func169 [rW,HG,na] [] [Mc 13 10 0 [.own 132 dz]] [qQ 8 10 0 27 [.own 132 dz]]
def aeC:=dA (.p2 (.slc dW) bj) (.p2 (.v bM) .i) (c8 DW) func449 [yu,tG,Nk] [(4,[1],oN [1,3,5,7,9,11,13,17,19,14,20,23,25,26,29])]
def abZ:=dA (.p2 (.slc dW) (.slc bj)) (.p2 .i .i) (c8 AO) func398 [Nj,aeC,oB,xf] [] [] [qQ 5 6 1 18 [.dead,.own 108 bM]]
def Æ:=dA (.p2 (.slc dW) (.slc eL)) (.p2 (.own 94 eN) .i) (c8 ya) func329 [rX,abZ] [] [Mc 12 6 1 [.dead,.own 94 eN]] [qQ 5 6 1 16 [.dead,.own 94 eN]]
def VY:=dA (.p3 (.slc dW) (.slc eL) (.slc eN)) (.p2 (.own 94 eN) .i) (jZ uX) func252 [rq,Æ,Cj]
def VZ:=dA (.p1 (.slc dW)) (.own 174 dW) (fE u9) func253 [C5] [] [] [qQ 3 3 0 9 [.own 174 dW]]
def V0:=nf [⟨3,[.i]⟩] [.v gb,.ptr 0] [⟨3,[.i]⟩] .b (c8 M4) func331
def Fg:=nf [⟨3,[.i]⟩] [.v (.slc gb),.fn 331 [.ptr 0]] [⟨3,[.i]⟩] (.own 3 (.int .i64)) (c8 mU) func330 [V0] [] [(7,⟨[(5,.row 1)],[(0,[.i])],[.dead,.own 3 (.int .i64)]⟩),(500021,⟨[(5,.row 1),(21,.b)],[(0,[.i])],[.dead,.own 3 (.int .i64)]⟩)] [(3,⟨[(5,.row 1),(10,.i)],[(0,[.i])],[.dead,.own 3 (.int .i64)]⟩)]
def aca:=dA (.p2 (.slc gb) (.int .i64)) (.own 3 (.int .i64)) (c8 AY) func255 [Fg]
def Cm:=nf [ia] [.ptr 0,.v (.slc (.int .i64)),.i] [ia] .i (λW x=>rT W (xv x ()) (c9 (aP (aP x))).1 (c9 (aP (aP x))).2.1) func254 [Ef] [] [] [uk 2 12 uq]
def Pl:=I7 .i qd func170 [VY,VZ,aca,Cm] [(3,[],oN [1,3,5,7,9,11,13,15,17,19,25,20,23]),(6,[],oX 17 [11]),(14,[0],sS [0,1,2,3,4,6,7,8,9] (.er 5 [5,11,12,13] (oN [20,22,24,27])))] [] [(4,⟨[(23,.row 0),(25,.i)],[(0,uq)],[.own 30 (.slc eL)]⟩)]
def HJ:=dA .unit (.v bj) (λW x=>Bh W) func256
def y5:=I7 .i kh func257 [] [] [jO 24]
def Cn:=nf [ia] [.ptr 0,.i] [ia] .i (λW x=>mj W (xv x ()) (c9 (aP (aP x))).1) func258 [Cj] [(1,[],oX 19 [12,13])] [FZ 4 uq]
def Eg:=I7 (.v dz) gM func260 [] [(1,[1],oX 17 [16])]
def iX:=dA (.p1 (.slc dz)) (.own 92 dz) (fE dd) func402
def pB:=dA (.p2 (.slc ft) bj) (.own 92 dz) (c8 mH) func333 [iX] [] [] [sz 2 9]
def Nq:=dA (.p1 dz) .b (fE tX) func294
def acb:=dA (.p1 (.slc (.int .i64))) .i (fE RS) func204 [] [] [] [sz 3 8]
def Nr:=dA (.p2 dz dz) .i (c8 rh) func295 [Jo,acb] [(1,[],oN [1,3,5,7,11,13,15,17,8,18,20,22,25])]
def Eh:=dA (.p1 (.slc dz)) .b (fE Bi) func199 [Nq,Nr] [(4,[],.rd 0 (.op 1 (sS [2,3,4,5,6,7,8,9,10] (.two 11 12 (oN [24,26,29,31,33]) (oN [22,26,29,31,33])))))] [jO 28] [sz 2 7]
def HK:=dA (.p2 (.slc dz) dz) .i (c8 qm) func399 [Eh,Nq]
def gd:=nf [] [.v (.slc dz),.v dz,.fn 295 []] [] (.p2 .i .b) (c8 cG) func400 [Nr] [(5,[],oX 8 [6]),(8,[],oX 16 [11])] [] [(3,⟨[(9,.i),(10,.i)],[],[]⟩)]
def aeD:=dA (.p2 (.slc dz) dz) (.p2 (.own 92 dz) .i) (c8 Dr) func332 [HK,gd,iX,ζ,ko] [(8,[],sS [0,2,3] (.two 1 4 (oN [8,10,13,15]) (oN [2,10,13,15]))),(9,[],oX 14 [7,8])]
def zU:=dA (.p1 (.slc ft)) .b (fE yr) func132 [Eh,rp] [(4,[],sS [0,1,2,3,4,5,6] (.op 7 (sS [8,9,10,11,12,13,14,15,16,17,18,20] (.two 19 21 (oN [42,44,47,49,51]) (oN [38,44,47,49,51])))))] [jO 37] [sz 2 7]
def U1:=dA (.p3 (.slc ft) bj (.slc dz)) (.own 96 ft) (jZ zP) func403 [iX,rp] [(2,[],sS [0,1] (.two 2 4 (oN [7,8,10]) (oN [4,7,10]))),(10,[],oX 10 [5,7,8])] [(9,⟨[(7,.row 2),(9,.b)],[],[.dead,.dead,.own 96 ft]⟩),(13,⟨[(7,.row 2),(9,.b)],[],[.dead,.dead,.own 96 ft]⟩),Mc 16 7 2 [.dead,.dead,.own 96 ft],(500032,⟨[(7,.row 2),(32,.b)],[],[.dead,.dead,.own 96 ft]⟩)] [(5,⟨[(7,.row 2),(9,.b),(21,.i)],[(1,[.i,.i,.t (.slc dz)])],[.dead,.dead,.own 96 ft]⟩)]
def C9:=dA (.p4 (.slc ft) bj (.slc dz) (.int .i64)) (.p2 (.own 96 ft) .i) (QG lO) func334 [zU,U1]
def U2:=dA (.p3 (.slc ft) bj dz) (.p2 (.own 96 ft) .i) (jZ qn) func259 [pB,aeD,C9] [(1,[],oN [1,3,7,4,8,11,13,15,17,19])]
def HL:=I7 .i lH func171 [HJ,iW,y5,Cn,rW,Eg,U2] [(1,[],oX 7 [5]),(10,[],sS [0,1,2,3,4,5,6,7,8,9] (.two 10 14 (oN [23,25,27,28,30,33]) (oN [20,23,25,27,30,33]))),(13,[0],sS [0,1,2,3,5,6,7,8,10] (.three 4 9 11 (.two 9 11 (oN [22,24,27,29,31,33,35]) (oN [18,24,27,29,31,33,35])) (.two 4 11 (oN [22,24,27,29,31,33,35]) (oN [8,24,27,29,31,33,35])) (.two 4 9 (oN [18,24,27,29,31,33,35]) (oN [8,24,27,29,31,33,35]))))] [FZ 5 uq,(11,⟨[(6,.b)],[],[]⟩),(14,⟨[(7,.row 0),(8,.i)],[(0,uq)],[.own 96 ft]⟩),FZ 16 uq]
def kL:=dA (.p2 (.slc eN) bj) .i (c8 km) func82 [] [] [] [sz 2 9]
def acd:=dA (.p2 (.slc dz) dz) (.p2 (.own 92 dz) .i) (c8 Ae) func404 [HK,gd,iX,Y_] [(5,[],oI 12),(8,[],oN [1,3,5,7,11,13,8,15,17,19,20])] [Mc 11 9 0 [.own 92 dz],jO 33]
def Qo:=dA (.p3 (.slc ft) bj dz) (.p2 (.own 96 ft) .i) (jZ om) func335 [pB,acd,C9] [(1,[],oN [1,3,7,4,8,11,13,15,17,19])]
def Ld:=I7 .i nM func261 [kL,Cn,Eg,Qo] [(2,[],oN [1,3,5,7,9,11,13,15,17,19,23,25,27,29,31,20,33]),(5,[0],sS [0,1,2,3,5,6,7,8,10] (.three 4 9 11 (.two 9 11 (oN [22,24,27,29,31,33,35]) (oN [18,24,27,29,31,33,35])) (.two 4 11 (oN [22,24,27,29,31,33,35]) (oN [8,24,27,29,31,33,35])) (.two 4 9 (oN [18,24,27,29,31,33,35]) (oN [8,24,27,29,31,33,35]))))] [(6,⟨[(3,.row 0),(4,.i)],[(0,uq)],[.own 96 ft]⟩),FZ 8 uq]
def Ns:=dA (.p1 bH) (.v bj) (fE Cb) func336
def ace:=dA (.p2 bH bj) (.p2 (.v bj) .b) (c8 Be) func262 [xe,Ns]
def vy:=I7 (.v E4) ml func264 [] [(1,[1],oX 27 [26])]
def Le:=dA (.p1 E4) .b (fE nF) func337 [rX,rq,zU]
def Fh:=dA (.p1 bH) (.own 37 bj) (fE rj) func405 [Ns,nV]
def Nt:=dA (.p2 bH bj) (.own 37 bj) (c8 uc) func339 [Fh,ji,nV] [(1,[],oN [1,5,2,6,9,11])]
def aeE:=dA (.p2 (.slc eL) (.slc bj)) (.p2 (.own 106 bj) .i) (c8 D5) func406 [rX,xg,Pj] [] [] [qQ 5 6 2 14 [.dead,.dead,.own 102 (.slc bj)]]
def Ç:=dA (.p3 dW (.int .i64) (.int .i64)) (.v bM) (jZ B7) func511 [zx,C8,tG] [(3,[],oX 14 [7,8])] [jO 22]
def Va:=dA (.p1 bM) (.p2 (.v bM) .i) (fE zR) func184 [rY,nW,pR,C7] [(1,[1],oN [1,5,2,6,9,10,13,15,16,19,21,22,25])]
def acf:=dA (.p3 (.slc dW) (.slc bj) (.int .i64)) (.p2 (.v bM) .i) (jZ Bc) func488 [Nj,yu,Ç,oB,Va] [] [] [qQ 5 8 1 23 [.dead,.own 108 bM]]
def V1:=dA (.p2 (.slc dW) (.slc bj)) (.p2 (.own 108 bM) .i) (c8 zv) func453 [acf] [] [] [qQ 3 6 1 10 [.dead,.own 108 bM]]
def È:=dA (.p1 (.int .i64)) .b (fE Cc) func299
def Vb:=dA (.p2 (.int .i64) (.int .i64)) .i (c8 oq) func205 [È]
def É:=dA (.p1 (.int .u64)) .b (fE Cd) func300
def Vd:=dA (.p2 (.int .u64) (.int .u64)) .i (c8 ot) func206 [É]
def Ve:=dA (.p2 bM bM) .i (c8 tN) func138 [Vb,Vd,acb] [(1,[],oN [1,3,5,7,11,13,15,17,8,18,20,22,25])]
def Ê:=dA (.p1 (.slc bM)) (.p2 (.v bM) .i) (fE B8) func454 [Ve] [] [(7,⟨[(5,.i)],[(1,[.i,.t (.int .u64)])],[]⟩)] [(3,⟨[(5,.i),(11,.i)],[(1,[.i,.t (.int .u64)])],[]⟩)]
def V2:=dA (.p2 (.slc dW) (.slc bj)) (.p2 .i .i) (c8 vg) func407 [V1,Ê,xf]
def XY:=dA (.p4 (.slc dW) (.slc eL) bH bj) (.p2 .i .i) (QG D6) func338 [rX,Fh,ji,Nt,aeE,V2] [(3,[],oN [1,5,2,6,9,11])]
def Da:=dA (.p2 dz (.int .i64)) (.p2 .i .i) (c8 pD) func455 [xB,C8]
def Qp:=dA (.p3 (.int .i64) (.int .i64) (.int .i64)) (.p3 .i .i .i) (jZ qX) func456 [tG,K',zy]
def V3:=dA (.p2 dz (.int .i64)) (.p2 .i .i) (c8 vh) func409 [Da,xB,Qp] [] [jO 22]
def Bo:=nf [] [.v (.slc dz),.v (.slc dz),.fn 409 []] [] (.p2 (.own 2 (.int .i64)) .i) (c8 iQ) func408 [Eh,rW,V3] [] [] [qQ 5 8 1 20 [.dead,.own 2 (.int .i64)]]
def V4:=dA (.p3 (.slc dz) (.slc dz) (.int .i64)) (.p2 .i .i) (jZ vj) func340 [Bo,ko]
def Bp:=dA (.p3 E4 bH bj) (.p2 .i .i) (jZ l8) func263 [Le,XY,Nt,pB,kL,V4,ko] [(10,[],oN [1,3,5,7,9,13,15,17,10,18,20,23,25,27,29,31])] [] [(8,⟨[(10,.row 0),(36,.row 1),(38,.i)],[],[.own 2 (.int .i64),.own 37 bj]⟩)]
def F3:=I7 .i kJ func172 [iW,y5,Ld,rm,ace,vy,Bp] [(10,[],sS [0,1,2,3,4,5,6,7,8,9,10] (.two 11 15 (oN [25,27,29,30,32,35]) (oN [22,25,27,29,32,35]))),(11,[],sS [0,1,2,3,4,5] (.two 6 10 (oN [15,17,19,20,22,25]) (oN [12,15,17,19,22,25]))),(12,[0],oN [1,5,7,2,8,11,13,15,17,19])] [sz 15 11,jO 71]
def Lf:=I7 .i vt func93 [abY,UZ,Pl,HL,F3] [(4,[0],sS [0,1,2,3,4,6,7,8,9,11,12,13,14] (.er 5 [5,16,17,18,19,20,21,22,23,24] (.er 10 [10,16,17,18,19,20,21,22,23,24] (oN [30,32,35,37,39,41,43,45,46,49])))),(6,[0],sS [0,1,2,3,4,6,7,8,9,11,12,13,14] (.er 5 [5,16,17,18,19,20,21,22,23,24] (.er 10 [10,16,17,18,19,20,21,22,23,24] (oN [30,32,35,37,39,41,43,45,46,49]))))] [uk 13 3 uq]
def Jb:=nf [ia] [.ptr 0,.v bj] [ia] .i (λW x=>ki W (xv x ()) (c9 (aP (aP x))).1) func265 [qh,rm] [(4,[],sS [0,1,2,3,4,5,6] (.two 7 11 (oN [17,19,21,22,24,27]) (oN [14,17,19,21,24,27])))]
def Vf:=dA (.p1 (.slc di)) .b (fE IQ) func124 [rp] [(4,[],oX 21 [17])] [jO 32] [sz 2 7]
def mb:=dA (.p1 (.slc di)) (.own 177 di) (fE ek) func346
def HM:=nf [⟨37,[.i,.i]⟩] [.v di,.ptr 0] [⟨37,[.i,.i]⟩] .b (jZ xA) func411
def lW:=nf [⟨37,[.i,.i]⟩] [.v (.slc di),.fn 411 [.ptr 0]] [⟨37,[.i,.i]⟩] .i (jZ ff) func342 [HM] [] [] [uk 2 8 [.i,.i]]
def lJ:=nf [⟨37,[.i,.i]⟩] [.row 177 di,.fn 411 [.ptr 0]] [⟨37,[.i,.i]⟩] (.own 177 di) (jZ cY) func410 [lW,HM,arM] [] [(6,⟨[(0,.row 0),(5,.i)],[(0,[.i,.i])],[.own 177 di]⟩)] [(5,⟨[(0,.row 0),(5,.i),(6,.i)],[(0,[.i,.i])],[.own 177 di]⟩)]
def Nu:=dA (.p2 (.slc di) bj) (.own 177 di) (c8 tW) func341 [mb,lJ]
def Rf:=nf [⟨37,[.i,.i]⟩] [.v di,.ptr 0] [⟨37,[.i,.i]⟩] .b (jZ Bj) func343 [rp]
def lK:=nf [⟨37,[.i,.i]⟩] [.v (.slc di),.fn 343 [.ptr 0]] [⟨37,[.i,.i]⟩] .i (jZ dH) func342 [Rf] [] [] [uk 2 8 [.i,.i]]
def V5:=dA (.p3 (.slc di) bj bj) (.p2 (.own 177 di) .i) (jZ vd) func267 [Vf,Nu,lK,Ta] [] [qQ 9 8 0 9 [.own 177 di]]
def Lg:=I7 .i nN func173 [Jb,pQ,V5] [(9,[],oX 21 [15])] [FZ 12 uq]
def Ë:=nf [⟨37,[.i,.i]⟩] [.v di,.ptr 0] [⟨37,[.i,.i]⟩] .b (jZ Hy) func414
def mK:=nf [⟨37,[.i,.i]⟩] [.v (.slc di),.fn 414 [.ptr 0]] [⟨37,[.i,.i]⟩] .i (jZ dg) func342 [Ë] [] [] [uk 2 8 [.i,.i]]
def Vg:=dA (.p2 (.slc di) bj) .i (c8 tV) func345 [mK]
def V6:=dA (.p3 (.slc di) bj bj) (.p2 (.own 177 di) .i) (jZ ve) func268 [Vg,Vf,mb] [(6,[],oI 8)]
def HN:=I7 .i lI func174 [iW,V6] [(4,[],oX 21 [15])] [FZ 7 uq]
def Fi:=dA (.p3 cH (.int .i64) (.int .i64)) (.p2 (.v cH) .i) (jZ ri) func347 [Bl] [] [jO 8]
def Ì:=dA (.p3 cH (.int .i64) (.int .i64)) (.p2 (.v cH) .i) (jZ ym) func269 [Fi] [] [FZ 6 [.i,.i,.i,.i],jO 14]
def vz:=nf [ia] [.ptr 0,.v cH] [ia] .i (λW x=>kg W (xv x ()) (c9 (aP (aP x))).1) func270 [Ni] [(1,[],oX 12 [6])] [FZ 4 uq]
def acg:=nf [⟨37,[.i,.i]⟩] [.v gb,.ptr 0] [⟨37,[.i,.i]⟩] .b (jZ AZ) func415
def HO:=nf [⟨37,[.i,.i]⟩] [.v (.slc gb),.fn 415 [.ptr 0]] [⟨37,[.i,.i]⟩] (.own 3 (.int .i64)) (jZ oT) func330 [acg] [] [(7,⟨[(5,.row 1)],[(0,[.i,.i])],[.dead,.own 3 (.int .i64)]⟩),(500021,⟨[(5,.row 1),(21,.b)],[(0,[.i,.i])],[.dead,.own 3 (.int .i64)]⟩)] [(3,⟨[(5,.row 1),(10,.i)],[(0,[.i,.i])],[.dead,.own 3 (.int .i64)]⟩)]
def ajp:=dA (.p2 (.slc gb) bj) (.own 3 (.int .i64)) (c8 Hm) func348 [HO]
def Jp:=dA (.p2 dI bj) (.p2 (.v bH) .i) (c8 rL) func468 [rm,xe] [] [jO 16]
def Í:=dA (.p2 cH (.int .i64)) .i (c8 B5) func495 [] [] [jO 13]
def Î:=dA (.p2 cH (.int .i64)) .i (c8 yd) func469 [Í]
def V7:=dA (.p2 dI bj) .i (c8 u6) func418 [Jp,oz,Î]
def Ï:=dA (.p2 (.slc di) bj) (.p2 (.v di) .b) (c8 yc) func470 [Vg]
def V8:=dA (.p2 (.slc di) bj) (.p2 (.v bj) .i) (c8 uZ) func419 [Ï]
def Ð:=dA (.p2 dI bj) .b (c8 ye) func471 [xg,kL,pB]
def Qq:=dA (.p2 (.int .i64) (.slc (.int .i64))) .i (c8 AS) func496 [] [] [] [(2,⟨[(0,.i),(9,.i)],[],[]⟩)]
def V9:=dA (.p3 cH (.int .i64) (.int .i64)) .i (jZ u2) func472 [Qq,ko] [] [jO 28]
def Ñ:=dA (.p3 dI bj bj) .i (jZ yf) func420 [Jp,oz,rV,Ð,Qm,HH,V9] [] [jO 30]
def aeF:=dA (.p2 dI bj) (.p2 (.v bj) .i) (c8 DX) func351 [V7,V8,Ñ]
def ach:=dA (.p3 (.slc ft) bj bj) (.p2 (.own 96 ft) .i) (jZ AT) func355 [zU,pB,U1] [(8,[],oN [1,3,7,9,4,10,13,15])]
def aci:=dA (.p2 dI bj) (.p3 (.v dI) (.v bj) .i) (c8 wY) func272 [aeF,xg,Pj,Qk,kL,rZ,ach,Nu] [(8,[0],sS [0,2,3,4,6] (.er 5 [5,7,8,9,10,11,12,13,14] (.two 1 7 (oN [14,16,19,21,23,25,26,29]) (oN [2,16,19,21,23,25,26,29])))),(14,[2,3],oX 5 [2,3])] [uk 7 8 Ea,uk 9 8 Ea,uk 11 8 Ea]
def Nv:=I7 .i xd func176 [aci] [(1,[],sS [0,1,2,3,4,5,6,7,8] (.three 9 14 15 (sS [10,11,12,13] (.two 14 15 (oN [30,32,34,37]) (oN [28,32,34,37]))) (.two 9 15 (oN [21,23,25,27,30,32,34,37]) (oN [18,21,23,25,27,32,34,37])) (.two 9 14 (oN [21,23,25,27,28,32,34,37]) (oN [18,21,23,25,27,32,34,37])))),(3,[0],sS [0,1,2,3,4,5,6,8,9] (.two 7 10 (oN [20,23,25,27,28]) (oN [14,23,25,27,28])))] [FZ 4 uq]
def Ò:=dA (.p2 cH (.int .i64)) (.p2 (.v cH) .i) (c8 yo) func273 [Fi]
def Nw:=dA (.p1 dI) .b (fE tI) func356 [rX]
def V':=nf [⟨37,[.i,.i]⟩] [.v bH,.ptr 0] [⟨37,[.i,.i]⟩] .b (jZ uv) func425 [xe]
def lL:=nf [⟨37,[.i,.i]⟩] [.v (.slc bH),.fn 425 [.ptr 0]] [⟨37,[.i,.i]⟩] .i (jZ dG) func297 [V'] [] [] [uk 2 8 [.i,.i]]
def kM:=nf [⟨37,[.i,.i]⟩] [.v (.slc bH),.fn 425 [.ptr 0]] [⟨37,[.i,.i]⟩] .b (jZ cQ) func424 [lL]
def Qr:=dA (.p3 dI (.int .i64) bj) .b (jZ wu) func357 [zT,kM]
def Ó:=dA (.p2 dI (.int .i64)) (.p2 (.v dI) .i) (c8 xE) func274 [Nw,Qr,Ff] [] [(13,⟨[(6,.row 1)],[(0,Ea)],[.dead,.own 104 eL]⟩)] [(5,⟨[(6,.row 1),(18,.i)],[(0,Ea)],[.dead,.own 104 eL]⟩)]
def Fj:=I7 .i j3 func177 [jL,Ò,vz,Ó] [(3,[1],oN [3,5,7,9,11,0,12,15,17,19,20,23]),(8,[],sS [0,1,2,3,4,5] (.two 6 10 (oN [15,17,19,20,22,25]) (oN [12,15,17,19,22,25])))] [(4,⟨[(4,.i)],[(1,[.i,.i,.i,.i])],[]⟩),uk 6 4 uq,FZ 11 uq]
def aeG:=dA (.p2 (.int .i64) (.int .i64)) .b (c8 Dg) func430
def Ô:=dA (.p2 dI bj) .i (c8 xF) func431 [rm,xe,oz,rV] [] [jO 16]
def Õ:=dA (.p6 dI bj bj (.int .i64) (.int .i64) (.int .i64)) .i (al1 xG) func359 [yu,Nw,rq,xg,Ph,aeG,Ô] [] [jO 22,jO 35]
def acj:=dA (.p6 dI bj bj (.int .i64) (.int .i64) (.int .i64)) (.p2 (.v dI) .i) (al1 zX) func276 [Õ,yu,Qj,XX,Ff,rZ] [] [(12,⟨[(18,.i),(19,.row 0)],[(0,Ea)],[.own 106 bj]⟩),uk 14 18 Ea,uk 16 18 Ea]
def Ny:=I7 .i ka func178 [qh,pQ,acj,xh] [(6,[],sS [0,1,2,3,4,5,6,7,8,9,10,11,12,13,14,15,16,17,18,19,20,21,22,23,24,25,26,27,28] (.two 29 33 (oN [61,63,65,66,68,71]) (oN [58,61,63,65,68,71])))]
def Wa:=dA (.p2 cH (.int .i64)) (.p2 (.v cH) .i) (c8 vb) func277 [Fi]
def ack:=dA (.p2 dI (.int .i64)) (.own 104 eL) (c8 zV) func278 [Qr] [] [Mc 7 5 1 [.dead,.own 104 eL]] [qQ 3 5 1 11 [.dead,.own 104 eL]]
def Ö:=dA (.p1 (.slc bH)) (.p2 (.own 37 bj) (.own 37 bj)) (fE Hz) func362 [nV] [] [(7,⟨[(2,.row 1),(3,.row 3)],[],[.dead,.own 37 bj,.dead,.own 37 bj]⟩)] [(2,⟨[(2,.row 1),(3,.row 3),(8,.i)],[],[.dead,.own 37 bj,.dead,.own 37 bj]⟩)]
def HQ:=dA (.p2 dI bj) (.p2 .i .i) (c8 qZ) func476 [kL,Pk]
def ao4:=dA (.p3 (.int .i64) (.int .i64) (.int .i64)) (.p2 .i .i) (jZ LI) func522 [tG,K',kY,oB,zy] [(3,[0],.two 0 1 (oN [2,4,6,9,11,13,14,17]) (oN [0,4,6,9,11,13,14,17]))] [uk 4 10 [.i,.t (.int .u64)],jO 25]
def Ø:=dA (.p2 dz (.int .i64)) (.p2 .i .i) (c8 xJ) func514 [xB,ao4]
def acm:=dA (.p5 (.slc ft) bj bj dz (.int .i64)) (.p2 (.own 96 ft) .i) (λW x=>Af W x.1 x.2.1 x.2.2.1 x.2.2.2.1 x.2.2.2.2.1) func515 [zU,Qo,U2]
def acn:=dA (.p4 dI bj dz (.int .i64)) (.p2 (.v dI) .i) (QG Ag) func498 [rW,Ø,Da,tm,acm,rZ] [(12,[0],sS [0,2,4] (.two 1 3 (oN [6,10,13,15,17,19,20,23]) (oN [2,10,13,15,17,19,20,23]))),(14,[0],sS [0,3,4] (.two 1 2 (oN [4,10,13,15,17,19,20,23]) (oN [2,10,13,15,17,19,20,23])))] [uk 13 13 Ea,uk 15 13 Ea]
def Qs:=dA (.p3 dI bj (.int .i64)) (.p2 (.v dI) .i) (jZ wD) func477 [rq,zU,tm,pB,kL,IS,acn] [(3,[],oX 4 [1])] [(11,⟨[(11,.i),(32,.row 0)],[(0,Ea)],[.own 92 dz]⟩),jO 12,(500052,⟨[(32,.row 0),(52,.b)],[],[.own 92 dz]⟩)] [(6,⟨[(32,.row 0),(34,.i)],[(0,Ea)],[.own 92 dz]⟩)]
def aeH:=dA (.p2 dI bj) (.p3 (.v dI) (.own 144 fh) .i) (c8 Dt) func434 [HQ,Qs] [(10,[2],sS [0,1,2,3,4,5,6] (.two 7 8 (oN [16,19,21]) (oN [14,19,21])))]
def yR:=nf [⟨416,[.i,.v (.slc cH),.v (.slc dW),.v (.slc dz),.v (.slc bH),.v (.slc di),.v (.slc e7),.v (.slc gb),.v (.slc eL),.v (.slc eL),.v (.slc eN),.v (.slc ft),.row 144 fh,.i]⟩] [.ptr 0,.v dI,.v (.slc fh),.i] [⟨416,[.i,.v (.slc cH),.v (.slc dW),.v (.slc dz),.v (.slc bH),.v (.slc di),.v (.slc e7),.v (.slc gb),.v (.slc eL),.v (.slc eL),.v (.slc eN),.v (.slc ft),.row 144 fh,.i]⟩] .unit (λW x=>rk W x.1 x.2.1 x.2.2.1 x.2.2.2.1 x.2.2.2.2.1 x.2.2.2.2.2.1 (c9 x).1 (c9 x).2.1 (c9 x).2.2.1 (c9 x).2.2.2.1 (c9 x).2.2.2.2.1 (c9 x).2.2.2.2.2.1 (aP x).1 (aP x).2.1 (aP x).2.2.1 (aP x).2.2.2.1 (aP x).2.2.2.2.1) func433 [] [(3,[0],oN [1,3,5,7,9,11,15,12,16,19,21,22,25,27,28])]
def Vh:=nf [⟨416,[.i,.v (.slc cH),.v (.slc dW),.v (.slc dz),.v (.slc bH),.v (.slc di),.v (.slc e7),.v (.slc gb),.v (.slc eL),.v (.slc eL),.v (.slc eN),.v (.slc ft),.row 144 fh,.i]⟩] [.ptr 0,.v (.slc bj)] [⟨416,[.i,.v (.slc cH),.v (.slc dW),.v (.slc dz),.v (.slc bH),.v (.slc di),.v (.slc e7),.v (.slc gb),.v (.slc eL),.v (.slc eL),.v (.slc eN),.v (.slc ft),.row 144 fh,.i]⟩] .unit (λW x=>C3 W x.1 x.2.1 x.2.2.1 x.2.2.2.1 x.2.2.2.2.1 x.2.2.2.2.2.1 (c9 x).1 (c9 x).2.1 (c9 x).2.2.1 (c9 x).2.2.2.1 (c9 x).2.2.2.2.1 (c9 x).2.2.2.2.2.1 (aP x).1 (aP x).2.1 (aP x).2.2.1) func363 [aeH,yR] [(4,[0],oN [1,3,5,7,11,8,12,15,17,19,20])] [(5,⟨[],[(0,[.i,.t (.slc cH),.t (.slc dW),.t (.slc dz),.t (.slc bH),.t (.slc di),.t (.slc e7),.t (.slc gb),.t (.slc eL),.t (.slc eL),.t (.slc eN),.t (.slc ft),.row 0,.i])],[.own 144 fh]⟩)] [(1,⟨[(8,.i)],[(0,[.i,.t (.slc cH),.t (.slc dW),.t (.slc dz),.t (.slc bH),.t (.slc di),.t (.slc e7),.t (.slc gb),.t (.slc eL),.t (.slc eL),.t (.slc eN),.t (.slc ft),.row 0,.i])],[.own 144 fh]⟩)]
def F4:=nf [] [.v dI,.v (.slc bj),.fn 476 []] [] (.p3 (.own 2 (.int .i64)) .i .i) (c8 nS) func478 [HQ,ko] [] [] [qQ 3 9 1 18 [.dead,.own 2 (.int .i64)]]
def Bq:=nf [] [.v (.slc dz),.v (.slc dz),.fn 455 []] [] (.p2 (.own 2 (.int .i64)) .i) (c8 iK) func408 [Eh,rW,Da] [] [] [qQ 5 8 1 20 [.dead,.own 2 (.int .i64)]]
def Wb:=dA (.p2 (.slc dz) (.slc dz)) (.p2 .i .i) (c8 uE) func501 [Bq,ko]
def Qt:=dA (.p2 dI bj) (.p2 .i .i) (c8 wC) func483 [pB,Wb,kL,ko] [(1,[],oX 12 [5,6])]
def aco:=dA (.p2 dI bj) (.p2 .i .i) (c8 Bf) func479 [Qt,kL] [] [sz 4 6]
def F5:=nf [] [.v dI,.v (.slc bj),.fn 479 []] [] (.p3 (.own 2 (.int .i64)) .i .i) (c8 nT) func478 [aco,ko] [] [] [qQ 3 9 1 18 [.dead,.own 2 (.int .i64)]]
def XZ:=dA (.p1 (.slc (.int .i64))) .i (fE M5) func480 [] [] [] [sz 3 8]
def Jq:=dA (.p2 (.int .i64) (.slc (.int .i64))) .b (c8 rR) func499 [Qq]
def Vi:=dA (.p3 (.int .i64) (.int .i64) (.slc (.int .i64))) (.p2 (.own 550 dz) .i) (jZ s5) func516 [Qp] [] [] [(4,⟨[(8,.row 0),(9,.i),(20,.i)],[],[.own 550 dz]⟩)]
def Wc:=dA (.p2 (.int .i64) (.slc (.int .i64))) (.p2 (.own 2 (.int .i64)) .i) (c8 vl) func500 [Jq,ko,Vi,τ] [] [] [(13,⟨[(8,.row 0),(9,.row 1),(45,.row 1),(47,.i)],[],[.own 2 (.int .i64),.own 550 dz]⟩),qQ 19 8 0 66 [.own 2 (.int .i64)]]
def Ù:=dA (.p2 (.int .i64) (.slc (.int .i64))) (.p2 (.own 2 (.int .i64)) .i) (c8 ud) func481 [Jq,ko,Wc]
def Qu:=dA (.p4 dI bj bj (.int .i64)) (.p3 (.v dI) (.own 144 fh) .i) (QG wE) func482 [Qs,rZ] [(8,[3],sS [0,1,2,3,4] (.two 5 6 (oN [12,15,17]) (oN [10,15,17])))] [uk 6 11 Ea]
def We:=dA (.p2 dI (.slc bj)) (.p3 (.v dI) (.own 144 fh) .i) (c8 vk) func435 [F4,F5,XZ,Ù,Qu] [(10,[],sS [0,1,2,4,5,6] (.er 3 [3,8,9] (oN [14,17,19]))),(11,[],sS [0,1,2,3,4,5,6,7,8,9] (.two 10 15 (oN [23,25,27,29,30,32,35,37]) (oN [20,23,25,27,29,32,35,37]))),(14,[0],oX 6 [3,4]),(15,[],sS [0,1,2,3,4,5,6,8,10,11,12,14] (.two 7 13 (oN [19,26,31,33,34,37,38]) (oN [31,14,19,33,34,37,38])))] [(16,⟨[(13,.row 2),(15,.row 3),(17,.row 5)],[],[.dead,.dead,.own 2 (.int .i64),.own 2 (.int .i64),.dead,.own 144 fh]⟩),(19,⟨[(17,.row 5)],[(0,Ea)],[.dead,.dead,.dead,.dead,.dead,.own 144 fh]⟩),(500043,⟨[(7,.row 0),(10,.row 1),(43,.b)],[],[.own 2 (.int .i64),.own 2 (.int .i64)]⟩)] [(9,⟨[(13,.row 2),(15,.row 3),(17,.row 5),(18,.i),(19,.i)],[(0,Ea)],[.dead,.dead,.own 2 (.int .i64),.own 2 (.int .i64),.dead,.own 144 fh]⟩)]
def Nz:=nf [⟨416,[.i,.v (.slc cH),.v (.slc dW),.v (.slc dz),.v (.slc bH),.v (.slc di),.v (.slc e7),.v (.slc gb),.v (.slc eL),.v (.slc eL),.v (.slc eN),.v (.slc ft),.row 144 fh,.i]⟩] [.ptr 0,.v (.slc bH)] [⟨416,[.i,.v (.slc cH),.v (.slc dW),.v (.slc dz),.v (.slc bH),.v (.slc di),.v (.slc e7),.v (.slc gb),.v (.slc eL),.v (.slc eL),.v (.slc eN),.v (.slc ft),.row 144 fh,.i]⟩] .unit (λW x=>rQ W x.1 x.2.1 x.2.2.1 x.2.2.2.1 x.2.2.2.2.1 x.2.2.2.2.2.1 (c9 x).1 (c9 x).2.1 (c9 x).2.2.1 (c9 x).2.2.2.1 (c9 x).2.2.2.2.1 (c9 x).2.2.2.2.2.1 (aP x).1 (aP x).2.1 (aP x).2.2.1) func364 [nV,We,yR] [(4,[0],sS [0,1,2,3,5] (.two 4 6 (oN [12,14,17,19,21,22]) (oN [8,14,17,19,21,22])))] [(5,⟨[],[(0,[.i,.t (.slc cH),.t (.slc dW),.t (.slc dz),.t (.slc bH),.t (.slc di),.t (.slc e7),.t (.slc gb),.t (.slc eL),.t (.slc eL),.t (.slc eN),.t (.slc ft),.row 0,.i])],[.own 144 fh]⟩),(500021,⟨[(21,.b)],[(0,[.i,.t (.slc cH),.t (.slc dW),.t (.slc dz),.t (.slc bH),.t (.slc di),.t (.slc e7),.t (.slc gb),.t (.slc eL),.t (.slc eL),.t (.slc eN),.t (.slc ft),.row 0,.i])],[.own 144 fh]⟩)] [(1,⟨[(8,.i)],[(0,[.i,.t (.slc cH),.t (.slc dW),.t (.slc dz),.t (.slc bH),.t (.slc di),.t (.slc e7),.t (.slc gb),.t (.slc eL),.t (.slc eL),.t (.slc eN),.t (.slc ft),.row 0,.i])],[.own 144 fh]⟩)]
def aeI:=dA (.p3 dI bj bj) (.p3 (.v dI) (.own 144 fh) .i) (jZ Ds) func436 [HQ,Qt,XZ,Qu] [] [jO 25]
def NA:=nf [⟨416,[.i,.v (.slc cH),.v (.slc dW),.v (.slc dz),.v (.slc bH),.v (.slc di),.v (.slc e7),.v (.slc gb),.v (.slc eL),.v (.slc eL),.v (.slc eN),.v (.slc ft),.row 144 fh,.i]⟩] [.ptr 0,.v (.slc bj),.v (.slc bj)] [⟨416,[.i,.v (.slc cH),.v (.slc dW),.v (.slc dz),.v (.slc bH),.v (.slc di),.v (.slc e7),.v (.slc gb),.v (.slc eL),.v (.slc eL),.v (.slc eN),.v (.slc ft),.row 144 fh,.i]⟩] .unit (λW x=>rU W x.1 x.2.1 x.2.2.1 x.2.2.2.1 x.2.2.2.2.1 x.2.2.2.2.2.1 (c9 x).1 (c9 x).2.1 (c9 x).2.2.1 (c9 x).2.2.2.1 (c9 x).2.2.2.2.1 (c9 x).2.2.2.2.2.1 (aP x).1 (aP x).2.1 (aP x).2.2.1 (aP x).2.2.2.1) func365 [aeI,yR] [(7,[0],oN [1,3,5,7,11,13,8,14,17,19,21,22])] [(8,⟨[],[(0,[.i,.t (.slc cH),.t (.slc dW),.t (.slc dz),.t (.slc bH),.t (.slc di),.t (.slc e7),.t (.slc gb),.t (.slc eL),.t (.slc eL),.t (.slc eN),.t (.slc ft),.row 0,.i])],[.own 144 fh]⟩)] [(1,⟨[(12,.i)],[(0,[.i,.t (.slc cH),.t (.slc dW),.t (.slc dz),.t (.slc bH),.t (.slc di),.t (.slc e7),.t (.slc gb),.t (.slc eL),.t (.slc eL),.t (.slc eN),.t (.slc ft),.row 0,.i])],[.own 144 fh]⟩),(4,⟨[(18,.i)],[(0,[.i,.t (.slc cH),.t (.slc dW),.t (.slc dz),.t (.slc bH),.t (.slc di),.t (.slc e7),.t (.slc gb),.t (.slc eL),.t (.slc eL),.t (.slc eN),.t (.slc ft),.row 0,.i])],[.own 144 fh]⟩)]
def aeJ:=dA (.p2 dI (.int .i64)) (.p3 (.v dI) (.own 144 fh) .i) (c8 IM) func279 [zT,Ö,Vh,Nz,NA,HJ] [(9,[1],oX 8 [5]),(10,[1],oX 11 [8])]
def ajq:=dA (.p2 dI bj) (.v qe) (c8 Hk) func366 [kL,pB] [(1,[2],oN [1,3,5,7,13,15,17,8,11,18,21,22])]
def aeK:=dA (.p3 (.slc ft) bj (.slc dz)) (.p2 (.own 96 ft) .i) (jZ IJ) func437 [Eh,C9] [] [sz 4 8]
def Vj:=dA (.p2 dI qe) (.p2 (.v dI) .i) (c8 xy) func367 [Cj,aeK] [] [(5,⟨[(6,.i)],[(0,ay8)],[.dead,.own 94 eN]⟩)]
def acp:=dA (.p2 dI (.int .i64)) (.p3 (.v dI) (.own 56 qe) .i) (c8 E3) func280 [rq,zU,zT,nV,ajq,Vj] [(15,[0],oX 7 [3,4,5])] [(12,⟨[(7,.row 3),(29,.row 0),(36,.row 4)],[],[.own 99 bH,.dead,.dead,.own 56 qe,.own 37 bj]⟩),(16,⟨[(7,.row 3),(29,.row 0),(36,.row 4)],[(0,Ea)],[.own 99 bH,.dead,.dead,.own 56 qe,.own 37 bj]⟩),jO 24] [(5,⟨[(7,.row 3),(29,.row 0),(31,.i)],[(0,Ea)],[.own 99 bH,.dead,.dead,.own 56 qe]⟩),(8,⟨[(7,.row 3),(29,.row 0),(36,.row 4),(38,.i)],[(0,Ea)],[.own 99 bH,.dead,.dead,.own 56 qe,.own 37 bj]⟩)]
def Lh:=I7 .i nw func179 [jL,Wa,vz,ack,aeJ,acp] [(3,[1],oN [3,5,7,9,11,0,12,15,17,19,20,23]),(8,[],oX 9 [6]),(10,[],sS [0,1,2,3,4,5] (.two 6 11 (oN [15,17,19,21,22,24,27,29]) (oN [12,15,17,19,21,24,27,29])))] [(4,⟨[(4,.i)],[(1,[.i,.i,.i,.i])],[]⟩),uk 6 4 uq,FZ 16 uq]
def F6:=nf [ia] [.ptr 0] [ia] (.p2 (.own 2 (.int .i64)) .i) (λW x=>nP W (xv x ())) func281 [xg,qh] [(2,[],oN [1,3,5,7,9,11,13,15,17,19,25,20,23])] [] [(3,⟨[(4,.row 2),(17,.row 0),(19,.i)],[],[.own 106 bj,.dead,.own 2 (.int .i64)]⟩)]
def NB:=nf [ia] [.ptr 0] [ia] (.p2 (.own 2 (.int .i64)) .i) (λW x=>rP W (xv x ())) func282 [HJ,tm,qh,kL] [(1,[],sS [0,1,2,3,4] (.op 5 (sS [6,7,8,9,10,11] (.two 12 13 (oN [26,29,31,33]) (oN [24,29,31,33]))))),(5,[],oX 14 [10,11])] [(2,⟨[(4,.b)],[],[]⟩),jO 34]
def Jc:=nf [ia] [.ptr 0] [ia] (.p2 (.own 2 (.int .i64)) .i) (λW x=>mF W (xv x ())) func283 [rm,XY,vy,Bp] [(1,[],sS [0,1,2,3,4,5,6,7,8,9,10] (.two 11 15 (oN [25,27,29,30,32,35]) (oN [22,25,27,29,32,35]))),(5,[],oX 22 [16]),(7,[0],sS [0,2,3,4,5,6] (.two 1 7 (oN [14,16,19,21,23,25,27]) (oN [2,16,19,21,23,25,27])))] [(8,⟨[(8,.i),(9,.i)],[(0,uq)],[]⟩)]
def Wf:=dA (.p2 E4 (.slc bH)) (.p2 (.own 94 eN) .i) (c8 rN) func368 [Fh,Bp] [] [(13,⟨[(6,.row 2),(20,.row 3)],[],[.dead,.dead,.own 94 eN,.own 37 bj]⟩)] [qQ 3 6 2 15 [.dead,.dead,.own 94 eN],(6,⟨[(6,.row 2),(20,.row 3),(22,.i)],[],[.dead,.dead,.own 94 eN,.own 37 bj]⟩)]
def Li:=nf [ia] [.ptr 0] [ia] (.p2 (.own 2 (.int .i64)) .i) (λW x=>qM W (xv x ())) func284 [vy,Wf] [(1,[0],sS [0,2,3,4,5] (.two 1 6 (oN [12,14,17,19,21,23,25]) (oN [2,14,17,19,21,23,25])))] [(2,⟨[(4,.row 0),(5,.i)],[(0,uq)],[.own 94 eN]⟩)] [(4,⟨[(6,.row 2),(20,.row 0),(22,.i)],[],[.own 94 eN,.dead,.own 2 (.int .i64)]⟩)]
def Lj:=nf [ia] [.ptr 0] [ia] (.p2 (.own 2 (.int .i64)) .i) (λW x=>nO W (xv x ())) func285 [jL,HH] [(4,[],oX 12 [6])]
def Ll:=nf [ia] [.ptr 0] [ia] (.p2 (.own 2 (.int .i64)) .i) (λW x=>nQ W (xv x ())) func180 [F6,NB,Jc,Li,Lj] [] [jO 21]
def Pm:=I7 .i qc func95 [Ll] [] [FZ 4 uq]
def Qv:=dA (.p1 (.int .u64)) (.v iq) (fE E8) func40 [] [] [] [(2,⟨[(0,.t (.int .u64)),(3,.row 1)],[],[.dead,.own 5 (.int .u8)]⟩)]
def NC:=dA (.p2 (.slc (.int .u8)) (.slc (.int .u8))) (.own 5 (.int .u8)) (c8 HA) func37 [] [] [Mc 6 5 1 [.dead,.own 5 (.int .u8)],(8,⟨[(5,.row 1),(6,.t (.int .u8))],[],[.dead,.own 5 (.int .u8)]⟩),(10,⟨[(5,.row 1),(6,.t (.int .u8))],[],[.dead,.own 5 (.int .u8)]⟩),Mc 14 5 1 [.dead,.own 5 (.int .u8)]] [(4,⟨[(5,.row 1),(6,.t (.int .u8)),(7,.i)],[],[.dead,.own 5 (.int .u8)]⟩)]
def Vk:=dA (.p1 (.int .i64)) (.v iq) (fE Pe) func12 [Qv,NC]
def ND:=dA (.p2 .bool (.slc (.int .u8))) (.v iq) (c8 yt) func36 [] [] [sz 4 5] [sz 2 5]
def Ú:=dA (.p2 (.slc (.int .u8)) (.slc (.int .u8))) .b (c8 Qd) func38 [] [(6,[],oI 11),(7,[],oI 12)] [] [sz 4 5]
def Wg:=dA (.p2 (.slc (.int .u8)) (.slc (.int .u8))) (.own 5 (.int .u8)) (c8 E9) func39 [] [] [(9,⟨[(5,.row 1),(8,.t (.int .u8))],[],[.dead,.own 5 (.int .u8)]⟩),(13,⟨[(5,.row 1),(6,.t (.int .u8))],[],[.dead,.own 5 (.int .u8)]⟩)] [(4,⟨[(5,.row 1),(6,.t (.int .u8)),(7,.i)],[],[.dead,.own 5 (.int .u8)]⟩)]
def Qy:=dA (.p2 iq iq) (.v iq) (c8 KO) func11 [NC,ND,Ú,Wg] [(2,[2],oX 9 [6,7,8]),(4,[2],oX 9 [6,7,8]),(5,[2],oX 9 [6,7,8])]
def acq:=dA (.p1 iq) (.v iq) (fE UT) func41 [ND]
def acr:=dA (.p2 iq iq) (.v iq) (c8 UU) func13 [acq,Qy] [(1,[2],oX 5 [2,3,4])]
def acs:=dA (.p2 iq iq) .i (c8 UW) func15 [acr]
def acu:=dA (.p2 (.slc eL) (.int .i64)) (.v bM) (c8 KR) func96 [Ph,kY,oB] [] [] [qQ 3 5 1 12 [.dead,.own 108 bM]]
def mM:=nf [⟨149,[.row 108 bM]⟩] [.ptr 0,.v (.slc bM)] [⟨149,[.row 108 bM]⟩] .unit (c8 gW) func79
def pT:=nf [⟨149,[.row 108 bM]⟩] [.ptr 0] [⟨149,[.row 108 bM]⟩] (.v bM) (fE iU) func84 [oB]
def Pn:=dA (.p1 dI) .b (fE FP) func43 [acu,mM,pT] [(5,[1],oN [1,3,5,7,11,13,15,8,16,18,20])] [] [sz 2 3]
def Wh:=dA (.p1 (.slc eN)) (.v bM) (fE M6) func44 [kY,oB] [] [] [qQ 3 3 1 10 [.dead,.own 108 bM]]
def NF:=dA (.p1 (.slc vm)) (.own 69 vm) (fE Ce) func98 [] [] [Mc 7 3 1 [.dead,.own 69 vm]] [qQ 3 3 1 8 [.dead,.own 69 vm]]
def Lm:=nf [⟨149,[.row 108 bM]⟩] [.ptr 0,.v (.slc bM)] [⟨149,[.row 108 bM]⟩] .unit (c8 vu) func99 [Va,mM] [] [] [(1,⟨[(10,.i)],[(0,[.row 0])],[.own 108 bM]⟩)]
def Vl:=dA (.p2 (.slc dz) (.int .i64)) (.v bM) (c8 Pf) func101 [kY,oB] [] [Mc 7 5 1 [.dead,.own 108 bM]] [qQ 3 5 1 12 [.dead,.own 108 bM]]
def Û:=dA (.p2 qe (.int .i64)) (.v bM) (c8 Qe) func100 [kY,Vl]
def Qz:=dA (.p2 (.slc vm) (.int .i64)) (.v bM) (c8 Fa) func45 [NF,kY,mM,Lm,Û,pT] [] [(10,⟨[(13,.row 0)],[(1,[.row 2])],[.own 69 vm,.dead,.own 108 bM]⟩)] [(3,⟨[(13,.row 0),(15,.i)],[(1,[.row 2])],[.own 69 vm,.dead,.own 108 bM]⟩),(11,⟨[(13,.row 0),(53,.i)],[(1,[.row 2])],[.own 69 vm,.dead,.own 108 bM]⟩)]
def Ü:=dA (.p2 (.slc ft) (.int .i64)) (.v bM) (c8 Qf) func46 [Vl,oB] [] [] [qQ 3 5 1 12 [.dead,.own 108 bM]]
def Wi:=dA (.p2 dI (.slc vm)) .i (c8 M8) func21 [Pn,Wh,Qz,Ü] [] [jO 16] [sz 4 5]
def Ý:=dA (.p2 (.int .i64) (.int .u64)) (.v iq) (c8 Qg) func102 [Vk,Qv,Qy] [(8,[0],oX 5 [2,3,4])] [(8,⟨[],[(1,[.b,.t (.slc (.int .u8))])],[]⟩)] [(3,⟨[(6,.i)],[(1,[.b,.t (.slc (.int .u8))])],[]⟩)]
def acv:=dA (.p1 bM) (.v iq) (fE UX) func48 [Ý]
def Wj:=dA .unit .b (λW x=>EJ W) func23 [Wi,Qz,acv,Vk,acs]
def HR:=dA (.p1 (.slc vm)) (.own 144 fh) (fE qq) func77 [NF] [] [] [(3,⟨[(3,.row 1),(7,.row 0),(9,.i)],[],[.own 69 vm,.own 144 fh]⟩)]
def Þ:=dA (.p2 bH fh) .b (c8 xT) func135 [xe]
def acw:=dA (.p3 dI (.int .i64) fh) .b (jZ KV) func78 [zw,zT,Þ] [] [jO 20,jO 31] [qQ 6 35 0 37 [.own 99 bH]]
def Wk:=nf [⟨37,[.i,.i]⟩] [.v fh,.ptr 0] [⟨37,[.i,.i]⟩] .b (jZ M9) func137
def zB:=nf [⟨37,[.i,.i]⟩] [.v (.slc vm),.fn 137 [.ptr 0]] [⟨37,[.i,.i]⟩] (.v bM) (jZ ik) func136 [HR,Wk,kY,mM,pT] [] [(7,⟨[(11,.row 0)],[(0,[.i,.i]),(2,[.row 2])],[.own 144 fh,.dead,.own 108 bM]⟩)] [(3,⟨[(11,.row 0),(13,.i)],[(0,[.i,.i]),(2,[.row 2])],[.own 144 fh,.dead,.own 108 bM]⟩)]
def acx:=dA (.p2 (.slc vm) bj) (.v bM) (c8 As) func80 [zB]
def acy:=dA (.p1 bM) .i (fE Au) func83 [Ve]
def ß:=dA (.p2 dI vm) .b (c8 BV) func30 [HR,acw,acx,kL,kY,mM,pT,acy] [(10,[3],oN [1,3,7,9,13,15,17,19,4,10,20,22,24,26])] [(500020,⟨[(5,.row 1),(20,.b)],[],[.dead,.own 144 fh]⟩)] [qQ 5 21 1 23 [.dead,.own 144 fh]]
def HT:=nf [ia] [.ptr 0,.i] [ia] (.own 3 (.int .i64)) (λW x=>lD W (xv x ()) (c9 (aP (aP x))).1) func271 [zT,nV,ajp,ail,YY] [(8,[],oX 10 [7,8])] [] [(3,⟨[(5,.row 3),(16,.row 0),(18,.i)],[],[.own 99 bH,.dead,.dead,.own 3 (.int .i64)]⟩),(6,⟨[(5,.row 3),(16,.row 0),(23,.row 4),(25,.i)],[],[.own 99 bH,.dead,.dead,.own 3 (.int .i64),.own 37 bj]⟩)]
def F7:=I7 .i kI func175 [jL,Ì,vz,HT,Cm] [(6,[1],oN [3,5,7,9,11,13,15,17,19,21,0,22,25,27,29,30,33])] [uk 9 4 uq,jO 26]
def NG:=I7 .i o5 func94 [Lg,HN,F7,Nv,Fj,Ny,Lh]
def Po:=I7 .i qb func35 [K6,Lc,Lf,NG,Pm]
def Wl:=nf [ia] [.i,.fns [.fn 1000033 [.ptr 0],.fn 1000034 [.ptr 0],.fn 1000035 [.ptr 0]]] [ia] .i (λW x=>uL W (xv x ()) (c9 (aP (aP x))).1) func31 [I8,HF,Po]
def Wm:=dA (.p2 dI jJ) (.p2 (.v dI) (.v ahd)) (c8 uM) func10 [abS,Wl] [(5,[2,3],oX 10 [8,9])]
def J2:=dA (.p1 (.slc jJ)) .b (fE uN) func8 [VO,Wm,ß,Wj] [] [FZ 10 Ea] [uk 3 4 Ea]
open Go.ChangeShapes Go.WideShapes Go.ChangeAt Go.Joins
theorem own:ownKnob Tryz.prog.godebug=none:=by kernel_rfl
theorem laidOut:laidOutB Tryz.prog=true:=by kernel_rfl
theorem Z_{H:Type}{enc:TypeId×Value->H}{w:World}{spare:Nat->Bool}{held:Bool}{t:TypeId}{v:Value}{d:DataW H}{p:List MemPlace}(h:DataW.Trod enc Tryz.prog w 0 spare held t v d p):∀x∈p,x.block<w.heap.size:=by obtain⟨m,hm⟩:=h;exact DataW.trod_lt m _ _ _ hm
end Go.Proofs.YthghpahghjppjaaGreat
namespace Go.Vc
open Go
def Ft(T:List (List Nat)):Nat->List Nat->List Nat->List Nat
 |0,_,seen=>seen.reverse
 |_,[],seen=>seen.reverse
 |n+1,f::todo,seen=>if seen.contains f then Ft T n todo seen else Ft T n ((T[f]?).getD []++todo) (f::seen)
theorem aeP{P:Program}{T:List (List Nat)}(j:P.funcs.toList.map P.leadsTo=T)(f:Nat):(P.funcs[f]?).elim [] P.leadsTo=(T[f]?).getD []:=by subst j;rw[la,du];cases P.funcs[f]?<;>rfl
theorem CG{P:Program}{T:List (List Nat)}(j:P.funcs.toList.map P.leadsTo=T):∀n todo seen,P.closureVia n todo seen=Ft T n todo seen
 |0,_,_=>by simp only[Program.closureVia,Ft]
 |n+1,[],_=>by simp only[Program.closureVia,Ft]
 |n+1,f::todo,seen=>by simp only[Program.closureVia,Ft];rw[CG j n,CG j n,aeP j f]
theorem zY{P:Program}{T:List (List Nat)}(j:P.funcs.toList.map P.leadsTo=T)(f:Nat):P.closure f=Ft T (1+(T.map λl=>l.length+1).sum) [f] []:=by unfold Program.closure;rw[CG j];subst j;rw[hJ];rfl
theorem HZ{T:List (List Nat)}{p:Nat->Prop}(hp:∀x,p x->∀y∈(T[x]?).getD [],p y):∀n todo seen,(∀x∈todo,p x)->(∀x∈seen,p x)->∀x∈Ft T n todo seen,p x
 |0,_,_,_,hs=>by intro x j;simp only[Ft]at j;exact hs x (by simpa using j)
 |n+1,[],_,_,hs=>by intro x j;simp only[Ft]at j;exact hs x (by simpa using j)
 |n+1,f::todo,seen,F,hs=>by
  intro x j;simp only[Ft]at j;split at j
  .exact HZ hp n todo seen (λy C=>F y (by simp[C])) hs x j
  .refine HZ hp n _ _ (λy C=>?_) (λy C=>?_) x j
   .rcases aQ.1 C with h|h
    .exact hp f (F f (by simp)) y h
    .exact F y (by simp[h])
   .rcases aB.1 C with rfl|h
    .exact F y (by simp)
    .exact hs y h
def asN(T:List (List Nat))(j:List Nat):Bool:=(List.range T.length).all λg=>(j[g]?).getD 0==0||((T[g]?).getD []).all λh=>decide (0<(j[h]?).getD 0)&&decide ((j[h]?).getD 0<(j[g]?).getD 0)
theorem X9{T:List (List Nat)}{j:List Nat}(h:asN T j=true){g y:Nat}(H:0<(j[g]?).getD 0)(C:y∈(T[g]?).getD []):0<(j[y]?).getD 0/\(j[y]?).getD 0<(j[g]?).getD 0:=by
 have F:g<T.length:=by
  rcases dO g T.length with h1|h1
  .exact h1
  .rw[bD h1]at C;cases C
 have:=mq.1 h g (Bs.2 F);simp only[fQ,gT,mq,aD,bg]at this;rcases this with G|G
 .omega
 .exact G y C
theorem ar7{P:Program}{T:List (List Nat)}{C:List Nat}{f:Nat}(H:P.funcs.toList.map P.leadsTo=T)(hk:asN T C=true)(K:0<(C[f]?).getD 0)(hu:P.unfollowed f=false):P.recurses f=false:=by
 unfold Program.recurses;rw[hu,Dc,kZ];intro g J;rw[zY H]at J;have G:0<(C[g]?).getD 0:=HZ (p:=λx=>0<(C[x]?).getD 0) (λx j y F=>(X9 hk j F).1) _ _ _ (by intro x j;simp only[ay]at j;subst j;exact K) (by intro x j;cases j) g J;simp only[xi,kZ];intro h hh;rw[aeP H]at hh;obtain⟨h1,V⟩:=X9 hk G hh;rw[zY H];cases R:(Ft T (1+(T.map λl=>l.length+1).sum) [h] []).contains g with
 |false=>rfl
 |true=>have hm:=List.contains_iff_mem.1 R;have:=HZ (p:=λx=>0<(C[x]?).getD 0/\(C[x]?).getD 0<=(C[h]?).getD 0) (λx j y F=>by have:=X9 hk j.1 F;exact⟨this.1,by omega⟩) _ _ _ (by intro x j;simp only[ay]at j;subst j;exact⟨h1,au _⟩) (by intro x j;cases j) g hm;omega
end Go.Vc
namespace Go.Proofs.YthghpahghjppjaaGreat
open Go Go.Vc
def aj1:List (List Nat):=[[],[],[1],[9,10,12,11,12,13,12,13,14,13,16,15,17,15,18],[9,10,19,19,18],[9,10,20,20,18],[9,10,21,22,23],[9,10,24,25,26,26,25,27,28,29,29,11,18],[9,10,30,23],[],[32,33,34,35,31],[37,36,38,39,36,39,36],[40,40,37],[41,11],[12,11],[13],[12,11],[14,11],[10,10,10],[42],[19,12,11,12,15],[43,44,45,46,45],[29,29,11,17,47,15,16,47,15],[21,45,48,12,15],[49,50,51],[52,53,54,55,56,57,58,59,59,60,61],[],[62,63,64,64,65,66,67,67,68],[69,70,71,72,73,74,74,75],[76,12,11],[77,78,80,82,81,79,84,83],[],[86,85,87],[88,89],[90],[91,92,93,94,95],[],[],[],[],[],[36],[],[96,96,79,84],[81,97],[98,81,79,81,99,100,99,84],[101,97],[12,11,12,13,12,13,14,13],[102],[],[],[103],[],[104],[],[105],[],[],[],[106],[],[103],[107,108,109,110,111,112,112,113],[112,114,112,112,114],[112,114,115],[116],[117,116],[112],[],[118],[119,120,121,122],[123,123,124],[123,125,126,127],[123,123,125,127,126],[123,125,128],[129,129,130,131,132],[],[98],[133,134,135],[],[137,136],[],[],[138],[97],[139,140,141,142,143,144],[145,146,142,147,148],[149],[150],[],[151,152,152,153,152,153,152,154,152,152],[155,156,157,158,159,160,161],[162,163,164,165,165,166,167],[168,169,170,171,172],[173,174,175,176,177,178,179],[180],[181,81,97],[182,183],[],[184,79],[81,101],[81,97],[12,40,11],[],[49],[],[],[],[185,185],[],[],[],[186],[116],[187],[188,116],[],[189,190],[],[],[191,191,192,193],[194],[88,195],[],[196],[197],[],[],[198,196],[123],[],[196],[199,196],[200],[202,203,201],[200,200],[77,81,79,84],[],[205,206,204],[207],[208,209,210,211],[140],[],[141,212,212,141,141,141,141,140,140,213],[214],[],[215,217,216],[146,218,218,146,146,146,146,146,146,146,146],[215,207],[],[220,219],[221],[133],[222],[223],[119,150,224],[120,225,227,226,229,230,228],[121,130,231,232,234,233],[160,89,235],[221,88,89,236,237],[88],[119,150,224],[238,239,240,241],[238,239,242],[222,238,243,240,241],[243,222,244],[238,239,245,246,247,248,250,249],[223,238,251,242],[225,191,229],[130,194,234],[252,253,255,254],[256,238,257,258,130,260,259],[238,257,261,221,262,264,263],[265,266,265,267],[238,268],[160,269,270,271,254],[272],[160,273,270,274],[275,266,276,241],[160,277,270,278,279,280],[281,282,283,284,285],[],[286,286],[287],[288,290,289,287],[],[291],[],[],[],[],[],[292],[],[],[293],[],[225,230],[],[294,295],[118,296],[297],[298],[],[],[299,299],[300,300],[],[],[211,211],[],[],[141,141],[141,214,140],[],[],[],[],[146],[],[],[301,298],[302],[303],[],[304,226],[],[],[305,306],[230],[307],[],[308],[309,310],[],[195,301,202,298,311],[195,312,293,314,313],[195,301,202,298],[275,266,89],[197],[239,315],[266,316],[317],[302,318],[303,319,320,321],[],[322,323,324],[246,325],[320,326],[327,131,328],[],[303,321],[131,329,328],[229],[165],[331,330],[],[],[328],[333,332,334],[],[82,258,260,335],[200,336],[337,338,339,333,82,340,319],[],[275,221],[133,88],[124,341,343,342,344],[345,124,346],[347],[161],[134,118,348,349,350],[351,353,352,354,82,249,355,341],[347],[356,357,358],[133],[359,197,360,361,358,358,249],[347],[357],[134,362,363,364,365,256,365],[131,132,134,118,366,367],[353,275],[256,250,275,82],[221,338,264,263],[264,368],[160,316],[],[],[290,369,369],[369,369],[],[],[],[],[],[308,308,204],[370],[],[314],[],[],[],[372,371],[374,373],[],[],[375],[],[376,376],[],[377],[378,379],[380,381,381],[382,383],[],[384,385,360,354,249],[387,386],[],[],[81,97,388],[],[326],[389,390,391,392,97],[288,393,290,286,290,289],[81],[392,324],[],[81,81,394,388],[131,395,396,397,319],[128,398],[],[],[399,400,295,402,401,319,402],[402],[132,403],[333,404,334],[],[128,131,132],[128,405,296,339,406,407],[405,296,118],[408,409,319],[346,411,410],[],[196],[412,413],[414,342],[],[119],[415,330],[417,416],[],[418,419,420],[421,422,181,319],[423],[128,361,358,358],[132,333,333,403,403],[128,128],[134,425,424],[128,353,352,426,427,428,429],[197,356,131,353,181,430,431],[120,191,191,392,432,324],[422,327],[118,118],[434,433],[118,435,433],[436,433],[82,333],[328,437],[405,263],[],[],[],[],[],[],[438,438,438],[],[439,439,439],[],[440],[376,376],[],[],[441],[128,131],[120],[128,353,442,319],[134,118],[324],[443],[320],[327],[81,81,288,288,444,290,290,289],[445],[182,182,81,182,183],[446],[447,448],[],[198,449,97,324],[199,294],[],[450,451],[],[402,196,402],[399,400,295,402,452],[336,118],[128,353,352],[453,454,324],[199,130],[455,121,456],[342],[],[],[457],[],[],[458,459,460,461,462,463,380,464,465,416,416],[466,467],[468,88,469],[470],[468,88,89,471,386,316,472],[473],[198],[],[297],[200],[196],[423],[],[474,475],[],[221,200,88,89],[288,81,288,444,444,286,290,289,287],[],[476,477,476],[478,476,478,479,480,481,481,482],[476,483,480,482],[199,334],[],[],[484,484,484],[485,485,485],[422,391,319],[],[],[467],[],[417,486],[196,196],[197,392,432],[],[487],[],[488],[138],[121,325],[392,323,388],[489,489,489],[380],[490,490],[491,492],[493,493,493,494],[],[380,380,380],[380,380],[380,380,380,380],[],[],[221,200],[495],[345],[353,82,333],[496,319],[],[],[497],[82,391],[131,132,250,333,82,327,498],[319],[483,82],[],[499,319,500],[477,249],[333,501,82,319],[],[],[502,503,504,505,506,507,508,509,486,486],[510,510,510],[198,197,511,97,184],[],[380,380],[417],[],[494],[512,512,512],[],[],[513,513,513],[130,514,455,250,515,250,249],[496],[499,319,516,517,518],[408,455,319],[],[519,519],[491,492],[520,520,520,521],[],[],[],[],[],[120,325,392],[380],[],[121,522],[132,335,259],[456],[417,523],[205,308,204],[],[521],[524,524,524],[392,323,81,97,388],[525,526,527,528,529,530,531,532,523,523],[],[],[533,533],[491,492],[534,534,534,535],[],[],[],[],[],[535],[536,536,536],[],[],[],[],[],[],[],[],[],[],[],[],[],[],[],[],[],[],[],[]]
def avr:List Nat:=[1,1,2,0,0,0,0,0,0,1,0,2,2,3,3,4,3,4,0,2,5,7,5,8,3,4,1,5,7,3,7,1,8,4,7,0,1,1,1,1,1,2,1,5,4,6,5,4,4,1,1,2,1,3,1,2,1,1,1,2,1,2,4,4,4,2,3,4,1,2,5,3,5,5,5,6,1,2,5,1,6,1,1,4,4,7,5,2,3,1,6,7,0,0,0,14,4,3,1,4,5,4,3,1,2,1,1,1,2,1,1,1,3,2,2,2,1,2,1,1,3,2,4,1,2,4,1,1,2,2,1,2,5,4,4,4,5,1,3,2,3,4,1,6,2,1,2,4,2,1,2,4,5,4,4,3,5,5,6,6,4,3,0,7,0,6,0,7,4,2,0,0,0,7,7,0,0,8,0,0,13,1,2,2,3,1,2,1,1,1,1,1,2,1,1,2,1,3,1,4,3,2,3,1,1,2,2,1,1,2,1,1,5,5,1,1,1,1,3,1,1,3,3,3,1,2,1,1,4,3,2,1,3,4,1,5,5,4,6,4,0,9,2,3,5,1,7,8,2,0,1,3,0,4,7,2,1,1,0,7,1,0,4,10,1,6,5,5,3,3,4,0,0,3,7,5,0,3,6,0,0,6,6,11,12,9,1,1,2,2,1,1,1,1,1,3,2,1,2,1,1,1,2,2,1,1,3,1,2,1,3,4,3,4,1,0,8,1,1,4,1,2,6,4,2,4,1,4,0,6,1,1,6,2,6,7,1,6,9,3,7,3,1,2,4,2,1,2,2,0,1,10,5,2,7,6,3,5,6,5,4,5,2,0,0,0,3,0,11,1,1,1,1,1,1,2,1,2,1,3,2,1,1,3,3,4,7,5,3,2,2,5,3,3,3,2,0,1,5,5,1,4,1,2,6,2,6,8,5,6,2,1,1,3,1,1,0,2,5,4,9,2,2,1,2,4,2,2,1,4,1,4,3,1,0,0,0,7,1,1,2,2,6,1,1,2,1,0,2,4,1,3,1,7,4,5,5,2,3,4,4,6,1,3,3,3,1,1,4,2,3,3,5,1,1,3,6,0,5,8,1,0,0,7,1,1,0,2,6,1,3,3,1,5,4,1,1,2,0,2,0,6,1,2,4,4,1,1,1,1,1,5,3,1,6,8,6,0,3,1,3,2,5,0,1,1,2,4,4,1,1,1,1,1,3,2,1,1,1,1,1,1,1,1,1,1,1,1,1,1,1,1,1,1,1,1]
set_option maxRecDepth 1000000 in
theorem R3:Tryz.prog.funcs.toList.map Tryz.prog.leadsTo=aj1:=by kernel_rfl
set_option maxRecDepth 1000000 in
theorem ax4:asN aj1 avr=true:=by kernel_rfl
end Go.Proofs.YthghpahghjppjaaGreat