import Derived.Test.YthghpahghjppjaaGreatB11
import Derived.Test.YthghpahghjppjaaGreatRows
import Derived.JoinedOf
namespace Go.Proofs.YthghpahghjppjaaGreat
open Go Go.Vc Go.RowKit _root_.Go.Proofs.Tryz Lot Ay Az AA AB AD
set_option maxRecDepth 100000
set_option synthInstance.maxSize 100000
set_option synthInstance.maxHeartbeats 0
set_option maxHeartbeats 8000000
def V1:=eA 9 (.p1 j5) (.v j5) (gg vz) func9 [] [] [Gy 3 a1e]
def agA:=jI 145 [] [] [⟨258,[.b,.row 5 (.int .u8)]⟩] (.ptr 0) (λW x=>IW W) func145
def E9:=jI 215 [⟨258,[.b,.row 5 (.int .u8)]⟩] [.ptr 0] [⟨258,[.b,.row 5 (.int .u8)]⟩] .b (dD tT) func215
def V2:=eA 217 (.p1 (.int .i64)) (.v (.int .u64)) (gg vN) func217
def Nu:=jI 216 [⟨258,[.b,.row 5 (.int .u8)]⟩] [.ptr 0,.v (.int .u64)] [⟨258,[.b,.row 5 (.int .u8)]⟩] .unit (kx pA) func216 [] [] [] [(0,⟨[(1,.t (.int .u64))],[(0,[.b,.row 0])],[.own 5 (.int .u8)]⟩)]
def wx:=jI 146 [⟨258,[.b,.row 5 (.int .u8)]⟩] [.ptr 0,.v (.slc (.int .i64))] [⟨258,[.b,.row 5 (.int .u8)]⟩] (.ptr 0) (kx dU) func146 [E9,V2,Nu] [] [(7,⟨[],[(0,[.b,.row 0])],[.own 5 (.int .u8)]⟩)] [(3,⟨[(11,.i)],[(0,[.b,.row 0])],[.own 5 (.int .u8)]⟩)]
def Nv:=eA 142 (.p1 (.int .i64)) (.v .str) (gg rE) func142 [] [] [jA 4,jA 14,jA 21,jA 25,jA 37,jA 40,jA 43]
def agB:=jI 218 [⟨258,[.b,.row 5 (.int .u8)]⟩] [.ptr 0,.v bd] [⟨258,[.b,.row 5 (.int .u8)]⟩] .unit (kx Ax) func218 [wx]
def aeo:=jI 147 [⟨258,[.b,.row 5 (.int .u8)]⟩] [.ptr 0,.v j5,.v (.int .i32)] [⟨258,[.b,.row 5 (.int .u8)]⟩] .unit (QR xl) func147 [wx,agB] [(21,[0],oN [1,3,5,7,13,15,8,10,16])]
def uM:=eA 207 (.p1 (.slc (.int .u8))) (.own 5 (.int .u8)) (gg iD) func207
def Lu:=jI 148 [⟨258,[.b,.row 5 (.int .u8)]⟩] [.ptr 0] [⟨258,[.b,.row 5 (.int .u8)]⟩] (.own 5 (.int .u8)) (dD kP) func148 [E9,uM]
def V3:=eA 86 (.p1 j5) (.own 5 (.int .u8)) (gg vh) func86 [agA,wx,Nv,aeo,Lu] [(1,[],tv [1,2,3,4] (.two 0 5 (oN [10,12,15]) (oN [0,12,15])))] [] [(3,⟨[(16,.ob 2)],[(1,[.b,.row 0])],[.own 5 (.int .u8),.dead,.obj .I9]⟩),(3,⟨[(16,.ob 2)],[(1,[.b,.row 1])],[.dead,.own 5 (.int .u8),.obj .I9]⟩)]
def aep:=jI 139 [] [.v (.slc (.int .u8))] [⟨250,[.b,.row 5 (.int .u8),.i]⟩] (.ptr 0) (gg BF) func139 [uM]
def Lv:=jI 208 [⟨250,[.b,.v (.slc (.int .u8)),.i]⟩] [.ptr 0] [⟨250,[.b,.v (.slc (.int .u8)),.i]⟩] .b (kx wu) func208
def B6:=jI 211 [⟨250,[.b,.v (.slc (.int .u8)),.i]⟩] [.ptr 0,.i] [⟨250,[.b,.v (.slc (.int .u8)),.i]⟩] .unit (QR ou) func211
def HO:=jI 209 [⟨250,[.b,.v (.slc (.int .u8)),.i]⟩] [.ptr 0] [⟨250,[.b,.v (.slc (.int .u8)),.i]⟩] (.p2 (.v (.int .u64)) .b) (kx lE) func209 [B6] [] [jA 48] [(4,⟨[(4,.t (.int .u64)),(5,.i)],[(0,[.b,.t (.slc (.int .u8)),.i])],[]⟩)]
def Rt:=eA 210 (.p1 (.int .u64)) .i (gg rP) func210
def rq:=jI 140 [⟨250,[.b,.v (.slc (.int .u8)),.i]⟩] [.ptr 0,.i,.i] [⟨250,[.b,.v (.slc (.int .u8)),.i]⟩] .i (λW x=>iC W x.1 x.2.1 x.2.2.1 x.2.2.2.1 x.2.2.2.2.1) func140 [Lv,HO,Rt,B6] [] [jA 23]
def C3:=jI 141 [⟨250,[.b,.v (.slc (.int .u8)),.i]⟩] [.ptr 0,.i] [⟨250,[.b,.v (.slc (.int .u8)),.i]⟩] .i (QR j2) func141 [rq]
def aeq:=jI 212 [⟨250,[.b,.v (.slc (.int .u8)),.i]⟩] [.ptr 0] [⟨250,[.b,.v (.slc (.int .u8)),.i]⟩] (.v bd) (kx xj) func212 [C3]
def C4:=jI 214 [⟨250,[.b,.v (.slc (.int .u8)),.i]⟩] [.ptr 0] [⟨250,[.b,.v (.slc (.int .u8)),.i]⟩] .i (kx sI) func214
def V4:=jI 213 [⟨250,[.b,.v (.slc (.int .u8)),.i]⟩] [.ptr 0,.i] [⟨250,[.b,.v (.slc (.int .u8)),.i]⟩] (.own 2 (.int .i64)) (QR vg) func213 [C3,C4,rq] [] [(6,⟨[(5,.row 1)],[(0,[.b,.t (.slc (.int .u8)),.i])],[.dead,.own 2 (.int .i64)]⟩)] [(3,⟨[(5,.row 1),(6,.i)],[(0,[.b,.t (.slc (.int .u8)),.i])],[.dead,.own 2 (.int .i64)]⟩)]
def agC:=jI 143 [⟨250,[.b,.v (.slc (.int .u8)),.i]⟩,⟨40,[.i,.i,.i,.i,.i,.i,.i,.i,.i,.i,.i,.i,.i,.v (.slc (.int .i64))]⟩] [.ptr 0,.ptr 1,.v (.int .i32)] [⟨250,[.b,.v (.slc (.int .u8)),.i]⟩,⟨40,[.i,.i,.i,.i,.i,.i,.i,.i,.i,.i,.i,.i,.i,.v (.slc (.int .i64))]⟩] .unit (λW x=>D4 W x.1 x.2.1 x.2.2.1 x.2.2.2.1 x.2.2.2.2.1 x.2.2.2.2.2.1 x.2.2.2.2.2.2.1 x.2.2.2.2.2.2.2.1 x.2.2.2.2.2.2.2.2.1 x.2.2.2.2.2.2.2.2.2.1 x.2.2.2.2.2.2.2.2.2.2.1 x.2.2.2.2.2.2.2.2.2.2.2.1 x.2.2.2.2.2.2.2.2.2.2.2.2.1 x.2.2.2.2.2.2.2.2.2.2.2.2.2.1 x.2.2.2.2.2.2.2.2.2.2.2.2.2.2.1 x.2.2.2.2.2.2.2.2.2.2.2.2.2.2.2.1 x.2.2.2.2.2.2.2.2.2.2.2.2.2.2.2.2.1 x.2.2.2.2.2.2.2.2.2.2.2.2.2.2.2.2.2.1) func143 [C3,aeq,rq,V4]
def Nw:=jI 144 [⟨250,[.b,.v (.slc (.int .u8)),.i]⟩] [.ptr 0] [⟨250,[.b,.v (.slc (.int .u8)),.i]⟩] .i (kx pB) func144 [C4]
def agD:=eA 85 (.p1 (.slc (.int .u8))) (.p2 (.v j5) .i) (gg D5) func85 [aep,rq,C3,Nv,agC,Nw] [] [] [(4,⟨[(18,.ob 1)],[(1,[.b,.t (.slc (.int .u8)),.i]),(2,[.i,.i,.i,.i,.i,.i,.i,.i,.i,.i,.i,.i,.i,.t (.slc (.int .i64))])],[.dead,.obj .I9]⟩)]
def CC:=eA 149 (.p2 (.slc (.int .i64)) (.slc (.int .i64))) .b (dD i6) func149 [] [(6,[],oI 9)] [] [vB 4 13]
def agE:=eA 87 (.p2 j5 j5) .b (dD D7) func87 [CC]
def aer:=eA 32 (.p1 j5) .i (gg AU) func32 [V3,agD,agE] [] [jA 18]
def V5:=jI 220 [⟨3,[.i]⟩] [.v cE,.ptr 0] [⟨3,[.i]⟩] .b (dD FO) func220
def mB:=jI 219 [⟨3,[.i]⟩] [.v (.slc cE),.fn 220 [.ptr 0]] [⟨3,[.i]⟩] .i (dD cf) func219 [V5] [] [] [uU 2 8 [.i]]
def HQ:=eA 150 (.p2 (.slc cE) (.int .i64)) .i (dD qd) func150 [mB]
def oV:=eA 88 (.p2 (.slc cE) (.int .i64)) (.p2 (.v cE) .b) (dD iz) func88 [HQ]
def sJ:=eA 89 (.p1 cE) .i (gg iQ) func89
def Jj:=jI 33 [cG] [.ptr 0] [cG] .i (λW x=>mS W (pd x ())) func33 [oV,sJ] [(3,[],tv [0,1,2,3,4,5,6,7,8,9] (.two 10 14 (oN [23,25,27,28,30,33]) (oN [20,23,25,27,30,33])))]
def FP:=eA 301 (.p2 (.slc bJ) (.int .i64)) (.p2 .i .b) (dD l7) func301 [] [(5,[],oI 7)] [] [vB 2 10]
def xd:=eA 314 (.p1 (.slc (.int .i64))) (.own 3 (.int .i64)) (gg jn) func314
def FQ:=eA 298 (.p1 bJ) (.v bJ) (gg nF) func298 [xd]
def rY:=eA 221 (.p2 (.slc bJ) (.int .i64)) (.p2 (.v bJ) .b) (dD mJ) func221 [FP,FQ]
def HR:=jI 151 [cG] [.ptr 0,.i] [cG] .b (λW x=>lG W (pd x ()) x.2.2.2.2.2.2.2.2.2.2.2.2.2.2.2.2.2.2.2.2.2.2.2.2.2.2.2.2.2.2.1) func151 [rY] [(2,[],oI 12)]
def ov:=eA 118 (.p1 bJ) (.own 37 bd) (gg jo) func118 [] [] [] [vC 5 3 1 16 [.dead,.own 37 bd]]
def wR:=eA 370 (.p2 (.slc bd) bd) .i (dD gd) func370 [] [(4,[],oI 6)] [] [vB 2 8]
def jl:=eA 296 (.p2 (.slc bd) bd) .b (dD cT) func296 [wR]
def B7:=eA 200 (.p2 bJ bd) .b (dD sq) func200 [ov,jl] [(1,[],oN [1,5,2,6,9])]
def FR:=eA 133 (.p2 (.slc bJ) bd) .i (dD nV) func133 [B7] [] [] [vB 2 9]
def Ny:=jI 152 [cG] [.ptr 0,.v bd] [cG] .b (λW x=>gK W (pd x ()) x.2.2.2.2.2.2.2.2.2.2.2.2.2.2.2.2.2.2.2.2.2.2.2.2.2.2.2.2.2.2.1) func152 [FR] [(1,[],oN [1,3,5,7,9,11,15,17,19,21,23,12,25,27])]
def aes:=jI 372 [⟨3,[.i]⟩] [.v fX,.ptr 0] [⟨3,[.i]⟩] .b (dD Ls) func372
def o9:=jI 371 [⟨3,[.i]⟩] [.v (.slc fX),.fn 372 [.ptr 0]] [⟨3,[.i]⟩] .i (dD dH) func371 [aes] [] [] [uU 2 8 [.i]]
def Ye:=eA 302 (.p2 (.slc fX) (.int .i64)) .i (dD EV) func302 [o9]
def HT:=eA 222 (.p2 (.slc fX) (.int .i64)) (.p2 (.v fX) .b) (dD ul) func222 [Ye]
def Lw:=jI 153 [cG] [.ptr 0] [cG] (.v fX) (λW x=>kR W (pd x ())) func153 [HT] [(1,[],tv [0,1,2,3,4,5,6,7,8,9] (.two 10 14 (oN [23,25,27,28,30,33]) (oN [20,23,25,27,30,33])))]
def aau:=jI 374 [⟨3,[.i]⟩] [.v ff,.ptr 0] [⟨3,[.i]⟩] .b (dD HL) func374
def nD:=jI 373 [⟨3,[.i]⟩] [.v (.slc ff),.fn 374 [.ptr 0]] [⟨3,[.i]⟩] .i (dD dr) func373 [aau] [] [] [uU 2 8 [.i]]
def Ly:=eA 303 (.p2 (.slc ff) (.int .i64)) .i (dD xM) func303 [nD]
def Nz:=eA 223 (.p2 (.slc ff) (.int .i64)) (.p2 (.v ff) .b) (dD uI) func223 [Ly]
def Lz:=jI 154 [cG] [.ptr 0] [cG] (.v ff) (λW x=>nX W (pd x ())) func154 [Nz] [(1,[],tv [0,1,2,3,4,5,6,7,8,9] (.two 10 14 (oN [23,25,27,28,30,33]) (oN [20,23,25,27,30,33])))]
def NA:=jI 90 [cG] [.ptr 0] [cG] .b (λW x=>pH W (pd x ())) func90 [HR,Ny,Lw,Lz] [(27,[],oI 12)] [(5,⟨[],[],[]⟩),(13,⟨[],[],[]⟩),(15,⟨[],[],[]⟩),(19,⟨[],[],[]⟩),Gy 22 u6,(23,⟨[],[],[]⟩)]
def HU:=jI 34 [cG] [.ptr 0] [cG] .i (λW x=>lH W (pd x ())) func34 [NA] [] [(500012,⟨[(12,.b)],[(0,u6)],[]⟩)]
def B8:=eA 119 (.p1 cE) .i (gg oS) func119 [] [] [jA 40]
def mf:=eA 224 (.p1 (.slc cE)) (.own 64 cE) (gg eE) func224
def aav:=eA 155 (.p2 (.slc cE) cE) (.p2 (.own 64 cE) .i) (dD y8) func155 [B8,HQ,mf] [(6,[],tv [0,2] (.two 1 3 (oN [6,8,11]) (oN [2,8,11]))),(8,[],oN [1,3,5,7,9,11,13,15,19,21,16,23,25]),(10,[],tv [0,1,2,3,4,5,6,7,9,10,11,12] (.er 8 [8,14,15,16,17] (oN [26,29,30,33,34])))] [VK 11 7 0 [.own 64 cE],VK 11 7 1 [.dead,.own 64 cE]] [vC 8 7 0 8 [.own 64 cE],vC 8 7 1 8 [.dead,.own 64 cE]]
def DH:=eA 191 (.p1 (.int .i64)) .b (gg lT) func191
def agF:=eA 193 (.p1 (.int .i64)) .b (gg EI) func193
def rZ:=jI 292 [] [.v (.slc (.int .i64)),.fn 193 []] [] .i (gg eU) func292 [agF] [] [] [vB 2 8]
def qL:=jI 192 [] [.v (.slc (.int .i64)),.fn 193 []] [] .b (gg eB) func192 [rZ]
def Aq:=eA 120 (.p1 ez) .i (gg p8) func120 [DH,qL] [] [(2,⟨[(3,.b)],[],[]⟩),jA 46]
def aet:=jI 304 [⟨3,[.i]⟩] [.v ez,.ptr 0] [⟨3,[.i]⟩] .b (dD K2) func304
def pa:=jI 226 [⟨3,[.i]⟩] [.v (.slc ez),.fn 304 [.ptr 0]] [⟨3,[.i]⟩] .i (dD dG) func226 [aet] [] [] [uU 2 8 [.i]]
def Pw:=eA 225 (.p2 (.slc ez) (.int .i64)) .i (dD BG) func225 [pa]
def aaw:=jI 227 [⟨174,[.i,.i,.i,.i,.v (.slc (.int .i64))]⟩] [.v ez,.ptr 0] [⟨174,[.i,.i,.i,.i,.v (.slc (.int .i64))]⟩] .b (ank HM) func227
def oW:=jI 226 [⟨174,[.i,.i,.i,.i,.v (.slc (.int .i64))]⟩] [.v (.slc ez),.fn 227 [.ptr 0]] [⟨174,[.i,.i,.i,.i,.v (.slc (.int .i64))]⟩] .i (ank dC) func226 [aaw] [] [] [uU 2 8 [.i,.i,.i,.i,.t (.slc (.int .i64))]]
def CD:=eA 307 (.p1 (.slc (.int .i64))) (.own 2 (.int .i64)) (gg jb) func307
def LA:=eA 230 (.p1 ez) (.v ez) (gg xH) func230 [CD]
def DI:=eA 229 (.p1 (.slc ez)) (.own 174 ez) (gg qq) func229 [LA] [] [] [vC 3 3 1 8 [.dead,.own 174 ez]]
def agG:=eA 156 (.p2 (.slc ez) ez) (.p2 (.own 174 ez) .i) (dD EU) func156 [Aq,Pw,oW,DI,LA,Y8] [(9,[],oN [1,5,7,2,8,10,12,15,17])] [vB 9 7]
def HV:=eA 194 (.p1 (.int .i64)) .b (gg ko) func194
def yo:=eA 121 (.p1 dI) .i (gg kr) func121 [HV] [] [jA 26]
def sK:=eA 130 (.p2 (.slc dI) (.int .i64)) (.p2 (.v dI) .b) (dD jM) func130 [] [] [] [vB 2 10]
def Qt:=eA 376 (.p1 (.int .i64)) .b (gg xO) func376
def JB:=eA 308 (.p2 (.int .i64) (.int .i64)) .i (dD qp) func308 [Qt]
def aax:=eA 232 (.p2 dI (.int .i64)) .i (dD uH) func232 [JB]
def jZ:=jI 231 [] [.v (.slc dI),.i,.fn 232 []] [] (.p2 .i .b) (dD cD) func231 [aax] [] [] [(3,⟨[(9,.i),(10,.i)],[],[]⟩)]
def nq:=eA 234 (.p1 (.slc dI)) (.own 132 dI) (gg eV) func234
def aeu:=eA 157 (.p2 (.slc dI) dI) (.p2 (.own 132 dI) .i) (dD BQ) func157 [yo,sK,jZ,nq,VJ] [(8,[],tv [0,2,3] (.two 1 4 (oN [8,10,13,15]) (oN [2,10,13,15])))]
def jJ:=jI 160 [cG] [.ptr 0] [cG] (.p2 (.v cE) .i) (λW x=>fO W (pd x ())) func160 [oV] [(1,[],tv [0,1,2,3,4,5,6,7,8,9] (.two 10 14 (oN [23,25,27,28,30,33]) (oN [20,23,25,27,30,33])))]
def Qu:=eA 293 (.p1 (.int .i64)) .i (gg uj) func293
def FT:=eA 195 (.p1 bJ) .i (gg rM) func195 [Qu] [(2,[],oX 21 [18])] [(2,⟨[(3,.b)],[],[]⟩),jA 45,jA 59] [(6,⟨[(4,.i),(49,.i)],[],[]⟩)]
def DL:=eA 202 (.p1 (.slc bJ)) (.own 99 bJ) (gg qo) func202 [FQ] [] [] [vC 3 3 1 8 [.dead,.own 99 bJ]]
def agH:=eA 235 (.p2 (.slc bJ) bJ) (.p2 (.own 99 bJ) .i) (dD ER) func235 [FT,FP,DL,FQ,QP] [(7,[],oN [1,5,7,2,8,10,12,15,17])]
def Fa:=jI 158 [cG] [.ptr 0] [cG] .i (λW x=>jE W (pd x ())) func158 [jJ,sJ,agH] [(7,[0],tv [0,1,2,3,4,6,7,8,9,10,12,13,14,15,17,18,19,20] (.er 11 [11,22,23,24,25,26,27,28,29,30,31] (.er 16 [16,22,23,24,25,26,27,28,29,30,31] (.er 21 [21,22,23,24,25,26,27,28,29,30,31] (oN [45,10,46,49,51,53,55,57,59,60,63])))))] [vB 6 4,uU 8 4 u6]
def agI:=eA 380 (.p2 (.int .i64) (.int .i64)) .b (dD EX) func380 [Qt]
def Vd:=eA 381 (.p1 (.int .i64)) .b (gg yl) func381
def zH:=eA 312 (.p2 (.slc (.int .i64)) (.int .i64)) (.p2 .i .b) (dD gV) func312 [agI,Vd] [] [] [(3,⟨[(7,.i),(8,.i)],[],[]⟩)]
def aev:=eA 236 (.p2 bJ (.int .i64)) (.p2 (.v bJ) .i) (dD BW) func236 [FT,zH,Qu,xd,abZ] [(11,[],oX 8 [5])] [jA 27]
def agJ:=eA 237 (.p2 (.slc bJ) bJ) (.p2 (.own 99 bJ) .i) (dD ET) func237 [FT,FP,DL,FQ]
def NB:=jI 159 [cG] [.ptr 0] [cG] .i (λW x=>pK W (pd x ())) func159 [rY,oV,sJ,aev,agJ] [(1,[],tv [0,1,2,3,4,5,6,7,8,9,10] (.two 11 15 (oN [25,27,29,30,32,35]) (oN [22,25,27,29,32,35]))),(4,[],tv [0,1,2,3,4,5,6] (.two 7 11 (oN [17,19,21,22,24,27]) (oN [14,17,19,21,24,27]))),(8,[],tv [0,1,2,3,4,5,6] (.two 7 11 (oN [17,19,21,22,24,27]) (oN [14,17,19,21,24,27]))),(10,[0],oN [1,3,5,7,9,13,10,14,17,19,21,23,25,27,28,31])] [uU 11 9 u6]
def NC:=eA 161 (.p2 (.slc cE) cE) (.p2 (.own 64 cE) .i) (dD uG) func161 [B8,HQ,mf]
def LB:=jI 91 [cG] [.ptr 0] [cG] .i (λW x=>n9 W (pd x ())) func91 [aav,agG,aeu,Fa,NB,jJ,NC] [(4,[0],tv [0,1,2,3,4,6,7,8,9,11,12,13,14] (.er 10 [10,16,17,18,19,20,21,22,23,24,25] (.er 15 [15,16,17,18,19,20,21,22,23,24,25] (oN [33,10,34,37,39,41,43,45,47,48,51])))),(6,[0],tv [0,1,2,3,4,6,7,8,9,11,12,13,14,16,17,18,19,21,22,23,24,26,27,28,29] (.er 10 [10,31,32,33,34,35,36,37,38,39,40] (.er 15 [15,31,32,33,34,35,36,37,38,39,40] (.er 20 [20,31,32,33,34,35,36,37,38,39,40] (.er 25 [25,31,32,33,34,35,36,37,38,39,40] (.er 30 [30,31,32,33,34,35,36,37,38,39,40] (oN [63,10,64,67,69,71,73,75,77,78,81]))))))),(8,[0],tv [0,1,2,3,4,6,7,8,9,11,12,13,14,16,17,18,19] (.er 10 [10,21,22,23,24,25,26,27,28,29,30] (.er 15 [15,21,22,23,24,25,26,27,28,29,30] (.er 20 [20,21,22,23,24,25,26,27,28,29,30] (oN [43,10,44,47,49,51,53,55,57,58,61]))))),(18,[0],oN [1,3,5,7,9,13,10,14,17,19,21,23,25,27,28,31])] [uU 19 3 u6]
def qM:=jI 275 [cG] [.ptr 0,.v bd] [cG] .i (λW x=>jD W (pd x ()) x.2.2.2.2.2.2.2.2.2.2.2.2.2.2.2.2.2.2.2.2.2.2.2.2.2.2.2.2.2.2.1) func275 [FR] [(1,[],oX 8 [6])]
def qu:=jI 266 [cG] [.ptr 0,.v bd] [cG] (.v cE) (λW x=>iS W (pd x ()) x.2.2.2.2.2.2.2.2.2.2.2.2.2.2.2.2.2.2.2.2.2.2.2.2.2.2.2.2.2.2.1) func266 [FR,oV] [(1,[],tv [0,1,2,3,4,5,6,7,8,9,10] (.two 11 16 (.two 12 16 (oN [27,29,31,32,34,37]) (oN [24,27,29,31,34,37])) (oN [22,24,27,29,31,34,37])))]
def iU:=jI 238 [cG] [.ptr 0,.v (.slc bd)] [cG] .i (λW x=>fF W (pd x ()) x.2.2.2.2.2.2.2.2.2.2.2.2.2.2.2.2.2.2.2.2.2.2.2.2.2.2.2.2.2.2.1) func238 [qM,qu,sJ] [] [] [uU 2 11 u6]
def zj:=eA 197 (.p2 (.slc ez) (.int .i64)) (.p2 (.v ez) .b) (dD qm) func197 [Pw,LA]
def rr:=jI 239 [cG] [.ptr 0,.i] [cG] (.p2 (.v ez) .i) (λW x=>jq W (pd x ()) x.2.2.2.2.2.2.2.2.2.2.2.2.2.2.2.2.2.2.2.2.2.2.2.2.2.2.2.2.2.2.1) func239 [zj]
def ND:=eA 198 (.p1 (.slc bd)) .b (gg CU) func198 [] [] [jA 25] [(3,⟨[(3,.i),(8,.i)],[],[]⟩)]
def sb:=eA 196 (.p2 bd bd) .b (dD mQ) func196
def sM:=eA 128 (.p1 (.slc eX)) .b (gg nU) func128 [ND,sb] [(4,[],tv [0,1,2,3,4,5,6] (.op 7 (tv [8,9,10,11,12,13,14,15,16,17,18,20] (.two 19 21 (oN [42,44,47,49,51]) (oN [38,44,47,49,51])))))] [jA 37] [vB 2 7]
def sd:=eA 131 (.p1 (.slc e7)) .b (gg nG) func131 [sb] [(4,[],oX 19 [15])] [jA 30] [vB 2 7]
def als:=eA 384 (.p1 Pv) .b (gg Hv) func384 [sM,sd]
def aay:=eA 385 (.p3 ez (.int .i64) (.int .i64)) .b (kx yT) func385 [Aq]
def xP:=eA 81 (.p1 (.int .i64)) (.v dB) (gg pE) func81
def ox:=eA 290 (.p1 dB) .b (gg fj) func290
def sN:=eA 288 (.p1 dB) (.v Yd) (gg ir) func288 [ox,ahJ]
def C5:=eA 444 (.p2 (.int .u64) (.int .u64)) (.p2 (.v (.int .u64)) (.v (.int .u64))) (dD j7) func444
def qv:=eA 289 (.p2 Yd .bool) (.p2 (.v dB) .b) (dD gX) func289 [ahJ] [(2,[1],oX 11 [9]),(5,[1],oX 19 [17])]
def um:=eA 392 (.p2 (.int .i64) (.int .i64)) (.v dB) (dD pC) func392 [xP,sN,C5,ox,qv] [(2,[],oN [1,7,2,5,8,11,12,15,17,19,21,23]),(3,[],tv [0,1,2,3,5] (.two 4 12 (.two 6 12 (.rd 7 (.two 8 12 (oN [19,21,23,24,26,29]) (oN [16,19,21,23,26,29]))) (oN [12,15,16,19,21,23,26,29])) (oN [8,12,15,16,19,21,23,26,29])))]
def DM:=eA 287 (.p2 dB .bool) (.p2 (.v dB) .i) (dD lV) func287
def NF:=eA 432 (.p2 dB (.int .i64)) (.p2 (.v dB) .i) (dD uB) func432 [sN,xP,C5,Zi,ox,qv,DM]
def xQ:=eA 324 (.p1 dB) (.p2 .i .i) (gg qS) func324 [xP] [(2,[],oN [1,5,2,7])]
def Qv:=eA 360 (.p4 ez (.int .i64) (.int .i64) (.int .i64)) (.p2 .i .i) (QR xG) func360 [Aq,DH,um,NF,xQ] [] [jA 24]
def LC:=eA 422 (.p1 (.slc bd)) .b (gg xF) func422 [ND]
def Fb:=jI 182 [⟨232,[.i,.i,.v (.int .u64)]⟩] [.ptr 0,.v dB] [⟨232,[.i,.i,.v (.int .u64)]⟩] .unit (QR jN) func182 [Zi] [(1,[],oX 13 [7]),(2,[],oX 16 [10]),(3,[0],oN [1,3,5,9,11,13,15,17,19,6,21,23,25,26])]
def C6:=jI 183 [⟨232,[.i,.i,.v (.int .u64)]⟩] [.ptr 0] [⟨232,[.i,.i,.v (.int .u64)]⟩] (.p2 (.v dB) .i) (kx mm) func183 [DM] [(1,[1],oX 20 [15,18])]
def agK:=eA 394 (.p2 dB dB) (.p2 (.v dB) .i) (dD EP) func394 [Fb,xP,C6]
def Ar:=eA 388 (.p2 dB (.int .i64)) (.p2 .i .i) (dD p9) func388 [xQ]
def IX:=eA 327 (.p2 (.int .i64) (.int .i64)) (.p2 .i .i) (dD y7) func327 [xP,agK,Ar]
def Yf:=eA 361 (.p1 (.slc bd)) (.p2 (.own 106 bd) .i) (gg tp) func361 [LC,IX] [] [] [vC 5 4 1 13 [.dead,.own 106 bd]]
def qa:=eA 423 (.p1 (.slc bd)) (.own 106 bd) (gg fE) func423
def xR:=eA 353 (.p2 (.slc eX) bd) (.own 106 bd) (dD rN) func353 [qa] [] [] [vB 2 9]
def qw:=jI 473 [] [.v (.slc (.slc bd)),.fn 422 []] [] .i (gg ek) func473 [LC] [] [] [vB 2 8]
def pc:=jI 421 [] [.v (.slc (.slc bd)),.fn 422 []] [] .b (gg dF) func421 [qw]
def Yg:=eA 181 (.p2 (.slc bd) (.int .i64)) .i (dD EN) func181 [] [] [] [vB 2 9]
def B9:=eA 97 (.p1 (.slc dB)) (.p2 (.v dB) .i) (gg sF) func97 [Fb,C6] [] [] [(3,⟨[(9,.i)],[(1,[.i,.i,.t (.int .u64)])],[]⟩)]
def ke:=eA 319 (.p1 (.slc (.int .i64))) (.p2 .i .i) (gg jB) func319 [xP,B9,Ar] [] [] [vC 3 4 0 12 [.own 108 dB]]
def Px:=eA 352 (.p1 (.slc (.slc bd))) (.p2 (.own 106 bd) .i) (gg BD) func352 [pc,Yg,ke] [] [VK 6 4 3 [.dead,.dead,.dead,.own 106 bd]] [vC 5 4 3 5 [.dead,.dead,.dead,.own 106 bd],(9,⟨[(4,.row 3),(6,.row 5),(19,.i)],[],[.dead,.dead,.dead,.own 106 bd,.dead,.own 2 (.int .i64)]⟩)]
def aaz:=eA 426 (.p2 (.slc eX) bd) (.p2 .i .b) (dD yS) func426 [sb] [(5,[],oI 7)] [] [vB 2 10]
def V6:=eA 427 (.p1 (.slc eX)) (.own 104 eX) (gg vM) func427 [qa] [(5,[],oX 10 [5,7,8])] [] [vC 3 3 2 8 [.dead,.dead,.own 104 eX]]
def FV:=eA 358 (.p3 (.slc eX) bd (.slc bd)) (.p2 (.own 104 eX) .i) (kx nT) func358 [sM,xR,Px,aaz,V6,abV,abX] [] [(10,⟨[(8,.row 2),(12,.row 3)],[],[.dead,.dead,.own 106 bd,.own 104 eX]⟩),VK 12 12 3 [.dead,.dead,.dead,.own 104 eX]]
def Qy:=eA 354 (.p4 (.slc eX) bd bd (.slc bd)) (.p2 (.own 104 eX) .i) (QR rO) func354 [sM,Yf,FV]
def wy:=eA 395 (.p1 (.slc (.slc e7))) (.own 94 e7) (gg fT) func395 [avA] [] [] [(3,⟨[(3,.i),(11,.i)],[],[]⟩),vC 11 6 0 27 [.own 94 e7]]
def V7:=eA 396 (.p1 (.slc e7)) (.own 37 bd) (gg vV) func396 [afp] [] [(500022,⟨[(6,.row 3),(20,.ob 1),(22,.b)],[],[.dead,.obj .walk,.dead,.own 37 bd]⟩)] [(3,⟨[(3,.ob 0),(11,.i)],[],[.obj .set]⟩),(9,⟨[(6,.row 3),(20,.ob 1)],[],[.dead,.obj .walk,.dead,.own 37 bd]⟩)]
def Ru:=eA 397 (.p2 (.slc e7) bd) (.own 2 (.int .i64)) (dD rR) func397 [] [] [VK 7 5 1 [.dead,.own 2 (.int .i64)]] [vC 3 5 1 10 [.dead,.own 2 (.int .i64)]]
def C7:=eA 328 (.p2 (.slc e7) (.slc e7)) (.p2 (.own 94 e7) .i) (dD rS) func328 [sd,wy,V7,Ru,ke] [] [(13,⟨[(6,.row 1),(7,.row 5),(20,.row 2)],[],[.dead,.own 94 e7,.own 37 bd,.dead,.dead,.own 94 e7]⟩)] [(6,⟨[(6,.row 1),(7,.row 5),(20,.row 2),(22,.i)],[],[.dead,.own 94 e7,.own 37 bd,.dead,.dead,.own 94 e7]⟩)]
def sO:=eA 249 (.p4 (.slc e7) bd bd (.int .i64)) (.p2 (.own 94 e7) .i) (QR mb) func249 [IX,sd,C7] [] [jA 22]
def alt:=eA 315 (.p6 Pv ez bd bd (.int .i64) (.int .i64)) (.p2 (.v Pv) .i) (ank Hw) func315 [als,aay,Qv,Qy,sO]
def Gq:=jI 240 [cG] [.ptr 0,.v bd,.v bd,.v bd,.i] [cG] .i (λW x=>pI W (pd x ()) x.2.2.2.2.2.2.2.2.2.2.2.2.2.2.2.2.2.2.2.2.2.2.2.2.2.2.2.2.2.2.1 x.2.2.2.2.2.2.2.2.2.2.2.2.2.2.2.2.2.2.2.2.2.2.2.2.2.2.2.2.2.2.2.1 x.2.2.2.2.2.2.2.2.2.2.2.2.2.2.2.2.2.2.2.2.2.2.2.2.2.2.2.2.2.2.2.2.1 x.2.2.2.2.2.2.2.2.2.2.2.2.2.2.2.2.2.2.2.2.2.2.2.2.2.2.2.2.2.2.2.2.2.1) func240 [rr,alt] [(4,[],tv [0,1,2,3,4,5,6,7,8,9,10,11,12,13,14,15,16] (.two 17 21 (oN [37,39,41,42,44,47]) (oN [34,37,39,41,44,47]))),(6,[0],oX 14 [9,13])] [Gy 7 u6]
def Qz:=jI 203 [⟨3,[.i]⟩] [.v bJ,.ptr 0] [⟨3,[.i]⟩] .b (dD xg) func203
def mC:=jI 297 [⟨3,[.i]⟩] [.v (.slc bJ),.fn 203 [.ptr 0]] [⟨3,[.i]⟩] .i (dD cC) func297 [Qz] [] [] [uU 2 8 [.i]]
def lX:=jI 201 [⟨3,[.i]⟩] [.row 99 bJ,.fn 203 [.ptr 0]] [⟨3,[.i]⟩] (.own 99 bJ) (dD dd) func201 [mC,Qz,atN] [] [(6,⟨[(0,.row 0),(5,.i)],[(0,[.i])],[.own 99 bJ]⟩)] [(5,⟨[(0,.row 0),(5,.i),(6,.i)],[(0,[.i])],[.own 99 bJ]⟩)]
def Fc:=eA 134 (.p2 (.slc bJ) (.int .i64)) (.own 99 bJ) (dD vb) func134 [DL,lX]
def aa0:=eA 387 (.p2 ei (.int .i64)) (.own 37 bd) (dD yV) func387 [Fc,ov] [] [] [(3,⟨[(5,.row 2),(11,.row 0),(13,.i)],[],[.own 99 bJ,.dead,.own 37 bd]⟩)]
def Py:=eA 391 (.p1 (.int .i64)) (.p2 .i .i) (gg vo) func391 [IX]
def aew:=eA 442 (.p1 (.slc bd)) (.p2 .i .i) (gg BI) func442 [LC,Py,ke] [] [] [vC 5 4 1 13 [.dead,.own 2 (.int .i64)]]
def QA:=eA 386 (.p2 (.slc eX) (.slc bd)) (.p2 .i .i) (dD xI) func386 [sM,xR,aew,ke] [] [] [vC 5 6 2 16 [.dead,.dead,.own 2 (.int .i64)]]
def HW:=eA 316 (.p2 ei (.int .i64)) (.p2 .i .i) (dD uk) func316 [aa0,QA] [(1,[],oX 10 [4,5])]
def xS:=jI 241 [cG] [.ptr 0,.v (.slc bd)] [cG] .i (λW x=>lk W (pd x ()) x.2.2.2.2.2.2.2.2.2.2.2.2.2.2.2.2.2.2.2.2.2.2.2.2.2.2.2.2.2.2.1) func241 [qu,HW] [(5,[],oX 12 [6])] [] [uU 2 12 u6]
def NG:=jI 162 [cG] [.ptr 0] [cG] .i (λW x=>pJ W (pd x ())) func162 [iU,rr,Gq,xS] [(1,[0],tv [0,1,2,3,4,6,7,8,9] (.er 5 [5,11,12,13] (oN [20,22,24,27]))),(9,[0],tv [0,1,2,3,4,6,7,8,9,11,12,13,14,16,17,18,19,22,23,24,25] (.er 15 [15,21,27,28] (.er 20 [20,21,27,28] (.rd 21 (.er 5 [5,27,28] (.er 10 [10,27,28] (oN [52,54,57]))))))),(12,[0],tv [0,1,2,3,4,6,7,8,9] (.er 5 [5,11,12,13] (oN [20,22,24,27])))]
def agL:=eA 317 (.p3 (.slc fX) fX (.int .i64)) (.p3 (.own 181 fX) .i .i) (kx EW) func317 [] [(12,[],oN [1,3,5,7,9,11,13,19,14,16,21,23,25])] [vB 11 9,jA 17]
def C8:=jI 242 [cG] [.ptr 0,.v fX] [cG] .i (λW x=>mr W (pd x ()) x.2.2.2.2.2.2.2.2.2.2.2.2.2.2.2.2.2.2.2.2.2.2.2.2.2.2.2.2.2.2.1) func242 [agL] [(1,[],oX 19 [11])] [Gy 4 u6]
def Jk:=jI 163 [cG] [.ptr 0] [cG] .i (λW x=>mT W (pd x ())) func163 [iU,rr,C8] [(1,[0],tv [0,1,2,3,4,6,7,8,9] (.er 5 [5,11,12,13] (oN [20,22,24,27]))),(9,[0],tv [0,1,2,3,4,6,7,8,9,11,12,13,14,16,17,18,19,22,23,24,25] (.er 15 [15,21,27,28,29] (.er 20 [20,21,27,28,29] (.rd 21 (.er 5 [5,27,28,29] (.er 10 [10,27,28,29] (oN [52,55,56,59])))))))] [jA 64]
def wS:=eA 318 (.p1 (.slc fX)) (.own 181 fX) (gg gn) func318
def QB:=eA 243 (.p3 (.slc fX) (.int .i64) (.int .i64)) (.p2 (.own 181 fX) .i) (kx xL) func243 [Ye,wS] [] [jA 16]
def Jl:=jI 164 [cG] [.ptr 0] [cG] .i (λW x=>mU W (pd x ())) func164 [HT,iU,QB,Gq,xS] [(1,[],tv [0,1,2,3,4,5,6,7,8,9] (.two 10 14 (oN [23,25,27,28,30,33]) (oN [20,23,25,27,30,33]))),(7,[],oX 13 [7])]
def Ca:=eA 320 (.p1 (.int .i64)) .b (gg oU) func320
def nr:=eA 326 (.p1 (.slc ff)) (.own 179 ff) (gg eW) func326
def NH:=eA 321 (.p3 (.slc ff) (.int .i64) (.int .i64)) (.own 179 ff) (kx uJ) func321 [nr]
def aa1:=eA 244 (.p3 (.slc ff) (.int .i64) (.int .i64)) (.p2 (.own 179 ff) .i) (kx za) func244 [Ly,ke,Ca,NH] [] [jA 33]
def Fe:=jI 165 [cG] [.ptr 0,.i,.i] [cG] .i (λW x=>lm W (pd x ()) x.2.2.2.2.2.2.2.2.2.2.2.2.2.2.2.2.2.2.2.2.2.2.2.2.2.2.2.2.2.2.1 x.2.2.2.2.2.2.2.2.2.2.2.2.2.2.2.2.2.2.2.2.2.2.2.2.2.2.2.2.2.2.2.1) func165 [QB,HT,aa1] [(8,[],oX 16 [10])] [(11,⟨[],[(0,a1f)],[.own 181 fX]⟩)]
def V8:=eA 245 (.p1 (.slc (.int .i64))) (.own 371 bd) (gg we) func245 [] [(5,[],oX 14 [11,12])] [] [vC 3 3 1 4 [.dead,.own 371 bd]]
def V9:=eA 390 (.p1 bd) .b (gg wg) func390 [Ca]
def oy:=jI 443 [] [.v (.slc bd),.fn 390 []] [] .i (gg dw) func443 [V9] [] [] [vB 2 8]
def mY:=jI 389 [] [.v (.slc bd),.fn 390 []] [] .b (gg di) func389 [oy]
def aa2:=eA 322 (.p1 (.slc bd)) (.p3 .i (.v dB) .i) (gg ze) func322 [mY,Py,um,B9] [(8,[],oI 9),(17,[0],oX 5 [3])] [jA 24] [(6,⟨[(5,.i),(6,.row 1),(28,.i)],[],[.dead,.own 108 dB]⟩)]
def NI:=eA 467 (.p1 (.int .u64)) .i (gg pt) func467 [] [] [(4,⟨[(0,.t (.int .u64)),(2,.i)],[],[]⟩),(7,⟨[(0,.t (.int .u64)),(2,.i)],[],[]⟩),(10,⟨[(0,.t (.int .u64)),(2,.i)],[],[]⟩)]
def Cb:=eA 445 (.p1 (.int .u64)) .i (gg iI) func445 [NI]
def NJ:=eA 393 (.p3 (.int .u64) (.int .u64) (.int .u64)) (.p2 (.v (.int .u64)) (.v (.int .u64))) (kx j3) func393 [Cb] [(6,[],oI 8)] [(18,⟨[],[],[]⟩),(21,⟨[(15,.t (.int .u64))],[],[]⟩),(25,⟨[],[],[]⟩),(28,⟨[(18,.t (.int .u64))],[],[]⟩)] [(17,⟨[(15,.t (.int .u64)),(16,.t (.int .u64))],[],[]⟩),(24,⟨[(16,.t (.int .u64)),(18,.t (.int .u64))],[],[]⟩)]
def LD:=eA 323 (.p2 dB (.int .i64)) (.p3 (.v dB) .i .i) (dD sr) func323 [sN,NJ,ox,Zi,qv] [(6,[],oI 10),(12,[],tv [0,1] (.two 2 7 (.two 3 7 (oN [9,11,13,14,16,19]) (oN [6,9,11,13,16,19])) (oN [4,6,9,11,13,16,19])))] [(12,⟨[(10,.t (.int .u64))],[(3,[.t (.int .u64),.t (.int .u64)])],[]⟩),jA 53]
def Gr:=eA 246 (.p1 (.slc bd)) (.p4 .i .i .i .i) (gg pG) func246 [aa2,LD,xQ] [] [vB 8 6]
def DN:=eA 325 (.p1 (.slc (.int .i64))) (.p2 .i .i) (gg qg) func325 [um,xQ] [] [] [(3,⟨[(4,.i),(11,.i)],[],[]⟩)]
def aa3:=eA 247 (.p2 (.int .i64) (.slc bd)) (.p2 .i .i) (dD zf) func247 [Gr,DN] [] [vB 8 8,jA 21]
def aa4:=eA 248 (.p2 (.slc ff) ff) (.p3 (.own 179 ff) .i .i) (dD zb) func248 [Ca,nr] [(9,[],tv [0,2,5,6] (.two 1 3 (oN [6,8,15,17,19]) (oN [2,8,15,17,19])))] [Gy 9 a1g,jA 8]
def tV:=eA 250 .unit (.v bd) (λW x=>mX W) func250
def LF:=jI 166 [cG] [.ptr 0] [cG] .i (λW x=>nZ W (pd x ())) func166 [iU,rr,V8,Gr,aa3,aa4,tV,sO] [(14,[],oX 26 [18]),(17,[],oN [1,3,5,7,9,13,15,17,19,21,23,10,24,27,29,31,33,35])]
def V':=eA 251 (.p3 (.slc ff) (.int .i64) (.int .i64)) (.p2 (.own 179 ff) .i) (kx vZ) func251 [Ly,NH] [] [jA 20,jA 34]
def LG:=jI 167 [cG] [.ptr 0] [cG] .i (λW x=>nY W (pd x ())) func167 [Nz,iU,V',C8] [(1,[],tv [0,1,2,3,4,5,6,7,8,9] (.two 10 14 (oN [23,25,27,28,30,33]) (oN [20,23,25,27,30,33]))),(4,[0],oX 11 [7,8,9]),(7,[],oX 18 [12]),(11,[0],tv [0,1,2,3,4,5,6,8,9,10,11,12,13,16,17,18,19] (.er 14 [14,15,20,21,22] (oN [31,14,41,42,45])))]
def LH:=jI 92 [cG] [.ptr 0] [cG] .i (λW x=>n5 W (pd x ())) func92 [NG,Jk,Jl,Fe,LF,LG]
def aex:=eA 168 (.p3 (.slc ez) (.int .i64) (.int .i64)) (.p2 (.own 174 ez) .i) (kx BR) func168 [Pw,DH,DI]
def Ve:=eA 169 (.p3 (.slc dI) (.int .i64) (.int .i64)) (.p2 (.own 132 dI) .i) (kx tF) func169 [sK,HV,nq] [] [VK 13 10 0 [.own 132 dI]] [vC 8 10 0 27 [.own 132 dI]]
def agM:=eA 449 (.p2 (.slc ez) bd) (.p2 (.v dB) .i) (dD EM) func449 [zj,um,NF] [(4,[1],oN [1,3,5,7,9,11,13,17,19,14,20,23,25,26,29])]
def aey:=eA 398 (.p2 (.slc ez) (.slc bd)) (.p2 .i .i) (dD BH) func398 [ND,agM,B9,xQ] [] [] [vC 5 6 1 18 [.dead,.own 108 dB]]
def aa5:=eA 329 (.p2 (.slc ez) (.slc eX)) (.p2 (.own 94 e7) .i) (dD yU) func329 [sM,aey] [] [VK 12 6 1 [.dead,.own 94 e7]] [vC 5 6 1 16 [.dead,.own 94 e7]]
def Wa:=eA 252 (.p3 (.slc ez) (.slc eX) (.slc e7)) (.p2 (.own 94 e7) .i) (kx vQ) func252 [sd,aa5,C7]
def Wb:=eA 253 (.p1 (.slc ez)) (.own 174 ez) (gg vY) func253 [DI] [] [] [vC 3 3 0 9 [.own 174 ez]]
def Wc:=jI 331 [⟨3,[.i]⟩] [.v fX,.ptr 0] [⟨3,[.i]⟩] .b (dD Nt) func331
def FW:=jI 330 [⟨3,[.i]⟩] [.v (.slc fX),.fn 331 [.ptr 0]] [⟨3,[.i]⟩] (.own 3 (.int .i64)) (dD jX) func330 [Wc] [] [(7,⟨[(5,.row 1)],[(0,[.i])],[.dead,.own 3 (.int .i64)]⟩),(500021,⟨[(5,.row 1),(21,.b)],[(0,[.i])],[.dead,.own 3 (.int .i64)]⟩)] [(3,⟨[(5,.row 1),(10,.i)],[(0,[.i])],[.dead,.own 3 (.int .i64)]⟩)]
def aez:=eA 255 (.p2 (.slc fX) (.int .i64)) (.own 3 (.int .i64)) (dD BS) func255 [FW]
def C9:=jI 254 [cG] [.ptr 0,.v (.slc (.int .i64)),.i] [cG] .i (λW x=>mv W (pd x ()) x.2.2.2.2.2.2.2.2.2.2.2.2.2.2.2.2.2.2.2.2.2.2.2.2.2.2.2.2.2.2.1 x.2.2.2.2.2.2.2.2.2.2.2.2.2.2.2.2.2.2.2.2.2.2.2.2.2.2.2.2.2.2.2.1) func254 [Fe] [] [] [uU 2 12 u6]
def Pz:=jI 170 [cG] [.ptr 0] [cG] .i (λW x=>qK W (pd x ())) func170 [Wa,Wb,aez,C9] [(3,[],oN [1,3,5,7,9,11,13,15,17,19,25,20,23]),(6,[],oX 17 [11]),(14,[0],tv [0,1,2,3,4,6,7,8,9] (.er 5 [5,11,12,13] (oN [20,22,24,27])))] [] [(4,⟨[(23,.row 0),(25,.i)],[(0,u6)],[.own 30 (.slc eX)]⟩)]
def HX:=eA 256 .unit (.v bd) (λW x=>B4 W) func256
def zR:=jI 257 [cG] [.ptr 0] [cG] .i (λW x=>ka W (pd x ())) func257 [] [] [jA 24]
def Da:=jI 258 [cG] [.ptr 0,.i] [cG] .i (λW x=>mw W (pd x ()) x.2.2.2.2.2.2.2.2.2.2.2.2.2.2.2.2.2.2.2.2.2.2.2.2.2.2.2.2.2.2.1) func258 [C7] [(1,[],oX 19 [12,13])] [Gy 4 u6]
def Ff:=jI 260 [cG] [.ptr 0] [cG] (.v dI) (λW x=>gH W (pd x ())) func260 [] [(1,[1],oX 17 [16])]
def iV:=eA 402 (.p1 (.slc dI)) (.own 92 dI) (gg dg) func402
def qb:=eA 333 (.p2 (.slc fz) bd) (.own 92 dI) (dD j8) func333 [iV] [] [] [vB 2 9]
def NL:=eA 294 (.p1 dI) .b (gg uF) func294
def ae0:=eA 204 (.p1 (.slc (.int .i64))) .i (gg CV) func204 [] [] [] [vB 3 8]
def NM:=eA 295 (.p2 dI dI) .i (dD rT) func295 [JB,ae0] [(1,[],oN [1,3,5,7,11,13,15,17,8,18,20,22,25])]
def Fg:=eA 199 (.p1 (.slc dI)) .b (gg vW) func199 [NL,NM] [(4,[],.rd 0 (.op 1 (tv [2,3,4,5,6,7,8,9,10] (.two 11 12 (oN [24,26,29,31,33]) (oN [22,26,29,31,33])))))] [jA 28] [vB 2 7]
def HY:=eA 399 (.p2 (.slc dI) dI) .i (dD qO) func399 [Fg,NL]
def fY:=jI 400 [] [.v (.slc dI),.v dI,.fn 295 []] [] (.p2 .i .b) (dD bX) func400 [NM] [(5,[],oX 8 [6]),(8,[],oX 16 [11])] [] [(3,⟨[(9,.i),(10,.i)],[],[]⟩)]
def agN:=eA 332 (.p2 (.slc dI) dI) (.p2 (.own 92 dI) .i) (dD Ee) func332 [HY,fY,iV,abY,ke] [(8,[],tv [0,2,3] (.two 1 4 (oN [8,10,13,15]) (oN [2,10,13,15]))),(9,[],oX 14 [7,8])]
def AM:=eA 132 (.p1 (.slc fz)) .b (gg tE) func132 [Fg,sb] [(4,[],tv [0,1,2,3,4,5,6] (.op 7 (tv [8,9,10,11,12,13,14,15,16,17,18,20] (.two 19 21 (oN [42,44,47,49,51]) (oN [38,44,47,49,51])))))] [jA 37] [vB 2 7]
def Vf:=eA 403 (.p3 (.slc fz) bd (.slc dI)) (.own 96 fz) (kx sE) func403 [iV,sb] [(2,[],tv [0,1] (.two 2 4 (oN [7,8,10]) (oN [4,7,10]))),(10,[],oX 10 [5,7,8])] [(9,⟨[(7,.row 2),(9,.b)],[],[.dead,.dead,.own 96 fz]⟩),(13,⟨[(7,.row 2),(9,.b)],[],[.dead,.dead,.own 96 fz]⟩),VK 16 7 2 [.dead,.dead,.own 96 fz],(500032,⟨[(7,.row 2),(32,.b)],[],[.dead,.dead,.own 96 fz]⟩)] [(5,⟨[(7,.row 2),(9,.b),(21,.i)],[(1,[.i,.i,.t (.slc dI)])],[.dead,.dead,.own 96 fz]⟩)]
def DO:=eA 334 (.p4 (.slc fz) bd (.slc dI) (.int .i64)) (.p2 (.own 96 fz) .i) (QR lQ) func334 [AM,Vf]
def Vg:=eA 259 (.p3 (.slc fz) bd dI) (.p2 (.own 96 fz) .i) (kx qP) func259 [qb,agN,DO] [(1,[],oN [1,3,7,4,8,11,13,15,17,19])]
def HZ:=jI 171 [cG] [.ptr 0] [cG] .i (λW x=>lI W (pd x ())) func171 [HX,iU,zR,Da,sK,Ff,Vg] [(1,[],oX 7 [5]),(10,[],tv [0,1,2,3,4,5,6,7,8,9] (.two 10 14 (oN [23,25,27,28,30,33]) (oN [20,23,25,27,30,33]))),(13,[0],tv [0,1,2,3,5,6,7,8,10] (.three 4 9 11 (.two 9 11 (oN [22,24,27,29,31,33,35]) (oN [18,24,27,29,31,33,35])) (.two 4 11 (oN [22,24,27,29,31,33,35]) (oN [8,24,27,29,31,33,35])) (.two 4 9 (oN [18,24,27,29,31,33,35]) (oN [8,24,27,29,31,33,35]))))] [Gy 5 u6,(11,⟨[(6,.b)],[],[]⟩),(14,⟨[(7,.row 0),(8,.i)],[(0,u6)],[.own 96 fz]⟩),Gy 16 u6]
def mg:=eA 82 (.p2 (.slc e7) bd) .i (dD jC) func82 [] [] [] [vB 2 9]
def ae1:=eA 404 (.p2 (.slc dI) dI) (.p2 (.own 92 dI) .i) (dD AW) func404 [HY,fY,iV,abU] [(5,[],oI 12),(8,[],oN [1,3,5,7,11,13,8,15,17,19,20])] [VK 11 9 0 [.own 92 dI],jA 33]
def QC:=eA 335 (.p3 (.slc fz) bd dI) (.p2 (.own 96 fz) .i) (kx oK) func335 [qb,ae1,DO] [(1,[],oN [1,3,7,4,8,11,13,15,17,19])]
def LI:=jI 261 [cG] [.ptr 0] [cG] .i (λW x=>oa W (pd x ())) func261 [mg,Da,Ff,QC] [(2,[],oN [1,3,5,7,9,11,13,15,17,19,23,25,27,29,31,20,33]),(5,[0],tv [0,1,2,3,5,6,7,8,10] (.three 4 9 11 (.two 9 11 (oN [22,24,27,29,31,33,35]) (oN [18,24,27,29,31,33,35])) (.two 4 11 (oN [22,24,27,29,31,33,35]) (oN [8,24,27,29,31,33,35])) (.two 4 9 (oN [18,24,27,29,31,33,35]) (oN [8,24,27,29,31,33,35]))))] [(6,⟨[(3,.row 0),(4,.i)],[(0,u6)],[.own 96 fz]⟩),Gy 8 u6]
def NN:=eA 336 (.p1 bJ) (.v bd) (gg C0) func336
def ae2:=eA 262 (.p2 bJ bd) (.p2 (.v bd) .b) (dD BZ) func262 [B7,NN]
def wz:=jI 264 [cG] [.ptr 0] [cG] (.v FM) (λW x=>mz W (pd x ())) func264 [] [(1,[1],oX 27 [26])]
def LJ:=eA 337 (.p1 FM) .b (gg nW) func337 [sM,sd,AM]
def FX:=eA 405 (.p1 bJ) (.own 37 bd) (gg rV) func405 [NN,ov]
def NO:=eA 339 (.p2 bJ bd) (.own 37 bd) (dD uK) func339 [FX,jl,ov] [(1,[],oN [1,5,2,6,9,11])]
def agO:=eA 406 (.p2 (.slc eX) (.slc bd)) (.p2 (.own 106 bd) .i) (dD E1) func406 [sM,xR,Px] [] [] [vC 5 6 2 14 [.dead,.dead,.own 102 (.slc bd)]]
def aa6:=eA 511 (.p3 ez (.int .i64) (.int .i64)) (.v dB) (kx zg) func511 [Aq,DN,um] [(3,[],oX 14 [7,8])] [jA 22]
def agP:=eA 184 (.p1 dB) (.p2 (.v dB) .i) (gg EY) func184 [sN,ox,qv,DM] [(1,[1],oN [1,5,2,6,9,10,13,15,16,19,21,22,25])]
def ae3:=eA 488 (.p3 (.slc ez) (.slc bd) (.int .i64)) (.p2 (.v dB) .i) (kx BX) func488 [ND,zj,aa6,B9,agP] [] [] [vC 5 8 1 23 [.dead,.own 108 dB]]
def We:=eA 453 (.p2 (.slc ez) (.slc bd)) (.p2 (.own 108 dB) .i) (dD wj) func453 [ae3] [] [] [vC 3 6 1 10 [.dead,.own 108 dB]]
def aa7:=eA 299 (.p1 (.int .i64)) .b (gg C1) func299
def Vh:=eA 205 (.p2 (.int .i64) (.int .i64)) .i (dD tG) func205 [aa7]
def aa8:=eA 300 (.p1 (.int .u64)) .b (gg C2) func300
def Vi:=eA 206 (.p2 (.int .u64) (.int .u64)) .i (dD tH) func206 [aa8]
def agQ:=eA 138 (.p2 dB dB) .i (dD EZ) func138 [Vh,Vi,ae0] [(1,[],oN [1,3,5,7,11,13,15,17,8,18,20,22,25])]
def aa9:=eA 454 (.p1 (.slc dB)) (.p2 (.v dB) .i) (gg zh) func454 [agQ] [] [(7,⟨[(5,.i)],[(1,[.i,.t (.int .u64)])],[]⟩)] [(3,⟨[(5,.i),(11,.i)],[(1,[.i,.t (.int .u64)])],[]⟩)]
def Wf:=eA 407 (.p2 (.slc ez) (.slc bd)) (.p2 .i .i) (dD wk) func407 [We,aa9,xQ]
def Yh:=eA 338 (.p4 (.slc ez) (.slc eX) bJ bd) (.p2 .i .i) (QR E3) func338 [sM,FX,jl,NO,agO,Wf] [(3,[],oN [1,5,2,6,9,11])]
def DP:=eA 455 (.p2 dI (.int .i64)) (.p2 .i .i) (dD qh) func455 [yo,DN]
def QE:=eA 456 (.p3 (.int .i64) (.int .i64) (.int .i64)) (.p3 .i .i .i) (kx rF) func456 [um,LD,Ar]
def Wg:=eA 409 (.p2 dI (.int .i64)) (.p2 .i .i) (dD wm) func409 [DP,yo,QE] [] [jA 22]
def Cc:=jI 408 [] [.v (.slc dI),.v (.slc dI),.fn 409 []] [] (.p2 (.own 2 (.int .i64)) .i) (dD iP) func408 [Fg,sK,Wg] [] [] [vC 5 8 1 20 [.dead,.own 2 (.int .i64)]]
def Wi:=eA 340 (.p3 (.slc dI) (.slc dI) (.int .i64)) (.p2 .i .i) (kx wo) func340 [Cc,ke]
def Cd:=eA 263 (.p3 FM bJ bd) (.p2 .i .i) (kx mc) func263 [LJ,Yh,NO,qb,mg,Wi,ke] [(10,[],oN [1,3,5,7,9,13,15,17,10,18,20,23,25,27,29,31])] [] [(8,⟨[(10,.row 0),(36,.row 1),(38,.i)],[],[.own 2 (.int .i64),.own 37 bd]⟩)]
def GD:=jI 172 [cG] [.ptr 0] [cG] .i (λW x=>kE W (pd x ())) func172 [iU,zR,LI,rY,ae2,wz,Cd] [(10,[],tv [0,1,2,3,4,5,6,7,8,9,10] (.two 11 15 (oN [25,27,29,30,32,35]) (oN [22,25,27,29,32,35]))),(11,[],tv [0,1,2,3,4,5] (.two 6 10 (oN [15,17,19,20,22,25]) (oN [12,15,17,19,22,25]))),(12,[0],oN [1,5,7,2,8,11,13,15,17,19])] [vB 15 11,jA 71]
def LL:=jI 93 [cG] [.ptr 0] [cG] .i (λW x=>nO W (pd x ())) func93 [aex,Ve,Pz,HZ,GD] [(4,[0],tv [0,1,2,3,4,6,7,8,9,11,12,13,14] (.er 5 [5,16,17,18,19,20,21,22,23,24] (.er 10 [10,16,17,18,19,20,21,22,23,24] (oN [30,32,35,37,39,41,43,45,46,49])))),(6,[0],tv [0,1,2,3,4,6,7,8,9,11,12,13,14] (.er 5 [5,16,17,18,19,20,21,22,23,24] (.er 10 [10,16,17,18,19,20,21,22,23,24] (oN [30,32,35,37,39,41,43,45,46,49]))))] [uU 13 3 u6]
def Jm:=jI 265 [cG] [.ptr 0,.v bd] [cG] .i (λW x=>kc W (pd x ()) x.2.2.2.2.2.2.2.2.2.2.2.2.2.2.2.2.2.2.2.2.2.2.2.2.2.2.2.2.2.2.1) func265 [qM,rY] [(4,[],tv [0,1,2,3,4,5,6] (.two 7 11 (oN [17,19,21,22,24,27]) (oN [14,17,19,21,24,27])))]
def Vj:=eA 124 (.p1 (.slc dj)) .b (gg AK) func124 [sb] [(4,[],oX 21 [17])] [jA 32] [vB 2 7]
def mh:=eA 346 (.p1 (.slc dj)) (.own 177 dj) (gg eC) func346
def H2:=jI 411 [⟨37,[.i,.i]⟩] [.v dj,.ptr 0] [⟨37,[.i,.i]⟩] .b (kx ym) func411
def lY:=jI 342 [⟨37,[.i,.i]⟩] [.v (.slc dj),.fn 411 [.ptr 0]] [⟨37,[.i,.i]⟩] .i (kx de) func342 [H2] [] [] [uU 2 8 [.i,.i]]
def lK:=jI 410 [⟨37,[.i,.i]⟩] [.row 177 dj,.fn 411 [.ptr 0]] [⟨37,[.i,.i]⟩] (.own 177 dj) (kx da) func410 [lY,H2,atN] [] [(6,⟨[(0,.row 0),(5,.i)],[(0,[.i,.i])],[.own 177 dj]⟩)] [(5,⟨[(0,.row 0),(5,.i),(6,.i)],[(0,[.i,.i])],[.own 177 dj]⟩)]
def NP:=eA 341 (.p2 (.slc dj) bd) (.own 177 dj) (dD uE) func341 [mh,lK]
def Rv:=jI 343 [⟨37,[.i,.i]⟩] [.v dj,.ptr 0] [⟨37,[.i,.i]⟩] .b (kx B5) func343 [sb]
def lL:=jI 342 [⟨37,[.i,.i]⟩] [.v (.slc dj),.fn 343 [.ptr 0]] [⟨37,[.i,.i]⟩] .i (kx db) func342 [Rv] [] [] [uU 2 8 [.i,.i]]
def Wj:=eA 267 (.p3 (.slc dj) bd bd) (.p2 (.own 177 dj) .i) (kx wb) func267 [Vj,NP,lL,Tb] [] [vC 9 8 0 9 [.own 177 dj]]
def LM:=jI 173 [cG] [.ptr 0] [cG] .i (λW x=>oe W (pd x ())) func173 [Jm,qu,Wj] [(9,[],oX 21 [15])] [Gy 12 u6]
def aaA:=jI 414 [⟨37,[.i,.i]⟩] [.v dj,.ptr 0] [⟨37,[.i,.i]⟩] .b (kx HN) func414
def mZ:=jI 342 [⟨37,[.i,.i]⟩] [.v (.slc dj),.fn 414 [.ptr 0]] [⟨37,[.i,.i]⟩] .i (kx cj) func342 [aaA] [] [] [uU 2 8 [.i,.i]]
def Vk:=eA 345 (.p2 (.slc dj) bd) .i (dD uD) func345 [mZ]
def Wk:=eA 268 (.p3 (.slc dj) bd bd) (.p2 (.own 177 dj) .i) (kx wc) func268 [Vk,Vj,mh] [(6,[],oI 8)]
def H3:=jI 174 [cG] [.ptr 0] [cG] .i (λW x=>lJ W (pd x ())) func174 [iU,Wk] [(4,[],oX 21 [15])] [Gy 7 u6]
def FY:=eA 347 (.p3 cE (.int .i64) (.int .i64)) (.p2 (.v cE) .i) (kx rU) func347 [B8] [] [jA 8]
def aaB:=eA 269 (.p3 cE (.int .i64) (.int .i64)) (.p2 (.v cE) .i) (kx zc) func269 [FY] [] [Gy 6 [.i,.i,.i,.i],jA 14]
def wA:=jI 270 [cG] [.ptr 0,.v cE] [cG] .i (λW x=>j9 W (pd x ()) x.2.2.2.2.2.2.2.2.2.2.2.2.2.2.2.2.2.2.2.2.2.2.2.2.2.2.2.2.2.2.1) func270 [NC] [(1,[],oX 12 [6])] [Gy 4 u6]
def ae4:=jI 415 [⟨37,[.i,.i]⟩] [.v fX,.ptr 0] [⟨37,[.i,.i]⟩] .b (kx BU) func415
def H4:=jI 330 [⟨37,[.i,.i]⟩] [.v (.slc fX),.fn 415 [.ptr 0]] [⟨37,[.i,.i]⟩] (.own 3 (.int .i64)) (kx lF) func330 [ae4] [] [(7,⟨[(5,.row 1)],[(0,[.i,.i])],[.dead,.own 3 (.int .i64)]⟩),(500021,⟨[(5,.row 1),(21,.b)],[(0,[.i,.i])],[.dead,.own 3 (.int .i64)]⟩)] [(3,⟨[(5,.row 1),(10,.i)],[(0,[.i,.i])],[.dead,.own 3 (.int .i64)]⟩)]
def alu:=eA 348 (.p2 (.slc fX) bd) (.own 3 (.int .i64)) (dD HE) func348 [H4]
def JD:=eA 468 (.p2 ei bd) (.p2 (.v bJ) .i) (dD sD) func468 [rY,B7] [] [jA 16]
def aaC:=eA 495 (.p2 cE (.int .i64)) .i (dD yY) func495 [] [] [jA 13]
def aaD:=eA 469 (.p2 cE (.int .i64)) .i (dD yX) func469 [aaC]
def Wl:=eA 418 (.p2 ei bd) .i (dD vU) func418 [JD,oV,aaD]
def aaE:=eA 470 (.p2 (.slc dj) bd) (.p2 (.v dj) .b) (dD yW) func470 [Vk]
def Wm:=eA 419 (.p2 (.slc dj) bd) (.p2 (.v bd) .i) (dD vR) func419 [aaE]
def aaF:=eA 471 (.p2 ei bd) .b (dD yZ) func471 [xR,mg,qb]
def QF:=eA 496 (.p2 (.int .i64) (.slc (.int .i64))) .i (dD rQ) func496 [] [] [] [(2,⟨[(0,.i),(9,.i)],[],[]⟩)]
def Wn:=eA 472 (.p3 cE (.int .i64) (.int .i64)) .i (kx vS) func472 [QF,ke] [] [jA 28]
def aaG:=eA 420 (.p3 ei bd bd) .i (kx y5) func420 [JD,oV,sJ,aaF,QA,HW,Wn] [] [jA 30]
def agR:=eA 351 (.p2 ei bd) (.p2 (.v bd) .i) (dD EO) func351 [Wl,Wm,aaG]
def ae5:=eA 355 (.p3 (.slc fz) bd bd) (.p2 (.own 96 fz) .i) (kx BM) func355 [AM,qb,Vf] [(8,[],oN [1,3,7,9,4,10,13,15])]
def ae6:=eA 272 (.p2 ei bd) (.p3 (.v ei) (.v bd) .i) (dD xJ) func272 [agR,xR,Px,Qy,mg,sO,ae5,NP] [(8,[0],tv [0,2,3,4,6] (.er 5 [5,7,8,9,10,11,12,13,14] (.two 1 7 (oN [14,16,19,21,23,25,26,29]) (oN [2,16,19,21,23,25,26,29])))),(14,[2,3],oX 5 [2,3])] [uU 7 8 E8,uU 9 8 E8,uU 11 8 E8]
def NQ:=jI 176 [cG] [.ptr 0] [cG] .i (λW x=>pN W (pd x ())) func176 [ae6] [(1,[],tv [0,1,2,3,4,5,6,7,8] (.three 9 14 15 (tv [10,11,12,13] (.two 14 15 (oN [30,32,34,37]) (oN [28,32,34,37]))) (.two 9 15 (oN [21,23,25,27,30,32,34,37]) (oN [18,21,23,25,27,32,34,37])) (.two 9 14 (oN [21,23,25,27,28,32,34,37]) (oN [18,21,23,25,27,32,34,37])))),(3,[0],tv [0,1,2,3,4,5,6,8,9] (.two 7 10 (oN [20,23,25,27,28]) (oN [14,23,25,27,28])))] [Gy 4 u6]
def aaH:=eA 273 (.p2 cE (.int .i64)) (.p2 (.v cE) .i) (dD zd) func273 [FY]
def NR:=eA 356 (.p1 ei) .b (gg uq) func356 [sM]
def Wo:=jI 425 [⟨37,[.i,.i]⟩] [.v bJ,.ptr 0] [⟨37,[.i,.i]⟩] .b (kx vf) func425 [B7]
def lM:=jI 297 [⟨37,[.i,.i]⟩] [.v (.slc bJ),.fn 425 [.ptr 0]] [⟨37,[.i,.i]⟩] .i (kx cX) func297 [Wo] [] [] [uU 2 8 [.i,.i]]
def kK:=jI 424 [⟨37,[.i,.i]⟩] [.v (.slc bJ),.fn 425 [.ptr 0]] [⟨37,[.i,.i]⟩] .b (kx cR) func424 [lM]
def QG:=eA 357 (.p3 ei (.int .i64) bd) .b (kx xh) func357 [Fc,kK]
def aaI:=eA 274 (.p2 ei (.int .i64)) (.p2 (.v ei) .i) (dD yt) func274 [NR,QG,FV] [] [(13,⟨[(6,.row 1)],[(0,E8)],[.dead,.own 104 eX]⟩)] [(5,⟨[(6,.row 1),(18,.i)],[(0,E8)],[.dead,.own 104 eX]⟩)]
def FZ:=jI 177 [cG] [.ptr 0] [cG] .i (λW x=>jY W (pd x ())) func177 [jJ,aaH,wA,aaI] [(3,[1],oN [3,5,7,9,11,0,12,15,17,19,20,23]),(8,[],tv [0,1,2,3,4,5] (.two 6 10 (oN [15,17,19,20,22,25]) (oN [12,15,17,19,22,25])))] [(4,⟨[(4,.i)],[(1,[.i,.i,.i,.i])],[]⟩),uU 6 4 u6,Gy 11 u6]
def agS:=eA 430 (.p2 (.int .i64) (.int .i64)) .b (dD D1) func430
def aaJ:=eA 431 (.p2 ei bd) .i (dD yw) func431 [rY,B7,oV,sJ] [] [jA 16]
def aaK:=eA 359 (.p6 ei bd bd (.int .i64) (.int .i64) (.int .i64)) .i (ank yx) func359 [zj,NR,sd,xR,Yg,agS,aaJ] [] [jA 22,jA 35]
def ae7:=eA 276 (.p6 ei bd bd (.int .i64) (.int .i64) (.int .i64)) (.p2 (.v ei) .i) (ank AQ) func276 [aaK,zj,Qv,Yf,FV,sO] [] [(12,⟨[(18,.i),(19,.row 0)],[(0,E8)],[.own 106 bd]⟩),uU 14 18 E8,uU 16 18 E8]
def NS:=jI 178 [cG] [.ptr 0] [cG] .i (λW x=>j4 W (pd x ())) func178 [qM,qu,ae7,xS] [(6,[],tv [0,1,2,3,4,5,6,7,8,9,10,11,12,13,14,15,16,17,18,19,20,21,22,23,24,25,26,27,28] (.two 29 33 (oN [61,63,65,66,68,71]) (oN [58,61,63,65,68,71])))]
def Wp:=eA 277 (.p2 cE (.int .i64)) (.p2 (.v cE) .i) (dD wa) func277 [FY]
def ae8:=eA 278 (.p2 ei (.int .i64)) (.own 104 eX) (dD AO) func278 [QG] [] [VK 7 5 1 [.dead,.own 104 eX]] [vC 3 5 1 11 [.dead,.own 104 eX]]
def aaL:=eA 362 (.p1 (.slc bJ)) (.p2 (.own 37 bd) (.own 37 bd)) (gg zi) func362 [ov] [] [(7,⟨[(2,.row 1),(3,.row 3)],[],[.dead,.own 37 bd,.dead,.own 37 bd]⟩)] [(2,⟨[(2,.row 1),(3,.row 3),(8,.i)],[],[.dead,.own 37 bd,.dead,.own 37 bd]⟩)]
def H5:=eA 476 (.p2 ei bd) (.p2 .i .i) (dD rG) func476 [mg,Py]
def aqx:=eA 522 (.p3 (.int .i64) (.int .i64) (.int .i64)) (.p2 .i .i) (kx Me) func522 [um,LD,xP,B9,Ar] [(3,[0],.two 0 1 (oN [2,4,6,9,11,13,14,17]) (oN [0,4,6,9,11,13,14,17]))] [uU 4 10 [.i,.t (.int .u64)],jA 25]
def aaM:=eA 514 (.p2 dI (.int .i64)) (.p2 .i .i) (dD yB) func514 [yo,aqx]
def ae9:=eA 515 (.p5 (.slc fz) bd bd dI (.int .i64)) (.p2 (.own 96 fz) .i) (λW x=>AX W x.1 x.2.1 x.2.2.1 x.2.2.2.1 x.2.2.2.2.1) func515 [AM,QC,Vg]
def aeA:=eA 498 (.p4 ei bd dI (.int .i64)) (.p2 (.v ei) .i) (QR AY) func498 [sK,aaM,DP,tV,ae9,sO] [(12,[0],tv [0,2,4] (.two 1 3 (oN [6,10,13,15,17,19,20,23]) (oN [2,10,13,15,17,19,20,23]))),(14,[0],tv [0,3,4] (.two 1 2 (oN [4,10,13,15,17,19,20,23]) (oN [2,10,13,15,17,19,20,23])))] [uU 13 13 E8,uU 15 13 E8]
def QH:=eA 477 (.p3 ei bd (.int .i64)) (.p2 (.v ei) .i) (kx xo) func477 [sd,AM,tV,qb,mg,IX,aeA] [(3,[],oX 4 [1])] [(11,⟨[(11,.i),(32,.row 0)],[(0,E8)],[.own 92 dI]⟩),jA 12,(500052,⟨[(32,.row 0),(52,.b)],[],[.own 92 dI]⟩)] [(6,⟨[(32,.row 0),(34,.i)],[(0,E8)],[.own 92 dI]⟩)]
def agT:=eA 434 (.p2 ei bd) (.p3 (.v ei) (.own 144 gW) .i) (dD Eh) func434 [H5,QH] [(10,[2],tv [0,1,2,3,4,5,6] (.two 7 8 (oN [16,19,21]) (oN [14,19,21])))]
def zI:=jI 433 [⟨416,[.i,.v (.slc cE),.v (.slc ez),.v (.slc dI),.v (.slc bJ),.v (.slc dj),.v (.slc ff),.v (.slc fX),.v (.slc eX),.v (.slc eX),.v (.slc e7),.v (.slc fz),.row 144 gW,.i]⟩] [.ptr 0,.v ei,.v (.slc gW),.i] [⟨416,[.i,.v (.slc cE),.v (.slc ez),.v (.slc dI),.v (.slc bJ),.v (.slc dj),.v (.slc ff),.v (.slc fX),.v (.slc eX),.v (.slc eX),.v (.slc e7),.v (.slc fz),.row 144 gW,.i]⟩] .unit (λW x=>mW W x.1 x.2.1 x.2.2.1 x.2.2.2.1 x.2.2.2.2.1 x.2.2.2.2.2.1 x.2.2.2.2.2.2.1 x.2.2.2.2.2.2.2.1 x.2.2.2.2.2.2.2.2.1 x.2.2.2.2.2.2.2.2.2.1 x.2.2.2.2.2.2.2.2.2.2.1 x.2.2.2.2.2.2.2.2.2.2.2.1 x.2.2.2.2.2.2.2.2.2.2.2.2.1 x.2.2.2.2.2.2.2.2.2.2.2.2.2.1 x.2.2.2.2.2.2.2.2.2.2.2.2.2.2.1 x.2.2.2.2.2.2.2.2.2.2.2.2.2.2.2.1 x.2.2.2.2.2.2.2.2.2.2.2.2.2.2.2.2.1) func433 [] [(3,[0],oN [1,3,5,7,9,11,15,12,16,19,21,22,25,27,28])]
def Vl:=jI 363 [⟨416,[.i,.v (.slc cE),.v (.slc ez),.v (.slc dI),.v (.slc bJ),.v (.slc dj),.v (.slc ff),.v (.slc fX),.v (.slc eX),.v (.slc eX),.v (.slc e7),.v (.slc fz),.row 144 gW,.i]⟩] [.ptr 0,.v (.slc bd)] [⟨416,[.i,.v (.slc cE),.v (.slc ez),.v (.slc dI),.v (.slc bJ),.v (.slc dj),.v (.slc ff),.v (.slc fX),.v (.slc eX),.v (.slc eX),.v (.slc e7),.v (.slc fz),.row 144 gW,.i]⟩] .unit (λW x=>tI W x.1 x.2.1 x.2.2.1 x.2.2.2.1 x.2.2.2.2.1 x.2.2.2.2.2.1 x.2.2.2.2.2.2.1 x.2.2.2.2.2.2.2.1 x.2.2.2.2.2.2.2.2.1 x.2.2.2.2.2.2.2.2.2.1 x.2.2.2.2.2.2.2.2.2.2.1 x.2.2.2.2.2.2.2.2.2.2.2.1 x.2.2.2.2.2.2.2.2.2.2.2.2.1 x.2.2.2.2.2.2.2.2.2.2.2.2.2.1 x.2.2.2.2.2.2.2.2.2.2.2.2.2.2.1) func363 [agT,zI] [(4,[0],oN [1,3,5,7,11,8,12,15,17,19,20])] [(5,⟨[],[(0,[.i,.t (.slc cE),.t (.slc ez),.t (.slc dI),.t (.slc bJ),.t (.slc dj),.t (.slc ff),.t (.slc fX),.t (.slc eX),.t (.slc eX),.t (.slc e7),.t (.slc fz),.row 0,.i])],[.own 144 gW]⟩)] [(1,⟨[(8,.i)],[(0,[.i,.t (.slc cE),.t (.slc ez),.t (.slc dI),.t (.slc bJ),.t (.slc dj),.t (.slc ff),.t (.slc fX),.t (.slc eX),.t (.slc eX),.t (.slc e7),.t (.slc fz),.row 0,.i])],[.own 144 gW]⟩)]
def GF:=jI 478 [] [.v ei,.v (.slc bd),.fn 476 []] [] (.p3 (.own 2 (.int .i64)) .i .i) (dD kI) func478 [H5,ke] [] [] [vC 3 9 1 18 [.dead,.own 2 (.int .i64)]]
def Ce:=jI 408 [] [.v (.slc dI),.v (.slc dI),.fn 455 []] [] (.p2 (.own 2 (.int .i64)) .i) (dD iJ) func408 [Fg,sK,DP] [] [] [vC 5 8 1 20 [.dead,.own 2 (.int .i64)]]
def Wq:=eA 501 (.p2 (.slc dI) (.slc dI)) (.p2 .i .i) (dD vn) func501 [Ce,ke]
def QI:=eA 483 (.p2 ei bd) (.p2 .i .i) (dD xm) func483 [qb,Wq,mg,ke] [(1,[],oX 12 [5,6])]
def aeB:=eA 479 (.p2 ei bd) (.p2 .i .i) (dD B3) func479 [QI,mg] [] [vB 4 6]
def GG:=jI 478 [] [.v ei,.v (.slc bd),.fn 479 []] [] (.p3 (.own 2 (.int .i64)) .i .i) (dD kJ) func478 [aeB,ke] [] [] [vC 3 9 1 18 [.dead,.own 2 (.int .i64)]]
def Yi:=eA 480 (.p1 (.slc (.int .i64))) .i (gg Ef) func480 [] [] [] [vB 3 8]
def JE:=eA 499 (.p2 (.int .i64) (.slc (.int .i64))) .b (dD sH) func499 [QF]
def Vm:=eA 516 (.p3 (.int .i64) (.int .i64) (.slc (.int .i64))) (.p2 (.own 550 dI) .i) (kx tJ) func516 [QE] [] [] [(4,⟨[(8,.row 0),(9,.i),(20,.i)],[],[.own 550 dI]⟩)]
def Ws:=eA 500 (.p2 (.int .i64) (.slc (.int .i64))) (.p2 (.own 2 (.int .i64)) .i) (dD wt) func500 [JE,ke,Vm,acg] [] [] [(13,⟨[(8,.row 0),(9,.row 1),(45,.row 1),(47,.i)],[],[.own 2 (.int .i64),.own 550 dI]⟩),vC 19 8 0 66 [.own 2 (.int .i64)]]
def aaN:=eA 481 (.p2 (.int .i64) (.slc (.int .i64))) (.p2 (.own 2 (.int .i64)) .i) (dD uL) func481 [JE,ke,Ws]
def QJ:=eA 482 (.p4 ei bd bd (.int .i64)) (.p3 (.v ei) (.own 144 gW) .i) (QR xq) func482 [QH,sO] [(8,[3],tv [0,1,2,3,4] (.two 5 6 (oN [12,15,17]) (oN [10,15,17])))] [uU 6 11 E8]
def Wt:=eA 435 (.p2 ei (.slc bd)) (.p3 (.v ei) (.own 144 gW) .i) (dD wq) func435 [GF,GG,Yi,aaN,QJ] [(10,[],tv [0,1,2,4,5,6] (.er 3 [3,8,9] (oN [14,17,19]))),(11,[],tv [0,1,2,3,4,5,6,7,8,9] (.two 10 15 (oN [23,25,27,29,30,32,35,37]) (oN [20,23,25,27,29,32,35,37]))),(14,[0],oX 6 [3,4]),(15,[],tv [0,1,2,3,4,5,6,8,10,11,12,14] (.two 7 13 (oN [19,26,31,33,34,37,38]) (oN [31,14,19,33,34,37,38])))] [(16,⟨[(13,.row 2),(15,.row 3),(17,.row 5)],[],[.dead,.dead,.own 2 (.int .i64),.own 2 (.int .i64),.dead,.own 144 gW]⟩),(19,⟨[(17,.row 5)],[(0,E8)],[.dead,.dead,.dead,.dead,.dead,.own 144 gW]⟩),(500043,⟨[(7,.row 0),(10,.row 1),(43,.b)],[],[.own 2 (.int .i64),.own 2 (.int .i64)]⟩)] [(9,⟨[(13,.row 2),(15,.row 3),(17,.row 5),(18,.i),(19,.i)],[(0,E8)],[.dead,.dead,.own 2 (.int .i64),.own 2 (.int .i64),.dead,.own 144 gW]⟩)]
def NT:=jI 364 [⟨416,[.i,.v (.slc cE),.v (.slc ez),.v (.slc dI),.v (.slc bJ),.v (.slc dj),.v (.slc ff),.v (.slc fX),.v (.slc eX),.v (.slc eX),.v (.slc e7),.v (.slc fz),.row 144 gW,.i]⟩] [.ptr 0,.v (.slc bJ)] [⟨416,[.i,.v (.slc cE),.v (.slc ez),.v (.slc dI),.v (.slc bJ),.v (.slc dj),.v (.slc ff),.v (.slc fX),.v (.slc eX),.v (.slc eX),.v (.slc e7),.v (.slc fz),.row 144 gW,.i]⟩] .unit (λW x=>pO W x.1 x.2.1 x.2.2.1 x.2.2.2.1 x.2.2.2.2.1 x.2.2.2.2.2.1 x.2.2.2.2.2.2.1 x.2.2.2.2.2.2.2.1 x.2.2.2.2.2.2.2.2.1 x.2.2.2.2.2.2.2.2.2.1 x.2.2.2.2.2.2.2.2.2.2.1 x.2.2.2.2.2.2.2.2.2.2.2.1 x.2.2.2.2.2.2.2.2.2.2.2.2.1 x.2.2.2.2.2.2.2.2.2.2.2.2.2.1 x.2.2.2.2.2.2.2.2.2.2.2.2.2.2.1) func364 [ov,Wt,zI] [(4,[0],tv [0,1,2,3,5] (.two 4 6 (oN [12,14,17,19,21,22]) (oN [8,14,17,19,21,22])))] [(5,⟨[],[(0,[.i,.t (.slc cE),.t (.slc ez),.t (.slc dI),.t (.slc bJ),.t (.slc dj),.t (.slc ff),.t (.slc fX),.t (.slc eX),.t (.slc eX),.t (.slc e7),.t (.slc fz),.row 0,.i])],[.own 144 gW]⟩),(500021,⟨[(21,.b)],[(0,[.i,.t (.slc cE),.t (.slc ez),.t (.slc dI),.t (.slc bJ),.t (.slc dj),.t (.slc ff),.t (.slc fX),.t (.slc eX),.t (.slc eX),.t (.slc e7),.t (.slc fz),.row 0,.i])],[.own 144 gW]⟩)] [(1,⟨[(8,.i)],[(0,[.i,.t (.slc cE),.t (.slc ez),.t (.slc dI),.t (.slc bJ),.t (.slc dj),.t (.slc ff),.t (.slc fX),.t (.slc eX),.t (.slc eX),.t (.slc e7),.t (.slc fz),.row 0,.i])],[.own 144 gW]⟩)]
def agU:=eA 436 (.p3 ei bd bd) (.p3 (.v ei) (.own 144 gW) .i) (kx Eg) func436 [H5,QI,Yi,QJ] [] [jA 25]
def NU:=jI 365 [⟨416,[.i,.v (.slc cE),.v (.slc ez),.v (.slc dI),.v (.slc bJ),.v (.slc dj),.v (.slc ff),.v (.slc fX),.v (.slc eX),.v (.slc eX),.v (.slc e7),.v (.slc fz),.row 144 gW,.i]⟩] [.ptr 0,.v (.slc bd),.v (.slc bd)] [⟨416,[.i,.v (.slc cE),.v (.slc ez),.v (.slc dI),.v (.slc bJ),.v (.slc dj),.v (.slc ff),.v (.slc fX),.v (.slc eX),.v (.slc eX),.v (.slc e7),.v (.slc fz),.row 144 gW,.i]⟩] .unit (λW x=>my W x.1 x.2.1 x.2.2.1 x.2.2.2.1 x.2.2.2.2.1 x.2.2.2.2.2.1 x.2.2.2.2.2.2.1 x.2.2.2.2.2.2.2.1 x.2.2.2.2.2.2.2.2.1 x.2.2.2.2.2.2.2.2.2.1 x.2.2.2.2.2.2.2.2.2.2.1 x.2.2.2.2.2.2.2.2.2.2.2.1 x.2.2.2.2.2.2.2.2.2.2.2.2.1 x.2.2.2.2.2.2.2.2.2.2.2.2.2.1 x.2.2.2.2.2.2.2.2.2.2.2.2.2.2.1 x.2.2.2.2.2.2.2.2.2.2.2.2.2.2.2.1) func365 [agU,zI] [(7,[0],oN [1,3,5,7,11,13,8,14,17,19,21,22])] [(8,⟨[],[(0,[.i,.t (.slc cE),.t (.slc ez),.t (.slc dI),.t (.slc bJ),.t (.slc dj),.t (.slc ff),.t (.slc fX),.t (.slc eX),.t (.slc eX),.t (.slc e7),.t (.slc fz),.row 0,.i])],[.own 144 gW]⟩)] [(1,⟨[(12,.i)],[(0,[.i,.t (.slc cE),.t (.slc ez),.t (.slc dI),.t (.slc bJ),.t (.slc dj),.t (.slc ff),.t (.slc fX),.t (.slc eX),.t (.slc eX),.t (.slc e7),.t (.slc fz),.row 0,.i])],[.own 144 gW]⟩),(4,⟨[(18,.i)],[(0,[.i,.t (.slc cE),.t (.slc ez),.t (.slc dI),.t (.slc bJ),.t (.slc dj),.t (.slc ff),.t (.slc fX),.t (.slc eX),.t (.slc eX),.t (.slc e7),.t (.slc fz),.row 0,.i])],[.own 144 gW]⟩)]
def agV:=eA 279 (.p2 ei (.int .i64)) (.p3 (.v ei) (.own 144 gW) .i) (dD E7) func279 [Fc,aaL,Vl,NT,NU,HX] [(9,[1],oX 8 [5]),(10,[1],oX 11 [8])]
def alv:=eA 366 (.p2 ei bd) (.v rW) (dD HC) func366 [mg,qb] [(1,[2],oN [1,3,5,7,13,15,17,8,11,18,21,22])]
def agW:=eA 437 (.p3 (.slc fz) bd (.slc dI)) (.p2 (.own 96 fz) .i) (kx EQ) func437 [Fg,DO] [] [vB 4 8]
def Vn:=eA 367 (.p2 ei rW) (.p2 (.v ei) .i) (dD tD) func367 [C7,agW] [] [(5,⟨[(6,.i)],[(0,a1h)],[.dead,.own 94 e7]⟩)]
def aeC:=eA 280 (.p2 ei (.int .i64)) (.p3 (.v ei) (.own 56 rW) .i) (dD BP) func280 [sd,AM,Fc,ov,alv,Vn] [(15,[0],oX 7 [3,4,5])] [(12,⟨[(7,.row 3),(29,.row 0),(36,.row 4)],[],[.own 99 bJ,.dead,.dead,.own 56 rW,.own 37 bd]⟩),(16,⟨[(7,.row 3),(29,.row 0),(36,.row 4)],[(0,E8)],[.own 99 bJ,.dead,.dead,.own 56 rW,.own 37 bd]⟩),jA 24] [(5,⟨[(7,.row 3),(29,.row 0),(31,.i)],[(0,E8)],[.own 99 bJ,.dead,.dead,.own 56 rW]⟩),(8,⟨[(7,.row 3),(29,.row 0),(36,.row 4),(38,.i)],[(0,E8)],[.own 99 bJ,.dead,.dead,.own 56 rW,.own 37 bd]⟩)]
def LN:=jI 179 [cG] [.ptr 0] [cG] .i (λW x=>nM W (pd x ())) func179 [jJ,Wp,wA,ae8,agV,aeC] [(3,[1],oN [3,5,7,9,11,0,12,15,17,19,20,23]),(8,[],oX 9 [6]),(10,[],tv [0,1,2,3,4,5] (.two 6 11 (oN [15,17,19,21,22,24,27,29]) (oN [12,15,17,19,21,24,27,29])))] [(4,⟨[(4,.i)],[(1,[.i,.i,.i,.i])],[]⟩),uU 6 4 u6,Gy 16 u6]
def GH:=jI 281 [cG] [.ptr 0] [cG] (.p2 (.own 2 (.int .i64)) .i) (λW x=>kH W (pd x ())) func281 [xR,qM] [(2,[],oN [1,3,5,7,9,11,13,15,17,19,25,20,23])] [] [(3,⟨[(4,.row 2),(17,.row 0),(19,.i)],[],[.own 106 bd,.dead,.own 2 (.int .i64)]⟩)]
def NV:=jI 282 [cG] [.ptr 0] [cG] (.p2 (.own 2 (.int .i64)) .i) (λW x=>pM W (pd x ())) func282 [HX,tV,qM,mg] [(1,[],tv [0,1,2,3,4] (.op 5 (tv [6,7,8,9,10,11] (.two 12 13 (oN [26,29,31,33]) (oN [24,29,31,33]))))),(5,[],oX 14 [10,11])] [(2,⟨[(4,.b)],[],[]⟩),jA 34]
def Jn:=jI 283 [cG] [.ptr 0] [cG] (.p2 (.own 2 (.int .i64)) .i) (λW x=>mV W (pd x ())) func283 [rY,Yh,wz,Cd] [(1,[],tv [0,1,2,3,4,5,6,7,8,9,10] (.two 11 15 (oN [25,27,29,30,32,35]) (oN [22,25,27,29,32,35]))),(5,[],oX 22 [16]),(7,[0],tv [0,2,3,4,5,6] (.two 1 7 (oN [14,16,19,21,23,25,27]) (oN [2,16,19,21,23,25,27])))] [(8,⟨[(8,.i),(9,.i)],[(0,u6)],[]⟩)]
def Wu:=eA 368 (.p2 FM (.slc bJ)) (.p2 (.own 94 e7) .i) (dD sG) func368 [FX,Cd] [] [(13,⟨[(6,.row 2),(20,.row 3)],[],[.dead,.dead,.own 94 e7,.own 37 bd]⟩)] [vC 3 6 2 15 [.dead,.dead,.own 94 e7],(6,⟨[(6,.row 2),(20,.row 3),(22,.i)],[],[.dead,.dead,.own 94 e7,.own 37 bd]⟩)]
def LQ:=jI 284 [cG] [.ptr 0] [cG] (.p2 (.own 2 (.int .i64)) .i) (λW x=>om W (pd x ())) func284 [wz,Wu] [(1,[0],tv [0,2,3,4,5] (.two 1 6 (oN [12,14,17,19,21,23,25]) (oN [2,14,17,19,21,23,25])))] [(2,⟨[(4,.row 0),(5,.i)],[(0,u6)],[.own 94 e7]⟩)] [(4,⟨[(6,.row 2),(20,.row 0),(22,.i)],[],[.own 94 e7,.dead,.own 2 (.int .i64)]⟩)]
def LR:=jI 285 [cG] [.ptr 0] [cG] (.p2 (.own 2 (.int .i64)) .i) (λW x=>og W (pd x ())) func285 [jJ,HW] [(4,[],oX 12 [6])]
def LU:=jI 180 [cG] [.ptr 0] [cG] (.p2 (.own 2 (.int .i64)) .i) (λW x=>oo W (pd x ())) func180 [GH,NV,Jn,LQ,LR] [] [jA 21]
def PA:=jI 95 [cG] [.ptr 0] [cG] .i (λW x=>qJ W (pd x ())) func95 [LU] [] [Gy 4 u6]
def aaO:=eA 42 (.p2 (.slc bJ) (.int .i64)) (.p2 (.v bJ) .b) (dD yL) func42 [] [] [] [vB 2 6]
def aeD:=eA 19 (.p3 ei bd (.int .i64)) .b (kx oP) func19 [aaO]
def H6:=jI 271 [cG] [.ptr 0,.i] [cG] (.own 3 (.int .i64)) (λW x=>lC W (pd x ()) x.2.2.2.2.2.2.2.2.2.2.2.2.2.2.2.2.2.2.2.2.2.2.2.2.2.2.2.2.2.2.1) func271 [Fc,ov,alu,akk,Zd] [(8,[],oX 10 [7,8])] [] [(3,⟨[(5,.row 3),(16,.row 0),(18,.i)],[],[.own 99 bJ,.dead,.dead,.own 3 (.int .i64)]⟩),(6,⟨[(5,.row 3),(16,.row 0),(23,.row 4),(25,.i)],[],[.own 99 bJ,.dead,.dead,.own 3 (.int .i64),.own 37 bd]⟩)]
def GI:=jI 175 [cG] [.ptr 0] [cG] .i (λW x=>kD W (pd x ())) func175 [jJ,aaB,wA,H6,C9] [(6,[1],oN [3,5,7,9,11,13,15,17,19,21,0,22,25,27,29,30,33])] [uU 9 4 u6,jA 26]
def NW:=jI 94 [cG] [.ptr 0] [cG] .i (λW x=>pz W (pd x ())) func94 [LM,H3,GI,NQ,FZ,NS,LN]
def PB:=jI 35 [cG] [.ptr 0] [cG] .i (λW x=>qH W (pd x ())) func35 [LB,LH,LL,NW,PA]
def Wv:=jI 31 [cG] [.i,.fns [.fn 1000033 [.ptr 0],.fn 1000034 [.ptr 0],.fn 1000035 [.ptr 0]]] [cG] .i (λW x=>vy W (pd x ()) x.2.2.2.2.2.2.2.2.2.2.2.2.2.2.2.2.2.2.2.2.2.2.2.2.2.2.2.2.2.2.1) func31 [Jj,HU,PB]
def JF:=eA 10 (.p2 ei j5) (.p2 (.v ei) (.v at0)) (dD nP) func10 [aer,Wv] [(5,[2,3],oX 10 [8,9])]
def Ww:=eA 18 .unit .b (λW x=>FA W) func18 [JF]
def KY:=eA 4 (.p1 (.slc j5)) .b (gg ri) func4 [V1,JF,aeD,Ww] [(12,[],oI 22)] [(11,⟨[(8,.b)],[],[]⟩),(14,⟨[(10,.b)],[],[]⟩),(20,⟨[],[],[]⟩),Gy 21 E8,jA 39,jA 105,jA 142,jA 166] [uU 3 4 E8,(10,⟨[(8,.b),(9,.i)],[],[]⟩)]
open Go.ChangeShapes Go.WideShapes Go.ChangeAt Go.Joins
theorem own:ownKnob Tryz.prog.godebug=none:=by kernel_rfl
theorem laidOut:laidOutB Tryz.prog=true:=by kernel_rfl
theorem abW{H:Type}{enc:TypeId×Value->H}{w:World}{spare:Nat->Bool}{held:Bool}{t:TypeId}{v:Value}{d:DataW H}{p:List MemPlace}(h:DataW.Trod enc Tryz.prog w 0 spare held t v d p):∀x∈p,x.block<w.heap.size:=by obtain⟨m,hm⟩:=h;exact DataW.trod_lt m _ _ _ hm
end Go.Proofs.YthghpahghjppjaaGreat
namespace Go.Vc
open Go
def F6(T:List (List Nat)):Nat->List Nat->List Nat->List Nat
 |0,_,seen=>seen.reverse
 |_,[],seen=>seen.reverse
 |n+1,f::todo,seen=>if seen.contains f then F6 T n todo seen else F6 T n ((T[f]?).getD []++todo) (f::seen)
theorem ahd{P:Program}{T:List (List Nat)}(hT:P.funcs.toList.map P.leadsTo=T)(f:Nat):(P.funcs[f]?).elim [] P.leadsTo=(T[f]?).getD []:=by subst hT;rw[kU,dt];cases P.funcs[f]?<;>rfl
theorem Dl{P:Program}{T:List (List Nat)}(hT:P.funcs.toList.map P.leadsTo=T):∀n todo seen,P.closureVia n todo seen=F6 T n todo seen
 |0,_,_=>by simp only[Program.closureVia,F6]
 |n+1,[],_=>by simp only[Program.closureVia,F6]
 |n+1,f::todo,seen=>by simp only[Program.closureVia,F6];rw[Dl hT n,Dl hT n,ahd hT f]
theorem AR{P:Program}{T:List (List Nat)}(hT:P.funcs.toList.map P.leadsTo=T)(f:Nat):P.closure f=F6 T (1+(T.map λl=>l.length+1).sum) [f] []:=by unfold Program.closure;rw[Dl hT];subst hT;rw[hJ];rfl
theorem Ic{T:List (List Nat)}{p:Nat->Prop}(hp:∀x,p x->∀y∈(T[x]?).getD [],p y):∀n todo seen,(∀x∈todo,p x)->(∀x∈seen,p x)->∀x∈F6 T n todo seen,p x
 |0,_,_,_,hs=>by intro x hx;simp only[F6]at hx;exact hs x (by simpa using hx)
 |n+1,[],_,_,hs=>by intro x hx;simp only[F6]at hx;exact hs x (by simpa using hx)
 |n+1,f::todo,seen,ht,hs=>by
  intro x hx;simp only[F6]at hx;split at hx
  .exact Ic hp n todo seen (λy hy=>ht y (by simp[hy])) hs x hx
  .refine Ic hp n _ _ (λy hy=>?_) (λy hy=>?_) x hx
   .rcases aT.1 hy with h|h
    .exact hp f (ht f (by simp)) y h
    .exact ht y (by simp[h])
   .rcases aF.1 hy with rfl|h
    .exact ht y (by simp)
    .exact hs y h
def auW(T:List (List Nat))(rk:List Nat):Bool:=(List.range T.length).all λg=>(rk[g]?).getD 0==0||((T[g]?).getD []).all λh=>decide (0<(rk[h]?).getD 0)&&decide ((rk[h]?).getD 0<(rk[g]?).getD 0)
theorem Yr{T:List (List Nat)}{rk:List Nat}(h:auW T rk=true){g y:Nat}(hg:0<(rk[g]?).getD 0)(hy:y∈(T[g]?).getD []):0<(rk[y]?).getD 0/\(rk[y]?).getD 0<(rk[g]?).getD 0:=by
 have hlt:g<T.length:=by
  rcases dS g T.length with h1|h1
  .exact h1
  .rw[bH h1]at hy;cases hy
 have:=mD.1 h g (Cg.2 hlt);simp only[fI,fP,mD,aB,bb]at this;rcases this with h0|h0
 .omega
 .exact h0 y hy
theorem aaU{P:Program}{T:List (List Nat)}{rk:List Nat}{f:Nat}(hT:P.funcs.toList.map P.leadsTo=T)(hk:auW T rk=true)(hf:0<(rk[f]?).getD 0)(hu:P.unfollowed f=false):P.recurses f=false:=by
 unfold Program.recurses;rw[hu,DQ,kS];intro g hg;rw[AR hT]at hg;have hg0:0<(rk[g]?).getD 0:=Ic (p:=λx=>0<(rk[x]?).getD 0) (λx hx y hy=>(Yr hk hx hy).1) _ _ _ (by intro x hx;simp only[aC]at hx;subst hx;exact hf) (by intro x hx;cases hx) g hg;simp only[xT,kS];intro h hh;rw[ahd hT]at hh;obtain⟨h1,h2⟩:=Yr hk hg0 hh;rw[AR hT];cases hc:(F6 T (1+(T.map λl=>l.length+1).sum) [h] []).contains g with
 |false=>rfl
 |true=>have hm:=List.contains_iff_mem.1 hc;have:=Ic (p:=λx=>0<(rk[x]?).getD 0/\(rk[x]?).getD 0<=(rk[h]?).getD 0) (λx hx y hy=>by have:=Yr hk hx.1 hy;exact⟨this.1,by omega⟩) _ _ _ (by intro x hx;simp only[aC]at hx;subst hx;exact⟨h1,au _⟩) (by intro x hx;cases hx) g hm;omega
end Go.Vc
namespace Go.Proofs.YthghpahghjppjaaGreat
open Go Go.Vc
def al6:List (List Nat):=[[],[],[1],[9,10,12,11,12,13,12,13,14,13,16,15,17,15,18],[9,10,19,19,18],[9,10,20,20,18],[9,10,21,22,23],[9,10,24,25,26,26,25,27,28,29,29,11,18],[9,10,30,23],[],[32,33,34,35,31],[37,36,38,39,36,39,36],[40,40,37],[41,11],[12,11],[13],[12,11],[14,11],[10,10,10],[42],[19,12,11,12,15],[43,44,45,46,45],[29,29,11,17,47,15,16,47,15],[21,45,48,12,15],[49,50,51],[52,53,54,55,56,57,58,59,59,60,61],[],[62,63,64,64,65,66,67,67,68],[69,70,71,72,73,74,74,75],[76,12,11],[77,78,80,82,81,79,84,83],[],[86,85,87],[88,89],[90],[91,92,93,94,95],[],[],[],[],[],[36],[],[96,96,79,84],[81,97],[98,81,79,81,99,100,99,84],[101,97],[12,11,12,13,12,13,14,13],[102],[],[],[103],[],[104],[],[105],[],[],[],[106],[],[103],[107,108,109,110,111,112,112,113],[112,114,112,112,114],[112,114,115],[116],[117,116],[112],[],[118],[119,120,121,122],[123,123,124],[123,125,126,127],[123,123,125,127,126],[123,125,128],[129,129,130,131,132],[],[98],[133,134,135],[],[137,136],[],[],[138],[97],[139,140,141,142,143,144],[145,146,142,147,148],[149],[150],[],[151,152,152,153,152,153,152,154,152,152],[155,156,157,158,159,160,161],[162,163,164,165,165,166,167],[168,169,170,171,172],[173,174,175,176,177,178,179],[180],[181,81,97],[182,183],[],[184,79],[81,101],[81,97],[12,40,11],[],[49],[],[],[],[185,185],[],[],[],[186],[116],[187],[188,116],[],[189,190],[],[],[191,191,192,193],[194],[88,195],[],[196],[197],[],[],[198,196],[123],[],[196],[199,196],[200],[202,203,201],[200,200],[77,81,79,84],[],[205,206,204],[207],[208,209,210,211],[140],[],[141,212,212,141,141,141,141,140,140,213],[214],[],[215,217,216],[146,218,218,146,146,146,146,146,146,146,146],[215,207],[],[220,219],[221],[133],[222],[223],[119,150,224],[120,225,227,226,229,230,228],[121,130,231,232,234,233],[160,89,235],[221,88,89,236,237],[88],[119,150,224],[238,239,240,241],[238,239,242],[222,238,243,240,241],[243,222,244],[238,239,245,246,247,248,250,249],[223,238,251,242],[225,191,229],[130,194,234],[252,253,255,254],[256,238,257,258,130,260,259],[238,257,261,221,262,264,263],[265,266,265,267],[238,268],[160,269,270,271,254],[272],[160,273,270,274],[275,266,276,241],[160,277,270,278,279,280],[281,282,283,284,285],[],[286,286],[287],[288,290,289,287],[],[291],[],[],[],[],[],[292],[],[],[293],[],[225,230],[],[294,295],[118,296],[297],[298],[],[],[299,299],[300,300],[],[],[211,211],[],[],[141,141],[141,214,140],[],[],[],[],[146],[],[],[301,298],[302],[303],[],[304,226],[],[],[305,306],[230],[307],[],[308],[309,310],[],[195,301,202,298,311],[195,312,293,314,313],[195,301,202,298],[275,266,89],[197],[239,315],[266,316],[317],[302,318],[303,319,320,321],[],[322,323,324],[246,325],[320,326],[327,131,328],[],[303,321],[131,329,328],[229],[165],[331,330],[],[],[328],[333,332,334],[],[82,258,260,335],[200,336],[337,338,339,333,82,340,319],[],[275,221],[133,88],[124,341,343,342,344],[345,124,346],[347],[161],[134,118,348,349,350],[351,353,352,354,82,249,355,341],[347],[356,357,358],[133],[359,197,360,361,358,358,249],[347],[357],[134,362,363,364,365,256,365],[131,132,134,118,366,367],[353,275],[256,250,275,82],[221,338,264,263],[264,368],[160,316],[],[],[290,369,369],[369,369],[],[],[],[],[],[308,308,204],[370],[],[314],[],[],[],[372,371],[374,373],[],[],[375],[],[376,376],[],[377],[378,379],[380,381,381],[382,383],[],[384,385,360,354,249],[387,386],[],[],[81,97,388],[],[326],[389,390,391,392,97],[288,393,290,286,290,289],[81],[392,324],[],[81,81,394,388],[131,395,396,397,319],[128,398],[],[],[399,400,295,402,401,319,402],[402],[132,403],[333,404,334],[],[128,131,132],[128,405,296,339,406,407],[405,296,118],[408,409,319],[346,411,410],[],[196],[412,413],[414,342],[],[119],[415,330],[417,416],[],[418,419,420],[421,422,181,319],[423],[128,361,358,358],[132,333,333,403,403],[128,128],[134,425,424],[128,353,352,426,427,428,429],[197,356,131,353,181,430,431],[120,191,191,392,432,324],[422,327],[118,118],[434,433],[118,435,433],[436,433],[82,333],[328,437],[405,263],[],[],[],[],[],[],[438,438,438],[],[439,439,439],[],[440],[376,376],[],[],[441],[128,131],[120],[128,353,442,319],[134,118],[324],[443],[320],[327],[81,81,288,288,444,290,290,289],[445],[182,182,81,182,183],[446],[447,448],[],[198,449,97,324],[199,294],[],[450,451],[],[402,196,402],[399,400,295,402,452],[336,118],[128,353,352],[453,454,324],[199,130],[455,121,456],[342],[],[],[457],[],[],[458,459,460,461,462,463,380,464,465,416,416],[466,467],[468,88,469],[470],[468,88,89,471,386,316,472],[473],[198],[],[297],[200],[196],[423],[],[474,475],[],[221,200,88,89],[288,81,288,444,444,286,290,289,287],[],[476,477,476],[478,476,478,479,480,481,481,482],[476,483,480,482],[199,334],[],[],[484,484,484],[485,485,485],[422,391,319],[],[],[467],[],[417,486],[196,196],[197,392,432],[],[487],[],[488],[138],[121,325],[392,323,388],[489,489,489],[380],[490,490],[491,492],[493,493,493,494],[],[380,380,380],[380,380],[380,380,380,380],[],[],[221,200],[495],[345],[353,82,333],[496,319],[],[],[497],[82,391],[131,132,250,333,82,327,498],[319],[483,82],[],[499,319,500],[477,249],[333,501,82,319],[],[],[502,503,504,505,506,507,508,509,486,486],[510,510,510],[198,197,511,97,184],[],[380,380],[417],[],[494],[512,512,512],[],[],[513,513,513],[130,514,455,250,515,250,249],[496],[499,319,516,517,518],[408,455,319],[],[519,519],[491,492],[520,520,520,521],[],[],[],[],[],[120,325,392],[380],[],[121,522],[132,335,259],[456],[417,523],[205,308,204],[],[521],[524,524,524],[392,323,81,97,388],[525,526,527,528,529,530,531,532,523,523],[],[],[533,533],[491,492],[534,534,534,535],[],[],[],[],[],[535],[536,536,536],[],[],[],[],[],[],[],[],[],[],[],[],[],[],[],[],[],[],[],[]]
def ax4:List Nat:=[1,1,2,0,0,0,0,0,0,1,0,2,2,3,3,4,3,4,0,2,5,7,5,8,3,4,1,5,7,3,7,1,8,4,7,0,1,1,1,1,1,2,1,5,4,6,5,4,4,1,1,2,1,3,1,2,1,1,1,2,1,2,4,4,4,2,3,4,1,2,5,3,5,5,5,6,1,2,5,1,6,1,1,4,4,7,5,2,3,1,6,7,0,0,0,14,4,3,1,4,5,4,3,1,2,1,1,1,2,1,1,1,3,2,2,2,1,2,1,1,3,2,4,1,2,4,1,1,2,2,1,2,5,4,4,4,5,1,3,2,3,4,1,6,2,1,2,4,2,1,2,4,5,4,4,3,5,5,6,6,4,3,0,7,0,6,0,7,4,2,0,0,0,7,7,0,0,8,0,0,13,1,2,2,3,1,2,1,1,1,1,1,2,1,1,2,1,3,1,4,3,2,3,1,1,2,2,1,1,2,1,1,5,5,1,1,1,1,3,1,1,3,3,3,1,2,1,1,4,3,2,1,3,4,1,5,5,4,6,4,0,9,2,3,5,1,7,8,2,0,1,3,0,4,7,2,1,1,0,7,1,0,4,10,1,6,5,5,3,3,4,0,0,3,7,5,0,3,6,0,0,6,6,11,12,9,1,1,2,2,1,1,1,1,1,3,2,1,2,1,1,1,2,2,1,1,3,1,2,1,3,4,3,4,1,0,8,1,1,4,1,2,6,4,2,4,1,4,0,6,1,1,6,2,6,7,1,6,9,3,7,3,1,2,4,2,1,2,2,0,1,10,5,2,7,6,3,5,6,5,4,5,2,0,0,0,3,0,11,1,1,1,1,1,1,2,1,2,1,3,2,1,1,3,3,4,7,5,3,2,2,5,3,3,3,2,0,1,5,5,1,4,1,2,6,2,6,8,5,6,2,1,1,3,1,1,0,2,5,4,9,2,2,1,2,4,2,2,1,4,1,4,3,1,0,0,0,7,1,1,2,2,6,1,1,2,1,0,2,4,1,3,1,7,4,5,5,2,3,4,4,6,1,3,3,3,1,1,4,2,3,3,5,1,1,3,6,0,5,8,1,0,0,7,1,1,0,2,6,1,3,3,1,5,4,1,1,2,0,2,0,6,1,2,4,4,1,1,1,1,1,5,3,1,6,8,6,0,3,1,3,2,5,0,1,1,2,4,4,1,1,1,1,1,3,2,1,1,1,1,1,1,1,1,1,1,1,1,1,1,1,1,1,1,1,1]
set_option maxRecDepth 1000000 in
theorem L6:Tryz.prog.funcs.toList.map Tryz.prog.leadsTo=al6:=by kernel_rfl
set_option maxRecDepth 1000000 in
theorem aq4:auW al6 ax4=true:=by kernel_rfl
end Go.Proofs.YthghpahghjppjaaGreat